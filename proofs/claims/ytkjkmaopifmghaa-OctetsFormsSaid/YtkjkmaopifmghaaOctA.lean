/- Reader.Text where it reads; awake. -/
import Derived.Test.YtkjkmaopifmghaaOctU
namespace Go.Proofs.Ytkjkmaopifmghaa.Oct
open Go.RowKit Go.Proofs.YtkjkmaopifmghaaW.PrintWords Go.Proofs.YtkjkmaopifmghaaW.PrintLast Go.Proofs.YtkjkmaopifmghaaW.PrintMore Go.Proofs.Ytkjkmaopifmghaa.OctShort
set_option linter.unusedVariables false
set_option linter.unusedSimpArgs false
variable {S : Nat → Prop}
set_option maxHeartbeats 400000 in
set_option maxRecDepth 100000 in
theorem Reader_Text_ok (k : Nat) (w : World) (g : Nat) (l : List Int) (most x n : Int) (h : RdAt w g S l 0) (hl : l.length ≤ 140737488355328) (hs : octets_short.f k l = some (x, n, 0)) (h0 : 0 ≤ n) (hx0 : 0 ≤ x) (hx : x ≤ most) (hm : most < 9223372036854775808) (hn : n + x ≤ (l.length : Int)) :
    Calls Try.prog 42 #[.pointer (some ⟨g, 0, none⟩), .int .i64 most] w fun r w' => r = .returned (.string (strOfNums ((l.drop n.toNat).take x.toNat))) ∧ RdAt w' g S (l.drop (n + x).toNat) 0 ∧ Fr w w' (fun k => k = g) := by
  obtain ⟨A, c, h⟩ := h
  have H := Aside0.mk h
  obtain ⟨h1, h2, h3, h4⟩ := h
  obtain ⟨⟨hc0, hf0⟩, hc1, hf1⟩ := blk_two h1
  obtain ⟨B, d, hcut, hd⟩ := H.out.cut (n + x) (by omega) (by omega)
  obtain ⟨i, hi, _, hsz, _⟩ := info_parts info5
  have hmid := cut_mid (P := Try.prog) 22 5 .i64 .i64 Try.underlying22 hi 1 hsz A l.length c n (n + x) h0 (by omega) (by omega) h2
  have hrd := ReadsInt.take_ (ReadsInt.drop_ (k := .u8) (Kd.reads_of_C (d := (0 : Int)) h3) n.toNat (by omega) h2) x.toNat (by omega)
  have e1 : (n + x).toNat - n.toNat = x.toNat := by omega
  rw [Nat.mul_one, e1] at hmid
  generalize hM : (if c = n.toNat then A else A.map (·.add n.toNat)) = M at hmid hrd
  have hcv : ∀ m, (convert 22 9 (.slice M x.toNat (c - n.toNat))).run Try.prog (w.drewN m) = .ok (.string (strOfNums ((l.drop n.toNat).take x.toNat))) (w.drewN m) := fun m => Kd.C_string Try.underlying22 Try.underlying5 Try.underlying9 (Kd.C_of_reads (enc := Value.int .u8) (d := (0:Int)) (h1 := fun _ => rfl) (hrd.drewN m))
  have HB := Aside0.mk hd
  have HS := Aside0.mk hs
  have h3' := Aside0.mk h3
  have h2' := Aside0.mk h2
  have w1 : IntKind.u64.wrap most = most := by
    show most % 18446744073709551616 = most
    omega
  have w2 : wrap64 x = x := (by unfold wrap64; omega)
  have w3 : wrap64 (n + x) = n + x := (by unfold wrap64; omega)
  have w4 : wrap64 ((l.length : Int) - n) = (l.length : Int) - n := (by unfold wrap64; omega)
  have w5 : IntKind.u64.wrap ((l.length : Int) - n) = (l.length : Int) - n := by
    show ((l.length : Int) - n) % 18446744073709551616 = _
    omega
  have d1 : decide (most < 0) = false := decide_eq_false (by omega)
  have d2 : decide (most < x) = false := decide_eq_false (by omega)
  have d3 : decide ((l.length : Int) - n < x) = false := decide_eq_false (by omega)
  generalize hm : l.length = m at *
  have HM := Aside0.mk hm
  clear h1 h3 h4 hd hs hm h2 hrd e1 hi h0 hx0 hx hn hl
  go_enter Try.func42, Try.ntmps42
  go_wp2_with (first | (go_at_call 57; go_loud (refine (Reader_ask_ok w g A c l 0 H.out (by omega) (by omega)).mono ?_); rintro e w1 ⟨rfl, rfl⟩) | (go_at_call 58; (have hsc := octets_short.calls k A c l x n 0 w1 (by rw [HM.out]; exact h3'.out) (by rw [HM.out]; exact h2'.out) HS.out); rw [HM.out] at hsc; go_loud (refine hsc.mono ?_); (rintro e1 w2 ⟨rfl, ⟨m2, rfl⟩⟩); clear hsc))
  go_ret
  have hf := (RdV.set_row (w := w1.drewN m2) H.out HB.out.1 HB.out.2.1 HB.out.2.2)
  rw [List.length_drop] at hf
  exact ⟨rfl, ⟨B, d, hf⟩, (Fr.drewN w1 m2 _).then_ (Fr.set 0 _) (fun _ => .inl)⟩
end Go.Proofs.Ytkjkmaopifmghaa.Oct
