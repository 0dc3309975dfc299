/- Reader.Text in any state (plain walk). -/
import Derived.Test.YtkjkmaopifmghaaOctM
namespace Go.Proofs.Ytkjkmaopifmghaa.Oct
open Go.RowKit Go.Proofs.YtkjkmaopifmghaaW.PrintWords Go.Proofs.YtkjkmaopifmghaaW.PrintLast Go.Proofs.YtkjkmaopifmghaaW.PrintMore Go.Proofs.Ytkjkmaopifmghaa.OctShort
set_option linter.unusedVariables false
set_option linter.unusedSimpArgs false
variable {S : Nat → Prop}
set_option maxRecDepth 100000
def mText (most : Int) (q : Int × Int × Int) (l : List Int) (e : Int) : ByteArray × List Int × Int :=
  if e ≠ 0 then (.empty, l, e) else if most < 0 then (.empty, l, 2) else if q.2.2 ≠ 0 then (.empty, l, q.2.2) else if q.1 > most then (.empty, l, 3) else if q.1 > (l.length : Int) - q.2.1 then (.empty, l, 20)
  else (strOfNums ((l.drop q.2.1.toNat).take q.1.toNat), l.drop (q.2.1 + q.1).toNat, 0)
theorem Reader_Text_no (k : Nat) (w : World) (g : Nat) (l : List Int) (most x n s : Int) (h : RdAt w g S l 0) (hl : l.length ≤ 140737488355328) (hs : octets_short.f k l = some (x, n, s)) (h0 : 0 ≤ n) (hn : n ≤ (l.length : Int)) (hx0 : 0 ≤ x) (hm0 : 0 ≤ most) (hm : most < 9223372036854775808) (r : Int) (hr : (s ≠ 0 ∧ r = s) ∨ (s = 0 ∧ x > most ∧ r = 3) ∨ (s = 0 ∧ x ≤ most ∧ x > (l.length : Int) - n ∧ r = 20)) :
    Calls Try.prog 42 #[.pointer (some ⟨g, 0, none⟩), .int .i64 most] w fun e w' => e = .returned (.string .empty) ∧ RdAt w' g S l r ∧ Fr w w' (fun k => k = g) := by
  obtain ⟨A, c, h⟩ := h
  have H := Aside0.mk h
  obtain ⟨h1, h2, h3, h4⟩ := h
  obtain ⟨⟨hc0, hf0⟩, hc1, hf1⟩ := blk_two h1
  have HS := Aside0.mk hs
  have h3' := Aside0.mk h3
  have h2' := Aside0.mk h2
  have w1 : IntKind.u64.wrap most = most := by
    show most % 18446744073709551616 = most
    omega
  have w4 : wrap64 ((l.length : Int) - n) = (l.length : Int) - n := (by unfold wrap64; omega)
  have w5 : IntKind.u64.wrap ((l.length : Int) - n) = (l.length : Int) - n := by
    show ((l.length : Int) - n) % 18446744073709551616 = _
    omega
  have d1 : decide (most < 0) = false := decide_eq_false (by omega)
  generalize hml : l.length = m at *
  have HM := Aside0.mk hml
  rcases hr with ⟨hs0, rfl⟩ | ⟨rfl, hx, rfl⟩ | ⟨rfl, hxm, hx, rfl⟩
  · clear h1 h3 h4 hs hml h2 h0 hx0 hn hl w4 w5 hm0 hm
    go_enter Try.func42, Try.ntmps42
    go_wp2_with (first | (go_at_call 57; go_loud (refine (Reader_ask_ok w g A c l 0 H.out (by omega) (by omega)).mono ?_); rintro e w1 ⟨rfl, rfl⟩) | (go_at_call 58; (have hsc := octets_short.calls k A c l x n r w1 (by rw [HM.out]; exact h3'.out) (by rw [HM.out]; exact h2'.out) HS.out); rw [HM.out] at hsc; go_loud (refine hsc.mono ?_); (rintro e1 w2 ⟨rfl, ⟨m2, rfl⟩⟩); clear hsc))
    all_goals go_ret
    all_goals exact ⟨rfl, ⟨A, c, RdV.set_err (w := w1.drewN m2) H.out _⟩, (Fr.drewN w1 m2 _).then_ (Fr.set 1 _) (fun _ => .inl)⟩
  · have d2 : decide (most < x) = true := decide_eq_true (by omega)
    clear h1 h3 h4 hs hml h2 h0 hx0 hn hl w4 w5 hm0 hm hx
    go_enter Try.func42, Try.ntmps42
    go_wp2_with (first | (go_at_call 57; go_loud (refine (Reader_ask_ok w g A c l 0 H.out (by omega) (by omega)).mono ?_); rintro e w1 ⟨rfl, rfl⟩) | (go_at_call 58; (have hsc := octets_short.calls k A c l x n 0 w1 (by rw [HM.out]; exact h3'.out) (by rw [HM.out]; exact h2'.out) HS.out); rw [HM.out] at hsc; go_loud (refine hsc.mono ?_); (rintro e1 w2 ⟨rfl, ⟨m2, rfl⟩⟩); clear hsc))
    all_goals go_ret
    all_goals exact ⟨rfl, ⟨A, c, RdV.set_err (w := w1.drewN m2) H.out _⟩, (Fr.drewN w1 m2 _).then_ (Fr.set 1 _) (fun _ => .inl)⟩
  · have d2 : decide (most < x) = false := decide_eq_false (by omega)
    have d3 : decide ((m : Int) - n < x) = true := decide_eq_true (by omega)
    clear h1 h3 h4 hs hml h2 h0 hx0 hn hl hm0 hm hx hxm
    go_enter Try.func42, Try.ntmps42
    go_wp2_with (first | (go_at_call 57; go_loud (refine (Reader_ask_ok w g A c l 0 H.out (by omega) (by omega)).mono ?_); rintro e w1 ⟨rfl, rfl⟩) | (go_at_call 58; (have hsc := octets_short.calls k A c l x n 0 w1 (by rw [HM.out]; exact h3'.out) (by rw [HM.out]; exact h2'.out) HS.out); rw [HM.out] at hsc; go_loud (refine hsc.mono ?_); (rintro e1 w2 ⟨rfl, ⟨m2, rfl⟩⟩); clear hsc))
    all_goals go_ret
    all_goals exact ⟨rfl, ⟨A, c, RdV.set_err (w := w1.drewN m2) H.out _⟩, (Fr.drewN w1 m2 _).then_ (Fr.set 1 _) (fun _ => .inl)⟩
theorem Reader_Text (k : Nat) (w : World) (g : Nat) (l : List Int) (e most : Int) (q : Int × Int × Int) (h : RdAt w g S l e) (hl : l.length ≤ 140737488355328) (hs : octets_short.f k l = some q) (h0 : 0 ≤ q.2.1) (hn : q.2.1 ≤ (l.length : Int)) (hx0 : 0 ≤ q.1) (hm : most < 9223372036854775808) :
    Calls Try.prog 42 #[.pointer (some ⟨g, 0, none⟩), .int .i64 most] w fun r w' => r = .returned (.string (mText most q l e).1) ∧ RdAt w' g S (mText most q l e).2.1 (mText most q l e).2.2 ∧ Fr w w' (fun k => k = g) := by
  obtain ⟨x, n, s⟩ := q
  by_cases he : e = 0
  · subst he
    by_cases hm0 : most < 0
    · have E : mText most (x, n, s) l 0 = (.empty, l, 2) := by unfold mText; rw [if_neg (by simp), if_pos hm0]
      rw [E]
      obtain ⟨A, c, h⟩ := h
      have H := Aside0.mk h
      obtain ⟨⟨hc0, hf0⟩, hc1, hf1⟩ := blk_two h.1
      clear h E hl hs h0 hn hx0 hm
      go_enter Try.func42, Try.ntmps42
      go_wp2_with (go_at_call 57; go_loud (refine (Reader_ask_ok w g A c l 0 H.out (by omega) (by omega)).mono ?_); rintro e w1 ⟨rfl, rfl⟩)
      go_ret
      exact ⟨rfl, ⟨A, c, H.out.set_err 2⟩, Fr.set 1 _⟩
    · by_cases hs0 : s = 0
      · subst hs0
        by_cases hxm : x > most
        · have E : mText most (x, n, 0) l 0 = (.empty, l, 3) := by unfold mText; rw [if_neg (by simp), if_neg hm0, if_neg (by simp), if_pos hxm]
          rw [E]
          exact Reader_Text_no k w g l most x n 0 h hl hs h0 hn hx0 (by omega) hm 3 (.inr (.inl ⟨rfl, hxm, rfl⟩))
        · by_cases hxl : x > (l.length : Int) - n
          · have E : mText most (x, n, 0) l 0 = (.empty, l, 20) := by unfold mText; rw [if_neg (by simp), if_neg hm0, if_neg (by simp), if_neg hxm, if_pos hxl]
            rw [E]
            exact Reader_Text_no k w g l most x n 0 h hl hs h0 hn hx0 (by omega) hm 20 (.inr (.inr ⟨rfl, by omega, hxl, rfl⟩))
          · have E : mText most (x, n, 0) l 0 = (strOfNums ((l.drop n.toNat).take x.toNat), l.drop (n + x).toNat, 0) := by unfold mText; rw [if_neg (by simp), if_neg hm0, if_neg (by simp), if_neg hxm, if_neg hxl]
            rw [E]
            simp only [] at h0 hn hx0
            exact Reader_Text_ok k w g l most x n h hl hs h0 hx0 (by omega) hm (by omega)
      · have E : mText most (x, n, s) l 0 = (.empty, l, s) := by unfold mText; rw [if_neg (by simp), if_neg hm0, if_pos hs0]
        rw [E]
        exact Reader_Text_no k w g l most x n s h hl hs h0 hn hx0 (by omega) hm s (.inl ⟨hs0, rfl⟩)
  · have E : mText most (x, n, s) l e = (.empty, l, e) := by unfold mText; rw [if_pos he]
    rw [E]
    have H := Aside0.mk h
    have HE := Aside0.mk he
    clear h he E hl hs h0 hn hx0 hm
    go_enter Try.func42, Try.ntmps42
    go_wp2_with (go_at_call 57; go_loud (refine (Reader_ask_err w g l e 0 H.out HE.out).mono ?_); rintro e1 w1 ⟨rfl, rfl⟩)
    go_ret
    exact ⟨rfl, H.out, Fr.refl _ _⟩
end Go.Proofs.Ytkjkmaopifmghaa.Oct
