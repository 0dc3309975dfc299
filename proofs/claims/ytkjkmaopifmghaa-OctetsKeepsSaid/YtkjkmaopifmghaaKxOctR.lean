/- Writers and Readers: contracts of their methods (plain walks). -/
import Derived.Test.YtkjkmaopifmghaaKxOctW
import Derived.Test.YtkjkmaopifmghaaOctShortx1
namespace Go.Proofs.Ytkjkmaopifmghaa.Oct
open Go.RowKit Go.Proofs.YtkjkmaopifmghaaW.PrintWords Go.Proofs.YtkjkmaopifmghaaW.PrintLast Go.Proofs.YtkjkmaopifmghaaW.PrintMore
set_option linter.unusedVariables false
set_option linter.unusedSimpArgs false
variable {S : Nat → Prop}
/-- A Reader at block g, with the bytes l left (their block is not g) and the error e. -/
def RdV (w : World) (g : Nat) (S : Nat → Prop) (A : Option Addr) (c : Nat) (l : List Int) (e : Int) : Prop :=
  w.heap[g]? = some (.cells #[.slice A l.length c, .int .i64 e] 94 (0, 0)) ∧ l.length ≤ c ∧ U8.C w A l.length l ∧ S g ∧ ∀ ad, A = some ad → ad.block ≠ g ∧ S ad.block
/-- A Reader whose own block and whose bytes' block lie in S. -/
def RdAt (w : World) (g : Nat) (S : Nat → Prop) (l : List Int) (e : Int) : Prop := ∃ A c, RdV w g S A c l e
theorem block_addO (a : Addr) (i : Nat) : (a.add i).block = a.block := by unfold Addr.add; split <;> rfl
theorem C_move {w w' : World} {A : Option Addr} {n : Nat} {l : List Int} (h : U8.C w A n l) (hm : ∀ ad, A = some ad → w'.heap[ad.block]? = w.heap[ad.block]?) : U8.C w' A n l := by
  obtain ⟨h1, h2, h3⟩ := Kd.reads_of_C (d := (0 : Int)) h
  refine Kd.C_of_reads (enc := Value.int .u8) (d := (0 : Int)) ⟨h1, h2, fun hn => ?_⟩
  obtain ⟨ad, rfl, hc⟩ := h3 hn
  refine ⟨ad, rfl, fun j hj => ?_⟩
  rw [World.cell?_of_block (w := w) (w' := w') (by rw [block_addO]; exact hm ad rfl)]
  exact hc j hj
theorem blk_two {w : World} {g : Nat} {v u : Value} {T : Nat} (h : w.heap[g]? = some (.cells #[v, u] T (0, 0))) : (w.cell? ⟨g, 0, none⟩ = some v ∧ w.frozen? ⟨g, 0, none⟩ = false) ∧ w.cell? ⟨g, 1, none⟩ = some u ∧ w.frozen? ⟨g, 1, none⟩ = false := by
  refine ⟨⟨?_, ?_⟩, ?_, ?_⟩
  · simp [World.cell?, h]
  · simp [World.frozen?, h]
  · simp [World.cell?, h]
  · simp [World.frozen?, h]
theorem set_fst {w : World} {g : Nat} {v u x : Value} {T : Nat} (h : w.heap[g]? = some (.cells #[v, u] T (0, 0))) : (w.setCell ⟨g, 0, none⟩ x).heap[g]? = some (.cells #[x, u] T (0, 0)) := by
  have hlt := blk_lt h
  simp only [World.setCell, h]
  rw [Array.getElem?_modify]
  simp [h]
theorem set_snd {w : World} {g : Nat} {v u x : Value} {T : Nat} (h : w.heap[g]? = some (.cells #[v, u] T (0, 0))) : (w.setCell ⟨g, 1, none⟩ x).heap[g]? = some (.cells #[v, x] T (0, 0)) := by
  have hlt := blk_lt h
  simp only [World.setCell, h]
  rw [Array.getElem?_modify]
  simp [h]
theorem Fr.set {w : World} {g : Nat} (i : Nat) (u : Value) : Fr w (w.setCell ⟨g, i, none⟩ u) (fun k => k = g) := ⟨below_setCell0 (Below.refl _ _), Kept.setCell (S := fun k => k = g) (Kept.refl _ _) (p := (⟨g, i, none⟩ : Addr)) (.inl rfl) _⟩
theorem RdV.set_err {w : World} {g : Nat} {A : Option Addr} {c : Nat} {l : List Int} {e : Int} (h : RdV w g S A c l e) (x : Int) : RdV (w.setCell ⟨g, 1, none⟩ (.int .i64 x)) g S A c l x := by
  obtain ⟨h1, h2, h3, h4⟩ := h
  exact ⟨set_snd h1, h2, C_move h3 (fun ad he => Below.heap_setCell w ⟨g, 1, none⟩ _ ad.block (h4.2 ad he).1), h4⟩
theorem RdV.set_row {w : World} {g : Nat} {A B : Option Addr} {c d : Nat} {l m : List Int} {e : Int} (h : RdV w g S A c l e) (hd : m.length ≤ d) (hm : U8.C w B m.length m) (hB : ∀ ad, B = some ad → ad.block ≠ g ∧ S ad.block) : RdV (w.setCell ⟨g, 0, none⟩ (.slice B m.length d)) g S B d m e := by
  obtain ⟨h1, h2, h3, h4⟩ := h
  exact ⟨set_fst h1, hd, C_move hm (fun ad he => Below.heap_setCell w ⟨g, 0, none⟩ _ ad.block (hB ad he).1), h4.1, hB⟩
/-- The row behind the first j bytes. -/
theorem RdV.drop {w : World} {g : Nat} {A : Option Addr} {c : Nat} {l : List Int} {e : Int} (h : RdV w g S A c l e) (j : Nat) (hj : j ≤ l.length) :
    (l.drop j).length ≤ c - j ∧ U8.C w (if c = j then A else A.map (·.add j)) (l.drop j).length (l.drop j) ∧ ∀ ad, (if c = j then A else A.map (·.add j)) = some ad → ad.block ≠ g ∧ S ad.block := by
  obtain ⟨h1, h2, h3, h4⟩ := h
  refine ⟨by rw [List.length_drop]; omega, ?_, ?_⟩
  · have := ReadsInt.drop_ (k := .u8) (Kd.reads_of_C (d := (0 : Int)) h3) j hj h2
    rw [List.length_drop]
    exact Kd.C_of_reads (enc := Value.int .u8) (d := (0 : Int)) this
  · intro ad he
    split at he
    · exact h4.2 ad he
    · rcases A with _ | a
      · cases he
      · obtain rfl := Option.some.inj he
        rw [block_addO]
        exact h4.2 a rfl
set_option maxHeartbeats 400000 in
set_option maxRecDepth 100000 in
theorem Reader_ask_ok (w : World) (g : Nat) (A : Option Addr) (c : Nat) (l : List Int) (n : Int) (h : RdV w g S A c l 0) (h0 : 0 ≤ n) (hn : n ≤ (l.length : Int)) :
    Calls Try.prog 57 #[.pointer (some ⟨g, 0, none⟩), .int .i64 n] w fun e w' => e = .returned (.tuple #[.slice A n.toNat c, .bool true]) ∧ w' = w := by
  obtain ⟨h1, h2, h3, h4⟩ := h
  obtain ⟨⟨hc0, hf0⟩, hc1, hf1⟩ := blk_two h1
  obtain ⟨i, hi, _, hsz, _⟩ := info_parts info5
  have hcut := cut_to (P := Try.prog) 22 5 .i64 Try.underlying22 hi A l.length c n h0 hn h2
  have hcmp : decide ((l.length : Int) < n) = false := decide_eq_false (by omega)
  clear h1 h2 h3 h4
  go_enter Try.func57, Try.ntmps57
  go_wp2
  go_ret2
  exact ⟨rfl, rfl⟩
theorem far_cell {w : World} {g : Nat} {ad : Addr} {v : Value} (h : w.cell? ad = some v) (hne : ad.block ≠ g) (i : Nat) (u : Value) : (w.setCell ⟨g, i, none⟩ u).cell? ad = some v := (World.cell?_of_block (Below.heap_setCell w ⟨g, i, none⟩ u _ hne)).trans h
theorem add_zero_ (a : Addr) : a.add 0 = a := rfl
/-- The cut behind the first j bytes, as one row B. -/
theorem RdV.cut {w : World} {g : Nat} {A : Option Addr} {c : Nat} {l : List Int} {e : Int} (h : RdV w g S A c l e) (j : Int) (h0 : 0 ≤ j) (hj : j ≤ l.length) :
    ∃ B d, (∀ W : World, (Instr.slice 22 (.slice A l.length c) (some (.int .i64 j)) none none).run Try.prog W = .ok (.slice B (l.drop j.toNat).length d) W) ∧ (l.drop j.toNat).length ≤ d ∧ U8.C w B (l.drop j.toNat).length (l.drop j.toNat) ∧ ∀ ad, B = some ad → ad.block ≠ g ∧ S ad.block := by
  obtain ⟨i, hi, _, hsz, _⟩ := info_parts info5
  have hcut := cut_from (P := Try.prog) 22 5 .i64 Try.underlying22 hi 1 hsz A l.length c j h0 hj
  obtain ⟨h1, h2, h3⟩ := h.drop j.toNat (by omega)
  rw [Nat.mul_one] at hcut
  rw [← List.length_drop] at hcut
  exact ⟨_, _, hcut, h1, h2, h3⟩
set_option maxHeartbeats 400000 in
set_option maxRecDepth 100000 in
theorem Reader_Byte_ok (w : World) (g : Nat) (x : Int) (l : List Int) (h : RdAt w g S (x :: l) 0) :
    Calls Try.prog 41 #[.pointer (some ⟨g, 0, none⟩)] w fun e w' => e = .returned (.int .u8 x) ∧ RdAt w' g S l 0 ∧ Fr w w' (fun k => k = g) := by
  obtain ⟨A, c, h⟩ := h
  have H := Aside0.mk h
  obtain ⟨h1, h2, h3, h4⟩ := h
  obtain ⟨⟨hc0, hf0⟩, hc1, hf1⟩ := blk_two h1
  have hl : (1 : Int) ≤ ((x :: l).length : Int) := by simp only [List.length_cons]; omega
  obtain ⟨ad, rfl, hx⟩ := Kd.at_int h3 0 (by omega) (by omega)
  have hne := (h4.2 ad rfl).1
  have hx1 : w.cell? ad = some (.int .u8 x) := hx
  have hx2 := far_cell hx1 hne 0
  obtain ⟨B, d, hcut, hd1, hd2, hd3⟩ := H.out.cut 1 (by omega) hl
  have e1 : (x :: l).drop (1 : Int).toNat = l := rfl
  rw [e1] at hd1 hd2 hcut
  have HB := Aside0.mk (And.intro hd1 (And.intro hd2 hd3))
  generalize hn : (x :: l).length = n at *
  have HN := Aside0.mk hn
  clear h1 h2 h3 h4 e1 hx hd1 hd2 hd3 hne
  clear hn
  go_enter Try.func41, Try.ntmps41
  go_wp2_with (go_at_call 57; go_loud (refine (Reader_ask_ok w g (some ad) c (x :: l) 1 H.out (by omega) (by have := HN.out; omega)).mono ?_); rintro e w1 ⟨rfl, rfl⟩)
  go_ret
  exact ⟨rfl, ⟨B, d, H.out.set_row HB.out.1 HB.out.2.1 HB.out.2.2⟩, Fr.set _ _⟩
end Go.Proofs.Ytkjkmaopifmghaa.Oct
namespace Go.Proofs.Ytkjkmaopifmghaa.Oct
open Go.RowKit Go.Proofs.YtkjkmaopifmghaaW.PrintWords Go.Proofs.YtkjkmaopifmghaaW.PrintLast Go.Proofs.YtkjkmaopifmghaaW.PrintMore Go.Proofs.Ytkjkmaopifmghaa.OctShort
set_option linter.unusedVariables false
set_option linter.unusedSimpArgs false
variable {S : Nat → Prop}
theorem Fr.drewN (w : World) (m : Nat) (S : Nat → Prop) : Fr w (w.drewN m) S := Fr.of_below (w := w) (w' := w.drewN m) ⟨rfl, rfl, rfl, Nat.le_refl _, fun _ _ => rfl⟩ S
set_option maxHeartbeats 400000 in
set_option maxRecDepth 100000 in
theorem Reader_Uint_ok (k : Nat) (w : World) (g : Nat) (l : List Int) (x n e : Int) (h : RdAt w g S l 0) (hs : octets_short.f k l = some (x, n, e)) (h0 : 0 ≤ n) (hn : n ≤ (l.length : Int)) :
    Calls Try.prog 31 #[.pointer (some ⟨g, 0, none⟩)] w fun r w' => r = .returned (.int .u64 x) ∧ RdAt w' g S (l.drop n.toNat) e ∧ Fr w w' (fun k => k = g) := by
  obtain ⟨A, c, h⟩ := h
  have H := Aside0.mk h
  obtain ⟨h1, h2, h3, h4⟩ := h
  obtain ⟨⟨hc0, hf0⟩, hc1, hf1⟩ := blk_two h1
  obtain ⟨B, d, hcut, hd⟩ := (H.out.set_err e).cut n h0 hn
  have HB := Aside0.mk hd
  have HS := Aside0.mk hs
  have h3' := Aside0.mk h3
  have h2' := Aside0.mk h2
  have HN := Aside0.mk (And.intro h0 hn)
  generalize hm : l.length = m at *
  have HM := Aside0.mk hm
  clear h1 h3 h4 hd hs hm h2 h0 hn
  go_enter Try.func31, Try.ntmps31
  go_wp2_with (first | (go_at_call 57; go_loud (refine (Reader_ask_ok w g A c l 0 H.out (by omega) (by omega)).mono ?_); rintro e w1 ⟨rfl, rfl⟩) | (go_at_call 58; (have hsc := octets_short.calls k A c l x n e w1 (by rw [HM.out]; exact h3'.out) (by rw [HM.out]; exact h2'.out) HS.out); rw [HM.out] at hsc; go_loud (refine hsc.mono ?_); (rintro e1 w2 ⟨rfl, ⟨m2, rfl⟩⟩); clear hsc))
  go_ret
  have hf := (RdV.set_err (w := w1.drewN m2) H.out e).set_row HB.out.1 HB.out.2.1 HB.out.2.2
  rw [List.length_drop] at hf
  exact ⟨rfl, ⟨B, d, hf⟩, ((Fr.drewN w1 m2 _).then_ (Fr.set 1 _) (fun _ => .inl)).then_ (Fr.set 0 _) (fun _ => .inl)⟩
def back (u : Int) : Int := Go.bits .xor .i64 (wrap64 (u / 2)) (wrap64 (-wrap64 (Go.bits .and .u64 u 1)))
set_option maxHeartbeats 400000 in
set_option maxRecDepth 100000 in
theorem Reader_Int_ok (k : Nat) (w : World) (g : Nat) (l : List Int) (x n e : Int) (h : RdAt w g S l 0) (hs : octets_short.f k l = some (x, n, e)) (h0 : 0 ≤ n) (hn : n ≤ (l.length : Int)) :
    Calls Try.prog 33 #[.pointer (some ⟨g, 0, none⟩)] w fun r w' => r = .returned (.int .i64 (back x)) ∧ RdAt w' g S (l.drop n.toNat) e ∧ Fr w w' (fun k => k = g) := by
  have H := Aside0.mk h
  have HS := Aside0.mk hs
  have HN := Aside0.mk (And.intro h0 hn)
  clear h hs h0 hn
  go_enter Try.func33, Try.ntmps33
  go_wp2_with (go_at_call 31; go_loud (refine (Reader_Uint_ok k w g l x n e H.out HS.out HN.out.1 HN.out.2).mono ?_); (rintro e1 w2 ⟨rfl, h1, h2⟩); have H1 := Aside0.mk h1; have H2 := Aside0.mk h2; clear h1 h2)
  go_ret
  exact ⟨rfl, H1.out, H2.out⟩
set_option maxHeartbeats 400000 in
set_option maxRecDepth 100000 in
theorem Reader_End_ok (w : World) (g : Nat) (h : RdAt w g S [] 0) :
    Calls Try.prog 39 #[.pointer (some ⟨g, 0, none⟩)] w fun r w' => r = .returned (.int .i64 0) ∧ w' = w := by
  obtain ⟨A, c, h⟩ := h
  obtain ⟨h1, h2, h3, h4⟩ := h
  obtain ⟨⟨hc0, hf0⟩, hc1, hf1⟩ := blk_two h1
  clear h1 h2 h3 h4
  go_enter Try.func39, Try.ntmps39
  go_wp2
  all_goals go_ret
  all_goals exact ⟨rfl, rfl⟩
set_option maxHeartbeats 400000 in
set_option maxRecDepth 100000 in
theorem Reader_Read (w : World) (A : Option Addr) (l : List Int) (c : Nat) (h : U8.C w A l.length l) (hl : l.length ≤ 140737488355328) :
    Calls Try.prog 29 #[.slice A l.length c] w fun r w' => ∃ g, r = .returned (.pointer (some ⟨g, 0, none⟩)) ∧ w.heap.size ≤ g ∧ RdAt w' g (fun k => w.heap.size ≤ k ∧ k < w'.heap.size) l 0 ∧ Below w.heap.size w w' := by
  have HX := Aside0.mk (Kd.reads_of_C (d := (0 : Int)) h)
  have HM := Aside0.mk hl
  clear h hl
  go_enter Try.func29, Try.ntmps29
  go_wp2_with (first | ((with_reducible refine gate_builtin (b := .append) (xs := #[.const (.slice none 0 0), .tmp 3]) rfl ?_); at_builtin; go_loud (refine print_append_row_of (Value.int .u8) (0 : Int) (w0 := w) w.heap.size rfl (.const (.slice none 0 0)) (.tmp 3) 22 5 (.int .u8 0) 1 rfl Try.underlying22 info5 rfl (by decide) (fun _ => rfl) (.slice none 0 0) [] l A l.length c rfl rfl ?aO ?aX ?aB ?aH ?aL ?_); (case aO => exact World.ownsRow_nil _ _ _ _); (case aX => exact HX.out); (case aB => exact Below.refl _ _); (case aH => exact Nat.le_refl _); (case aL => have := HM.out; simp only [List.length_nil]; omega); intro v1 w1 ho hb hg hat; (have hr1 := Kd.R_of_own (enc := Value.int .u8) (h1 := fun _ => rfl) (ok := fun _ => True) ho (fun _ _ => trivial)); (obtain ⟨A1, c1, rfl⟩ := Kd.R_slice hr1); have HO1 := Aside0.mk hr1; have HBB := Aside0.mk hb; clear hat ho hb hg hr1))
  go_ret
  have hb2 : Below w1.heap.size w1 (w1.alloc (.cells #[.slice A1 ([] ++ l).length c1, .int .i64 0] 94)) := below_alloc (Below.refl _ _) _
  have hr2 := Kd.R_reads' HO1.out
  have hlt := Kd.R_lt HO1.out
  refine ⟨w1.heap.size, rfl, HBB.out.size, ⟨A1, c1, heap_alloc_new w1 _, hr2.2.1, Kd.C_below hr2.2.2 hb2, ⟨HBB.out.size, by show w1.heap.size < (Array.push _ _).size; rw [Array.size_push]; omega⟩, ?_⟩, HBB.out.trans ⟨hb2.os, hb2.tape, hb2.output, hb2.size, fun k hk => hb2.block k (Nat.lt_of_lt_of_le hk HBB.out.size)⟩⟩
  intro ad he
  subst he
  have := hlt ad.block rfl
  exact ⟨by omega, own_base (Kd.own_of_R HO1.out) ad.block rfl, by show ad.block < (Array.push _ _).size; rw [Array.size_push]; omega⟩
end Go.Proofs.Ytkjkmaopifmghaa.Oct
namespace Go.Proofs.Ytkjkmaopifmghaa.Oct
open Go.RowKit Go.Proofs.YtkjkmaopifmghaaW.PrintWords Go.Proofs.YtkjkmaopifmghaaW.PrintLast Go.Proofs.YtkjkmaopifmghaaW.PrintMore Go.Proofs.Ytkjkmaopifmghaa.OctShort
set_option linter.unusedVariables false
set_option linter.unusedSimpArgs false
variable {S : Nat → Prop}
set_option maxHeartbeats 400000 in
set_option maxRecDepth 100000 in
theorem Reader_Text_ok (k : Nat) (w : World) (g : Nat) (l : List Int) (most x n : Int) (h : RdAt w g S l 0) (hl : l.length ≤ 140737488355328) (hs : octets_short.f k l = some (x, n, 0)) (h0 : 0 ≤ n) (hx0 : 0 ≤ x) (hx : x ≤ most) (hm : most < 9223372036854775808) (hn : n + x ≤ (l.length : Int)) :
    Calls Try.prog 42 #[.pointer (some ⟨g, 0, none⟩), .int .i64 most] w fun r w' => r = .returned (.string (strOfNums ((l.drop n.toNat).take x.toNat))) ∧ RdAt w' g S (l.drop (n + x).toNat) 0 ∧ Fr w w' (fun k => k = g) := by
  obtain ⟨A, c, h⟩ := h
  have H := Aside0.mk h
  obtain ⟨h1, h2, h3, h4⟩ := h
  obtain ⟨⟨hc0, hf0⟩, hc1, hf1⟩ := blk_two h1
  obtain ⟨B, d, hcut, hd⟩ := H.out.cut (n + x) (by omega) (by omega)
  obtain ⟨i, hi, _, hsz, _⟩ := info_parts info5
  have hmid := cut_mid (P := Try.prog) 22 5 .i64 .i64 Try.underlying22 hi 1 hsz A l.length c n (n + x) h0 (by omega) (by omega) h2
  have hrd := ReadsInt.take_ (ReadsInt.drop_ (k := .u8) (Kd.reads_of_C (d := (0 : Int)) h3) n.toNat (by omega) h2) x.toNat (by omega)
  have e1 : (n + x).toNat - n.toNat = x.toNat := by omega
  rw [Nat.mul_one, e1] at hmid
  generalize hM : (if c = n.toNat then A else A.map (·.add n.toNat)) = M at hmid hrd
  have hcv : ∀ m, (convert 22 9 (.slice M x.toNat (c - n.toNat))).run Try.prog (w.drewN m) = .ok (.string (strOfNums ((l.drop n.toNat).take x.toNat))) (w.drewN m) := fun m => Kd.C_string Try.underlying22 Try.underlying5 Try.underlying9 (Kd.C_of_reads (enc := Value.int .u8) (d := (0:Int)) (h1 := fun _ => rfl) (hrd.drewN m))
  have HB := Aside0.mk hd
  have HS := Aside0.mk hs
  have h3' := Aside0.mk h3
  have h2' := Aside0.mk h2
  have w1 : IntKind.u64.wrap most = most := by
    show most % 18446744073709551616 = most
    omega
  have w2 : wrap64 x = x := (by unfold wrap64; omega)
  have w3 : wrap64 (n + x) = n + x := (by unfold wrap64; omega)
  have w4 : wrap64 ((l.length : Int) - n) = (l.length : Int) - n := (by unfold wrap64; omega)
  have w5 : IntKind.u64.wrap ((l.length : Int) - n) = (l.length : Int) - n := by
    show ((l.length : Int) - n) % 18446744073709551616 = _
    omega
  have d1 : decide (most < 0) = false := decide_eq_false (by omega)
  have d2 : decide (most < x) = false := decide_eq_false (by omega)
  have d3 : decide ((l.length : Int) - n < x) = false := decide_eq_false (by omega)
  generalize hm : l.length = m at *
  have HM := Aside0.mk hm
  clear h1 h3 h4 hd hs hm h2 hrd e1 hi h0 hx0 hx hn hl
  go_enter Try.func42, Try.ntmps42
  go_wp2_with (first | (go_at_call 57; go_loud (refine (Reader_ask_ok w g A c l 0 H.out (by omega) (by omega)).mono ?_); rintro e w1 ⟨rfl, rfl⟩) | (go_at_call 58; (have hsc := octets_short.calls k A c l x n 0 w1 (by rw [HM.out]; exact h3'.out) (by rw [HM.out]; exact h2'.out) HS.out); rw [HM.out] at hsc; go_loud (refine hsc.mono ?_); (rintro e1 w2 ⟨rfl, ⟨m2, rfl⟩⟩); clear hsc))
  go_ret
  have hf := (RdV.set_row (w := w1.drewN m2) H.out HB.out.1 HB.out.2.1 HB.out.2.2)
  rw [List.length_drop] at hf
  exact ⟨rfl, ⟨B, d, hf⟩, (Fr.drewN w1 m2 _).then_ (Fr.set 0 _) (fun _ => .inl)⟩
end Go.Proofs.Ytkjkmaopifmghaa.Oct
