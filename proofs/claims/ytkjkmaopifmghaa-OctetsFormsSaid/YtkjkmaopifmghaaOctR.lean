/- The contracts of the Reader's methods (plain walks). -/
import Derived.Test.YtkjkmaopifmghaaOctT
namespace Go.Proofs.Ytkjkmaopifmghaa.Oct
open Go.RowKit Go.Proofs.YtkjkmaopifmghaaW.PrintWords Go.Proofs.YtkjkmaopifmghaaW.PrintLast Go.Proofs.YtkjkmaopifmghaaW.PrintMore
set_option linter.unusedVariables false
set_option linter.unusedSimpArgs false
variable {S : Nat → Prop}
/-- A Reader at block g, with the bytes l left (their block is not g) and the error e. -/
def RdV (w : World) (g : Nat) (S : Nat → Prop) (A : Option Addr) (c : Nat) (l : List Int) (e : Int) : Prop :=
  w.heap[g]? = some (.cells #[.slice A l.length c, .int .i64 e] 94 (0, 0)) ∧ l.length ≤ c ∧ U8.C w A l.length l ∧ S g ∧ ∀ ad, A = some ad → ad.block ≠ g ∧ S ad.block
/-- A Reader whose own block and whose bytes' block lie in S. -/
def RdAt (w : World) (g : Nat) (S : Nat → Prop) (l : List Int) (e : Int) : Prop := ∃ A c, RdV w g S A c l e
theorem block_addO (a : Addr) (i : Nat) : (a.add i).block = a.block := by unfold Addr.add; split <;> rfl
theorem C_move {w w' : World} {A : Option Addr} {n : Nat} {l : List Int} (h : U8.C w A n l) (hm : ∀ ad, A = some ad → w'.heap[ad.block]? = w.heap[ad.block]?) : U8.C w' A n l := by
  obtain ⟨h1, h2, h3⟩ := Kd.reads_of_C (d := (0 : Int)) h
  refine Kd.C_of_reads (enc := Value.int .u8) (d := (0 : Int)) ⟨h1, h2, fun hn => ?_⟩
  obtain ⟨ad, rfl, hc⟩ := h3 hn
  refine ⟨ad, rfl, fun j hj => ?_⟩
  rw [World.cell?_of_block (w := w) (w' := w') (by rw [block_addO]; exact hm ad rfl)]
  exact hc j hj
theorem blk_two {w : World} {g : Nat} {v u : Value} {T : Nat} (h : w.heap[g]? = some (.cells #[v, u] T (0, 0))) : (w.cell? ⟨g, 0, none⟩ = some v ∧ w.frozen? ⟨g, 0, none⟩ = false) ∧ w.cell? ⟨g, 1, none⟩ = some u ∧ w.frozen? ⟨g, 1, none⟩ = false := by
  refine ⟨⟨?_, ?_⟩, ?_, ?_⟩
  · simp [World.cell?, h]
  · simp [World.frozen?, h]
  · simp [World.cell?, h]
  · simp [World.frozen?, h]
theorem set_fst {w : World} {g : Nat} {v u x : Value} {T : Nat} (h : w.heap[g]? = some (.cells #[v, u] T (0, 0))) : (w.setCell ⟨g, 0, none⟩ x).heap[g]? = some (.cells #[x, u] T (0, 0)) := by
  have hlt := blk_lt h
  simp only [World.setCell, h]
  rw [Array.getElem?_modify]
  simp [h]
theorem set_snd {w : World} {g : Nat} {v u x : Value} {T : Nat} (h : w.heap[g]? = some (.cells #[v, u] T (0, 0))) : (w.setCell ⟨g, 1, none⟩ x).heap[g]? = some (.cells #[v, x] T (0, 0)) := by
  have hlt := blk_lt h
  simp only [World.setCell, h]
  rw [Array.getElem?_modify]
  simp [h]
theorem Fr.set {w : World} {g : Nat} (i : Nat) (u : Value) : Fr w (w.setCell ⟨g, i, none⟩ u) (fun k => k = g) := ⟨below_setCell0 (Below.refl _ _), Kept.setCell (S := fun k => k = g) (Kept.refl _ _) (p := (⟨g, i, none⟩ : Addr)) (.inl rfl) _⟩
theorem RdV.set_err {w : World} {g : Nat} {A : Option Addr} {c : Nat} {l : List Int} {e : Int} (h : RdV w g S A c l e) (x : Int) : RdV (w.setCell ⟨g, 1, none⟩ (.int .i64 x)) g S A c l x := by
  obtain ⟨h1, h2, h3, h4⟩ := h
  exact ⟨set_snd h1, h2, C_move h3 (fun ad he => Below.heap_setCell w ⟨g, 1, none⟩ _ ad.block (h4.2 ad he).1), h4⟩
theorem RdV.set_row {w : World} {g : Nat} {A B : Option Addr} {c d : Nat} {l m : List Int} {e : Int} (h : RdV w g S A c l e) (hd : m.length ≤ d) (hm : U8.C w B m.length m) (hB : ∀ ad, B = some ad → ad.block ≠ g ∧ S ad.block) : RdV (w.setCell ⟨g, 0, none⟩ (.slice B m.length d)) g S B d m e := by
  obtain ⟨h1, h2, h3, h4⟩ := h
  exact ⟨set_fst h1, hd, C_move hm (fun ad he => Below.heap_setCell w ⟨g, 0, none⟩ _ ad.block (hB ad he).1), h4.1, hB⟩
/-- The row behind the first j bytes. -/
theorem RdV.drop {w : World} {g : Nat} {A : Option Addr} {c : Nat} {l : List Int} {e : Int} (h : RdV w g S A c l e) (j : Nat) (hj : j ≤ l.length) :
    (l.drop j).length ≤ c - j ∧ U8.C w (if c = j then A else A.map (·.add j)) (l.drop j).length (l.drop j) ∧ ∀ ad, (if c = j then A else A.map (·.add j)) = some ad → ad.block ≠ g ∧ S ad.block := by
  obtain ⟨h1, h2, h3, h4⟩ := h
  refine ⟨by rw [List.length_drop]; omega, ?_, ?_⟩
  · have := ReadsInt.drop_ (k := .u8) (Kd.reads_of_C (d := (0 : Int)) h3) j hj h2
    rw [List.length_drop]
    exact Kd.C_of_reads (enc := Value.int .u8) (d := (0 : Int)) this
  · intro ad he
    split at he
    · exact h4.2 ad he
    · rcases A with _ | a
      · cases he
      · obtain rfl := Option.some.inj he
        rw [block_addO]
        exact h4.2 a rfl
set_option maxHeartbeats 400000 in
set_option maxRecDepth 100000 in
theorem Reader_ask_ok (w : World) (g : Nat) (A : Option Addr) (c : Nat) (l : List Int) (n : Int) (h : RdV w g S A c l 0) (h0 : 0 ≤ n) (hn : n ≤ (l.length : Int)) :
    Calls Try.prog 57 #[.pointer (some ⟨g, 0, none⟩), .int .i64 n] w fun e w' => e = .returned (.tuple #[.slice A n.toNat c, .bool true]) ∧ w' = w := by
  obtain ⟨h1, h2, h3, h4⟩ := h
  obtain ⟨⟨hc0, hf0⟩, hc1, hf1⟩ := blk_two h1
  obtain ⟨i, hi, _, hsz, _⟩ := info_parts info5
  have hcut := cut_to (P := Try.prog) 22 5 .i64 Try.underlying22 hi A l.length c n h0 hn h2
  have hcmp : decide ((l.length : Int) < n) = false := decide_eq_false (by omega)
  clear h1 h2 h3 h4
  go_enter Try.func57, Try.ntmps57
  go_wp2
  go_ret2
  exact ⟨rfl, rfl⟩
theorem far_cell {w : World} {g : Nat} {ad : Addr} {v : Value} (h : w.cell? ad = some v) (hne : ad.block ≠ g) (i : Nat) (u : Value) : (w.setCell ⟨g, i, none⟩ u).cell? ad = some v := (World.cell?_of_block (Below.heap_setCell w ⟨g, i, none⟩ u _ hne)).trans h
theorem add_zero_ (a : Addr) : a.add 0 = a := rfl
/-- The cut behind the first j bytes, as one row B. -/
theorem RdV.cut {w : World} {g : Nat} {A : Option Addr} {c : Nat} {l : List Int} {e : Int} (h : RdV w g S A c l e) (j : Int) (h0 : 0 ≤ j) (hj : j ≤ l.length) :
    ∃ B d, (∀ W : World, (Instr.slice 22 (.slice A l.length c) (some (.int .i64 j)) none none).run Try.prog W = .ok (.slice B (l.drop j.toNat).length d) W) ∧ (l.drop j.toNat).length ≤ d ∧ U8.C w B (l.drop j.toNat).length (l.drop j.toNat) ∧ ∀ ad, B = some ad → ad.block ≠ g ∧ S ad.block := by
  obtain ⟨i, hi, _, hsz, _⟩ := info_parts info5
  have hcut := cut_from (P := Try.prog) 22 5 .i64 Try.underlying22 hi 1 hsz A l.length c j h0 hj
  obtain ⟨h1, h2, h3⟩ := h.drop j.toNat (by omega)
  rw [Nat.mul_one] at hcut
  rw [← List.length_drop] at hcut
  exact ⟨_, _, hcut, h1, h2, h3⟩
set_option maxHeartbeats 400000 in
set_option maxRecDepth 100000 in
theorem Reader_Byte_ok (w : World) (g : Nat) (x : Int) (l : List Int) (h : RdAt w g S (x :: l) 0) :
    Calls Try.prog 41 #[.pointer (some ⟨g, 0, none⟩)] w fun e w' => e = .returned (.int .u8 x) ∧ RdAt w' g S l 0 ∧ Fr w w' (fun k => k = g) := by
  obtain ⟨A, c, h⟩ := h
  have H := Aside0.mk h
  obtain ⟨h1, h2, h3, h4⟩ := h
  obtain ⟨⟨hc0, hf0⟩, hc1, hf1⟩ := blk_two h1
  have hl : (1 : Int) ≤ ((x :: l).length : Int) := by simp only [List.length_cons]; omega
  obtain ⟨ad, rfl, hx⟩ := Kd.at_int h3 0 (by omega) (by omega)
  have hne := (h4.2 ad rfl).1
  have hx1 : w.cell? ad = some (.int .u8 x) := hx
  have hx2 := far_cell hx1 hne 0
  obtain ⟨B, d, hcut, hd1, hd2, hd3⟩ := H.out.cut 1 (by omega) hl
  have e1 : (x :: l).drop (1 : Int).toNat = l := rfl
  rw [e1] at hd1 hd2 hcut
  have HB := Aside0.mk (And.intro hd1 (And.intro hd2 hd3))
  generalize hn : (x :: l).length = n at *
  have HN := Aside0.mk hn
  clear h1 h2 h3 h4 e1 hx hd1 hd2 hd3 hne
  clear hn
  go_enter Try.func41, Try.ntmps41
  go_wp2_with (go_at_call 57; go_loud (refine (Reader_ask_ok w g (some ad) c (x :: l) 1 H.out (by omega) (by have := HN.out; omega)).mono ?_); rintro e w1 ⟨rfl, rfl⟩)
  go_ret
  exact ⟨rfl, ⟨B, d, H.out.set_row HB.out.1 HB.out.2.1 HB.out.2.2⟩, Fr.set _ _⟩
end Go.Proofs.Ytkjkmaopifmghaa.Oct
