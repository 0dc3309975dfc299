/- Two Writers in one array and what is wanted of them in another: how they stand in memory. -/
import Derived.Test.YtkjkmaopifmghaaMxOctTwo
import Derived.Test.YtkjkmaopifmghaaMxOctBytes
import Derived.Test.YtkjkmaopifmghaaMxOctNilW
import Derived.Test.YtkjkmaopifmghaaMxOctAwake
namespace Go.Proofs.Ytkjkmaopifmghaa.Oct
open Go.RowKit Go.Proofs.YtkjkmaopifmghaaW.PrintWords Go.Proofs.YtkjkmaopifmghaaW.PrintLast Go.Proofs.YtkjkmaopifmghaaW.PrintMore Go.Proofs.Ytkjkmaopifmghaa.OctShort Go.Proofs.Ytkjkmaopifmghaa.OctCopy Go.Proofs.Ytkjkmaopifmghaa.OctNum Go.Proofs.Ytkjkmaopifmghaa.PureShort
set_option linter.unusedVariables false
set_option linter.unusedSimpArgs false
set_option maxRecDepth 100000
def upd {α : Type} (f : Nat → α) (i : Nat) (x : α) : Nat → α := fun j => if j = i then x else f j
theorem upd_eq {α : Type} (f : Nat → α) (i : Nat) (x : α) : upd f i x i = x := by simp [upd]
theorem upd_ne {α : Type} (f : Nat → α) {i j : Nat} (x : α) (h : j ≠ i) : upd f i x j = f j := by simp [upd, h]
/-- No row has come to hold a block that was there, but its own. -/
def Grow (P P' : Nat → Nat → Prop) (n : Nat) : Prop := ∀ i k, P' i k → P i k ∨ n ≤ k
structure WS (w W : World) (gw gb : Nat) (P : Nat → Nat → Prop) (v : Nat → Value) (l : Nat → List Int) : Prop where
  hw : W.heap[gw]? = some (.cells #[v 0, v 1] 37 (0, 0))
  hb : W.heap[gb]? = some (.cells #[v 2, v 3] 38 (0, 0))
  r : ∀ i, i < 4 → RowB W (P i) (v i) (l i)
  dj : ∀ i j k, i < 4 → j < 4 → i ≠ j → P i k → P j k → False
  ng : ∀ i k, i < 4 → P i k → k ≠ gw ∧ k ≠ gb ∧ w.heap.size ≤ k ∧ k < W.heap.size
  gg : gw ≠ gb ∧ w.heap.size ≤ gw ∧ w.heap.size ≤ gb
  low : Below w.heap.size w W
theorem WS.fr {w W W' : World} {gw gb : Nat} {P : Nat → Nat → Prop} {v : Nat → Value} {l : Nat → List Int} {T : Nat → Prop} (h : WS w W gw gb P v l) (hf : Fr W W' T) (hT : ∀ k, T k → k ≠ gw ∧ k ≠ gb ∧ w.heap.size ≤ k ∧ ∀ i, i < 4 → ¬ P i k) : WS w W' gw gb P v l where
  hw := blk_kept h.hw hf.2 (fun hh => (hT _ hh).1 rfl)
  hb := blk_kept h.hb hf.2 (fun hh => (hT _ hh).2.1 rfl)
  r := fun i hi => Kd.R_kept (h.r i hi) hf.2 (fun k hk ht => (hT k ht).2.2.2 i hi hk)
  dj := h.dj
  ng := fun i k hi hk => by have := h.ng i k hi hk; have := hf.1.size; exact ⟨by omega, by omega, by omega, by omega⟩
  gg := h.gg
  low := ((Fr.of_below h.low (Own w)).own hf (fun k hk => (hT k hk).2.2.1)).low
theorem WS.below {w W W' : World} {gw gb : Nat} {P : Nat → Nat → Prop} {v : Nat → Value} {l : Nat → List Int} (h : WS w W gw gb P v l) (hb : Below W.heap.size W W') : WS w W' gw gb P v l :=
  h.fr (Fr.of_below hb (fun _ => False)) (fun _ h => h.elim)
/-- The row i has turned, and nothing else. -/
theorem WS.next {w W W' : World} {gw gb : Nat} {P : Nat → Nat → Prop} {v : Nat → Value} {l : Nat → List Int} (h : WS w W gw gb P v l) (i : Nat) (hi : i < 4) (v6 : Value) (l' : List Int) (hf : Fr W W' (fun k => P i k ∨ k = gw ∨ k = gb))
    (hw : W'.heap[gw]? = some (.cells #[upd v i v6 0, upd v i v6 1] 37 (0, 0))) (hb : W'.heap[gb]? = some (.cells #[upd v i v6 2, upd v i v6 3] 38 (0, 0)))
    (hr : RowB W' (fun k => (P i k ∨ W.heap.size ≤ k) ∧ k < W'.heap.size) v6 l') : WS w W' gw gb (upd P i (fun k => (P i k ∨ W.heap.size ≤ k) ∧ k < W'.heap.size)) (upd v i v6) (upd l i l') where
  hw := hw
  hb := hb
  r := fun j hj => by
    by_cases hji : j = i
    · subst hji
      rw [upd_eq, upd_eq, upd_eq]
      exact hr
    · rw [upd_ne _ _ hji, upd_ne _ _ hji, upd_ne _ _ hji]
      refine Kd.R_kept (h.r j hj) hf.2 (fun k hk ht => ?_)
      rcases ht with ht | ht | ht
      · exact h.dj j i k hj hi hji hk ht
      · exact (h.ng j k hj hk).1 ht
      · exact (h.ng j k hj hk).2.1 ht
  dj := fun a b k ha hb2 hab hka hkb => by
    have key : ∀ c, c < 4 → c ≠ i → P c k → ((P i k ∨ W.heap.size ≤ k) ∧ k < W'.heap.size) → False := fun c hc hci hk hh => by
      rcases hh.1 with h1 | h1
      · exact h.dj c i k hc hi hci hk h1
      · have := (h.ng c k hc hk).2.2.2; omega
    by_cases hai : a = i
    · subst hai
      rw [upd_eq] at hka
      rw [upd_ne _ _ (fun e => hab e.symm)] at hkb
      exact key b hb2 (fun e => hab e.symm) hkb hka
    · rw [upd_ne _ _ hai] at hka
      by_cases hbi : b = i
      · subst hbi
        rw [upd_eq] at hkb
        exact key a ha hab hka hkb
      · rw [upd_ne _ _ hbi] at hkb
        exact h.dj a b k ha hb2 hab hka hkb
  ng := fun j k hj hk => by
    have hs := hf.1.size
    have g1 := blk_lt h.hw
    have g2 := blk_lt h.hb
    have h0 := h.low.size
    by_cases hji : j = i
    · subst hji
      rw [upd_eq] at hk
      rcases hk.1 with h1 | h1
      · have := h.ng j k hj h1
        exact ⟨this.1, this.2.1, this.2.2.1, hk.2⟩
      · exact ⟨by omega, by omega, by omega, hk.2⟩
    · rw [upd_ne _ _ hji] at hk
      have := h.ng j k hj hk
      exact ⟨this.1, this.2.1, this.2.2.1, by omega⟩
  gg := h.gg
  low := ((Fr.of_below h.low (Own w)).own hf (fun k hk => by
    rcases hk with hk | hk | hk
    · exact (h.ng i k hi hk).2.2.1
    · rw [hk]; exact h.gg.2.1
    · rw [hk]; exact h.gg.2.2)).low
theorem grow_upd (P : Nat → Nat → Prop) (i : Nat) (Q : Nat → Prop) (n m : Nat) (h : ∀ k, ((P i k ∨ n ≤ k) ∧ k < m) → P i k ∨ n ≤ k) : Grow P (upd P i (fun k => (P i k ∨ n ≤ k) ∧ k < m)) n := by
  intro j k hk
  by_cases hj : j = i
  · subst hj
    rw [upd_eq] at hk
    exact hk.1
  · rw [upd_ne _ _ hj] at hk
    exact .inl hk
theorem WS.a {w W : World} {gw gb : Nat} {P : Nat → Nat → Prop} {v : Nat → Value} {l : Nat → List Int} (h : WS w W gw gb P v l) : WA.WrAt (v 1) W gw (fun k => P 0 k ∨ k = gw) (l 0) :=
  ⟨.inr rfl, v 0, h.hw, Kd.R_mono (h.r 0 (by omega)) (fun k hk => ⟨.inl hk, (h.ng 0 k (by omega) hk).1⟩)⟩
theorem WS.b {w W : World} {gw gb : Nat} {P : Nat → Nat → Prop} {v : Nat → Value} {l : Nat → List Int} (h : WS w W gw gb P v l) : WB.WrAt (v 0) W gw (fun k => P 1 k ∨ k = gw) (l 1) :=
  ⟨.inr rfl, v 1, h.hw, Kd.R_mono (h.r 1 (by omega)) (fun k hk => ⟨.inl hk, (h.ng 1 k (by omega) hk).1⟩)⟩
theorem WS.a_next {w W W' : World} {gw gb : Nat} {P : Nat → Nat → Prop} {v : Nat → Value} {l : Nat → List Int} {l' : List Int} (h : WS w W gw gb P v l) (hx : WA.WrAt (v 1) W' gw (fun k => (P 0 k ∨ k = gw) ∨ W.heap.size ≤ k) l') (hf : Fr W W' (fun k => P 0 k ∨ k = gw)) : ∃ P' v', Grow P P' W.heap.size ∧ WS w W' gw gb P' v' (upd l 0 l') := by
  obtain ⟨_, v6, h1, h2⟩ := hx
  refine ⟨_, _, grow_upd _ _ (fun _ => True) _ _ (fun _ hk => hk.1), h.next 0 (by omega) v6 l' ⟨hf.1, hf.2.mono (fun k hk => hk.elim .inl (fun e => .inr (.inl e)))⟩ h1 (blk_kept h.hb hf.2 (fun hk => ?_)) (Kd.R_mono (Kd.R_bound h2) (fun k hk => ?_))⟩
  · rcases hk with hk | hk
    · exact (h.ng 0 gb (by omega) hk).2.1 rfl
    · exact h.gg.1 hk.symm
  · exact ⟨hk.1.1.elim (fun h => h.elim .inl (fun e => absurd e hk.1.2)) .inr, hk.2.2.1⟩
theorem WS.b_next {w W W' : World} {gw gb : Nat} {P : Nat → Nat → Prop} {v : Nat → Value} {l : Nat → List Int} {l' : List Int} (h : WS w W gw gb P v l) (hx : WB.WrAt (v 0) W' gw (fun k => (P 1 k ∨ k = gw) ∨ W.heap.size ≤ k) l') (hf : Fr W W' (fun k => P 1 k ∨ k = gw)) : ∃ P' v', Grow P P' W.heap.size ∧ WS w W' gw gb P' v' (upd l 1 l') := by
  obtain ⟨_, v6, h1, h2⟩ := hx
  refine ⟨_, _, grow_upd _ _ (fun _ => True) _ _ (fun _ hk => hk.1), h.next 1 (by omega) v6 l' ⟨hf.1, hf.2.mono (fun k hk => hk.elim .inl (fun e => .inr (.inl e)))⟩ h1 (blk_kept h.hb hf.2 (fun hk => ?_)) (Kd.R_mono (Kd.R_bound h2) (fun k hk => ?_))⟩
  · rcases hk with hk | hk
    · exact (h.ng 1 gb (by omega) hk).2.1 rfl
    · exact h.gg.1 hk.symm
  · exact ⟨hk.1.1.elim (fun h => h.elim .inl (fun e => absurd e hk.1.2)) .inr, hk.2.2.1⟩
theorem WS.c_next {w W w1 : World} {gw gb : Nat} {P : Nat → Nat → Prop} {v : Nat → Value} {l : Nat → List Int} {v6 : Value} {l' : List Int} (h : WS w W gw gb P v l) (hr : U8.R 5 w1 0 (fun k => P 2 k ∨ W.heap.size ≤ k) v6 l') (hg : W.grownBy w1 (v 2).ownBlock) : ∃ P' v', Grow P P' W.heap.size ∧ WS w (w1.setCell ⟨gb, 0, none⟩ v6) gw gb P' v' (upd l 2 l') := by
  have hown : ∀ k, (v 2).ownBlock = some k → P 2 k := fun k hk => (h.r 2 (by omega)).1 k hk
  have hk1 : Kept W w1 (fun k => P 2 k) := Kept.of_grown hg (Kept.refl W _) (fun k hk => .inl (hown k hk))
  have hk2 : Kept W (w1.setCell ⟨gb, 0, none⟩ v6) (fun k => P 2 k ∨ k = gb) := Kept.setCell (hk1.mono (fun k hk => .inl hk)) (p := (⟨gb, 0, none⟩ : Addr)) (.inl (.inr rfl)) _
  have hb1 := blk_kept h.hb hk1 (fun hk => (h.ng 2 gb (by omega) hk).2.1 rfl)
  have hB : Below 0 W w1 := ⟨hg.os, hg.tape, hg.output, hg.size, fun k hk => absurd hk (by omega)⟩
  have hR := Kd.R_bound (Kd.R_far (p := (⟨gb, 0, none⟩ : Addr)) hr (fun k hk e => by
    have e : k = gb := e
    rcases hk with hk | hk
    · exact (h.ng 2 k (by omega) hk).2.1 e
    · have := blk_lt h.hb; omega) v6)
  refine ⟨_, _, grow_upd _ _ (fun _ => True) _ _ (fun _ hk => hk.1), h.next 2 (by omega) v6 l' ⟨below_setCell0 hB, hk2.mono (fun k hk => hk.elim .inl (fun e => .inr (.inr e)))⟩ (blk_kept h.hw hk2 (fun hk => ?_)) (set_fst hb1) (Kd.R_mono hR (fun k hk => ?_))⟩
  · rcases hk with hk | hk
    · exact (h.ng 2 gw (by omega) hk).1 rfl
    · exact h.gg.1 hk
  · exact ⟨hk.1, hk.2.2.1⟩
theorem WS.d_next {w W w1 : World} {gw gb : Nat} {P : Nat → Nat → Prop} {v : Nat → Value} {l : Nat → List Int} {v6 : Value} {l' : List Int} (h : WS w W gw gb P v l) (hr : U8.R 5 w1 0 (fun k => P 3 k ∨ W.heap.size ≤ k) v6 l') (hg : W.grownBy w1 (v 3).ownBlock) : ∃ P' v', Grow P P' W.heap.size ∧ WS w (w1.setCell ⟨gb, 1, none⟩ v6) gw gb P' v' (upd l 3 l') := by
  have hown : ∀ k, (v 3).ownBlock = some k → P 3 k := fun k hk => (h.r 3 (by omega)).1 k hk
  have hk1 : Kept W w1 (fun k => P 3 k) := Kept.of_grown hg (Kept.refl W _) (fun k hk => .inl (hown k hk))
  have hk2 : Kept W (w1.setCell ⟨gb, 1, none⟩ v6) (fun k => P 3 k ∨ k = gb) := Kept.setCell (hk1.mono (fun k hk => .inl hk)) (p := (⟨gb, 1, none⟩ : Addr)) (.inl (.inr rfl)) _
  have hb1 := blk_kept h.hb hk1 (fun hk => (h.ng 3 gb (by omega) hk).2.1 rfl)
  have hB : Below 0 W w1 := ⟨hg.os, hg.tape, hg.output, hg.size, fun k hk => absurd hk (by omega)⟩
  have hR := Kd.R_bound (Kd.R_far (p := (⟨gb, 1, none⟩ : Addr)) hr (fun k hk e => by
    have e : k = gb := e
    rcases hk with hk | hk
    · exact (h.ng 3 k (by omega) hk).2.1 e
    · have := blk_lt h.hb; omega) v6)
  refine ⟨_, _, grow_upd _ _ (fun _ => True) _ _ (fun _ hk => hk.1), h.next 3 (by omega) v6 l' ⟨below_setCell0 hB, hk2.mono (fun k hk => hk.elim .inl (fun e => .inr (.inr e)))⟩ (blk_kept h.hw hk2 (fun hk => ?_)) (set_snd hb1) (Kd.R_mono hR (fun k hk => ?_))⟩
  · rcases hk with hk | hk
    · exact (h.ng 3 gw (by omega) hk).1 rfl
    · exact h.gg.1 hk
  · exact ⟨hk.1, hk.2.2.1⟩
theorem WS.start {w W : World} (hl : Below w.heap.size w W) : WS w ((W.alloc (.cells #[.slice none 0 0, .slice none 0 0] 37)).alloc (.cells #[.slice none 0 0, .slice none 0 0] 38)) W.heap.size (W.heap.size + 1) (fun _ _ => False) (fun _ => .slice none 0 0) (fun _ => []) := by
  have hz : (W.alloc (.cells #[.slice none 0 0, .slice none 0 0] 37)).heap.size = W.heap.size + 1 := by
    show (W.heap.push _).size = _
    simp
  have h1 := heap_alloc_new W (.cells #[.slice none 0 0, .slice none 0 0] 37)
  have h2 := heap_alloc_new (W.alloc (.cells #[.slice none 0 0, .slice none 0 0] 37)) (.cells #[.slice none 0 0, .slice none 0 0] 38)
  rw [hz] at h2
  have b1 : Below W.heap.size W (W.alloc (.cells #[.slice none 0 0, .slice none 0 0] 37)) := below_alloc (Below.refl _ _) _
  have b2 : Below (W.heap.size + 1) (W.alloc (.cells #[.slice none 0 0, .slice none 0 0] 37)) ((W.alloc (.cells #[.slice none 0 0, .slice none 0 0] 37)).alloc (.cells #[.slice none 0 0, .slice none 0 0] 38)) := by
    have := below_alloc (Below.refl (W.alloc (.cells #[.slice none 0 0, .slice none 0 0] 37)).heap.size (W.alloc (.cells #[.slice none 0 0, .slice none 0 0] 37))) (.cells #[.slice none 0 0, .slice none 0 0] 38)
    rwa [hz] at this
  have hs := hl.size
  exact ⟨(b2.block W.heap.size (by omega)).trans h1, h2, fun i _ => Kd.R_nil _ _ _ _ _, fun _ _ _ _ _ _ h => h.elim, fun _ _ _ h => h.elim, ⟨by omega, by omega, by omega⟩, below_step (below_step hl b1) (by rwa [hz])⟩
end Go.Proofs.Ytkjkmaopifmghaa.Oct
