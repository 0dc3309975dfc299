/- Rows of ints that lie apart, and the rows that they have grown to (no program in sight but the types). -/
import Derived.Test.YtmldefednihohaaDoorS2
namespace Go.Proofs.YtmldefednihohaaDoor.GrpAp
open Go.Proofs.YtmldefednihohaaDoor.Grp
open Go.RowKit Go.Proofs.YtmldefednihohaaDoorW.PrintWords Go.Proofs.YtmldefednihohaaDoorW.PrintLast Go.Proofs.YtmldefednihohaaDoorW.PrintMore
set_option linter.unusedVariables false
set_option linter.unusedSimpArgs false
section
variable (K gl : Nat) (A : Nat → Option Addr) (N C : Nat → Nat)
/-- k of the K rows have grown: to Gs, with the ints E. -/
structure Gr (w0 w : World) (k : Nat) (g5 : Value) (Gs : Nat → Sl) (E : Nat → List Int) : Prop where
  st : St K gl A N C w0 w (fun j => mks j (N j))
  gs : SL.R 29 w w0.heap.size (fun _ => True) g5 ((List.range k).map Gs)
  el : ∀ j, j < k → I64.R 3 w 0 (fun _ => True) (sv (Gs j)) (E j)
  sep : ∀ j, j < k → ∀ i, i < K → i ≠ j → ∀ b, (sv (Gs j)).ownBlock = some b → (rowV A N C i).ownBlock ≠ some b
/-- Row k grows: by i so far. -/
structure Gi (w0 w : World) (k : Nat) (g5 : Value) (Gs : Nat → Sl) (E : Nat → List Int) (i : Nat) (p : Sl) : Prop where
  gr : Gr K gl A N C w0 w k g5 Gs E
  row : I64.R 3 w 0 (fun _ => True) (sv p) (mks k (N k + i))
  lies : p = (A k, N k + i, C k) ∨ ∃ b, (sv p).ownBlock = some b ∧ w0.heap.size ≤ b ∧ ∀ j, j < k → (sv (Gs j)).ownBlock ≠ some b
end
section
variable {K gl : Nat} {A : Nat → Option Addr} {N C : Nat → Nat} {w0 w w' w1 : World} {k : Nat} {g5 : Value} {Gs : Nat → Sl} {E : Nat → List Int}
theorem Gr.away (h : Gr K gl A N C w0 w k g5 Gs E) {S : Nat → Prop} (hf : Fr w w' S) (hS : ∀ b, S b → w0.heap.size ≤ b) (hg : ∀ b, g5.ownBlock = some b → ¬ S b) (he : ∀ j, j < k → ∀ b, (sv (Gs j)).ownBlock = some b → ¬ S b) : Gr K gl A N C w0 w' k g5 Gs E where
  st := h.st.away hf hS
  gs := other h.gs hf.2 hg
  el j hj := other (h.el j hj) hf.2 (he j hj)
  sep := h.sep
theorem Gr.below (h : Gr K gl A N C w0 w k g5 Gs E) (hb : Below w.heap.size w w') : Gr K gl A N C w0 w' k g5 Gs E :=
  h.away (Fr.of_below hb (fun _ => False)) (fun _ h => h.elim) (fun _ _ h => h) (fun _ _ _ _ h => h)
theorem Gr.size (h : Gr K gl A N C w0 w k g5 Gs E) : w0.heap.size ≤ w.heap.size := h.st.fr.2.1
/-- Row k (k or more of the rows have not grown yet) grew within its block. -/
theorem Gr.turn (h : Gr K gl A N C w0 w k g5 Gs E) (hk : k < K) {g : Nat} (hf : Fr w w' (fun b => b = g)) (hg : (rowV A N C k).ownBlock = some g) (hr : I64.R 3 w' 0 (fun _ => True) (rowV A N C k) (mks k (N k))) : Gr K gl A N C w0 w' k g5 Gs E where
  st := (h.st.turn hk hf (fun b hb => by rw [hb]; exact hg) hr).same (fun j hj => by by_cases e : j = k <;> simp [e])
  gs := other h.gs hf.2 (fun b hb e => by subst e; exact own_ne h.gs (h.st.row k hk) (by decide) b hb hg)
  el j hj := other (h.el j hj) hf.2 (fun b hb e => by subst e; exact h.sep j hj k hk (by omega) b hb hg)
  sep := h.sep
theorem Gi.start (h : Gr K gl A N C w0 w k g5 Gs E) (hk : k < K) : Gi K gl A N C w0 w k g5 Gs E 0 (A k, N k, C k) := ⟨h, h.st.row k hk, .inl rfl⟩
theorem Gi.below {i : Nat} {p : Sl} (h : Gi K gl A N C w0 w k g5 Gs E i p) (hb : Below w.heap.size w w') : Gi K gl A N C w0 w' k g5 Gs E i p := ⟨h.gr.below hb, Kd.R_below h.row hb, h.lies⟩
theorem Gi.next {i : Nat} {p : Sl} {v1 : Value} (h : Gi K gl A N C w0 w k g5 Gs E i p) (hk : k < K) (hg : Grew w w1 (sv p) v1 (N k + i) 1) (hr : I64.R 3 w1 0 (fun _ => True) v1 (mks k (N k + i) ++ [Mk k (N k + i)])) : ∃ p1, v1 = sv p1 ∧ Gi K gl A N C w0 w1 k g5 Gs E (i + 1) p1 := by
  rw [← mks_succ] at hr
  rcases hg with ⟨g, c0, e1, rfl, hgr⟩ | ⟨b, c1, rfl, hle, hgr⟩
  · have hf := fr_some hgr
    refine ⟨(some ⟨g, 0, none⟩, N k + i + 1, c0), rfl, ?_⟩
    rcases h.lies with rfl | ⟨b, hb, hle, hne⟩
    · have hA : A k = some ⟨g, 0, none⟩ := (Value.slice.inj e1).1
      have hC : C k = c0 := (Value.slice.inj e1).2.2
      have hown : (rowV A N C k).ownBlock = some g := by simp [rowV, hA, Value.ownBlock]
      refine ⟨h.gr.turn hk hf hown ?_, hr, .inl (by rw [hA, hC]; rfl)⟩
      have := Kd.R_take hr (m := N k) (by rw [mks_len]; omega)
      rw [mks_take k (by omega)] at this
      unfold rowV
      rw [hA, hC]
      exact this
    · rw [e1] at hb
      have hbg : g = b := by simpa [Value.ownBlock] using hb
      subst hbg
      refine ⟨h.gr.away hf (fun b hb => by subst hb; exact hle) (fun b1 hb1 e => ?_) (fun j hj b1 hb1 e => by subst e; exact hne j hj hb1), hr, .inr ⟨g, rfl, hle, hne⟩⟩
      subst e
      have hrow := h.row
      rw [e1] at hrow
      exact own_ne h.gr.gs hrow (by decide) _ hb1 rfl
  · have hb : Below w.heap.size w w1 := ⟨hgr.os, hgr.tape, hgr.output, hgr.size, fun k hk => hgr.block k hk (by simp)⟩
    refine ⟨(some ⟨b, 0, none⟩, N k + i + 1, c1), rfl, h.gr.below hb, hr, .inr ⟨b, rfl, Nat.le_trans h.gr.size hle, fun j hj e => ?_⟩⟩
    have := own_lt' (h.gr.el j hj) b e
    omega
theorem Gi.lay {p : Sl} {v1 : Value} {m : Nat} (h : Gi K gl A N C w0 w k g5 Gs E m p) (hk : k < K) (hE : E k = mks k (N k + m)) (hr : SL.R 29 w1 w0.heap.size (fun _ => True) v1 ((List.range k).map Gs ++ [p])) (hg : w.grownBy w1 g5.ownBlock) : Gr K gl A N C w0 w1 (k + 1) v1 (fun j => if j = k then p else Gs j) E := by
  have hf := fr_grown hg
  have hge := fun b hb => own_ge h.gr.gs b hb
  refine ⟨h.gr.st.away hf hge, ?_, fun j hj => ?_, fun j hj i hi hne b hb => ?_⟩
  · rw [List.range_succ, List.map_append]
    have e1 : (List.range k).map (fun j => if j = k then p else Gs j) = (List.range k).map Gs := by
      refine List.map_congr_left fun j hj => ?_
      have : j < k := List.mem_range.1 hj
      simp [Nat.ne_of_lt this]
    rw [e1]
    simpa using hr
  · by_cases e : j = k
    · subst e
      simp only [if_true]
      rw [hE]
      exact other h.row hf.2 (fun b hb hs => own_ne h.gr.gs h.row (by decide) b hs hb)
    · simp only [e, if_false]
      exact other (h.gr.el j (by omega)) hf.2 (fun b hb hs => own_ne h.gr.gs (h.gr.el j (by omega)) (by decide) b hs hb)
  · by_cases e : j = k
    · subst e
      simp only [if_true] at hb
      rcases h.lies with rfl | ⟨b', hb', hle, _⟩
      · exact h.gr.st.sep j hk i hi (fun e => hne e.symm) b ((own_same _ _ _ _ _).trans hb)
      · intro hi'
        have := h.gr.st.lt i hi b hi'
        rw [hb'] at hb
        have := Option.some.inj hb
        omega
    · simp only [e, if_false] at hb
      exact h.gr.sep j (by omega) i hi hne b hb
/-- Row k grows anew, and what it has grown to is laid in the place of the former one. -/
theorem Gr.regrow {v1 : Value} {gb cg m : Nat} {ys : List Int} (h : Gr K gl A N C w0 w K (.slice (some ⟨gb, 0, none⟩) K cg) Gs E) (hk : k < K) (hg : Grew w w1 (rowV A N C k) v1 (N k) m) (hr : I64.R 3 w1 0 (fun _ => True) v1 (mks k (N k) ++ ys)) :
    ∃ p1, v1 = sv p1 ∧ w1.frozen? ⟨gb, k, none⟩ = false ∧ (∃ z, w1.cell? ⟨gb, k, none⟩ = some z) ∧ Gr K gl A N C w0 (w1.setCell ⟨gb, k, none⟩ v1) K (.slice (some ⟨gb, 0, none⟩) K cg) (fun j => if j = k then p1 else Gs j) (fun j => if j = k then mks k (N k) ++ ys else E j) := by
  obtain ⟨p1, rfl⟩ : ∃ p1, v1 = sv p1 := by
    obtain ⟨A1, c1, e⟩ := Kd.R_slice hr
    exact ⟨(A1, _, c1), e⟩
  obtain ⟨S, hf, hSr, hst, hel, hsep⟩ : ∃ S : Nat → Prop, Fr w w1 S ∧ (∀ b, S b → ∃ xs, I64.R 3 w 0 (fun _ => True) (rowV A N C k) xs ∧ (rowV A N C k).ownBlock = some b) ∧ St K gl A N C w0 w1 (fun j => mks j (N j)) ∧ (∀ j, j < K → j ≠ k → I64.R 3 w1 0 (fun _ => True) (sv (Gs j)) (E j)) ∧ (∀ i, i < K → i ≠ k → ∀ b, (sv p1).ownBlock = some b → (rowV A N C i).ownBlock ≠ some b) := by
    rcases hg with ⟨g, c0, e1, e2, hgr⟩ | ⟨b, c1, e2, hle, hgr⟩
    · have hf := fr_some hgr
      have hown : (rowV A N C k).ownBlock = some g := by rw [e1]; rfl
      have hA : A k = some ⟨g, 0, none⟩ := (Value.slice.inj e1).1
      have hC : C k = c0 := (Value.slice.inj e1).2.2
      refine ⟨_, hf, fun b hb => ⟨_, h.st.row k hk, by rw [hb]; exact hown⟩, (h.st.turn hk hf (fun b hb => by rw [hb]; exact hown) (l := mks k (N k)) ?_).same (fun j hj => by by_cases e : j = k <;> simp [e]), fun j hj hne => other (h.el j hj) hf.2 (fun b hb e => by subst e; exact h.sep j hj k hk (fun e => hne e.symm) b hb hown), fun i hi hne b hb => ?_⟩
      · rw [e2] at hr
        have := Kd.R_take hr (m := N k) (by rw [List.length_append, mks_len]; omega)
        rw [List.take_left' (mks_len k (N k))] at this
        unfold rowV
        rw [hA, hC]
        exact this
      · rw [e2] at hb
        have : g = b := by simpa [Value.ownBlock] using hb
        subst this
        exact h.st.sep k hk i hi (fun e => hne e.symm) g hown
    · have hb : Below w.heap.size w w1 := ⟨hgr.os, hgr.tape, hgr.output, hgr.size, fun k hk => hgr.block k hk (by simp)⟩
      refine ⟨fun _ => False, fr_none hgr, fun _ hf => hf.elim, h.st.below hb, fun j hj _ => Kd.R_below (h.el j hj) hb, fun i hi hne b' hb' e => ?_⟩
      have h1 := h.st.lt i hi b' e
      rw [e2] at hb'
      have h2 : b = b' := by simpa [Value.ownBlock] using hb'
      have := h.size
      omega
  have hgs : SL.R 29 w1 w0.heap.size (fun _ => True) (.slice (some ⟨gb, 0, none⟩) K cg) ((List.range K).map Gs) := other h.gs hf.2 (fun b hb hs => by
    obtain ⟨xs, hx, ho⟩ := hSr b hs
    exact own_ne h.gs hx (by decide) b hb ho)
  have hlen : ((List.range K).map Gs).length = K := by simp
  have hgs' := hgs
  rw [show (Value.slice (some ⟨gb, 0, none⟩) K cg) = .slice (some ⟨gb, 0, none⟩) ((List.range K).map Gs).length cg by rw [hlen]] at hgs'
  obtain ⟨hc, hz⟩ := Kd.R_cell ((none, 0, 0) : Sl) hgs' (k : Int) (by omega) (by omega)
  have hset := (Kd.R_putg hgs (k : Int) p1).1
  have hf2 := Fr.set (w := w1) (g := gb) k (sv p1)
  have hgb : w0.heap.size ≤ gb := own_ge hgs gb rfl
  refine ⟨p1, rfl, by simpa using hz, ⟨_, by simpa using hc⟩, ⟨hst.away hf2 (fun b hb => by omega), ?_, fun j hj => ?_, fun j hj i hi hne b hb => ?_⟩⟩
  · have e : (List.range K).map (fun j => if j = k then p1 else Gs j) = ((List.range K).map Gs).set k p1 := by
      apply List.ext_getElem?
      intro j
      simp only [List.getElem?_map, List.getElem?_set, List.length_map, List.length_range]
      by_cases hj : j < K
      · by_cases e : j = k
        · subst e; simp [hj]
        · have : k ≠ j := fun h => e h.symm
          simp [hj, e, this]
      · have : k ≠ j := by omega
        simp [hj, this]
    rw [e]
    exact hset
  · by_cases e : j = k
    · subst e
      simp only [if_true]
      exact other hr hf2.2 (fun b hb e => by subst e; exact own_ne hgs hr (by decide) b rfl hb)
    · simp only [e, if_false]
      exact other (hel j hj e) hf2.2 (fun b hb e' => by subst e'; exact own_ne hgs (hel j hj e) (by decide) b rfl hb)
  · by_cases e : j = k
    · subst e
      simp only [if_true] at hb
      exact hsep i hi hne b hb
    · simp only [e, if_false] at hb
      exact h.sep j hj i hi hne b hb
theorem St.mark {L' : Nat → List Int} {k i b m : Nat} (h : St K gl A N C w0 w L') (hL : ∀ j, j < k → L' j = mks j (N j)) (hT : (L' k).take i = mks k i) (hk : k < K) (hi : i < N k) (hA : A k = some ⟨b, 0, none⟩) :
    ∃ L2, St K gl A N C w0 ((w.drewN m).setCell ⟨b, i, none⟩ (.int .i64 (Mk k i))) L2 ∧ (∀ j, j < k → L2 j = mks j (N j)) ∧ (L2 k).take (i + 1) = mks k (i + 1) := by
  have hb : Below w.heap.size w (w.drewN m) := ⟨rfl, rfl, rfl, Nat.le_refl _, fun _ _ => rfl⟩
  refine ⟨_, (h.below hb).put hk hi hA (Mk k i), fun j hj => ?_, ?_⟩
  · have : j ≠ k := by omega
    simp only [this, if_false]
    exact hL j hj
  · simp only [if_true]
    rw [set_take _ _ _ (by rw [h.len hk]; exact hi), hT, mks_succ]
theorem St.marked {L' : Nat → List Int} {k : Nat} (h : St K gl A N C w0 w L') (hL : ∀ j, j < k → L' j = mks j (N j)) (hT : (L' k).take (N k) = mks k (N k)) (hk : k < K) : ∀ j, j < k + 1 → L' j = mks j (N j) := by
  intro j hj
  by_cases e : j = k
  · subst e
    rw [← hT, List.take_of_length_le (by rw [h.len hk]; exact Nat.le_refl _)]
  · exact hL j (by omega)
/-- Where the grown rows' headers lie, and what is read of them. -/
theorem Gr.head {A5 : Option Addr} {n c5 : Nat} (h : Gr K gl A N C w0 w K (.slice A5 n c5) Gs E) (hK : 0 < K) : n = K ∧ ∃ gb, A5 = some ⟨gb, 0, none⟩ := by
  have hl : n = K := by
    have := (Kd.R_reads' h.gs).1
    simpa using this
  rcases (Kd.own_of_R h.gs).2 with ⟨_, h0⟩ | ⟨b, cap, cur, hv, _⟩
  · simp at h0; omega
  · exact ⟨hl, b, (Value.slice.inj hv).1⟩
theorem Gr.look {gb c5 j : Nat} (h : Gr K gl A N C w0 w K (.slice (some ⟨gb, 0, none⟩) K c5) Gs E) (hj : j < K) : ∃ a c, w.cell? ⟨gb, j, none⟩ = some (.slice a (E j).length c) ∧ (0 < (E j).length → ∃ b, a = some ⟨b, 0, none⟩ ∧ ∀ i, i < (E j).length → w.cell? ⟨b, i, none⟩ = some (.int .i64 (rdOf (0 : Int) (E j) i))) := by
  have hgs := h.gs
  have hlen : ((List.range K).map Gs).length = K := by simp
  rw [show (Value.slice (some ⟨gb, 0, none⟩) K c5) = .slice (some ⟨gb, 0, none⟩) ((List.range K).map Gs).length c5 by rw [hlen]] at hgs
  obtain ⟨hc, _⟩ := Kd.R_cell ((none, 0, 0) : Sl) hgs (j : Int) (by omega) (by omega)
  have e : rdOf ((none, 0, 0) : Sl) ((List.range K).map Gs) (j : Int) = Gs j := by simp [rdOf, hj, List.getD_eq_getElem?_getD]
  rw [e] at hc
  have hel := h.el j hj
  have hn := (Kd.R_reads' hel).1
  refine ⟨(Gs j).1, (Gs j).2.2, by rw [← hn]; simpa using hc, fun h0 => ?_⟩
  rcases (Kd.own_of_R hel).2 with ⟨_, h1⟩ | ⟨b, cap, cur, hv, _⟩
  · omega
  · have hA := (Value.slice.inj hv).1
    refine ⟨b, hA, fun i hi => ?_⟩
    have hel' := hel
    unfold sv at hel'
    rw [hA, hn] at hel'
    have := (Kd.R_cell (0 : Int) hel' (i : Int) (by omega) (by omega)).1
    simpa using this
theorem rd_take {l m : List Int} {n i : Nat} (h : l.take n = m) (hi : i < n) : rdOf (0 : Int) l (i : Int) = rdOf (0 : Int) m (i : Int) := by
  subst h
  simp [rdOf, List.getD_eq_getElem?_getD, List.getElem?_take, hi]
theorem Gr.nil (h : St K gl A N C w0 w (fun j => mks j (N j))) : Gr K gl A N C w0 w 0 (.slice none 0 0) Gs E := ⟨h, by simpa using Kd.R_nil SL _ _ _ _, fun j hj => absurd hj (by omega), fun j hj => absurd hj (by omega)⟩
end
end Go.Proofs.YtmldefednihohaaDoor.GrpAp
