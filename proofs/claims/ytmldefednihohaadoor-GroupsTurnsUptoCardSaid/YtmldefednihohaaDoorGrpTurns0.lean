/- Two tables, each with an index of its links, apart; what a link more and less changes: for GroupsTurns. -/
import Derived.Test.YtmldefednihohaaDoorGrpCloses
namespace Go.Proofs.YtmldefednihohaaDoor.Grp
open Go.RowKit Go.Proofs.YtmldefednihohaaDoorW.PrintWords Go.Proofs.YtmldefednihohaaDoorW.PrintLast Go.Proofs.YtmldefednihohaaDoorW.PrintMore
set_option linter.unusedVariables false
set_option linter.unusedSimpArgs false
set_option maxRecDepth 100000
/-- Two tables and their indexes, apart. -/
structure TR (w W : World) (ql gl cl qm gm cm n : Nat) (xl xm : Option Addr) (Sl Sm : Nat → Prop) (Ll Lm : Nat → Nat → Bool) (Pl Pm : Nat → Bool) : Prop where
  l : PlR w W ql gl cl n xl Sl Ll Pl
  m : PlR w W qm gm cm n xm Sm Lm Pm
  dl : ∀ k, Sl k → ¬ Sm k ∧ k ≠ qm ∧ k ≠ gm
  dm : ∀ k, Sm k → k ≠ ql ∧ k ≠ gl
  ne : ql ≠ gm ∧ qm ≠ gl ∧ gl ≠ gm
section
variable {w W W2 : World} {ql gl cl qm gm cm n : Nat} {xl xm : Option Addr} {Sl Sm : Nat → Prop} {Ll Lm : Nat → Nat → Bool} {Pl Pm : Nat → Bool}
theorem TR.below (h : TR w W ql gl cl qm gm cm n xl xm Sl Sm Ll Lm Pl Pm) (hb : Below W.heap.size W W2) : TR w W2 ql gl cl qm gm cm n xl xm Sl Sm Ll Lm Pl Pm :=
  { h with l := h.l.below hb, m := h.m.below hb }
theorem TR.playL (h : TR w W ql gl cl qm gm cm n xl xm Sl Sm Ll Lm Pl Pm) {S' : Nat → Prop} {L' : Nat → Nat → Bool} {P' : Nat → Bool} (hp : PlR w W2 ql gl cl n xl S' L' P') (hf : Fr W W2 (fun k => Sl k ∨ k = gl)) (hs : ∀ k, S' k → Sl k ∨ W.heap.size ≤ k) :
    TR w W2 ql gl cl qm gm cm n xl xm S' Sm L' Lm P' Pm := by
  have zm := h.m.gblt
  have zq := blk_lt h.m.top
  have zg := h.l.row.ge
  refine ⟨hp, h.m.far hf ?_, ?_, h.dm, h.ne⟩
  · rintro k (hk | hk)
    · have h1 := h.dl k hk
      exact ⟨(h.l.sg k hk).1, h1.1, h1.2.1, h1.2.2⟩
    · subst hk
      exact ⟨zg, fun e => (h.dm _ e).2 rfl, h.ne.2.1.symm, h.ne.2.2⟩
  · intro k hk
    rcases hs k hk with hk' | hk'
    · exact h.dl k hk'
    · exact ⟨fun e => by have := (h.m.sg k e).2.1; omega, by omega, by omega⟩
theorem TR.playM (h : TR w W ql gl cl qm gm cm n xl xm Sl Sm Ll Lm Pl Pm) {S' : Nat → Prop} {L' : Nat → Nat → Bool} {P' : Nat → Bool} (hp : PlR w W2 qm gm cm n xm S' L' P') (hf : Fr W W2 (fun k => Sm k ∨ k = gm)) (hs : ∀ k, S' k → Sm k ∨ W.heap.size ≤ k) :
    TR w W2 ql gl cl qm gm cm n xl xm Sl S' Ll L' Pl P' := by
  have zm := h.l.gblt
  have zq := blk_lt h.l.top
  have zg := h.m.row.ge
  refine ⟨h.l.far hf ?_, hp, ?_, ?_, h.ne⟩
  · rintro k (hk | hk)
    · have h1 := h.dm k hk
      exact ⟨(h.m.sg k hk).1, fun e => (h.dl k e).1 hk, h1.1, h1.2⟩
    · subst hk
      exact ⟨zg, fun e => (h.dl _ e).2.2 rfl, h.ne.1.symm, h.ne.2.2.symm⟩
  · intro k hk
    have h1 := h.dl k hk
    refine ⟨fun e => ?_, h1.2⟩
    rcases hs k e with hk' | hk'
    · exact h1.1 hk'
    · have := (h.l.sg k hk).2.1; omega
  · intro k hk
    rcases hs k hk with hk' | hk'
    · exact h.dm k hk'
    · exact ⟨by omega, by omega⟩
/-- The other index, by this table, where both tables are the same. -/
theorem TR.cross (h : TR w W ql gl cl qm gm cm n xl xm Sl Sm Ll Lm Pl Pm) (he : ∀ j, j < n * n → Pl j = Pm j) : PlR w W ql gl cl n xm Sm Lm Pl where
  px := h.m.px
  sg := fun k hk => ⟨(h.m.sg k hk).1, (h.m.sg k hk).2.1, (h.dm k hk).1, (h.dm k hk).2⟩
  row := h.l.row
  top := h.l.top
  ne := h.l.ne
  ag := fun a b ha hb => (he _ (idx_lt ha hb)).trans (h.m.ag a b ha hb)
  n1 := h.l.n1
  n24 := h.l.n24
theorem TR.same (h : TR w W ql gl cl qm gm cm n xl xm Sl Sm Ll Lm Pl Pm) (he : ∀ j, j < n * n → Pl j = Pm j) : ∀ a b, a < n → b < n → Ll a b = Lm a b := fun a b ha hb => by
  rw [← h.l.ag a b ha hb, ← h.m.ag a b ha hb]
  exact he _ (idx_lt ha hb)
end
theorem Rch.same {n : Nat} {L M : Nat → Nat → Bool} (hz : ∀ k x, L k x = true → k < n ∧ x < n) (he : ∀ a b, a < n → b < n → L a b = M a b) {a b : Nat} (h : Rch L a b) : Rch M a b :=
  h.more (fun k x hL => by have hl := hz k x hL; rw [← he k x hl.1 hl.2]; exact hL)
/-- An index of a table's number. -/
theorem idx_parts {n i : Nat} (h : i < n * n) : i / n < n ∧ i % n < n ∧ i / n * n + i % n = i := by
  have hn : 0 < n := Nat.pos_of_ne_zero (fun e => by subst e; omega)
  exact ⟨Nat.div_lt_of_lt_mul h, Nat.mod_lt _ hn, by rw [Nat.mul_comm]; exact Nat.div_add_mod i n⟩
theorem cntF_sub {P Q : Nat → Bool} (h : ∀ x, P x = true → Q x = true) (s : Nat) : ∀ k, cntF P s k ≤ cntF Q s k := by
  intro k
  induction k with
  | zero => exact Nat.le_refl _
  | succ k ih =>
    simp only [cntF]
    have : bz P (s + k) ≤ bz Q (s + k) := by
      unfold bz
      cases hP : P (s + k) with
      | false => simp
      | true => rw [h _ hP]; exact Nat.le_refl _
    omega
/-- More links: no fewer pairs. -/
theorem pairs_more {n : Nat} {L M R R2 : Nat → Nat → Bool} (h1 : IsR L R) (h2 : IsR M R2) (hs : ∀ k x, L k x = true → M k x = true) : ∀ k, pairsN n R k ≤ pairsN n R2 k := by
  intro k
  induction k with
  | zero => exact Nat.le_refl _
  | succ k ih =>
    simp only [pairsN]
    have : (elems (R k) n).length ≤ (elems (R2 k) n).length := by
      rw [elems_cntF, elems_cntF]
      exact cntF_sub (fun x hx => (h2 k x).2 (((h1 k x).1 hx).more hs)) 0 n
    omega
/-- A link that was not there, added and cut. -/
theorem cut_add {n i j : Nat} {L : Nat → Nat → Bool} (hi : i < n) (hj : j < n) (hL : L i j = false) : cutT n (addT n L (i : Int) (j : Int)) (i : Int) (j : Int) = L := by
  have hok : (okG n (i : Int) && okG n (j : Int)) = true := by
    rw [Bool.and_eq_true]; exact ⟨decide_eq_true (by omega), decide_eq_true (by omega)⟩
  have e1 : addT n L (i : Int) (j : Int) = addL L i j := by unfold addT; rw [hok, Int.toNat_natCast, Int.toNat_natCast, hL]; rfl
  have e2 : addL L i j i j = true := (addL_iff L i j i j).2 (.inr ⟨rfl, rfl⟩)
  have e3 : cutT n (addL L i j) (i : Int) (j : Int) = cutL (addL L i j) i j := by unfold cutT; rw [hok, Int.toNat_natCast, Int.toNat_natCast, e2]; rfl
  rw [e1, e3]
  funext k x
  unfold cutL upX
  by_cases e : k = i
  · subst e
    rw [if_pos rfl]
    by_cases ex : x = j
    · subst ex
      rw [hL]; simp
    · have : (x == j) = false := by simp; exact ex
      rw [this, Bool.not_false, Bool.and_true]
      exact bool_iff ⟨fun h => ((addL_iff L k j k x).1 h).elim id (fun h => absurd h.2 ex), fun h => (addL_iff L k j k x).2 (.inl h)⟩
  · rw [if_neg e]
    exact bool_iff ⟨fun h => ((addL_iff L i j k x).1 h).elim id (fun h => absurd h.1 e), fun h => (addL_iff L i j k x).2 (.inl h)⟩
end Go.Proofs.YtmldefednihohaaDoor.Grp
