/- Rows that were handed out and stay as they are: for GroupsSpares. -/
import Derived.Test.YtmldefednihohaaDoorSxGrpTells
import Derived.Test.YtmldefednihohaaDoorSxGrpApart
namespace Go.Proofs.YtmldefednihohaaDoor.Grp
open Go.RowKit Go.Proofs.YtmldefednihohaaDoorW.PrintWords Go.Proofs.YtmldefednihohaaDoorW.PrintLast Go.Proofs.YtmldefednihohaaDoorW.PrintMore
set_option linter.unusedVariables false
set_option linter.unusedSimpArgs false
set_option maxRecDepth 100000
/-- A row of one's own, its block in z0 to z1 - 1. -/
structure Own (W : World) (z0 z1 : Nat) (u : Sl) (l : List Int) : Prop where
  r : I64.R 3 W 0 (fun _ => True) (sv u) l
  lo : ∀ b, (sv u).ownBlock = some b → z0 ≤ b ∧ b < z1
section
variable {W W2 : World} {z0 z1 : Nat} {u : Sl} {l : List Int}
theorem Own.kept (h : Own W z0 z1 u l) {S : Nat → Prop} (hf : Fr W W2 S) (hS : ∀ k, S k → k < z0 ∨ z1 ≤ k) : Own W2 z0 z1 u l :=
  ⟨other h.r hf.2 (fun b hb e => by have h1 := h.lo b hb; have h2 := hS b e; omega), h.lo⟩
theorem Own.below (h : Own W z0 z1 u l) (hb : Below W.heap.size W W2) : Own W2 z0 z1 u l := ⟨Kd.R_below h.r hb, h.lo⟩
theorem Own.wide (h : Own W z0 z1 u l) {y0 y1 : Nat} (h0 : y0 ≤ z0) (h1 : z1 ≤ y1) : Own W y0 y1 u l := ⟨h.r, fun b hb => by have := h.lo b hb; omega⟩
theorem Own.len (h : Own W z0 z1 u l) : u.2.1 = l.length := (Kd.R_reads' h.r).1
theorem Own.new {A : Option Addr} {n c : Nat} {base : Nat} {ok : Nat → Prop} (h : I64.R 3 W base ok (.slice A n c) l) : Own W base W.heap.size (A, n, c) l := by
  have ho := Kd.own_of_R h
  refine ⟨Kd.R_of_own (h1 := fun _ => rfl) (v := .slice A n c) (base := 0) ⟨ho.1, ho.2.imp id fun ⟨g, cap, cur, h1, h2, h3⟩ => ⟨g, cap, cur, h1, Nat.zero_le _, h3⟩⟩ (fun _ _ => trivial), fun b hb => ⟨own_base ho b hb, own_lt ho b hb⟩⟩
theorem Own.same (h1 : Own W z0 z1 u l) {y0 y1 : Nat} {u2 : Sl} (h2 : Own W y0 y1 u2 l) (hl : l.length ≤ 4096) :
    Calls Tryd.prog 26 #[sv u, sv u2] W fun e w' => e = .returned (.bool true) ∧ Below W.heap.size W w' :=
  (same_calls hl h1.r h2.r).mono fun e w' hh => ⟨hh.1, hh.2.below⟩
end
theorem same3 {W : World} {z0 z1 y0 y1 : Nat} {A A2 : Option Addr} {m c m2 c2 : Nat} {l : List Int} (h1 : Own W z0 z1 (A, m, c) l) (h2 : Own W y0 y1 (A2, m2, c2) l) (hl : l.length ≤ 4096) :
    Calls Tryd.prog 26 #[.slice A m c, .slice A2 m2 c2] W fun e w' => e = .returned (.bool true) ∧ Below W.heap.size W w' := Own.same (u := (A, m, c)) (u2 := (A2, m2, c2)) h1 h2 hl
def six {α : Type} (a b c d e f : α) : Nat → α
  | 0 => a
  | 1 => b
  | 2 => c
  | 3 => d
  | 4 => e
  | _ => f
theorem six_all {p : Nat → Prop} (h0 : p 0) (h1 : p 1) (h2 : p 2) (h3 : p 3) (h4 : p 4) (h5 : p 5) : ∀ k, k < 6 → p k := fun k hk => by
  rcases (show k = 0 ∨ k = 1 ∨ k = 2 ∨ k = 3 ∨ k = 4 ∨ k = 5 by omega) with rfl | rfl | rfl | rfl | rfl | rfl <;> assumption
/-- Six rows that were handed out one behind the other, their headers in gl. -/
theorem st_six {W : World} {gl z0 z1 z2 z3 z4 z5 z6 : Nat} {u0 u1 u2 u3 u4 u5 : Sl} {l0 l1 l2 l3 l4 l5 : List Int}
    (o0 : Own W z0 z1 u0 l0) (o1 : Own W z1 z2 u1 l1) (o2 : Own W z2 z3 u2 l2) (o3 : Own W z3 z4 u3 l3) (o4 : Own W z4 z5 u4 l4) (o5 : Own W z5 z6 u5 l5)
    (e1 : z0 ≤ z1) (e2 : z1 ≤ z2) (e3 : z2 ≤ z3) (e4 : z3 ≤ z4) (e5 : z4 ≤ z5) (e6 : z5 ≤ z6) (e7 : z6 ≤ gl)
    (hg : W.heap[gl]? = some (.cells #[sv u0, sv u1, sv u2, sv u3, sv u4, sv u5] 29 (0, 0))) :
    GrpAp.St 6 gl (fun k => (six u0 u1 u2 u3 u4 u5 k).1) (fun k => (six u0 u1 u2 u3 u4 u5 k).2.1) (fun k => (six u0 u1 u2 u3 u4 u5 k).2.2) W W (six l0 l1 l2 l3 l4 l5) := by
  have hgl := blk_lt hg
  have hr : ∀ k, k < 6 → Own W (six z0 z1 z2 z3 z4 z5 k) (six z1 z2 z3 z4 z5 z6 k) (six u0 u1 u2 u3 u4 u5 k) (six l0 l1 l2 l3 l4 l5 k) := six_all o0 o1 o2 o3 o4 o5
  have hz : ∀ i, i < 6 → ∀ j, j < 6 → i < j → six z1 z2 z3 z4 z5 z6 i ≤ six z0 z1 z2 z3 z4 z5 j := by
    intro i hi j hj hij
    rcases (show i = 0 ∨ i = 1 ∨ i = 2 ∨ i = 3 ∨ i = 4 ∨ i = 5 by omega) with rfl | rfl | rfl | rfl | rfl | rfl <;>
    rcases (show j = 0 ∨ j = 1 ∨ j = 2 ∨ j = 3 ∨ j = 4 ∨ j = 5 by omega) with rfl | rfl | rfl | rfl | rfl | rfl <;>
    first | omega | (simp only [six]; omega)
  have hz6 : ∀ i, i < 6 → six z1 z2 z3 z4 z5 z6 i ≤ z6 := six_all (p := fun i => six z1 z2 z3 z4 z5 z6 i ≤ z6) (by simp only [six]; omega) (by simp only [six]; omega) (by simp only [six]; omega) (by simp only [six]; omega) (by simp only [six]; omega) (by simp only [six]; omega)
  exact {
    hd := six_all (p := fun k => W.cell? ⟨gl, k, none⟩ = some (GrpAp.rowV (fun k => (six u0 u1 u2 u3 u4 u5 k).1) (fun k => (six u0 u1 u2 u3 u4 u5 k).2.1) (fun k => (six u0 u1 u2 u3 u4 u5 k).2.2) k)) ((blk_cell hg 0).trans rfl) ((blk_cell hg 1).trans rfl) ((blk_cell hg 2).trans rfl) ((blk_cell hg 3).trans rfl) ((blk_cell hg 4).trans rfl) ((blk_cell hg 5).trans rfl)
    hg := hgl
    row := fun k hk => (hr k hk).r
    fr := Fr.refl _ _
    sep := fun i hi j hj hne b hb hb' => by
      have h1 := (hr i hi).lo b hb
      have h2 := (hr j hj).lo b hb'
      rcases Nat.lt_or_gt_of_ne hne with h | h
      · have := hz i hi j hj h; omega
      · have := hz j hj i hi h; omega
    gsep := fun i hi hb => by
      have h1 := (hr i hi).lo gl hb
      have h2 := hz6 i hi
      omega
    lt := fun i hi b hb => by
      have h1 := (hr i hi).lo b hb
      have h2 := hz6 i hi
      omega }
section
variable {w W V : World} {q n : Nat} {x r : Option Addr} {S : Nat → Prop} {L R : Nat → Nat → Bool}
theorem PO.above (h : PO w W q x r n S L) (hgl : GL w) (hr : IsR L R) (a : Int) (hb : Below W.heap.size W V) :
    Calls Tryd.prog 14 #[.pointer x, .int .i64 a] V fun e w' => ∃ A m c, e = .returned (.slice A m c) ∧ Own w' V.heap.size w'.heap.size (A, m, c) (aboveS n R a) ∧ Below V.heap.size V w' := by
  obtain ⟨Sx, Sr, h1, h2, h3, h4, hp, hq⟩ := h.d
  refine (pabove_calls Sx V (.pointer x) n L R a (hp.below hb) hr (hgl.below (below_step h.low hb))).mono ?_
  rintro e w' ⟨u, rfl, hu, b⟩
  obtain ⟨A, c, rfl⟩ := Kd.R_slice hu
  exact ⟨A, _, c, rfl, Own.new hu, b⟩
theorem PO.belw (h : PO w W q x r n S L) (hr : IsR L R) (a : Int) (hb : Below W.heap.size W V) :
    Calls Tryd.prog 15 #[.pointer x, .int .i64 a] V fun e w' => ∃ A m c, e = .returned (.slice A m c) ∧ Own w' V.heap.size w'.heap.size (A, m, c) (belowS n R a) ∧ Below V.heap.size V w' := by
  obtain ⟨Sx, Sr, h1, h2, h3, h4, hp, hq⟩ := h.d
  refine (pbelow_calls Sx V (.pointer x) n L R a (hp.below hb) hr).mono ?_
  rintro e w' ⟨u, rfl, hu, b⟩
  obtain ⟨A, c, rfl⟩ := Kd.R_slice hu
  exact ⟨A, _, c, rfl, Own.new hu, b⟩
theorem PO.rabove (h : PO w W q x r n S L) (hr : IsR L R) (a : Int) (hb : Below W.heap.size W V) :
    Calls Tryd.prog 24 #[.pointer r, .int .i64 a] V fun e w' => ∃ A m c, e = .returned (.slice A m c) ∧ Own w' V.heap.size w'.heap.size (A, m, c) (aboveS n R a) ∧ Below V.heap.size V w' := by
  obtain ⟨Sx, Sr, h1, h2, h3, h4, hp, hq⟩ := h.d
  refine (rabove_calls Sr V (.pointer r) n L R a (hq.kept (Kept.of_below hb (fun _ => False)) (fun _ _ h => h)) hr).mono ?_
  rintro e w' ⟨u, rfl, hu, b⟩
  obtain ⟨A, c, rfl⟩ := Kd.R_slice hu
  exact ⟨A, _, c, rfl, Own.new hu, b⟩
theorem PO.rbelow (h : PO w W q x r n S L) (hr : IsR L R) (a : Int) (hb : Below W.heap.size W V) :
    Calls Tryd.prog 25 #[.pointer r, .int .i64 a] V fun e w' => ∃ A m c, e = .returned (.slice A m c) ∧ Own w' V.heap.size w'.heap.size (A, m, c) (belowS n R a) ∧ Below V.heap.size V w' := by
  obtain ⟨Sx, Sr, h1, h2, h3, h4, hp, hq⟩ := h.d
  refine (rbelow_calls Sr V (.pointer r) n L R a (hq.kept (Kept.of_below hb (fun _ => False)) (fun _ _ h => h)) hr).mono ?_
  rintro e w' ⟨u, rfl, hu, b⟩
  obtain ⟨A, c, rfl⟩ := Kd.R_slice hu
  exact ⟨A, _, c, rfl, Own.new hu, b⟩
/-- A step on the pair, and what it turned. -/
theorem PO.calls2 (h : PO w W q x r n S L) (hgl : GL w) (kk wh a b : Int) :
    Calls Tryd.prog 18 #[.agg #[.pointer x, .pointer r], .agg #[.int .i64 kk, .int .i64 wh, .int .i64 a, .int .i64 b]] W fun e w' => e = .returned (.bool true) ∧ ∃ L', PO w w' q x r n (Mo S W w') L' ∧ Fr W w' S := by
  refine (step_calls S W x r n L kk wh a b h.d (hgl.below h.low) (fun e => by have h1 := (h.g 0 e).1; have h2 := gl_pos1 hgl; omega)).mono ?_
  rintro e w' ⟨rfl, ⟨L8, d8⟩, f8⟩
  exact ⟨rfl, _, h.step d8 f8, f8⟩
end
end Go.Proofs.YtmldefednihohaaDoor.Grp
