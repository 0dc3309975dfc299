/- Orders by three-way comparisons; values, and how they stand to each other (no program in sight). -/
import Derived.Test.YtgkocbbpkiechaaFltI
import Derived.Lib.Bytealg
namespace Go.Proofs.Ytgkocbbpkiechaa.Val
open Go.Proofs.Ytgkocbbpkiechaa.Flt
set_option linter.unusedVariables false
set_option linter.unusedSimpArgs false
def cmpI (x y : Int) : Int := if x < y then -1 else if y < x then 1 else 0
theorem cmpI_lt {x y : Int} (h : x < y) : cmpI x y = -1 := by unfold cmpI; rw [if_pos h]
theorem cmpI_gt {x y : Int} (h : y < x) : cmpI x y = 1 := by unfold cmpI; rw [if_neg (by omega), if_pos h]
theorem cmpI_eq {x y : Int} (h : x = y) : cmpI x y = 0 := by unfold cmpI; rw [if_neg (by omega), if_neg (by omega)]
/-- A three-way comparison that is an order. -/
structure Ord3 {α : Type} (c : α → α → Int) : Prop where
  lo : ∀ a b, -1 ≤ c a b
  anti : ∀ a b, c a b = -c b a
  le : ∀ a b d, c a b ≤ 0 → c b d ≤ 0 → c a d ≤ 0
  lt : ∀ a b d, c a b ≤ 0 → c b d ≤ 0 → (c a b < 0 ∨ c b d < 0) → c a d < 0
section
variable {α : Type} {c : α → α → Int}
theorem Ord3.hi (h : Ord3 c) (a b : α) : c a b ≤ 1 := by have := h.lo b a; have := h.anti a b; omega
theorem Ord3.refl (h : Ord3 c) (a : α) : c a a = 0 := by have := h.anti a a; omega
theorem Ord3.map {β : Type} (h : Ord3 c) (f : β → α) : Ord3 (fun x y => c (f x) (f y)) :=
  ⟨fun a b => h.lo _ _, fun a b => h.anti _ _, fun a b d => h.le _ _ _, fun a b d => h.lt _ _ _⟩
/-- One list before another: by the first place at which they differ. -/
def lexC (c : α → α → Int) : List α → List α → Int
  | [], [] => 0
  | [], _ :: _ => -1
  | _ :: _, [] => 1
  | a :: as, b :: bs => if c a b = 0 then lexC c as bs else c a b
theorem lex_ord (h : Ord3 c) : Ord3 (lexC c) := by
  have lo : ∀ x y, -1 ≤ lexC c x y := by
    intro x
    induction x with
    | nil => intro y; cases y <;> simp [lexC]
    | cons a x ih =>
      intro y
      cases y with
      | nil => simp [lexC]
      | cons b y => simp only [lexC]; split
                    · exact ih y
                    · exact h.lo a b
  have anti : ∀ x y, lexC c x y = -lexC c y x := by
    intro x
    induction x with
    | nil => intro y; cases y <;> simp [lexC]
    | cons a x ih =>
      intro y
      cases y with
      | nil => simp [lexC]
      | cons b y =>
        have e := h.anti a b
        simp only [lexC]
        by_cases e0 : c a b = 0
        · rw [if_pos e0, if_pos (by omega)]; exact ih y
        · rw [if_neg e0, if_neg (by omega)]; exact e
  have both : ∀ x y z, lexC c x y ≤ 0 → lexC c y z ≤ 0 → lexC c x z ≤ 0 ∧ ((lexC c x y < 0 ∨ lexC c y z < 0) → lexC c x z < 0) := by
    intro x
    induction x with
    | nil =>
      intro y z h1 h2
      cases y with
      | nil => exact ⟨h2, fun h3 => h3.elim (fun h4 => by simp [lexC] at h4) id⟩
      | cons b y =>
        cases z with
        | nil => simp [lexC] at h2
        | cons d z => exact ⟨by simp [lexC], fun _ => by simp [lexC]⟩
    | cons a x ih =>
      intro y z h1 h2
      cases y with
      | nil => simp [lexC] at h1
      | cons b y =>
        cases z with
        | nil => simp [lexC] at h2
        | cons d z =>
          simp only [lexC] at h1 h2 ⊢
          by_cases e1 : c a b = 0
          · rw [if_pos e1] at h1 ⊢
            have f2 : c a d = c b d := by
              have g1 := h.le a b d (by omega)
              have g2 := h.le b a d (by have := h.anti a b; omega)
              have g3 := h.lt a b d (by omega)
              have g4 := h.lt b a d (by have := h.anti a b; omega)
              have l1 := h.lo a d
              have l2 := h.lo b d
              have l3 := h.hi a d
              have l4 := h.hi b d
              have a1 := h.anti a b
              by_cases p : c b d ≤ 0
              · by_cases p0 : c b d < 0
                · have := g3 p (.inr p0); omega
                · have q := g1 p
                  by_cases q0 : c a d < 0
                  · have := g4 q (.inr q0); omega
                  · omega
              · by_cases q : c a d ≤ 0
                · have := g2 q; omega
                · omega
            by_cases e2 : c b d = 0
            · rw [if_pos e2] at h2 ⊢
              rw [if_pos (by omega)]
              exact ih y z h1 h2
            · rw [if_neg e2] at h2 ⊢
              rw [if_neg (by omega), f2]
              exact ⟨h2, fun _ => by omega⟩
          · rw [if_neg e1] at h1 ⊢
            by_cases e2 : c b d = 0
            · rw [if_pos e2] at h2 ⊢
              have := h.lt a b d h1 (by omega) (.inl (by omega))
              rw [if_neg (by omega)]
              exact ⟨by omega, fun _ => by omega⟩
            · rw [if_neg e2] at h2 ⊢
              have := h.lt a b d h1 h2 (.inl (by omega))
              rw [if_neg (by omega)]
              exact ⟨by omega, fun _ => by omega⟩
  exact ⟨lo, anti, fun x y z h1 h2 => (both x y z h1 h2).1, fun x y z h1 h2 h3 => (both x y z h1 h2).2 h3⟩
theorem lex_zero (h : Ord3 c) (hz : ∀ a b, c a b = 0 → a = b) : ∀ x y, lexC c x y = 0 → x = y := by
  intro x
  induction x with
  | nil => intro y e; cases y with
    | nil => rfl
    | cons b y => simp [lexC] at e
  | cons a x ih =>
    intro y e
    cases y with
    | nil => simp [lexC] at e
    | cons b y =>
      simp only [lexC] at e
      split at e
      · next e0 => rw [hz a b e0, ih y e]
      · next e0 => exact absurd e e0
/-- The first places are alike. -/
theorem lex_drop (c : α → α → Int) : ∀ (i : Nat) (x y : List α), i ≤ x.length → i ≤ y.length → (∀ j (h1 : j < x.length) (h2 : j < y.length), j < i → c x[j] y[j] = 0) → lexC c x y = lexC c (x.drop i) (y.drop i) := by
  intro i
  induction i with
  | zero => intro x y _ _ _; rfl
  | succ i ih =>
    intro x y hx hy he
    cases x with
    | nil => simp at hx
    | cons a x =>
      cases y with
      | nil => simp at hy
      | cons b y =>
        have h0 : c a b = 0 := he 0 (by simp) (by simp) (by omega)
        simp only [lexC, if_pos h0, List.drop_succ_cons]
        exact ih x y (by simp at hx; omega) (by simp at hy; omega) (fun j h1 h2 hj => he (j + 1) (by simp; omega) (by simp; omega) (by omega))
end
theorem ord_I : Ord3 cmpI := by
  refine ⟨fun a b => ?_, fun a b => ?_, fun a b d => ?_, fun a b d => ?_⟩ <;> unfold cmpI <;> (repeat' split) <;> omega
theorem ord_I_mul (x y : Int) {D : Int} (h : 0 < D) : cmpI (x * D) (y * D) = cmpI x y := by
  rcases Int.lt_trichotomy x y with e | e | e
  · rw [cmpI_lt e, cmpI_lt (Int.mul_lt_mul_of_pos_right e h)]
  · rw [cmpI_eq e, cmpI_eq (by rw [e])]
  · rw [cmpI_gt e, cmpI_gt (Int.mul_lt_mul_of_pos_right e h)]
def cmpU (a b : UInt8) : Int := cmpI a.toNat b.toNat
theorem bytes_lex : ∀ a b, Go.Lib.compareBytes a b = lexC cmpU a b := by
  intro a
  induction a with
  | nil => intro b; cases b <;> rfl
  | cons x a ih =>
    intro b
    cases b with
    | nil => rfl
    | cons y b =>
      simp only [Go.Lib.compareBytes, lexC]
      have e1 : (x < y) ↔ ((x.toNat : Int) < y.toNat) := by rw [UInt8.lt_iff_toNat_lt]; omega
      have e2 : (y < x) ↔ ((y.toNat : Int) < x.toNat) := by rw [UInt8.lt_iff_toNat_lt]; omega
      by_cases h1 : x < y
      · have hc : cmpU x y = -1 := cmpI_lt (e1.1 h1)
        simp [h1, hc]
      · by_cases h2 : y < x
        · have hc : cmpU x y = 1 := cmpI_gt (e2.1 h2)
          simp [h1, h2, hc]
        · have hc : cmpU x y = 0 := cmpI_eq (by
            have g1 : ¬ ((x.toNat : Int) < y.toNat) := fun h => h1 (e1.2 h)
            have g2 : ¬ ((y.toNat : Int) < x.toNat) := fun h => h2 (e2.2 h)
            omega)
          simp [h1, h2, hc, ih b]
/-- Two texts, byte by byte. -/
def cmpB (a b : ByteArray) : Int := Go.Lib.compareBytes a.data.toList b.data.toList
theorem ord_B : Ord3 cmpB := by
  have h := (lex_ord (ord_I.map (fun x : UInt8 => (x.toNat : Int)))).map (fun a : ByteArray => a.data.toList)
  have e : cmpB = fun x y => lexC (fun x y => cmpI ((x : UInt8).toNat : Int) ((y : UInt8).toNat : Int)) x.data.toList y.data.toList := by
    funext x y; exact bytes_lex _ _
  rw [e]; exact h
theorem bytes_inj {a b : ByteArray} (h : a.data.toList = b.data.toList) : a = b := by
  cases a with | mk a => cases b with | mk b => simp at h; rw [h]
theorem cmpB_zero {a b : ByteArray} (h : cmpB a b = 0) : a = b := by
  apply bytes_inj
  have h : lexC cmpU a.data.toList b.data.toList = 0 := (bytes_lex _ _).symm.trans h
  exact lex_zero (ord_I.map (fun x : UInt8 => (x.toNat : Int))) (fun a b e => by
    apply UInt8.toNat_inj.1
    unfold cmpI at e
    split at e
    · omega
    · split at e <;> omega) _ _ h
theorem less_B (a b : ByteArray) : Op.bytesLess a.toList b.toList = decide (cmpB a b < 0) := by
  rw [Go.Lib.toList_data, Go.Lib.toList_data]
  unfold cmpB
  generalize a.data.toList = x
  generalize b.data.toList = y
  induction x generalizing y with
  | nil => cases y <;> rfl
  | cons u x ih =>
    cases y with
    | nil => rfl
    | cons v y =>
      simp only [Op.bytesLess, Go.Lib.compareBytes]
      by_cases h1 : u < v
      · simp [h1]
      · by_cases h2 : v < u
        · have h3 : ¬ u = v := fun e => by rw [e] at h2; exact absurd h2 (UInt8.lt_irrefl v)
          simp [h1, h2, h3]
        · have h3 : u = v := UInt8.le_antisymm (UInt8.not_lt.1 h2) (UInt8.not_lt.1 h1)
          subst h3
          simp [h1, ih y]
theorem same_B (a b : ByteArray) : (a.toList == b.toList) = decide (a = b) := by
  rw [Go.Lib.toList_data, Go.Lib.toList_data]
  by_cases h : a = b
  · subst h; simp
  · rw [decide_eq_false h]
    simp
    intro e
    exact h (by cases a; cases b; simp at e; rw [e])
end Go.Proofs.Ytgkocbbpkiechaa.Val
