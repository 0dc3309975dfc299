/- Plain lemmas on what the printed functions of IdentCompares and IdentOrder answer -/
import Derived.Test.YtdeagmenlijieaaQCx3
import Derived.Test.YtdeagmenlijieaaQCx4
namespace Go.Proofs.Ytdeagmenlijieaa.QC
open Go.RowKit Go.Proofs.YtdeagmenlijieaaW.PrintWords Go.Proofs.YtdeagmenlijieaaW.PrintLast
set_option linter.unusedVariables false
set_option linter.unusedSimpArgs false
section
def cmpL (x y : List UInt8) : Int := if (Op.bytesLess x y) = true then (-1) else if (x == y) = true then 0 else 1
theorem cmpL_nil : cmpL [] [] = 0 := rfl
theorem cmpL_nl (b : UInt8) (y : List UInt8) : cmpL [] (b :: y) = -1 := rfl
theorem cmpL_nr (a : UInt8) (x : List UInt8) : cmpL (a :: x) [] = 1 := rfl
theorem cmpL_cons (a b : UInt8) (x y : List UInt8) : cmpL (a :: x) (b :: y) = if a.toNat < b.toNat then -1 else if b.toNat < a.toNat then 1 else cmpL x y := by
  have e : (Op.bytesLess (a :: x) (b :: y)) = (decide (a < b) || (a == b && Op.bytesLess x y)) := rfl
  unfold cmpL
  rw [e]
  by_cases h : a.toNat < b.toNat
  · have : a < b := h
    simp [h, this]
  · have h' : ¬ a < b := h
    by_cases g : b.toNat < a.toNat
    · have : a ≠ b := fun e => by subst e; omega
      simp [h, h', g, this]
    · have : a = b := UInt8.toNat_inj.1 (by omega)
      subst this
      simp [h']
theorem cmpL_range (x y : List UInt8) : -1 ≤ cmpL x y ∧ cmpL x y ≤ 1 := by
  unfold cmpL
  split <;> (try split) <;> omega
theorem cmpL_anti : ∀ x y : List UInt8, cmpL y x = - cmpL x y
  | [], [] => rfl
  | [], b :: y => rfl
  | a :: x, [] => rfl
  | a :: x, b :: y => by
    rw [cmpL_cons, cmpL_cons]
    have := cmpL_anti x y
    split <;> split <;> (try split) <;> omega
theorem cmpL_zero : ∀ x y : List UInt8, cmpL x y = 0 ↔ x = y
  | [], [] => by simp [cmpL_nil]
  | [], b :: y => by simp [cmpL_nl]
  | a :: x, [] => by simp [cmpL_nr]
  | a :: x, b :: y => by
    rw [cmpL_cons]
    have ih := cmpL_zero x y
    by_cases h : a.toNat < b.toNat
    · have : a ≠ b := fun e => by subst e; omega
      simp [h, this]
    · by_cases g : b.toNat < a.toNat
      · have : a ≠ b := fun e => by subst e; omega
        simp [h, g, this]
      · have : a = b := UInt8.toNat_inj.1 (by omega)
        subst this
        simp [ih]
theorem cmpL_trans : ∀ x y z : List UInt8, cmpL x y < 0 → cmpL y z < 0 → cmpL x z < 0
  | [], [], z => by rw [cmpL_nil]; omega
  | [], b :: y, [] => by rw [cmpL_nr]; omega
  | [], b :: y, c :: z => by rw [cmpL_nl, cmpL_nl]; omega
  | a :: x, [], z => by rw [cmpL_nr]; omega
  | a :: x, b :: y, [] => by rw [cmpL_nr]; omega
  | a :: x, b :: y, c :: z => by
    have ih := cmpL_trans x y z
    rw [cmpL_cons, cmpL_cons, cmpL_cons]
    repeat' split
    all_goals omega
def cmpB (a b : ByteArray) : Int := cmpL a.toList b.toList
theorem compare_eq (a b : ByteArray) : cmp_Compare_string.f a b = some (cmpB a b) := by
  unfold cmp_Compare_string.f cmpB cmpL
  split
  · rfl
  · split <;> rfl
def first2 (x y : Int) : Int := if x = 0 then y else x
theorem first2_zero (x y : Int) : first2 x y = 0 ↔ x = 0 ∧ y = 0 := by
  unfold first2; split <;> simp_all
theorem or2 (x y : Int) (k : Nat) : cmp_Or_int.f (k + 3) [x, y] = some (first2 x y) := by
  unfold cmp_Or_int.f first2
  simp only [cmp_Or_int.l0]
  have w1 : wrap64 1 = 1 := by unfold wrap64; omega
  have w2 : wrap64 2 = 2 := by unfold wrap64; omega
  by_cases h : x = 0
  · subst h
    by_cases g : y = 0
    · subst g; simp [rd, w1, w2]
    · simp [rd, w1, w2, g]
  · simp [rd, h]
theorem or3 (x y z : Int) (k : Nat) : cmp_Or_int.f (k + 4) [x, y, z] = some (first2 (first2 x y) z) := by
  unfold cmp_Or_int.f first2
  simp only [cmp_Or_int.l0]
  have w1 : wrap64 1 = 1 := by unfold wrap64; omega
  have w2 : wrap64 2 = 2 := by unfold wrap64; omega
  have w3 : wrap64 3 = 3 := by unfold wrap64; omega
  by_cases h : x = 0
  · subst h
    by_cases g : y = 0
    · subst g
      by_cases f : z = 0
      · subst f; simp [rd, w1, w2, w3]
      · simp [rd, w1, w2, w3, f]
    · simp [rd, w1, w2, g]
  · simp [rd, h]
theorem cobj_eq (a b c d : ByteArray) (k : Nat) : ident_CompareObjects.f (k + 4) a b c d = some (first2 (cmpB a c) (cmpB b d)) := by
  unfold ident_CompareObjects.f
  simp only [compare_eq, Option.bind_some, or2 _ _ (k + 1)]
theorem csub_eq (a b c d e f : ByteArray) (k : Nat) : ident_CompareSubjects.f (k + 4) a b c d e f = some (first2 (first2 (cmpB a d) (cmpB b e)) (cmpB c f)) := by
  unfold ident_CompareSubjects.f
  simp only [compare_eq, Option.bind_some, or3]
end
section
theorem wrap_small {i : Int} {n : Nat} (h0 : 0 ≤ i) (h : i < (n : Int)) (hn : n ≤ maxLen) : wrap64 (i + 1) = i + 1 := by
  unfold maxLen at hn
  unfold wrap64
  omega
theorem toList_length (s : ByteArray) : s.toList.length = s.size := by rw [ByteArray.toList_eq, Array.length_toList]; rfl
theorem drop_bt (s : ByteArray) (i : Nat) (h : i < s.size) : ∃ c, s.toList.drop i = c :: s.toList.drop (i + 1) ∧ bt s i = (c.toNat : Int) := by
  have h' : i < s.toList.length := by rw [toList_length]; exact h
  refine ⟨s.toList[i], List.drop_eq_getElem_cons h', ?_⟩
  unfold bt
  rw [dif_pos (show (i : Int).toNat < s.size by simpa using h)]
  have : s.toList[i] = s[i] := by simp only [ByteArray.toList_eq]; rfl
  rw [this]; rfl
theorem texts_loop (a b : ByteArray) (ha : a.size ≤ maxLen) : ∀ (d k i : Nat), i ≤ a.size → i ≤ b.size → a.size - i = d → 2 * d + 2 ≤ k →
    latchkeyref01_Texts.l0 k a b i = some (cmpL (a.toList.drop i) (b.toList.drop i)) := by
  intro d
  induction d with
  | zero =>
    intro k i h0 h1 hd hk
    obtain ⟨k, rfl⟩ : ∃ m, k = m + 2 := ⟨k - 2, by omega⟩
    simp only [latchkeyref01_Texts.l0, latchkeyref01_Texts.j1]
    rw [if_neg (by omega)]
    have e : a.toList.drop i = [] := List.drop_eq_nil_of_le (by rw [toList_length]; omega)
    rw [e]
    by_cases c : i < b.size
    · obtain ⟨y, hy, _⟩ := drop_bt b i c
      rw [hy, cmpL_nl, if_neg (by simp), if_pos (by omega)]
    · have e' : b.toList.drop i = [] := List.drop_eq_nil_of_le (by rw [toList_length]; omega)
      rw [e', cmpL_nil, if_neg (by simp), if_neg (by omega), if_neg (by omega)]
  | succ d ih =>
    intro k i h0 h1 hd hk
    obtain ⟨k, rfl⟩ : ∃ m, k = m + 2 := ⟨k - 2, by omega⟩
    simp only [latchkeyref01_Texts.l0, latchkeyref01_Texts.j1]
    rw [if_pos (by omega)]
    obtain ⟨x, hx, ex⟩ := drop_bt a i (by omega)
    by_cases c : i < b.size
    · obtain ⟨y, hy, ey⟩ := drop_bt b i c
      have ih' := ih k (i + 1) (by omega) (by omega) (by omega) (by omega)
      have e1 : ((i + 1 : Nat) : Int) = (i : Int) + 1 := by omega
      rw [e1] at ih'
      rw [if_pos (by simpa using c), if_pos (by omega), if_pos (by omega), if_pos (by omega), wrap_small (n := a.size) (by omega) (by omega) ha, ih', hx, hy, cmpL_cons, ex, ey]
      by_cases p : x.toNat < y.toNat
      · rw [if_pos (by omega), if_pos p]
      · rw [if_neg (by omega), if_neg p]
        by_cases q : y.toNat < x.toNat
        · rw [if_pos (by omega), if_pos q]
        · rw [if_neg (by omega), if_neg q]
    · have e' : b.toList.drop i = [] := List.drop_eq_nil_of_le (by rw [toList_length]; omega)
      rw [e', hx, cmpL_nr, if_neg (by simpa using c), if_neg (by omega), if_pos (by omega)]
theorem texts_at (a b : ByteArray) (ha : a.size ≤ maxLen) (k : Nat) (hk : 2 * a.size + 2 ≤ k) : latchkeyref01_Texts.f k a b = some (cmpB a b) := by
  have := texts_loop a b ha a.size k 0 (by omega) (by omega) (by omega) hk
  unfold latchkeyref01_Texts.f cmpB
  exact this
theorem IdentCompares : ∀ a0 a1 b0 b1 c0 c1 c2 d0 d1 d2 : ByteArray, a0.size ≤ maxLen → a1.size ≤ maxLen → c0.size ≤ maxLen → c1.size ≤ maxLen → c2.size ≤ maxLen →
    ∃ k, latchkeylaw01_IdentCompares.f k a0 a1 b0 b1 c0 c1 c2 d0 d1 d2 = some true := by
  intro a0 a1 b0 b1 c0 c1 c2 d0 d1 d2 h0 h1 g0 g1 g2
  generalize hK : 2 * (a0.size + a1.size + c0.size + c1.size + c2.size) + 2 = K
  refine ⟨K + 4, ?_⟩
  unfold latchkeylaw01_IdentCompares.f latchkeyref01_CompareObjects.f latchkeyref01_CompareSubjects.f
  rw [cobj_eq, csub_eq, texts_at a0 b0 h0 _ (by omega), texts_at a1 b1 h1 _ (by omega), texts_at c0 d0 g0 _ (by omega), texts_at c1 d1 g1 _ (by omega), texts_at c2 d2 g2 _ (by omega)]
  simp only [Option.bind_some, first2]
  by_cases p : cmpB a0 b0 = 0 <;> by_cases q : cmpB c0 d0 = 0 <;> by_cases r : cmpB c1 d1 = 0 <;> simp [p, q, r]
end
section
/-- what three comparings around have in common, on one level -/
theorem level (a b c : ByteArray) : -1 ≤ cmpB a b ∧ cmpB a b ≤ 1 ∧ -1 ≤ cmpB b c ∧ cmpB b c ≤ 1 ∧ -1 ≤ cmpB a c ∧ cmpB a c ≤ 1 ∧ cmpB b a = - cmpB a b ∧ (cmpB a b = 0 → cmpB a c = cmpB b c) ∧ (cmpB b c = 0 → cmpB a c = cmpB a b) ∧ (cmpB a b < 0 → cmpB b c < 0 → cmpB a c < 0) := by
  unfold cmpB
  refine ⟨(cmpL_range _ _).1, (cmpL_range _ _).2, (cmpL_range _ _).1, (cmpL_range _ _).2, (cmpL_range _ _).1, (cmpL_range _ _).2, cmpL_anti _ _, fun h => ?_, fun h => ?_, cmpL_trans _ _ _⟩
  · rw [(cmpL_zero _ _).1 h]
  · rw [(cmpL_zero _ _).1 h]
theorem cmpB_zero (a b : ByteArray) : cmpB a b = 0 ↔ (a.toList == b.toList) = true := by
  unfold cmpB
  rw [cmpL_zero]; simp
structure Lev (x y z : Int) : Prop where
  a : -1 ≤ x ∧ x ≤ 1
  b : -1 ≤ y ∧ y ≤ 1
  c : -1 ≤ z ∧ z ≤ 1
  d : x = 0 → z = y
  e : y = 0 → z = x
  f : x < 0 → y < 0 → z < 0
theorem lev_of (a b c : ByteArray) : Lev (cmpB a b) (cmpB b c) (cmpB a c) := by
  obtain ⟨p1, p2, p3, p4, p5, p6, _, p7, p8, p9⟩ := level a b c
  exact ⟨⟨p1, p2⟩, ⟨p3, p4⟩, ⟨p5, p6⟩, p7, p8, p9⟩
theorem first2_pos {x : Int} (h : ¬ x = 0) (y : Int) : first2 x y = x := if_neg h
theorem first2_nil (y : Int) : first2 0 y = y := if_pos rfl
theorem Lev.two {x y z x' y' z' : Int} (h : Lev x y z) (h' : Lev x' y' z') : Lev (first2 x x') (first2 y y') (first2 z z') := by
  obtain ⟨a, b, c, d, e, f⟩ := h
  by_cases p : x = 0
  · subst p
    obtain rfl := d rfl
    by_cases q : z = 0
    · subst q
      simpa only [first2_nil] using h'
    · rw [first2_nil, first2_pos q, first2_pos q]
      exact ⟨h'.a, b, b, fun _ => rfl, fun g => absurd g q, fun _ g => g⟩
  · by_cases q : y = 0
    · subst q
      obtain rfl := e rfl
      rw [first2_nil, first2_pos p, first2_pos p]
      exact ⟨a, h'.b, a, fun g => absurd g p, fun _ => rfl, fun g _ => g⟩
    · rw [first2_pos p, first2_pos q]
      have hz : ∀ r, -1 ≤ r → r ≤ 1 → -1 ≤ first2 z r ∧ first2 z r ≤ 1 := fun r h1 h2 => by unfold first2; split <;> omega
      refine ⟨a, b, hz _ h'.c.1 h'.c.2, fun g => absurd g p, fun g => absurd g q, fun g1 g2 => ?_⟩
      have := f g1 g2
      rw [first2_pos (by omega)]
      exact this
theorem IdentOrder : ∀ a0 a1 a2 b0 b1 b2 c0 c1 c2 : ByteArray, ∃ k, latchkeylaw01_IdentOrder.f k a0 a1 a2 b0 b1 b2 c0 c1 c2 = some true := by
  intro a0 a1 a2 b0 b1 b2 c0 c1 c2
  refine ⟨6, ?_⟩
  have l0 := level a0 b0 c0
  have l1 := level a1 b1 c1
  have l2 := level a2 b2 c2
  have z0 := cmpB_zero a0 b0
  have z1 := cmpB_zero a1 b1
  have z2 := cmpB_zero a2 b2
  have e0 : cmpB (⟨#[]⟩ : ByteArray) (⟨#[]⟩ : ByteArray) = 0 := by decide +kernel
  have e1 : cmpB (⟨#[97]⟩ : ByteArray) (⟨#[97]⟩ : ByteArray) = 0 := by decide +kernel
  have e2 : cmpB (⟨#[98]⟩ : ByteArray) (⟨#[98, 97]⟩ : ByteArray) = -1 := by decide +kernel
  have cs : ∀ a b c d e f : ByteArray, ∀ k, 4 ≤ k → ident_CompareSubjects.f k a b c d e f = some (first2 (first2 (cmpB a d) (cmpB b e)) (cmpB c f)) := fun a b c d e f k hk => by
    obtain ⟨k, rfl⟩ : ∃ m, k = m + 4 := ⟨k - 4, by omega⟩
    exact csub_eq ..
  have co : ∀ a b c d : ByteArray, ∀ k, 4 ≤ k → ident_CompareObjects.f k a b c d = some (first2 (cmpB a c) (cmpB b d)) := fun a b c d k hk => by
    obtain ⟨k, rfl⟩ : ∃ m, k = m + 4 := ⟨k - 4, by omega⟩
    exact cobj_eq ..
  have hj1 : ∀ x : Int, (first2 (cmpB a0 b0) (cmpB a1 b1) = 0 ∨ first2 (cmpB a0 b0) (cmpB a1 b1) = x) → latchkeylaw01_IdentOrder.j1 5 x false a0 a1 a2 b0 b1 b2 = some true := by
    intro x hx
    simp only [latchkeylaw01_IdentOrder.j1]
    rw [co _ _ _ _ 4 (by omega), cs _ _ _ _ _ _ 4 (by omega), cs _ _ _ _ _ _ 4 (by omega), e0, e1, e2]
    simp only [Option.bind_some]
    have f0 : first2 (first2 (cmpB a0 b0) (cmpB a1 b1)) 0 = first2 (cmpB a0 b0) (cmpB a1 b1) := by
      generalize first2 (cmpB a0 b0) (cmpB a1 b1) = t
      unfold first2; split <;> simp_all
    have f1 : first2 (first2 0 (-1)) 0 = -1 := by decide
    rw [f0, f1]
    rcases hx with hx | hx
    · simp [hx]
    · by_cases g : first2 (cmpB a0 b0) (cmpB a1 b1) = 0
      · simp [g]
      · simp [g, hx]
  unfold latchkeylaw01_IdentOrder.f
  rw [cs _ _ _ _ _ _ 6 (by omega), cs _ _ _ _ _ _ 6 (by omega), cs _ _ _ _ _ _ 6 (by omega), cs _ _ _ _ _ _ 6 (by omega)]
  simp only [Option.bind_some]
  have heq : (first2 (first2 (cmpB a0 b0) (cmpB a1 b1)) (cmpB a2 b2) == 0) = (a0.toList == b0.toList && (a1.toList == b1.toList && (a2.toList == b2.toList))) := by
    rw [Bool.eq_iff_iff]
    simp only [Bool.and_eq_true, beq_iff_eq] at *
    rw [← z0, ← z1, ← z2, first2_zero, first2_zero, and_assoc]
  rw [heq]
  clear heq z0 z1 z2
  have hx : -1 ≤ first2 (first2 (cmpB a0 b0) (cmpB a1 b1)) (cmpB a2 b2) ∧ first2 (first2 (cmpB a0 b0) (cmpB a1 b1)) (cmpB a2 b2) ≤ 1 := by
    unfold first2; repeat' split
    all_goals omega
  have hn : first2 (first2 (cmpB a0 b0) (cmpB a1 b1)) (cmpB a2 b2) = wrap64 (- first2 (first2 (cmpB b0 a0) (cmpB b1 a1)) (cmpB b2 a2)) := by
    rw [l0.2.2.2.2.2.2.1, l1.2.2.2.2.2.2.1, l2.2.2.2.2.2.2.1]
    unfold first2 wrap64
    repeat' split
    all_goals omega
  have ht : first2 (first2 (cmpB a0 b0) (cmpB a1 b1)) (cmpB a2 b2) ≤ 0 → first2 (first2 (cmpB b0 c0) (cmpB b1 c1)) (cmpB b2 c2) ≤ 0 →
      first2 (first2 (cmpB a0 c0) (cmpB a1 c1)) (cmpB a2 c2) ≤ 0 ∧ (first2 (first2 (cmpB a0 c0) (cmpB a1 c1)) (cmpB a2 c2) = 0 → ¬ first2 (first2 (cmpB a0 b0) (cmpB a1 b1)) (cmpB a2 b2) < 0 ∧ ¬ first2 (first2 (cmpB b0 c0) (cmpB b1 c1)) (cmpB b2 c2) < 0) := by
    have L := ((lev_of a0 b0 c0).two (lev_of a1 b1 c1)).two (lev_of a2 b2 c2)
    generalize first2 (first2 (cmpB a0 b0) (cmpB a1 b1)) (cmpB a2 b2) = x at L ⊢
    generalize first2 (first2 (cmpB b0 c0) (cmpB b1 c1)) (cmpB b2 c2) = y at L ⊢
    generalize first2 (first2 (cmpB a0 c0) (cmpB a1 c1)) (cmpB a2 c2) = z at L ⊢
    obtain ⟨a, b, c, d, e, f⟩ := L
    intro h1 h2
    omega
  have hw : first2 (cmpB a0 b0) (cmpB a1 b1) = 0 ∨ first2 (cmpB a0 b0) (cmpB a1 b1) = first2 (first2 (cmpB a0 b0) (cmpB a1 b1)) (cmpB a2 b2) := by
    generalize first2 (cmpB a0 b0) (cmpB a1 b1) = t
    unfold first2
    by_cases h : t = 0
    · exact .inl h
    · exact .inr (by rw [if_neg h])
  rw [← hn]
  have J := hj1 _ hw
  generalize first2 (first2 (cmpB a0 b0) (cmpB a1 b1)) (cmpB a2 b2) = x at *
  generalize first2 (first2 (cmpB b0 c0) (cmpB b1 c1)) (cmpB b2 c2) = y at *
  generalize first2 (first2 (cmpB a0 c0) (cmpB a1 c1)) (cmpB a2 c2) = z at *
  generalize (a0.toList == b0.toList && (a1.toList == b1.toList && (a2.toList == b2.toList))) = e at *
  rw [if_neg (by omega), if_neg (by omega), if_pos rfl, bne_self_eq_false]
  simp only [latchkeylaw01_IdentOrder.j0]
  by_cases p : x ≤ 0
  · by_cases q : y ≤ 0
    · obtain ⟨h1, h2⟩ := ht p q
      by_cases r : z = 0
      · obtain ⟨h3, h4⟩ := h2 r
        simp [p, q, r, h3, h4, J]
      · have : ¬ z > 0 := by omega
        simp [p, q, r, this, J]
    · simp [p, q, J]
  · simp [p, J]
end
end Go.Proofs.Ytdeagmenlijieaa.QC
