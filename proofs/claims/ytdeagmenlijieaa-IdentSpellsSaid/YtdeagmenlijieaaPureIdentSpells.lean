/- Proved: for every text the program's Name and Id hold just for the texts that are spelled out of the listed bytes (the statement IdentSpells); conditions: none beside the statement's own. -/
import Derived.Test.YtdeagmenlijieaaPIdentSpellsx3
namespace Go.Proofs.Ytdeagmenlijieaa.Pure
open Go.RowKit Go.Proofs.Ytdeagmenlijieaa.PIdentSpells Go.Proofs.YtdeagmenlijieaaW.PrintWords Go.Proofs.YtdeagmenlijieaaW.PrintLast
set_option linter.unusedVariables false
set_option linter.unusedSimpArgs false
section
open Classical
noncomputable section

def low (c : Int) : Prop := 97 ≤ c ∧ c ≤ 122
def dig (c : Int) : Prop := 48 ≤ c ∧ c ≤ 57
def upp (c : Int) : Prop := 65 ≤ c ∧ c ≤ 90
def nameC (c : Int) : Prop := low c ∨ dig c ∨ c = 95
def idC (c : Int) : Prop := low c ∨ dig c ∨ upp c ∨ c = 45 ∨ c = 95 ∨ c = 46 ∨ c = 61 ∨ c = 43 ∨ c = 47 ∨ c = 124 ∨ c = 126
def isWord (s : ByteArray) : Prop :=
  s.toList = ([116, 121, 112, 101] : List UInt8) ∨ s.toList = ([114, 101, 108, 97, 116, 105, 111, 110] : List UInt8) ∨ s.toList = ([99, 111, 110, 100] : List UInt8) ∨
  s.toList = ([111, 114] : List UInt8) ∨ s.toList = ([97, 110, 100] : List UInt8) ∨ s.toList = ([110, 111, 116] : List UInt8) ∨ s.toList = ([102, 114, 111, 109] : List UInt8) ∨
  s.toList = ([119, 105, 116, 104] : List UInt8) ∨ s.toList = ([105, 110] : List UInt8) ∨ s.toList = ([116, 114, 117, 101] : List UInt8) ∨ s.toList = ([102, 97, 108, 115, 101] : List UInt8) ∨
  s.toList = ([110, 97, 110] : List UInt8) ∨ s.toList = ([105, 110, 102] : List UInt8)
def AllC (p : Int → Prop) (s : ByteArray) (i : Int) : Prop := ∀ j : Int, i ≤ j → j < (s.size : Int) → p (bt s j)
def NameOk (s : ByteArray) : Prop := 1 ≤ s.size ∧ s.size ≤ 32 ∧ low (bt s 0) ∧ ¬ isWord s ∧ AllC nameC s 0
def IdOk (s : ByteArray) : Prop := 1 ≤ s.size ∧ s.size ≤ 64 ∧ AllC idC s 0

theorem wrap_one {i : Int} {n : Nat} (h0 : 0 ≤ i) (h : i < (n : Int)) (hn : n ≤ 140737488351232) : wrap64 (i + 1) = i + 1 := by
  unfold wrap64
  omega
theorem toList_nil {s : ByteArray} : s.toList = ([] : List UInt8) ↔ s.size = 0 := by
  rw [ByteArray.toList_eq]
  constructor
  · intro h
    have := congrArg List.length h
    rw [Array.length_toList] at this
    exact this
  · intro h
    apply List.eq_nil_of_length_eq_zero
    rw [Array.length_toList]
    exact h
theorem allC_end {p : Int → Prop} {s : ByteArray} {i : Int} (h : ¬ i < (s.size : Int)) : AllC p s i := fun j h1 h2 => absurd h2 (by omega)
theorem allC_step {p : Int → Prop} {s : ByteArray} {i : Int} (h : i < (s.size : Int)) : AllC p s i ↔ p (bt s i) ∧ AllC p s (i + 1) := by
  constructor
  · intro h1
    exact ⟨h1 i (Int.le_refl _) h, fun j h2 h3 => h1 j (by omega) h3⟩
  · rintro ⟨h1, h2⟩ j h3 h4
    by_cases e : j = i
    · subst e; exact h1
    · exact h2 j (by omega) h4
theorem lower_eq (c : Int) : ident_lower.f c = some (decide (low c)) := by
  unfold ident_lower.f low
  split <;> simp [*]
theorem digit_eq (c : Int) : ident_digit.f c = some (decide (dig c)) := by
  unfold ident_digit.f dig
  split <;> simp [*]
theorem ite_or {p q : Prop} {i : Decidable p} {j : Decidable q} {l : Decidable (p ∨ q)} {x : Option Bool} (h : x = some (@decide q j)) : (@ite (Option Bool) p i (some true) x) = some (@decide (p ∨ q) l) := by
  by_cases a : p <;> simp [a, h]
theorem ite_last {p : Prop} {i : Decidable p} {j : Decidable p} : (@ite (Option Bool) p i (some true) (some false)) = some (@decide p j) := by
  by_cases a : p <;> simp [a]
theorem word_eq (s : ByteArray) : ident_word.f s = some (decide (isWord s)) := by
  unfold ident_word.f isWord
  repeat (refine ite_or (j := Classical.propDecidable _) ?_)
  exact ite_last

theorem name_loop (s : ByteArray) (hs : s.size ≤ 140737488351232) : ∀ (d k : Nat) (i : Int), 0 ≤ i → i ≤ s.size → (s.size : Int) - i = d → d < k →
    ident_Name.l0 k s (s.size : Int) i = some (decide (AllC nameC s i)) := by
  intro d
  induction d with
  | zero =>
    intro k i h0 h1 hd hk
    obtain ⟨k, rfl⟩ : ∃ m, k = m + 1 := ⟨k - 1, by omega⟩
    simp only [ident_Name.l0]
    rw [if_neg (by omega), decide_eq_true (allC_end (by omega))]
  | succ d ih =>
    intro k i h0 h1 hd hk
    obtain ⟨k, rfl⟩ : ∃ m, k = m + 1 := ⟨k - 1, by omega⟩
    have hlt : i < (s.size : Int) := by omega
    have ih' := ih k (i + 1) (by omega) (by omega) (by omega) (by omega)
    simp only [ident_Name.l0, lower_eq, digit_eq, Option.bind_some]
    rw [if_pos hlt, if_pos h0, if_pos hlt, wrap_one h0 hlt hs, ih']
    by_cases a : low (bt s i)
    · have : AllC nameC s i ↔ AllC nameC s (i + 1) := by rw [allC_step hlt]; exact ⟨fun h => h.2, fun h => ⟨.inl a, h⟩⟩
      simp [a, this]
    · by_cases b : dig (bt s i)
      · have : AllC nameC s i ↔ AllC nameC s (i + 1) := by rw [allC_step hlt]; exact ⟨fun h => h.2, fun h => ⟨.inr (.inl b), h⟩⟩
        simp [a, b, this]
      · by_cases c : bt s i = 95
        · have : AllC nameC s i ↔ AllC nameC s (i + 1) := by rw [allC_step hlt]; exact ⟨fun h => h.2, fun h => ⟨.inr (.inr c), h⟩⟩
          simp [a, b, c, this]
        · have : ¬ AllC nameC s i := by rw [allC_step hlt]; rintro ⟨h | h | h, _⟩ <;> contradiction
          simp [a, b, c, this]

theorem name_at (s : ByteArray) (hs : s.size ≤ 140737488351232) (k : Nat) (hk : s.size + 2 ≤ k) : ident_Name.f k s = some (decide (NameOk s)) := by
  obtain ⟨k, rfl⟩ : ∃ m, k = m + 1 := ⟨k - 1, by omega⟩
  have hl := name_loop s hs s.size k 0 (by omega) (by omega) (by omega) (by omega)
  unfold ident_Name.f
  simp only [ident_Name.j0, lower_eq, word_eq, Option.bind_some, hl]
  by_cases a : s.size = 0
  · rw [if_pos (toList_nil.2 a)]
    have : ¬ NameOk s := fun h => by have := h.1; omega
    simp [this]
  · rw [if_neg (fun h => a (toList_nil.1 h))]
    by_cases b : (s.size : Int) > 32
    · rw [if_pos b]
      have : ¬ NameOk s := fun h => by have := h.2.1; omega
      simp [this]
    · rw [if_neg b, if_pos (by omega)]
      by_cases c : low (bt s 0)
      · by_cases d : isWord s
        · have : ¬ NameOk s := fun h => h.2.2.2.1 d
          simp [c, d, this]
        · have : NameOk s ↔ AllC nameC s 0 := ⟨fun h => h.2.2.2.2, fun h => ⟨by omega, by omega, c, d, h⟩⟩
          simp [c, d, this]
      · have : ¬ NameOk s := fun h => c h.2.2.1
        simp [c, this]

theorem id_loop (s : ByteArray) (hs : s.size ≤ 140737488351232) : ∀ (d k : Nat) (i : Int), 0 ≤ i → i ≤ s.size → (s.size : Int) - i = d → 2 * d < k →
    ident_Id.l0 k s (s.size : Int) i = some (decide (AllC idC s i)) := by
  intro d
  induction d with
  | zero =>
    intro k i h0 h1 hd hk
    obtain ⟨k, rfl⟩ : ∃ m, k = m + 1 := ⟨k - 1, by omega⟩
    simp only [ident_Id.l0]
    rw [if_neg (by omega), decide_eq_true (allC_end (by omega))]
  | succ d ih =>
    intro k i h0 h1 hd hk
    obtain ⟨k, rfl⟩ : ∃ m, k = m + 2 := ⟨k - 2, by omega⟩
    have hlt : i < (s.size : Int) := by omega
    have ih' := ih k (i + 1) (by omega) (by omega) (by omega) (by omega)
    have key : ∀ b : Bool, ident_Id.j2 (k + 1) s (bt s i) (s.size : Int) i b = some (decide ((b = true ∨ bt s i = 45 ∨ bt s i = 95 ∨ bt s i = 46 ∨ bt s i = 61 ∨ bt s i = 43 ∨ bt s i = 47 ∨ bt s i = 124 ∨ bt s i = 126) ∧ AllC idC s (i + 1))) := by
      intro b
      simp only [ident_Id.j2]
      rw [wrap_one h0 hlt hs, ih']
      repeat (split; simp [*])
      simp [*]
    simp only [ident_Id.l0, lower_eq, digit_eq, Option.bind_some]
    rw [if_pos hlt, if_pos h0, if_pos hlt]
    simp only [key]
    have e := allC_step (p := idC) hlt
    by_cases a : low (bt s i)
    · simp [a, e, idC]
    · by_cases b : dig (bt s i)
      · simp [a, b, e, idC]
      · by_cases c : 65 ≤ bt s i
        · by_cases c' : bt s i ≤ 90
          · simp [a, b, c, c', e, idC, upp]
          · simp [a, b, c, c', e, idC, upp]
        · simp [a, b, c, e, idC, upp]

theorem id_at (s : ByteArray) (hs : s.size ≤ 140737488351232) (k : Nat) (hk : 2 * s.size + 2 ≤ k) : ident_Id.f k s = some (decide (IdOk s)) := by
  obtain ⟨k, rfl⟩ : ∃ m, k = m + 1 := ⟨k - 1, by omega⟩
  have hl := id_loop s hs s.size k 0 (by omega) (by omega) (by omega) (by omega)
  unfold ident_Id.f
  simp only [ident_Id.j0, hl]
  by_cases a : s.size = 0
  · rw [if_pos (toList_nil.2 a)]
    have : ¬ IdOk s := fun h => by have := h.1; omega
    simp [this]
  · rw [if_neg (fun h => a (toList_nil.1 h))]
    by_cases b : (s.size : Int) > 64
    · have : ¬ IdOk s := fun h => by have := h.2.1; omega
      simp [b, this]
    · have : IdOk s ↔ AllC idC s 0 := ⟨fun h => h.2.2, fun h => ⟨by omega, by omega, h⟩⟩
      simp [b, this]
end
end
section
open Classical
noncomputable section
def InL (t : ByteArray) (c : Int) : Prop := ∃ j : Int, 0 ≤ j ∧ j < (t.size : Int) ∧ bt t j = c
def SpellOk (s : ByteArray) (most : Int) (t : ByteArray) : Prop := 1 ≤ s.size ∧ (s.size : Int) ≤ most ∧ AllC (InL t) s 0
def Hit (t : ByteArray) (c : Int) (m : Int) : Prop := ∃ j : Int, m ≤ j ∧ j < (t.size : Int) ∧ bt t j = c

theorem hit_end {t : ByteArray} {c m : Int} (h : ¬ m < (t.size : Int)) : ¬ Hit t c m := by
  rintro ⟨j, h1, h2, _⟩
  omega
theorem hit_step {t : ByteArray} {c m : Int} (h : m < (t.size : Int)) : Hit t c m ↔ bt t m = c ∨ Hit t c (m + 1) := by
  constructor
  · rintro ⟨j, h1, h2, h3⟩
    by_cases e : j = m
    · subst e; exact .inl h3
    · exact .inr ⟨j, by omega, h2, h3⟩
  · rintro (h1 | ⟨j, h1, h2, h3⟩)
    · exact ⟨m, Int.le_refl _, h, h1⟩
    · exact ⟨j, by omega, h2, h3⟩

theorem spell_inner (s t : ByteArray) (i : Int) (h0 : 0 ≤ i) (hi : i < (s.size : Int)) (ht : t.size ≤ 140737488351232) :
    ∀ (d k : Nat) (m : Int) (b : Bool) (N : Nat) (r : Option Bool), 0 ≤ m → m ≤ t.size → (t.size : Int) - m = d → d + N < k →
    (∀ k', N ≤ k' → latchkeylaw01_spelled.l0 k' s t (wrap64 (i + 1)) = r) →
    latchkeylaw01_spelled.l1 k s t i b m = if b = true ∨ Hit t (bt s i) m then r else some false := by
  intro d
  induction d with
  | zero =>
    intro k m b N r g0 g1 hd hk hN
    obtain ⟨k, rfl⟩ : ∃ m, k = m + 1 := ⟨k - 1, by omega⟩
    simp only [latchkeylaw01_spelled.l1]
    rw [if_neg (by omega), hN k (by omega)]
    have := hit_end (t := t) (c := bt s i) (m := m) (by omega)
    simp [this]
  | succ d ih =>
    intro k m b N r g0 g1 hd hk hN
    obtain ⟨k, rfl⟩ : ∃ m, k = m + 1 := ⟨k - 1, by omega⟩
    have hlt : m < (t.size : Int) := by omega
    simp only [latchkeylaw01_spelled.l1]
    rw [if_pos hlt, if_pos g0, if_pos h0, if_pos hi, wrap_one g0 hlt ht, ih k (m + 1) true N r (by omega) (by omega) (by omega) (by omega) hN,
      ih k (m + 1) (bt t m == bt s i) N r (by omega) (by omega) (by omega) (by omega) hN]
    cases b with
    | true => simp
    | false =>
      by_cases e : bt t m = bt s i <;> simp [e, hit_step hlt]

theorem spell_loop (s t : ByteArray) (hs : s.size ≤ 140737488351232) (ht : t.size ≤ 140737488351232) : ∀ (d k : Nat) (i : Int), 0 ≤ i → i ≤ s.size → (s.size : Int) - i = d → d * (t.size + 2) < k →
    latchkeylaw01_spelled.l0 k s t i = some (decide (AllC (InL t) s i)) := by
  intro d
  induction d with
  | zero =>
    intro k i h0 h1 hd hk
    obtain ⟨k, rfl⟩ : ∃ m, k = m + 1 := ⟨k - 1, by omega⟩
    simp only [latchkeylaw01_spelled.l0]
    rw [if_neg (by omega), decide_eq_true (allC_end (by omega))]
  | succ d ih =>
    intro k i h0 h1 hd hk
    obtain ⟨k, rfl⟩ : ∃ m, k = m + 1 := ⟨k - 1, by omega⟩
    have hlt : i < (s.size : Int) := by omega
    simp only [latchkeylaw01_spelled.l0]
    rw [if_pos hlt, spell_inner s t i h0 hlt ht t.size k 0 false (d * (t.size + 2) + 1) (some (decide (AllC (InL t) s (i + 1)))) (by omega) (by omega) (by omega)
      (by rw [Nat.succ_mul] at hk; omega) (fun k' hk' => by rw [wrap_one h0 hlt hs]; exact ih k' (i + 1) (by omega) (by omega) (by omega) (by omega))]
    have e := allC_step (p := InL t) hlt
    by_cases a : Hit t (bt s i) 0
    · have : InL t (bt s i) := a
      simp [a, e, this]
    · have : ¬ InL t (bt s i) := a
      simp [a, e, this]

theorem spelled_at (s t : ByteArray) (most : Int) (hs : s.size ≤ 140737488351232) (ht : t.size ≤ 140737488351232) (k : Nat) (hk : s.size * (t.size + 2) + 2 ≤ k) :
    latchkeylaw01_spelled.f k s most t = some (decide (SpellOk s most t)) := by
  obtain ⟨k, rfl⟩ : ∃ m, k = m + 1 := ⟨k - 1, by omega⟩
  have hl := spell_loop s t hs ht s.size k 0 (by omega) (by omega) (by omega) (by omega)
  unfold latchkeylaw01_spelled.f
  simp only [latchkeylaw01_spelled.j0, hl]
  by_cases a : (s.size : Int) < 1
  · have : ¬ SpellOk s most t := fun h => by have := h.1; omega
    simp [a, this]
  · rw [if_neg a]
    by_cases b : (s.size : Int) > most
    · have : ¬ SpellOk s most t := fun h => by have := h.2.1; omega
      simp [b, this]
    · have : SpellOk s most t ↔ AllC (InL t) s 0 := ⟨fun h => h.2.2, fun h => ⟨by omega, by omega, h⟩⟩
      simp [b, this]

theorem reserved_eq (s : ByteArray) : latchkeylaw01_reserved.f s = some (decide (isWord s)) := by
  unfold latchkeylaw01_reserved.f isWord
  repeat (refine ite_or (j := Classical.propDecidable _) ?_)
  exact ite_last

theorem bt_nat (s : ByteArray) (i : Int) : ∃ n : Nat, bt s i = n ∧ n < 256 := by
  have := bt_range s i
  exact ⟨(bt s i).toNat, by omega, by omega⟩
def lows : ByteArray := ⟨#[97, 98, 99, 100, 101, 102, 103, 104, 105, 106, 107, 108, 109, 110, 111, 112, 113, 114, 115, 116, 117, 118, 119, 120, 121, 122]⟩
def digs : ByteArray := ⟨#[48, 49, 50, 51, 52, 53, 54, 55, 56, 57, 95]⟩
def rest : ByteArray := ⟨#[65, 66, 67, 68, 69, 70, 71, 72, 73, 74, 75, 76, 77, 78, 79, 80, 81, 82, 83, 84, 85, 86, 87, 88, 89, 90, 48, 49, 50, 51, 52, 53, 54, 55, 56, 57, 45, 95, 46, 61, 43, 47, 124, 126]⟩
theorem inL_iff (t : ByteArray) (c : Int) : InL t c ↔ ∃ j : Nat, j < t.size ∧ bt t j = c := by
  constructor
  · rintro ⟨j, h0, h1, h2⟩
    exact ⟨j.toNat, by omega, by rw [Int.toNat_of_nonneg h0]; exact h2⟩
  · rintro ⟨j, h1, h2⟩
    exact ⟨j, by omega, by omega, h2⟩
theorem in_lows : ∀ n : Nat, n < 256 → ((∃ j : Nat, j < 26 ∧ bt lows j = n) ↔ 97 ≤ n ∧ n ≤ 122) := by decide +kernel
theorem in_digs : ∀ n : Nat, n < 256 → ((∃ j : Nat, j < 37 ∧ bt (lows ++ digs) j = n) ↔ (97 ≤ n ∧ n ≤ 122) ∨ (48 ≤ n ∧ n ≤ 57) ∨ n = 95) := by decide +kernel
theorem in_rest : ∀ n : Nat, n < 256 → ((∃ j : Nat, j < 70 ∧ bt (lows ++ rest) j = n) ↔ (97 ≤ n ∧ n ≤ 122) ∨ (48 ≤ n ∧ n ≤ 57) ∨ (65 ≤ n ∧ n ≤ 90) ∨ n = 45 ∨ n = 95 ∨ n = 46 ∨ n = 61 ∨ n = 43 ∨ n = 47 ∨ n = 124 ∨ n = 126) := by decide +kernel
theorem lows_of (s : ByteArray) (i : Int) : InL lows (bt s i) ↔ low (bt s i) := by
  obtain ⟨n, e, hn⟩ := bt_nat s i
  rw [e, inL_iff]
  have h := in_lows n hn
  unfold low
  have z : lows.size = 26 := by decide +kernel
  rw [z, h]
  omega
theorem names_of (s : ByteArray) (i : Int) : InL (lows ++ digs) (bt s i) ↔ nameC (bt s i) := by
  obtain ⟨n, e, hn⟩ := bt_nat s i
  rw [e, inL_iff]
  have h := in_digs n hn
  unfold nameC low dig
  have z : (lows ++ digs).size = 37 := by decide +kernel
  rw [z, h]
  omega
theorem ids_of (s : ByteArray) (i : Int) : InL (lows ++ rest) (bt s i) ↔ idC (bt s i) := by
  obtain ⟨n, e, hn⟩ := bt_nat s i
  rw [e, inL_iff]
  have h := in_rest n hn
  unfold idC low dig upp
  have z : (lows ++ rest).size = 70 := by decide +kernel
  rw [z, h]
  omega
theorem allC_congr {p q : Int → Prop} {s : ByteArray} {i : Int} (h : ∀ j : Int, p (bt s j) ↔ q (bt s j)) : AllC p s i ↔ AllC q s i :=
  ⟨fun g j a b => (h j).1 (g j a b), fun g j a b => (h j).2 (g j a b)⟩
theorem spell_name (s : ByteArray) : SpellOk s 32 (lows ++ digs) ↔ 1 ≤ s.size ∧ s.size ≤ 32 ∧ AllC nameC s 0 := by
  unfold SpellOk
  rw [allC_congr (names_of s)]
  constructor <;> (rintro ⟨a, b, c⟩; exact ⟨a, by omega, c⟩)
theorem spell_id (s : ByteArray) : SpellOk s 64 (lows ++ rest) ↔ IdOk s := by
  unfold SpellOk IdOk
  rw [allC_congr (ids_of s)]
  constructor <;> (rintro ⟨a, b, c⟩; exact ⟨a, by omega, c⟩)
theorem bt_first (s : ByteArray) (h : 1 ≤ s.size) : (s.extract 0 1).size = 1 ∧ bt (s.extract 0 1) 0 = bt s 0 := by
  have z : (s.extract 0 1).size = 1 := by rw [ByteArray.size_extract]; omega
  refine ⟨z, ?_⟩
  unfold bt
  rw [dif_pos (show (0 : Int).toNat < (s.extract 0 1).size by rw [z]; decide), dif_pos (show (0 : Int).toNat < s.size by exact h)]
  simp [ByteArray.getElem_extract]
theorem spell_first (s : ByteArray) (h : 1 ≤ s.size) : SpellOk (s.extract 0 1) 1 lows ↔ low (bt s 0) := by
  obtain ⟨z, e⟩ := bt_first s h
  unfold SpellOk
  rw [allC_congr (lows_of _), z]
  constructor
  · rintro ⟨_, _, g⟩
    have := g 0 (by omega) (by rw [z]; decide)
    rwa [e] at this
  · intro g
    refine ⟨by omega, by omega, fun j a b => ?_⟩
    rw [z] at b
    obtain rfl : j = 0 := by omega
    rwa [e]
end
end
open Classical in
theorem IdentSpells : latchkeylaw01_IdentSpells.Pure := by
  intro s hs
  refine ⟨s.size * 100 + 10, ?_⟩
  generalize hK : s.size * 100 + 10 = K
  obtain ⟨k, rfl⟩ : ∃ m, K = m + 1 := ⟨K - 1, by omega⟩
  have zl : lows.size = 26 := by decide +kernel
  have zd : (lows ++ digs).size = 37 := by decide +kernel
  have zr : (lows ++ rest).size = 70 := by decide +kernel
  have hz : (s.extract 0 1).size ≤ s.size := by rw [ByteArray.size_extract]; omega
  have hm1 : s.size * (37 + 2) ≤ s.size * 100 := Nat.mul_le_mul_left _ (by omega)
  have hm2 : s.size * (70 + 2) ≤ s.size * 100 := Nat.mul_le_mul_left _ (by omega)
  have hm3 : (s.extract 0 1).size * (26 + 2) ≤ s.size * 100 := Nat.mul_le_mul hz (by omega)
  have h1 := spelled_at (s.extract 0 1) lows 1 (by omega) (by omega) (k + 1) (by rw [zl]; omega)
  have h2 := spelled_at s (lows ++ digs) 32 hs (by omega) k (by rw [zd]; omega)
  have h3 := spelled_at s (lows ++ rest) 64 hs (by omega) k (by rw [zr]; omega)
  have h4 := name_at s hs k (by omega)
  have h5 := id_at s hs k (by omega)
  have hj : ∀ b : Bool, latchkeylaw01_IdentSpells.j0 (k + 1) s lows b = some (decide (NameOk s) == (b && decide (SpellOk s 32 (lows ++ digs)) && !decide (isWord s))) := by
    intro b
    have e2 : (lows ++ (⟨#[48, 49, 50, 51, 52, 53, 54, 55, 56, 57, 95]⟩ : ByteArray)) = lows ++ digs := rfl
    have e3 : (lows ++ (⟨#[65, 66, 67, 68, 69, 70, 71, 72, 73, 74, 75, 76, 77, 78, 79, 80, 81, 82, 83, 84, 85, 86, 87, 88, 89, 90, 48, 49, 50, 51, 52, 53, 54, 55, 56, 57, 45, 95, 46, 61, 43, 47, 124, 126]⟩ : ByteArray)) = lows ++ rest := rfl
    simp only [latchkeylaw01_IdentSpells.j0]
    rw [e2, e3, h2, h3, h4, h5, reserved_eq, zl]
    have e6 : decide (IdOk s) = decide (SpellOk s 64 (lows ++ rest)) := by rw [decide_eq_decide]; exact (spell_id s).symm
    have c1 : 26 + 11 ≤ 9223372036854775807 := by omega
    have c2 : 26 + 44 ≤ 9223372036854775807 := by omega
    simp only [Option.bind_some, e6, if_pos c1, if_pos c2]
    clear e2 e3 e6 h1 h2 h3 h4 h5
    cases b <;> cases (decide (SpellOk s 32 (lows ++ digs))) <;> cases (decide (isWord s)) <;> cases (decide (NameOk s)) <;> simp
  unfold latchkeylaw01_IdentSpells.f
  have e0 : (⟨#[97, 98, 99, 100, 101, 102, 103, 104, 105, 106, 107, 108, 109, 110, 111, 112, 113, 114, 115, 116, 117, 118, 119, 120, 121, 122]⟩ : ByteArray) = lows := rfl
  rw [e0]
  by_cases a : (s.size : Int) > 0
  · rw [if_pos a, if_pos (by omega), if_pos (by omega), h1]
    simp only [Option.bind_some, hj]
    have e7 : decide (NameOk s) = (decide (SpellOk (s.extract 0 1) 1 lows) && decide (SpellOk s 32 (lows ++ digs)) && !decide (isWord s)) := by
      rw [Bool.eq_iff_iff]
      simp only [Bool.and_eq_true, decide_eq_true_eq, Bool.not_eq_true', decide_eq_false_iff_not, spell_first s (by omega), spell_name]
      unfold NameOk
      constructor
      · rintro ⟨a, b, c, d, e⟩; exact ⟨⟨c, a, b, e⟩, d⟩
      · rintro ⟨⟨c, a, b, e⟩, d⟩; exact ⟨a, b, c, d, e⟩
    rw [e7]
    simp
  · rw [if_neg a, hj]
    have : ¬ NameOk s := fun h => by have := h.1; omega
    simp [this]
end Go.Proofs.Ytdeagmenlijieaa.Pure
