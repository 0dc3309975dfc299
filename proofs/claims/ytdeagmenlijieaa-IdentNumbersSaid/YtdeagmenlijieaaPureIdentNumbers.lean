/- Proved: the numbers that layer 1 goes by, a name and an id of the greatest length (the statement IdentNumbers); conditions: none. -/
import Derived.Test.YtdeagmenlijieaaPIdentNumbersx2
namespace Go.Proofs.Ytdeagmenlijieaa.Pure
open Go.RowKit Go.Proofs.Ytdeagmenlijieaa.PIdentNumbers Go.Proofs.YtdeagmenlijieaaW.PrintWords Go.Proofs.YtdeagmenlijieaaW.PrintLast
set_option linter.unusedVariables false
set_option linter.unusedSimpArgs false
section
open Classical
noncomputable section

def low (c : Int) : Prop := 97 ≤ c ∧ c ≤ 122
def dig (c : Int) : Prop := 48 ≤ c ∧ c ≤ 57
def upp (c : Int) : Prop := 65 ≤ c ∧ c ≤ 90
def nameC (c : Int) : Prop := low c ∨ dig c ∨ c = 95
def idC (c : Int) : Prop := low c ∨ dig c ∨ upp c ∨ c = 45 ∨ c = 95 ∨ c = 46 ∨ c = 61 ∨ c = 43 ∨ c = 47 ∨ c = 124 ∨ c = 126
def isWord (s : ByteArray) : Prop :=
  s.toList = ([116, 121, 112, 101] : List UInt8) ∨ s.toList = ([114, 101, 108, 97, 116, 105, 111, 110] : List UInt8) ∨ s.toList = ([99, 111, 110, 100] : List UInt8) ∨
  s.toList = ([111, 114] : List UInt8) ∨ s.toList = ([97, 110, 100] : List UInt8) ∨ s.toList = ([110, 111, 116] : List UInt8) ∨ s.toList = ([102, 114, 111, 109] : List UInt8) ∨
  s.toList = ([119, 105, 116, 104] : List UInt8) ∨ s.toList = ([105, 110] : List UInt8) ∨ s.toList = ([116, 114, 117, 101] : List UInt8) ∨ s.toList = ([102, 97, 108, 115, 101] : List UInt8) ∨
  s.toList = ([110, 97, 110] : List UInt8) ∨ s.toList = ([105, 110, 102] : List UInt8)
def AllC (p : Int → Prop) (s : ByteArray) (i : Int) : Prop := ∀ j : Int, i ≤ j → j < (s.size : Int) → p (bt s j)
def NameOk (s : ByteArray) : Prop := 1 ≤ s.size ∧ s.size ≤ 32 ∧ low (bt s 0) ∧ ¬ isWord s ∧ AllC nameC s 0
def IdOk (s : ByteArray) : Prop := 1 ≤ s.size ∧ s.size ≤ 64 ∧ AllC idC s 0

theorem wrap_one {i : Int} {n : Nat} (h0 : 0 ≤ i) (h : i < (n : Int)) (hn : n ≤ 140737488351232) : wrap64 (i + 1) = i + 1 := by
  unfold wrap64
  omega
theorem toList_nil {s : ByteArray} : s.toList = ([] : List UInt8) ↔ s.size = 0 := by
  rw [ByteArray.toList_eq]
  constructor
  · intro h
    have := congrArg List.length h
    rw [Array.length_toList] at this
    exact this
  · intro h
    apply List.eq_nil_of_length_eq_zero
    rw [Array.length_toList]
    exact h
theorem allC_end {p : Int → Prop} {s : ByteArray} {i : Int} (h : ¬ i < (s.size : Int)) : AllC p s i := fun j h1 h2 => absurd h2 (by omega)
theorem allC_step {p : Int → Prop} {s : ByteArray} {i : Int} (h : i < (s.size : Int)) : AllC p s i ↔ p (bt s i) ∧ AllC p s (i + 1) := by
  constructor
  · intro h1
    exact ⟨h1 i (Int.le_refl _) h, fun j h2 h3 => h1 j (by omega) h3⟩
  · rintro ⟨h1, h2⟩ j h3 h4
    by_cases e : j = i
    · subst e; exact h1
    · exact h2 j (by omega) h4
theorem lower_eq (c : Int) : ident_lower.f c = some (decide (low c)) := by
  unfold ident_lower.f low
  split <;> simp [*]
theorem digit_eq (c : Int) : ident_digit.f c = some (decide (dig c)) := by
  unfold ident_digit.f dig
  split <;> simp [*]
theorem ite_or {p q : Prop} {i : Decidable p} {j : Decidable q} {l : Decidable (p ∨ q)} {x : Option Bool} (h : x = some (@decide q j)) : (@ite (Option Bool) p i (some true) x) = some (@decide (p ∨ q) l) := by
  by_cases a : p <;> simp [a, h]
theorem ite_last {p : Prop} {i : Decidable p} {j : Decidable p} : (@ite (Option Bool) p i (some true) (some false)) = some (@decide p j) := by
  by_cases a : p <;> simp [a]
theorem word_eq (s : ByteArray) : ident_word.f s = some (decide (isWord s)) := by
  unfold ident_word.f isWord
  repeat (refine ite_or (j := Classical.propDecidable _) ?_)
  exact ite_last

theorem name_loop (s : ByteArray) (hs : s.size ≤ 140737488351232) : ∀ (d k : Nat) (i : Int), 0 ≤ i → i ≤ s.size → (s.size : Int) - i = d → d < k →
    ident_Name.l0 k s (s.size : Int) i = some (decide (AllC nameC s i)) := by
  intro d
  induction d with
  | zero =>
    intro k i h0 h1 hd hk
    obtain ⟨k, rfl⟩ : ∃ m, k = m + 1 := ⟨k - 1, by omega⟩
    simp only [ident_Name.l0]
    rw [if_neg (by omega), decide_eq_true (allC_end (by omega))]
  | succ d ih =>
    intro k i h0 h1 hd hk
    obtain ⟨k, rfl⟩ : ∃ m, k = m + 1 := ⟨k - 1, by omega⟩
    have hlt : i < (s.size : Int) := by omega
    have ih' := ih k (i + 1) (by omega) (by omega) (by omega) (by omega)
    simp only [ident_Name.l0, lower_eq, digit_eq, Option.bind_some]
    rw [if_pos hlt, if_pos h0, if_pos hlt, wrap_one h0 hlt hs, ih']
    by_cases a : low (bt s i)
    · have : AllC nameC s i ↔ AllC nameC s (i + 1) := by rw [allC_step hlt]; exact ⟨fun h => h.2, fun h => ⟨.inl a, h⟩⟩
      simp [a, this]
    · by_cases b : dig (bt s i)
      · have : AllC nameC s i ↔ AllC nameC s (i + 1) := by rw [allC_step hlt]; exact ⟨fun h => h.2, fun h => ⟨.inr (.inl b), h⟩⟩
        simp [a, b, this]
      · by_cases c : bt s i = 95
        · have : AllC nameC s i ↔ AllC nameC s (i + 1) := by rw [allC_step hlt]; exact ⟨fun h => h.2, fun h => ⟨.inr (.inr c), h⟩⟩
          simp [a, b, c, this]
        · have : ¬ AllC nameC s i := by rw [allC_step hlt]; rintro ⟨h | h | h, _⟩ <;> contradiction
          simp [a, b, c, this]

theorem name_at (s : ByteArray) (hs : s.size ≤ 140737488351232) (k : Nat) (hk : s.size + 2 ≤ k) : ident_Name.f k s = some (decide (NameOk s)) := by
  obtain ⟨k, rfl⟩ : ∃ m, k = m + 1 := ⟨k - 1, by omega⟩
  have hl := name_loop s hs s.size k 0 (by omega) (by omega) (by omega) (by omega)
  unfold ident_Name.f
  simp only [ident_Name.j0, lower_eq, word_eq, Option.bind_some, hl]
  by_cases a : s.size = 0
  · rw [if_pos (toList_nil.2 a)]
    have : ¬ NameOk s := fun h => by have := h.1; omega
    simp [this]
  · rw [if_neg (fun h => a (toList_nil.1 h))]
    by_cases b : (s.size : Int) > 32
    · rw [if_pos b]
      have : ¬ NameOk s := fun h => by have := h.2.1; omega
      simp [this]
    · rw [if_neg b, if_pos (by omega)]
      by_cases c : low (bt s 0)
      · by_cases d : isWord s
        · have : ¬ NameOk s := fun h => h.2.2.2.1 d
          simp [c, d, this]
        · have : NameOk s ↔ AllC nameC s 0 := ⟨fun h => h.2.2.2.2, fun h => ⟨by omega, by omega, c, d, h⟩⟩
          simp [c, d, this]
      · have : ¬ NameOk s := fun h => c h.2.2.1
        simp [c, this]

theorem id_loop (s : ByteArray) (hs : s.size ≤ 140737488351232) : ∀ (d k : Nat) (i : Int), 0 ≤ i → i ≤ s.size → (s.size : Int) - i = d → 2 * d < k →
    ident_Id.l0 k s (s.size : Int) i = some (decide (AllC idC s i)) := by
  intro d
  induction d with
  | zero =>
    intro k i h0 h1 hd hk
    obtain ⟨k, rfl⟩ : ∃ m, k = m + 1 := ⟨k - 1, by omega⟩
    simp only [ident_Id.l0]
    rw [if_neg (by omega), decide_eq_true (allC_end (by omega))]
  | succ d ih =>
    intro k i h0 h1 hd hk
    obtain ⟨k, rfl⟩ : ∃ m, k = m + 2 := ⟨k - 2, by omega⟩
    have hlt : i < (s.size : Int) := by omega
    have ih' := ih k (i + 1) (by omega) (by omega) (by omega) (by omega)
    have key : ∀ b : Bool, ident_Id.j2 (k + 1) s (bt s i) (s.size : Int) i b = some (decide ((b = true ∨ bt s i = 45 ∨ bt s i = 95 ∨ bt s i = 46 ∨ bt s i = 61 ∨ bt s i = 43 ∨ bt s i = 47 ∨ bt s i = 124 ∨ bt s i = 126) ∧ AllC idC s (i + 1))) := by
      intro b
      simp only [ident_Id.j2]
      rw [wrap_one h0 hlt hs, ih']
      repeat (split; simp [*])
      simp [*]
    simp only [ident_Id.l0, lower_eq, digit_eq, Option.bind_some]
    rw [if_pos hlt, if_pos h0, if_pos hlt]
    simp only [key]
    have e := allC_step (p := idC) hlt
    by_cases a : low (bt s i)
    · simp [a, e, idC]
    · by_cases b : dig (bt s i)
      · simp [a, b, e, idC]
      · by_cases c : 65 ≤ bt s i
        · by_cases c' : bt s i ≤ 90
          · simp [a, b, c, c', e, idC, upp]
          · simp [a, b, c, c', e, idC, upp]
        · simp [a, b, c, e, idC, upp]

theorem id_at (s : ByteArray) (hs : s.size ≤ 140737488351232) (k : Nat) (hk : 2 * s.size + 2 ≤ k) : ident_Id.f k s = some (decide (IdOk s)) := by
  obtain ⟨k, rfl⟩ : ∃ m, k = m + 1 := ⟨k - 1, by omega⟩
  have hl := id_loop s hs s.size k 0 (by omega) (by omega) (by omega) (by omega)
  unfold ident_Id.f
  simp only [ident_Id.j0, hl]
  by_cases a : s.size = 0
  · rw [if_pos (toList_nil.2 a)]
    have : ¬ IdOk s := fun h => by have := h.1; omega
    simp [this]
  · rw [if_neg (fun h => a (toList_nil.1 h))]
    by_cases b : (s.size : Int) > 64
    · have : ¬ IdOk s := fun h => by have := h.2.1; omega
      simp [b, this]
    · have : IdOk s ↔ AllC idC s 0 := ⟨fun h => h.2.2, fun h => ⟨by omega, by omega, h⟩⟩
      simp [b, this]
end
end
section
open Classical
noncomputable section
def ays : Nat → ByteArray
  | 0 => ⟨#[]⟩
  | n + 1 => ays n ++ (⟨#[97]⟩ : ByteArray)
def tildes : Nat → ByteArray
  | 0 => ⟨#[]⟩
  | n + 1 => tildes n ++ (⟨#[126, 65]⟩ : ByteArray)
theorem ays_size (n : Nat) : (ays n).size = n := by
  induction n with
  | zero => rfl
  | succ n ih => rw [ays, ByteArray.size_append, ih]; rfl
theorem tildes_size (n : Nat) : (tildes n).size = 2 * n := by
  induction n with
  | zero => rfl
  | succ n ih => rw [tildes, ByteArray.size_append, ih]; show 2 * n + 2 = _; omega
theorem ays_ok : NameOk (ays 32) := by
  refine ⟨by rw [ays_size]; omega, by rw [ays_size]; omega, by unfold low; decide +kernel, by unfold isWord; decide +kernel, ?_⟩
  intro j h0 h1
  rw [ays_size] at h1
  have : ∀ n : Nat, n < 32 → bt (ays 32) n = 97 := by decide +kernel
  obtain ⟨n, rfl⟩ := Int.eq_ofNat_of_zero_le h0
  rw [this n (by omega)]
  unfold nameC low
  omega
theorem tildes_ok : IdOk (tildes 32) := by
  refine ⟨by rw [tildes_size]; omega, by rw [tildes_size]; omega, ?_⟩
  intro j h0 h1
  rw [tildes_size] at h1
  have : ∀ n : Nat, n < 64 → bt (tildes 32) n = 126 ∨ bt (tildes 32) n = 65 := by decide +kernel
  obtain ⟨n, rfl⟩ := Int.eq_ofNat_of_zero_le h0
  have := this n (by omega)
  unfold idC low dig upp
  omega
theorem not_name {s : ByteArray} (h : 32 < s.size) : ¬ NameOk s := fun g => by have := g.2.1; omega
theorem not_id {s : ByteArray} (h : 64 < s.size) : ¬ IdOk s := fun g => by have := g.2.1; omega
theorem numbers_loop : ∀ (d n k : Nat), n + d = 32 → 200 + d ≤ k → latchkeylaw01_IdentNumbers.l0 k (ays n) (tildes n) n = some true := by
  intro d
  induction d with
  | zero =>
    intro n k hn hk
    obtain ⟨k, rfl⟩ : ∃ m, k = m + 1 := ⟨k - 1, by omega⟩
    obtain rfl : n = 32 := by omega
    have e1 : (ays 32 ++ (⟨#[97]⟩ : ByteArray)).size = 33 := ays_size 33
    have e2 : (tildes 32 ++ (⟨#[49]⟩ : ByteArray)).size = 65 := by rw [ByteArray.size_append, tildes_size]; rfl
    have h1 := name_at (ays 32 ++ (⟨#[97]⟩ : ByteArray)) (by omega) k (by omega)
    have h2 := id_at (tildes 32 ++ (⟨#[49]⟩ : ByteArray)) (by omega) k (by omega)
    have h3 := name_at (ays 32) (by rw [ays_size]; omega) k (by rw [ays_size]; omega)
    have h4 := id_at (tildes 32) (by rw [tildes_size]; omega) k (by rw [tildes_size]; omega)
    rw [decide_eq_false (not_name (by omega))] at h1
    rw [decide_eq_false (not_id (by omega))] at h2
    rw [decide_eq_true ays_ok] at h3
    rw [decide_eq_true tildes_ok] at h4
    simp only [latchkeylaw01_IdentNumbers.l0]
    rw [if_neg (by omega), if_pos (by rw [ays_size]; omega), h1]
    simp only [Option.bind_some]
    rw [if_pos (by rw [tildes_size]; omega), h2, h3, h4]
    simp
  | succ d ih =>
    intro n k hn hk
    obtain ⟨k, rfl⟩ : ∃ m, k = m + 1 := ⟨k - 1, by omega⟩
    have h := ih (n + 1) k (by omega) (by omega)
    simp only [latchkeylaw01_IdentNumbers.l0]
    rw [if_pos (by omega), if_pos (by rw [ays_size]; omega), if_pos (by rw [tildes_size]; omega), wrap_one (n := 32) (by omega) (by omega) (by omega)]
    exact h
end
end
theorem IdentNumbers : latchkeylaw01_IdentNumbers.Pure := ⟨232, numbers_loop 32 0 232 rfl (by omega)⟩
end Go.Proofs.Ytdeagmenlijieaa.Pure
