/- Proved here: what the functions answer, for IdentKinds (plain lemmas) -/
import Derived.Test.YtdeagmenlijieaaDoorDKindsx0
import Derived.Test.YtdeagmenlijieaaDoorDKindsx1
import Derived.Test.YtdeagmenlijieaaDoorDKindsx2
import Derived.Test.YtdeagmenlijieaaDoorDKindsx3
import Derived.Test.YtdeagmenlijieaaDoorDKindsx4
namespace Go.Proofs.YtdeagmenlijieaaDoor.DKinds
open Go.RowKit Go.Proofs.YtdeagmenlijieaaDoorW.PrintWords Go.Proofs.YtdeagmenlijieaaDoorW.PrintLast
set_option linter.unusedVariables false
set_option linter.unusedSimpArgs false
section
open Classical
noncomputable section

def low (c : Int) : Prop := 97 ≤ c ∧ c ≤ 122
def dig (c : Int) : Prop := 48 ≤ c ∧ c ≤ 57
def upp (c : Int) : Prop := 65 ≤ c ∧ c ≤ 90
def nameC (c : Int) : Prop := low c ∨ dig c ∨ c = 95
def idC (c : Int) : Prop := low c ∨ dig c ∨ upp c ∨ c = 45 ∨ c = 95 ∨ c = 46 ∨ c = 61 ∨ c = 43 ∨ c = 47 ∨ c = 124 ∨ c = 126
def isWord (s : ByteArray) : Prop :=
  s.toList = ([116, 121, 112, 101] : List UInt8) ∨ s.toList = ([114, 101, 108, 97, 116, 105, 111, 110] : List UInt8) ∨ s.toList = ([99, 111, 110, 100] : List UInt8) ∨
  s.toList = ([111, 114] : List UInt8) ∨ s.toList = ([97, 110, 100] : List UInt8) ∨ s.toList = ([110, 111, 116] : List UInt8) ∨ s.toList = ([102, 114, 111, 109] : List UInt8) ∨
  s.toList = ([119, 105, 116, 104] : List UInt8) ∨ s.toList = ([105, 110] : List UInt8) ∨ s.toList = ([116, 114, 117, 101] : List UInt8) ∨ s.toList = ([102, 97, 108, 115, 101] : List UInt8) ∨
  s.toList = ([110, 97, 110] : List UInt8) ∨ s.toList = ([105, 110, 102] : List UInt8)
def AllC (p : Int → Prop) (s : ByteArray) (i : Int) : Prop := ∀ j : Int, i ≤ j → j < (s.size : Int) → p (bt s j)
def NameOk (s : ByteArray) : Prop := 1 ≤ s.size ∧ s.size ≤ 32 ∧ low (bt s 0) ∧ ¬ isWord s ∧ AllC nameC s 0
def IdOk (s : ByteArray) : Prop := 1 ≤ s.size ∧ s.size ≤ 64 ∧ AllC idC s 0

theorem wrap_one {i : Int} {n : Nat} (h0 : 0 ≤ i) (h : i < (n : Int)) (hn : n ≤ 9223372036854775807) : wrap64 (i + 1) = i + 1 := by
  unfold wrap64
  omega
theorem toList_nil {s : ByteArray} : s.toList = ([] : List UInt8) ↔ s.size = 0 := by
  rw [ByteArray.toList_eq]
  constructor
  · intro h
    have := congrArg List.length h
    rw [Array.length_toList] at this
    exact this
  · intro h
    apply List.eq_nil_of_length_eq_zero
    rw [Array.length_toList]
    exact h
theorem allC_end {p : Int → Prop} {s : ByteArray} {i : Int} (h : ¬ i < (s.size : Int)) : AllC p s i := fun j h1 h2 => absurd h2 (by omega)
theorem allC_step {p : Int → Prop} {s : ByteArray} {i : Int} (h : i < (s.size : Int)) : AllC p s i ↔ p (bt s i) ∧ AllC p s (i + 1) := by
  constructor
  · intro h1
    exact ⟨h1 i (Int.le_refl _) h, fun j h2 h3 => h1 j (by omega) h3⟩
  · rintro ⟨h1, h2⟩ j h3 h4
    by_cases e : j = i
    · subst e; exact h1
    · exact h2 j (by omega) h4
theorem lower_eq (c : Int) : ident_lower.f c = some (decide (low c)) := by
  unfold ident_lower.f low
  split <;> simp [*]
theorem digit_eq (c : Int) : ident_digit.f c = some (decide (dig c)) := by
  unfold ident_digit.f dig
  split <;> simp [*]
theorem ite_or {p q : Prop} {i : Decidable p} {j : Decidable q} {l : Decidable (p ∨ q)} {x : Option Bool} (h : x = some (@decide q j)) : (@ite (Option Bool) p i (some true) x) = some (@decide (p ∨ q) l) := by
  by_cases a : p <;> simp [a, h]
theorem ite_last {p : Prop} {i : Decidable p} {j : Decidable p} : (@ite (Option Bool) p i (some true) (some false)) = some (@decide p j) := by
  by_cases a : p <;> simp [a]
theorem word_eq (s : ByteArray) : ident_word.f s = some (decide (isWord s)) := by
  unfold ident_word.f isWord
  repeat (refine ite_or (j := Classical.propDecidable _) ?_)
  exact ite_last

theorem name_loop (s : ByteArray) (hs : s.size ≤ 9223372036854775807) : ∀ (d k : Nat) (i : Int), 0 ≤ i → i ≤ s.size → (s.size : Int) - i = d → d < k →
    ident_Name.l0 k s (s.size : Int) i = some (decide (AllC nameC s i)) := by
  intro d
  induction d with
  | zero =>
    intro k i h0 h1 hd hk
    obtain ⟨k, rfl⟩ : ∃ m, k = m + 1 := ⟨k - 1, by omega⟩
    simp only [ident_Name.l0]
    rw [if_neg (by omega), decide_eq_true (allC_end (by omega))]
  | succ d ih =>
    intro k i h0 h1 hd hk
    obtain ⟨k, rfl⟩ : ∃ m, k = m + 1 := ⟨k - 1, by omega⟩
    have hlt : i < (s.size : Int) := by omega
    have ih' := ih k (i + 1) (by omega) (by omega) (by omega) (by omega)
    simp only [ident_Name.l0, lower_eq, digit_eq, Option.bind_some]
    rw [if_pos hlt, if_pos h0, if_pos hlt, wrap_one h0 hlt hs, ih']
    by_cases a : low (bt s i)
    · have : AllC nameC s i ↔ AllC nameC s (i + 1) := by rw [allC_step hlt]; exact ⟨fun h => h.2, fun h => ⟨.inl a, h⟩⟩
      simp [a, this]
    · by_cases b : dig (bt s i)
      · have : AllC nameC s i ↔ AllC nameC s (i + 1) := by rw [allC_step hlt]; exact ⟨fun h => h.2, fun h => ⟨.inr (.inl b), h⟩⟩
        simp [a, b, this]
      · by_cases c : bt s i = 95
        · have : AllC nameC s i ↔ AllC nameC s (i + 1) := by rw [allC_step hlt]; exact ⟨fun h => h.2, fun h => ⟨.inr (.inr c), h⟩⟩
          simp [a, b, c, this]
        · have : ¬ AllC nameC s i := by rw [allC_step hlt]; rintro ⟨h | h | h, _⟩ <;> contradiction
          simp [a, b, c, this]

theorem name_at (s : ByteArray) (hs : s.size ≤ 9223372036854775807) (k : Nat) (hk : s.size + 2 ≤ k) : ident_Name.f k s = some (decide (NameOk s)) := by
  obtain ⟨k, rfl⟩ : ∃ m, k = m + 1 := ⟨k - 1, by omega⟩
  have hl := name_loop s hs s.size k 0 (by omega) (by omega) (by omega) (by omega)
  unfold ident_Name.f
  simp only [ident_Name.j0, lower_eq, word_eq, Option.bind_some, hl]
  by_cases a : s.size = 0
  · rw [if_pos (toList_nil.2 a)]
    have : ¬ NameOk s := fun h => by have := h.1; omega
    simp [this]
  · rw [if_neg (fun h => a (toList_nil.1 h))]
    by_cases b : (s.size : Int) > 32
    · rw [if_pos b]
      have : ¬ NameOk s := fun h => by have := h.2.1; omega
      simp [this]
    · rw [if_neg b, if_pos (by omega)]
      by_cases c : low (bt s 0)
      · by_cases d : isWord s
        · have : ¬ NameOk s := fun h => h.2.2.2.1 d
          simp [c, d, this]
        · have : NameOk s ↔ AllC nameC s 0 := ⟨fun h => h.2.2.2.2, fun h => ⟨by omega, by omega, c, d, h⟩⟩
          simp [c, d, this]
      · have : ¬ NameOk s := fun h => c h.2.2.1
        simp [c, this]

theorem id_loop (s : ByteArray) (hs : s.size ≤ 9223372036854775807) : ∀ (d k : Nat) (i : Int), 0 ≤ i → i ≤ s.size → (s.size : Int) - i = d → 2 * d < k →
    ident_Id.l0 k s (s.size : Int) i = some (decide (AllC idC s i)) := by
  intro d
  induction d with
  | zero =>
    intro k i h0 h1 hd hk
    obtain ⟨k, rfl⟩ : ∃ m, k = m + 1 := ⟨k - 1, by omega⟩
    simp only [ident_Id.l0]
    rw [if_neg (by omega), decide_eq_true (allC_end (by omega))]
  | succ d ih =>
    intro k i h0 h1 hd hk
    obtain ⟨k, rfl⟩ : ∃ m, k = m + 2 := ⟨k - 2, by omega⟩
    have hlt : i < (s.size : Int) := by omega
    have ih' := ih k (i + 1) (by omega) (by omega) (by omega) (by omega)
    have key : ∀ b : Bool, ident_Id.j2 (k + 1) s (bt s i) (s.size : Int) i b = some (decide ((b = true ∨ bt s i = 45 ∨ bt s i = 95 ∨ bt s i = 46 ∨ bt s i = 61 ∨ bt s i = 43 ∨ bt s i = 47 ∨ bt s i = 124 ∨ bt s i = 126) ∧ AllC idC s (i + 1))) := by
      intro b
      simp only [ident_Id.j2]
      rw [wrap_one h0 hlt hs, ih']
      repeat (split; simp [*])
      simp [*]
    simp only [ident_Id.l0, lower_eq, digit_eq, Option.bind_some]
    rw [if_pos hlt, if_pos h0, if_pos hlt]
    simp only [key]
    have e := allC_step (p := idC) hlt
    by_cases a : low (bt s i)
    · simp [a, e, idC]
    · by_cases b : dig (bt s i)
      · simp [a, b, e, idC]
      · by_cases c : 65 ≤ bt s i
        · by_cases c' : bt s i ≤ 90
          · simp [a, b, c, c', e, idC, upp]
          · simp [a, b, c, c', e, idC, upp]
        · simp [a, b, c, e, idC, upp]

theorem id_at (s : ByteArray) (hs : s.size ≤ 9223372036854775807) (k : Nat) (hk : 2 * s.size + 2 ≤ k) : ident_Id.f k s = some (decide (IdOk s)) := by
  obtain ⟨k, rfl⟩ : ∃ m, k = m + 1 := ⟨k - 1, by omega⟩
  have hl := id_loop s hs s.size k 0 (by omega) (by omega) (by omega) (by omega)
  unfold ident_Id.f
  simp only [ident_Id.j0, hl]
  by_cases a : s.size = 0
  · rw [if_pos (toList_nil.2 a)]
    have : ¬ IdOk s := fun h => by have := h.1; omega
    simp [this]
  · rw [if_neg (fun h => a (toList_nil.1 h))]
    by_cases b : (s.size : Int) > 64
    · have : ¬ IdOk s := fun h => by have := h.2.1; omega
      simp [b, this]
    · have : IdOk s ↔ AllC idC s 0 := ⟨fun h => h.2.2, fun h => ⟨by omega, by omega, h⟩⟩
      simp [b, this]
end
end
section
theorem L_append (a b : ByteArray) : (a ++ b).data.toList = a.data.toList ++ b.data.toList := by simp
theorem L_size (s : ByteArray) : s.data.toList.length = s.size := by rw [Array.length_toList]; rfl
theorem L_inj {a b : ByteArray} (h : a.data.toList = b.data.toList) : a = b := by
  obtain ⟨⟨a⟩⟩ := a
  obtain ⟨⟨b⟩⟩ := b
  cases h
  rfl
def mkB (l : List UInt8) : ByteArray := ⟨l.toArray⟩
theorem L_mkB (l : List UInt8) : (mkB l).data.toList = l := rfl
theorem mkB_L (s : ByteArray) : mkB s.data.toList = s := L_inj (L_mkB _)
theorem toL (s : ByteArray) : s.toList = s.data.toList := ByteArray.toList_eq s
def lowU (c : UInt8) : Bool := decide (97 ≤ c.toNat) && decide (c.toNat ≤ 122)
def digU (c : UInt8) : Bool := decide (48 ≤ c.toNat) && decide (c.toNat ≤ 57)
def uppU (c : UInt8) : Bool := decide (65 ≤ c.toNat) && decide (c.toNat ≤ 90)
def nameU (c : UInt8) : Bool := lowU c || digU c || c == 95
def idU (c : UInt8) : Bool := lowU c || digU c || uppU c || c == 45 || c == 95 || c == 46 || c == 61 || c == 43 || c == 47 || c == 124 || c == 126
def wordL (l : List UInt8) : Bool := l == [116, 121, 112, 101] || l == [114, 101, 108, 97, 116, 105, 111, 110] || l == [99, 111, 110, 100] || l == [111, 114] || l == [97, 110, 100] || l == [110, 111, 116] || l == [102, 114, 111, 109] || l == [119, 105, 116, 104] || l == [105, 110] || l == [116, 114, 117, 101] || l == [102, 97, 108, 115, 101] || l == [110, 97, 110] || l == [105, 110, 102]
def nameL (l : List UInt8) : Bool := decide (1 ≤ l.length) && decide (l.length ≤ 32) && lowU (l.headD 0) && !(wordL l) && l.all nameU
def idL (l : List UInt8) : Bool := decide (1 ≤ l.length) && decide (l.length ≤ 64) && l.all idU
theorem u8_eq (c : UInt8) (n : Nat) (h : n < 256) : (c == UInt8.ofNat n) = decide ((c.toNat : Int) = n) := by
  have z : (UInt8.ofNat n).toNat = n := by rw [UInt8.toNat_ofNat']; omega
  rw [Bool.eq_iff_iff, beq_iff_eq, decide_eq_true_eq]
  constructor
  · rintro rfl; rw [z]
  · intro e; apply UInt8.toNat_inj.1; rw [z]; omega
theorem lowU_iff (c : UInt8) : lowU c = true ↔ low (c.toNat : Int) := by unfold lowU low; simp; omega
theorem digU_iff (c : UInt8) : digU c = true ↔ dig (c.toNat : Int) := by unfold digU dig; simp; omega
theorem uppU_iff (c : UInt8) : uppU c = true ↔ upp (c.toNat : Int) := by unfold uppU upp; simp; omega
theorem eqU (c : UInt8) (n : Nat) (h : n < 256) : (c == UInt8.ofNat n) = true ↔ (c.toNat : Int) = n := by rw [u8_eq c n h, decide_eq_true_eq]
theorem nameU_iff (c : UInt8) : nameU c = true ↔ nameC (c.toNat : Int) := by
  unfold nameU nameC
  have := eqU c 95 (by omega)
  rw [Bool.or_eq_true, Bool.or_eq_true, lowU_iff, digU_iff, or_assoc]
  exact or_congr_right (or_congr_right this)
theorem idU_iff (c : UInt8) : idU c = true ↔ idC (c.toNat : Int) := by
  unfold idU idC
  have e1 := eqU c 45 (by omega); have e2 := eqU c 95 (by omega); have e3 := eqU c 46 (by omega); have e4 := eqU c 61 (by omega)
  have e5 := eqU c 43 (by omega); have e6 := eqU c 47 (by omega); have e7 := eqU c 124 (by omega); have e8 := eqU c 126 (by omega)
  simp only [Bool.or_eq_true, or_assoc]
  exact or_congr (lowU_iff c) (or_congr (digU_iff c) (or_congr (uppU_iff c) (or_congr e1 (or_congr e2 (or_congr e3 (or_congr e4 (or_congr e5 (or_congr e6 (or_congr e7 e8)))))))))
theorem bt_get (s : ByteArray) (i : Nat) (h : i < s.size) : bt s i = ((s.data.toList[i]'(by rw [L_size]; exact h)).toNat : Int) := by
  unfold bt
  rw [dif_pos (show (i : Int).toNat < s.size by simpa using h)]
  rfl
theorem allC_list (p : Int → Prop) (s : ByteArray) : AllC p s 0 ↔ ∀ c ∈ s.data.toList, p (c.toNat : Int) := by
  constructor
  · intro h c hc
    obtain ⟨i, hi, rfl⟩ := List.getElem_of_mem hc
    rw [L_size] at hi
    rw [← bt_get s i hi]
    exact h i (by omega) (by omega)
  · intro h j h0 h1
    obtain ⟨i, rfl⟩ := Int.eq_ofNat_of_zero_le h0
    rw [bt_get s i (by omega)]
    exact h _ (List.getElem_mem _)
theorem word_iff (s : ByteArray) : wordL s.data.toList = true ↔ isWord s := by
  unfold wordL isWord
  simp only [toL, Bool.or_eq_true, beq_iff_eq, or_assoc]
theorem head_get (l : List UInt8) (h : 0 < l.length) : l[0] = l.headD 0 := by
  cases l with
  | nil => simp at h
  | cons a l => rfl
theorem headD_bt (s : ByteArray) (h : 1 ≤ s.size) : bt s 0 = ((s.data.toList.headD 0).toNat : Int) := by
  have := bt_get s 0 (by omega)
  rw [show ((0 : Nat) : Int) = 0 from rfl] at this
  rw [this, head_get _ (by rw [L_size]; omega)]
open Classical in
theorem name_iff (s : ByteArray) : NameOk s ↔ nameL s.data.toList = true := by
  unfold NameOk nameL
  rw [allC_list, L_size]
  simp only [Bool.and_eq_true, decide_eq_true_eq, Bool.not_eq_true', List.all_eq_true, nameU_iff, lowU_iff]
  constructor
  · rintro ⟨a, b, c, d, e⟩
    rw [headD_bt s a] at c
    exact ⟨⟨⟨⟨a, b⟩, c⟩, by rw [← Bool.not_eq_true, word_iff]; exact d⟩, e⟩
  · rintro ⟨⟨⟨⟨a, b⟩, c⟩, d⟩, e⟩
    rw [← headD_bt s a] at c
    exact ⟨a, b, c, by rw [← Bool.not_eq_true, word_iff] at d; exact d, e⟩
theorem id_iff (s : ByteArray) : IdOk s ↔ idL s.data.toList = true := by
  unfold IdOk idL
  rw [allC_list, L_size]
  simp only [Bool.and_eq_true, decide_eq_true_eq, List.all_eq_true, idU_iff, and_assoc]
theorem dec_of {p : Prop} {b : Bool} {i : Decidable p} (h : p ↔ b = true) : @decide p i = b := by
  by_cases a : p
  · rw [decide_eq_true a, h.1 a]
  · rw [decide_eq_false a]; cases b with
    | false => rfl
    | true => exact absurd (h.2 rfl) a
theorem nameL_at (s : ByteArray) (hs : s.size ≤ 9223372036854775807) (k : Nat) (hk : 2 * s.size + 2 ≤ k) : ident_Name.f k s = some (nameL s.data.toList) := by
  rw [name_at s hs k (by omega), dec_of (name_iff s)]
theorem idL_at (s : ByteArray) (hs : s.size ≤ 9223372036854775807) (k : Nat) (hk : 2 * s.size + 2 ≤ k) : ident_Id.f k s = some (idL s.data.toList) := by
  rw [id_at s hs k hk, dec_of (id_iff s)]
theorem nameL_size {s : ByteArray} (h : nameL s.data.toList = true) : 1 ≤ s.size ∧ s.size ≤ 32 := by have := (name_iff s).2 h; exact ⟨this.1, this.2.1⟩
theorem idL_size {s : ByteArray} (h : idL s.data.toList = true) : 1 ≤ s.size ∧ s.size ≤ 64 := by have := (id_iff s).2 h; exact ⟨this.1, this.2.1⟩
theorem nameL_no {l : List UInt8} (h : nameL l = true) (c : UInt8) (hc : nameU c = false) : c ∉ l := by
  unfold nameL at h
  simp only [Bool.and_eq_true, List.all_eq_true] at h
  intro g
  rw [h.2 c g] at hc
  cases hc
theorem idL_no {l : List UInt8} (h : idL l = true) (c : UInt8) (hc : idU c = false) : c ∉ l := by
  unfold idL at h
  simp only [Bool.and_eq_true, List.all_eq_true] at h
  intro g
  rw [h.2 c g] at hc
  cases hc
theorem name_colon {l : List UInt8} (h : nameL l = true) : (58 : UInt8) ∉ l := nameL_no h _ (by decide)
theorem id_colon {l : List UInt8} (h : idL l = true) : (58 : UInt8) ∉ l := idL_no h _ (by decide)
theorem id_hash {l : List UInt8} (h : idL l = true) : (35 : UInt8) ∉ l := idL_no h _ (by decide)
theorem id_star {l : List UInt8} (h : idL l = true) : l ≠ [42] := by rintro rfl; exact absurd h (by decide)
theorem nameL_ne {l : List UInt8} (h : nameL l = true) : l ≠ [] := by rintro rfl; exact absurd h (by decide)
theorem idL_ne {l : List UInt8} (h : idL l = true) : l ≠ [] := by rintro rfl; exact absurd h (by decide)
def subT (t i r : ByteArray) : ByteArray × Int :=
  if nameL t.data.toList = true then
    (if idL i.data.toList = true ∨ i.data.toList = [42] ∧ r.data.toList = [] then
      (if r.data.toList = [] then ((t ++ (⟨#[58]⟩ : ByteArray)) ++ i, 0) else if nameL r.data.toList = true then ((((t ++ (⟨#[58]⟩ : ByteArray)) ++ i) ++ (⟨#[35]⟩ : ByteArray)) ++ r, 0) else ((⟨#[]⟩ : ByteArray), 10))
    else ((⟨#[]⟩ : ByteArray), 11))
  else ((⟨#[]⟩ : ByteArray), 10)
theorem subT_at (t i r : ByteArray) (B k : Nat) (ht : t.size ≤ B) (hi : i.size ≤ B) (hr : r.size ≤ B) (hB : B ≤ 9223372036854775807) (hk : 2 * B + 6 ≤ k) : ident_SubjectText.f k t i r = some (subT t i r) := by
  obtain ⟨k, rfl⟩ : ∃ m, k = m + 2 := ⟨k - 2, by omega⟩
  have hj1 : ∀ b : Bool, nameL t.data.toList = true → ident_SubjectText.j1 (k + 1) b t i r = if b = true then some ((⟨#[]⟩ : ByteArray), 11) else if i.size ≤ 64 then some (if r.data.toList = [] then ((t ++ (⟨#[58]⟩ : ByteArray)) ++ i, 0) else if nameL r.data.toList = true then ((((t ++ (⟨#[58]⟩ : ByteArray)) ++ i) ++ (⟨#[35]⟩ : ByteArray)) ++ r, 0) else ((⟨#[]⟩ : ByteArray), 10)) else ident_SubjectText.j1 (k + 1) b t i r := by
    intro b hn
    by_cases hb : b = true
    · rw [if_pos hb]; simp only [ident_SubjectText.j1]; rw [if_pos hb]
    · rw [if_neg hb]
      by_cases h64 : i.size ≤ 64
      · rw [if_pos h64]
        have z1 := nameL_size hn
        simp only [ident_SubjectText.j1, toL]
        rw [if_neg hb, nameL_at r (by omega) k (by omega)]
        have c1 : t.size + 1 ≤ 9223372036854775807 := by omega
        have e2 : (t ++ (⟨#[58]⟩ : ByteArray)).size = t.size + 1 := by rw [ByteArray.size_append]; rfl
        have e3 : ((t ++ (⟨#[58]⟩ : ByteArray)) ++ i).size = t.size + 1 + i.size := by rw [ByteArray.size_append, e2]
        have e4 : (((t ++ (⟨#[58]⟩ : ByteArray)) ++ i) ++ (⟨#[35]⟩ : ByteArray)).size = t.size + 1 + i.size + 1 := by rw [ByteArray.size_append, e3]; rfl
        rw [if_pos c1, e2, if_pos (show t.size + 1 + i.size ≤ 9223372036854775807 by omega), e3, if_pos (show t.size + 1 + i.size + 1 ≤ 9223372036854775807 by omega), e4]
        simp only [Option.bind_some]
        by_cases p : r.data.toList = []
        · rw [if_pos p, if_pos p]
        · rw [if_neg p, if_neg p]
          by_cases q : nameL r.data.toList = true
          · have z2 := nameL_size q
            rw [if_pos q, if_pos q, if_pos (by omega), if_pos (by omega), if_pos (by omega)]
          · rw [if_neg q, if_neg q]
      · rw [if_neg h64]
  have hj0 : ∀ x : Bool, (x = true ↔ i.data.toList = [42] ∧ r.data.toList = []) → ident_SubjectText.j0 (k + 2) x t i r = some (subT t i r) := by
    intro x hx
    simp only [ident_SubjectText.j0]
    rw [nameL_at t (by omega) (k + 1) (by omega), idL_at i (by omega) (k + 1) (by omega)]
    simp only [Option.bind_some]
    unfold subT
    by_cases p : nameL t.data.toList = true
    · rw [if_pos p, if_pos p]
      by_cases q : idL i.data.toList = true
      · rw [if_pos q, hj1 false p, if_neg (by simp), if_pos (idL_size q).2, if_pos (show idL i.data.toList = true ∨ i.data.toList = [42] ∧ r.data.toList = [] from .inl q)]
      · rw [if_neg q]
        cases x with
        | true =>
          obtain ⟨x1, x2⟩ := hx.1 rfl
          have z : i.size = 1 := by rw [← L_size, x1]; rfl
          rw [hj1 _ p, if_neg (by simp), if_pos (by omega), if_pos (show idL i.data.toList = true ∨ i.data.toList = [42] ∧ r.data.toList = [] from .inr ⟨x1, x2⟩)]
        | false =>
          have nx : ¬ (i.data.toList = [42] ∧ r.data.toList = []) := fun h => by cases hx.2 h
          rw [hj1 _ p, if_pos (by simp), if_neg (by rintro (h | h) <;> first | exact q h | exact nx h)]
    · rw [if_neg p, if_neg p]
  unfold ident_SubjectText.f
  simp only [toL]
  by_cases h : i.data.toList = [42]
  · rw [if_pos h]
    exact hj0 _ (by simp [h])
  · rw [if_neg h]
    exact hj0 _ (by simp [h])
section
open Classical
theorem small_eq (c : Int) : latchkeyref01_small.f c = some (decide (low c)) := by
  unfold latchkeyref01_small.f low
  split <;> simp_all <;> omega
theorem rdigit_eq (c : Int) : latchkeyref01_digit.f c = some (decide (dig c)) := by
  unfold latchkeyref01_digit.f dig
  split <;> simp_all <;> omega
theorem words_len : wordsL.length = 13 := rfl
theorem rname_words (s : ByteArray) : ∀ (d k i : Nat), i + d = 13 → d < k → latchkeyref01_Name.l1 k s i = some (!((wordsL.drop i).any (fun l => l == s.data.toList))) := by
  intro d
  induction d with
  | zero =>
    intro k i h hk
    obtain ⟨k, rfl⟩ : ∃ m, k = m + 1 := ⟨k - 1, by omega⟩
    obtain rfl : i = 13 := by omega
    simp only [latchkeyref01_Name.l1]
    rw [if_neg (by omega)]
    rfl
  | succ d ih =>
    intro k i h hk
    obtain ⟨k, rfl⟩ : ∃ m, k = m + 1 := ⟨k - 1, by omega⟩
    have hi : i < wordsL.length := by rw [words_len]; omega
    have e1 : ((i + 1 : Nat) : Int) = (i : Int) + 1 := by omega
    have ih' := ih k (i + 1) (by omega) (by omega)
    rw [e1] at ih'
    have hw : words_at.f i = some ⟨(wordsL[i]).toArray⟩ := by
      unfold words_at.f
      rw [if_pos (by omega)]
      simp [List.getD_eq_getElem?_getD, hi]
    simp only [latchkeyref01_Name.l1]
    rw [if_pos (by omega), hw, wrap_one (n := 13) (by omega) (by omega) (by omega), ih', List.drop_eq_getElem_cons hi, List.any_cons]
    simp only [Option.bind_some, toL]
    by_cases e : wordsL[i] = s.data.toList
    · simp [e]
    · simp [e]
theorem words_any (l : List UInt8) : wordsL.any (fun x => x == l) = wordL l := by
  unfold wordL wordsL
  simp only [List.any_cons, List.any_nil, Bool.or_false]
  rw [Bool.eq_iff_iff]
  simp only [Bool.or_eq_true, beq_iff_eq, or_assoc]
  constructor <;> (intro h; simpa only [eq_comm] using h)
theorem rname_loop (s : ByteArray) (hs : s.size ≤ 9223372036854775807) : ∀ (d k : Nat) (i : Int), 0 ≤ i → i ≤ s.size → (s.size : Int) - i = d → d + 20 < k →
    latchkeyref01_Name.l0 k s i = some (decide (AllC nameC s i) && !(wordL s.data.toList)) := by
  intro d
  induction d with
  | zero =>
    intro k i h0 h1 hd hk
    obtain ⟨k, rfl⟩ : ∃ m, k = m + 1 := ⟨k - 1, by omega⟩
    simp only [latchkeyref01_Name.l0]
    have := rname_words s 13 k 0 (by omega) (by omega)
    rw [List.drop_zero, words_any] at this
    rw [if_neg (by omega), decide_eq_true (allC_end (by omega)), Bool.true_and]
    exact this
  | succ d ih =>
    intro k i h0 h1 hd hk
    obtain ⟨k, rfl⟩ : ∃ m, k = m + 1 := ⟨k - 1, by omega⟩
    have hlt : i < (s.size : Int) := by omega
    have ih' := ih k (i + 1) (by omega) (by omega) (by omega) (by omega)
    simp only [latchkeyref01_Name.l0, small_eq, rdigit_eq, Option.bind_some]
    rw [if_pos hlt, if_pos h0, wrap_one h0 hlt hs, ih']
    by_cases a : low (bt s i)
    · have : AllC nameC s i ↔ AllC nameC s (i + 1) := by rw [allC_step hlt]; exact ⟨fun h => h.2, fun h => ⟨.inl a, h⟩⟩
      simp [a, this]
    · by_cases b : dig (bt s i)
      · have : AllC nameC s i ↔ AllC nameC s (i + 1) := by rw [allC_step hlt]; exact ⟨fun h => h.2, fun h => ⟨.inr (.inl b), h⟩⟩
        simp [a, b, this]
      · by_cases c : bt s i = 95
        · have : AllC nameC s i ↔ AllC nameC s (i + 1) := by rw [allC_step hlt]; exact ⟨fun h => h.2, fun h => ⟨.inr (.inr c), h⟩⟩
          simp [a, b, c, this]
        · have : ¬ AllC nameC s i := by rw [allC_step hlt]; rintro ⟨h | h | h, _⟩ <;> contradiction
          simp [a, b, c, this]
theorem rname_at (s : ByteArray) (hs : s.size ≤ 9223372036854775807) (k : Nat) (hk : 2 * s.size + 30 ≤ k) : latchkeyref01_Name.f k s = some (nameL s.data.toList) := by
  obtain ⟨k, rfl⟩ : ∃ m, k = m + 1 := ⟨k - 1, by omega⟩
  have hl := rname_loop s hs s.size k 0 (by omega) (by omega) (by omega) (by omega)
  have hn : nameL s.data.toList = (decide (1 ≤ s.size) && decide (s.size ≤ 32) && lowU (s.data.toList.headD 0) && !(wordL s.data.toList) && s.data.toList.all nameU) := by
    unfold nameL; rw [L_size]
  have ha : decide (AllC nameC s 0) = s.data.toList.all nameU := by
    apply dec_of
    rw [allC_list, List.all_eq_true]
    exact ⟨fun h c hc => (nameU_iff c).2 (h c hc), fun h c hc => (nameU_iff c).1 (h c hc)⟩
  unfold latchkeyref01_Name.f
  simp only [latchkeyref01_Name.j0, small_eq, Option.bind_some, hl]
  rw [hn, ha]
  by_cases a : (s.size : Int) < 1
  · rw [if_pos a, decide_eq_false (show ¬ 1 ≤ s.size by omega)]; simp
  · rw [if_neg a, decide_eq_true (show 1 ≤ s.size by omega)]
    by_cases b : (s.size : Int) > 32
    · rw [if_pos b, decide_eq_false (show ¬ s.size ≤ 32 by omega)]; simp
    · rw [if_neg b, decide_eq_true (show s.size ≤ 32 by omega), if_pos (by omega), headD_bt s (by omega), dec_of (lowU_iff _).symm]
      cases lowU (s.data.toList.headD 0) <;> cases wordL s.data.toList <;> cases s.data.toList.all nameU <;> simp
def others : ByteArray := ⟨#[45, 95, 46, 61, 43, 47, 124, 126]⟩
def HitO (c m : Int) : Prop := ∃ j : Int, m ≤ j ∧ j < 8 ∧ bt others j = c
theorem one_loop (c : Int) : ∀ (d k : Nat) (i : Int), 0 ≤ i → i ≤ 8 → 8 - i = d → d < k → latchkeyref01_one.l0 k c i = some (decide (HitO c i)) := by
  intro d
  induction d with
  | zero =>
    intro k i h0 h1 hd hk
    obtain ⟨k, rfl⟩ : ∃ m, k = m + 1 := ⟨k - 1, by omega⟩
    simp only [latchkeyref01_one.l0]
    have : ¬ HitO c i := by rintro ⟨j, h2, h3, _⟩; omega
    rw [if_neg (by omega), decide_eq_false this]
  | succ d ih =>
    intro k i h0 h1 hd hk
    obtain ⟨k, rfl⟩ : ∃ m, k = m + 1 := ⟨k - 1, by omega⟩
    have ih' := ih k (i + 1) (by omega) (by omega) (by omega) (by omega)
    have eo : (⟨#[45, 95, 46, 61, 43, 47, 124, 126]⟩ : ByteArray) = others := rfl
    have st : HitO c i ↔ bt others i = c ∨ HitO c (i + 1) := by
      constructor
      · rintro ⟨j, h2, h3, h4⟩
        by_cases e : j = i
        · subst e; exact .inl h4
        · exact .inr ⟨j, by omega, h3, h4⟩
      · rintro (h2 | ⟨j, h2, h3, h4⟩)
        · exact ⟨i, Int.le_refl _, by omega, h2⟩
        · exact ⟨j, by omega, h3, h4⟩
    simp only [latchkeyref01_one.l0]
    rw [eo, if_pos (by omega), if_pos h0, wrap_one (n := 8) h0 (by omega) (by omega), ih']
    by_cases e : bt others i = c <;> simp [e, st]
theorem in_others : ∀ n : Nat, n < 256 → ((∃ j : Nat, j < 8 ∧ bt others j = n) ↔ n = 45 ∨ n = 95 ∨ n = 46 ∨ n = 61 ∨ n = 43 ∨ n = 47 ∨ n = 124 ∨ n = 126) := by decide +kernel
theorem one_at (s : ByteArray) (i : Int) (k : Nat) (hk : 12 ≤ k) : latchkeyref01_one.f k (bt s i) = some (decide (idC (bt s i))) := by
  obtain ⟨k, rfl⟩ : ∃ m, k = m + 1 := ⟨k - 1, by omega⟩
  have hr := bt_range s i
  have hl := one_loop (bt s i) 8 k 0 (by omega) (by omega) (by omega) (by omega)
  have hh : HitO (bt s i) 0 ↔ (bt s i = 45 ∨ bt s i = 95 ∨ bt s i = 46 ∨ bt s i = 61 ∨ bt s i = 43 ∨ bt s i = 47 ∨ bt s i = 124 ∨ bt s i = 126) := by
    obtain ⟨n, hn⟩ : ∃ n : Nat, bt s i = n := ⟨(bt s i).toNat, by omega⟩
    rw [hn]
    have := in_others n (by omega)
    have e : HitO (n : Int) 0 ↔ ∃ j : Nat, j < 8 ∧ bt others j = n := by
      constructor
      · rintro ⟨j, h0, h1, h2⟩
        exact ⟨j.toNat, by omega, by rw [Int.toNat_of_nonneg h0]; exact h2⟩
      · rintro ⟨j, h1, h2⟩
        exact ⟨j, by omega, by omega, h2⟩
    rw [e, this]
    omega
  unfold latchkeyref01_one.f
  simp only [latchkeyref01_one.j0, small_eq, rdigit_eq, Option.bind_some, hl]
  unfold idC
  by_cases a : low (bt s i)
  · simp [a]
  · by_cases b : dig (bt s i)
    · simp [a, b]
    · by_cases c : bt s i ≥ 65
      · by_cases c' : bt s i ≤ 90
        · simp [a, b, c, c', upp]
        · simp [a, b, c, c', upp, hh]
      · simp [a, b, c, upp, hh]
theorem rid_loop (s : ByteArray) (hs : s.size ≤ 9223372036854775807) : ∀ (d k : Nat) (i : Int), 0 ≤ i → i ≤ s.size → (s.size : Int) - i = d → d + 20 < k →
    latchkeyref01_Id.l0 k s i = some (decide (AllC idC s i)) := by
  intro d
  induction d with
  | zero =>
    intro k i h0 h1 hd hk
    obtain ⟨k, rfl⟩ : ∃ m, k = m + 1 := ⟨k - 1, by omega⟩
    simp only [latchkeyref01_Id.l0]
    rw [if_neg (by omega), decide_eq_true (allC_end (by omega))]
  | succ d ih =>
    intro k i h0 h1 hd hk
    obtain ⟨k, rfl⟩ : ∃ m, k = m + 1 := ⟨k - 1, by omega⟩
    have hlt : i < (s.size : Int) := by omega
    have ih' := ih k (i + 1) (by omega) (by omega) (by omega) (by omega)
    simp only [latchkeyref01_Id.l0]
    rw [if_pos hlt, if_pos h0, one_at s i k (by omega), wrap_one h0 hlt hs, ih']
    have e := allC_step (p := idC) hlt
    by_cases a : idC (bt s i) <;> simp [a, e]
theorem rid_at (s : ByteArray) (hs : s.size ≤ 9223372036854775807) (k : Nat) (hk : 2 * s.size + 30 ≤ k) : latchkeyref01_Id.f k s = some (idL s.data.toList) := by
  obtain ⟨k, rfl⟩ : ∃ m, k = m + 1 := ⟨k - 1, by omega⟩
  have hl := rid_loop s hs s.size k 0 (by omega) (by omega) (by omega) (by omega)
  have hn : idL s.data.toList = (decide (1 ≤ s.size) && decide (s.size ≤ 64) && s.data.toList.all idU) := by
    unfold idL; rw [L_size]
  have ha : decide (AllC idC s 0) = s.data.toList.all idU := by
    apply dec_of
    rw [allC_list, List.all_eq_true]
    exact ⟨fun h c hc => (idU_iff c).2 (h c hc), fun h c hc => (idU_iff c).1 (h c hc)⟩
  unfold latchkeyref01_Id.f
  simp only [latchkeyref01_Id.j0, hl]
  rw [hn, ha]
  by_cases a : (s.size : Int) < 1
  · rw [if_pos a, decide_eq_false (show ¬ 1 ≤ s.size by omega)]; simp
  · rw [if_neg a, decide_eq_true (show 1 ≤ s.size by omega)]
    by_cases b : (s.size : Int) > 64
    · rw [decide_eq_true b, decide_eq_false (show ¬ s.size ≤ 64 by omega)]; simp
    · rw [decide_eq_false b, decide_eq_true (show s.size ≤ 64 by omega)]; simp
end
theorem kind_at (t i r : ByteArray) (B k : Nat) (ht : t.size ≤ B) (hi : i.size ≤ B) (hr : r.size ≤ B) (hB : B ≤ 9223372036854775807) (hk : 2 * B + 6 ≤ k) :
    ident_Kind.f k t i r = some (if (subT t i r).2 = 0 then (if r.data.toList = [] then (if i.data.toList = [42] then 2 else 1) else 3) else 0) := by
  unfold ident_Kind.f
  rw [subT_at t i r B k ht hi hr hB hk]
  simp only [Option.bind_some, toL]
  by_cases a : (subT t i r).2 = 0
  · rw [if_pos a, if_pos a]
    by_cases b : r.data.toList = []
    · rw [if_pos b, if_pos b]
      by_cases c : i.data.toList = [42]
      · rw [if_pos c, if_pos c]
      · rw [if_neg c, if_neg c]
    · rw [if_neg b, if_neg b]
  · rw [if_neg a, if_neg a]
theorem rkind_at (t i r : ByteArray) (B k : Nat) (ht : t.size ≤ B) (hi : i.size ≤ B) (hr : r.size ≤ B) (hB : B ≤ 9223372036854775807) (hk : 2 * B + 40 ≤ k) :
    latchkeyref01_Kind.f k t i r = some (if (subT t i r).2 = 0 then (if r.data.toList = [] then (if i.data.toList = [42] then 2 else 1) else 3) else 0) := by
  obtain ⟨k, rfl⟩ : ∃ m, k = m + 2 := ⟨k - 2, by omega⟩
  unfold latchkeyref01_Kind.f subT
  rw [rname_at t (by omega) _ (by omega), rid_at i (by omega) _ (by omega)]
  simp only [Option.bind_some, latchkeyref01_Kind.j0, latchkeyref01_Kind.j1, toL]
  rw [rid_at i (by omega) _ (by omega), rname_at r (by omega) _ (by omega)]
  simp only [Option.bind_some]
  by_cases p : nameL t.data.toList = true
  · rw [if_pos p, if_pos p]
    by_cases u : r.data.toList = []
    · by_cases q : idL i.data.toList = true
      · have ns : ¬ i.data.toList = [42] := id_star q
        simp [q, u, ns]
      · by_cases s : i.data.toList = [42]
        · have : idL [42] = false := by decide
          simp [u, s, this]
        · simp [q, u, s]
    · by_cases q : idL i.data.toList = true
      · by_cases v : nameL r.data.toList = true <;> simp [q, u, v]
      · simp [q, u]
  · rw [if_neg p, if_neg p]; simp
theorem IdentKinds : ∀ b0 b1 b2 : ByteArray, b0.size ≤ maxLen → b1.size ≤ maxLen → b2.size ≤ maxLen → ∃ k, latchkeylaw01_IdentKinds.f k b0 b1 b2 = some true := by
  unfold maxLen
  intro b0 b1 b2 h3 h4 h5
  refine ⟨2 * 9223372036854775807 + 50, ?_⟩
  unfold latchkeylaw01_IdentKinds.f
  rw [kind_at b0 b1 b2 9223372036854775807 _ (by omega) (by omega) (by omega) (by omega) (by omega), rkind_at b0 b1 b2 9223372036854775807 _ (by omega) (by omega) (by omega) (by omega) (by omega)]
  simp
end
end Go.Proofs.YtdeagmenlijieaaDoor.DKinds
