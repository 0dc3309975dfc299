/- Proved here: what the functions answer, for IdentThere (plain lemmas) -/
import Derived.Test.YtdeagmenlijieaaQTherex3
import Derived.Test.YtdeagmenlijieaaQTherex4
import Derived.Test.YtdeagmenlijieaaQTherex5
import Derived.Test.YtdeagmenlijieaaQTherex6
namespace Go.Proofs.Ytdeagmenlijieaa.QThere
open Go.RowKit Go.Proofs.YtdeagmenlijieaaW.PrintWords Go.Proofs.YtdeagmenlijieaaW.PrintLast
set_option linter.unusedVariables false
set_option linter.unusedSimpArgs false
section
open Classical
noncomputable section

def low (c : Int) : Prop := 97 ≤ c ∧ c ≤ 122
def dig (c : Int) : Prop := 48 ≤ c ∧ c ≤ 57
def upp (c : Int) : Prop := 65 ≤ c ∧ c ≤ 90
def nameC (c : Int) : Prop := low c ∨ dig c ∨ c = 95
def idC (c : Int) : Prop := low c ∨ dig c ∨ upp c ∨ c = 45 ∨ c = 95 ∨ c = 46 ∨ c = 61 ∨ c = 43 ∨ c = 47 ∨ c = 124 ∨ c = 126
def isWord (s : ByteArray) : Prop :=
  s.toList = ([116, 121, 112, 101] : List UInt8) ∨ s.toList = ([114, 101, 108, 97, 116, 105, 111, 110] : List UInt8) ∨ s.toList = ([99, 111, 110, 100] : List UInt8) ∨
  s.toList = ([111, 114] : List UInt8) ∨ s.toList = ([97, 110, 100] : List UInt8) ∨ s.toList = ([110, 111, 116] : List UInt8) ∨ s.toList = ([102, 114, 111, 109] : List UInt8) ∨
  s.toList = ([119, 105, 116, 104] : List UInt8) ∨ s.toList = ([105, 110] : List UInt8) ∨ s.toList = ([116, 114, 117, 101] : List UInt8) ∨ s.toList = ([102, 97, 108, 115, 101] : List UInt8) ∨
  s.toList = ([110, 97, 110] : List UInt8) ∨ s.toList = ([105, 110, 102] : List UInt8)
def AllC (p : Int → Prop) (s : ByteArray) (i : Int) : Prop := ∀ j : Int, i ≤ j → j < (s.size : Int) → p (bt s j)
def NameOk (s : ByteArray) : Prop := 1 ≤ s.size ∧ s.size ≤ 32 ∧ low (bt s 0) ∧ ¬ isWord s ∧ AllC nameC s 0
def IdOk (s : ByteArray) : Prop := 1 ≤ s.size ∧ s.size ≤ 64 ∧ AllC idC s 0

theorem wrap_one {i : Int} {n : Nat} (h0 : 0 ≤ i) (h : i < (n : Int)) (hn : n ≤ 9223372036854775807) : wrap64 (i + 1) = i + 1 := by
  unfold wrap64
  omega
theorem toList_nil {s : ByteArray} : s.toList = ([] : List UInt8) ↔ s.size = 0 := by
  rw [ByteArray.toList_eq]
  constructor
  · intro h
    have := congrArg List.length h
    rw [Array.length_toList] at this
    exact this
  · intro h
    apply List.eq_nil_of_length_eq_zero
    rw [Array.length_toList]
    exact h
theorem allC_end {p : Int → Prop} {s : ByteArray} {i : Int} (h : ¬ i < (s.size : Int)) : AllC p s i := fun j h1 h2 => absurd h2 (by omega)
theorem allC_step {p : Int → Prop} {s : ByteArray} {i : Int} (h : i < (s.size : Int)) : AllC p s i ↔ p (bt s i) ∧ AllC p s (i + 1) := by
  constructor
  · intro h1
    exact ⟨h1 i (Int.le_refl _) h, fun j h2 h3 => h1 j (by omega) h3⟩
  · rintro ⟨h1, h2⟩ j h3 h4
    by_cases e : j = i
    · subst e; exact h1
    · exact h2 j (by omega) h4
theorem lower_eq (c : Int) : ident_lower.f c = some (decide (low c)) := by
  unfold ident_lower.f low
  split <;> simp [*]
theorem digit_eq (c : Int) : ident_digit.f c = some (decide (dig c)) := by
  unfold ident_digit.f dig
  split <;> simp [*]
theorem ite_or {p q : Prop} {i : Decidable p} {j : Decidable q} {l : Decidable (p ∨ q)} {x : Option Bool} (h : x = some (@decide q j)) : (@ite (Option Bool) p i (some true) x) = some (@decide (p ∨ q) l) := by
  by_cases a : p <;> simp [a, h]
theorem ite_last {p : Prop} {i : Decidable p} {j : Decidable p} : (@ite (Option Bool) p i (some true) (some false)) = some (@decide p j) := by
  by_cases a : p <;> simp [a]
theorem word_eq (s : ByteArray) : ident_word.f s = some (decide (isWord s)) := by
  unfold ident_word.f isWord
  repeat (refine ite_or (j := Classical.propDecidable _) ?_)
  exact ite_last

theorem name_loop (s : ByteArray) (hs : s.size ≤ 9223372036854775807) : ∀ (d k : Nat) (i : Int), 0 ≤ i → i ≤ s.size → (s.size : Int) - i = d → d < k →
    ident_Name.l0 k s (s.size : Int) i = some (decide (AllC nameC s i)) := by
  intro d
  induction d with
  | zero =>
    intro k i h0 h1 hd hk
    obtain ⟨k, rfl⟩ : ∃ m, k = m + 1 := ⟨k - 1, by omega⟩
    simp only [ident_Name.l0]
    rw [if_neg (by omega), decide_eq_true (allC_end (by omega))]
  | succ d ih =>
    intro k i h0 h1 hd hk
    obtain ⟨k, rfl⟩ : ∃ m, k = m + 1 := ⟨k - 1, by omega⟩
    have hlt : i < (s.size : Int) := by omega
    have ih' := ih k (i + 1) (by omega) (by omega) (by omega) (by omega)
    simp only [ident_Name.l0, lower_eq, digit_eq, Option.bind_some]
    rw [if_pos hlt, if_pos h0, if_pos hlt, wrap_one h0 hlt hs, ih']
    by_cases a : low (bt s i)
    · have : AllC nameC s i ↔ AllC nameC s (i + 1) := by rw [allC_step hlt]; exact ⟨fun h => h.2, fun h => ⟨.inl a, h⟩⟩
      simp [a, this]
    · by_cases b : dig (bt s i)
      · have : AllC nameC s i ↔ AllC nameC s (i + 1) := by rw [allC_step hlt]; exact ⟨fun h => h.2, fun h => ⟨.inr (.inl b), h⟩⟩
        simp [a, b, this]
      · by_cases c : bt s i = 95
        · have : AllC nameC s i ↔ AllC nameC s (i + 1) := by rw [allC_step hlt]; exact ⟨fun h => h.2, fun h => ⟨.inr (.inr c), h⟩⟩
          simp [a, b, c, this]
        · have : ¬ AllC nameC s i := by rw [allC_step hlt]; rintro ⟨h | h | h, _⟩ <;> contradiction
          simp [a, b, c, this]

theorem name_at (s : ByteArray) (hs : s.size ≤ 9223372036854775807) (k : Nat) (hk : s.size + 2 ≤ k) : ident_Name.f k s = some (decide (NameOk s)) := by
  obtain ⟨k, rfl⟩ : ∃ m, k = m + 1 := ⟨k - 1, by omega⟩
  have hl := name_loop s hs s.size k 0 (by omega) (by omega) (by omega) (by omega)
  unfold ident_Name.f
  simp only [ident_Name.j0, lower_eq, word_eq, Option.bind_some, hl]
  by_cases a : s.size = 0
  · rw [if_pos (toList_nil.2 a)]
    have : ¬ NameOk s := fun h => by have := h.1; omega
    simp [this]
  · rw [if_neg (fun h => a (toList_nil.1 h))]
    by_cases b : (s.size : Int) > 32
    · rw [if_pos b]
      have : ¬ NameOk s := fun h => by have := h.2.1; omega
      simp [this]
    · rw [if_neg b, if_pos (by omega)]
      by_cases c : low (bt s 0)
      · by_cases d : isWord s
        · have : ¬ NameOk s := fun h => h.2.2.2.1 d
          simp [c, d, this]
        · have : NameOk s ↔ AllC nameC s 0 := ⟨fun h => h.2.2.2.2, fun h => ⟨by omega, by omega, c, d, h⟩⟩
          simp [c, d, this]
      · have : ¬ NameOk s := fun h => c h.2.2.1
        simp [c, this]

theorem id_loop (s : ByteArray) (hs : s.size ≤ 9223372036854775807) : ∀ (d k : Nat) (i : Int), 0 ≤ i → i ≤ s.size → (s.size : Int) - i = d → 2 * d < k →
    ident_Id.l0 k s (s.size : Int) i = some (decide (AllC idC s i)) := by
  intro d
  induction d with
  | zero =>
    intro k i h0 h1 hd hk
    obtain ⟨k, rfl⟩ : ∃ m, k = m + 1 := ⟨k - 1, by omega⟩
    simp only [ident_Id.l0]
    rw [if_neg (by omega), decide_eq_true (allC_end (by omega))]
  | succ d ih =>
    intro k i h0 h1 hd hk
    obtain ⟨k, rfl⟩ : ∃ m, k = m + 2 := ⟨k - 2, by omega⟩
    have hlt : i < (s.size : Int) := by omega
    have ih' := ih k (i + 1) (by omega) (by omega) (by omega) (by omega)
    have key : ∀ b : Bool, ident_Id.j2 (k + 1) s (bt s i) (s.size : Int) i b = some (decide ((b = true ∨ bt s i = 45 ∨ bt s i = 95 ∨ bt s i = 46 ∨ bt s i = 61 ∨ bt s i = 43 ∨ bt s i = 47 ∨ bt s i = 124 ∨ bt s i = 126) ∧ AllC idC s (i + 1))) := by
      intro b
      simp only [ident_Id.j2]
      rw [wrap_one h0 hlt hs, ih']
      repeat (split; simp [*])
      simp [*]
    simp only [ident_Id.l0, lower_eq, digit_eq, Option.bind_some]
    rw [if_pos hlt, if_pos h0, if_pos hlt]
    simp only [key]
    have e := allC_step (p := idC) hlt
    by_cases a : low (bt s i)
    · simp [a, e, idC]
    · by_cases b : dig (bt s i)
      · simp [a, b, e, idC]
      · by_cases c : 65 ≤ bt s i
        · by_cases c' : bt s i ≤ 90
          · simp [a, b, c, c', e, idC, upp]
          · simp [a, b, c, c', e, idC, upp]
        · simp [a, b, c, e, idC, upp]

theorem id_at (s : ByteArray) (hs : s.size ≤ 9223372036854775807) (k : Nat) (hk : 2 * s.size + 2 ≤ k) : ident_Id.f k s = some (decide (IdOk s)) := by
  obtain ⟨k, rfl⟩ : ∃ m, k = m + 1 := ⟨k - 1, by omega⟩
  have hl := id_loop s hs s.size k 0 (by omega) (by omega) (by omega) (by omega)
  unfold ident_Id.f
  simp only [ident_Id.j0, hl]
  by_cases a : s.size = 0
  · rw [if_pos (toList_nil.2 a)]
    have : ¬ IdOk s := fun h => by have := h.1; omega
    simp [this]
  · rw [if_neg (fun h => a (toList_nil.1 h))]
    by_cases b : (s.size : Int) > 64
    · have : ¬ IdOk s := fun h => by have := h.2.1; omega
      simp [b, this]
    · have : IdOk s ↔ AllC idC s 0 := ⟨fun h => h.2.2, fun h => ⟨by omega, by omega, h⟩⟩
      simp [b, this]
end
end
section
theorem L_append (a b : ByteArray) : (a ++ b).data.toList = a.data.toList ++ b.data.toList := by simp
theorem L_size (s : ByteArray) : s.data.toList.length = s.size := by rw [Array.length_toList]; rfl
theorem L_inj {a b : ByteArray} (h : a.data.toList = b.data.toList) : a = b := by
  obtain ⟨⟨a⟩⟩ := a
  obtain ⟨⟨b⟩⟩ := b
  cases h
  rfl
def mkB (l : List UInt8) : ByteArray := ⟨l.toArray⟩
theorem L_mkB (l : List UInt8) : (mkB l).data.toList = l := rfl
theorem mkB_L (s : ByteArray) : mkB s.data.toList = s := L_inj (L_mkB _)
theorem toL (s : ByteArray) : s.toList = s.data.toList := ByteArray.toList_eq s
def lowU (c : UInt8) : Bool := decide (97 ≤ c.toNat) && decide (c.toNat ≤ 122)
def digU (c : UInt8) : Bool := decide (48 ≤ c.toNat) && decide (c.toNat ≤ 57)
def uppU (c : UInt8) : Bool := decide (65 ≤ c.toNat) && decide (c.toNat ≤ 90)
def nameU (c : UInt8) : Bool := lowU c || digU c || c == 95
def idU (c : UInt8) : Bool := lowU c || digU c || uppU c || c == 45 || c == 95 || c == 46 || c == 61 || c == 43 || c == 47 || c == 124 || c == 126
def wordL (l : List UInt8) : Bool := l == [116, 121, 112, 101] || l == [114, 101, 108, 97, 116, 105, 111, 110] || l == [99, 111, 110, 100] || l == [111, 114] || l == [97, 110, 100] || l == [110, 111, 116] || l == [102, 114, 111, 109] || l == [119, 105, 116, 104] || l == [105, 110] || l == [116, 114, 117, 101] || l == [102, 97, 108, 115, 101] || l == [110, 97, 110] || l == [105, 110, 102]
def nameL (l : List UInt8) : Bool := decide (1 ≤ l.length) && decide (l.length ≤ 32) && lowU (l.headD 0) && !(wordL l) && l.all nameU
def idL (l : List UInt8) : Bool := decide (1 ≤ l.length) && decide (l.length ≤ 64) && l.all idU
theorem u8_eq (c : UInt8) (n : Nat) (h : n < 256) : (c == UInt8.ofNat n) = decide ((c.toNat : Int) = n) := by
  have z : (UInt8.ofNat n).toNat = n := by rw [UInt8.toNat_ofNat']; omega
  rw [Bool.eq_iff_iff, beq_iff_eq, decide_eq_true_eq]
  constructor
  · rintro rfl; rw [z]
  · intro e; apply UInt8.toNat_inj.1; rw [z]; omega
theorem lowU_iff (c : UInt8) : lowU c = true ↔ low (c.toNat : Int) := by unfold lowU low; simp; omega
theorem digU_iff (c : UInt8) : digU c = true ↔ dig (c.toNat : Int) := by unfold digU dig; simp; omega
theorem uppU_iff (c : UInt8) : uppU c = true ↔ upp (c.toNat : Int) := by unfold uppU upp; simp; omega
theorem eqU (c : UInt8) (n : Nat) (h : n < 256) : (c == UInt8.ofNat n) = true ↔ (c.toNat : Int) = n := by rw [u8_eq c n h, decide_eq_true_eq]
theorem nameU_iff (c : UInt8) : nameU c = true ↔ nameC (c.toNat : Int) := by
  unfold nameU nameC
  have := eqU c 95 (by omega)
  rw [Bool.or_eq_true, Bool.or_eq_true, lowU_iff, digU_iff, or_assoc]
  exact or_congr_right (or_congr_right this)
theorem idU_iff (c : UInt8) : idU c = true ↔ idC (c.toNat : Int) := by
  unfold idU idC
  have e1 := eqU c 45 (by omega); have e2 := eqU c 95 (by omega); have e3 := eqU c 46 (by omega); have e4 := eqU c 61 (by omega)
  have e5 := eqU c 43 (by omega); have e6 := eqU c 47 (by omega); have e7 := eqU c 124 (by omega); have e8 := eqU c 126 (by omega)
  simp only [Bool.or_eq_true, or_assoc]
  exact or_congr (lowU_iff c) (or_congr (digU_iff c) (or_congr (uppU_iff c) (or_congr e1 (or_congr e2 (or_congr e3 (or_congr e4 (or_congr e5 (or_congr e6 (or_congr e7 e8)))))))))
theorem bt_get (s : ByteArray) (i : Nat) (h : i < s.size) : bt s i = ((s.data.toList[i]'(by rw [L_size]; exact h)).toNat : Int) := by
  unfold bt
  rw [dif_pos (show (i : Int).toNat < s.size by simpa using h)]
  rfl
theorem allC_list (p : Int → Prop) (s : ByteArray) : AllC p s 0 ↔ ∀ c ∈ s.data.toList, p (c.toNat : Int) := by
  constructor
  · intro h c hc
    obtain ⟨i, hi, rfl⟩ := List.getElem_of_mem hc
    rw [L_size] at hi
    rw [← bt_get s i hi]
    exact h i (by omega) (by omega)
  · intro h j h0 h1
    obtain ⟨i, rfl⟩ := Int.eq_ofNat_of_zero_le h0
    rw [bt_get s i (by omega)]
    exact h _ (List.getElem_mem _)
theorem word_iff (s : ByteArray) : wordL s.data.toList = true ↔ isWord s := by
  unfold wordL isWord
  simp only [toL, Bool.or_eq_true, beq_iff_eq, or_assoc]
theorem head_get (l : List UInt8) (h : 0 < l.length) : l[0] = l.headD 0 := by
  cases l with
  | nil => simp at h
  | cons a l => rfl
theorem headD_bt (s : ByteArray) (h : 1 ≤ s.size) : bt s 0 = ((s.data.toList.headD 0).toNat : Int) := by
  have := bt_get s 0 (by omega)
  rw [show ((0 : Nat) : Int) = 0 from rfl] at this
  rw [this, head_get _ (by rw [L_size]; omega)]
open Classical in
theorem name_iff (s : ByteArray) : NameOk s ↔ nameL s.data.toList = true := by
  unfold NameOk nameL
  rw [allC_list, L_size]
  simp only [Bool.and_eq_true, decide_eq_true_eq, Bool.not_eq_true', List.all_eq_true, nameU_iff, lowU_iff]
  constructor
  · rintro ⟨a, b, c, d, e⟩
    rw [headD_bt s a] at c
    exact ⟨⟨⟨⟨a, b⟩, c⟩, by rw [← Bool.not_eq_true, word_iff]; exact d⟩, e⟩
  · rintro ⟨⟨⟨⟨a, b⟩, c⟩, d⟩, e⟩
    rw [← headD_bt s a] at c
    exact ⟨a, b, c, by rw [← Bool.not_eq_true, word_iff] at d; exact d, e⟩
theorem id_iff (s : ByteArray) : IdOk s ↔ idL s.data.toList = true := by
  unfold IdOk idL
  rw [allC_list, L_size]
  simp only [Bool.and_eq_true, decide_eq_true_eq, List.all_eq_true, idU_iff, and_assoc]
theorem dec_of {p : Prop} {b : Bool} {i : Decidable p} (h : p ↔ b = true) : @decide p i = b := by
  by_cases a : p
  · rw [decide_eq_true a, h.1 a]
  · rw [decide_eq_false a]; cases b with
    | false => rfl
    | true => exact absurd (h.2 rfl) a
theorem nameL_at (s : ByteArray) (hs : s.size ≤ 9223372036854775807) (k : Nat) (hk : 2 * s.size + 2 ≤ k) : ident_Name.f k s = some (nameL s.data.toList) := by
  rw [name_at s hs k (by omega), dec_of (name_iff s)]
theorem idL_at (s : ByteArray) (hs : s.size ≤ 9223372036854775807) (k : Nat) (hk : 2 * s.size + 2 ≤ k) : ident_Id.f k s = some (idL s.data.toList) := by
  rw [id_at s hs k hk, dec_of (id_iff s)]
theorem nameL_size {s : ByteArray} (h : nameL s.data.toList = true) : 1 ≤ s.size ∧ s.size ≤ 32 := by have := (name_iff s).2 h; exact ⟨this.1, this.2.1⟩
theorem idL_size {s : ByteArray} (h : idL s.data.toList = true) : 1 ≤ s.size ∧ s.size ≤ 64 := by have := (id_iff s).2 h; exact ⟨this.1, this.2.1⟩
theorem nameL_no {l : List UInt8} (h : nameL l = true) (c : UInt8) (hc : nameU c = false) : c ∉ l := by
  unfold nameL at h
  simp only [Bool.and_eq_true, List.all_eq_true] at h
  intro g
  rw [h.2 c g] at hc
  cases hc
theorem idL_no {l : List UInt8} (h : idL l = true) (c : UInt8) (hc : idU c = false) : c ∉ l := by
  unfold idL at h
  simp only [Bool.and_eq_true, List.all_eq_true] at h
  intro g
  rw [h.2 c g] at hc
  cases hc
theorem name_colon {l : List UInt8} (h : nameL l = true) : (58 : UInt8) ∉ l := nameL_no h _ (by decide)
theorem id_colon {l : List UInt8} (h : idL l = true) : (58 : UInt8) ∉ l := idL_no h _ (by decide)
theorem id_hash {l : List UInt8} (h : idL l = true) : (35 : UInt8) ∉ l := idL_no h _ (by decide)
theorem id_star {l : List UInt8} (h : idL l = true) : l ≠ [42] := by rintro rfl; exact absurd h (by decide)
theorem nameL_ne {l : List UInt8} (h : nameL l = true) : l ≠ [] := by rintro rfl; exact absurd h (by decide)
theorem idL_ne {l : List UInt8} (h : idL l = true) : l ≠ [] := by rintro rfl; exact absurd h (by decide)
def objT (a b : ByteArray) : ByteArray × Int := if nameL a.data.toList = true then (if idL b.data.toList = true then ((a ++ (⟨#[58]⟩ : ByteArray)) ++ b, 0) else ((⟨#[]⟩ : ByteArray), 11)) else ((⟨#[]⟩ : ByteArray), 10)
theorem objT_at (a b : ByteArray) (B k : Nat) (ha : a.size ≤ B) (hb : b.size ≤ B) (hB : B ≤ 9223372036854775807) (hk : 2 * B + 4 ≤ k) : ident_ObjectText.f k a b = some (objT a b) := by
  unfold ident_ObjectText.f objT
  rw [nameL_at a (by omega) k (by omega), idL_at b (by omega) k (by omega)]
  simp only [Option.bind_some]
  by_cases p : nameL a.data.toList = true
  · rw [if_pos p, if_pos p]
    by_cases q : idL b.data.toList = true
    · have z1 := nameL_size p
      have z2 := idL_size q
      rw [if_pos q, if_pos q, if_pos (by omega), if_pos (by rw [ByteArray.size_append]; show a.size + 1 + b.size ≤ _; omega)]
    · rw [if_neg q, if_neg q]
  · rw [if_neg p, if_neg p]
def subT (t i r : ByteArray) : ByteArray × Int :=
  if nameL t.data.toList = true then
    (if idL i.data.toList = true ∨ i.data.toList = [42] ∧ r.data.toList = [] then
      (if r.data.toList = [] then ((t ++ (⟨#[58]⟩ : ByteArray)) ++ i, 0) else if nameL r.data.toList = true then ((((t ++ (⟨#[58]⟩ : ByteArray)) ++ i) ++ (⟨#[35]⟩ : ByteArray)) ++ r, 0) else ((⟨#[]⟩ : ByteArray), 10))
    else ((⟨#[]⟩ : ByteArray), 11))
  else ((⟨#[]⟩ : ByteArray), 10)
theorem subT_at (t i r : ByteArray) (B k : Nat) (ht : t.size ≤ B) (hi : i.size ≤ B) (hr : r.size ≤ B) (hB : B ≤ 9223372036854775807) (hk : 2 * B + 6 ≤ k) : ident_SubjectText.f k t i r = some (subT t i r) := by
  obtain ⟨k, rfl⟩ : ∃ m, k = m + 2 := ⟨k - 2, by omega⟩
  have hj1 : ∀ b : Bool, nameL t.data.toList = true → ident_SubjectText.j1 (k + 1) b t i r = if b = true then some ((⟨#[]⟩ : ByteArray), 11) else if i.size ≤ 64 then some (if r.data.toList = [] then ((t ++ (⟨#[58]⟩ : ByteArray)) ++ i, 0) else if nameL r.data.toList = true then ((((t ++ (⟨#[58]⟩ : ByteArray)) ++ i) ++ (⟨#[35]⟩ : ByteArray)) ++ r, 0) else ((⟨#[]⟩ : ByteArray), 10)) else ident_SubjectText.j1 (k + 1) b t i r := by
    intro b hn
    by_cases hb : b = true
    · rw [if_pos hb]; simp only [ident_SubjectText.j1]; rw [if_pos hb]
    · rw [if_neg hb]
      by_cases h64 : i.size ≤ 64
      · rw [if_pos h64]
        have z1 := nameL_size hn
        simp only [ident_SubjectText.j1, toL]
        rw [if_neg hb, nameL_at r (by omega) k (by omega)]
        have c1 : t.size + 1 ≤ 9223372036854775807 := by omega
        have e2 : (t ++ (⟨#[58]⟩ : ByteArray)).size = t.size + 1 := by rw [ByteArray.size_append]; rfl
        have e3 : ((t ++ (⟨#[58]⟩ : ByteArray)) ++ i).size = t.size + 1 + i.size := by rw [ByteArray.size_append, e2]
        have e4 : (((t ++ (⟨#[58]⟩ : ByteArray)) ++ i) ++ (⟨#[35]⟩ : ByteArray)).size = t.size + 1 + i.size + 1 := by rw [ByteArray.size_append, e3]; rfl
        rw [if_pos c1, e2, if_pos (show t.size + 1 + i.size ≤ 9223372036854775807 by omega), e3, if_pos (show t.size + 1 + i.size + 1 ≤ 9223372036854775807 by omega), e4]
        simp only [Option.bind_some]
        by_cases p : r.data.toList = []
        · rw [if_pos p, if_pos p]
        · rw [if_neg p, if_neg p]
          by_cases q : nameL r.data.toList = true
          · have z2 := nameL_size q
            rw [if_pos q, if_pos q, if_pos (by omega), if_pos (by omega), if_pos (by omega)]
          · rw [if_neg q, if_neg q]
      · rw [if_neg h64]
  have hj0 : ∀ x : Bool, (x = true ↔ i.data.toList = [42] ∧ r.data.toList = []) → ident_SubjectText.j0 (k + 2) x t i r = some (subT t i r) := by
    intro x hx
    simp only [ident_SubjectText.j0]
    rw [nameL_at t (by omega) (k + 1) (by omega), idL_at i (by omega) (k + 1) (by omega)]
    simp only [Option.bind_some]
    unfold subT
    by_cases p : nameL t.data.toList = true
    · rw [if_pos p, if_pos p]
      by_cases q : idL i.data.toList = true
      · rw [if_pos q, hj1 false p, if_neg (by simp), if_pos (idL_size q).2, if_pos (show idL i.data.toList = true ∨ i.data.toList = [42] ∧ r.data.toList = [] from .inl q)]
      · rw [if_neg q]
        cases x with
        | true =>
          obtain ⟨x1, x2⟩ := hx.1 rfl
          have z : i.size = 1 := by rw [← L_size, x1]; rfl
          rw [hj1 _ p, if_neg (by simp), if_pos (by omega), if_pos (show idL i.data.toList = true ∨ i.data.toList = [42] ∧ r.data.toList = [] from .inr ⟨x1, x2⟩)]
        | false =>
          have nx : ¬ (i.data.toList = [42] ∧ r.data.toList = []) := fun h => by cases hx.2 h
          rw [hj1 _ p, if_pos (by simp), if_neg (by rintro (h | h) <;> first | exact q h | exact nx h)]
    · rw [if_neg p, if_neg p]
  unfold ident_SubjectText.f
  simp only [toL]
  by_cases h : i.data.toList = [42]
  · rw [if_pos h]
    exact hj0 _ (by simp [h])
  · rw [if_neg h]
    exact hj0 _ (by simp [h])
/-- where a text is cut -/
theorem index_of (p q : List UInt8) (c : UInt8) (h : c ∉ p) : Lib.indexByte (p ++ c :: q) c = p.length := by
  induction p with
  | nil => simp [Lib.indexByte]
  | cons a p ih =>
    have ha : ¬ a = c := fun e => h (by simp [e])
    have ih := ih (fun e => h (by simp [e]))
    simp only [List.cons_append, Lib.indexByte, ih, beq_iff_eq, ha, if_false]
    rw [if_neg (by omega)]
    simp
theorem index_none (l : List UInt8) (c : UInt8) (h : c ∉ l) : Lib.indexByte l c = -1 := by
  induction l with
  | nil => rfl
  | cons a p ih =>
    have ha : ¬ a = c := fun e => h (by simp [e])
    have ih := ih (fun e => h (by simp [e]))
    simp [Lib.indexByte, ih, ha]
theorem cut_none (s : ByteArray) (c : UInt8) (h : c ∉ s.data.toList) : cutAt s (Lib.indexByte s.data.toList c) = (s, ⟨#[]⟩, false) := by
  rw [index_none _ _ h]; rfl
theorem drop_mid (p q : List UInt8) (c : UInt8) : (p ++ c :: q).drop (p.length + 1) = q := by
  rw [show p ++ c :: q = (p ++ [c]) ++ q by simp, List.drop_left' (by simp)]
theorem cut_of (s : ByteArray) (p q : List UInt8) (c : UInt8) (hs : s.data.toList = p ++ c :: q) (h : c ∉ p) : cutAt s (Lib.indexByte s.data.toList c) = (mkB p, mkB q, true) := by
  rw [hs, index_of p q c h]
  unfold cutAt
  rw [if_pos (by omega)]
  have z : s.size = p.length + (q.length + 1) := by rw [← L_size, hs]; simp
  have e1 : s.extract 0 ((p.length : Int)).toNat = mkB p := L_inj (by simp [hs, L_mkB])
  have e2 : s.extract (((p.length : Int)).toNat + 1) s.size = mkB q := L_inj (by
    rw [L_mkB, z]
    simp only [ByteArray.data_extract, Array.toList_extract, hs, Int.toNat_natCast]
    simp [hs, drop_mid, show p.length + (q.length + 1) - (p.length + 1) = q.length by omega])
  rw [e1, e2]
theorem parts_of {l : List UInt8} {c : UInt8} (h : c ∈ l) : ∃ p q, l = p ++ c :: q ∧ c ∉ p := by
  obtain ⟨p, q, e, n⟩ := List.eq_append_cons_of_mem h
  exact ⟨p, q, e, n⟩
theorem parts_inj {p q p' q' : List UInt8} {c : UInt8} (h : p ++ c :: q = p' ++ c :: q') (n : c ∉ p) (n' : c ∉ p') : p = p' ∧ q = q' := by
  induction p generalizing p' with
  | nil => cases p' with
    | nil => simpa using h
    | cons a p' => simp only [List.nil_append, List.cons_append, List.cons.injEq] at h; exact absurd (h.1 ▸ List.mem_cons_self) n'
  | cons b p ih => cases p' with
    | nil => simp only [List.nil_append, List.cons_append, List.cons.injEq] at h; exact absurd (h.1 ▸ List.mem_cons_self) n
    | cons a p' =>
      simp only [List.cons_append, List.cons.injEq] at h
      obtain ⟨rfl, h⟩ := h
      obtain ⟨rfl, rfl⟩ := ih h (fun e => n (by simp [e])) (fun e => n' (by simp [e]))
      exact ⟨rfl, rfl⟩
abbrev noB : ByteArray := ⟨#[]⟩
def subD (c d : ByteArray × ByteArray × Bool) : ByteArray × ByteArray × ByteArray × Int :=
  if c.2.2 = true then
    (if nameL c.1.data.toList = true then
      (if idL d.1.data.toList = true ∨ c.2.1.data.toList = [42] then
        (if d.2.2 = true ∧ nameL d.2.1.data.toList = false then (noB, noB, noB, 10) else (c.1, d.1, d.2.1, 0))
       else (noB, noB, noB, 11))
     else (noB, noB, noB, 10))
  else (noB, noB, noB, 13)
def subC (c : ByteArray × ByteArray × Bool) : ByteArray × ByteArray × ByteArray × Int := subD c (cutAt c.2.1 (Lib.indexByte c.2.1.data.toList 35))
def subR (s : ByteArray) : ByteArray × ByteArray × ByteArray × Int := subC (cutAt s (Lib.indexByte s.data.toList 58))
theorem cutAt_size (s : ByteArray) (i : Int) : (cutAt s i).1.size ≤ s.size ∧ (cutAt s i).2.1.size ≤ s.size := by
  unfold cutAt
  split
  · simp only [ByteArray.size_extract]; omega
  · exact ⟨Nat.le_refl _, Nat.zero_le _⟩
theorem subR_at (s : ByteArray) (B k : Nat) (hs : s.size ≤ B) (hB : B ≤ 9223372036854775807) (hk : 2 * B + 6 ≤ k) : ident_Subject.f k s = some (subR s) := by
  obtain ⟨k, rfl⟩ : ∃ m, k = m + 1 := ⟨k - 1, by omega⟩
  unfold ident_Subject.f subR subC
  have c58 : strings_Cut.f s (⟨#[58]⟩ : ByteArray) = some (cutAt s (Lib.indexByte s.data.toList 58)) := by
    unfold strings_Cut.f
    rw [if_pos (show (⟨#[58]⟩ : ByteArray).size = 1 from rfl), if_pos (by omega)]
    rfl
  rw [c58]
  simp only [Option.bind_some]
  obtain ⟨z1, z2⟩ := cutAt_size s (Lib.indexByte s.data.toList 58)
  generalize cutAt s (Lib.indexByte s.data.toList 58) = c at *
  have c35 : strings_Cut.f c.2.1 (⟨#[35]⟩ : ByteArray) = some (cutAt c.2.1 (Lib.indexByte c.2.1.data.toList 35)) := by
    unfold strings_Cut.f
    rw [if_pos (show (⟨#[35]⟩ : ByteArray).size = 1 from rfl), if_pos (by omega)]
    rfl
  rw [c35]
  simp only [Option.bind_some]
  obtain ⟨z3, z4⟩ := cutAt_size c.2.1 (Lib.indexByte c.2.1.data.toList 35)
  generalize cutAt c.2.1 (Lib.indexByte c.2.1.data.toList 35) = d at *
  unfold subD
  by_cases p : c.2.2 = true
  · rw [if_pos p, if_pos p, nameL_at c.1 (by omega) _ (by omega), idL_at d.1 (by omega) _ (by omega)]
    simp only [Option.bind_some, ident_Subject.j0]
    rw [nameL_at d.2.1 (by omega) k (by omega)]
    simp only [Option.bind_some, toL]
    by_cases q : nameL c.1.data.toList = true
    · rw [if_pos q, if_pos q]
      by_cases r : idL d.1.data.toList = true
      · rw [if_pos r, if_pos (show idL d.1.data.toList = true ∨ c.2.1.data.toList = [42] from .inl r), if_neg (by simp)]
        by_cases u : d.2.2 = true
        · rw [if_pos u]
          cases v : nameL d.2.1.data.toList <;> simp [u]
        · simp [u]
      · rw [if_neg r]
        by_cases t : c.2.1.data.toList = [42]
        · rw [if_pos (show idL d.1.data.toList = true ∨ c.2.1.data.toList = [42] from .inr t), if_neg (by simp [t])]
          by_cases u : d.2.2 = true
          · rw [if_pos u]
            cases v : nameL d.2.1.data.toList <;> simp [u]
          · simp [u]
        · rw [if_neg (show ¬ (idL d.1.data.toList = true ∨ c.2.1.data.toList = [42]) from fun h => h.elim r t), if_pos (by simpa using t)]
    · rw [if_neg q, if_neg q]
  · rw [if_neg p, if_neg p]
theorem subR_none (s : ByteArray) (h : (58 : UInt8) ∉ s.data.toList) : subR s = (noB, noB, noB, 13) := by
  unfold subR
  rw [cut_none s 58 h]
  unfold subC subD
  rw [if_neg (by simp)]
theorem subR_plain (s : ByteArray) (p q : List UInt8) (hs : s.data.toList = p ++ 58 :: q) (h : (58 : UInt8) ∉ p) (g : (35 : UInt8) ∉ q) :
    subR s = if nameL p = true then (if idL q = true ∨ q = [42] then (mkB p, mkB q, noB, 0) else (noB, noB, noB, 11)) else (noB, noB, noB, 10) := by
  unfold subR
  rw [cut_of s p q 58 hs h]
  show subD (mkB p, mkB q, true) (cutAt (mkB q) (Lib.indexByte (mkB q).data.toList 35)) = _
  rw [cut_none (mkB q) 35 (by rw [L_mkB]; exact g)]
  unfold subD
  simp [L_mkB]
theorem subR_set (s : ByteArray) (p i r : List UInt8) (hs : s.data.toList = p ++ 58 :: (i ++ 35 :: r)) (h : (58 : UInt8) ∉ p) (g : (35 : UInt8) ∉ i) :
    subR s = if nameL p = true then (if idL i = true then (if nameL r = true then (mkB p, mkB i, mkB r, 0) else (noB, noB, noB, 10)) else (noB, noB, noB, 11)) else (noB, noB, noB, 10) := by
  unfold subR
  rw [cut_of s p _ 58 hs h]
  show subD (mkB p, mkB (i ++ 35 :: r), true) (cutAt (mkB (i ++ 35 :: r)) (Lib.indexByte (mkB (i ++ 35 :: r)).data.toList 35)) = _
  rw [cut_of (mkB (i ++ 35 :: r)) i r 35 (L_mkB _) g]
  unfold subD
  simp only [L_mkB]
  have ns : ¬ (i ++ 35 :: r = [42]) := by
    intro e
    have : (35 : UInt8) ∈ ([42] : List UInt8) := by rw [← e]; simp
    exact absurd this (by decide)
  by_cases a : nameL p = true
  · by_cases b : idL i = true
    · cases c : nameL r <;> simp [a, b, ns]
    · simp [a, b, ns]
  · simp [a]
theorem awake_at (k : Nat) (hk : 100 ≤ k) : latchkeylaw01_awake.f k = some true := by
  unfold latchkeylaw01_awake.f
  rw [if_neg (by omega)]
def objC (c : ByteArray × ByteArray × Bool) : ByteArray × ByteArray × Int :=
  if c.2.2 = true then (if (objT c.1 c.2.1).2 = 0 then (c.1, c.2.1, 0) else (noB, noB, (objT c.1 c.2.1).2)) else (noB, noB, 12)
def objR (s : ByteArray) : ByteArray × ByteArray × Int := objC (cutAt s (Lib.indexByte s.data.toList 58))
theorem objR_at (s : ByteArray) (B k : Nat) (hs : s.size ≤ B) (hB : B ≤ 9223372036854775807) (hk : 2 * B + 4 ≤ k) : ident_Object.f k s = some (objR s) := by
  unfold ident_Object.f objR objC
  have c58 : strings_Cut.f s (⟨#[58]⟩ : ByteArray) = some (cutAt s (Lib.indexByte s.data.toList 58)) := by
    unfold strings_Cut.f
    rw [if_pos (show (⟨#[58]⟩ : ByteArray).size = 1 from rfl), if_pos (by omega)]
    rfl
  rw [c58]
  simp only [Option.bind_some]
  obtain ⟨z1, z2⟩ := cutAt_size s (Lib.indexByte s.data.toList 58)
  generalize cutAt s (Lib.indexByte s.data.toList 58) = c at *
  rw [objT_at c.1 c.2.1 B k (by omega) (by omega) hB hk]
  simp only [Option.bind_some]
  by_cases p : c.2.2 = true
  · rw [if_pos p, if_pos p]
    by_cases q : (objT c.1 c.2.1).2 = 0
    · rw [if_pos q, if_pos q]
    · rw [if_neg q, if_neg q]
  · rw [if_neg p, if_neg p]
theorem objR_none (s : ByteArray) (h : (58 : UInt8) ∉ s.data.toList) : objR s = (noB, noB, 12) := by
  unfold objR
  rw [cut_none s 58 h]
  unfold objC
  rw [if_neg (by simp)]
theorem objR_of (s : ByteArray) (p q : List UInt8) (hs : s.data.toList = p ++ 58 :: q) (h : (58 : UInt8) ∉ p) :
    objR s = if nameL p = true then (if idL q = true then (mkB p, mkB q, 0) else (noB, noB, 11)) else (noB, noB, 10) := by
  unfold objR
  rw [cut_of s p q 58 hs h]
  unfold objC objT
  simp only [L_mkB]
  by_cases a : nameL p = true
  · by_cases b : idL q = true
    · simp [a, b]
    · simp [a, b]
  · simp [a]
theorem kind_at (t i r : ByteArray) (B k : Nat) (ht : t.size ≤ B) (hi : i.size ≤ B) (hr : r.size ≤ B) (hB : B ≤ 9223372036854775807) (hk : 2 * B + 6 ≤ k) :
    ident_Kind.f k t i r = some (if (subT t i r).2 = 0 then (if r.data.toList = [] then (if i.data.toList = [42] then 2 else 1) else 3) else 0) := by
  unfold ident_Kind.f
  rw [subT_at t i r B k ht hi hr hB hk]
  simp only [Option.bind_some, toL]
  by_cases a : (subT t i r).2 = 0
  · rw [if_pos a, if_pos a]
    by_cases b : r.data.toList = []
    · rw [if_pos b, if_pos b]
      by_cases c : i.data.toList = [42]
      · rw [if_pos c, if_pos c]
      · rw [if_neg c, if_neg c]
    · rw [if_neg b, if_neg b]
  · rw [if_neg a, if_neg a]
theorem objT_text (a b : ByteArray) : (nameL a.data.toList = true ∧ idL b.data.toList = true ∧ (objT a b).2 = 0 ∧ (objT a b).1.data.toList = a.data.toList ++ 58 :: b.data.toList) ∨ ((objT a b).2 ≠ 0 ∧ (objT a b).1 = noB) := by
  unfold objT
  by_cases p : nameL a.data.toList = true
  · by_cases q : idL b.data.toList = true
    · left
      rw [if_pos p, if_pos q]
      exact ⟨p, q, rfl, by simp⟩
    · right; rw [if_pos p, if_neg q]; exact ⟨by simp, rfl⟩
  · right; rw [if_neg p]; exact ⟨by simp, rfl⟩
/-- the four shapes of a subject's text -/
theorem subT_text (t i r : ByteArray) :
    (nameL t.data.toList = true ∧ (idL i.data.toList = true ∨ i.data.toList = [42]) ∧ r.data.toList = [] ∧ (subT t i r).2 = 0 ∧ (subT t i r).1.data.toList = t.data.toList ++ 58 :: i.data.toList) ∨
    (nameL t.data.toList = true ∧ idL i.data.toList = true ∧ nameL r.data.toList = true ∧ (subT t i r).2 = 0 ∧ (subT t i r).1.data.toList = t.data.toList ++ 58 :: (i.data.toList ++ 35 :: r.data.toList)) ∨
    ((subT t i r).2 ≠ 0 ∧ (subT t i r).1 = noB) := by
  unfold subT
  by_cases p : nameL t.data.toList = true
  · rw [if_pos p]
    by_cases q : idL i.data.toList = true ∨ i.data.toList = [42] ∧ r.data.toList = []
    · rw [if_pos q]
      by_cases u : r.data.toList = []
      · left
        rw [if_pos u]
        exact ⟨p, q.elim .inl (fun g => .inr g.1), u, rfl, by simp⟩
      · rw [if_neg u]
        by_cases v : nameL r.data.toList = true
        · right; left
          rw [if_pos v]
          refine ⟨p, ?_, v, rfl, by simp⟩
          rcases q with q | q
          · exact q
          · exact absurd q.2 u
        · right; right; rw [if_neg v]; exact ⟨by simp, rfl⟩
    · right; right; rw [if_neg q]; exact ⟨by simp, rfl⟩
  · right; right; rw [if_neg p]; exact ⟨by simp, rfl⟩
theorem nil_of_L {s : ByteArray} (h : s.data.toList = []) : s = noB := L_inj h
theorem hash_id {i r : List UInt8} (h : idL (i ++ 35 :: r) = true) : False := id_hash h (by simp)
theorem star_no : (35 : UInt8) ∉ ([42] : List UInt8) := by decide
theorem id_or_hash {l : List UInt8} (h : idL l = true ∨ l = [42]) : (35 : UInt8) ∉ l := by
  rcases h with h | rfl
  · exact id_hash h
  · exact star_no
/-- what is read of a subject's own text -/
theorem sub_back (t i r : ByteArray) (h : (subT t i r).2 = 0) : subR (subT t i r).1 = (t, i, r, 0) := by
  rcases subT_text t i r with ⟨a, b, c, _, e⟩ | ⟨a, b, c, _, e⟩ | ⟨a, _⟩
  · rw [subR_plain _ _ _ e (name_colon a) (id_or_hash b), if_pos a, if_pos b, mkB_L, mkB_L, nil_of_L c]
  · rw [subR_set _ _ _ _ e (name_colon a) (id_hash b), if_pos a, if_pos b, if_pos c, mkB_L, mkB_L, mkB_L]
  · exact absurd h a
theorem obj_back (a b : ByteArray) (h : (objT a b).2 = 0) : objR (objT a b).1 = (a, b, 0) := by
  rcases objT_text a b with ⟨p, q, _, e⟩ | ⟨p, _⟩
  · rw [objR_of _ _ _ e (name_colon p), if_pos p, if_pos q, mkB_L, mkB_L]
  · exact absurd h p
/-- any text: what is read of it as an object and as a subject -/
theorem text_read (s : ByteArray) :
    ((objR s).2.2 = 0 ∧ (subR s).2.2.2 = 0 ∧ ((objT (objR s).1 (objR s).2.1).1 = s) ∧ (subR s).1 = (objR s).1 ∧ (subR s).2.1 = (objR s).2.1 ∧ (subR s).2.2.1 = noB ∧ (subT (subR s).1 (subR s).2.1 (subR s).2.2.1).1 = s ∧ (subT (subR s).1 (subR s).2.1 (subR s).2.2.1).2 = 0 ∧ (subR s).2.1.data.toList ≠ [42]) ∨
    ((objR s).2.2 ≠ 0 ∧ (subR s).2.2.2 = 0 ∧ (subT (subR s).1 (subR s).2.1 (subR s).2.2.1).1 = s ∧ ((subR s).2.2.1.data.toList ≠ [] ∨ (subR s).2.1.data.toList = [42])) ∨
    ((objR s).2.2 ≠ 0 ∧ (subR s).2.2.2 ≠ 0) := by
  by_cases h : (58 : UInt8) ∈ s.data.toList
  · obtain ⟨p, q, hs, hp⟩ := parts_of h
    have ho := objR_of s p q hs hp
    by_cases g : (35 : UInt8) ∈ q
    · obtain ⟨i, r, rfl, hi⟩ := parts_of g
      have hsub := subR_set s p i r hs hp hi
      have nid : ¬ idL (i ++ 35 :: r) = true := fun e => hash_id e
      rw [if_neg nid] at ho
      right
      by_cases a : nameL p = true
      · rw [if_pos a] at ho hsub
        by_cases b : idL i = true
        · rw [if_pos b] at hsub
          by_cases c : nameL r = true
          · rw [if_pos c] at hsub
            left
            rw [ho, hsub]
            refine ⟨by simp, rfl, ?_, .inl (nameL_ne c)⟩
            show (subT (mkB p) (mkB i) (mkB r)).1 = s
            unfold subT
            rw [if_pos (show nameL (mkB p).data.toList = true from a), if_pos (show idL (mkB i).data.toList = true ∨ (mkB i).data.toList = [42] ∧ (mkB r).data.toList = [] from .inl b), if_neg (show ¬ (mkB r).data.toList = [] from nameL_ne c), if_pos (show nameL (mkB r).data.toList = true from c)]
            exact L_inj (by rw [hs]; simp [L_mkB])
          · rw [if_neg c] at hsub
            right; rw [ho, hsub]; exact ⟨by simp, by simp⟩
        · rw [if_neg b] at hsub
          right; rw [ho, hsub]; exact ⟨by simp, by simp⟩
      · rw [if_neg a] at ho hsub
        right; rw [ho, hsub]; exact ⟨by simp, by simp⟩
    · have hsub := subR_plain s p q hs hp g
      by_cases a : nameL p = true
      · rw [if_pos a] at ho hsub
        by_cases b : idL q = true
        · rw [if_pos b] at ho
          rw [if_pos (.inl b)] at hsub
          left
          rw [ho, hsub]
          have e1 : subT (mkB p) (mkB q) noB = ((mkB p ++ (⟨#[58]⟩ : ByteArray)) ++ mkB q, 0) := by
            unfold subT
            rw [if_pos (show nameL (mkB p).data.toList = true from a), if_pos (show idL (mkB q).data.toList = true ∨ (mkB q).data.toList = [42] ∧ noB.data.toList = [] from .inl b), if_pos (show noB.data.toList = [] from rfl)]
          have e2 : objT (mkB p) (mkB q) = ((mkB p ++ (⟨#[58]⟩ : ByteArray)) ++ mkB q, 0) := by
            unfold objT
            rw [if_pos (show nameL (mkB p).data.toList = true from a), if_pos (show idL (mkB q).data.toList = true from b)]
          have e3 : (mkB p ++ (⟨#[58]⟩ : ByteArray)) ++ mkB q = s := L_inj (by rw [hs]; simp [L_mkB])
          refine ⟨rfl, rfl, ?_, rfl, rfl, rfl, ?_, ?_, id_star b⟩
          · show (objT (mkB p) (mkB q)).1 = s
            rw [e2]; exact e3
          · show (subT (mkB p) (mkB q) noB).1 = s
            rw [e1]; exact e3
          · show (subT (mkB p) (mkB q) noB).2 = 0
            rw [e1]
        · rw [if_neg b] at ho
          right
          by_cases c : q = [42]
          · rw [if_pos (.inr c)] at hsub
            left
            rw [ho, hsub]
            refine ⟨by simp, rfl, ?_, .inr c⟩
            show (subT (mkB p) (mkB q) noB).1 = s
            unfold subT
            rw [if_pos (show nameL (mkB p).data.toList = true from a), if_pos (show idL (mkB q).data.toList = true ∨ (mkB q).data.toList = [42] ∧ noB.data.toList = [] from .inr ⟨c, rfl⟩), if_pos (show noB.data.toList = [] from rfl)]
            exact L_inj (by rw [hs]; simp [L_mkB])
          · rw [if_neg (by rintro (h | h) <;> first | exact b h | exact c h)] at hsub
            right; rw [ho, hsub]; exact ⟨by simp, by simp⟩
      · rw [if_neg a] at ho hsub
        right; right; rw [ho, hsub]; exact ⟨by simp, by simp⟩
  · right; right
    rw [objR_none s h, subR_none s h]
    exact ⟨by simp, by simp⟩
theorem subR_size (s : ByteArray) : (subR s).1.size ≤ s.size ∧ (subR s).2.1.size ≤ s.size ∧ (subR s).2.2.1.size ≤ s.size := by
  unfold subR subC
  obtain ⟨z1, z2⟩ := cutAt_size s (Lib.indexByte s.data.toList 58)
  generalize cutAt s (Lib.indexByte s.data.toList 58) = c at *
  unfold subD
  obtain ⟨z3, z4⟩ := cutAt_size c.2.1 (Lib.indexByte c.2.1.data.toList 35)
  generalize cutAt c.2.1 (Lib.indexByte c.2.1.data.toList 35) = d at *
  have n0 : noB.size = 0 := rfl
  repeat' split
  all_goals (refine ⟨?_, ?_, ?_⟩ <;> dsimp only <;> omega)
theorem objR_size (s : ByteArray) : (objR s).1.size ≤ s.size ∧ (objR s).2.1.size ≤ s.size := by
  unfold objR objC
  obtain ⟨z1, z2⟩ := cutAt_size s (Lib.indexByte s.data.toList 58)
  generalize cutAt s (Lib.indexByte s.data.toList 58) = c at *
  have n0 : noB.size = 0 := rfl
  repeat' split
  all_goals (refine ⟨?_, ?_⟩ <;> dsimp only <;> omega)
theorem objT_size (a b : ByteArray) : (objT a b).1.size ≤ 100 := by
  rcases objT_text a b with ⟨p, q, _, e⟩ | ⟨_, e⟩
  · rw [← L_size, e]
    have := nameL_size p
    have := idL_size q
    rw [List.length_append, List.length_cons, L_size, L_size]
    omega
  · rw [e]; exact Nat.zero_le _
theorem subT_size (t i r : ByteArray) : (subT t i r).1.size ≤ 140 := by
  rcases subT_text t i r with ⟨a, b, c, _, e⟩ | ⟨a, b, c, _, e⟩ | ⟨_, e⟩
  · rw [← L_size, e]
    have := nameL_size a
    have hi : i.size ≤ 64 := by
      rcases b with b | b
      · exact (idL_size b).2
      · rw [← L_size, b]; decide
    rw [List.length_append, List.length_cons, L_size, L_size]
    omega
  · rw [← L_size, e]
    have := nameL_size a
    have := idL_size b
    have := nameL_size c
    rw [List.length_append, List.length_cons, List.length_append, List.length_cons, L_size, L_size, L_size]
    omega
  · rw [e]; exact Nat.zero_le _
theorem IdentThere : ∀ a0 a1 b0 b1 b2 s : ByteArray, a0.size ≤ maxLen → a1.size ≤ maxLen → b0.size ≤ maxLen → b1.size ≤ maxLen → b2.size ≤ maxLen → s.size ≤ maxLen →
    ∃ k, latchkeylaw01_IdentThere.f k a0 a1 b0 b1 b2 s = some true := by
  unfold maxLen
  intro a0 a1 b0 b1 b2 s h1 h2 h3 h4 h5 h6
  obtain ⟨M, hM⟩ : ∃ M : Nat, M = 9223372036854775807 := ⟨_, rfl⟩
  have M0 : 1000 ≤ M := by omega
  have M1 : M ≤ 9223372036854775807 := by omega
  have h1 : a0.size ≤ M := by omega
  have h2 : a1.size ≤ M := by omega
  have h3 : b0.size ≤ M := by omega
  have h4 : b1.size ≤ M := by omega
  have h5 : b2.size ≤ M := by omega
  have h6 : s.size ≤ M := by omega
  refine ⟨2 * M + 210, ?_⟩
  clear hM
  unfold latchkeylaw01_IdentThere.f
  rw [objT_at a0 a1 M _ (by omega) (by omega) M1 (by omega), subT_at b0 b1 b2 M _ (by omega) (by omega) (by omega) M1 (by omega), awake_at _ (by omega), kind_at b0 b1 b2 M _ (by omega) (by omega) (by omega) M1 (by omega)]
  simp only [Option.bind_some, if_true]
  have hc : (((subT b0 b1 b2).2 == 0) != ((if (subT b0 b1 b2).2 = 0 then (if b2.data.toList = [] then (if b1.data.toList = [42] then 2 else 1) else 3) else (0 : Int)) != 0)) = false := by
    by_cases a : (subT b0 b1 b2).2 = 0
    · rw [if_pos a]
      by_cases b : b2.data.toList = []
      · rw [if_pos b]
        by_cases c : b1.data.toList = [42]
        · rw [if_pos c]; simp [a]
        · rw [if_neg c]; simp [a]
      · rw [if_neg b]; simp [a]
    · rw [if_neg a]; simp [a]
  rw [hc]
  have hj3 : ∀ x : Int, ((subR s).2.2.2 = 0 → ((x = 0) ↔ ((subR s).2.2.1.data.toList = [] ∧ (subR s).2.1.data.toList ≠ [42])) ∧ (subT (subR s).1 (subR s).2.1 (subR s).2.2.1).1 = s ∧ (subT (subR s).1 (subR s).2.1 (subR s).2.2.1).2 = 0) →
      latchkeylaw01_IdentThere.j3 (2 * M + 206 + 1) s x (subR s).2.2.2 (subR s).1 (subR s).2.1 (subR s).2.2.1 = some true := by
    intro x hx
    simp only [latchkeylaw01_IdentThere.j3]
    by_cases a : (subR s).2.2.2 = 0
    · obtain ⟨g1, g2, g3⟩ := hx a
      obtain ⟨z1, z2, z3⟩ := subR_size s
      rw [if_pos a, subT_at _ _ _ M _ (by omega) (by omega) (by omega) M1 (by omega), kind_at _ _ _ M _ (by omega) (by omega) (by omega) M1 (by omega)]
      simp only [Option.bind_some, g2, if_true, g3]
      by_cases b : (subR s).2.2.1.data.toList = []
      · rw [if_pos b]
        by_cases c : (subR s).2.1.data.toList = [42]
        · rw [if_pos c]
          have : ¬ x = 0 := fun e => (g1.1 e).2 c
          simp [this]
        · rw [if_neg c]
          have : x = 0 := g1.2 ⟨b, c⟩
          simp [this]
      · rw [if_neg b]
        have : ¬ x = 0 := fun e => b (g1.1 e).1
        simp [this]
    · rw [if_neg a]
  have hsub0 : ∀ t i r : ByteArray, ((subT t i r).1 = s) → (58 : UInt8) ∈ s.data.toList → (subT t i r).2 = 0 := by
    intro t i r e hm
    rcases subT_text t i r with ⟨_, _, _, d, _⟩ | ⟨_, _, _, d, _⟩ | ⟨_, d⟩
    · exact d
    · exact d
    · rw [← e, d] at hm; simp at hm
  have hmem : (subR s).2.2.2 = 0 → (58 : UInt8) ∈ s.data.toList := by
    intro e
    by_cases h : (58 : UInt8) ∈ s.data.toList
    · exact h
    · rw [subR_none s h] at e; simp at e
  have hj2 : latchkeylaw01_IdentThere.j2 (2 * M + 207 + 1) s = some true := by
    simp only [latchkeylaw01_IdentThere.j2]
    rw [objR_at s M _ (by omega) M1 (by omega), subR_at s M _ (by omega) M1 (by omega)]
    simp only [Option.bind_some]
    obtain ⟨z1, z2⟩ := objR_size s
    rcases text_read s with ⟨a, b, c, d, e, f, g, h, i⟩ | ⟨a, b, c, d⟩ | ⟨a, b⟩
    · rw [if_pos a, objT_at _ _ M _ (by omega) (by omega) M1 (by omega)]
      simp only [Option.bind_some, c, if_true]
      rw [if_pos b]
      have hj := hj3 (objR s).2.2 (fun _ => ⟨⟨fun _ => ⟨by rw [f], i⟩, fun _ => a⟩, g, h⟩)
      rw [if_neg (by simp [toL, d, e, f])]
      exact hj
    · rw [if_neg a]
      refine hj3 _ (fun _ => ⟨⟨fun e => absurd e a, fun ⟨e1, e2⟩ => ?_⟩, c, hsub0 _ _ _ c (hmem b)⟩)
      rcases d with d | d
      · exact absurd e1 d
      · exact absurd d e2
    · rw [if_neg a]
      exact hj3 _ (fun e => absurd e b)
  have hj1 : latchkeylaw01_IdentThere.j1 (2 * M + 208 + 1) s (subT b0 b1 b2).1 (subT b0 b1 b2).2 b0 b1 b2 = some true := by
    simp only [latchkeylaw01_IdentThere.j1]
    by_cases a : (subT b0 b1 b2).2 = 0
    · have z := subT_size b0 b1 b2
      rw [if_pos a, subR_at _ M _ (by omega) M1 (by omega), sub_back b0 b1 b2 a]
      simp only [Option.bind_some, if_true]
      rw [if_neg (by simp)]
      exact hj2
    · rw [if_neg a]
      have e : (subT b0 b1 b2).1.toList = [] := by
        rcases subT_text b0 b1 b2 with ⟨_, _, _, d, _⟩ | ⟨_, _, _, d, _⟩ | ⟨_, d⟩
        · exact absurd d a
        · exact absurd d a
        · rw [d, toL]
      rw [if_pos e]
      exact hj2
  show latchkeylaw01_IdentThere.j0 (2 * M + 209 + 1) s (objT a0 a1).1 (objT a0 a1).2 (subT b0 b1 b2).1 (subT b0 b1 b2).2 false a0 a1 b0 b1 b2 = some true
  simp only [latchkeylaw01_IdentThere.j0]
  rw [if_neg (by simp)]
  by_cases a : (objT a0 a1).2 = 0
  · have z := objT_size a0 a1
    rw [if_pos a, objR_at _ M _ (by omega) M1 (by omega), obj_back a0 a1 a]
    simp only [Option.bind_some, if_true]
    rw [if_neg (by simp)]
    exact hj1
  · rw [if_neg a]
    have e : (objT a0 a1).1.toList = [] := by
      rcases objT_text a0 a1 with ⟨_, _, d, _⟩ | ⟨_, d⟩
      · exact absurd d a
      · rw [d, toL]
    rw [if_pos e]
    exact hj1
end
end Go.Proofs.Ytdeagmenlijieaa.QThere
