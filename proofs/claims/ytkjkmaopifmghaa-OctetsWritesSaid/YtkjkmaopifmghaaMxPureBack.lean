/- What is written is read again; what is cut short is refused as short. Plain Lean. -/
import Derived.Test.YtkjkmaopifmghaaMxPureForms
import Derived.Test.YtkjkmaopifmghaaMxOctWrite
namespace Go.Proofs.Ytkjkmaopifmghaa.PureBack
open Go.RowKit Go.Proofs.YtkjkmaopifmghaaW.PrintWords Go.Proofs.YtkjkmaopifmghaaW.PrintLast Go.Proofs.YtkjkmaopifmghaaW.PrintMore Go.Proofs.Ytkjkmaopifmghaa.PureArmor Go.Proofs.Ytkjkmaopifmghaa.PureShort Go.Proofs.Ytkjkmaopifmghaa.PureForms Go.Proofs.Ytkjkmaopifmghaa.OctShort Go.Proofs.Ytkjkmaopifmghaa.Oct
set_option linter.unusedVariables false
set_option linter.unusedSimpArgs false
theorem sh_full (x : Int) (rest : List Int) (h0 : 0 ≤ x) (h1 : x < 18446744073709551616) : sh 0 (dg 10 x ++ rest) = (x, ((dg 10 x).length : Int), 0) :=
  sh_dg 10 x 0 rest h0 (pow10 x h1) (by omega) (by omega) (by omega) (by omega) (fun _ => h1) (fun j hj => by
    have e : j = 0 := by omega
    rw [e]
    simp only [Int.pow_zero, Int.mul_one]
    exact h1)
theorem sh_cut (k : Nat) : ∀ (x : Int) (i m : Nat), 0 ≤ x → 1 ≤ k → k + i = 10 → x * 128 ^ i < 18446744073709551616 → m < (dg k x).length → sh i ((dg k x).take m) = (0, 0, 20) := by
  induction k with
  | zero => intro x i m _ h; omega
  | succ k ih =>
    intro x i m h0 _ hk hx hm
    rcases m with _ | m
    · simp [sh]
    · simp only [dg] at hm ⊢
      by_cases h : x > 127
      · rw [if_pos h] at hm ⊢
        rw [List.take_succ_cons]
        have hi9 : i ≠ 9 := by
          rintro rfl
          have : (128 : Int) ^ 9 = 9223372036854775808 := by decide
          omega
        have hnext : x / 128 * 128 ^ (i + 1) < 18446744073709551616 := by
          rw [Int.pow_succ]
          have h3 : x / 128 * (128 ^ i * 128) = (x / 128 * 128) * 128 ^ i := by rw [Int.mul_comm (128 ^ i) 128, Int.mul_assoc]
          rw [h3]
          have h5 : (0 : Int) ≤ 128 ^ i := Int.le_of_lt (Int.pow_pos (by decide))
          have := Int.mul_le_mul_of_nonneg_right (by omega : x / 128 * 128 ≤ x) h5
          omega
        have hm2 : m < (dg k (x / 128)).length := by rw [List.length_cons] at hm; omega
        have hk1 : 1 ≤ k := by
          rcases k with _ | k
          · simp [dg] at hm2
          · omega
        have e := ih (x / 128) (i + 1) m (by omega) hk1 (by omega) hnext hm2
        simp only [sh]
        rw [if_neg (by omega), if_neg (by omega), e]
        simp
      · rw [if_neg h] at hm
        simp at hm
theorem sh_short (x : Int) (m : Nat) (h0 : 0 ≤ x) (h1 : x < 18446744073709551616) (hm : m < (dg 10 x).length) : sh 0 ((dg 10 x).take m) = (0, 0, 20) := sh_cut 10 x 0 m h0 (by omega) (by omega) (by simpa using h1) hm
theorem keyB_range (b : Nat) (hb : b < 4294967296) : 0 ≤ keyB b ∧ keyB b < 4294967296 := by
  unfold keyB
  split
  · omega
  · split <;> omega
theorem key_back (b : Nat) (hb : b < 4294967296) : keyB (realB (keyB b)) = keyB b ∧ (realB (keyB b) = b ∨ nanB (realB (keyB b)) = true ∧ nanB b = true) := by
  by_cases hn : nanB b = true
  · have E : keyB b = 4290772992 := by unfold keyB; rw [if_pos hn]
    have R : realB 4290772992 = 2143289344 := by decide
    have N : nanB 2143289344 = true := by decide
    rw [E, R]
    exact ⟨by unfold keyB; rw [if_pos N], .inr ⟨N, hn⟩⟩
  · have R : realB (keyB b) = b := by
      unfold keyB realB
      rw [if_neg hn]
      by_cases hs : b < 2147483648
      · rw [if_pos hs, if_neg (by omega)]; omega
      · rw [if_neg hs, if_pos (by omega)]; omega
    rw [R]
    exact ⟨rfl, .inl rfl⟩
theorem four_quad (K : Int) (h0 : 0 ≤ K) (h1 : K < 4294967296) : four (K / 16777216 % 256) (K / 65536 % 256) (K / 256 % 256) (K % 256) = K := by
  unfold four
  omega
theorem quad_len (K : Int) : (quad K).length = 4 := rfl
theorem real_full (b : Nat) (rest : List Int) (hb : b < 4294967296) : mReal (quad (keyB b) ++ rest) 0 = (realB (keyB b), rest, 0) := by
  have hk := keyB_range b hb
  unfold mReal
  rw [if_neg (by simp)]
  simp only [quad, List.cons_append, List.nil_append]
  rw [four_quad _ hk.1 hk.2, if_pos (key_back b hb).1]
theorem real_short (l : List Int) (h : l.length < 4) : mReal l 0 = (0, l, 20) := by
  unfold mReal
  rw [if_neg (by simp)]
  rcases l with _ | ⟨a, _ | ⟨b, _ | ⟨c, _ | ⟨d, t⟩⟩⟩⟩ <;> first | rfl | (simp at h; omega)
theorem str_of (s : ByteArray) : strOfNums (bytesOf s) = s := by
  apply ByteArray.ext
  apply Array.ext'
  rw [strOfNums_data, bytesOf, List.map_map]
  conv => rhs; rw [← List.map_id s.data.toList]
  apply List.map_congr_left
  intro u _
  simp [Function.comp]
theorem bytes_in (s : ByteArray) : ∀ x ∈ bytesOf s, 0 ≤ x ∧ x < 256 := by
  intro x hx
  unfold bytesOf at hx
  obtain ⟨u, _, rfl⟩ := List.mem_map.1 hx
  have := u.toNat_lt
  omega
theorem quad_in (K : Int) : ∀ x ∈ quad K, 0 ≤ x ∧ x < 256 := by
  intro x hx
  simp [quad] at hx
  rcases hx with rfl | rfl | rfl | rfl <;> omega
theorem enc_in (hs : Nat) (d : PutD) (hd : PutOk hs d) (j : Nat) : ∀ x ∈ enc d j, 0 ≤ x ∧ x < 256 := by
  unfold enc
  intro x hx
  split at hx
  · rw [List.mem_singleton.1 hx]; omega
  · exact dg_bytes 10 _ hd.hu.1 x hx
  · exact dg_bytes 10 _ (back_turned d.i hd.hi.1 hd.hi.2).2.1 x hx
  · exact quad_in _ x hx
  · rcases List.mem_append.1 hx with h | h
    · exact dg_bytes 10 _ (by omega) x h
    · exact bytes_in _ x h
  · exact hd.hb x hx
theorem text_full (t : ByteArray) (rest : List Int) : mText (t.size : Int) ((t.size : Int), ((dg 10 (t.size : Int)).length : Int), 0) (dg 10 (t.size : Int) ++ bytesOf t ++ rest) 0 = (t, rest, 0) := by
  have hb := bytesOf_length t
  unfold mText
  rw [if_neg (by simp), if_neg (by omega), if_neg (by simp), if_neg (by omega), if_neg (by rw [List.length_append, List.length_append, hb]; simp only []; omega)]
  simp only [Int.toNat_natCast]
  have e1 : ((dg 10 (t.size : Int)).length + t.size : Int).toNat = (dg 10 (t.size : Int) ++ bytesOf t).length := by rw [List.length_append, hb]; omega
  rw [e1, List.drop_left, List.append_assoc, List.drop_left, List.take_left' hb, str_of]
/-- A text that is cut short. -/
theorem text_short (t : ByteArray) (m : Nat) (ht : t.size ≤ 140737488351232) (hm : m < (dg 10 (t.size : Int) ++ bytesOf t).length) (l : List Int) (hl : l = (dg 10 (t.size : Int) ++ bytesOf t).take m) : mText (t.size : Int) (sh 0 l) l 0 = (.empty, l, 20) := by
  have hb := bytesOf_length t
  by_cases h : m < (dg 10 (t.size : Int)).length
  · have e : l = (dg 10 (t.size : Int)).take m := by rw [hl, List.take_append_of_le_length (by omega)]
    have hs := sh_short (t.size : Int) m (by omega) (by omega) h
    rw [← e] at hs
    rw [hs]
    unfold mText
    rw [if_neg (by simp), if_neg (by omega), if_pos (by simp)]
  · obtain ⟨r, hr⟩ : ∃ r, l = dg 10 (t.size : Int) ++ r := ⟨(bytesOf t).take (m - (dg 10 (t.size : Int)).length), by rw [hl, List.take_append, List.take_of_length_le (by omega)]⟩
    have hs := sh_full (t.size : Int) r (by omega) (by omega)
    rw [← hr] at hs
    rw [hs]
    have hlen : l.length = m := by rw [hl, List.length_take]; omega
    rw [List.length_append, hb] at hm
    unfold mText
    rw [if_neg (by simp), if_neg (by omega), if_neg (by simp), if_neg (by omega), if_pos (by rw [hlen]; simp only []; omega)]
theorem sh_ok (l : List Int) (hb : ∀ x ∈ l, 0 ≤ x ∧ x < 256) : 0 ≤ (sh 0 l).2.1 ∧ (sh 0 l).2.1 ≤ (l.length : Int) ∧ 0 ≤ (sh 0 l).1 := by
  by_cases h : (sh 0 l).2.2 = 0
  · obtain ⟨a1, a2, a3, _, a5, a6, a7⟩ := sh_back 10 l 0 (by omega) (by omega) hb h
    exact ⟨by omega, by omega, a1⟩
  · obtain ⟨b1, b2, _⟩ := sh_err l 0 (by omega) hb h
    rw [b1, b2]
    omega
end Go.Proofs.Ytkjkmaopifmghaa.PureBack
