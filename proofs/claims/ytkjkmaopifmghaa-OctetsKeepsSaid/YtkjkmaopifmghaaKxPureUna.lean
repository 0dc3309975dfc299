/- Letters of bytes lead back to them: plain Lean. -/
import Derived.Test.YtkjkmaopifmghaaKxPureArmor
import Derived.Test.YtkjkmaopifmghaaKxOctUnx1
import Derived.Laws.BitsAllLaws
import Derived.Laws.BytesArg
namespace Go.Proofs.Ytkjkmaopifmghaa.PureUna
open Go.RowKit Go.Proofs.YtkjkmaopifmghaaW.PrintWords Go.Proofs.YtkjkmaopifmghaaW.PrintLast Go.Proofs.YtkjkmaopifmghaaW.PrintMore Go.Proofs.Ytkjkmaopifmghaa.PureArmor Go.Proofs.Ytkjkmaopifmghaa.OctUn Go.Proofs.Ytkjkmaopifmghaa.OctArmor
set_option linter.unusedVariables false
set_option linter.unusedSimpArgs false
theorem bt_byte (s : ByteArray) {i : Nat} (hi : i < (bytesOf s).length) : bt s (i : Int) = (bytesOf s)[i] ∧ 0 ≤ (bytesOf s)[i] ∧ (bytesOf s)[i] < 256 := by
  refine ⟨by rw [← rd_bytesOf, rd_nat hi], ?_⟩
  have hm := List.getElem_mem hi
  generalize (bytesOf s)[i] = x at *
  unfold bytesOf at hm
  obtain ⟨u, _, rfl⟩ := List.mem_map.1 hm
  have := u.toNat_lt
  omega
/-- What Unarmor says. -/
def UnaSays (t : List Int) (res : List Int × Int) : Prop :=
  (∃ L B h n, UnaSt t t.length L B h n ∧ res = if n < 5 ∧ h = 0 then (B, 0) else ([], 22)) ∨ (res = ([], 22) ∧ ∃ i, ∃ _ : i < t.length, ∀ x : Int, 0 ≤ x → x < 32 → t[i] ≠ lt x)
theorem una_end {s : ByteArray} {L B : List Int} {h : Int} {n : Nat} (st : UnaSt (bytesOf s) (bytesOf s).length L B h n) (k : Nat) (hk : 0 < k) :
    ∃ res, octets_Unarmor.l0 k s B h n ((bytesOf s).length : Int) = some res ∧ UnaSays (bytesOf s) res := by
  obtain ⟨k, rfl⟩ : ∃ j, k = j + 1 := ⟨k - 1, by omega⟩
  refine ⟨_, ?_, .inl ⟨L, B, h, n, st, rfl⟩⟩
  have hs := bytesOf_length s
  simp only [octets_Unarmor.l0]
  rw [if_neg (by omega)]
  by_cases hn : (n : Int) ≥ 5
  · rw [if_pos hn, if_neg (by omega)]
  · rw [if_neg hn]
    by_cases h0 : h = 0
    · rw [if_pos h0, if_pos (by omega)]
    · rw [if_neg h0, if_neg (by omega)]
theorem or_join32 {h x : Int} (h0 : 0 ≤ h) (h1 : h < 128) (hx0 : 0 ≤ x) (hx1 : x < 32) : Go.bits .or .u64 (IntKind.u64.wrap (h * 32)) x = h * 32 + x := or_join h x 5 h0 (by omega) hx0 hx1 (by omega)
theorem una_one {s : ByteArray} {i : Nat} {L B : List Int} {h : Int} {n : Nat} (st : UnaSt (bytesOf s) i L B h n) (hi : i < (bytesOf s).length) (hlen : s.size ≤ 225179981361972) (k : Nat) (hk : 3 ≤ k) :
    (∃ k' L' B' h' n', k ≤ k' + 3 ∧ UnaSt (bytesOf s) (i + 1) L' B' h' n' ∧ octets_Unarmor.l0 k s B h n (i : Int) = octets_Unarmor.l0 k' s B' h' n' ((i + 1 : Nat) : Int)) ∨
    (octets_Unarmor.l0 k s B h n (i : Int) = some ([], 22) ∧ ∀ x : Int, 0 ≤ x → x < 32 → (bytesOf s)[i] ≠ lt x) := by
  obtain ⟨k, rfl⟩ : ∃ j, k = j + 3 := ⟨k - 3, by omega⟩
  obtain ⟨hb, hc0, hc1⟩ := bt_byte s hi
  have hs := bytesOf_length s
  generalize hc : (bytesOf s)[i] = c at *
  have hn := st.hn
  have h0 := st.h0
  have hlB := st.len
  have h128 : h < 128 := by
    have h1 := st.h1
    have : (2 : Int) ^ n ≤ 2 ^ 7 := by exact_mod_cast Nat.pow_le_pow_right (by decide : 2 > 0) (by omega : n ≤ 7)
    omega
  have ei0 : (i : Int) < (s.size : Int) := by omega
  have hBl : B.length < 140737488355328 := by omega
  have hin : (n : Int) + 5 < 13 ∧ (i : Int) + 1 < 9223372036854775808 := by omega
  have E5 : Aside0 (wrap64 ((n : Int) + 5) = (n : Int) + 5) := ⟨wrap64_small (by omega) (by omega)⟩
  have EI : Aside0 (wrap64 ((i : Int) + 1) = ((i + 1 : Nat) : Int)) := ⟨by rw [wrap64_small (by omega) hin.2]; rfl⟩
  have hor : ∀ x : Int, 0 ≤ x → x < 32 → Go.bits .or .u64 (IntKind.u64.wrap (h * 32)) x = h * 32 + x := fun x hx0 hx1 => or_join32 h0 h128 hx0 hx1
  have e8 : 3 ≤ n → wrap64 ((n : Int) + 5 - 8) = ((n - 3 : Nat) : Int) := fun h3 => by rw [wrap64_small (by omega) (by omega)]; omega
  clear hlen hs hin
  /- the step, both ways -/
  have hin : ∀ (m : Nat) (x : Int), 0 ≤ x → x < 32 → c = lt x → k + 3 ≤ m + 3 →
      ∃ k' L' B' h' n', k + 3 ≤ k' + 3 ∧ UnaSt (bytesOf s) (i + 1) L' B' h' n' ∧
        (if (n : Int) + 5 ≥ 8 then (if 0 ≤ wrap64 ((n : Int) + 5 - 8) then (if B.length < 140737488355328 then octets_Unarmor.l0 m s (B ++ [shr .u64 (h * 32 + x) (wrap64 ((n : Int) + 5 - 8)) % 256]) (Go.bits .and .u64 (h * 32 + x) (IntKind.u64.wrap (shl .u64 1 (wrap64 ((n : Int) + 5 - 8)) - 1))) (wrap64 ((n : Int) + 5 - 8)) (wrap64 ((i : Int) + 1)) else none) else none) else octets_Unarmor.l0 m s B (h * 32 + x) ((n : Int) + 5) (wrap64 ((i : Int) + 1))) = octets_Unarmor.l0 k' s B' h' n' ((i + 1 : Nat) : Int) := by
    intro m x hx0 hx1 hcx hm
    obtain ⟨p1, p2⟩ := una_next st hi hx0 hx1 (hc.trans hcx)
    by_cases h3 : n < 3
    · refine ⟨m, _, _, _, _, hm, p1 h3, ?_⟩
      rw [if_neg (by omega), EI.out]
      rfl
    · obtain ⟨q1, q2, q3⟩ := p2 (by omega)
      refine ⟨m, _, _, _, _, hm, q3, ?_⟩
      rw [if_pos (by omega), e8 (by omega), if_pos (by omega), if_pos hBl, EI.out, shr_div _ _ (by omega), andmask _ _ (by omega) (by omega) (by omega), Int.emod_eq_of_lt q1 q2]
  simp only [octets_Unarmor.l0]
  rw [if_pos ei0, if_pos (by omega), hb]
  by_cases a1 : c ≥ 97
  · rw [if_pos a1]
    by_cases a2 : c ≤ 122
    · have hx := lt_abc (c - 97).toNat (by omega)
      have ex : (((c - 97).toNat : Nat) : Int) = c - 97 := by omega
      rw [ex] at hx
      have em : (c - 97) % 256 = c - 97 := by omega
      rw [decide_eq_true a2]
      simp only [octets_Unarmor.j1]
      rw [if_pos trivial, E5.out, em, hor _ (by omega) (by omega)]
      exact .inl (hin (k + 1) (c - 97) (by omega) (by omega) (by omega) (by omega))
    · rw [decide_eq_false a2]
      simp only [octets_Unarmor.j1]
      rw [if_neg (by simp), if_pos (by omega), decide_eq_false (by omega)]
      simp only [octets_Unarmor.j2]
      rw [if_neg (by simp)]
      refine .inr ⟨rfl, fun x h0 h1 e => ?_⟩
      have := lt_cases h0 h1
      omega
  · rw [if_neg a1]
    simp only [octets_Unarmor.j1]
    rw [if_neg (by simp)]
    by_cases b1 : c ≥ 50
    · rw [if_pos b1]
      by_cases b2 : c ≤ 55
      · have hx := lt_num (c - 50).toNat (by omega)
        have ex : (((c - 50).toNat : Nat) : Int) = c - 50 := by omega
        rw [ex] at hx
        have em : (c - 50) % 256 = c - 50 := by omega
        rw [decide_eq_true b2]
        simp only [octets_Unarmor.j2]
        rw [if_pos trivial, E5.out, em, hor _ (by omega) (by omega)]
        exact .inl (hin k (c - 50 + 26) (by omega) (by omega) (by omega) (by omega))
      · rw [decide_eq_false b2]
        simp only [octets_Unarmor.j2]
        rw [if_neg (by simp)]
        refine .inr ⟨rfl, fun x h0 h1 e => ?_⟩
        have := lt_cases h0 h1
        omega
    · rw [if_neg b1]
      simp only [octets_Unarmor.j2]
      rw [if_neg (by simp)]
      refine .inr ⟨rfl, fun x h0 h1 e => ?_⟩
      have := lt_cases h0 h1
      omega
theorem una_all {s : ByteArray} (hlen : s.size ≤ 225179981361972) : ∀ (d i : Nat) (L B : List Int) (h : Int) (n k : Nat), UnaSt (bytesOf s) i L B h n → i + d = (bytesOf s).length → 3 * d < k →
    ∃ res, octets_Unarmor.l0 k s B h n (i : Int) = some res ∧ UnaSays (bytesOf s) res := by
  intro d
  induction d with
  | zero =>
    intro i L B h n k st hi hk
    obtain rfl : i = (bytesOf s).length := by omega
    exact una_end st k (by omega)
  | succ d ih =>
    intro i L B h n k st hi hk
    rcases una_one st (by omega) hlen k (by omega) with ⟨k', L', B', h', n', hk', st', he⟩ | ⟨he, hx⟩
    · rw [he]
      exact ih (i + 1) L' B' h' n' k' st' (by omega) (by omega)
    · exact ⟨_, he, .inr ⟨rfl, i, by omega, hx⟩⟩
theorem una_f {s : ByteArray} (hlen : s.size ≤ 225179981361972) {k : Nat} (hk : 3 * s.size < k) : ∃ res, octets_Unarmor.f k s = some res ∧ UnaSays (bytesOf s) res := by
  have hs := bytesOf_length s
  have := una_all hlen (bytesOf s).length 0 [] [] 0 0 k ⟨by omega, by omega, by simp, by simp, by simp, by simp, by simp [numOf], by simp⟩ (by omega) (by omega)
  exact this
theorem bytesOf_str {xs : List Int} (h : ∀ x ∈ xs, 0 ≤ x ∧ x < 256) : bytesOf (strOfNums xs) = xs := by
  unfold bytesOf
  rw [strOfNums_data, List.map_map]
  conv => rhs; rw [← List.map_id xs]
  apply List.map_congr_left
  intro x hx
  have := h x hx
  simp only [Function.comp, id, UInt8.toNat_ofNat']
  omega
theorem str_bytesOf (s : ByteArray) : strOfNums (bytesOf s) = s := by
  apply ByteArray.ext
  apply Array.ext'
  rw [strOfNums_data, bytesOf, List.map_map]
  conv => rhs; rw [← List.map_id s.data.toList]
  apply List.map_congr_left
  intro u _
  simp [Function.comp]
theorem bytesOf_inj {s t : ByteArray} (h : bytesOf s = bytesOf t) : s = t := by
  rw [← str_bytesOf s, h, str_bytesOf]
theorem bytesOf_range (s : ByteArray) : ∀ x ∈ bytesOf s, 0 ≤ x ∧ x < 256 := by
  intro x hx
  unfold bytesOf at hx
  obtain ⟨u, _, rfl⟩ := List.mem_map.1 hx
  have := u.toNat_lt
  omega
theorem lt_range {L : List Int} (h : ∀ x ∈ L, 0 ≤ x ∧ x < 32) : ∀ y ∈ L.map lt, 0 ≤ y ∧ y < 256 := by
  intro y hy
  obtain ⟨x, hx, rfl⟩ := List.mem_map.1 hy
  have := lt_cases (h x hx).1 (h x hx).2
  have := h x hx
  omega
theorem list_beq {s t : ByteArray} : (s.toList == t.toList) = decide (s = t) := by
  rw [ByteArray.toList_eq, ByteArray.toList_eq]
  by_cases h : s = t
  · rw [h]; simp
  · have : ¬ s.data.toList = t.data.toList := fun e => h (ByteArray.ext (Array.ext' e))
    rw [beq_eq_false_iff_ne.mpr this, decide_eq_false h]
theorem arms_una {b L : List Int} {pad : Nat} (ha : Arms b L pad) (hb : ∀ x ∈ b, 0 ≤ x ∧ x < 256) {res : List Int × Int} (h : UnaSays (L.map lt) res) : res = (b, 0) := by
  rcases h with ⟨L', B, h, n, st, rfl⟩ | ⟨_, i, hi, hx⟩
  · have say := st.say
    rw [List.take_length] at say
    have e := lt_map_inj ha.code st.code say
    subst e
    have l1 := st.len
    have l2 := ha.len
    rw [List.length_map] at l1
    have hn := st.hn
    have hp := ha.small
    have en : n = pad := by omega
    have eb : B.length = b.length := by omega
    subst en
    have n1 := st.num
    rw [ha.num] at n1
    have h0 := st.h0
    have h1 := st.h1
    have e2 : h = 0 ∧ numOf 256 B = numOf 256 b := by
      clear l1 l2 say eb
      rcases five hp with rfl | rfl | rfl | rfl | rfl <;> omega
    rw [if_pos ⟨hp, e2.1⟩, numOf_inj 256 (by decide) B b eb st.byte hb e2.2]
  · rw [List.getElem_map] at hx
    rw [List.length_map] at hi
    have := ha.code _ (List.getElem_mem hi)
    exact absurd rfl (hx _ this.1 this.2)
theorem arms_same {b c L M : List Int} {p q : Nat} (ha : Arms b L p) (hb : Arms c M q) (hbb : ∀ x ∈ b, 0 ≤ x ∧ x < 256) (hcc : ∀ x ∈ c, 0 ≤ x ∧ x < 256) (h : L = M) : b = c := by
  subst h
  have l1 := ha.len
  have l2 := hb.len
  have p1 := ha.small
  have p2 := hb.small
  have e : p = q := by omega
  subst e
  have n1 := ha.num
  have n2 := hb.num
  rw [n2] at n1
  have : numOf 256 c = numOf 256 b := by
    clear l1 l2 n2
    rcases five p1 with rfl | rfl | rfl | rfl | rfl <;> omega
  exact (numOf_inj 256 (by decide) c b (by omega) hcc hbb this).symm
theorem arms_back {b L M : List Int} {p q : Nat} (ha : Arms b L p) (hlen : 8 * b.length + q = 5 * M.length) (hq : q < 5) (hn : numOf 256 b * 2 ^ q = numOf 32 M) (hM : ∀ x ∈ M, 0 ≤ x ∧ x < 32) : L = M := by
  have l1 := ha.len
  have p1 := ha.small
  have e : p = q := by omega
  subst e
  exact numOf_inj 32 (by decide) L M (by omega) ha.code hM (by rw [ha.num, hn])
theorem there_back (l : List Int) (hb : ∀ x ∈ l, 0 ≤ x ∧ x < 256) (hl : l.length ≤ 140737488351232) : ∃ k t, Go.Proofs.Ytkjkmaopifmghaa.OctArmor.octets_Armor.f k l = some t ∧ octets_Unarmor.f k t = some (l, 0) := by
  obtain ⟨L, pad, ha, hA⟩ := armor_f hb hl (k := 2000000000000000) (by omega)
  have hlen := ha.len
  have hsz : (strOfNums (L.map lt)).size = L.length := by
    have := bytesOf_length (strOfNums (L.map lt))
    rw [bytesOf_str (lt_range ha.code), List.length_map] at this
    omega
  have hp := ha.small
  obtain ⟨res, hu, hsay⟩ := una_f (s := strOfNums (L.map lt)) (by omega) (k := 2000000000000000) (by omega)
  rw [bytesOf_str (lt_range ha.code)] at hsay
  have e := arms_una ha hb hsay
  subst e
  exact ⟨_, _, hA, hu⟩
end Go.Proofs.Ytkjkmaopifmghaa.PureUna
