/- The plain law of OctetsArmored. -/
import Derived.Test.YtkjkmaopifmghaaQArmoredx2
import Derived.Laws.BitsAllLaws
import Derived.Laws.BytesArg
import Derived.Test.YtkjkmaopifmghaaPureArmor
namespace Go.Proofs.Ytkjkmaopifmghaa.Pure
open Go.RowKit Go.Proofs.Ytkjkmaopifmghaa.QArmored Go.Proofs.YtkjkmaopifmghaaW.PrintWords Go.Proofs.YtkjkmaopifmghaaW.PrintLast Go.Proofs.YtkjkmaopifmghaaW.PrintMore Go.Proofs.Ytkjkmaopifmghaa.PureArmor
set_option linter.unusedVariables false
set_option linter.unusedSimpArgs false
theorem copy_from (l : List Int) (hl : l.length ≤ 140737488355328) : ∀ (d i k : Nat) (a : List Int), i + d = l.length → a.length = i → d < k → latchkeyref00_CopyBytes.l0 k l a (i : Int) = some (a ++ l.drop i) := by
  intro d
  induction d with
  | zero =>
    intro i k a hi ha hk
    obtain ⟨k, rfl⟩ : ∃ j, k = j + 1 := ⟨k - 1, by omega⟩
    simp only [latchkeyref00_CopyBytes.l0]
    rw [if_neg (by omega), List.drop_eq_nil_of_le (by omega), List.append_nil]
  | succ d ih =>
    intro i k a hi ha hk
    obtain ⟨k, rfl⟩ : ∃ j, k = j + 1 := ⟨k - 1, by omega⟩
    simp only [latchkeyref00_CopyBytes.l0]
    rw [if_pos (by omega), if_pos (by omega), if_pos (by omega), wrap64_small (by omega) (by omega), rd_nat (by omega : i < l.length)]
    rw [show ((i : Int) + 1) = ((i + 1 : Nat) : Int) from rfl, ih (i + 1) k _ (by omega) (by simp [ha]) (by omega)]
    rw [List.drop_eq_getElem_cons (by omega : i < l.length), List.append_assoc]
    rfl
theorem copy_f {k : Nat} {l : List Int} (hl : l.length ≤ 140737488355328) (hk : l.length < k) : latchkeyref00_CopyBytes.f k l = some l := by
  unfold latchkeyref00_CopyBytes.f
  have := copy_from l hl l.length 0 k [] (by omega) rfl hk
  simpa using this
theorem same_from (l m : List Int) (hl : l.length = m.length) (hb : l.length ≤ 140737488355328) : ∀ (d i k : Nat), i + d = l.length → d < k → latchkeyref00_SameBytes.l0 k l m (i : Int) = some (l.drop i == m.drop i) := by
  intro d
  induction d with
  | zero =>
    intro i k hi hk
    obtain ⟨k, rfl⟩ : ∃ j, k = j + 1 := ⟨k - 1, by omega⟩
    simp only [latchkeyref00_SameBytes.l0]
    rw [if_neg (by omega), List.drop_eq_nil_of_le (by omega), List.drop_eq_nil_of_le (by omega)]
    rfl
  | succ d ih =>
    intro i k hi hk
    obtain ⟨k, rfl⟩ : ∃ j, k = j + 1 := ⟨k - 1, by omega⟩
    simp only [latchkeyref00_SameBytes.l0]
    have h1 : i < l.length := by omega
    have h2 : i < m.length := by omega
    rw [if_pos (by omega), if_pos (by omega), if_pos (by omega), wrap64_small (by omega) (by omega), rd_nat h1, rd_nat h2]
    rw [show ((i : Int) + 1) = ((i + 1 : Nat) : Int) from rfl, ih (i + 1) k (by omega) (by omega)]
    rw [List.drop_eq_getElem_cons h1, List.drop_eq_getElem_cons h2]
    by_cases h : l[i] = m[i]
    · rw [if_pos h, h, List.cons_beq_cons, beq_self_eq_true, Bool.true_and]
    · rw [if_neg h, List.cons_beq_cons, beq_eq_false_iff_ne.mpr h, Bool.false_and]
theorem same_f {k : Nat} {l m : List Int} (hb : l.length ≤ 140737488355328) (hk : l.length < k) : latchkeyref00_SameBytes.f k l m = some (l == m) := by
  unfold latchkeyref00_SameBytes.f
  by_cases h : (l.length : Int) = (m.length : Int)
  · rw [if_pos h]
    have := same_from l m (by omega) hb l.length 0 k (by omega) hk
    simpa using this
  · rw [if_neg h]
    have : ¬ l = m := fun e => h (by rw [e])
    simp [this]
theorem wf_u8 {x : Int} (h : (Lit.int .u8 x).wf = true) : 0 ≤ x ∧ x < 256 := by
  simp [Lit.wf, IntKind.min, IntKind.max, IntKind.signed, IntKind.bits] at h
  omega
theorem bt_byte (s : ByteArray) {i : Nat} (hi : i < (bytesOf s).length) : bt s (i : Int) = (bytesOf s)[i] ∧ 0 ≤ (bytesOf s)[i] ∧ (bytesOf s)[i] < 256 := by
  refine ⟨by rw [← rd_bytesOf, rd_nat hi], ?_⟩
  have hm := List.getElem_mem hi
  generalize (bytesOf s)[i] = x at *
  unfold bytesOf at hm
  obtain ⟨u, _, rfl⟩ := List.mem_map.1 hm
  have := u.toNat_lt
  omega
/-- What Unarmor says. -/
def UnaSays (t : List Int) (res : List Int × Int) : Prop :=
  (∃ L B h n, UnaSt t t.length L B h n ∧ res = if n < 5 ∧ h = 0 then (B, 0) else ([], 22)) ∨ (res = ([], 22) ∧ ∃ i, ∃ _ : i < t.length, ∀ x : Int, 0 ≤ x → x < 32 → t[i] ≠ lt x)
theorem una_end {s : ByteArray} {L B : List Int} {h : Int} {n : Nat} (st : UnaSt (bytesOf s) (bytesOf s).length L B h n) (k : Nat) (hk : 0 < k) :
    ∃ res, octets_Unarmor.l0 k s B h n ((bytesOf s).length : Int) = some res ∧ UnaSays (bytesOf s) res := by
  obtain ⟨k, rfl⟩ : ∃ j, k = j + 1 := ⟨k - 1, by omega⟩
  refine ⟨_, ?_, .inl ⟨L, B, h, n, st, rfl⟩⟩
  have hs := bytesOf_length s
  simp only [octets_Unarmor.l0]
  rw [if_neg (by omega)]
  by_cases hn : (n : Int) ≥ 5
  · rw [if_pos hn, if_neg (by omega)]
  · rw [if_neg hn]
    by_cases h0 : h = 0
    · rw [if_pos h0, if_pos (by omega)]
    · rw [if_neg h0, if_neg (by omega)]
theorem or_join32 {h x : Int} (h0 : 0 ≤ h) (h1 : h < 128) (hx0 : 0 ≤ x) (hx1 : x < 32) : Go.bits .or .u64 (IntKind.u64.wrap (h * 32)) x = h * 32 + x := or_join h x 5 h0 (by omega) hx0 hx1 (by omega)
theorem una_one {s : ByteArray} {i : Nat} {L B : List Int} {h : Int} {n : Nat} (st : UnaSt (bytesOf s) i L B h n) (hi : i < (bytesOf s).length) (hlen : s.size ≤ 225179981361972) (k : Nat) (hk : 3 ≤ k) :
    (∃ k' L' B' h' n', k ≤ k' + 3 ∧ UnaSt (bytesOf s) (i + 1) L' B' h' n' ∧ octets_Unarmor.l0 k s B h n (i : Int) = octets_Unarmor.l0 k' s B' h' n' ((i + 1 : Nat) : Int)) ∨
    (octets_Unarmor.l0 k s B h n (i : Int) = some ([], 22) ∧ ∀ x : Int, 0 ≤ x → x < 32 → (bytesOf s)[i] ≠ lt x) := by
  obtain ⟨k, rfl⟩ : ∃ j, k = j + 3 := ⟨k - 3, by omega⟩
  obtain ⟨hb, hc0, hc1⟩ := bt_byte s hi
  have hs := bytesOf_length s
  generalize hc : (bytesOf s)[i] = c at *
  have hn := st.hn
  have h0 := st.h0
  have hlB := st.len
  have h128 : h < 128 := by
    have h1 := st.h1
    have : (2 : Int) ^ n ≤ 2 ^ 7 := by exact_mod_cast Nat.pow_le_pow_right (by decide : 2 > 0) (by omega : n ≤ 7)
    omega
  have ei0 : (i : Int) < (s.size : Int) := by omega
  have hBl : B.length < 140737488355328 := by omega
  have hin : (n : Int) + 5 < 13 ∧ (i : Int) + 1 < 9223372036854775808 := by omega
  have E5 : Aside0 (wrap64 ((n : Int) + 5) = (n : Int) + 5) := ⟨wrap64_small (by omega) (by omega)⟩
  have EI : Aside0 (wrap64 ((i : Int) + 1) = ((i + 1 : Nat) : Int)) := ⟨by rw [wrap64_small (by omega) hin.2]; rfl⟩
  have hor : ∀ x : Int, 0 ≤ x → x < 32 → Go.bits .or .u64 (IntKind.u64.wrap (h * 32)) x = h * 32 + x := fun x hx0 hx1 => or_join32 h0 h128 hx0 hx1
  have e8 : 3 ≤ n → wrap64 ((n : Int) + 5 - 8) = ((n - 3 : Nat) : Int) := fun h3 => by rw [wrap64_small (by omega) (by omega)]; omega
  clear hlen hs hin
  /- the step, both ways -/
  have hin : ∀ (m : Nat) (x : Int), 0 ≤ x → x < 32 → c = lt x → k + 3 ≤ m + 3 →
      ∃ k' L' B' h' n', k + 3 ≤ k' + 3 ∧ UnaSt (bytesOf s) (i + 1) L' B' h' n' ∧
        (if (n : Int) + 5 ≥ 8 then (if 0 ≤ wrap64 ((n : Int) + 5 - 8) then (if B.length < 140737488355328 then octets_Unarmor.l0 m s (B ++ [shr .u64 (h * 32 + x) (wrap64 ((n : Int) + 5 - 8)) % 256]) (Go.bits .and .u64 (h * 32 + x) (IntKind.u64.wrap (shl .u64 1 (wrap64 ((n : Int) + 5 - 8)) - 1))) (wrap64 ((n : Int) + 5 - 8)) (wrap64 ((i : Int) + 1)) else none) else none) else octets_Unarmor.l0 m s B (h * 32 + x) ((n : Int) + 5) (wrap64 ((i : Int) + 1))) = octets_Unarmor.l0 k' s B' h' n' ((i + 1 : Nat) : Int) := by
    intro m x hx0 hx1 hcx hm
    obtain ⟨p1, p2⟩ := una_next st hi hx0 hx1 (hc.trans hcx)
    by_cases h3 : n < 3
    · refine ⟨m, _, _, _, _, hm, p1 h3, ?_⟩
      rw [if_neg (by omega), EI.out]
      rfl
    · obtain ⟨q1, q2, q3⟩ := p2 (by omega)
      refine ⟨m, _, _, _, _, hm, q3, ?_⟩
      rw [if_pos (by omega), e8 (by omega), if_pos (by omega), if_pos hBl, EI.out, shr_div _ _ (by omega), andmask _ _ (by omega) (by omega) (by omega), Int.emod_eq_of_lt q1 q2]
  simp only [octets_Unarmor.l0]
  rw [if_pos ei0, if_pos (by omega), hb]
  by_cases a1 : c ≥ 97
  · rw [if_pos a1]
    by_cases a2 : c ≤ 122
    · have hx := lt_abc (c - 97).toNat (by omega)
      have ex : (((c - 97).toNat : Nat) : Int) = c - 97 := by omega
      rw [ex] at hx
      have em : (c - 97) % 256 = c - 97 := by omega
      rw [decide_eq_true a2]
      simp only [octets_Unarmor.j1]
      rw [if_pos trivial, E5.out, em, hor _ (by omega) (by omega)]
      exact .inl (hin (k + 1) (c - 97) (by omega) (by omega) (by omega) (by omega))
    · rw [decide_eq_false a2]
      simp only [octets_Unarmor.j1]
      rw [if_neg (by simp), if_pos (by omega), decide_eq_false (by omega)]
      simp only [octets_Unarmor.j2]
      rw [if_neg (by simp)]
      refine .inr ⟨rfl, fun x h0 h1 e => ?_⟩
      have := lt_cases h0 h1
      omega
  · rw [if_neg a1]
    simp only [octets_Unarmor.j1]
    rw [if_neg (by simp)]
    by_cases b1 : c ≥ 50
    · rw [if_pos b1]
      by_cases b2 : c ≤ 55
      · have hx := lt_num (c - 50).toNat (by omega)
        have ex : (((c - 50).toNat : Nat) : Int) = c - 50 := by omega
        rw [ex] at hx
        have em : (c - 50) % 256 = c - 50 := by omega
        rw [decide_eq_true b2]
        simp only [octets_Unarmor.j2]
        rw [if_pos trivial, E5.out, em, hor _ (by omega) (by omega)]
        exact .inl (hin k (c - 50 + 26) (by omega) (by omega) (by omega) (by omega))
      · rw [decide_eq_false b2]
        simp only [octets_Unarmor.j2]
        rw [if_neg (by simp)]
        refine .inr ⟨rfl, fun x h0 h1 e => ?_⟩
        have := lt_cases h0 h1
        omega
    · rw [if_neg b1]
      simp only [octets_Unarmor.j2]
      rw [if_neg (by simp)]
      refine .inr ⟨rfl, fun x h0 h1 e => ?_⟩
      have := lt_cases h0 h1
      omega
theorem una_all {s : ByteArray} (hlen : s.size ≤ 225179981361972) : ∀ (d i : Nat) (L B : List Int) (h : Int) (n k : Nat), UnaSt (bytesOf s) i L B h n → i + d = (bytesOf s).length → 3 * d < k →
    ∃ res, octets_Unarmor.l0 k s B h n (i : Int) = some res ∧ UnaSays (bytesOf s) res := by
  intro d
  induction d with
  | zero =>
    intro i L B h n k st hi hk
    obtain rfl : i = (bytesOf s).length := by omega
    exact una_end st k (by omega)
  | succ d ih =>
    intro i L B h n k st hi hk
    rcases una_one st (by omega) hlen k (by omega) with ⟨k', L', B', h', n', hk', st', he⟩ | ⟨he, hx⟩
    · rw [he]
      exact ih (i + 1) L' B' h' n' k' st' (by omega) (by omega)
    · exact ⟨_, he, .inr ⟨rfl, i, by omega, hx⟩⟩
theorem una_f {s : ByteArray} (hlen : s.size ≤ 225179981361972) {k : Nat} (hk : 3 * s.size < k) : ∃ res, octets_Unarmor.f k s = some res ∧ UnaSays (bytesOf s) res := by
  have hs := bytesOf_length s
  have := una_all hlen (bytesOf s).length 0 [] [] 0 0 k ⟨by omega, by omega, by simp, by simp, by simp, by simp, by simp [numOf], by simp⟩ (by omega) (by omega)
  exact this
theorem bytesOf_str {xs : List Int} (h : ∀ x ∈ xs, 0 ≤ x ∧ x < 256) : bytesOf (strOfNums xs) = xs := by
  unfold bytesOf
  rw [strOfNums_data, List.map_map]
  conv => rhs; rw [← List.map_id xs]
  apply List.map_congr_left
  intro x hx
  have := h x hx
  simp only [Function.comp, id, UInt8.toNat_ofNat']
  omega
theorem str_bytesOf (s : ByteArray) : strOfNums (bytesOf s) = s := by
  apply ByteArray.ext
  apply Array.ext'
  rw [strOfNums_data, bytesOf, List.map_map]
  conv => rhs; rw [← List.map_id s.data.toList]
  apply List.map_congr_left
  intro u _
  simp [Function.comp]
theorem bytesOf_inj {s t : ByteArray} (h : bytesOf s = bytesOf t) : s = t := by
  rw [← str_bytesOf s, h, str_bytesOf]
theorem bytesOf_range (s : ByteArray) : ∀ x ∈ bytesOf s, 0 ≤ x ∧ x < 256 := by
  intro x hx
  unfold bytesOf at hx
  obtain ⟨u, _, rfl⟩ := List.mem_map.1 hx
  have := u.toNat_lt
  omega
theorem lt_range {L : List Int} (h : ∀ x ∈ L, 0 ≤ x ∧ x < 32) : ∀ y ∈ L.map lt, 0 ≤ y ∧ y < 256 := by
  intro y hy
  obtain ⟨x, hx, rfl⟩ := List.mem_map.1 hy
  have := lt_cases (h x hx).1 (h x hx).2
  have := h x hx
  omega
theorem list_beq {s t : ByteArray} : (s.toList == t.toList) = decide (s = t) := by
  rw [ByteArray.toList_eq, ByteArray.toList_eq]
  by_cases h : s = t
  · rw [h]; simp
  · have : ¬ s.data.toList = t.data.toList := fun e => h (ByteArray.ext (Array.ext' e))
    rw [beq_eq_false_iff_ne.mpr this, decide_eq_false h]
theorem arms_una {b L : List Int} {pad : Nat} (ha : Arms b L pad) (hb : ∀ x ∈ b, 0 ≤ x ∧ x < 256) {res : List Int × Int} (h : UnaSays (L.map lt) res) : res = (b, 0) := by
  rcases h with ⟨L', B, h, n, st, rfl⟩ | ⟨_, i, hi, hx⟩
  · have say := st.say
    rw [List.take_length] at say
    have e := lt_map_inj ha.code st.code say
    subst e
    have l1 := st.len
    have l2 := ha.len
    rw [List.length_map] at l1
    have hn := st.hn
    have hp := ha.small
    have en : n = pad := by omega
    have eb : B.length = b.length := by omega
    subst en
    have n1 := st.num
    rw [ha.num] at n1
    have h0 := st.h0
    have h1 := st.h1
    have e2 : h = 0 ∧ numOf 256 B = numOf 256 b := by
      clear l1 l2 say eb
      rcases five hp with rfl | rfl | rfl | rfl | rfl <;> omega
    rw [if_pos ⟨hp, e2.1⟩, numOf_inj 256 (by decide) B b eb st.byte hb e2.2]
  · rw [List.getElem_map] at hx
    rw [List.length_map] at hi
    have := ha.code _ (List.getElem_mem hi)
    exact absurd rfl (hx _ this.1 this.2)
theorem arms_same {b c L M : List Int} {p q : Nat} (ha : Arms b L p) (hb : Arms c M q) (hbb : ∀ x ∈ b, 0 ≤ x ∧ x < 256) (hcc : ∀ x ∈ c, 0 ≤ x ∧ x < 256) (h : L = M) : b = c := by
  subst h
  have l1 := ha.len
  have l2 := hb.len
  have p1 := ha.small
  have p2 := hb.small
  have e : p = q := by omega
  subst e
  have n1 := ha.num
  have n2 := hb.num
  rw [n2] at n1
  have : numOf 256 c = numOf 256 b := by
    clear l1 l2 n2
    rcases five p1 with rfl | rfl | rfl | rfl | rfl <;> omega
  exact (numOf_inj 256 (by decide) c b (by omega) hcc hbb this).symm
theorem arms_back {b L M : List Int} {p q : Nat} (ha : Arms b L p) (hlen : 8 * b.length + q = 5 * M.length) (hq : q < 5) (hn : numOf 256 b * 2 ^ q = numOf 32 M) (hM : ∀ x ∈ M, 0 ≤ x ∧ x < 32) : L = M := by
  have l1 := ha.len
  have p1 := ha.small
  have e : p = q := by omega
  subst e
  exact numOf_inj 32 (by decide) L M (by omega) ha.code hM (by rw [ha.num, hn])
theorem armored_armor {k : Nat} {b : List Int} (hb : ∀ x ∈ b, 0 ≤ x ∧ x < 256) (hl : b.length ≤ 140737488351232) (hk : 4 * b.length < k) : ∃ L pad, Arms b L pad ∧ octets_Armor.f k b = some (strOfNums (L.map lt)) := by
  unfold octets_Armor.f
  rw [if_pos hl]
  exact armor_f hb hl hk
theorem armored_loop {l : List Int} {s X Y : ByteArray} {L : List Int} (hX : bytesOf X = L.map lt) (hL : ∀ x ∈ L, 0 ≤ x ∧ x < 32) (hs : X.size ≤ 225179981361972) (K : Nat) (r : Bool)
    (htail : ∀ k, K ≤ k → ((octets_Unarmor.f k X).bind fun bt124 => (if bt124.2 = 0 then ((latchkeyref00_SameBytes.f k bt124.1 l).bind fun t128 => (latchkeylaw02_OctetsArmored.j2 k s X Y (!t128))) else (latchkeylaw02_OctetsArmored.j2 k s X Y true))) = some r) :
    ∀ (d i k : Nat), i + d = X.size → d + K < k → latchkeylaw02_OctetsArmored.l0 k l s X Y (i : Int) = some r := by
  intro d
  induction d with
  | zero =>
    intro i k hi hk
    obtain ⟨k, rfl⟩ : ∃ j, k = j + 1 := ⟨k - 1, by omega⟩
    simp only [latchkeylaw02_OctetsArmored.l0]
    rw [if_neg (by omega)]
    exact htail k (by omega)
  | succ d ih =>
    intro i k hi hk
    obtain ⟨k, rfl⟩ : ∃ j, k = j + 1 := ⟨k - 1, by omega⟩
    have hlen := bytesOf_length X
    have hiX : i < (bytesOf X).length := by omega
    have hc := (bt_byte X hiX).1
    have hiL : i < L.length := by rw [hX, List.length_map] at hiX; exact hiX
    have hci : (bytesOf X)[i] = lt L[i] := by
      simp only [hX, List.getElem_map]
    have hcode := hL _ (List.getElem_mem hiL)
    have hcase := lt_cases hcode.1 hcode.2
    rw [hci] at hc
    have hnext := ih (i + 1) k (by omega) (by omega)
    have hi1 : (i : Int) + 1 < 9223372036854775808 := by omega
    have hi2 : (i : Int) < (X.size : Int) := by omega
    have EI : Aside0 (wrap64 ((i : Int) + 1) = ((i + 1 : Nat) : Int)) := ⟨by rw [wrap64_small (by omega) hi1]; rfl⟩
    clear hs hi1 ih htail
    simp only [latchkeylaw02_OctetsArmored.l0]
    rw [if_pos hi2, if_pos (by omega), hc, EI.out, hnext]
    clear hnext EI
    rcases hcase with ⟨h1, h2⟩ | ⟨h1, h2⟩
    · rw [h2, if_pos (by omega), if_pos (by omega)]
    · rw [h2, if_neg (by omega), if_pos (by omega), if_pos (by omega)]
theorem size_ok {n L p : Nat} (h : 5 * L = 8 * n + p) (hp : p < 5) (hn : n ≤ 140737488351232) : wrap64 (Int.tdiv (wrap64 ((wrap64 (8 * (n : Int))) + 4)) 5) = (L : Int) := by
  rw [wrap64_small (n := 8 * (n : Int)) (by omega) (by omega), wrap64_small (n := 8 * (n : Int) + 4) (by omega) (by omega), Int.tdiv_eq_ediv_of_nonneg (by omega), wrap64_small (by omega) (by omega)]
  omega
theorem OctetsArmored : latchkeylaw02_OctetsArmored.Pure := by
  intro l0 l1 a2 _ h0 w0 _ h1 w1 h2
  have b0 : ∀ x ∈ l0, 0 ≤ x ∧ x < 256 := fun x hx => wf_u8 (w0 x hx)
  have b1 : ∀ x ∈ l1, 0 ≤ x ∧ x < 256 := fun x hx => wf_u8 (w1 x hx)
  have g0 : l0.length ≤ 140737488351232 := by omega
  have g1 : l1.length ≤ 140737488351232 := by omega
  clear h0 h1 w0 w1
  obtain ⟨K, hK⟩ : ∃ K, K = 8 * l0.length + 8 * l1.length + 4 * a2.size + 100 := ⟨_, rfl⟩
  obtain ⟨L, p, A, _⟩ := armored_armor b0 g0 (k := 4 * l0.length + 1) (by omega)
  obtain ⟨M, q, B, _⟩ := armored_armor b1 g1 (k := 4 * l1.length + 1) (by omega)
  have lenL := A.len
  have lenM := B.len
  have smL := A.small
  have smM := B.small
  have XB : bytesOf (strOfNums (L.map lt)) = L.map lt := bytesOf_str (lt_range A.code)
  have YB : bytesOf (strOfNums (M.map lt)) = M.map lt := bytesOf_str (lt_range B.code)
  have szX : (strOfNums (L.map lt)).size = L.length := by rw [strOfNums_size, List.length_map]
  have szY : (strOfNums (M.map lt)).size = M.length := by rw [strOfNums_size, List.length_map]
  have armX : ∀ k, 4 * l0.length < k → octets_Armor.f k l0 = some (strOfNums (L.map lt)) := by
    intro k hk
    obtain ⟨L', p', A', e⟩ := armored_armor b0 g0 hk
    rw [e, arms_back A' (by omega) smL (by rw [A.num]) A.code]
  have armY : ∀ k, 4 * l1.length < k → octets_Armor.f k l1 = some (strOfNums (M.map lt)) := by
    intro k hk
    obtain ⟨L', p', A', e⟩ := armored_armor b1 g1 hk
    rw [e, arms_back A' (by omega) smM (by rw [B.num]) B.code]
  have unX : ∀ k, 3 * L.length < k → octets_Unarmor.f k (strOfNums (L.map lt)) = some (l0, 0) := by
    intro k hk
    obtain ⟨res, e, hs⟩ := una_f (s := strOfNums (L.map lt)) (by omega) (k := k) (by omega)
    rw [XB] at hs
    rw [e, arms_una A b0 hs]
  have unY : ∀ k, 3 * M.length < k → octets_Unarmor.f k (strOfNums (M.map lt)) = some (l1, 0) := by
    intro k hk
    obtain ⟨res, e, hs⟩ := una_f (s := strOfNums (M.map lt)) (by omega) (k := k) (by omega)
    rw [YB] at hs
    rw [e, arms_una B b1 hs]
  have j2 : ∀ k, K ≤ k → latchkeylaw02_OctetsArmored.j2 (k + 1) a2 (strOfNums (L.map lt)) (strOfNums (M.map lt)) false = some true := by
    intro k hk
    obtain ⟨res, e, hs⟩ := una_f (s := a2) (by omega) (k := k) (by omega)
    simp only [latchkeylaw02_OctetsArmored.j2]
    rw [if_neg (by simp), e, Option.bind_some]
    have bad : res = ([], 22) → (if res.2 = 0 then (octets_Armor.f k res.1).bind fun t133 => some (t133.toList == a2.toList) else if res.2 = 22 then if (res.1.length : Int) = 0 then if a2.toList = (strOfNums (L.map lt)).toList then some false else some (a2.toList != (strOfNums (M.map lt)).toList) else some false else some false) = some true := by
      intro er
      have nX : ¬ a2 = strOfNums (L.map lt) := by
        intro ea
        rw [ea, unX k (by omega)] at e
        have := Option.some.inj e
        rw [er] at this
        simp at this
      have nY : ¬ a2 = strOfNums (M.map lt) := by
        intro ea
        rw [ea, unY k (by omega)] at e
        have := Option.some.inj e
        rw [er] at this
        simp at this
      have tX : ¬ a2.toList = (strOfNums (L.map lt)).toList := fun h => nX (by
        have := list_beq (s := a2) (t := strOfNums (L.map lt))
        rw [h] at this
        simpa using this)
      have tY : (a2.toList == (strOfNums (M.map lt)).toList) = false := by rw [list_beq]; exact decide_eq_false nY
      rw [er]
      rw [if_neg (by decide), if_pos rfl, if_pos (show ((([] : List Int), (22 : Int)).1.length : Int) = 0 from rfl), if_neg tX]
      simp only [bne, tY, Bool.not_false]
    rcases hs with ⟨N, D, h, n, st, er⟩ | ⟨er, _⟩
    · by_cases hc : n < 5 ∧ h = 0
      · rw [if_pos hc] at er
        subst er
        have say := st.say
        have len := st.len
        have ba := bytesOf_length a2
        rw [List.take_length] at say
        have hN : N.length = (bytesOf a2).length := by rw [say, List.length_map]
        obtain ⟨L', p', A', e'⟩ := armored_armor st.byte (by omega) (k := k) (by omega)
        have num := st.num
        rw [hc.2, Int.add_zero] at num
        have eL := arms_back A' (by omega) hc.1 num st.code
        rw [if_pos rfl, e', Option.bind_some, eL, ← say, str_bytesOf, beq_self_eq_true]
      · rw [if_neg hc] at er
        exact bad er
    · exact bad er
  have loop : latchkeylaw02_OctetsArmored.l0 (K + K + 20) l0 a2 (strOfNums (L.map lt)) (strOfNums (M.map lt)) 0 = some true := by
    have := armored_loop (l := l0) (s := a2) (X := strOfNums (L.map lt)) (Y := strOfNums (M.map lt)) XB A.code (by omega) (K + 1) true (fun k hk => ?_) L.length 0 (K + K + 20) (by omega) (by omega)
    · exact this
    · obtain ⟨k, rfl⟩ : ∃ j, k = j + 1 := ⟨k - 1, by omega⟩
      rw [unX (k + 1) (by omega), Option.bind_some, if_pos rfl]
      simp only []
      rw [same_f (by omega) (by omega), Option.bind_some, beq_self_eq_true, Bool.not_true]
      exact j2 k (by omega)
  refine ⟨K + K + 21, ?_⟩
  unfold latchkeylaw02_OctetsArmored.f
  simp only [latchkeylaw02_awake.f, Option.bind_some]
  rw [if_pos trivial, copy_f (by omega) (by omega), copy_f (by omega) (by omega)]
  simp only [Option.bind_some]
  rw [armX _ (by omega), armY _ (by omega), same_f (by omega) (by omega)]
  simp only [Option.bind_some]
  have eqv : ((strOfNums (L.map lt)).toList == (strOfNums (M.map lt)).toList) = (l0 == l1) := by
    rw [list_beq]
    by_cases h : l0 = l1
    · have eL : L = M := arms_back A (by rw [h]; omega) smM (by rw [h, B.num]) B.code
      rw [eL, h]
      simp
    · have : ¬ strOfNums (L.map lt) = strOfNums (M.map lt) := fun e => h (arms_same A B b0 b1 (lt_map_inj A.code B.code (by rw [← XB, ← YB, e])))
      rw [decide_eq_false this, beq_eq_false_iff_ne.mpr h]
  rw [eqv, if_neg (by simp), size_ok lenL smL g0, szX]
  simp only [latchkeylaw02_OctetsArmored.j0]
  rw [if_neg (by simp)]
  exact loop
end Go.Proofs.Ytkjkmaopifmghaa.Pure
