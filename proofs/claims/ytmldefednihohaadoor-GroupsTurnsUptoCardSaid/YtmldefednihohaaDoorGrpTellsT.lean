/- An index tells what the closed table says (a plain walk). -/
import Derived.Test.YtmldefednihohaaDoorGrpClosed
namespace Go.Proofs.YtmldefednihohaaDoor.Grp
open Go.RowKit Go.Proofs.YtmldefednihohaaDoorW.PrintWords Go.Proofs.YtmldefednihohaaDoorW.PrintLast Go.Proofs.YtmldefednihohaaDoorW.PrintMore
set_option linter.unusedVariables false
set_option linter.unusedSimpArgs false
set_option maxRecDepth 100000
theorem elems_succ_t {P : Nat → Bool} {n : Nat} (h : P n = true) : elems P (n + 1) = elems P n ++ [(n : Int)] := by simp only [elems, h, if_true]
theorem elems_succ_f {P : Nat → Bool} {n : Nat} (h : P n = false) : elems P (n + 1) = elems P n := by simp [elems, h]
theorem elems_mono (P : Nat → Bool) (a : Nat) : ∀ d, (elems P a).length ≤ (elems P (a + d)).length := by
  intro d
  induction d with
  | zero => exact Nat.le_refl _
  | succ d ih =>
    cases h : P (a + d) with
    | true => rw [show a + (d + 1) = (a + d) + 1 from rfl, elems_succ_t h, List.length_append]; omega
    | false => rw [show a + (d + 1) = (a + d) + 1 from rfl, elems_succ_f h]; exact ih
theorem elems_idx {P : Nat → Bool} {b : Nat} (hb : P b = true) : ∀ n, b < n → (elems P n)[(elems P b).length]? = some (b : Int) ∧ (elems P b).length < (elems P n).length := by
  intro n
  induction n with
  | zero => intro h; omega
  | succ n ih =>
    intro h
    by_cases e : b = n
    · subst e
      rw [elems_succ_t hb]
      exact ⟨by simp, by simp⟩
    · obtain ⟨h1, h2⟩ := ih (by omega)
      cases hn : P n with
      | true =>
        rw [elems_succ_t hn]
        exact ⟨by rw [List.getElem?_append_left h2]; exact h1, by rw [List.length_append]; omega⟩
      | false => rw [elems_succ_f hn]; exact ⟨h1, h2⟩
theorem elems_get (P : Nat → Bool) : ∀ n i, i < (elems P n).length → ∃ c : Nat, (elems P n)[i]? = some (c : Int) ∧ c < n ∧ P c = true ∧ (elems P c).length = i := by
  intro n
  induction n with
  | zero => intro i h; simp [elems] at h
  | succ n ih =>
    intro i h
    cases hn : P n with
    | true =>
      rw [elems_succ_t hn] at h ⊢
      by_cases hi : i < (elems P n).length
      · obtain ⟨c, h1, h2, h3, h4⟩ := ih i hi
        exact ⟨c, by rw [List.getElem?_append_left hi]; exact h1, by omega, h3, h4⟩
      · have e : i = (elems P n).length := by rw [List.length_append, List.length_singleton] at h; omega
        subst e
        exact ⟨n, by simp, by omega, hn, rfl⟩
    | false =>
      rw [elems_succ_f hn] at h ⊢
      obtain ⟨c, h1, h2, h3, h4⟩ := ih i h
      exact ⟨c, h1, by omega, h3, h4⟩
/-- How many pairs, by the columns up to k. -/
def colsN (n : Nat) (R : Nat → Nat → Bool) : Nat → Nat
  | 0 => 0
  | k + 1 => colsN n R k + (elems (fun c => R c k) n).length
def colsM (R : Nat → Nat → Bool) (m : Nat) : Nat → Nat
  | 0 => 0
  | k + 1 => colsM R m k + cntF (fun c => R c k) 0 m
theorem colsM_zero (R : Nat → Nat → Bool) : ∀ k, colsM R 0 k = 0 := by
  intro k
  induction k with
  | zero => rfl
  | succ k ih => simp only [colsM, cntF]; omega
theorem colsM_succ (R : Nat → Nat → Bool) (m : Nat) : ∀ k, colsM R (m + 1) k = colsM R m k + cntF (R m) 0 k := by
  intro k
  induction k with
  | zero => rfl
  | succ k ih =>
    simp only [colsM, cntF, Nat.zero_add]
    rw [ih]
    have : bz (fun c => R c k) m = bz (R m) k := rfl
    omega
theorem cols_pairs (n : Nat) (R : Nat → Nat → Bool) : colsN n R n = pairsN n R n := by
  have h1 : ∀ k, colsN n R k = colsM R n k := by
    intro k
    induction k with
    | zero => rfl
    | succ k ih => simp only [colsN, colsM]; rw [ih, elems_cntF]
  have h2 : ∀ m, pairsN n R m = colsM R m n := by
    intro m
    induction m with
    | zero => rw [colsM_zero]; rfl
    | succ m ih => simp only [pairsN]; rw [ih, colsM_succ, elems_cntF]
  rw [h1, h2]
theorem colsN_le (n : Nat) (R : Nat → Nat → Bool) : ∀ k, colsN n R k ≤ k * n := by
  intro k
  induction k with
  | zero => simp [colsN]
  | succ k ih =>
    have : (elems (fun c => R c k) n).length ≤ n := by rw [elems_cntF]; exact cntF_le _ 0 n
    simp only [colsN, Nat.add_mul, Nat.one_mul]
    omega
theorem pairsN_le (n : Nat) (R : Nat → Nat → Bool) : ∀ k, pairsN n R k ≤ k * n := by
  intro k
  induction k with
  | zero => simp [pairsN]
  | succ k ih =>
    have : (elems (R k) n).length ≤ n := by rw [elems_cntF]; exact cntF_le _ 0 n
    simp only [pairsN, Nat.add_mul, Nat.one_mul]
    omega
theorem isR_of {n : Nat} {L : Nat → Nat → Bool} {Q : Nat → Bool} (hz : ∀ k x, L k x = true → k < n ∧ x < n) (hq : ∀ a b, a < n → b < n → (Q (a * n + b) = true ↔ Rch L a b)) : IsR L (fun a b => decide (a < n ∧ b < n) && Q (a * n + b)) := fun c x => by
  show (decide (c < n ∧ x < n) && Q (c * n + x)) = true ↔ _
  rw [Bool.and_eq_true, decide_eq_true_eq]
  exact ⟨fun h => (hq c x h.1.1 h.1.2).1 h.2, fun h => by have hl := Rch.lt hz h; exact ⟨hl, (hq c x hl.1 hl.2).2 h⟩⟩
theorem rd_list {l : List Int} {i : Nat} {c : Int} (h : l[i]? = some c) : rdOf (0 : Int) l (i : Int) = c := by
  simp [rdOf, List.getD_eq_getElem?_getD, h]
theorem int_cell {W : World} {base : Nat} {ok : Nat → Prop} {A : Option Addr} {c i : Nat} {l : List Int} {y : Int} (h : I64.R 3 W base ok (.slice A l.length c) l) (hy : l[i]? = some y) : ∃ g, A = some ⟨g, 0, none⟩ ∧ W.cell? ⟨g, i, none⟩ = some (.int .i64 y) := by
  have hi : i < l.length := (List.getElem?_eq_some_iff.1 hy).1
  obtain ⟨g, cap, hv, _⟩ := Kd.R_form h (by omega)
  obtain ⟨rfl, _, _⟩ := Value.slice.inj hv
  have := Kd.R_cell (0 : Int) h (i : Int) (by omega) (by omega)
  rw [rd_list hy] at this
  exact ⟨g, rfl, by simpa using this.1⟩
set_option maxHeartbeats 16000000 in
theorem tells_calls (w W W0 : World) (q gb cb gc cc n : Nat) (x : Option Addr) (S : Nat → Prop) (L : Nat → Nat → Bool) (P Q : Nat → Bool) (h : PlR w W q gb cb n x S L P) (hb : BRel W0 (n * n) gc cc Q W) (hq : ∀ a b, a < n → b < n → (Q (a * n + b) = true ↔ Rch L a b)) (hgl : GL w) :
    Calls Tryd.prog 21 #[.pointer (some ⟨q, 0, none⟩), .pointer x, .slice (some ⟨gc, 0, none⟩) (n * n) cc] W fun e w' => e = .returned (.bool true) ∧ Below W.heap.size W w' := by
  have hR := isR_of (h.px.hz h.n1) hq
  have hRQ : ∀ a b, a < n → b < n → Q (a * n + b) = (fun a b => decide (a < n ∧ b < n) && Q (a * n + b)) a b := fun a b ha hb => by
    show _ = (decide (a < n ∧ b < n) && Q (a * n + b))
    rw [decide_eq_true ⟨ha, hb⟩, Bool.true_and]
  generalize (fun a b => decide (a < n ∧ b < n) && Q (a * n + b)) = R at hR hRQ
  have H := Aside0.mk h
  have HB := Aside0.mk hb
  have HR := Aside0.mk hR
  have HRQ := Aside0.mk hRQ
  have HN1 := Aside0.mk h.n1
  have HN24 := Aside0.mk h.n24
  have HG := Aside0.mk (hgl.below h.row.low)
  obtain ⟨NN, hNN⟩ : ∃ NN, NN = n * n := ⟨_, rfl⟩
  have HNN := Aside0.mk hNN
  have HPL : Aside0 (∀ k, k ≤ n → pairsN n R k ≤ 576 ∧ colsN n R k ≤ 576) := ⟨fun k hk => by
    have h1 := pairsN_le n R k
    have h2 := colsN_le n R k
    have h3 : k * n ≤ 24 * 24 := Nat.mul_le_mul (Nat.le_trans hk h.n24) h.n24
    omega⟩
  have HL : Aside0 (∀ W2 : World, W2.cell? ⟨q, 0, none⟩ = some (.int .i64 (n : Int)) → ∀ a b : Nat, a < n → b < n → Calls Tryd.prog 23 #[.pointer (some ⟨q, 0, none⟩), .int .i64 (a : Int), .int .i64 (b : Int)] W2 fun e w' => e = .returned (.int .i64 ((a * n + b : Nat) : Int)) ∧ w' = W2) := ⟨fun W2 hW a b ha hb => link_calls W2 q n a b hW h.n24 ha hb⟩
  rw [← hNN]
  clear h hb hq hR hRQ hgl hNN
  go_enter Tryd.func21, Tryd.ntmps21
  go_wp2
  go_loopg [7, 8, 9] (n + 1) (fun kq v7 v8 v9 w' => ∃ a cnt bel : Nat, v7 = .int .i64 (cnt : Int) ∧ v8 = .int .i64 (bel : Int) ∧ v9 = .int .i64 (a : Int) ∧ Aside0 (cnt = pairsN n R a) ∧ Aside0 (bel = colsN n R a) ∧ Aside0 (kq + a = n + 1) ∧ Aside0 (a ≤ n) ∧ Aside0 (Below W.heap.size W w'))
  case atStart => exact ⟨0, 0, 0, rfl, rfl, rfl, ⟨rfl⟩, ⟨rfl⟩, ⟨rfl⟩, ⟨Nat.zero_le _⟩, ⟨Below.refl _ _⟩⟩
  case round =>
    obtain ⟨a, cnt, bel, rfl, rfl, rfl, HC, HD, HK, HJ, HW⟩ := hrel
    obtain ⟨l0, _⟩ := (H.out.below HW.out).cells
    cases gk with
    | zero => exact absurd HK.out (by have := HJ.out; omega)
    | succ k1 =>
      by_cases ha : a < n
      · have ha0 : (0 : Int) ≤ (a : Int) := by omega
        have han : (a : Int) < (n : Int) := by omega
        have HA := Aside0.mk ha
        have HW3 : Aside0 (wrap64 ((a : Int) + 1) = ((a + 1 : Nat) : Int)) := ⟨wrap_up a n (by omega) (by have := HN24.out; omega)⟩
        have HAB : Aside0 (aboveS n R (a : Int) = elems (R a) n) := ⟨by unfold aboveS; rw [if_pos (show okG n (a : Int) = true from decide_eq_true (by omega)), Int.toNat_natCast]⟩
        have HBE : Aside0 (belowS n R (a : Int) = elems (fun c => R c a) n) := ⟨by unfold belowS; rw [if_pos (show okG n (a : Int) = true from decide_eq_true (by omega)), Int.toNat_natCast]⟩
        obtain ⟨la, hla⟩ : ∃ la, la = elems (R a) n := ⟨_, rfl⟩
        obtain ⟨ld, hld⟩ : ∃ ld, ld = elems (fun c => R c a) n := ⟨_, rfl⟩
        rw [← hla] at HAB
        rw [← hld] at HBE
        have HLA := Aside0.mk hla
        have HLD := Aside0.mk hld
        clear ha hla hld
        go_wp2_with (go_at_call 14; (refine (pabove_calls S _ (.pointer x) n L R (a : Int) (H.out.below HW.out).px HR.out (HG.out.below HW.out)).mono ?_; rintro e8 w8 ⟨u8, rfl, r8, b8⟩; (rw [HAB.out] at r8); (obtain ⟨A8, c8, rfl⟩ := Kd.R_slice r8); have R8 := Aside0.mk r8; have B8 := Aside0.mk (below_step HW.out b8); clear r8 b8))
        clear l0
        go_loopg [7, 11, 12] (n + 1) (fun kq v7 v11 v12 w' => ∃ b c2 kk : Nat, v7 = .int .i64 (c2 : Int) ∧ v11 = .int .i64 (kk : Int) ∧ v12 = .int .i64 (b : Int) ∧ Aside0 (c2 = cnt + kk) ∧ Aside0 (kk = (elems (R a) b).length) ∧ Aside0 (kq + b = n + 1) ∧ Aside0 (b ≤ n) ∧ Aside0 (Below w8.heap.size w8 w'))
        case atStart => exact ⟨0, cnt, 0, rfl, rfl, rfl, ⟨rfl⟩, ⟨rfl⟩, ⟨rfl⟩, ⟨Nat.zero_le _⟩, ⟨Below.refl _ _⟩⟩
        case round =>
          obtain ⟨b, c2, kk, rfl, rfl, rfl, HC2, HKK, HKB, HJB, HW2⟩ := hrel
          have HWW := Aside0.mk (below_step B8.out HW2.out)
          obtain ⟨l0, _⟩ := (H.out.below HWW.out).cells
          have hel : (elems (R a) b).length ≤ b := by rw [elems_cntF]; exact cntF_le _ 0 b
          have HEL := Aside0.mk hel
          clear hel
          cases gk with
          | zero => exact absurd HKB.out (by have := HJB.out; omega)
          | succ k2 =>
            by_cases hb : b < n
            · have hb0 : (0 : Int) ≤ (b : Int) := by omega
              have hbn : (b : Int) < (n : Int) := by omega
              have HBN := Aside0.mk hb
              have HW4 : Aside0 (wrap64 ((b : Int) + 1) = ((b + 1 : Nat) : Int)) := ⟨wrap_up b n (by omega) (by have := HN24.out; omega)⟩
              obtain ⟨x3, hx3⟩ : ∃ x3, x3 = a * n + b := ⟨_, rfl⟩
              have y3 : x3 < NN := by rw [hx3, HNN.out]; exact idx_lt HA.out hb
              have i3 : (0 : Int) ≤ (x3 : Int) := by omega
              have j3 : (x3 : Int) < (NN : Int) := by omega
              have hbr := HB.out.below HWW.out
              rw [← HNN.out] at hbr
              obtain ⟨c3, f3⟩ := hbr.cell y3
              have hpr : Q x3 = R a b := by rw [hx3]; exact HRQ.out a b HA.out hb
              rw [hpr] at c3
              obtain ⟨p, hp⟩ : ∃ p, p = R a b := ⟨_, rfl⟩
              rw [← hp] at c3
              have HP := Aside0.mk hp
              have HIN : Aside0 (inS n R (a : Int) (b : Int) = p) := ⟨by unfold inS; rw [show okG n (a : Int) = true from decide_eq_true (by omega), show okG n (b : Int) = true from decide_eq_true (by omega), Int.toNat_natCast, Int.toNat_natCast, hp]; rfl⟩
              have HL3 : Aside0 (∀ W2 : World, W2.cell? ⟨q, 0, none⟩ = some (.int .i64 (n : Int)) → Calls Tryd.prog 23 #[.pointer (some ⟨q, 0, none⟩), .int .i64 (a : Int), .int .i64 (b : Int)] W2 fun e w' => e = .returned (.int .i64 (x3 : Int)) ∧ w' = W2) := ⟨fun W2 hW => by rw [hx3]; exact HL.out W2 hW a b HA.out hb⟩
              clear hx3 y3 hpr hp hbr hb
              cases p with
              | false =>
                go_wp2_with (first
                  | (go_at_call 23; ((with_reducible refine (HL3.out _ (by first | exact l0 | simpa using l0)).mono ?_); rintro e7 w7 ⟨rfl, hw⟩; subst hw))
                  | (go_at_call 12; (refine (pin_calls S _ (.pointer x) n L R (a : Int) (b : Int) (H.out.below HWW.out).px HR.out).mono ?_; rintro e9 w9 ⟨rfl, b9⟩; (rw [HIN.out]); have B9 := Aside0.mk (below_step HW2.out b9); clear b9)))
                go_roundg k2
                case measure => omega
                case rel => exact ⟨b + 1, c2, kk, rfl, rfl, by first | rfl | (rw [← HW4.out]), HC2, ⟨by rw [elems_succ_f HP.out.symm]; exact HKK.out⟩, ⟨by have := HKB.out; omega⟩, ⟨by omega⟩, B9⟩
              | true =>
                obtain ⟨g1, g2⟩ := elems_idx HP.out.symm n HBN.out
                rw [← HKK.out, ← HLA.out] at g1 g2
                obtain ⟨gA, hA, ca⟩ := int_cell R8.out g1
                subst hA
                have hk0 : (0 : Int) ≤ (kk : Int) := by omega
                have hkl : (kk : Int) < (la.length : Int) := by omega
                have hkd : decide ((kk : Int) ≥ (la.length : Int)) = false := decide_eq_false (by omega)
                have HWC : Aside0 (wrap64 ((c2 : Int) + 1) = ((c2 + 1 : Nat) : Int)) := ⟨by
                  have h1 := (HPL.out a (by have := HA.out; omega)).1
                  have h2 := HC2.out
                  have h3 := HC.out
                  have h4 := HKK.out
                  have h5 := HEL.out
                  have h6 := HN24.out
                  have h7 := HJB.out
                  unfold wrap64; omega⟩
                have HWK : Aside0 (wrap64 ((kk : Int) + 1) = ((kk + 1 : Nat) : Int)) := ⟨by
                  have h4 := HKK.out
                  have h5 := HEL.out
                  have h6 := HN24.out
                  have h7 := HJB.out
                  unfold wrap64; omega⟩
                have HCA : Aside0 (w8.cell? ⟨gA, kk, none⟩ = some (.int .i64 (b : Int))) := ⟨ca⟩
                clear g1 g2 ca
                go_wp2_with (first
                  | (go_at_call 23; ((with_reducible refine (HL3.out _ (by first | exact l0 | simpa using l0)).mono ?_); rintro e7 w7 ⟨rfl, hw⟩; subst hw))
                  | (go_at_call 12; (refine (pin_calls S _ (.pointer x) n L R (a : Int) (b : Int) (H.out.below HWW.out).px HR.out).mono ?_; rintro e9 w9 ⟨rfl, b9⟩; (rw [HIN.out]); have B9 := Aside0.mk (below_step HW2.out b9); clear b9; have c9 := pw_cell_below B9.out HCA.out)))
                go_roundg k2
                case measure => omega
                case rel => exact ⟨b + 1, c2 + 1, kk + 1, by first | rfl | (rw [← HWC.out]), by first | rfl | (rw [← HWK.out]), by first | rfl | (rw [← HW4.out]), ⟨by have := HC2.out; omega⟩, ⟨by rw [elems_succ_t HP.out.symm, List.length_append, ← HKK.out]; rfl⟩, ⟨by have := HKB.out; omega⟩, ⟨by omega⟩, B9⟩
            · have hbn : b = n := by have := HJB.out; omega
              subst hbn
              have hd : decide ((b : Int) < (b : Int)) = false := decide_eq_false (by omega)
              have hkk : kk = la.length := by rw [HKK.out, HLA.out]
              subst hkk
              have HWB : Aside0 (wrap64 ((bel : Int) + (ld.length : Int)) = ((bel + ld.length : Nat) : Int)) := ⟨by
                have h1 := (HPL.out a (by have := HA.out; omega)).2
                have h2 := HD.out
                have h3 : ld.length ≤ b := by rw [HLD.out, elems_cntF]; exact cntF_le _ 0 b
                have h4 := HN24.out
                unfold wrap64; omega⟩
              go_wp2_with (go_at_call 15; (refine (pbelow_calls S _ (.pointer x) b L R (a : Int) (H.out.below HWW.out).px HR.out).mono ?_; rintro e9 w9 ⟨u9, rfl, r9, b9⟩; (rw [HBE.out] at r9); (obtain ⟨A9, c9, rfl⟩ := Kd.R_slice r9); have R9 := Aside0.mk r9; have B9 := Aside0.mk (below_step HWW.out b9); clear r9 b9))
              clear l0
              go_loopg [15] (ld.length + 1) (fun kq v15 w' => ∃ i : Nat, v15 = .int .i64 (i : Int) ∧ Aside0 (kq + i = ld.length + 1) ∧ Aside0 (i ≤ ld.length) ∧ Aside0 (Below w9.heap.size w9 w'))
              case atStart => exact ⟨0, rfl, ⟨rfl⟩, ⟨Nat.zero_le _⟩, ⟨Below.refl _ _⟩⟩
              case round =>
                obtain ⟨i, rfl, HKI, HJI, HW3b⟩ := hrel
                have HWW3 := Aside0.mk (below_step B9.out HW3b.out)
                obtain ⟨l0, _⟩ := (H.out.below HWW3.out).cells
                have hld : ld.length ≤ b := by rw [HLD.out, elems_cntF]; exact cntF_le _ 0 b
                have HLL := Aside0.mk hld
                clear hld
                cases gk with
                | zero => exact absurd HKI.out (by have := HJI.out; omega)
                | succ k3 =>
                  by_cases hi : i < ld.length
                  · have hi0 : (0 : Int) ≤ (i : Int) := by omega
                    have hil : (i : Int) < (ld.length : Int) := by omega
                    have HW5 : Aside0 (wrap64 ((i : Int) + 1) = ((i + 1 : Nat) : Int)) := ⟨wrap_up i ld.length (by omega) (by have h1 := HLL.out; have h2 := HN24.out; omega)⟩
                    obtain ⟨c, e1, e2, e3, e4⟩ := elems_get (fun c => R c a) b i (by rw [← HLD.out]; exact hi)
                    rw [← HLD.out] at e1
                    obtain ⟨gD, hD, cD⟩ := int_cell (Kd.R_below R9.out HW3b.out) e1
                    subst hD
                    obtain ⟨x4, hx4⟩ : ∃ x4, x4 = c * b + a := ⟨_, rfl⟩
                    have y4 : x4 < NN := by rw [hx4, HNN.out]; exact idx_lt e2 HA.out
                    have i4 : (0 : Int) ≤ (x4 : Int) := by omega
                    have j4 : (x4 : Int) < (NN : Int) := by omega
                    have hbr := HB.out.below HWW3.out
                    rw [← HNN.out] at hbr
                    obtain ⟨c4, f4⟩ := hbr.cell y4
                    have hpr : Q x4 = true := by rw [hx4, HRQ.out c a e2 HA.out]; exact e3
                    rw [hpr] at c4
                    have HL4 : Aside0 (∀ W2 : World, W2.cell? ⟨q, 0, none⟩ = some (.int .i64 (b : Int)) → Calls Tryd.prog 23 #[.pointer (some ⟨q, 0, none⟩), .int .i64 (c : Int), .int .i64 (a : Int)] W2 fun e w' => e = .returned (.int .i64 (x4 : Int)) ∧ w' = W2) := ⟨fun W2 hW => by rw [hx4]; exact HL.out W2 hW c a e2 HA.out⟩
                    have dc0 : decide ((c : Int) < 0) = false := decide_eq_false (by omega)
                    have dc1 : decide ((c : Int) ≥ (b : Int)) = false := decide_eq_false (by omega)
                    have dc2 : decide (b ≤ c) = false := decide_eq_false (by omega)
                    have dc3 : decide ((b : Int) ≤ (c : Int)) = false := decide_eq_false (by omega)
                    have dc4 : ¬ b ≤ c := by omega
                    have HE2 := Aside0.mk e2
                    have HE4 := Aside0.mk e4
                    clear hx4 y4 hpr hbr e1 e2 e3 e4
                    by_cases hz : i = 0
                    · have di : decide ((i : Int) > 0) = false := decide_eq_false (by omega)
                      have di2 : decide (0 < i) = false := decide_eq_false (by omega)
                      clear hz
                      go_wp2
                      go_quiet ((go_at_call 23; exact ((HL4.out _ (by first | exact l0 | simpa using l0)).mono fun e w' hh => ⟨hh.1, _, hh.2⟩)))
                      go_wp2
                      go_roundg k3
                      case measure => omega
                      case rel => exact ⟨i + 1, by first | rfl | (rw [← HW5.out]), ⟨by have := HKI.out; omega⟩, ⟨by omega⟩, ⟨below_step HW3b.out (dnb _ _)⟩⟩
                    · obtain ⟨i', hi'⟩ : ∃ i', i = i' + 1 := ⟨i - 1, by omega⟩
                      subst hi'
                      obtain ⟨c', e1', e2', e3', e4'⟩ := elems_get (fun c => R c a) b i' (by rw [← HLD.out]; omega)
                      rw [← HLD.out] at e1'
                      obtain ⟨gD', hD', cD'⟩ := int_cell (Kd.R_below R9.out HW3b.out) e1'
                      obtain rfl : gD' = gD := by injection hD' with hD'; injection hD' with hD'; exact hD'.symm
                      have dcc : decide ((c' : Int) ≥ (c : Int)) = false := decide_eq_false (fun hge => by
                        have hm := elems_mono (fun c => R c a) c (c' - c)
                        rw [show c + (c' - c) = c' by omega, e4', HE4.out] at hm
                        omega)
                      have dcm : decide (c ≤ c') = false := decide_eq_false (fun hge => of_decide_eq_false dcc (by omega))
                      have dcn : decide (c' ≥ c) = false := decide_eq_false (fun hge => of_decide_eq_false dcc (by omega))
                      have hm0 : (0 : Int) ≤ (i' : Int) := by omega
                      have hm1 : (i' : Int) < (ld.length : Int) := by omega
                      have hw1 : wrap64 (i' : Int) = (i' : Int) := by
                        have h1 := HLL.out
                        have h2 := HN24.out
                        unfold wrap64; omega
                      have hw2 : IntKind.i64.wrap (i' : Int) = (i' : Int) := by have := hw1; unfold wrap64 at this; rw [IntKind.wrap_i64]; exact this
                      have hw3 : wrap64 (((i' + 1 : Nat) : Int) - 1) = (i' : Int) := by rw [show ((i' + 1 : Nat) : Int) - 1 = (i' : Int) by omega]; exact hw1
                      have hw4 : wrap64 ((i' : Int) + 1 - 1) = (i' : Int) := by rw [show (i' : Int) + 1 - 1 = (i' : Int) by omega]; exact hw1
                      clear hz hD' e1' e2' e3' e4'
                      go_wp2
                      go_quiet ((go_at_call 23; exact ((HL4.out _ (by first | exact l0 | simpa using l0)).mono fun e w' hh => ⟨hh.1, _, hh.2⟩)))
                      go_wp2
                      go_roundg k3
                      case measure => omega
                      case rel => exact ⟨i' + 1 + 1, by first | rfl | (rw [← HW5.out]; rfl) | (have h5 := HW5.out; simp only [Int.natCast_add, Int.cast_ofNat_Int] at h5 ⊢; rw [← h5]) | (rw [← HW5.out]; congr 2), ⟨by have := HKI.out; omega⟩, ⟨by omega⟩, ⟨below_step HW3b.out (dnb _ _)⟩⟩
                  · have hil : i = ld.length := by have := HJI.out; omega
                    subst hil
                    have hd2 : decide ((ld.length : Int) < (ld.length : Int)) = false := decide_eq_false (by omega)
                    go_wp2
                    go_roundg k1
                    case measure => omega
                    case rel => exact ⟨a + 1, c2, bel + ld.length, rfl, by first | rfl | (rw [← HWB.out]), by first | rfl | (rw [← HW3.out]), ⟨by simp only [pairsN]; rw [HC2.out, HC.out, ← HLA.out]⟩, ⟨by simp only [colsN]; rw [HD.out, ← HLD.out]⟩, ⟨by have := HK.out; omega⟩, ⟨by have := HA.out; omega⟩, HWW3⟩
      · have han : a = n := by have := HJ.out; omega
        subst han
        have hd : decide ((a : Int) < (a : Int)) = false := decide_eq_false (by omega)
        have hbc : bel = cnt := by rw [HC.out, HD.out, cols_pairs]
        subst hbc
        have HPN : Aside0 (((pairsN a R a : Nat) : Int) = (bel : Int)) := ⟨by rw [HC.out]⟩
        go_wp2_with (go_at_call 13; (refine (ppairs_calls S _ (.pointer x) a L R (H.out.below HW.out).px HR.out).mono ?_; rintro e9 w9 ⟨rfl, b9⟩; (rw [HPN.out]); have B9 := Aside0.mk (below_step HW.out b9); clear b9))
        go_ret
        exact ⟨by first | rfl | simp, B9.out⟩
end Go.Proofs.YtmldefednihohaaDoor.Grp
