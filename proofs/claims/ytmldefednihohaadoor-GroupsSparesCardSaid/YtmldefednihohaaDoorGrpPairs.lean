/- Pairs on an index; calls that are refused (plain walks). -/
import Derived.Test.YtmldefednihohaaDoorGrpAdd
import Derived.Laws.Bits128
namespace Go.Proofs.YtmldefednihohaaDoor.Grp
open Go.RowKit Go.Proofs.YtmldefednihohaaDoorW.PrintWords Go.Proofs.YtmldefednihohaaDoorW.PrintLast Go.Proofs.YtmldefednihohaaDoorW.PrintMore
set_option linter.unusedVariables false
set_option linter.unusedSimpArgs false
set_option maxRecDepth 100000
theorem oc_ex (x : Int) : ∃ v, GrpRow.bits_OnesCount64.f x = some v ∧ 0 ≤ v ∧ v < 128 := by
  unfold GrpRow.bits_OnesCount64.f
  rw [i64_and127]
  exact ⟨_, rfl, Int.emod_nonneg _ (by omega), Int.emod_lt_of_pos _ (by omega)⟩
/-- How many ones a word has, as the program counts. -/
def oc (x : Nat) : Int := (GrpRow.bits_OnesCount64.f (x : Int)).getD 0
theorem oc_f (x : Nat) : GrpRow.bits_OnesCount64.f (x : Int) = some (oc x) ∧ 0 ≤ oc x ∧ oc x < 128 := by
  obtain ⟨v, h, h0, h1⟩ := oc_ex (x : Int)
  have e : oc x = v := by unfold oc; rw [h]; rfl
  rw [e]
  exact ⟨h, h0, h1⟩
def rowSum (P : Nat → Bool) : Nat → Int
  | 0 => 0
  | m + 1 => rowSum P m + oc (wd P m)
theorem rowSum_range (P : Nat → Bool) : ∀ m, 0 ≤ rowSum P m ∧ rowSum P m ≤ 128 * m := by
  intro m
  induction m with
  | zero => simp [rowSum]
  | succ m ih =>
    obtain ⟨_, h0, h1⟩ := oc_f (wd P m)
    simp only [rowSum]
    omega
theorem size_from (P : Nat → Bool) (m : Nat) (hm : m ≤ 1000) : ∀ d i k, i + d = m → d < k → GrpRow.groups_row_size.l0 k (rowSum P i) (rowL P m) (m : Int) (i : Int) = some (rowSum P m) := by
  intro d
  induction d with
  | zero =>
    intro i k h hk
    obtain ⟨k, rfl⟩ : ∃ j, k = j + 1 := ⟨k - 1, by omega⟩
    have : i = m := by omega
    subst this
    unfold GrpRow.groups_row_size.l0
    rw [if_neg (by omega)]
  | succ d ih =>
    intro i k h hk
    obtain ⟨k, rfl⟩ : ∃ j, k = j + 1 := ⟨k - 1, by omega⟩
    unfold GrpRow.groups_row_size.l0
    have hr : rd (rowL P m) (i : Int) = ((wd P i : Nat) : Int) := by
      unfold rd
      rw [Int.toNat_natCast]
      exact rowL_get P (by omega)
    obtain ⟨hf, h0, h1⟩ := oc_f (wd P i)
    have hs := rowSum_range P i
    rw [if_pos (by omega), if_pos (by omega), rowL_len, if_pos (by omega), hr, hf, Option.bind_some]
    have e1 : wrap64 (rowSum P i + oc (wd P i)) = rowSum P (i + 1) := by simp only [rowSum]; unfold wrap64; omega
    have e2 : wrap64 ((i : Int) + 1) = ((i + 1 : Nat) : Int) := wrap_up i 1000 (by omega) (by omega)
    rw [e1, e2]
    exact ih (i + 1) k (by omega) (by omega)
theorem size_calls (w : World) (A : Option Addr) (c m : Nat) (P : Nat → Bool) (h : RowAt w (.slice A m c) m P) (hm : m ≤ 1000) :
    Calls Tryd.prog 35 #[.slice A m c] w fun e w' => e = .returned (.int .i64 (rowSum P m)) ∧ Drawn0 w w' := by
  obtain ⟨_, h2, h3⟩ := h.reads
  have := GrpRow.groups_row_size.calls (m + 1) A c (rowL P m) (rowSum P m) w h3 (by rw [rowL_len]; exact h2) (by
    unfold GrpRow.groups_row_size.f
    rw [rowL_len]
    exact size_from P m hm m 0 (m + 1) (by omega) (by omega))
  rwa [rowL_len] at this
/-- How many pairs, counted up to row k. -/
def pairsTo (n : Nat) (X : Nat → Nat → Bool) : Nat → Int
  | 0 => 0
  | k + 1 => pairsTo n X k + rowSum (X (n + k)) (wide n)
theorem pairsTo_range (n : Nat) (X : Nat → Nat → Bool) (hn : n ≤ 4096) : ∀ k, 0 ≤ pairsTo n X k ∧ pairsTo n X k ≤ 8192 * k := by
  intro k
  induction k with
  | zero => simp [pairsTo]
  | succ k ih =>
    have h := rowSum_range (X (n + k)) (wide n)
    have hw : wide n ≤ 64 := by unfold wide; omega
    simp only [pairsTo]
    omega
set_option maxHeartbeats 4000000 in
theorem pairs_calls (S : Nat → Prop) (w : World) (g n : Nat) (X : Nat → Nat → Bool) (h : Ix S w g n X) :
    Calls Tryd.prog 13 #[.pointer (some ⟨g, 0, none⟩)] w fun e w' => e = .returned (.int .i64 (pairsTo n X n)) ∧ Drawn0 w w' := by
  obtain ⟨gl, gi, cl, ci, V, hv, _⟩ := h
  have c1 := hv.c1
  have HV := Aside0.mk hv
  have HN4 := Aside0.mk hv.n4
  have HW := Aside0.mk hv.wide1
  clear hv
  go_enter Tryd.func13, Tryd.ntmps13
  go_wp2
  go_loopg [3, 13] (n + 1) (fun kq v3 v13 w' => ∃ (k m : Nat) (s : Int), v3 = .int .i64 s ∧ v13 = .int .i64 (k : Int) ∧ Aside0 (s = pairsTo n X k) ∧ Aside0 (kq + k = n + 1) ∧ Aside0 (k ≤ n) ∧ w' = w.drewN m)
  case atStart => exact ⟨0, 0, 0, rfl, rfl, ⟨rfl⟩, ⟨rfl⟩, ⟨Nat.zero_le _⟩, rfl⟩
  case round =>
    obtain ⟨k, m, s, rfl, rfl, HSM, HK, HJ, rfl⟩ := hrel
    cases gk with
    | zero => exact absurd HK.out (by have := HJ.out; omega)
    | succ k1 =>
      by_cases hlt : k < n
      · have hk0 : (0 : Int) ≤ (k : Int) := by omega
        have hkn : (k : Int) < (n : Int) := by omega
        obtain ⟨r, rc, eR⟩ := HV.out.form (k := n + k) (by omega)
        have hi := HV.out.rowi hlt eR
        have HSZ := Aside0.mk (size_calls (w.drewN m) (some ⟨r, 0, none⟩) rc (wide n) _ ((HV.out.at_ (by omega) eR).below (dnb _ _)) (by have := HW.out; omega))
        obtain ⟨z, hz⟩ : ∃ z, z = rowSum (X (n + k)) (wide n) := ⟨_, rfl⟩
        rw [← hz] at HSZ
        have hs : wrap64 (s + z) = s + z := by
          have h1 := pairsTo_range n X HN4.out k
          have h2 := rowSum_range (X (n + k)) (wide n)
          have h3 := HSM.out
          have h4 := HN4.out
          have h5 := HW.out
          unfold wrap64
          omega
        have HNX : Aside0 (s + z = pairsTo n X (k + 1)) := ⟨by rw [HSM.out, hz]; rfl⟩
        have HW3 : Aside0 (wrap64 ((k : Int) + 1) = ((k + 1 : Nat) : Int)) := ⟨wrap_up k n (by omega) (by have := HN4.out; omega)⟩
        have HWS := Aside0.mk hs
        clear hz eR
        go_wp2_with (go_at_call 35; ((with_reducible refine HSZ.out.mono ?_); rintro e2 w2 ⟨rfl, ⟨m2, rfl⟩⟩))
        go_roundg k1
        case measure => omega
        case rel => exact ⟨k + 1, _, s + z, by first | rfl | (rw [HWS.out]), by first | rfl | (rw [← HW3.out]) | (congr 1; omega), HNX, ⟨by have := HK.out; omega⟩, ⟨by omega⟩, by first | rfl | exact World.drewN_drewN ..⟩
      · have hjn : k = n := by have := HJ.out; omega
        subst hjn
        have hd : decide ((k : Int) < (k : Int)) = false := decide_eq_false (by omega)
        go_wp2
        go_ret
        exact ⟨by have h := HSM.out; subst h; rfl, ⟨⟨_, rfl⟩⟩⟩
theorem pairs_nil (w : World) : Calls Tryd.prog 13 #[.pointer none] w fun e w' => e = .returned (.int .i64 0) ∧ w' = w := by
  go_enter Tryd.func13, Tryd.ntmps13
  go_wp2
  go_ret
  exact ⟨rfl, rfl⟩
theorem above_nil (w : World) (a : Int) : Calls Tryd.prog 14 #[.pointer none, .int .i64 a] w fun e w' => e = .returned (.slice none 0 0) ∧ w' = w := by
  go_enter Tryd.func14, Tryd.ntmps14
  go_wp2_with (go_at_call 34; ((with_reducible refine (group_nil w a).mono ?_); rintro e1 w1 ⟨rfl, rfl⟩))
  go_ret
  exact ⟨rfl, rfl⟩
theorem below_nil (w : World) (a : Int) : Calls Tryd.prog 15 #[.pointer none, .int .i64 a] w fun e w' => e = .returned (.slice none 0 0) ∧ w' = w := by
  go_enter Tryd.func15, Tryd.ntmps15
  go_wp2_with (go_at_call 34; ((with_reducible refine (group_nil w a).mono ?_); rintro e1 w1 ⟨rfl, rfl⟩))
  go_ret
  exact ⟨rfl, rfl⟩
set_option maxHeartbeats 4000000 in
theorem cut_nil (w : World) (a b : Int) : Calls Tryd.prog 11 #[.pointer none, .int .i64 a, .int .i64 b] w fun e w' => e = .returned (.int .i64 1) ∧ w' = w := by
  go_enter Tryd.func11, Tryd.ntmps11
  go_wp2_with (go_at_call 29; ((with_reducible refine (asked_nil w a b).mono ?_); rintro e1 w1 ⟨rfl, rfl⟩))
  go_ret
  exact ⟨rfl, rfl⟩
set_option maxHeartbeats 4000000 in
theorem cut_bad (S : Nat → Prop) (w : World) (g n : Nat) (X : Nat → Nat → Bool) (a b : Int) (h : Ix S w g n X) (hab : (okG n a && okG n b) = false) :
    Calls Tryd.prog 11 #[.pointer (some ⟨g, 0, none⟩), .int .i64 a, .int .i64 b] w fun e w' => e = .returned (.int .i64 2) ∧ w' = w := by
  have H := Aside0.mk h
  have HAB := Aside0.mk hab
  clear h hab
  go_enter Tryd.func11, Tryd.ntmps11
  go_wp2_with (go_at_call 29; ((with_reducible refine (asked_calls S w g n X a b H.out).mono ?_); rintro e1 w1 ⟨rfl, rfl⟩; rw [HAB.out]))
  go_ret
  exact ⟨rfl, rfl⟩
set_option maxHeartbeats 4000000 in
theorem cut_absent (S : Nat → Prop) (w : World) (g n a b : Nat) (X : Nat → Nat → Bool) (h : Ix S w g n X) (ha : a < n) (hb : b < n) (hX : X a b = false) :
    Calls Tryd.prog 11 #[.pointer (some ⟨g, 0, none⟩), .int .i64 (a : Int), .int .i64 (b : Int)] w fun e w' => e = .returned (.int .i64 121) ∧ Drawn0 w w' := by
  have H := Aside0.mk h
  obtain ⟨gl, gi, cl, ci, V, hv, _⟩ := h
  obtain ⟨ra, ca, eA⟩ := hv.form (k := a) (by omega)
  have c0 := hv.c0
  have hl := hv.rowl ha eA
  have hw := hv.wide1
  have HA := Aside0.mk (has_calls w (some ⟨ra, 0, none⟩) ca (wide n) b (X a) (hv.at_ (by omega) eA) (by omega) (by omega))
  rw [hX] at HA
  have HAN := Aside0.mk ha
  have HBN := Aside0.mk hb
  have hk0 : (0 : Int) ≤ (a : Int) := by omega
  have hkn : (a : Int) < (n : Int) := by omega
  generalize wide n = m at hl HA
  clear hv hw eA hX ha hb
  go_enter Tryd.func11, Tryd.ntmps11
  go_wp2_with (first
    | (go_at_call 29; ((with_reducible refine (asked_ok S w g n a b X H.out HAN.out HBN.out).mono ?_); rintro e1 w1 ⟨rfl, rfl⟩))
    | (go_at_call 30; ((with_reducible refine HA.out.mono ?_); rintro e2 w2 ⟨rfl, ⟨m2, rfl⟩⟩)))
  go_ret
  exact ⟨rfl, ⟨⟨_, rfl⟩⟩⟩
end Go.Proofs.YtmldefednihohaaDoor.Grp
