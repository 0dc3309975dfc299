/- The reference's Pairs: only of groups that some link leads from (a plain walk). -/
import Derived.Test.YtmldefednihohaaDoorPxGrpRefAb
namespace Go.Proofs.YtmldefednihohaaDoor.Grp
open Go.RowKit Go.Proofs.YtmldefednihohaaDoorW.PrintWords Go.Proofs.YtmldefednihohaaDoorW.PrintLast Go.Proofs.YtmldefednihohaaDoorW.PrintMore
set_option linter.unusedVariables false
set_option linter.unusedSimpArgs false
set_option maxRecDepth 100000
/-- The pairs of the groups in P, up to k. -/
def sumP (n : Nat) (R : Nat → Nat → Bool) (P : Nat → Bool) : Nat → Nat
  | 0 => 0
  | k + 1 => sumP n R P k + (if P k then (elems (R k) n).length else 0)
theorem elems_le (P : Nat → Bool) (n : Nat) : (elems P n).length ≤ n := by rw [elems_cntF]; exact cntF_le P 0 n
theorem sumP_le (n : Nat) (R : Nat → Nat → Bool) (P : Nat → Bool) : ∀ k, sumP n R P k ≤ k * n := by
  intro k
  induction k with
  | zero => simp [sumP]
  | succ k ih =>
    have := elems_le (R k) n
    simp only [sumP, Nat.add_mul, Nat.one_mul]
    split <;> omega
theorem sumP_none (n : Nat) (R : Nat → Nat → Bool) : ∀ k, sumP n R (fun _ => false) k = 0 := by
  intro k
  induction k with
  | zero => rfl
  | succ k ih => simp [sumP, ih]
theorem sumP_up (n : Nat) (R : Nat → Nat → Bool) {P : Nat → Bool} {x : Nat} (hx : P x = false) : ∀ k, sumP n R (upB P x) k = sumP n R P k + (if x < k then (elems (R x) n).length else 0) := by
  intro k
  induction k with
  | zero => simp [sumP]
  | succ k ih =>
    simp only [sumP]
    rw [ih]
    by_cases e : k = x
    · subst e
      have : upB P k k = true := by simp [upB]
      rw [this, if_pos rfl, hx, if_neg (by omega), if_neg (by simp), if_pos (by omega)]
    · have : upB P x k = P k := by
        have e2 : (k == x) = false := by simp; exact e
        simp [upB, e2]
      rw [this]
      by_cases h : x < k
      · rw [if_pos h, if_pos (show x < k + 1 by omega)]; omega
      · rw [if_neg h, if_neg (show ¬ x < k + 1 by omega)]; omega
theorem sumP_all (n : Nat) (R : Nat → Nat → Bool) {P : Nat → Bool} (h : ∀ x, P x = false → ∀ y, R x y = false) : ∀ k, sumP n R P k = pairsN n R k := by
  intro k
  induction k with
  | zero => rfl
  | succ k ih =>
    simp only [sumP, pairsN]
    rw [ih]
    cases hP : P k with
    | true => rw [if_pos rfl]
    | false =>
      have : ∀ m, elems (R k) m = [] := by
        intro m
        induction m with
        | zero => rfl
        | succ m im => simp only [elems, im, h k hP m]; rfl
      rw [this]
      simp
set_option maxHeartbeats 8000000 in
theorem rpairs_calls (S : Nat → Prop) (w : World) (v : Value) (n : Nat) (L R : Nat → Nat → Bool) (h : RX S w v n L) (hr : IsR L R) :
    Calls Tryd.prog 41 #[v] w fun e w' => e = .returned (.int .i64 ((pairsN n R n : Nat) : Int)) ∧ Below w.heap.size w w' := by
  have HX := Aside0.mk h
  have HR := Aside0.mk hr
  rcases h with ⟨rfl, rfl⟩ | ⟨r, A, c, l, rfl, h, hs, s1, s2⟩
  · clear hr
    go_enter Tryd.func41, Tryd.ntmps41
    go_wp2
    go_ret
    exact ⟨rfl, Below.refl _ _⟩
  · have c0 := h.c0
    have H := Aside0.mk h
    have HS := Aside0.mk hs
    have HN1 := Aside0.mk h.n1
    have HN4 := Aside0.mk h.n4
    have HLL := Aside0.mk (lenL h)
    obtain ⟨N, hN⟩ : ∃ N, N = l.length := ⟨_, rfl⟩
    have HN := Aside0.mk hN
    have HLN : Aside0 (N ≤ 16777216) := ⟨by have := HLL.out; omega⟩
    clear h hs hr hN
    go_enter Tryd.func41, Tryd.ntmps41
    go_wp2_with ((with_reducible refine gate_dst (N := 13) rfl ?_); (refine Kd.R_make Kd.bool (w0 := w) w.heap.size 4 rfl (N := 13) rfl 46 _ _ rfl (n : Int) rfl rfl Tryd.underlying46 (.bool false) 1 infoBo rfl (by decide) (by omega) false (ok := fun _ => True) (okp := fun _ => True) rfl (fun _ hk => hk) trivial (by omega) ?hl ?hB (Nat.le_refl _) ?_); (case hl => have := HN4.out; simp only [Int.toNat_natCast]; omega); (case hB => exact Below.refl _ _); intro v1 w1 ho hb1 hg1 hat; (rw [Int.toNat_natCast, ← bl_none] at ho); (obtain ⟨gb, cb, hv⟩ := bool_form ho HN1.out); subst hv; have HB0 : Aside0 (BRel w n gb cb (fun _ => false) w1) := ⟨⟨⟨hg1.os, hg1.tape, hg1.output, hg1.size, fun k hk => hg1.block k hk (by simp)⟩, ho⟩⟩; clear ho hb1 hg1 hat c0)
    go_loopg [3, 5] (N + 1) (fun kq v3 v5 w' => ∃ (i : Nat) (P : Nat → Bool) (s : Int), v3 = .int .i64 s ∧ v5 = .int .i64 (i : Int) ∧ Aside0 (s = ((sumP n R P n : Nat) : Int)) ∧ Aside0 (kq + i = N + 1) ∧ Aside0 (i ≤ N) ∧ Aside0 (∀ j, j < i → ∀ p, l[j]? = some p → P p.1.toNat = true) ∧ Aside0 (BRel w n gb cb P w'))
    case atStart => exact ⟨0, fun _ => false, 0, rfl, rfl, ⟨by rw [sumP_none]; rfl⟩, ⟨rfl⟩, ⟨Nat.zero_le _⟩, ⟨fun j hj => absurd hj (by omega)⟩, HB0⟩
    case round =>
      clear HB0
      obtain ⟨i, P, s, rfl, rfl, HSM, HK, HJ, HP, HB⟩ := hrel
      have hv := H.out.below HB.out.low
      have c1 := hv.c1
      rw [← HN.out] at c1
      cases gk with
      | zero => exact absurd HK.out (by have := HJ.out; omega)
      | succ k1 =>
        by_cases hlt : i < N
        · have hc0 : (0 : Int) ≤ (i : Int) := by omega
          have hcn : (i : Int) < (N : Int) := by omega
          have HW3 : Aside0 (wrap64 ((i : Int) + 1) = ((i + 1 : Nat) : Int)) := ⟨wrap_up i N (by omega) (by have := HLN.out; omega)⟩
          have hil : i < l.length := by rw [← HN.out]; exact hlt
          obtain ⟨g, hA, hx, hy⟩ := hv.at_ (i := i) hil
          subst hA
          have hz := hv.hz l[i] (List.getElem_mem hil)
          obtain ⟨f, hf, hfn⟩ : ∃ f : Nat, (l[i]).1 = (f : Int) ∧ f < n := ⟨(l[i]).1.toNat, by omega, by omega⟩
          rw [hf] at hx
          have HKI : Aside0 (∀ p, l[i]? = some p → p.1 = (f : Int)) := ⟨fun p hp => by rw [List.getElem?_eq_getElem hil] at hp; rw [← Option.some.inj hp]; exact hf⟩
          have HFN := Aside0.mk hfn
          have hf0 : (0 : Int) ≤ (f : Int) := by omega
          have hfn : (f : Int) < (n : Int) := by omega
          clear hv hz hf hil hy
          obtain ⟨hcf, hff⟩ := HB.out.cell HFN.out
          cases hPf : P f with
          | true =>
            rw [hPf] at hcf
            have HPF := Aside0.mk hPf
            clear hPf
            go_wp2
            go_roundg k1
            case measure => omega
            case rel => exact ⟨i + 1, P, s, rfl, by first | rfl | (rw [← HW3.out]), HSM, ⟨by have := HK.out; omega⟩, ⟨by omega⟩, ⟨fun j hj p hp => by
              by_cases e : j = i
              · subst e
                rw [HKI.out p hp, Int.toNat_natCast]
                exact HPF.out
              · exact HP.out j (by omega) p hp⟩, HB⟩
          | false =>
            rw [hPf] at hcf
            have HPF := Aside0.mk hPf
            have HB2 := Aside0.mk (HB.out.put HFN.out)
            have HAB : Aside0 (aboveS n R (f : Int) = elems (R f) n) := ⟨by unfold aboveS; rw [if_pos (by unfold okG; exact decide_eq_true (by omega)), Int.toNat_natCast]⟩
            have HUP : Aside0 (sumP n R (upB P f) n = sumP n R P n + (elems (R f) n).length) := ⟨by rw [sumP_up n R hPf, if_pos HFN.out]⟩
            have hws : wrap64 (s + ((elems (R f) n).length : Int)) = ((sumP n R (upB P f) n : Nat) : Int) := by
              have h1 := sumP_le n R (upB P f) n
              have h4 := HN4.out
              have h5 : n * n ≤ 4096 * 4096 := Nat.mul_le_mul h4 h4
              have h6 := HUP.out
              have h7 := HSM.out
              unfold wrap64
              omega
            have HWS := Aside0.mk hws
            clear hPf hws
            go_wp2_with (go_at_call 24; ((with_reducible refine (rabove_calls S _ _ n L R (f : Int) (HX.out.below HB2.out.low) HR.out).mono ?_); rintro e4 w4 ⟨u4, rfl, h4, b4⟩; (obtain ⟨A4, c4, rfl⟩ := Kd.R_slice h4); (rw [HAB.out]); have HB4 := Aside0.mk (HB2.out.below b4); clear h4 b4))
            go_roundg k1
            case measure => omega
            case rel => exact ⟨i + 1, upB P f, _, rfl, by first | rfl | (rw [← HW3.out]), ⟨HWS.out⟩, ⟨by have := HK.out; omega⟩, ⟨by omega⟩, ⟨fun j hj p hp => by
              unfold upB
              by_cases e : j = i
              · subst e
                rw [HKI.out p hp, Int.toNat_natCast]
                simp
              · rw [HP.out j (by omega) p hp]; rfl⟩, HB4⟩
        · have hjn : i = N := by have := HJ.out; omega
          subst hjn
          have hd : decide ((i : Int) < (i : Int)) = false := decide_eq_false (by omega)
          go_wp2
          go_ret
          refine ⟨?_, HB.out.low⟩
          have e : sumP n R P n = pairsN n R n := sumP_all n R (fun x hx y => by
            cases hR : R x y with
            | false => rfl
            | true =>
              have : ∃ z, L x z = true := by
                have hh := (HR.out x y).1 hR
                clear hR
                induction hh with
                | one b hb => exact ⟨b, hb⟩
                | step d b _ _ ih => exact ih
              obtain ⟨z, hz⟩ := this
              obtain ⟨j, hj, e⟩ := List.getElem_of_mem ((HS.out x z).1 hz)
              have := HP.out j (by rw [HN.out]; exact hj) _ (List.getElem?_eq_getElem hj)
              rw [e, Int.toNat_natCast, hx] at this
              cases this) n
          have h := HSM.out
          rw [e] at h
          subst h
          rfl
end Go.Proofs.YtmldefednihohaaDoor.Grp
