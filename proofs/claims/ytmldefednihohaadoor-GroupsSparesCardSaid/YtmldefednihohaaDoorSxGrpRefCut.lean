/- The reference's Above, Below, Pairs, Add and Cut (plain walks). -/
import Derived.Test.YtmldefednihohaaDoorSxGrpRefs
namespace Go.Proofs.YtmldefednihohaaDoor.Grp
open Go.RowKit Go.Proofs.YtmldefednihohaaDoorW.PrintWords Go.Proofs.YtmldefednihohaaDoorW.PrintLast Go.Proofs.YtmldefednihohaaDoorW.PrintMore
set_option linter.unusedVariables false
set_option linter.unusedSimpArgs false
set_option maxRecDepth 100000
set_option maxHeartbeats 4000000 in
theorem rabove_calls (S : Nat → Prop) (w : World) (v : Value) (n : Nat) (L R : Nat → Nat → Bool) (a : Int) (h : RX S w v n L) (hr : IsR L R) :
    Calls Tryd.prog 24 #[v, .int .i64 a] w fun e w' => ∃ u, e = .returned u ∧ I64.R 3 w' w.heap.size (fun _ => True) u (aboveS n R a) ∧ Below w.heap.size w w' := by
  obtain ⟨xa, hxa⟩ : ∃ xa, okG n a = xa := ⟨_, rfl⟩
  have HXA := Aside0.mk hxa
  have H := Aside0.mk h
  unfold aboveS
  rw [hxa]
  cases xa with
  | false =>
    clear h hr hxa
    go_enter Tryd.func24, Tryd.ntmps24
    go_wp2_with (go_at_call 42; ((with_reducible refine (rgroup_any S w v n L a false H.out HXA.out).mono ?_); rintro e1 w1 ⟨rfl, d1⟩; have B1 := Aside0.mk d1.below; clear d1))
    go_ret
    exact ⟨_, rfl, Kd.R_nil _ _ _ _ _, B1.out⟩
  | true =>
    obtain ⟨i, rfl, hi⟩ := okG_nat hxa
    rcases h with ⟨h0, _⟩ | ⟨r, A, c, l, rfl, h, hs, s1, s2⟩
    · omega
    · have HV := Aside0.mk h
      have HS := Aside0.mk hs
      have HL := Aside0.mk (lenL h)
      have HI := Aside0.mk hi
      have HR := Aside0.mk hr
      have HN4 := Aside0.mk h.n4
      clear h hs hr hxa hi
      rw [Int.toNat_natCast, if_pos rfl]
      go_enter Tryd.func24, Tryd.ntmps24
      go_wp2_with (first
        | (go_at_call 42; ((with_reducible refine (rgroup_any S w _ n L (i : Int) true H.out HXA.out).mono ?_); rintro e1 w1 ⟨rfl, d1⟩; have B1 := Aside0.mk d1.below; clear d1))
        | (go_at_call 44; ((with_reducible refine (rfrom_calls w1 r n A c l L i (HV.out.below B1.out) HS.out HI.out (by have := HL.out; omega)).mono ?_); rintro e3 w3 ⟨gb, cb, P, rfl, hB, hP⟩; have HB := Aside0.mk hB; have HP := Aside0.mk hP; clear hB hP))
        | (go_at_call 43; ((with_reducible refine (rlisted_calls HB.out HN4.out).mono ?_); rintro e4 w4 ⟨v4, rfl, h4, b4⟩; have B4 := Aside0.mk (below_step (below_step B1.out HB.out.low) b4); have R4 := Aside0.mk h4; clear h4 b4)))
      go_ret
      refine ⟨_, rfl, ?_, B4.out⟩
      rw [show elems (R i) n = elems P n from elems_congr n (fun x _ => bool_iff ((HR.out i x).trans (HP.out x).symm))]
      exact Kd.R_lower R4.out (Nat.le_trans B1.out.size HB.out.low.size)
set_option maxHeartbeats 4000000 in
theorem rbelow_calls (S : Nat → Prop) (w : World) (v : Value) (n : Nat) (L R : Nat → Nat → Bool) (a : Int) (h : RX S w v n L) (hr : IsR L R) :
    Calls Tryd.prog 25 #[v, .int .i64 a] w fun e w' => ∃ u, e = .returned u ∧ I64.R 3 w' w.heap.size (fun _ => True) u (belowS n R a) ∧ Below w.heap.size w w' := by
  obtain ⟨xa, hxa⟩ : ∃ xa, okG n a = xa := ⟨_, rfl⟩
  have HXA := Aside0.mk hxa
  have H := Aside0.mk h
  unfold belowS
  rw [hxa]
  cases xa with
  | false =>
    clear h hr hxa
    go_enter Tryd.func25, Tryd.ntmps25
    go_wp2_with (go_at_call 42; ((with_reducible refine (rgroup_any S w v n L a false H.out HXA.out).mono ?_); rintro e1 w1 ⟨rfl, d1⟩; have B1 := Aside0.mk d1.below; clear d1))
    go_ret
    exact ⟨_, rfl, Kd.R_nil _ _ _ _ _, B1.out⟩
  | true =>
    obtain ⟨i, rfl, hi⟩ := okG_nat hxa
    rcases h with ⟨h0, _⟩ | ⟨r, A, c, l, rfl, h, hs, s1, s2⟩
    · omega
    · have HV := Aside0.mk h
      have HS := Aside0.mk hs
      have HL := Aside0.mk (lenL h)
      have HI := Aside0.mk hi
      have HR := Aside0.mk hr
      have HN4 := Aside0.mk h.n4
      clear h hs hr hxa hi
      rw [Int.toNat_natCast, if_pos rfl]
      go_enter Tryd.func25, Tryd.ntmps25
      go_wp2_with (first
        | (go_at_call 42; ((with_reducible refine (rgroup_any S w _ n L (i : Int) true H.out HXA.out).mono ?_); rintro e1 w1 ⟨rfl, d1⟩; have B1 := Aside0.mk d1.below; clear d1))
        | (go_at_call 45; ((with_reducible refine (rto_calls w1 r n A c l L i (HV.out.below B1.out) HS.out HI.out (by have := HL.out; omega)).mono ?_); rintro e3 w3 ⟨gb, cb, P, rfl, hB, hP⟩; have HB := Aside0.mk hB; have HP := Aside0.mk hP; clear hB hP))
        | (go_at_call 43; ((with_reducible refine (rlisted_calls HB.out HN4.out).mono ?_); rintro e4 w4 ⟨v4, rfl, h4, b4⟩; have B4 := Aside0.mk (below_step (below_step B1.out HB.out.low) b4); have R4 := Aside0.mk h4; clear h4 b4)))
      go_ret
      refine ⟨_, rfl, ?_, B4.out⟩
      rw [show elems (fun a => R a i) n = elems P n from elems_congr n (fun x _ => bool_iff ((HR.out x i).trans ((Rch.rev L i x).symm.trans (HP.out x).symm)))]
      exact Kd.R_lower R4.out (Nat.le_trans B1.out.size HB.out.low.size)
/-- The pairs of the groups in P, up to k. -/
def sumP (n : Nat) (R : Nat → Nat → Bool) (P : Nat → Bool) : Nat → Nat
  | 0 => 0
  | k + 1 => sumP n R P k + (if P k then (elems (R k) n).length else 0)
theorem elems_le (P : Nat → Bool) (n : Nat) : (elems P n).length ≤ n := by rw [elems_cntF]; exact cntF_le P 0 n
theorem sumP_le (n : Nat) (R : Nat → Nat → Bool) (P : Nat → Bool) : ∀ k, sumP n R P k ≤ k * n := by
  intro k
  induction k with
  | zero => simp [sumP]
  | succ k ih =>
    have := elems_le (R k) n
    simp only [sumP, Nat.add_mul, Nat.one_mul]
    split <;> omega
theorem sumP_none (n : Nat) (R : Nat → Nat → Bool) : ∀ k, sumP n R (fun _ => false) k = 0 := by
  intro k
  induction k with
  | zero => rfl
  | succ k ih => simp [sumP, ih]
theorem sumP_up (n : Nat) (R : Nat → Nat → Bool) {P : Nat → Bool} {x : Nat} (hx : P x = false) : ∀ k, sumP n R (upB P x) k = sumP n R P k + (if x < k then (elems (R x) n).length else 0) := by
  intro k
  induction k with
  | zero => simp [sumP]
  | succ k ih =>
    simp only [sumP]
    rw [ih]
    by_cases e : k = x
    · subst e
      have : upB P k k = true := by simp [upB]
      rw [this, if_pos rfl, hx, if_neg (by omega), if_neg (by simp), if_pos (by omega)]
    · have : upB P x k = P k := by
        have e2 : (k == x) = false := by simp; exact e
        simp [upB, e2]
      rw [this]
      by_cases h : x < k
      · rw [if_pos h, if_pos (show x < k + 1 by omega)]; omega
      · rw [if_neg h, if_neg (show ¬ x < k + 1 by omega)]; omega
theorem sumP_all (n : Nat) (R : Nat → Nat → Bool) {P : Nat → Bool} (h : ∀ x, P x = false → ∀ y, R x y = false) : ∀ k, sumP n R P k = pairsN n R k := by
  intro k
  induction k with
  | zero => rfl
  | succ k ih =>
    simp only [sumP, pairsN]
    rw [ih]
    cases hP : P k with
    | true => rw [if_pos rfl]
    | false =>
      have : ∀ m, elems (R k) m = [] := by
        intro m
        induction m with
        | zero => rfl
        | succ m im => simp only [elems, im, h k hP m]; rfl
      rw [this]
      simp
set_option maxHeartbeats 8000000 in
theorem rpairs_calls (S : Nat → Prop) (w : World) (v : Value) (n : Nat) (L R : Nat → Nat → Bool) (h : RX S w v n L) (hr : IsR L R) :
    Calls Tryd.prog 41 #[v] w fun e w' => e = .returned (.int .i64 ((pairsN n R n : Nat) : Int)) ∧ Below w.heap.size w w' := by
  have HX := Aside0.mk h
  have HR := Aside0.mk hr
  rcases h with ⟨rfl, rfl⟩ | ⟨r, A, c, l, rfl, h, hs, s1, s2⟩
  · clear hr
    go_enter Tryd.func41, Tryd.ntmps41
    go_wp2
    go_ret
    exact ⟨rfl, Below.refl _ _⟩
  · have c0 := h.c0
    have H := Aside0.mk h
    have HS := Aside0.mk hs
    have HN1 := Aside0.mk h.n1
    have HN4 := Aside0.mk h.n4
    have HLL := Aside0.mk (lenL h)
    obtain ⟨N, hN⟩ : ∃ N, N = l.length := ⟨_, rfl⟩
    have HN := Aside0.mk hN
    have HLN : Aside0 (N ≤ 16777216) := ⟨by have := HLL.out; omega⟩
    clear h hs hr hN
    go_enter Tryd.func41, Tryd.ntmps41
    go_wp2_with ((with_reducible refine gate_dst (N := 13) rfl ?_); (refine Kd.R_make Kd.bool (w0 := w) w.heap.size 4 rfl (N := 13) rfl 46 _ _ rfl (n : Int) rfl rfl Tryd.underlying46 (.bool false) 1 infoBo rfl (by decide) (by omega) false (ok := fun _ => True) (okp := fun _ => True) rfl (fun _ hk => hk) trivial (by omega) ?hl ?hB (Nat.le_refl _) ?_); (case hl => have := HN4.out; simp only [Int.toNat_natCast]; omega); (case hB => exact Below.refl _ _); intro v1 w1 ho hb1 hg1 hat; (rw [Int.toNat_natCast, ← bl_none] at ho); (obtain ⟨gb, cb, hv⟩ := bool_form ho HN1.out); subst hv; have HB0 : Aside0 (BRel w n gb cb (fun _ => false) w1) := ⟨⟨⟨hg1.os, hg1.tape, hg1.output, hg1.size, fun k hk => hg1.block k hk (by simp)⟩, ho⟩⟩; clear ho hb1 hg1 hat c0)
    go_loopg [3, 5] (N + 1) (fun kq v3 v5 w' => ∃ (i : Nat) (P : Nat → Bool) (s : Int), v3 = .int .i64 s ∧ v5 = .int .i64 (i : Int) ∧ Aside0 (s = ((sumP n R P n : Nat) : Int)) ∧ Aside0 (kq + i = N + 1) ∧ Aside0 (i ≤ N) ∧ Aside0 (∀ j, j < i → ∀ p, l[j]? = some p → P p.1.toNat = true) ∧ Aside0 (BRel w n gb cb P w'))
    case atStart => exact ⟨0, fun _ => false, 0, rfl, rfl, ⟨by rw [sumP_none]; rfl⟩, ⟨rfl⟩, ⟨Nat.zero_le _⟩, ⟨fun j hj => absurd hj (by omega)⟩, HB0⟩
    case round =>
      clear HB0
      obtain ⟨i, P, s, rfl, rfl, HSM, HK, HJ, HP, HB⟩ := hrel
      have hv := H.out.below HB.out.low
      have c1 := hv.c1
      rw [← HN.out] at c1
      cases gk with
      | zero => exact absurd HK.out (by have := HJ.out; omega)
      | succ k1 =>
        by_cases hlt : i < N
        · have hc0 : (0 : Int) ≤ (i : Int) := by omega
          have hcn : (i : Int) < (N : Int) := by omega
          have HW3 : Aside0 (wrap64 ((i : Int) + 1) = ((i + 1 : Nat) : Int)) := ⟨wrap_up i N (by omega) (by have := HLN.out; omega)⟩
          have hil : i < l.length := by rw [← HN.out]; exact hlt
          obtain ⟨g, hA, hx, hy⟩ := hv.at_ (i := i) hil
          subst hA
          have hz := hv.hz l[i] (List.getElem_mem hil)
          obtain ⟨f, hf, hfn⟩ : ∃ f : Nat, (l[i]).1 = (f : Int) ∧ f < n := ⟨(l[i]).1.toNat, by omega, by omega⟩
          rw [hf] at hx
          have HKI : Aside0 (∀ p, l[i]? = some p → p.1 = (f : Int)) := ⟨fun p hp => by rw [List.getElem?_eq_getElem hil] at hp; rw [← Option.some.inj hp]; exact hf⟩
          have HFN := Aside0.mk hfn
          have hf0 : (0 : Int) ≤ (f : Int) := by omega
          have hfn : (f : Int) < (n : Int) := by omega
          clear hv hz hf hil hy
          obtain ⟨hcf, hff⟩ := HB.out.cell HFN.out
          cases hPf : P f with
          | true =>
            rw [hPf] at hcf
            have HPF := Aside0.mk hPf
            clear hPf
            go_wp2
            go_roundg k1
            case measure => omega
            case rel => exact ⟨i + 1, P, s, rfl, by first | rfl | (rw [← HW3.out]), HSM, ⟨by have := HK.out; omega⟩, ⟨by omega⟩, ⟨fun j hj p hp => by
              by_cases e : j = i
              · subst e
                rw [HKI.out p hp, Int.toNat_natCast]
                exact HPF.out
              · exact HP.out j (by omega) p hp⟩, HB⟩
          | false =>
            rw [hPf] at hcf
            have HPF := Aside0.mk hPf
            have HB2 := Aside0.mk (HB.out.put HFN.out)
            have HAB : Aside0 (aboveS n R (f : Int) = elems (R f) n) := ⟨by unfold aboveS; rw [if_pos (by unfold okG; exact decide_eq_true (by omega)), Int.toNat_natCast]⟩
            have HUP : Aside0 (sumP n R (upB P f) n = sumP n R P n + (elems (R f) n).length) := ⟨by rw [sumP_up n R hPf, if_pos HFN.out]⟩
            have hws : wrap64 (s + ((elems (R f) n).length : Int)) = ((sumP n R (upB P f) n : Nat) : Int) := by
              have h1 := sumP_le n R (upB P f) n
              have h4 := HN4.out
              have h5 : n * n ≤ 4096 * 4096 := Nat.mul_le_mul h4 h4
              have h6 := HUP.out
              have h7 := HSM.out
              unfold wrap64
              omega
            have HWS := Aside0.mk hws
            clear hPf hws
            go_wp2_with (go_at_call 24; ((with_reducible refine (rabove_calls S _ _ n L R (f : Int) (HX.out.below HB2.out.low) HR.out).mono ?_); rintro e4 w4 ⟨u4, rfl, h4, b4⟩; (obtain ⟨A4, c4, rfl⟩ := Kd.R_slice h4); (rw [HAB.out]); have HB4 := Aside0.mk (HB2.out.below b4); clear h4 b4))
            go_roundg k1
            case measure => omega
            case rel => exact ⟨i + 1, upB P f, _, rfl, by first | rfl | (rw [← HW3.out]), ⟨HWS.out⟩, ⟨by have := HK.out; omega⟩, ⟨by omega⟩, ⟨fun j hj p hp => by
              unfold upB
              by_cases e : j = i
              · subst e
                rw [HKI.out p hp, Int.toNat_natCast]
                simp
              · rw [HP.out j (by omega) p hp]; rfl⟩, HB4⟩
        · have hjn : i = N := by have := HJ.out; omega
          subst hjn
          have hd : decide ((i : Int) < (i : Int)) = false := decide_eq_false (by omega)
          go_wp2
          go_ret
          refine ⟨?_, HB.out.low⟩
          have e : sumP n R P n = pairsN n R n := sumP_all n R (fun x hx y => by
            cases hR : R x y with
            | false => rfl
            | true =>
              have : ∃ z, L x z = true := by
                have hh := (HR.out x y).1 hR
                clear hR
                induction hh with
                | one b hb => exact ⟨b, hb⟩
                | step d b _ _ ih => exact ih
              obtain ⟨z, hz⟩ := this
              obtain ⟨j, hj, e⟩ := List.getElem_of_mem ((HS.out x z).1 hz)
              have := HP.out j (by rw [HN.out]; exact hj) _ (List.getElem?_eq_getElem hj)
              rw [e, Int.toNat_natCast, hx] at this
              cases this) n
          have h := HSM.out
          rw [e] at h
          subst h
          rfl
theorem RvAt.put {w W : World} {r n c : Nat} {A : Option Addr} {l l' : List (Int × Int)} {T : Nat → Prop} {v1 : Value} (h : RvAt w r n A c l) (hk : Kept w W T) (hT : ¬ T r)
    (ho : LK.R 81 W 0 (fun _ => True) v1 l') (hn : ∀ b, v1.ownBlock = some b → b ≠ r) (hz : ∀ p, p ∈ l' → 0 ≤ p.1 ∧ p.1 < (n : Int) ∧ 0 ≤ p.2 ∧ p.2 < (n : Int)) (nd : l'.Nodup) :
    ∃ A' c', v1 = .slice A' l'.length c' ∧ RvAt (W.setCell ⟨r, 1, none⟩ v1) r n A' c' l' := by
  have ht := blk_kept h.top hk hT
  have hs := blk_set ht 1 v1
  have hr : LK.R 81 (W.setCell ⟨r, 1, none⟩ v1) 0 (fun _ => True) v1 l' := Kd.R_mono (Kd.R_far (Kd.R_tight rfl ho) (p := ⟨r, 1, none⟩) (fun k hk => hn k hk.symm) v1) (fun _ _ => trivial)
  obtain ⟨A', c', rfl⟩ := Kd.R_slice ho
  exact ⟨A', c', rfl, { top := hs, row := hr, hz := hz, nd := nd, n1 := h.n1, n4 := h.n4 }⟩
theorem says_add {l : List (Int × Int)} {L : Nat → Nat → Bool} (h : Says l L) (i j : Nat) : Says (l ++ [((i : Int), (j : Int))]) (addL L i j) := fun a b => by
  rw [addL_iff, List.mem_append, h a b]
  simp only [List.mem_singleton, Prod.mk.injEq]
  constructor
  · rintro (h | ⟨h1, h2⟩)
    · exact .inl h
    · exact .inr ⟨by omega, by omega⟩
  · rintro (h | ⟨h1, h2⟩)
    · exact .inl h
    · exact .inr ⟨by omega, by omega⟩
theorem RvAt.grow {w3 w4 : World} {r n c i j : Nat} {A : Option Addr} {l : List (Int × Int)} {v4 : Value} (h : RvAt w3 r n A c l) (hi : i < n) (hj : j < n) (hnm : ((i : Int), (j : Int)) ∉ l)
    (ho : LK.R 81 w4 0 (fun _ => True) v4 (l ++ [((i : Int), (j : Int))])) (hg : w3.grownBy w4 (Value.slice A l.length c).ownBlock) (hat : v4.ownBlock = (Value.slice A l.length c).ownBlock ∨ ∃ b, v4.ownBlock = some b ∧ w3.heap.size ≤ b) :
    ∃ A5 c5, v4 = .slice A5 (l ++ [((i : Int), (j : Int))]).length c5 ∧ RvAt (w4.setCell ⟨r, 1, none⟩ v4) r n A5 c5 (l ++ [((i : Int), (j : Int))]) ∧ w4.cell? ⟨r, 1, none⟩ = some (.slice A l.length c) ∧ w4.frozen? ⟨r, 1, none⟩ = false ∧
      Fr w3 (w4.setCell ⟨r, 1, none⟩ v4) (fun k => k = r ∨ (Value.slice A l.length c).ownBlock = some k) ∧ ∀ b, v4.ownBlock = some b → (Value.slice A l.length c).ownBlock = some b ∨ w3.heap.size ≤ b := by
  have how : ∀ b, v4.ownBlock = some b → (Value.slice A l.length c).ownBlock = some b ∨ w3.heap.size ≤ b := by
    intro b hb
    rcases hat with hat | ⟨k, hk, hge⟩
    · exact .inl (by rw [← hat, hb])
    · rw [hb] at hk
      have := Option.some.inj hk
      exact .inr (by omega)
  have hnr : (Value.slice A l.length c).ownBlock ≠ some r := fun e => (h.own r e).2 rfl
  have hne : ∀ b, v4.ownBlock = some b → b ≠ r := by
    intro b hb e
    subst e
    rcases how b hb with hh | hh
    · exact hnr hh
    · have := h.lt_r; omega
  obtain ⟨A5, c5, e5, h5⟩ := h.put (fr_grown hg).2 hnr ho hne (fun p hp => by
    rcases List.mem_append.1 hp with hp | hp
    · exact h.hz p hp
    · rw [List.mem_singleton.1 hp]
      exact ⟨by show (0 : Int) ≤ (i : Int); omega, by show (i : Int) < (n : Int); omega, by show (0 : Int) ≤ (j : Int); omega, by show (j : Int) < (n : Int); omega⟩) (List.nodup_append.2 ⟨h.nd, by simp, fun p hp q hq e => hnm (by rw [List.mem_singleton.1 hq] at e; rw [← e]; exact hp)⟩)
  have t4 := blk_kept h.top (fr_grown hg).2 hnr
  refine ⟨A5, c5, e5, h5, (by rw [blk_cell t4 1]; rfl), blk_frozen t4 1, (Fr.then_ (S := fun k => k = r ∨ (Value.slice A l.length c).ownBlock = some k) ⟨(fr_grown hg).1, (fr_grown hg).2.mono fun k hk => .inr hk⟩ (Fr.set (g := r) 1 v4) (fun k hk => .inl (.inl hk))), how⟩
set_option maxHeartbeats 8000000 in
theorem radd_new (S : Nat → Prop) (w : World) (r n : Nat) (A : Option Addr) (c : Nat) (l : List (Int × Int)) (L : Nat → Nat → Bool) (i j : Nat) (h : RvAt w r n A c l) (hs : Says l L) (s1 : S r) (s2 : ∀ b, (Value.slice A l.length c).ownBlock = some b → S b) (hi : i < n) (hj : j < n) (hL : L i j = false) :
    Calls Tryd.prog 38 #[.pointer (some ⟨r, 0, none⟩), .int .i64 (i : Int), .int .i64 (j : Int)] w fun e w' => e = .returned (.int .i64 0) ∧ RX (More S w) w' (.pointer (some ⟨r, 0, none⟩)) n (addL L i j) ∧ Fr w w' S := by
  have H := Aside0.mk h
  have HL := Aside0.mk (lenL h)
  have HI := Aside0.mk hi
  have HJ := Aside0.mk hj
  have HNI : Aside0 (((i : Int), (j : Int)) ∉ l) := ⟨fun hm => by rw [(hs i j).2 hm] at hL; cases hL⟩
  have HS := Aside0.mk hs
  have HXA : Aside0 (okG n (i : Int) = true) := ⟨decide_eq_true (by omega)⟩
  have HXB : Aside0 (okG n (j : Int) = true) := ⟨decide_eq_true (by omega)⟩
  clear h hs hi hj hL
  go_enter Tryd.func38, Tryd.ntmps38
  go_wp2_with (first
    | (go_at_call 42; ((with_reducible refine (rgroup_calls w r n A c l (i : Int) true H.out HXA.out).mono ?_); rintro e1 w1 ⟨rfl, d1⟩; have B1 := Aside0.mk d1.below; clear d1))
    | (go_at_call 42; ((with_reducible refine (rgroup_calls w1 r n A c l (j : Int) true (H.out.below B1.out) HXB.out).mono ?_); rintro e2 w2 ⟨rfl, d2⟩; have B2 := Aside0.mk (below_step B1.out d2.below); clear d2))
    | (go_at_call 49; ((with_reducible refine (rlinked_calls w2 r n A c l (i : Int) (j : Int) (H.out.below B2.out) (by have := HL.out; omega)).mono ?_); rintro e3 w3 ⟨h3, d3⟩; (obtain rfl := (h3.resolve_left (fun ⟨k, _, hk, hkl⟩ => HNI.out (List.mem_of_getElem? hkl))).1); have B3 := Aside0.mk (below_step B2.out d3.below); have H3 := Aside0.mk (H.out.below B3.out); have c1 := H3.out.c1; clear d3 h3))
    | ((with_reducible refine gate_builtin (b := .append) (xs := #[.tmp 28, .tmp 32]) rfl ?_); at_builtin; go_loud (refine Kd.R_append LK (w0 := w3) 0 rfl (.tmp 28) (.tmp 32) 77 81 (.agg #[.int .i64 0, .int .i64 0]) 16 rfl Tryd.underlying77 infoL rfl (by decide) (by omega) (.slice A l.length c) l ((i : Int), (j : Int)) [.int .i64 (i : Int), .int .i64 (j : Int)] (fun _ => True) (fun _ => False) rfl rfl ?aP (fun _ hk => hk.elim) ?aF ?aO ?aB ?aS ?aL ?_); (case aP => exact ⟨[_], [_], rfl, rfl, rfl⟩); (case aF => exact (fun _ _ => trivial)); (case aO => exact H3.out.row); (case aB => exact ⟨rfl, rfl, rfl, Nat.le_refl _, fun _ _ => rfl⟩); (case aS => exact Nat.zero_le _); (case aL => have := HL.out; omega); intro v4 w4 ho hb hg hat; (obtain ⟨A5, c5, e5, h5, c14, f14, F5, OW⟩ := H3.out.grow HI.out HJ.out HNI.out ho hg hat); subst e5; (rw [List.length_append, List.length_singleton] at h5 F5); have H5 := Aside0.mk h5; have OW := Aside0.mk OW; have F5 := Aside0.mk F5; clear ho hb hg hat h5))
  go_ret
  exact ⟨rfl, .inr ⟨r, A5, c5, _, rfl, H5.out, says_add HS.out i j, .inl s1, fun b hb => (OW.out b hb).elim (fun e => .inl (s2 b e)) (fun e => .inr (Nat.le_trans B3.out.size e))⟩, Fr.then_ (T := fun k => k = r ∨ (Value.slice A l.length c).ownBlock = some k) (Fr.of_below B3.out S) F5.out (fun k hk => hk.elim (fun e => .inl (by rw [e]; exact s1)) (fun e => .inl (s2 k e)))⟩
theorem radd_nil (w : World) (a b : Int) : Calls Tryd.prog 38 #[.pointer none, .int .i64 a, .int .i64 b] w fun e w' => e = .returned (.int .i64 1) ∧ w' = w := by
  go_enter Tryd.func38, Tryd.ntmps38
  go_wp2
  go_ret
  exact ⟨rfl, rfl⟩
set_option maxHeartbeats 4000000 in
theorem radd_bad (w : World) (r n : Nat) (A : Option Addr) (c : Nat) (l : List (Int × Int)) (a b : Int) (h : RvAt w r n A c l) (hb : (okG n a && okG n b) = false) :
    Calls Tryd.prog 38 #[.pointer (some ⟨r, 0, none⟩), .int .i64 a, .int .i64 b] w fun e w' => e = .returned (.int .i64 2) ∧ Below w.heap.size w w' := by
  obtain ⟨xa, hxa⟩ : ∃ xa, okG n a = xa := ⟨_, rfl⟩
  have H := Aside0.mk h
  have HXA := Aside0.mk hxa
  rw [hxa] at hb
  cases xa with
  | false =>
    clear h hxa hb
    go_enter Tryd.func38, Tryd.ntmps38
    go_wp2_with (go_at_call 42; ((with_reducible refine (rgroup_calls w r n A c l a false H.out HXA.out).mono ?_); rintro e1 w1 ⟨rfl, d1⟩; have B1 := Aside0.mk d1.below; clear d1))
    go_ret
    exact ⟨rfl, B1.out⟩
  | true =>
    have HXB : Aside0 (okG n b = false) := ⟨by simpa using hb⟩
    clear h hxa hb
    go_enter Tryd.func38, Tryd.ntmps38
    go_wp2_with (first
      | (go_at_call 42; ((with_reducible refine (rgroup_calls w r n A c l a true H.out HXA.out).mono ?_); rintro e1 w1 ⟨rfl, d1⟩; have B1 := Aside0.mk d1.below; clear d1))
      | (go_at_call 42; ((with_reducible refine (rgroup_calls w1 r n A c l b false (H.out.below B1.out) HXB.out).mono ?_); rintro e2 w2 ⟨rfl, d2⟩; have B2 := Aside0.mk (below_step B1.out d2.below); clear d2)))
    go_ret
    exact ⟨rfl, B2.out⟩
set_option maxHeartbeats 4000000 in
theorem radd_there (w : World) (r n : Nat) (A : Option Addr) (c : Nat) (l : List (Int × Int)) (i j : Nat) (h : RvAt w r n A c l) (hi : i < n) (hj : j < n) (hm : ((i : Int), (j : Int)) ∈ l) :
    Calls Tryd.prog 38 #[.pointer (some ⟨r, 0, none⟩), .int .i64 (i : Int), .int .i64 (j : Int)] w fun e w' => e = .returned (.int .i64 120) ∧ Below w.heap.size w w' := by
  have H := Aside0.mk h
  have HL := Aside0.mk (lenL h)
  have HM := Aside0.mk hm
  have HXA : Aside0 (okG n (i : Int) = true) := ⟨decide_eq_true (by omega)⟩
  have HXB : Aside0 (okG n (j : Int) = true) := ⟨decide_eq_true (by omega)⟩
  clear h hi hj hm
  go_enter Tryd.func38, Tryd.ntmps38
  go_wp2_with (first
    | (go_at_call 42; ((with_reducible refine (rgroup_calls w r n A c l (i : Int) true H.out HXA.out).mono ?_); rintro e1 w1 ⟨rfl, d1⟩; have B1 := Aside0.mk d1.below; clear d1))
    | (go_at_call 42; ((with_reducible refine (rgroup_calls w1 r n A c l (j : Int) true (H.out.below B1.out) HXB.out).mono ?_); rintro e2 w2 ⟨rfl, d2⟩; have B2 := Aside0.mk (below_step B1.out d2.below); clear d2))
    | (go_at_call 49; ((with_reducible refine (rlinked_calls w2 r n A c l (i : Int) (j : Int) (H.out.below B2.out) (by have := HL.out; omega)).mono ?_); rintro e3 w3 ⟨h3, d3⟩; (obtain ⟨k, rfl, _⟩ := h3.resolve_right (fun hh => hh.2 HM.out)); have hk0 : decide ((k : Int) ≥ 0) = true := decide_eq_true (by omega); have B3 := Aside0.mk (below_step B2.out d3.below); clear d3 h3)))
  go_ret
  exact ⟨rfl, B3.out⟩
theorem radd_calls (S : Nat → Prop) (w : World) (v : Value) (n : Nat) (L : Nat → Nat → Bool) (a b : Int) (h : RX S w v n L) :
    Calls Tryd.prog 38 #[v, .int .i64 a, .int .i64 b] w fun e w' => e = .returned (.int .i64 (addA n L a b)) ∧ RX (More S w) w' v n (addT n L a b) ∧ Fr w w' S := by
  have hx := h
  rcases h with ⟨rfl, rfl⟩ | ⟨r, A, c, l, rfl, h, hs, s1, s2⟩
  · refine (radd_nil w a b).mono ?_
    rintro e w' ⟨rfl, rfl⟩
    exact ⟨rfl, .inl ⟨rfl, rfl⟩, Fr.refl _ _⟩
  · have hn1 := h.n1
    by_cases hab : (okG n a && okG n b) = true
    · have hab' := hab
      rw [Bool.and_eq_true] at hab'
      obtain ⟨i, rfl, hi⟩ := okG_nat hab'.1
      obtain ⟨j, rfl, hj⟩ := okG_nat hab'.2
      by_cases hL : L i j = true
      · have eT : addT n L (i : Int) (j : Int) = L := by unfold addT; rw [hab, Int.toNat_natCast, Int.toNat_natCast, hL]; rfl
        have eA : addA n L (i : Int) (j : Int) = 120 := by unfold addA; rw [if_neg (by omega), if_pos hab, Int.toNat_natCast, Int.toNat_natCast, if_pos hL]
        rw [eT, eA]
        refine (radd_there w r n A c l i j h hi hj ((hs i j).1 hL)).mono ?_
        rintro e w' ⟨rfl, d⟩
        exact ⟨rfl, (hx.below d).mono (fun _ hk => .inl hk), Fr.of_below d S⟩
      · have hL' : L i j = false := by simpa using hL
        have eT : addT n L (i : Int) (j : Int) = addL L i j := by unfold addT; rw [hab, Int.toNat_natCast, Int.toNat_natCast, hL']; rfl
        have eA : addA n L (i : Int) (j : Int) = 0 := by unfold addA; rw [if_neg (by omega), if_pos hab, Int.toNat_natCast, Int.toNat_natCast, if_neg hL]
        rw [eT, eA]
        exact radd_new S w r n A c l L i j h hs s1 s2 hi hj hL'
    · have hab' : (okG n a && okG n b) = false := by simpa using hab
      have eT : addT n L a b = L := by unfold addT; rw [hab']; rfl
      have eA : addA n L a b = 2 := by unfold addA; rw [if_neg (by omega), if_neg hab]
      rw [eT, eA]
      refine (radd_bad w r n A c l a b h hab').mono ?_
      rintro e w' ⟨rfl, d⟩
      exact ⟨rfl, (hx.below d).mono (fun _ hk => .inl hk), Fr.of_below d S⟩
theorem rcut_nil (w : World) (a b : Int) : Calls Tryd.prog 39 #[.pointer none, .int .i64 a, .int .i64 b] w fun e w' => e = .returned (.int .i64 1) ∧ w' = w := by
  go_enter Tryd.func39, Tryd.ntmps39
  go_wp2
  go_ret
  exact ⟨rfl, rfl⟩
set_option maxHeartbeats 4000000 in
theorem rcut_bad (w : World) (r n : Nat) (A : Option Addr) (c : Nat) (l : List (Int × Int)) (a b : Int) (h : RvAt w r n A c l) (hb : (okG n a && okG n b) = false) :
    Calls Tryd.prog 39 #[.pointer (some ⟨r, 0, none⟩), .int .i64 a, .int .i64 b] w fun e w' => e = .returned (.int .i64 2) ∧ Below w.heap.size w w' := by
  obtain ⟨xa, hxa⟩ : ∃ xa, okG n a = xa := ⟨_, rfl⟩
  have H := Aside0.mk h
  have HXA := Aside0.mk hxa
  rw [hxa] at hb
  cases xa with
  | false =>
    clear h hxa hb
    go_enter Tryd.func39, Tryd.ntmps39
    go_wp2_with (go_at_call 42; ((with_reducible refine (rgroup_calls w r n A c l a false H.out HXA.out).mono ?_); rintro e1 w1 ⟨rfl, d1⟩; have B1 := Aside0.mk d1.below; clear d1))
    go_ret
    exact ⟨rfl, B1.out⟩
  | true =>
    have HXB : Aside0 (okG n b = false) := ⟨by simpa using hb⟩
    clear h hxa hb
    go_enter Tryd.func39, Tryd.ntmps39
    go_wp2_with (first
      | (go_at_call 42; ((with_reducible refine (rgroup_calls w r n A c l a true H.out HXA.out).mono ?_); rintro e1 w1 ⟨rfl, d1⟩; have B1 := Aside0.mk d1.below; clear d1))
      | (go_at_call 42; ((with_reducible refine (rgroup_calls w1 r n A c l b false (H.out.below B1.out) HXB.out).mono ?_); rintro e2 w2 ⟨rfl, d2⟩; have B2 := Aside0.mk (below_step B1.out d2.below); clear d2)))
    go_ret
    exact ⟨rfl, B2.out⟩
set_option maxHeartbeats 4000000 in
theorem rcut_absent (w : World) (r n : Nat) (A : Option Addr) (c : Nat) (l : List (Int × Int)) (i j : Nat) (h : RvAt w r n A c l) (hi : i < n) (hj : j < n) (hm : ((i : Int), (j : Int)) ∉ l) :
    Calls Tryd.prog 39 #[.pointer (some ⟨r, 0, none⟩), .int .i64 (i : Int), .int .i64 (j : Int)] w fun e w' => e = .returned (.int .i64 121) ∧ Below w.heap.size w w' := by
  have H := Aside0.mk h
  have HL := Aside0.mk (lenL h)
  have HM := Aside0.mk hm
  have HXA : Aside0 (okG n (i : Int) = true) := ⟨decide_eq_true (by omega)⟩
  have HXB : Aside0 (okG n (j : Int) = true) := ⟨decide_eq_true (by omega)⟩
  clear h hi hj hm
  go_enter Tryd.func39, Tryd.ntmps39
  go_wp2_with (first
    | (go_at_call 42; ((with_reducible refine (rgroup_calls w r n A c l (i : Int) true H.out HXA.out).mono ?_); rintro e1 w1 ⟨rfl, d1⟩; have B1 := Aside0.mk d1.below; clear d1))
    | (go_at_call 42; ((with_reducible refine (rgroup_calls w1 r n A c l (j : Int) true (H.out.below B1.out) HXB.out).mono ?_); rintro e2 w2 ⟨rfl, d2⟩; have B2 := Aside0.mk (below_step B1.out d2.below); clear d2))
    | (go_at_call 49; ((with_reducible refine (rlinked_calls w2 r n A c l (i : Int) (j : Int) (H.out.below B2.out) (by have := HL.out; omega)).mono ?_); rintro e3 w3 ⟨h3, d3⟩; (obtain rfl := (h3.resolve_left (fun ⟨k, _, hk, hkl⟩ => HM.out (List.mem_of_getElem? hkl))).1); have B3 := Aside0.mk (below_step B2.out d3.below); clear d3 h3)))
  go_ret
  exact ⟨rfl, B3.out⟩
def less (l : List (Int × Int)) (p : Int × Int) : List (Int × Int) := l.filter (fun q => !(q == p))
theorem less_step {l : List (Int × Int)} {p : Int × Int} {i : Nat} (hi : i < l.length) : less (l.take (i + 1)) p = less (l.take i) p ++ (if l[i] = p then [] else [l[i]]) := by
  unfold less
  rw [List.take_add_one, List.getElem?_eq_getElem hi, List.filter_append]
  by_cases e : l[i] = p
  · rw [if_pos e]; simp [e]
  · rw [if_neg e]; simp [e]
theorem says_cut {l : List (Int × Int)} {L : Nat → Nat → Bool} (h : Says l L) (i j : Nat) : Says (less l ((i : Int), (j : Int))) (cutL L i j) := fun a b => by
  unfold less cutL upX
  rw [List.mem_filter]
  by_cases e : a = i
  · subst e
    rw [if_pos rfl, Bool.and_eq_true, h a b]
    simp only [Bool.not_eq_true', beq_eq_false_iff_ne, ne_eq, Prod.mk.injEq, true_and]
    constructor
    · rintro ⟨h1, h2⟩; exact ⟨h1, by omega⟩
    · rintro ⟨h1, h2⟩; exact ⟨h1, by omega⟩
  · rw [if_neg e, h a b]
    have : ((a : Int), (b : Int)) ≠ ((i : Int), (j : Int)) := fun hh => e (by have := (Prod.mk.inj hh).1; omega)
    simp [this]
/-- The new list, i links looked at. -/
structure CutR (w W : World) (r n : Nat) (A : Option Addr) (c : Nat) (l : List (Int × Int)) (p : Int × Int) (i : Nat) (v : Value) : Prop where
  low : Below w.heap.size w W
  row : LK.R 81 W w.heap.size (fun _ => True) v (less (l.take i) p)
set_option maxHeartbeats 8000000 in
theorem rcut_there (S : Nat → Prop) (w : World) (r n : Nat) (A : Option Addr) (c : Nat) (l : List (Int × Int)) (L : Nat → Nat → Bool) (i j : Nat) (h : RvAt w r n A c l) (hs : Says l L) (s1 : S r) (hi : i < n) (hj : j < n) (hL : L i j = true) :
    Calls Tryd.prog 39 #[.pointer (some ⟨r, 0, none⟩), .int .i64 (i : Int), .int .i64 (j : Int)] w fun e w' => e = .returned (.int .i64 0) ∧ RX (More S w) w' (.pointer (some ⟨r, 0, none⟩)) n (cutL L i j) ∧ Fr w w' S := by
  have H := Aside0.mk h
  have HL := Aside0.mk (lenL h)
  have HM := Aside0.mk ((hs i j).1 hL)
  have HS := Aside0.mk hs
  have HXA : Aside0 (okG n (i : Int) = true) := ⟨decide_eq_true (by omega)⟩
  have HXB : Aside0 (okG n (j : Int) = true) := ⟨decide_eq_true (by omega)⟩
  obtain ⟨N, hN⟩ : ∃ N, N = l.length := ⟨_, rfl⟩
  have HN := Aside0.mk hN
  have HLN : Aside0 (N ≤ 16777216) := ⟨by have := HL.out; omega⟩
  clear h hs hi hj hL hN
  go_enter Tryd.func39, Tryd.ntmps39
  go_wp2_with (first
    | (go_at_call 42; ((with_reducible refine (rgroup_calls w r n A c l (i : Int) true H.out HXA.out).mono ?_); rintro e1 w1 ⟨rfl, d1⟩; have B1 := Aside0.mk d1.below; clear d1))
    | (go_at_call 42; ((with_reducible refine (rgroup_calls w1 r n A c l (j : Int) true (H.out.below B1.out) HXB.out).mono ?_); rintro e2 w2 ⟨rfl, d2⟩; have B2 := Aside0.mk (below_step B1.out d2.below); clear d2))
    | (go_at_call 49; ((with_reducible refine (rlinked_calls w2 r n A c l (i : Int) (j : Int) (H.out.below B2.out) (by have := HL.out; omega)).mono ?_); rintro e3 w3 ⟨h3, d3⟩; (obtain ⟨k, rfl, hk, hkl⟩ := h3.resolve_right (fun hh => hh.2 HM.out)); have hk0 : decide ((k : Int) < 0) = false := decide_eq_false (by omega); have HK1 := Aside0.mk hk; have HKL := Aside0.mk hkl; have B3 := Aside0.mk (below_step B2.out d3.below); clear d3 h3 hk hkl)))
  have HR0 : Aside0 (CutR w w3 r n A c l ((i : Int), (j : Int)) 0 (.slice none 0 0)) := ⟨⟨B3.out, Kd.R_nil _ _ _ _ _⟩⟩
  go_loopg [8, 9] (N + 1) (fun kq v8 v9 w' => ∃ m : Nat, v9 = .int .i64 (m : Int) ∧ Aside0 (kq + m = N + 1) ∧ Aside0 (m ≤ N) ∧ Aside0 (CutR w w' r n A c l ((i : Int), (j : Int)) m v8))
  case atStart => exact ⟨0, rfl, ⟨rfl⟩, ⟨Nat.zero_le _⟩, HR0⟩
  case round =>
    clear HR0
    obtain ⟨m, rfl, HK, HJ, HR⟩ := hrel
    have hv := H.out.below HR.out.low
    have c1 := hv.c1
    rw [← HN.out] at c1
    cases gk with
    | zero => exact absurd HK.out (by have := HJ.out; omega)
    | succ k1 =>
      by_cases hlt : m < N
      · have hc0 : (0 : Int) ≤ (m : Int) := by omega
        have hcn : (m : Int) < (N : Int) := by omega
        have HW3 : Aside0 (wrap64 ((m : Int) + 1) = ((m + 1 : Nat) : Int)) := ⟨wrap_up m N (by omega) (by have := HLN.out; omega)⟩
        have hil : m < l.length := by rw [← HN.out]; exact hlt
        obtain ⟨g, hA, hx, hy⟩ := hv.at_ (i := m) hil
        subst hA
        have hst := less_step (p := ((i : Int), (j : Int))) hil
        have hke : l[m] = ((i : Int), (j : Int)) ↔ m = k := by
          have hk1 := HK1.out
          have hkk : l[k] = ((i : Int), (j : Int)) := by have := HKL.out; rw [List.getElem?_eq_getElem hk1] at this; exact Option.some.inj this
          constructor
          · intro e
            rw [← hkk] at e
            exact (List.getElem_inj H.out.nd).1 e
          · intro e
            subst e
            exact hkk
        obtain ⟨p, hp⟩ : ∃ p, l[m] = p := ⟨_, rfl⟩
        rw [hp] at hx hy hst hke
        obtain ⟨p1, p2⟩ := p
        by_cases hmk : m = k
        · rw [if_pos (hke.2 hmk), List.append_nil] at hst
          have HST := Aside0.mk hst
          have dmk : decide ((m : Int) = (k : Int)) = true := decide_eq_true (by omega)
          have dmk3 : ((m : Int) != (k : Int)) = false := by simp; omega
          clear hst hke hp hil hv hmk
          go_wp2
          go_roundg k1
          case measure => omega
          case rel => exact ⟨m + 1, by first | rfl | (rw [← HW3.out]), ⟨by have := HK.out; omega⟩, ⟨by omega⟩, ⟨⟨HR.out.low, by rw [HST.out]; exact HR.out.row⟩⟩⟩
        · rw [if_neg (fun e => hmk (hke.1 e))] at hst
          have HST := Aside0.mk hst
          have dmk : decide ((m : Int) = (k : Int)) = false := decide_eq_false (by omega)
          have dmk3 : ((m : Int) != (k : Int)) = true := by simp; omega
          have hle : (less (l.take m) ((i : Int), (j : Int))).length ≤ m := Nat.le_trans (List.length_filter_le _ _) (by rw [List.length_take]; omega)
          have HLE := Aside0.mk hle
          have hx : wr.cell? ⟨g, m * 2, none⟩ = some (.int .i64 p1) := hx
          have hy : wr.cell? ⟨g, m * 2 + 1, none⟩ = some (.int .i64 p2) := hy
          clear hst hke hp hil hv hmk hle
          obtain ⟨A8, c8, e8⟩ := Kd.R_slice HR.out.row
          subst e8
          go_wp2_with ((with_reducible refine gate_builtin (b := .append) (xs := #[.tmp 40, .tmp 48]) rfl ?_); at_builtin; go_loud (refine Kd.R_append LK (w0 := w) w.heap.size rfl (.tmp 40) (.tmp 48) 77 81 (.agg #[.int .i64 0, .int .i64 0]) 16 rfl Tryd.underlying77 infoL rfl (by decide) (by omega) (.slice A8 (less (l.take m) ((i : Int), (j : Int))).length c8) (less (l.take m) ((i : Int), (j : Int))) (p1, p2) [.int .i64 p1, .int .i64 p2] (fun _ => True) (fun _ => False) rfl rfl ?aP (fun _ hk => hk.elim) ?aF ?aO ?aB ?aS ?aL ?_); (case aP => exact ⟨[_], [_], rfl, rfl, rfl⟩); (case aF => exact (fun _ _ => trivial)); (case aO => exact HR.out.row); (case aB => exact HR.out.low); (case aS => exact HR.out.low.size); (case aL => have h1 := HLE.out; have h2 := HLN.out; omega); intro v4 w4 ho hb hg hat; (rw [← HST.out] at ho); have HO := Aside0.mk ho; have HB := Aside0.mk hb; clear ho hb hg hat)
          go_roundg k1
          case measure => omega
          case rel => exact ⟨m + 1, by first | rfl | (rw [← HW3.out]), ⟨by have := HK.out; omega⟩, ⟨by omega⟩, ⟨⟨HB.out, HO.out⟩⟩⟩
      · have hjn : m = N := by have := HJ.out; omega
        subst hjn
        have hd : decide ((m : Int) < (m : Int)) = false := decide_eq_false (by omega)
        have hrow := HR.out.row
        rw [HN.out, List.take_length] at hrow
        have hge := (Kd.R_base hrow)
        obtain ⟨A5, c5, e5, h5⟩ := hv.put (T := fun _ => False) (Kept.refl _ _) (fun h => h) (Kd.R_lower hrow (Nat.zero_le _)) (fun b hb e => by have h1 := hge b hb; have h2 := H.out.lt_r; omega) (fun p hp => hv.hz p (List.mem_filter.1 hp).1) (hv.nd.filter _)
        have f14 := blk_frozen hv.top 1
        subst e5
        have H5 := Aside0.mk h5
        have HGE := Aside0.mk hge
        clear hv hrow h5 hge
        go_wp2
        go_ret
        exact ⟨rfl, .inr ⟨r, A5, c5, _, rfl, H5.out, says_cut HS.out i j, .inl s1, fun b hb => .inr (HGE.out b hb)⟩, (Fr.of_below HR.out.low S).then_ (Fr.set (g := r) 1 _) (fun k hk => .inl (by rw [hk]; exact s1))⟩
theorem rcut_calls (S : Nat → Prop) (w : World) (v : Value) (n : Nat) (L : Nat → Nat → Bool) (a b : Int) (h : RX S w v n L) :
    Calls Tryd.prog 39 #[v, .int .i64 a, .int .i64 b] w fun e w' => e = .returned (.int .i64 (cutA n L a b)) ∧ RX (More S w) w' v n (cutT n L a b) ∧ Fr w w' S := by
  have hx := h
  rcases h with ⟨rfl, rfl⟩ | ⟨r, A, c, l, rfl, h, hs, s1, s2⟩
  · refine (rcut_nil w a b).mono ?_
    rintro e w' ⟨rfl, rfl⟩
    exact ⟨rfl, .inl ⟨rfl, rfl⟩, Fr.refl _ _⟩
  · have hn1 := h.n1
    by_cases hab : (okG n a && okG n b) = true
    · have hab' := hab
      rw [Bool.and_eq_true] at hab'
      obtain ⟨i, rfl, hi⟩ := okG_nat hab'.1
      obtain ⟨j, rfl, hj⟩ := okG_nat hab'.2
      by_cases hL : L i j = true
      · have eT : cutT n L (i : Int) (j : Int) = cutL L i j := by unfold cutT; rw [hab, Int.toNat_natCast, Int.toNat_natCast, hL]; rfl
        have eA : cutA n L (i : Int) (j : Int) = 0 := by unfold cutA; rw [if_neg (by omega), if_pos hab, Int.toNat_natCast, Int.toNat_natCast, if_pos hL]
        rw [eT, eA]
        exact rcut_there S w r n A c l L i j h hs s1 hi hj hL
      · have hL' : L i j = false := by simpa using hL
        have eT : cutT n L (i : Int) (j : Int) = L := by unfold cutT; rw [hab, Int.toNat_natCast, Int.toNat_natCast, hL']; rfl
        have eA : cutA n L (i : Int) (j : Int) = 121 := by unfold cutA; rw [if_neg (by omega), if_pos hab, Int.toNat_natCast, Int.toNat_natCast, if_neg hL]
        rw [eT, eA]
        refine (rcut_absent w r n A c l i j h hi hj (fun hm => hL ((hs i j).2 hm))).mono ?_
        rintro e w' ⟨rfl, d⟩
        exact ⟨rfl, (hx.below d).mono (fun _ hk => .inl hk), Fr.of_below d S⟩
    · have hab' : (okG n a && okG n b) = false := by simpa using hab
      have eT : cutT n L a b = L := by unfold cutT; rw [hab']; rfl
      have eA : cutA n L a b = 2 := by unfold cutA; rw [if_neg (by omega), if_neg hab]
      rw [eT, eA]
      refine (rcut_bad w r n A c l a b h hab').mono ?_
      rintro e w' ⟨rfl, d⟩
      exact ⟨rfl, (hx.below d).mono (fun _ hk => .inl hk), Fr.of_below d S⟩
end Go.Proofs.YtmldefednihohaaDoor.Grp
