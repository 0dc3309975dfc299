/- The walk of GroupsNumbers. -/
import Derived.Test.YtmldefednihohaaDoorGrpPairs
import Derived.Deep.RegionHeld3
namespace Go.Proofs.YtmldefednihohaaDoor.Grp
open Go.RowKit Go.Proofs.YtmldefednihohaaDoorW.PrintWords Go.Proofs.YtmldefednihohaaDoorW.PrintLast Go.Proofs.YtmldefednihohaaDoorW.PrintMore
set_option linter.unusedVariables false
set_option linter.unusedSimpArgs false
set_option maxRecDepth 100000
theorem oc0 : oc 0 = 0 := by kernel_rfl
theorem oc1 : oc 1 = 1 := by kernel_rfl
theorem rowSum_none : ∀ m, rowSum (fun _ => false) m = 0 := by
  intro m
  induction m with
  | zero => rfl
  | succ m ih => simp only [rowSum, ih, wd_none, oc0]; rfl
theorem wd_first (i : Nat) : wd (fun x => x == 0) i = if i = 0 then 1 else 0 := by
  by_cases h : i = 0
  · subst h
    rw [if_pos rfl]
    refine (wd_eq (by omega) (fun b hb => ?_)).symm
    cases b with
    | zero => rfl
    | succ b => simp [Nat.testBit_succ]
  · rw [if_neg h]
    refine (wd_eq (by omega) (fun b hb => ?_)).symm
    have : ¬ 64 * i + b = 0 := by omega
    exact (Nat.zero_testBit b).trans (beq_eq_false_iff_ne.mpr this).symm
theorem rowSum_first : ∀ m, rowSum (fun x => x == 0) (m + 1) = 1 := by
  intro m
  induction m with
  | zero => simp only [rowSum, wd_first, if_pos, oc1]; rfl
  | succ m ih =>
    have h : ¬ m + 1 = 0 := by omega
    rw [rowSum, ih, wd_first, if_neg h, oc0]
    rfl
/-- The index that holds one link, of the last group in the first one. -/
def oneX : Nat → Nat → Bool := addS 4096 (addL (fun _ _ => false) 4095 0) 4095 (fun x => (fun _ _ => false : Nat → Nat → Bool) (4096 + 0) x || x == 0) 4096
theorem one_link : oneX 4095 0 = true := by
  unfold oneX addS addL upX
  rw [if_neg (by omega), if_pos rfl]
  rfl
theorem one_not : oneX 0 4095 = false := by
  unfold oneX addS addL upX
  rw [if_neg (by omega), if_neg (by omega)]
theorem one_in : inE 4096 oneX 4095 0 = true := by
  unfold inE
  have h1 : okG 4096 4095 = true := rfl
  have h2 : okG 4096 0 = true := rfl
  have h3 : (4095 : Int).toNat = 4095 := rfl
  have h4 : (0 : Int).toNat = 0 := rfl
  rw [h1, h2, h3, h4]
  unfold oneX addS
  rw [if_pos ⟨by omega, by omega, .inl (by omega)⟩]
  simp
theorem one_row (k : Nat) (h : k < 4095) : oneX (4096 + k) = fun _ => false := by
  funext x
  unfold oneX addS addL upX
  rw [if_neg, if_neg (by omega)]
  rintro ⟨_, _, h3 | h3⟩
  · omega
  · rw [if_neg (by omega)] at h3
    cases h3
theorem one_last : oneX (4096 + 4095) = fun x => x == 0 := by
  funext x
  unfold oneX addS addL upX
  rw [if_pos ⟨by omega, by omega, .inl (by omega)⟩, if_neg (by omega)]
  simp
theorem one_pairs : pairsTo 4096 oneX 4096 = 1 := by
  have h : ∀ k, k ≤ 4095 → pairsTo 4096 oneX k = 0 := by
    intro k
    induction k with
    | zero => intro _; rfl
    | succ k ih =>
      intro hk
      rw [pairsTo, ih (by omega), one_row k (by omega), rowSum_none]
      rfl
  rw [show (4096 : Nat) = 4095 + 1 from rfl, pairsTo]
  rw [show (4095 + 1 : Nat) = 4096 from rfl, h 4095 (by omega), one_last]
  have : wide 4096 = 63 + 1 := rfl
  rw [this, rowSum_first]
  rfl
set_option maxHeartbeats 8000000 in
theorem numbers_walk (w : World) : Calls Tryd.prog 3 #[] w fun e w' => e = .returned (.bool true) ∧ Below w.heap.size w w' := by
  have N1 := new_calls w 4096 (by omega) (by omega)
  have HN1 : Aside0 (Calls Tryd.prog 9 #[.int .i64 4096] w fun e w' => ∃ g, e = .returned (.tuple #[.pointer (some ⟨g, 0, none⟩), .int .i64 0]) ∧ Ix (fun k => w.heap.size ≤ k) w' g 4096 (fun _ _ => false) ∧ Below w.heap.size w w') := ⟨N1⟩
  clear N1
  go_enter Tryd.func3, Tryd.ntmps3
  go_wp2_with (first
    | (go_at_call 9; (first
        | ((with_reducible refine HN1.out.mono ?_); rintro e1 w1 ⟨g, rfl, h1, b1⟩; have I1 := Aside0.mk h1; have B1 := Aside0.mk b1; clear h1 b1)
        | ((with_reducible refine (new_bad w1 4097 (.inr (by decide))).mono ?_); rintro e2 w2 ⟨rfl, d2⟩; have I2 := Aside0.mk (I1.out.below d2.below); have B2 := Aside0.mk (below_step B1.out d2.below); clear d2)
        | ((with_reducible refine (new_bad w2 0 (.inl (by decide))).mono ?_); rintro e3 w3 ⟨rfl, d3⟩; have I3 := Aside0.mk (I2.out.below d3.below); have B3 := Aside0.mk (below_step B2.out d3.below); have HA1 : Aside0 (Calls Tryd.prog 10 #[.pointer (some ⟨g, 0, none⟩), .int .i64 4095, .int .i64 0] w3 fun e w' => e = .returned (.int .i64 0) ∧ Ix (fun k => w.heap.size ≤ k) w' g 4096 oneX ∧ Fr w3 w' (fun k => w.heap.size ≤ k)) := ⟨add_new _ w3 g 4096 4095 0 _ I3.out (by omega) (by omega) rfl rfl⟩; clear d3)))
    | (go_at_call 10; (first
        | ((with_reducible refine HA1.out.mono ?_); rintro e4 w4 ⟨rfl, h4, f4⟩; have I4 := Aside0.mk h4; have B4 := Aside0.mk (((Fr.of_below B3.out _).then_ f4 (fun k hk => .inl hk))).low; clear h4 f4)
        | ((with_reducible refine (add_bad _ w4 g 4096 oneX 4096 0 I4.out rfl).mono ?_); rintro e5 w4 ⟨rfl, rfl⟩; have HA3 : Aside0 (Calls Tryd.prog 10 #[.pointer (some ⟨g, 0, none⟩), .int .i64 4095, .int .i64 0] w4 fun e w' => e = .returned (.int .i64 120) ∧ Drawn0 w4 w') := ⟨add_there _ w4 g 4096 4095 0 _ I4.out (by omega) (by omega) one_link⟩)
        | ((with_reducible refine HA3.out.mono ?_); rintro e6 w6 ⟨rfl, d6⟩; have I6 := Aside0.mk (I4.out.below d6.below); have B6 := Aside0.mk (below_step B4.out d6.below); clear d6; have HC : Aside0 (Calls Tryd.prog 11 #[.pointer (some ⟨g, 0, none⟩), .int .i64 0, .int .i64 4095] w6 fun e w' => e = .returned (.int .i64 121) ∧ Drawn0 w6 w') := ⟨cut_absent _ w6 g 4096 0 4095 _ I6.out (by omega) (by omega) one_not⟩)
        | ((with_reducible refine (add_nil w9 0 0).mono ?_); rintro ea w9 ⟨rfl, rfl⟩)))
    | (go_at_call 11; (first | ((with_reducible refine (cut_nil w9 0 0).mono ?_); rintro ea w9 ⟨rfl, rfl⟩) | ((with_reducible refine HC.out.mono ?_); rintro e7 w7 ⟨rfl, d7⟩; have I7 := Aside0.mk (I6.out.below d7.below); have B7 := Aside0.mk (below_step B6.out d7.below); clear d7)))
    | (go_at_call 12; (first | ((with_reducible refine (in_nil w9 0 0).mono ?_); rintro ea w10 ⟨rfl, d10⟩; have B10 := Aside0.mk (below_step B9.out d10.below); clear d10) | ((with_reducible refine (in_calls _ w7 g 4096 oneX 4095 0 I7.out).mono ?_); rintro e8 w8 ⟨rfl, d8⟩; have I8 := Aside0.mk (I7.out.below d8.below); have B8 := Aside0.mk (below_step B7.out d8.below); clear d8; rw [one_in])))
    | (go_at_call 14; ((with_reducible refine (above_nil w10 0).mono ?_); rintro ea w10 ⟨rfl, rfl⟩))
    | (go_at_call 15; ((with_reducible refine (below_nil w10 0).mono ?_); rintro ea w10 ⟨rfl, rfl⟩))
    | (go_at_call 13; (first | ((with_reducible refine (pairs_nil w10).mono ?_); rintro ea w10 ⟨rfl, rfl⟩) | ((with_reducible refine (pairs_calls _ w8 g 4096 oneX I8.out).mono ?_); rintro e9 w9 ⟨rfl, d9⟩; have B9 := Aside0.mk (below_step B8.out d9.below); clear d9; rw [one_pairs]))))
  go_ret
  exact ⟨rfl, B10.out⟩
end Go.Proofs.YtmldefednihohaaDoor.Grp
