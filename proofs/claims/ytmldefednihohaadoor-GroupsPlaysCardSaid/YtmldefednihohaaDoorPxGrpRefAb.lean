/- The reference's Above and Below (plain walks). -/
import Derived.Test.YtmldefednihohaaDoorPxGrpRefs
namespace Go.Proofs.YtmldefednihohaaDoor.Grp
open Go.RowKit Go.Proofs.YtmldefednihohaaDoorW.PrintWords Go.Proofs.YtmldefednihohaaDoorW.PrintLast Go.Proofs.YtmldefednihohaaDoorW.PrintMore
set_option linter.unusedVariables false
set_option linter.unusedSimpArgs false
set_option maxRecDepth 100000
set_option maxHeartbeats 4000000 in
theorem rabove_calls (S : Nat → Prop) (w : World) (v : Value) (n : Nat) (L R : Nat → Nat → Bool) (a : Int) (h : RX S w v n L) (hr : IsR L R) :
    Calls Tryd.prog 24 #[v, .int .i64 a] w fun e w' => ∃ u, e = .returned u ∧ I64.R 3 w' w.heap.size (fun _ => True) u (aboveS n R a) ∧ Below w.heap.size w w' := by
  obtain ⟨xa, hxa⟩ : ∃ xa, okG n a = xa := ⟨_, rfl⟩
  have HXA := Aside0.mk hxa
  have H := Aside0.mk h
  unfold aboveS
  rw [hxa]
  cases xa with
  | false =>
    clear h hr hxa
    go_enter Tryd.func24, Tryd.ntmps24
    go_wp2_with (go_at_call 42; ((with_reducible refine (rgroup_any S w v n L a false H.out HXA.out).mono ?_); rintro e1 w1 ⟨rfl, d1⟩; have B1 := Aside0.mk d1.below; clear d1))
    go_ret
    exact ⟨_, rfl, Kd.R_nil _ _ _ _ _, B1.out⟩
  | true =>
    obtain ⟨i, rfl, hi⟩ := okG_nat hxa
    rcases h with ⟨h0, _⟩ | ⟨r, A, c, l, rfl, h, hs, s1, s2⟩
    · omega
    · have HV := Aside0.mk h
      have HS := Aside0.mk hs
      have HL := Aside0.mk (lenL h)
      have HI := Aside0.mk hi
      have HR := Aside0.mk hr
      have HN4 := Aside0.mk h.n4
      clear h hs hr hxa hi
      rw [Int.toNat_natCast, if_pos rfl]
      go_enter Tryd.func24, Tryd.ntmps24
      go_wp2_with (first
        | (go_at_call 42; ((with_reducible refine (rgroup_any S w _ n L (i : Int) true H.out HXA.out).mono ?_); rintro e1 w1 ⟨rfl, d1⟩; have B1 := Aside0.mk d1.below; clear d1))
        | (go_at_call 44; ((with_reducible refine (rfrom_calls w1 r n A c l L i (HV.out.below B1.out) HS.out HI.out (by have := HL.out; omega)).mono ?_); rintro e3 w3 ⟨gb, cb, P, rfl, hB, hP⟩; have HB := Aside0.mk hB; have HP := Aside0.mk hP; clear hB hP))
        | (go_at_call 43; ((with_reducible refine (rlisted_calls HB.out HN4.out).mono ?_); rintro e4 w4 ⟨v4, rfl, h4, b4⟩; have B4 := Aside0.mk (below_step (below_step B1.out HB.out.low) b4); have R4 := Aside0.mk h4; clear h4 b4)))
      go_ret
      refine ⟨_, rfl, ?_, B4.out⟩
      rw [show elems (R i) n = elems P n from elems_congr n (fun x _ => bool_iff ((HR.out i x).trans (HP.out x).symm))]
      exact Kd.R_lower R4.out (Nat.le_trans B1.out.size HB.out.low.size)
set_option maxHeartbeats 4000000 in
theorem rbelow_calls (S : Nat → Prop) (w : World) (v : Value) (n : Nat) (L R : Nat → Nat → Bool) (a : Int) (h : RX S w v n L) (hr : IsR L R) :
    Calls Tryd.prog 25 #[v, .int .i64 a] w fun e w' => ∃ u, e = .returned u ∧ I64.R 3 w' w.heap.size (fun _ => True) u (belowS n R a) ∧ Below w.heap.size w w' := by
  obtain ⟨xa, hxa⟩ : ∃ xa, okG n a = xa := ⟨_, rfl⟩
  have HXA := Aside0.mk hxa
  have H := Aside0.mk h
  unfold belowS
  rw [hxa]
  cases xa with
  | false =>
    clear h hr hxa
    go_enter Tryd.func25, Tryd.ntmps25
    go_wp2_with (go_at_call 42; ((with_reducible refine (rgroup_any S w v n L a false H.out HXA.out).mono ?_); rintro e1 w1 ⟨rfl, d1⟩; have B1 := Aside0.mk d1.below; clear d1))
    go_ret
    exact ⟨_, rfl, Kd.R_nil _ _ _ _ _, B1.out⟩
  | true =>
    obtain ⟨i, rfl, hi⟩ := okG_nat hxa
    rcases h with ⟨h0, _⟩ | ⟨r, A, c, l, rfl, h, hs, s1, s2⟩
    · omega
    · have HV := Aside0.mk h
      have HS := Aside0.mk hs
      have HL := Aside0.mk (lenL h)
      have HI := Aside0.mk hi
      have HR := Aside0.mk hr
      have HN4 := Aside0.mk h.n4
      clear h hs hr hxa hi
      rw [Int.toNat_natCast, if_pos rfl]
      go_enter Tryd.func25, Tryd.ntmps25
      go_wp2_with (first
        | (go_at_call 42; ((with_reducible refine (rgroup_any S w _ n L (i : Int) true H.out HXA.out).mono ?_); rintro e1 w1 ⟨rfl, d1⟩; have B1 := Aside0.mk d1.below; clear d1))
        | (go_at_call 45; ((with_reducible refine (rto_calls w1 r n A c l L i (HV.out.below B1.out) HS.out HI.out (by have := HL.out; omega)).mono ?_); rintro e3 w3 ⟨gb, cb, P, rfl, hB, hP⟩; have HB := Aside0.mk hB; have HP := Aside0.mk hP; clear hB hP))
        | (go_at_call 43; ((with_reducible refine (rlisted_calls HB.out HN4.out).mono ?_); rintro e4 w4 ⟨v4, rfl, h4, b4⟩; have B4 := Aside0.mk (below_step (below_step B1.out HB.out.low) b4); have R4 := Aside0.mk h4; clear h4 b4)))
      go_ret
      refine ⟨_, rfl, ?_, B4.out⟩
      rw [show elems (fun a => R a i) n = elems P n from elems_congr n (fun x _ => bool_iff ((HR.out x i).trans ((Rch.rev L i x).symm.trans (HP.out x).symm)))]
      exact Kd.R_lower R4.out (Nat.le_trans B1.out.size HB.out.low.size)
end Go.Proofs.YtmldefednihohaaDoor.Grp
