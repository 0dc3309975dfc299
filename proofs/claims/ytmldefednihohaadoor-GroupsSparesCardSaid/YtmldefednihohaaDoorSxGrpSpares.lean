/- GroupsSpares says true (a plain walk); printed by gen_spares.py. -/
import Derived.Test.YtmldefednihohaaDoorSxGrpSpares0
namespace Go.Proofs.YtmldefednihohaaDoor.Grp
open Go.RowKit Go.Proofs.YtmldefednihohaaDoorW.PrintWords Go.Proofs.YtmldefednihohaaDoorW.PrintLast Go.Proofs.YtmldefednihohaaDoorW.PrintMore
set_option linter.unusedVariables false
set_option linter.unusedSimpArgs false
set_option maxRecDepth 100000
attribute [local go_sem] build3 build4 build5 build6
set_option maxHeartbeats 16000000 in
theorem spares_walk (w : World) (a a3 : Int) (A1 : Option Addr) (n1 c1 : Nat) (G1 : Nat → OpD) (A2 : Option Addr) (n2 c2 : Nat) (G2 : Nat → OpD) (h1 : OpsAt w A1 n1 G1) (h2 : OpsAt w A2 n2 G2) (hc1 : n1 ≤ c1) (hc2 : n2 ≤ c2) (hm1 : n1 ≤ 9223372036854775807) (hm2 : n2 ≤ 9223372036854775807) (hgl : GL w) :
    Calls Tryd.prog 8 #[.int .i64 a, .slice A1 n1 c1, .slice A2 n2 c2, .int .i64 a3] w fun e w' => e = .returned (.bool true) ∧ Below w.heap.size w w' := by
  have HO1 := Aside0.mk h1
  have HO2 := Aside0.mk h2
  have HC1 := Aside0.mk hc1
  have HC2 := Aside0.mk hc2
  have HN1 := Aside0.mk hm1
  have HN2 := Aside0.mk hm2
  have HG := Aside0.mk hgl
  obtain ⟨k, k1, k2, w1e, w2e⟩ := forty a
  have HK1 := Aside0.mk k1
  have HK2 := Aside0.mk k2
  have HW1 := Aside0.mk w1e
  have HW2 := Aside0.mk w2e
  clear h1 h2 hc1 hc2 hm1 hm2 hgl k1 k2
  go_enter Tryd.func8, Tryd.ntmps8
  go_upto_region 3 with (first
    | (go_at_call 16; ((with_reducible refine (few_calls _ A1 n1 c1 G1 HO1.out HC1.out HN1.out).mono ?_); rintro e1 w1 ⟨m1, rfl, p1, p2, hw⟩; subst hw; have HM1 := Aside0.mk p1; have HM1' := Aside0.mk p2; clear p1 p2))
    | (go_at_call 16; ((with_reducible refine (few_calls _ A2 n2 c2 G2 HO2.out HC2.out HN2.out).mono ?_); rintro e1 w1 ⟨m2, rfl, p1, p2, hw⟩; subst hw; have HM2 := Aside0.mk p1; have HM2' := Aside0.mk p2; clear p1 p2)))
  rw [HW2.out]
  have hmk : most (k : Int) = k := by unfold most; rw [if_pos (by have h1 := HK1.out; have h2 := HK2.out; omega), Int.toNat_natCast]
  have HMK := Aside0.mk hmk
  clear hmk w1e w2e
  have hk0 : ¬ (k : Int) = 0 := by have := HK1.out; omega
  have hk00 : ¬ k = 0 := by have := HK1.out; omega
  go_upto_region 4 with (fail)
  generalize (wrap64 (a3.tmod (k : Int) + (k : Int))).tmod (k : Int) = aa
  clear hk0 hk00
  go_upto_region 5 with (go_at_call 17; (refine (made_calls w1 (k : Int)).mono ?_; rintro e2 w2 ⟨x, r, rfl, d2, b2⟩; (rw [HMK.out] at d2); have D2 := Aside0.mk d2; have B2 := Aside0.mk b2; clear d2 b2))
  have HPO := Aside0.mk (PO.start D2.out B2.out)
  generalize w2.alloc (.cells #[.pointer x, .pointer r] 36) = W3 at HPO ⊢
  clear D2 B2
  generalize w2.heap.size = q at HPO ⊢
  obtain ⟨xg, hxg⟩ := HPO.out.some_ HK1.out
  subst hxg
  obtain ⟨p0, p1⟩ := HPO.out.cells
  go_wp2
  clear p0 p1
  go_loopg [11] (m1 + 1) (fun kq v11 w' => ∃ (i : Nat) (S : Nat → Prop) (L : Nat → Nat → Bool), v11 = .int .i64 (i : Int) ∧ Aside0 (kq + i = m1 + 1) ∧ Aside0 (i ≤ m1) ∧ Aside0 (PO w1 w' q (some xg) r k S L))
  case atStart => exact ⟨0, _, _, rfl, ⟨rfl⟩, ⟨Nat.zero_le _⟩, HPO⟩
  case round =>
    clear HPO
    obtain ⟨i, S, L, rfl, HK, HJ, HPO⟩ := hrel
    cases gk with
    | zero => exact absurd HK.out (by have := HJ.out; omega)
    | succ k1 =>
      by_cases hlt : i < m1
      · have hi0 : (0 : Int) ≤ (i : Int) := by omega
        have him : (i : Int) < (m1 : Int) := by omega
        have HW3 : Aside0 (wrap64 ((i : Int) + 1) = ((i + 1 : Nat) : Int)) := ⟨wrap_up i m1 (by omega) (by have := HM1'.out; omega)⟩
        obtain ⟨ad, hA, ho⟩ := HO1.out i (by have := HM1.out; omega)
        subst hA
        obtain ⟨o0, o1, o2, o3, _, _⟩ := ho.below HPO.out.low
        clear ho
        generalize G1 i = d at o0 o1 o2 o3
        obtain ⟨d0, d1, d2, d3⟩ := d
        simp only at o0 o1 o2 o3
        obtain ⟨p0, p1⟩ := HPO.out.cells
        go_upto_region 10 with (fail)
        go_region_with (go_at_call 18; (refine ((HPO.out.below (dr_below _)).calls2 HG.out d0 d1 d2 d3).mono ?_; rintro e8 w8 ⟨rfl, L8, h8, f8⟩; have H8 := Aside0.mk h8; have F8 := Aside0.mk f8; clear h8 f8))
        all_goals (try go_wp2)
        all_goals (go_roundg k1; (case measure => omega); case rel => exact ⟨i + 1, _, _, by first | rfl | (rw [← HW3.out]), ⟨by have := HK.out; omega⟩, ⟨by omega⟩, by first | exact H8 | exact ⟨H8.out.below (dnb _ _)⟩⟩)
      · have hjn : i = m1 := by have := HJ.out; omega
        subst hjn
        have hd : decide ((i : Int) < (i : Int)) = false := decide_eq_false (by omega)
        obtain ⟨R, hR⟩ := isR_ex L
        have HR := Aside0.mk hR
        have HS0 : Aside0 (∀ j, S j → j < wr.heap.size) := ⟨HPO.out.d.lt1⟩
        obtain ⟨w10, hwr⟩ : ∃ w10, w10 = wr := ⟨_, rfl⟩
        rw [← hwr] at HPO HS0 ⊢
        have HBZ : Aside0 (Below w10.heap.size w10 w10) := ⟨Below.refl _ _⟩
        clear hR hd hwr HJ HK
        obtain ⟨p0, p1⟩ := HPO.out.cells
        go_upto_region 18 with (first
          | (go_at_call 14; ((with_reducible refine ((HPO.out.below HBZ.out).above HG.out HR.out aa (Below.refl w10.heap.size w10)).mono ?_); rintro e11 w11 ⟨A11, m11, c11, rfl, o_, b_⟩; obtain ⟨p011, p111⟩ := (HPO.out.below (below_step HBZ.out b_)).cells; have O11 := Aside0.mk o_; have B11 := Aside0.mk b_; clear o_ b_))
          | (go_at_call 14; ((with_reducible refine ((HPO.out.below (below_step HBZ.out B11.out)).above HG.out HR.out aa (Below.refl w11.heap.size w11)).mono ?_); rintro e12 w12 ⟨A12, m12, c12, rfl, o_, b_⟩; obtain ⟨p012, p112⟩ := (HPO.out.below (below_step (below_step HBZ.out B11.out) b_)).cells; have O12 := Aside0.mk o_; have B12 := Aside0.mk b_; clear o_ b_))
          | (go_at_call 15; ((with_reducible refine ((HPO.out.below (below_step (below_step HBZ.out B11.out) B12.out)).belw HR.out aa (Below.refl w12.heap.size w12)).mono ?_); rintro e13 w13 ⟨A13, m13, c13, rfl, o_, b_⟩; obtain ⟨p013, p113⟩ := (HPO.out.below (below_step (below_step (below_step HBZ.out B11.out) B12.out) b_)).cells; have O13 := Aside0.mk o_; have B13 := Aside0.mk b_; clear o_ b_))
          | (go_at_call 15; ((with_reducible refine ((HPO.out.below (below_step (below_step (below_step HBZ.out B11.out) B12.out) B13.out)).belw HR.out aa (Below.refl w13.heap.size w13)).mono ?_); rintro e14 w14 ⟨A14, m14, c14, rfl, o_, b_⟩; obtain ⟨p014, p114⟩ := (HPO.out.below (below_step (below_step (below_step (below_step HBZ.out B11.out) B12.out) B13.out) b_)).cells; have O14 := Aside0.mk o_; have B14 := Aside0.mk b_; clear o_ b_))
          | (go_at_call 24; ((with_reducible refine ((HPO.out.below (below_step (below_step (below_step (below_step HBZ.out B11.out) B12.out) B13.out) B14.out)).rabove HR.out aa (Below.refl w14.heap.size w14)).mono ?_); rintro e15 w15 ⟨A15, m15, c15, rfl, o_, b_⟩; obtain ⟨p015, p115⟩ := (HPO.out.below (below_step (below_step (below_step (below_step (below_step HBZ.out B11.out) B12.out) B13.out) B14.out) b_)).cells; have O15 := Aside0.mk o_; have B15 := Aside0.mk b_; clear o_ b_))
          | (go_at_call 25; ((with_reducible refine ((HPO.out.below (below_step (below_step (below_step (below_step (below_step HBZ.out B11.out) B12.out) B13.out) B14.out) B15.out)).rbelow HR.out aa (Below.refl w15.heap.size w15)).mono ?_); rintro e16 w16 ⟨A16, m16, c16, rfl, o_, b_⟩; obtain ⟨p016, p116⟩ := (HPO.out.below (below_step (below_step (below_step (below_step (below_step (below_step HBZ.out B11.out) B12.out) B13.out) B14.out) B15.out) b_)).cells; have O16 := Aside0.mk o_; have B16 := Aside0.mk b_; clear o_ b_)))
        have HSB := Aside0.mk (below_step (below_step (below_step (below_step (below_step B11.out B12.out) B13.out) B14.out) B15.out) B16.out)
        have HZ : Aside0 (w10.heap.size ≤ w11.heap.size ∧ w11.heap.size ≤ w12.heap.size ∧ w12.heap.size ≤ w13.heap.size ∧ w13.heap.size ≤ w14.heap.size ∧ w14.heap.size ≤ w15.heap.size ∧ w15.heap.size ≤ w16.heap.size) := ⟨B11.out.size, B12.out.size, B13.out.size, B14.out.size, B15.out.size, B16.out.size⟩
        have O11 := Aside0.mk (((((O11.out.below B12.out).below B13.out).below B14.out).below B15.out).below B16.out)
        have O12 := Aside0.mk ((((O12.out.below B13.out).below B14.out).below B15.out).below B16.out)
        have O13 := Aside0.mk (((O13.out.below B14.out).below B15.out).below B16.out)
        have O14 := Aside0.mk ((O14.out.below B15.out).below B16.out)
        have O15 := Aside0.mk (O15.out.below B16.out)
        have HPS := Aside0.mk (HPO.out.below HSB.out)
        have HQZ0 : Aside0 (q < w10.heap.size ∧ w1.heap.size ≤ w10.heap.size) := ⟨blk_lt HPO.out.t, HPO.out.low.size⟩
        clear B11 B12 B13 B14 B15 B16 p0 p1 HPO
        go_wp2
        clear HSB
        go_loopg [18] (m2 + 1) (fun kq v18 w' => ∃ (i : Nat) (S : Nat → Prop) (L : Nat → Nat → Bool), v18 = .int .i64 (i : Int) ∧ Aside0 (kq + i = m2 + 1) ∧ Aside0 (i ≤ m2) ∧ Aside0 (PO w1 w' q (some xg) r k S L) ∧ Aside0 (∀ j, S j → j < w10.heap.size ∨ w16.heap.size ≤ j) ∧ Aside0 (Fr w16 w' (fun j => j < w10.heap.size ∨ w16.heap.size ≤ j)))
        case atStart => exact ⟨0, _, _, rfl, ⟨rfl⟩, ⟨Nat.zero_le _⟩, HPS, ⟨fun j hj => .inl (HS0.out j hj)⟩, ⟨Fr.refl _ _⟩⟩
        case round =>
          obtain ⟨i, S, L, rfl, HK, HJ, HPO, HT, HF⟩ := hrel
          cases gk with
          | zero => exact absurd HK.out (by have := HJ.out; omega)
          | succ k1 =>
            by_cases hlt : i < m2
            · have hi0 : (0 : Int) ≤ (i : Int) := by omega
              have him : (i : Int) < (m2 : Int) := by omega
              have HW3 : Aside0 (wrap64 ((i : Int) + 1) = ((i + 1 : Nat) : Int)) := ⟨wrap_up i m2 (by omega) (by have := HM2'.out; omega)⟩
              obtain ⟨ad, hA, ho⟩ := HO2.out i (by have := HM2.out; omega)
              subst hA
              obtain ⟨o0, o1, o2, o3, _, _⟩ := ho.below HPO.out.low
              clear ho
              generalize G2 i = d at o0 o1 o2 o3
              obtain ⟨d0, d1, d2, d3⟩ := d
              simp only at o0 o1 o2 o3
              obtain ⟨p0, p1⟩ := HPO.out.cells
              go_upto_region 21 with (fail)
              go_region_with (go_at_call 18; (refine ((HPO.out.below (dr_below _)).calls2 HG.out d0 d1 d2 d3).mono ?_; rintro e8 w8 ⟨rfl, L8, h8, f8⟩; have H8 := Aside0.mk h8; have HT8 : Aside0 (∀ j, Mo S wr.drew w8 j → j < w10.heap.size ∨ w16.heap.size ≤ j) := ⟨fun j hj => hj.1.elim (HT.out j) (fun h => .inr (Nat.le_trans HF.out.1.size h))⟩; have HF8 : Aside0 (Fr w16 w8 (fun j => j < w10.heap.size ∨ w16.heap.size ≤ j)) := ⟨(HF.out.then_ (Fr.of_below (dr_below wr) (fun _ => False)) (fun _ h => h.elim)).then_ f8 (fun j hj => .inl (HT.out j hj))⟩; clear h8 f8))
              all_goals (try go_wp2)
              all_goals (go_roundg k1; (case measure => omega); case rel => first | exact ⟨i + 1, _, _, by first | rfl | (rw [← HW3.out]), ⟨by have := HK.out; omega⟩, ⟨by omega⟩, H8, HT8, HF8⟩ | exact ⟨i + 1, _, _, by first | rfl | (rw [← HW3.out]), ⟨by have := HK.out; omega⟩, ⟨by omega⟩, ⟨H8.out.below (dnb _ _)⟩, HT8, ⟨HF8.out.then_ (Fr.of_below (dnb _ _) (fun _ => False)) (fun _ h => h.elim)⟩⟩)
            · have hjn : i = m2 := by have := HJ.out; omega
              subst hjn
              have hd : decide ((i : Int) < (i : Int)) = false := decide_eq_false (by omega)
              obtain ⟨R2, hR2⟩ := isR_ex L
              have HR2 := Aside0.mk hR2
              obtain ⟨w20, hwr⟩ : ∃ w20, w20 = wr := ⟨_, rfl⟩
              rw [← hwr] at HPO HF ⊢
              have HS1 : Aside0 (∀ j, S j → j < w20.heap.size) := ⟨HPO.out.d.lt1⟩
              clear hR2 hd hwr HJ HK
              obtain ⟨p0, p1⟩ := HPO.out.cells
              go_upto_region 25 with (first
                | (go_at_call 14; ((with_reducible refine (HPO.out.above HG.out HR2.out aa (Below.refl w20.heap.size w20)).mono ?_); rintro e21 w21 ⟨A21, m21, c21, rfl, o_, b_⟩; obtain ⟨p021, p121⟩ := (HPO.out.below (below_step (Below.refl w20.heap.size w20) b_)).cells; have O21 := Aside0.mk o_; have B21 := Aside0.mk b_; clear o_ b_))
                | (go_at_call 15; ((with_reducible refine (HPO.out.belw HR2.out aa (below_step (Below.refl w20.heap.size w20) B21.out)).mono ?_); rintro e22 w22 ⟨A22, m22, c22, rfl, o_, b_⟩; obtain ⟨p022, p122⟩ := (HPO.out.below (below_step (below_step (Below.refl w20.heap.size w20) B21.out) b_)).cells; have O22 := Aside0.mk o_; have B22 := Aside0.mk b_; clear o_ b_)))
              have HZ2 : Aside0 (w16.heap.size ≤ w20.heap.size ∧ w20.heap.size ≤ w21.heap.size ∧ w21.heap.size ≤ w22.heap.size) := ⟨HF.out.1.size, B21.out.size, B22.out.size⟩
              have B20 := Aside0.mk (below_step B21.out B22.out)
              have O11 := Aside0.mk (((O11.out.kept HF.out (fun j hj => by have z1 := HZ.out; rcases hj with h | h <;> omega)).below B21.out).below B22.out)
              have O12 := Aside0.mk (((O12.out.kept HF.out (fun j hj => by have z1 := HZ.out; rcases hj with h | h <;> omega)).below B21.out).below B22.out)
              have O13 := Aside0.mk (((O13.out.kept HF.out (fun j hj => by have z1 := HZ.out; rcases hj with h | h <;> omega)).below B21.out).below B22.out)
              have O14 := Aside0.mk (((O14.out.kept HF.out (fun j hj => by have z1 := HZ.out; rcases hj with h | h <;> omega)).below B21.out).below B22.out)
              have O15 := Aside0.mk (((O15.out.kept HF.out (fun j hj => by have z1 := HZ.out; rcases hj with h | h <;> omega)).below B21.out).below B22.out)
              have O16 := Aside0.mk (((O16.out.kept HF.out (fun j hj => by have z1 := HZ.out; rcases hj with h | h <;> omega)).below B21.out).below B22.out)
              have O21 := Aside0.mk (O21.out.below B22.out)
              have HPE := Aside0.mk (HPO.out.below B20.out)
              have HL1 : Aside0 ((aboveS k R aa).length ≤ 4096 ∧ (belowS k R aa).length ≤ 4096 ∧ (aboveS k R2 aa).length ≤ 4096 ∧ (belowS k R2 aa).length ≤ 4096) := ⟨by have h0 := HK2.out; have h1 := above_le k R aa; have h2 := below_le k R aa; have h3 := above_le k R2 aa; have h4 := below_le k R2 aa; omega⟩
              clear HPO HF B20 B21 B22 p0 p1
              obtain ⟨p0, p1⟩ := HPE.out.cells
              go_upto_region 27 with (first
                | (go_at_call 26; ((with_reducible refine (same3 (O11.out.below (Below.refl w22.heap.size w22)) (O15.out.below (Below.refl w22.heap.size w22)) HL1.out.1).mono ?_); rintro e31 w31 ⟨rfl, b_⟩; obtain ⟨p031, p131⟩ := (HPE.out.below (below_step (Below.refl w22.heap.size w22) b_)).cells; have B31 := Aside0.mk b_; clear b_))
                | (go_at_call 26; ((with_reducible refine (same3 (O12.out.below (below_step (Below.refl w22.heap.size w22) B31.out)) (O15.out.below (below_step (Below.refl w22.heap.size w22) B31.out)) HL1.out.1).mono ?_); rintro e32 w32 ⟨rfl, b_⟩; obtain ⟨p032, p132⟩ := (HPE.out.below (below_step (below_step (Below.refl w22.heap.size w22) B31.out) b_)).cells; have B32 := Aside0.mk b_; clear b_))
                | (go_at_call 26; ((with_reducible refine (same3 (O13.out.below (below_step (below_step (Below.refl w22.heap.size w22) B31.out) B32.out)) (O16.out.below (below_step (below_step (Below.refl w22.heap.size w22) B31.out) B32.out)) HL1.out.2.1).mono ?_); rintro e33 w33 ⟨rfl, b_⟩; obtain ⟨p033, p133⟩ := (HPE.out.below (below_step (below_step (below_step (Below.refl w22.heap.size w22) B31.out) B32.out) b_)).cells; have B33 := Aside0.mk b_; clear b_))
                | (go_at_call 26; ((with_reducible refine (same3 (O14.out.below (below_step (below_step (below_step (Below.refl w22.heap.size w22) B31.out) B32.out) B33.out)) (O16.out.below (below_step (below_step (below_step (Below.refl w22.heap.size w22) B31.out) B32.out) B33.out)) HL1.out.2.1).mono ?_); rintro e34 w34 ⟨rfl, b_⟩; obtain ⟨p034, p134⟩ := (HPE.out.below (below_step (below_step (below_step (below_step (Below.refl w22.heap.size w22) B31.out) B32.out) B33.out) b_)).cells; have B34 := Aside0.mk b_; clear b_))
                | (go_at_call 24; ((with_reducible refine (HPE.out.rabove HR2.out aa (below_step (below_step (below_step (below_step (Below.refl w22.heap.size w22) B31.out) B32.out) B33.out) B34.out)).mono ?_); rintro e35 w35 ⟨A35, m35, c35, rfl, o_, b_⟩; have O35 := Aside0.mk o_; have B35 := Aside0.mk b_; clear o_ b_))
                | (go_at_call 26; ((with_reducible refine (same3 (O21.out.below (below_step (below_step (below_step (below_step (below_step (Below.refl w22.heap.size w22) B31.out) B32.out) B33.out) B34.out) B35.out)) O35.out HL1.out.2.2.1).mono ?_); rintro e36 w36 ⟨rfl, b_⟩; obtain ⟨p036, p136⟩ := (HPE.out.below (below_step (below_step (below_step (below_step (below_step (below_step (Below.refl w22.heap.size w22) B31.out) B32.out) B33.out) B34.out) B35.out) b_)).cells; have B36 := Aside0.mk b_; clear b_))
                | (go_at_call 25; ((with_reducible refine (HPE.out.rbelow HR2.out aa (below_step (below_step (below_step (below_step (below_step (below_step (Below.refl w22.heap.size w22) B31.out) B32.out) B33.out) B34.out) B35.out) B36.out)).mono ?_); rintro e37 w37 ⟨A37, m37, c37, rfl, o_, b_⟩; have O37 := Aside0.mk o_; have B37 := Aside0.mk b_; clear o_ b_))
                | (go_at_call 26; ((with_reducible refine (same3 (O22.out.below (below_step (below_step (below_step (below_step (below_step (below_step (below_step (Below.refl w22.heap.size w22) B31.out) B32.out) B33.out) B34.out) B35.out) B36.out) B37.out)) O37.out HL1.out.2.2.2).mono ?_); rintro e38 w38 ⟨rfl, b_⟩; obtain ⟨p038, p138⟩ := (HPE.out.below (below_step (below_step (below_step (below_step (below_step (below_step (below_step (below_step (Below.refl w22.heap.size w22) B31.out) B32.out) B33.out) B34.out) B35.out) B36.out) B37.out) b_)).cells; have B38 := Aside0.mk b_; clear b_)))
              have HE : Aside0 (Below w22.heap.size w22 w38) := ⟨(below_step (below_step (below_step (below_step (below_step (below_step (below_step (below_step (Below.refl w22.heap.size w22) B31.out) B32.out) B33.out) B34.out) B35.out) B36.out) B37.out) B38.out)⟩
              have O11 := Aside0.mk (O11.out.below HE.out)
              have O12 := Aside0.mk (O12.out.below HE.out)
              have O13 := Aside0.mk (O13.out.below HE.out)
              have O14 := Aside0.mk (O14.out.below HE.out)
              have O21 := Aside0.mk (O21.out.below HE.out)
              have O22 := Aside0.mk (O22.out.below HE.out)
              have HP8 := Aside0.mk (HPE.out.below HE.out)
              have HZ3 : Aside0 (w22.heap.size ≤ w38.heap.size) := ⟨HE.out.size⟩
              have hba := below_alloc (Below.refl w38.heap.size w38) (.cells #[.slice A11 m11 c11, .slice A12 m12 c12, .slice A13 m13 c13, .slice A14 m14 c14, .slice A21 m21 c21, .slice A22 m22 c22] 29)
              have HBA := Aside0.mk hba
              have HST : Aside0 (GrpAp.St 6 w38.heap.size (fun k => (six (A11, m11, c11) (A12, m12, c12) (A13, m13, c13) (A14, m14, c14) (A21, m21, c21) (A22, m22, c22) k).1) (fun k => (six (A11, m11, c11) (A12, m12, c12) (A13, m13, c13) (A14, m14, c14) (A21, m21, c21) (A22, m22, c22) k).2.1) (fun k => (six (A11, m11, c11) (A12, m12, c12) (A13, m13, c13) (A14, m14, c14) (A21, m21, c21) (A22, m22, c22) k).2.2) (w38.alloc (.cells #[.slice A11 m11 c11, .slice A12 m12 c12, .slice A13 m13 c13, .slice A14 m14 c14, .slice A21 m21 c21, .slice A22 m22 c22] 29)) (w38.alloc (.cells #[.slice A11 m11 c11, .slice A12 m12 c12, .slice A13 m13 c13, .slice A14 m14 c14, .slice A21 m21 c21, .slice A22 m22 c22] 29)) (six (aboveS k R aa) (aboveS k R aa) (belowS k R aa) (belowS k R aa) (aboveS k R2 aa) (belowS k R2 aa))) := ⟨by
                have z1 := HZ.out
                have z2 := HZ2.out
                have z3 := HZ3.out
                exact st_six (O11.out.below HBA.out) (O12.out.below HBA.out) (O13.out.below HBA.out) ((O14.out.below HBA.out).wide (Nat.le_refl _) (y1 := w20.heap.size) (by omega)) (O21.out.below HBA.out) (O22.out.below HBA.out) (by omega) (by omega) (by omega) (by omega) (by omega) (by omega) z3 (heap_alloc_new w38 _)⟩
              have HNN : Aside0 (∀ j, j < 6 → (six (A11, m11, c11) (A12, m12, c12) (A13, m13, c13) (A14, m14, c14) (A21, m21, c21) (A22, m22, c22) j).2.1 ≤ 4096) := ⟨six_all (p := fun j => (six (A11, m11, c11) (A12, m12, c12) (A13, m13, c13) (A14, m14, c14) (A21, m21, c21) (A22, m22, c22) j).2.1 ≤ 4096) (by have h := O11.out.len; have h2 := HL1.out; simp only [six]; simp only at h; omega) (by have h := O12.out.len; have h2 := HL1.out; simp only [six]; simp only at h; omega) (by have h := O13.out.len; have h2 := HL1.out; simp only [six]; simp only at h; omega) (by have h := O14.out.len; have h2 := HL1.out; simp only [six]; simp only at h; omega) (by have h := O21.out.len; have h2 := HL1.out; simp only [six]; simp only at h; omega) (by have h := O22.out.len; have h2 := HL1.out; simp only [six]; simp only at h; omega)⟩
              have HTT : Aside0 (∀ j, j < 6 → ∀ b, (GrpAp.rowV (fun k => (six (A11, m11, c11) (A12, m12, c12) (A13, m13, c13) (A14, m14, c14) (A21, m21, c21) (A22, m22, c22) k).1) (fun k => (six (A11, m11, c11) (A12, m12, c12) (A13, m13, c13) (A14, m14, c14) (A21, m21, c21) (A22, m22, c22) k).2.1) (fun k => (six (A11, m11, c11) (A12, m12, c12) (A13, m13, c13) (A14, m14, c14) (A21, m21, c21) (A22, m22, c22) k).2.2) j).ownBlock = some b → (w10.heap.size ≤ b ∧ b < w14.heap.size) ∨ (w20.heap.size ≤ b ∧ b < w22.heap.size)) := ⟨by
                have z1 := HZ.out
                have z2 := HZ2.out
                exact six_all (fun b hb => by have := O11.out.lo b hb; omega) (fun b hb => by have := O12.out.lo b hb; omega) (fun b hb => by have := O13.out.lo b hb; omega) (fun b hb => by have := O14.out.lo b hb; omega) (fun b hb => by have := O21.out.lo b hb; omega) (fun b hb => by have := O22.out.lo b hb; omega)⟩
              have HPA := Aside0.mk (HP8.out.below HBA.out)
              have HQZ : Aside0 (q < w10.heap.size ∧ w1.heap.size ≤ w10.heap.size) := HQZ0
              clear hba p0 p1
              go_upto_region 29 with (go_at_call 27; (refine (GrpAp.apart_calls _ 6 w38.heap.size 6 _ _ _ _ HST.out HNN.out (by decide) (by decide) (fun b => (w10.heap.size ≤ b ∧ b < w14.heap.size) ∨ (w20.heap.size ≤ b ∧ b < w22.heap.size)) HTT.out).mono ?_; rintro e40 w40 ⟨rfl, f40⟩; have F40 := Aside0.mk f40; clear f40))
              have HP40 : Aside0 (PO w1 w40 q (some xg) r k S L) := ⟨HPA.out.far F40.out (fun b hb => by
                have z0 := HQZ.out
                have z1 := HZ.out
                have z2 := HZ2.out
                refine ⟨by omega, fun hs => ?_, by omega⟩
                have z3 := HS1.out b hs
                have z4 := HT.out b hs
                omega)⟩
              obtain ⟨p0, p1⟩ := HP40.out.cells
              go_wp2_with (first
                | (go_at_call 18; ((with_reducible refine (HP40.out.calls HG.out 4 0 aa 0).mono ?_); rintro e41 w41 ⟨rfl, S41, L41, h41⟩; obtain ⟨p410, p411⟩ := h41.cells; have H41 := Aside0.mk h41; clear h41))
                | (go_at_call 18; ((with_reducible refine (H41.out.calls HG.out 5 0 0 aa).mono ?_); rintro e42 w42 ⟨rfl, S42, L42, h42⟩; obtain ⟨p420, p421⟩ := h42.cells; have H42 := Aside0.mk h42; clear h42))
                | (go_at_call 18; ((with_reducible refine (H42.out.calls HG.out 6 0 0 0).mono ?_); rintro e43 w43 ⟨rfl, S43, L43, h43⟩; have H43 := Aside0.mk h43; clear h43)))
              go_ret
              exact ⟨rfl, H43.out.low⟩
end Go.Proofs.YtmldefednihohaaDoor.Grp
