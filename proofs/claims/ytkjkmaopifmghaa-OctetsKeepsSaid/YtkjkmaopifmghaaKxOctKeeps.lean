/- The walk of OctetsKeeps. -/
import Derived.Test.YtkjkmaopifmghaaKxOctKeepsP
namespace Go.Proofs.Ytkjkmaopifmghaa.Oct
open Go.RowKit Go.Proofs.YtkjkmaopifmghaaW.PrintWords Go.Proofs.YtkjkmaopifmghaaW.PrintLast Go.Proofs.YtkjkmaopifmghaaW.PrintMore Go.Proofs.Ytkjkmaopifmghaa.OctShort Go.Proofs.Ytkjkmaopifmghaa.OctCopy Go.Proofs.Ytkjkmaopifmghaa.OctNum Go.Proofs.Ytkjkmaopifmghaa.PureShort
set_option linter.unusedVariables false
set_option linter.unusedSimpArgs false
set_option maxRecDepth 100000
set_option maxHeartbeats 8000000 in
theorem keeps_walk (Al Ab : Option Addr) (cl cb n : Nat) (G : Nat → PutD) (J : Nat → Nat) (b : List Int) (cut : Int) (j0 : Nat) (w : World)
    (hG : PutsAt w Al n G) (hJ : ∀ i, i < n → J i < 6 ∧ latchkeykit_Pick.f (G i).kind 6 = some (J i : Int)) (hn : n ≤ 9223372036854775806)
    (hrb : U8.C w Ab b.length b) (hcb : b.length ≤ cb) (hlb : b.length ≤ 140737488351232) (hbb : ∀ x ∈ b, 0 ≤ x ∧ x < 256) (hj0 : j0 < b.length + 1) (hp0 : latchkeykit_Pick.f cut ((b.length : Int) + 1) = some (j0 : Int)) :
    Calls Try.prog 10 #[.slice Al n cl, .slice Ab b.length cb, .int .i64 cut] w fun e w' => e = .returned (.bool true) ∧ Below w.heap.size w w' := by
  have HG := Aside0.mk hG
  have HJ := Aside0.mk hJ
  have HN := Aside0.mk hn
  have HRB := Aside0.mk hrb
  have HCB := Aside0.mk hcb
  have HLB := Aside0.mk hlb
  have HP0 := Aside0.mk hp0
  have HJ0 := Aside0.mk hj0
  obtain ⟨ku, tx, hA, hU⟩ := PureUna.there_back b hbb hlb
  have HA := Aside0.mk hA
  have HU := Aside0.mk hU
  clear hG hJ hn hrb hcb hlb hp0 hj0 hbb hA hU
  go_enter Try.func10, Try.ntmps10
  by_cases hbig : 1073741824 < tot G n
  · have HTB : Aside0 (decide (1073741824 < tot G n) = true) := ⟨decide_eq_true hbig⟩
    go_wp2_with (go_at_call 16; go_loud (refine (tooMuch_calls w Al n cl G HG.out HN.out).mono ?_); rintro e1 w1 ⟨rfl, ⟨m1, rfl⟩⟩; rw [HTB.out])
    go_ret
    exact ⟨rfl, dnb w m1⟩
  · have HTB : Aside0 (decide (1073741824 < tot G n) = false) := ⟨decide_eq_false hbig⟩
    have HTOT : Aside0 (tot G n ≤ 1073741824) := ⟨by omega⟩
    clear hbig
    go_wp2_with (first
      | (go_at_call 16; go_loud (refine (tooMuch_calls w Al n cl G HG.out HN.out).mono ?_); rintro e1 w1 ⟨rfl, ⟨m1, rfl⟩⟩; rw [HTB.out])
      | (go_at_call 12; go_loud (refine (awake_calls _).mono ?_); rintro e2 w2 ⟨rfl, b2⟩; have B2 := Aside0.mk (below_step (dnb w m1) b2); clear b2))
    have hst : KRel w w2.heap.size G J 0 (w2.alloc (.cells #[.slice none 0 0] 36)) := ⟨(WrAt.new w2).mono (fun k hk => Nat.le_trans B2.out.size hk), Fr.of_below (below_step B2.out (below_alloc (Below.refl _ _) _)) _⟩
    have HGW : Aside0 (w.heap.size ≤ w2.heap.size) := ⟨B2.out.size⟩
    obtain ⟨gw, hgw⟩ : ∃ gw, gw = w2.heap.size := ⟨_, rfl⟩
    rw [← hgw] at hst HGW ⊢
    have HST := Aside0.mk hst
    clear hst hgw B2
    go_loopg [8] (n + 1) (fun kq v8 w' => ∃ j : Nat, v8 = .int .i64 (j : Int) ∧ Aside0 (kq + j = n + 1) ∧ Aside0 (j ≤ n) ∧ Aside0 (KRel w gw G J j w'))
    case atStart => exact ⟨0, rfl, ⟨rfl⟩, ⟨Nat.zero_le _⟩, HST⟩
    case round =>
      clear HST
      obtain ⟨j, rfl, HK, HJN, HR⟩ := hrel
      cases gk with
      | zero => exact absurd HK.out (by have := HJN.out; omega)
      | succ k1 =>
        by_cases hlt : j < n
        · obtain ⟨ad, rfl, q, ok⟩ := HG.out j hlt
          have q_ := q.below HR.out.2.low
          have c0 := q_.c0
          have c1 := q_.c1
          have c2 := q_.c2
          have c3 := q_.c3
          have c4 := q_.c4
          have c5 := q_.c5
          have c6 := q_.c6
          have Q := Aside0.mk q
          have OK := Aside0.mk ok
          have hji : (0 : Int) ≤ (j : Int) := by omega
          have hjm : (j : Int) < (n : Int) := by omega
          have HW3 := Aside0.mk (wrap_next j n HN.out hlt)
          have HCL := Aside0.mk (catK_len G J j)
          have HTJ : Aside0 (tot G j + (16 + (G j).t.size + (G j).raw.length) ≤ 1073741824) := ⟨by have h1 := tot_mono G (j + 1) (n - (j + 1)); have e : j + 1 + (n - (j + 1)) = n := by omega
                                                                                                   rw [e] at h1; have h2 := HTOT.out; exact Nat.le_trans h1 h2⟩
          have HCP := Aside0.mk (PureForms.copy_f (G j).raw ok.hl (k := (G j).raw.length + 1) (by omega))
          clear q q_ ok
          go_wp2
          go_region_held3 (fun W => W.cell? (ad.add (j * 7)) = some (.int .i64 (G j).on) ∧ W.cell? { block := (ad.add (j * 7)).block, off := (ad.add (j * 7)).off + 1 } = some (.int .i64 (G j).kind) ∧ W.cell? { block := (ad.add (j * 7)).block, off := (ad.add (j * 7)).off + 2 } = some (.int .u64 (G j).u) ∧ W.cell? { block := (ad.add (j * 7)).block, off := (ad.add (j * 7)).off + 3 } = some (.int .i64 (G j).i) ∧ W.cell? { block := (ad.add (j * 7)).block, off := (ad.add (j * 7)).off + 4 } = some (.float .f32 (G j).r) ∧ W.cell? { block := (ad.add (j * 7)).block, off := (ad.add (j * 7)).off + 5 } = some (.string (G j).t) ∧ W.cell? { block := (ad.add (j * 7)).block, off := (ad.add (j * 7)).off + 6 } = some (.slice (G j).A (G j).raw.length (G j).c)) (first | go_keep | exact ⟨c0, c1, c2, c3, c4, c5, c6⟩ | exact ⟨d0, d1, d2, d3, d4, d5, d6⟩) (first | (go_at_call 14; go_loud (refine (latchkeyref00_CopyBytes.calls _ (G j).A (G j).c (G j).raw (G j).raw _ (by first | exact (Q.out.below HR.out.2.low).raw | exact Kd.C_below (Q.out.below HR.out.2.low).raw (dr_below _)) OK.out.hc HCP.out).mono ?_); rintro e3 w3 ⟨v3, rfl, q3, b3⟩; (obtain ⟨A3, cc3, rfl⟩ := Kd.R_slice q3); have X3 := Aside0.mk (Kd.R_reads' q3).2.2; have B3 : Aside0 (Below wr.heap.size wr w3) := ⟨by first | exact b3 | exact below_step (dr_below _) b3⟩; (have q_ := (Q.out.below HR.out.2.low).below B3.out); (have d0 := q_.c0); (have d1 := q_.c1); (have d2 := q_.c2); (have d3 := q_.c3); (have d4 := q_.c4); (have d5 := q_.c5); (have d6 := q_.c6); clear q3 b3 q_) | (go_at_call 18; go_loud (refine (write_any _ gw (Own w) (catK G J j) (G j) A3 cc3 (J j) (HJ.out j hlt).1 (HR.out.1.below B3.out) (putOk_mono OK.out (Nat.le_trans HR.out.2.1.size B3.out.size)) (by have h1 := HCL.out; have h2 := HTJ.out; omega) X3.out (HJ.out j hlt).2).mono ?_); rintro e4 w4 ⟨rfl, h1, h2⟩; have HR4 := Aside0.mk (KRel.next HR.out B3.out h1 h2); (have q_ := Q.out.below HR4.out.2.low); (have d0 := q_.c0); (have d1 := q_.c1); (have d2 := q_.c2); (have d3 := q_.c3); (have d4 := q_.c4); (have d5 := q_.c5); (have d6 := q_.c6); clear h1 h2 q_))
          go_wp2
          go_roundg k1
          case measure => omega
          case rel => exact ⟨j + 1, by first | rfl | (rw [← HW3.out]), ⟨by have := HK.out; omega⟩, ⟨by omega⟩, HR4⟩
        · have hjn : j = n := by have := HJN.out; omega
          subst hjn
          have hd : decide ((j : Int) < (j : Int)) = false := decide_eq_false (by omega)
          have HCN : Aside0 ((catK G J j).length ≤ 1073741824) := ⟨Nat.le_trans (catK_len G J j) HTOT.out⟩
          have HW := Aside0.mk HR.out.1.lt
          have HF0 := Aside0.mk HR.out.2
          obtain ⟨L0, hL0⟩ : ∃ L0, L0 = catK G J j := ⟨_, rfl⟩
          rw [← hL0] at HW HCN
          have HCP0 := Aside0.mk (PureForms.copy_f L0 (by have := HCN.out; omega) (k := L0.length + 1) (by omega))
          have hsum : wrap64 ((b.length : Int) + 1) = (b.length : Int) + 1 := by have := HLB.out; unfold wrap64; omega
          have hsub : wrap64 ((b.length : Int) - (j0 : Int)) = (b.length : Int) - (j0 : Int) := by have := HLB.out; have := HJ0.out; unfold wrap64; omega
          have HM1 := Aside0.mk (raw_part b j0 (by have := HJ0.out; omega))
          have HM2 := Aside0.mk (raw_rest b j0 (by have := HJ0.out; omega))
          have HDL : Aside0 ((b.drop j0).length ≤ 140737488351232) := ⟨by have := HLB.out; simp only [List.length_drop]; omega⟩
          obtain ⟨x, hx⟩ : ∃ x, x = b.take j0 := ⟨_, rfl⟩
          obtain ⟨y, hy⟩ : ∃ y, y = b.drop j0 := ⟨_, rfl⟩
          rw [← hx, ← hy] at HM1
          rw [← hy] at HM2 HDL
          have HX := Aside0.mk hx
          have HY := Aside0.mk hy
          have HXL : Aside0 (j0 = x.length) := ⟨by rw [HX.out, List.length_take]; have := HJ0.out; omega⟩
          have HYL : Aside0 (b.length - j0 = y.length) := ⟨by rw [HY.out, List.length_drop]⟩
          have HXC : Aside0 (∀ W, Below w.heap.size w W → U8.C W Ab x.length x) := ⟨fun W hb => C_take (Kd.C_below HRB.out hb) (by rw [← HXL.out, HX.out]) (by have h1 := HXL.out; have h2 := HJ0.out; omega)⟩
          have HYC : Aside0 (∀ W, Below w.heap.size w W → U8.C W (if cb = j0 then Ab else Option.map (fun x => x.add j0) Ab) y.length y) := ⟨fun W hb => by rw [HY.out]; exact C_drop (Kd.C_below HRB.out hb) HCB.out (by have := HJ0.out; omega)⟩
          obtain ⟨Ay, hAy⟩ : ∃ Ay, (if cb = j0 then Ab else Option.map (fun x => x.add j0) Ab) = Ay := ⟨_, rfl⟩
          rw [hAy] at HYC
          have hj00 : (0 : Int) ≤ (j0 : Int) := by omega
          have hj0b : (j0 : Int) ≤ (b.length : Int) := by have := HJ0.out; omega
          have hj0c : (j0 : Int) ≤ (cb : Int) := by have := HJ0.out; have := HCB.out; omega
          have hbc : (b.length : Int) ≤ (cb : Int) := by have := HCB.out; omega
          clear HR HK HJN hlt hL0 hx hy
          go_wp2_with (first
            | (go_at_call 23; ((with_reducible refine (Writer_Bytes wr gw _ L0 HW.out (by have := HCN.out; omega)).mono ?_); rintro e1 w1 ⟨v1, rfl, q1, b1⟩; (obtain ⟨A1, c1, rfl⟩ := Kd.R_slice q1); have M1 := Aside0.mk (Made.new q1); have B1 := Aside0.mk b1; clear q1 b1))
            | (go_at_call 23; ((with_reducible refine (Writer_Bytes w1 gw _ L0 (HW.out.below B1.out) (by have := HCN.out; omega)).mono ?_); rintro e2 w2 ⟨v2, rfl, q2, b2⟩; (obtain ⟨A2, c2, rfl⟩ := Kd.R_slice q2); have M2 := Aside0.mk (Made.new q2); have B2 := Aside0.mk b2; clear q2 b2))
            | (go_at_call 14; (go_loud (refine (latchkeyref00_CopyBytes.calls _ A1 c1 L0 L0 w2 (M1.out.below B2.out).reads.2.2 (M1.out.below B2.out).reads.2.1 HCP0.out).mono ?_); rintro e3 w3 ⟨v3, rfl, q3, b3⟩; (obtain ⟨A3, c3, rfl⟩ := Kd.R_slice q3); have M3 := Aside0.mk (Made.new q3); have B3 := Aside0.mk b3; clear q3 b3))
            | (go_at_call 15; (go_loud (refine (latchkeykit_Pick.calls cut ((b.length : Int) + 1) (j0 : Int) w3 HP0.out).mono ?_); rintro e4 w4 ⟨rfl, d4⟩; have B4 := Aside0.mk d4.below; have BW4 := Aside0.mk (below_step (below_step (below_step (below_step HF0.out.low B1.out) B2.out) B3.out) d4.below); clear d4))
            | (go_at_call 17; (go_loud (refine (lent_calls w4 Ab cb b (Kd.C_below HRB.out BW4.out) HCB.out HLB.out).mono ?_); rintro e5 w5 ⟨g5, cap5, rfl, hg5, l5, b5⟩; have G5 := Aside0.mk hg5; have L5 := Aside0.mk l5; have B5 := Aside0.mk b5; clear hg5 l5 b5))
            | (go_at_call 29; ((with_reducible refine (Reader_Read w5 (some ⟨g5, 0, none⟩) b cap5 L5.out.raw (by have := HLB.out; omega)).mono ?_); rintro e6 w6 ⟨gr, rfl, h1, h2, h3⟩; have R6 := Aside0.mk h2; have B6 := Aside0.mk h3; clear h1 h2 h3))
            | (go_at_call 29; ((with_reducible refine (Reader_Read w6 (some ⟨g5, 0, none⟩) b cap5 (L5.out.below B6.out).raw (by have := HLB.out; omega)).mono ?_); rintro e7 w7 ⟨gq, rfl, h1, h2, h3⟩; have R7 := Aside0.mk h2; have B7 := Aside0.mk h3; have S7 := Aside0.mk (R6.out.below h3); have L7 := Aside0.mk ((L5.out.below B6.out).below h3); clear h1 h2 h3))
            | (go_at_call 43; ((with_reducible refine (Reader_Raw w7 gr b 0 (j0 : Int) S7.out (by have := HLB.out; omega)).mono ?_); rintro e8 w8 ⟨⟨v8, rfl, q8⟩, h1, h2⟩; (rw [HM1.out] at h1 q8); (have q8' : U8.R 5 w8 w7.heap.size (fun _ => True) v8 x := q8); (obtain ⟨A8, c8, rfl⟩ := Kd.R_slice q8'); have M8 := Aside0.mk (Made.new q8'); (have h1' : RdAt w8 gr (fun k => w5.heap.size ≤ k ∧ k < w6.heap.size) y 0 := h1); have R8 := Aside0.mk h1'; have F8 := Aside0.mk h2; have T8 := Aside0.mk (R7.out.fr h2.2 (fun k hk e => by have z1 := R6.out.in_; omega)); have L8 := Aside0.mk (L7.out.fr h2.2 (fun e => by have z1 := R6.out.in_; have z2 := LentAt.lt L5.out; omega)); clear q8 q8' h1 h1' h2))
            | (go_at_call 43; ((with_reducible refine (Reader_Raw w8 gq b 0 (j0 : Int) T8.out (by have := HLB.out; omega)).mono ?_); rintro e9 w9 ⟨⟨v9, rfl, q9⟩, h1, h2⟩; (rw [HM1.out] at h1 q9); (have q9' : U8.R 5 w9 w8.heap.size (fun _ => True) v9 x := q9); (obtain ⟨A9, c9, rfl⟩ := Kd.R_slice q9'); have M9 := Aside0.mk (Made.new q9'); (have h1' : RdAt w9 gq (fun k => w6.heap.size ≤ k ∧ k < w7.heap.size) y 0 := h1); have R9 := Aside0.mk h1'; have F9 := Aside0.mk h2; have T9 := Aside0.mk (R8.out.fr h2.2 (fun k hk e => by have z1 := R7.out.in_; omega)); have L9 := Aside0.mk (L8.out.fr h2.2 (fun e => by have z1 := R7.out.in_; have z2 := LentAt.lt L5.out; have z3 := B6.out.size; omega)); clear q9 q9' h1 h1' h2))
            | (go_at_call 24; (go_loud (refine (OctArmor.octets_Armor.calls ku (some ⟨g5, 0, none⟩) cap5 b tx w9 L9.out.raw (by have := L9.out.hcap; omega) HLB.out HA.out).mono ?_); rintro e10 w10 ⟨rfl, b10⟩; have B10 := Aside0.mk b10; have T10 := Aside0.mk (T9.out.below b10); have L10 := Aside0.mk (L9.out.below b10); clear b10))
            | (go_at_call 25; ((with_reducible refine (OctUn.octets_Unarmor.calls ku tx b 0 w10 HU.out).mono ?_); rintro e11 w11 ⟨v11, rfl, q11, b11⟩; (obtain ⟨A11, c11, rfl⟩ := Kd.R_slice q11); have M11 := Aside0.mk (Made.new q11); have B11 := Aside0.mk b11; have T11 := Aside0.mk (T10.out.below b11); have L11 := Aside0.mk (L10.out.below b11); clear q11 b11))
            | (go_at_call 25; ((with_reducible refine (OctUn.octets_Unarmor.calls ku tx b 0 w11 HU.out).mono ?_); rintro e12 w12 ⟨v12, rfl, q12, b12⟩; (obtain ⟨A12, c12, rfl⟩ := Kd.R_slice q12); have M12 := Aside0.mk (Made.new q12); have B12 := Aside0.mk b12; have T12 := Aside0.mk (T11.out.below b12); have L12 := Aside0.mk (L11.out.below b12); clear q12 b12))
            | (go_at_call 20; (go_loud (refine (over_calls w12 g5 cap5 b L12.out).mono ?_); rintro e13 w13 ⟨rfl, f13⟩; have F13 := Aside0.mk f13; have T13 := Aside0.mk (T12.out.fr f13.2 (fun k hk e => by have z2 := LentAt.lt L5.out; omega)); clear f13))
            | (go_at_call 43; ((with_reducible refine (Reader_Raw w13 gr y 0 ((b.length : Int) - (j0 : Int)) T13.out (by have := HDL.out; omega)).mono ?_); rintro e14 w14 ⟨⟨v14, rfl, q14⟩, h1, h2⟩; (rw [HM2.out] at h1 q14); (have q14' : U8.R 5 w14 w13.heap.size (fun _ => True) v14 y := q14); (obtain ⟨A14, c14, rfl⟩ := Kd.R_slice q14'); (have h1' : RdAt w14 gr (fun k => w5.heap.size ≤ k ∧ k < w6.heap.size) [] 0 := h1); have KM := Aside0.mk (kmid HF0.out HW.out M1.out B1.out M2.out B2.out M3.out B3.out B4.out G5.out (LentAt.lt L5.out) B5.out R6.out B6.out R7.out B7.out M8.out F8.out M9.out F9.out R9.out B10.out M11.out B11.out M12.out B12.out F13.out (Made.new q14') h1' h2); clear q14 q14' h1 h1' h2))
            | (go_at_call 22; ((with_reducible refine (same_calls _ (A2) (A3) L0.length c2 (L0.length) (c3) L0 rfl rfl ?C0 KM.out.m2.reads.2.1 ?C1 KM.out.m3.reads.2.1 (by have := HCN.out; omega)).mono ?_); (case C0 => exact KM.out.m2.reads.2.2); (case C1 => exact KM.out.m3.reads.2.2); rintro e15 w15 ⟨rfl, d_⟩; have KM := Aside0.mk (KM.out.below d_.below); clear d_))
            | (go_at_call 22; ((with_reducible refine (same_calls _ (A8) (Ab) x.length c8 (j0) (cb) x rfl HXL.out ?C0 KM.out.m8.reads.2.1 ?C1 (by have h1 := HXL.out; have h2 := HJ0.out; have h3 := HCB.out; omega) (by have h1 := HXL.out; have h2 := HJ0.out; have h3 := HLB.out; omega)).mono ?_); (case C0 => exact KM.out.m8.reads.2.2); (case C1 => exact HXC.out _ KM.out.low); rintro e16 w16 ⟨rfl, d_⟩; have KM := Aside0.mk (KM.out.below d_.below); clear d_))
            | (go_at_call 22; ((with_reducible refine (same_calls _ (A9) (Ab) x.length c9 (j0) (cb) x rfl HXL.out ?C0 KM.out.m9.reads.2.1 ?C1 (by have h1 := HXL.out; have h2 := HJ0.out; have h3 := HCB.out; omega) (by have h1 := HXL.out; have h2 := HJ0.out; have h3 := HLB.out; omega)).mono ?_); (case C0 => exact KM.out.m9.reads.2.2); (case C1 => exact HXC.out _ KM.out.low); rintro e17 w17 ⟨rfl, d_⟩; have KM := Aside0.mk (KM.out.below d_.below); clear d_))
            | (go_at_call 22; ((with_reducible refine (same_calls _ (A11) (Ab) b.length c11 (b.length) (cb) b rfl rfl ?C0 KM.out.m11.reads.2.1 ?C1 HCB.out HLB.out).mono ?_); (case C0 => exact KM.out.m11.reads.2.2); (case C1 => exact Kd.C_below HRB.out KM.out.low); rintro e18 w18 ⟨rfl, d_⟩; have KM := Aside0.mk (KM.out.below d_.below); clear d_))
            | (go_at_call 22; ((with_reducible refine (same_calls _ (A12) (Ab) b.length c12 (b.length) (cb) b rfl rfl ?C0 KM.out.m12.reads.2.1 ?C1 HCB.out HLB.out).mono ?_); (case C0 => exact KM.out.m12.reads.2.2); (case C1 => exact Kd.C_below HRB.out KM.out.low); rintro e19 w19 ⟨rfl, d_⟩; have KM := Aside0.mk (KM.out.below d_.below); clear d_))
            | (go_at_call 22; ((with_reducible refine (same_calls _ (A14) (Ay) y.length c14 (b.length - j0) ((cb - j0)) y rfl HYL.out ?C0 KM.out.m14.reads.2.1 ?C1 (by have h1 := HYL.out; have h2 := HCB.out; omega) HDL.out).mono ?_); (case C0 => exact KM.out.m14.reads.2.2); (case C1 => exact HYC.out _ KM.out.low); rintro e20 w20 ⟨rfl, d_⟩; have KM := Aside0.mk (KM.out.below d_.below); clear d_))
            | (go_at_call 44; ((with_reducible refine (apart_keeps KM.out (by have := HCN.out; omega) (by have h1 := HXL.out; have h2 := HJ0.out; have h3 := HLB.out; omega) HDL.out HLB.out).mono ?_); rintro e21 w21 ⟨rfl, ke⟩; have KE := Aside0.mk ke; have KMZ := Aside0.mk KM.out.z; clear ke)))
          have X1 := Aside0.mk (Writer_Bytes w21.drew gw _ L0 (KE.out.below (dr_below _)).wr (by have := HCN.out; omega))
          have hsubW : IntKind.i64.wrap ((b.length : Int) - (j0 : Int)) = (b.length : Int) - (j0 : Int) := by rw [IntKind.wrap_i64]; have := HLB.out; have := HJ0.out; omega
          have KE1 : Aside0 (KEnd w w21.drew gw gr gq L0 y wr.heap.size w2.heap.size w3.heap.size w5.heap.size w6.heap.size w7.heap.size (.slice A3 L0.length c3)) := ⟨KE.out.below (dr_below _)⟩
          go_region_held3 (fun _ => True) (first | go_keep | trivial) (first
            | (go_at_call 23; go_loud (refine X1.out.mono ?_); rintro e22 w22 ⟨v22, rfl, q22, b22⟩; (obtain ⟨A22, c22, rfl⟩ := Kd.R_slice q22); have M22 := Aside0.mk (Made.new q22); have KE2 := Aside0.mk (KE1.out.below b22); clear q22 b22)
            | (go_at_call 22; ((with_reducible refine (same_calls w22 A22 A3 L0.length c22 L0.length c3 L0 rfl rfl ?C0 M22.out.reads.2.1 ?C1 KE2.out.m3.reads.2.1 (by have := HCN.out; omega)).mono ?_); (case C0 => exact M22.out.reads.2.2); (case C1 => exact KE2.out.m3.reads.2.2); rintro e23 w23 ⟨rfl, d_⟩; have KE3 := Aside0.mk (KE2.out.below d_.below); clear d_))
            | (go_at_call 43; ((with_reducible refine (Reader_Raw w23 gq y 0 ((b.length : Int) - (j0 : Int)) KE3.out.q (by have := HDL.out; omega)).mono ?_); rintro e24 w24 ⟨⟨v24, rfl, q24⟩, h1, h2⟩; (rw [HM2.out] at h1 q24); (have q24' : U8.R 5 w24 w23.heap.size (fun _ => True) v24 y := q24); (obtain ⟨A24, c24, rfl⟩ := Kd.R_slice q24'); have M24 := Aside0.mk (Made.new q24'); (have h1' : RdAt w24 gq (fun k => w6.heap.size ≤ k ∧ k < w7.heap.size) [] 0 := h1); have R24 := Aside0.mk h1'; have S24 := Aside0.mk (KE3.out.r.fr h2.2 (fun k hk e => by have z1 := KE3.out.q.in_; omega)); have LOW24 := Aside0.mk ((Fr.of_below KE3.out.low (Own w)).then_ h2 (fun k hk => .inl (by have z1 := KE3.out.q.in_; have z2 := KMZ.out; show w.heap.size ≤ k; omega))).low; clear q24 q24' h1 h1' h2))
            | (go_at_call 22; ((with_reducible refine (same_calls w24 A24 Ay y.length c24 (b.length - j0) (cb - j0) y rfl HYL.out ?C0 M24.out.reads.2.1 ?C1 (by have h1 := HYL.out; have h2 := HCB.out; omega) HDL.out).mono ?_); (case C0 => exact M24.out.reads.2.2); (case C1 => exact HYC.out _ LOW24.out); rintro e25 w25 ⟨rfl, d_⟩; have R25 := Aside0.mk (R24.out.below d_.below); have S25 := Aside0.mk (S24.out.below d_.below); have LOW25 := Aside0.mk (below_step LOW24.out d_.below); clear d_))
            | (go_at_call 37; ((with_reducible refine (Reader_Left w25 gr [] 0 S25.out).mono ?_); rintro e26 w26 ⟨rfl, rfl⟩))
            | (go_at_call 39; ((with_reducible refine (Reader_End_ok w26 gq R25.out).mono ?_); rintro e27 w27 ⟨rfl, rfl⟩)))
          go_wp2
          go_ret
          exact ⟨rfl, LOW25.out⟩
end Go.Proofs.Ytkjkmaopifmghaa.Oct
