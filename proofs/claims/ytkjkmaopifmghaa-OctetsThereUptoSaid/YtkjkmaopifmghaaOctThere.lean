/- The walk of OctetsThere. -/
import Derived.Test.YtkjkmaopifmghaaOctThereP
namespace Go.Proofs.Ytkjkmaopifmghaa.Oct
open Go.RowKit Go.Proofs.YtkjkmaopifmghaaW.PrintWords Go.Proofs.YtkjkmaopifmghaaW.PrintLast Go.Proofs.YtkjkmaopifmghaaW.PrintMore Go.Proofs.Ytkjkmaopifmghaa.OctShort Go.Proofs.Ytkjkmaopifmghaa.OctCopy Go.Proofs.Ytkjkmaopifmghaa.OctNum Go.Proofs.Ytkjkmaopifmghaa.PureShort
set_option linter.unusedVariables false
set_option linter.unusedSimpArgs false
set_option maxRecDepth 100000
set_option maxHeartbeats 4000000 in
theorem there_walk (Al Am : Option Addr) (cl cm n : Nat) (G : Nat → PutD) (J : Nat → Nat) (more : List Int) (cut : Int) (w : World)
    (hG : PutsAt w Al n G) (hJ : ∀ i, i < n → J i < 6 ∧ latchkeykit_Pick.f (G i).kind 6 = some (J i : Int)) (htot : tot G n ≤ 1073741824)
    (hrm : U8.C w Am more.length more) (hcm : more.length ≤ cm) (hlm : more.length ≤ 1048576) (hbm : ∀ x ∈ more, 0 ≤ x ∧ x < 256) :
    Calls Try.prog 11 #[.slice Al n cl, .slice Am more.length cm, .int .i64 cut] w fun e w' => e = .returned (.bool true) ∧ Below w.heap.size w w' := by
  have HG := Aside0.mk hG
  have HJ := Aside0.mk hJ
  have HTOT := Aside0.mk htot
  have HRM := Aside0.mk hrm
  have HCM := Aside0.mk hcm
  have HLM := Aside0.mk hlm
  have HBM := Aside0.mk hbm
  have HN : Aside0 (n ≤ 67108864) := ⟨by have := tot_ge G n; omega⟩
  have HTB : Aside0 (decide (1073741824 < tot G n) = false) := ⟨decide_eq_false (by omega)⟩
  clear hG hJ htot hrm hcm hlm hbm
  go_enter Try.func11, Try.ntmps11
  go_wp2_with (first
    | (go_at_call 16; go_loud (refine (tooMuch_calls w Al n cl G HG.out (by have := HN.out; omega)).mono ?_); rintro e1 w1 ⟨rfl, ⟨m1, rfl⟩⟩; rw [HTB.out])
    | (go_at_call 12; go_loud (refine (awake_calls _).mono ?_); rintro e2 w2 ⟨rfl, b2⟩; have B2 := Aside0.mk (below_step (dn_below w m1) b2); clear b2))
  have hst := There1.start w w2 G J (Fr.of_below B2.out (Own w))
  obtain ⟨gw, hgw⟩ : ∃ gw, gw = w2.heap.size := ⟨_, rfl⟩
  rw [← hgw] at hst ⊢
  have HST := Aside0.mk hst
  clear hst hgw
  go_loopg [8, 9] (n + 1) (fun kq v8 v9 w' => ∃ j : Nat, v9 = .int .i64 (j : Int) ∧ Aside0 (kq + j = n + 1) ∧ Aside0 (j ≤ n) ∧ Aside0 (There1 w gw G J j v8 w'))
  case atStart => exact ⟨0, rfl, ⟨rfl⟩, ⟨Nat.zero_le _⟩, HST⟩
  case round =>
    clear HST
    obtain ⟨j, rfl, HK, HJN, HR⟩ := hrel
    cases gk with
    | zero => exact absurd HK.out (by have := HJN.out; omega)
    | succ k1 =>
      by_cases hlt : j < n
      · obtain ⟨ad, rfl, q, ok⟩ := HG.out j hlt
        obtain ⟨⟨Sw, hw, hS, hv⟩, hr, hf⟩ := HR.out
        have q' := q.below hf.low
        have c0 := q'.c0
        have c1 := q'.c1
        have c2 := q'.c2
        have c3 := q'.c3
        have c4 := q'.c4
        have c5 := q'.c5
        have c6 := q'.c6
        have Q := Aside0.mk q
        have OK := Aside0.mk ok
        have HW := Aside0.mk hw
        have HS := Aside0.mk hS
        have HV := Aside0.mk hv
        have HRR := Aside0.mk hr
        have HF := Aside0.mk hf
        have hji : (0 : Int) ≤ (j : Int) := by omega
        have hjm : (j : Int) < (n : Int) := by omega
        have HW3 := Aside0.mk (wrap_next j n (by have := HN.out; omega) hlt)
        have HCL := Aside0.mk (cat_len G J j)
        have HTJ : Aside0 (tot G j + (16 + (G j).t.size + (G j).raw.length) ≤ 1073741824) := ⟨by have h1 := tot_mono G (j + 1) (n - (j + 1)); have e : j + 1 + (n - (j + 1)) = n := by omega
                                                                                                 rw [e] at h1; have h2 := HTOT.out; exact Nat.le_trans h1 h2⟩
        have HCP := Aside0.mk (PureForms.copy_f (G j).raw ok.hl (k := (G j).raw.length + 1) (by omega))
        clear q q' ok hw hS hv hr hf
        go_wp2
        go_region_held3 (fun W => W.cell? (ad.add (j * 7)) = some (.int .i64 (G j).on) ∧ W.cell? { block := (ad.add (j * 7)).block, off := (ad.add (j * 7)).off + 1 } = some (.int .i64 (G j).kind) ∧ W.cell? { block := (ad.add (j * 7)).block, off := (ad.add (j * 7)).off + 2 } = some (.int .u64 (G j).u) ∧ W.cell? { block := (ad.add (j * 7)).block, off := (ad.add (j * 7)).off + 3 } = some (.int .i64 (G j).i) ∧ W.cell? { block := (ad.add (j * 7)).block, off := (ad.add (j * 7)).off + 4 } = some (.float .f32 (G j).r) ∧ W.cell? { block := (ad.add (j * 7)).block, off := (ad.add (j * 7)).off + 5 } = some (.string (G j).t) ∧ W.cell? { block := (ad.add (j * 7)).block, off := (ad.add (j * 7)).off + 6 } = some (.slice (G j).A (G j).raw.length (G j).c)) (first | go_keep | exact ⟨c0, c1, c2, c3, c4, c5, c6⟩ | exact ⟨d0, d1, d2, d3, d4, d5, d6⟩) (first | (go_at_call 14; go_loud (refine (latchkeyref00_CopyBytes.calls _ (G j).A (G j).c (G j).raw (G j).raw _ (by first | exact (Q.out.below HF.out.low).raw | exact Kd.C_below (Q.out.below HF.out.low).raw (dr_below _)) OK.out.hc HCP.out).mono ?_); rintro e3 w3 ⟨v3, rfl, q3, b3⟩; (obtain ⟨A3, cc3, rfl⟩ := Kd.R_slice q3); have X3 := Aside0.mk (Kd.R_reads' q3).2.2; have B3 : Aside0 (Below wr.heap.size wr w3) := ⟨by first | exact b3 | exact below_step (dr_below _) b3⟩; (have q3' := (Q.out.below HF.out.low).below B3.out); (have d0 := q3'.c0); (have d1 := q3'.c1); (have d2 := q3'.c2); (have d3 := q3'.c3); (have d4 := q3'.c4); (have d5 := q3'.c5); (have d6 := q3'.c6); clear q3 b3 q3') | (go_at_call 18; go_loud (refine (write_any _ gw Sw (cat G J j) (G j) A3 cc3 (J j) (HJ.out j hlt).1 (HW.out.below B3.out) (OK.out.mono (Nat.le_trans HF.out.1.size B3.out.size)) (by have h1 := HCL.out; have h2 := HTJ.out; omega) X3.out (HJ.out j hlt).2).mono ?_); rintro e4 w4 ⟨rfl, h1, h2⟩; (obtain ⟨Sw2, T1, T2, T3, T4, T5⟩ := There1.write B3.out (HW.out.below B3.out) HS.out HV.out HRR.out HF.out h1 h2); have HT1 := Aside0.mk T1; have HT2 := Aside0.mk T2; have HT3 := Aside0.mk T3; have HT4 := Aside0.mk T4; have HT5 := Aside0.mk T5; (have q4' := Q.out.below T5.low); (have d0 := q4'.c0); (have d1 := q4'.c1); (have d2 := q4'.c2); (have d3 := q4'.c3); (have d4 := q4'.c4); (have d5 := q4'.c5); (have d6 := q4'.c6); clear h1 h2 T1 T2 T3 T4 T5 q4'))
        go_wp2_with (first | (go_at_call 23; go_loud (refine (Writer_Bytes _ gw Sw2 (cat G J (j + 1)) HT1.out (by have h1 := cat_len G J (j + 1); have h2 := HTJ.out; have h3 : tot G (j + 1) = tot G j + (16 + (G j).t.size + (G j).raw.length) := rfl; omega)).mono ?_); rintro e5 w5 ⟨v5, rfl, q5, b5⟩; (obtain ⟨A5, c5_, rfl⟩ := Kd.R_slice q5); have B5 := Aside0.mk b5; clear q5 b5) | ((with_reducible refine gate_builtin (b := .append) (xs := #[.tmp 38, .tmp 41]) rfl ?_); at_builtin; go_loud (refine Kd.R_append I64 (w0 := w) w.heap.size rfl (.tmp 38) (.tmp 41) 80 3 (.int .i64 0) 8 rfl Try.underlying80 infoI rfl (by decide) (by omega) u8 (endsL G J j) ((cat G J (j + 1)).length : Int) [.int .i64 ((cat G J (j + 1)).length : Int)] (fun _ => True) (fun _ => False) rfl rfl ?aP (fun _ hk => hk.elim) ?aF ?aO ?aB ?aS ?aL ?_); (case aP => exact rfl); (case aB => exact below_step HT5.out.low B5.out); (case aF => exact (fun _ _ => trivial)); (case aO => exact Kd.R_below HT4.out B5.out); (case aS => exact Nat.le_trans HT5.out.1.size B5.out.size); (case aL => have h1 := ends_len G J j; have h2 := HN.out; omega); intro v6 w6 ho hb hg hat; have HO := Aside0.mk ho; have HB6 := Aside0.mk hb; have HG6 := Aside0.mk hg; have HAT := Aside0.mk hat; clear ho hb hg hat))
        go_roundg k1
        case measure => omega
        case rel => exact ⟨j + 1, by first | rfl | (rw [← HW3.out]), ⟨by have := HK.out; omega⟩, ⟨by omega⟩, ⟨There1.next HT1.out HT2.out HT3.out B5.out HO.out HB6.out HG6.out HAT.out⟩⟩
      · have hjn : j = n := by have := HJN.out; omega
        subst hjn
        obtain ⟨⟨Sw, hw, hS, hv⟩, hr, hf⟩ := HR.out
        have hd : decide ((j : Int) < (j : Int)) = false := decide_eq_false (by omega)
        have HW := Aside0.mk hw
        have HS := Aside0.mk hS
        have HV := Aside0.mk hv
        have HRR := Aside0.mk hr
        have HF := Aside0.mk hf
        have HCN : Aside0 ((cat G J j).length ≤ 1073741824) := ⟨Nat.le_trans (cat_len G J j) HTOT.out⟩
        have HCP := Aside0.mk (PureForms.copy_f more (by have := HLM.out; omega) (k := more.length + 1) (by omega))
        have HWL := Aside0.mk hw.lt
        obtain ⟨L, hL⟩ : ∃ L, L = cat G J j ++ more := ⟨_, rfl⟩
        have HLE := Aside0.mk hL
        have HLL : Aside0 (L.length ≤ 1074790400) := ⟨by rw [hL, List.length_append]; have := HCN.out; have := HLM.out; omega⟩
        clear hw hS hv hr hf hlt hL
        go_wp2_with (first
          | (go_at_call 23; ((with_reducible refine (Writer_Bytes wr gw _ (cat G J j) HW.out (by have := HCN.out; omega)).mono ?_); rintro e5 w5 ⟨v5, rfl, q5, b5⟩; (obtain ⟨A5, c5, rfl⟩ := Kd.R_slice q5); have Q5 := Aside0.mk q5; have B5 := Aside0.mk b5; clear q5 b5))
          | (go_at_call 14; (go_loud (refine (latchkeyref00_CopyBytes.calls _ Am cm more more w5 (Kd.C_below HRM.out (below_step HF.out.low B5.out)) HCM.out HCP.out).mono ?_); rintro e6 w6 ⟨v6, rfl, q6, b6⟩; (obtain ⟨A6, c6, rfl⟩ := Kd.R_slice q6); have Q6 := Aside0.mk (Kd.R_reads' q6).2.2; have B6 := Aside0.mk b6; clear q6 b6))
          | (go_at_call 45; (go_loud (refine (Writer_Raw w6 gw _ (cat G J j) more A6 more.length c6 ((HWL.out.below B5.out).below B6.out) Q6.out (by have := HCN.out; have := HLM.out; omega)).mono ?_); rintro e7 w7 ⟨rfl, h1, h2⟩; (rw [← HLE.out] at h1); have W7 := Aside0.mk h1; have F7 := Aside0.mk h2; have C7 := Aside0.mk (C_kept (Kd.C_below (Kd.R_reads' Q5.out).2.2 B6.out) h2.2 (fun ad ha hs => by have u1 := own_base (Kd.own_of_R Q5.out) ad.block (by rw [ha]; rfl); have u2 := hs.2; omega)); clear h1 h2))
          | (go_at_call 29; ((with_reducible refine (Reader_Read w7 A5 (cat G J j) c5 C7.out (by have := HCN.out; omega)).mono ?_); rintro e8 w8 ⟨gr, rfl, h1, h2, h3⟩; have GR := Aside0.mk h1; have R8 := Aside0.mk h2; have B8 := Aside0.mk h3; clear h1 h2 h3))
          | (go_at_call 23; (go_loud (refine (Writer_Bytes w8 gw _ L (W7.out.below B8.out) (by have := HLL.out; omega)).mono ?_); rintro e9 w9 ⟨v9, rfl, q9, b9⟩; (obtain ⟨A9, c9, rfl⟩ := Kd.R_slice q9); have Q9 := Aside0.mk (Kd.R_reads' q9).2; have B9 := Aside0.mk b9; clear q9 b9))
          | (go_at_call 29; (go_loud (refine (Reader_Read w9 A9 L c9 Q9.out.2 (by have := HLL.out; omega)).mono ?_); rintro e10 w10 ⟨gq, rfl, h1, h2, h3⟩; have GQ := Aside0.mk h1; have R10 := Aside0.mk h2; have B10 := Aside0.mk h3; clear h1 h2 h3)))
        obtain ⟨A8, c8, rfl, hB⟩ := there_b (ends_len G J j) HF.out HS.out HV.out HRR.out Q5.out B5.out B6.out F7.out C7.out B8.out R8.out B9.out R10.out B10.out
        obtain ⟨hs, hhs⟩ : ∃ hs, hs = w7.heap.size := ⟨_, rfl⟩
        obtain ⟨S1, hS1⟩ : ∃ S1 : Nat → Prop, S1 = (fun k => w7.heap.size ≤ k ∧ k < w8.heap.size) := ⟨_, rfl⟩
        obtain ⟨S2, hS2⟩ : ∃ S2 : Nat → Prop, S2 = (fun k => w9.heap.size ≤ k ∧ k < w10.heap.size) := ⟨_, rfl⟩
        rw [← hS1, ← hS2, ← hhs] at hB
        obtain ⟨n, hn⟩ : ∃ n, n = j := ⟨_, rfl⟩
        subst hn
        have HB := Aside0.mk hB
        have hT := hB.start
        have HT0 : Aside0 (There2 w10 gr gq S1 S2 (rest G J n 0) (rest G J n 0 ++ more) w10) := ⟨by rw [rest_zero, ← HLE.out]; exact hT⟩
        have HIN := Aside0.mk (cat_in G J w.heap.size n (fun i hi => by obtain ⟨_, _, _, h⟩ := HG.out i hi; exact h))
        have HC5 := Aside0.mk (Kd.R_reads' Q5.out).2.1
        clear hB hT hS1 hS2 hhs HK HJN HR HW HS HV HRR HF HWL GR R8 B8 Q9 B9 GQ R10 B10 W7 F7 C7 Q6 B6 Q5 B5 HCP
        go_loopg [13] (n + 1) (fun kq v13 w' => ∃ j : Nat, v13 = .int .i64 (j : Int) ∧ Aside0 (kq + j = n + 1) ∧ Aside0 (j ≤ n) ∧ Aside0 (There2 w10 gr gq S1 S2 (rest G J n j) (rest G J n j ++ more) w'))
        case atStart => exact ⟨0, rfl, ⟨rfl⟩, ⟨Nat.zero_le _⟩, HT0⟩
        case round =>
          clear HT0
          obtain ⟨j, rfl, HK, HJN, HT⟩ := hrel
          cases gk with
          | zero => exact absurd HK.out (by have := HJN.out; omega)
          | succ k2 =>
            by_cases hlt : j < n
            · obtain ⟨ad, rfl, q, ok⟩ := HG.out j hlt
              have hT := HT.out
              have q' := q.below (HB.out.lowT hT.fr)
              have c0 := q'.c0
              have c1 := q'.c1
              have c2 := q'.c2
              have c3 := q'.c3
              have c4 := q'.c4
              have c5 := q'.c5
              have c6 := q'.c6
              obtain ⟨a8, rfl, _, e0⟩ := HB.out.ends hT.fr j hlt
              have e0' := e0
              rw [ends_get G J n j hlt] at e0'
              have hrn := rest_next G J n j hlt
              have HT2 : Aside0 (There2 w10 gr gq S1 S2 (enc (G j) (J j) ++ rest G J n (j + 1)) (enc (G j) (J j) ++ (rest G J n (j + 1) ++ more)) wr) := ⟨by rw [← List.append_assoc, ← hrn.1]; exact hT⟩
              have HRN := Aside0.mk hrn
              have Q := Aside0.mk q
              have OK := Aside0.mk ok
              have HL1 : Aside0 ((enc (G j) (J j) ++ rest G J n (j + 1)).length ≤ 140737488351232) := ⟨by rw [← hrn.1]; have := rest_len G J n j; have := HCN.out; omega⟩
              have HL2 : Aside0 ((enc (G j) (J j) ++ (rest G J n (j + 1) ++ more)).length ≤ 140737488351232) := ⟨by rw [← List.append_assoc, ← hrn.1, List.length_append]; have := rest_len G J n j; have := HCN.out; have := HLM.out; omega⟩
              have HI1 := Aside0.mk (rest_in G J n (j + 1) HIN.out)
              have HI2 : Aside0 (∀ x ∈ rest G J n (j + 1) ++ more, 0 ≤ x ∧ x < 256) := ⟨fun x hx => (List.mem_append.1 hx).elim (HI1.out x) (HBM.out x)⟩
              have hji : (0 : Int) ≤ (j : Int) := by omega
              have hjm : (j : Int) < (n : Int) := by omega
              have HW3 := Aside0.mk (wrap_next j n (by have := HN.out; omega) hlt)
              clear hT q q' e0 ok hrn
              go_wp2
              go_region_held3 (fun W => (W.cell? (ad.add (j * 7)) = some (.int .i64 (G j).on) ∧ W.cell? { block := (ad.add (j * 7)).block, off := (ad.add (j * 7)).off + 1 } = some (.int .i64 (G j).kind) ∧ W.cell? { block := (ad.add (j * 7)).block, off := (ad.add (j * 7)).off + 2 } = some (.int .u64 (G j).u) ∧ W.cell? { block := (ad.add (j * 7)).block, off := (ad.add (j * 7)).off + 3 } = some (.int .i64 (G j).i) ∧ W.cell? { block := (ad.add (j * 7)).block, off := (ad.add (j * 7)).off + 4 } = some (.float .f32 (G j).r) ∧ W.cell? { block := (ad.add (j * 7)).block, off := (ad.add (j * 7)).off + 5 } = some (.string (G j).t) ∧ W.cell? { block := (ad.add (j * 7)).block, off := (ad.add (j * 7)).off + 6 } = some (.slice (G j).A (G j).raw.length (G j).c)) ∧ W.cell? (a8.add j) = some (.int .i64 ((cat G J (j + 1)).length : Int))) (first | go_keep | exact ⟨⟨c0, c1, c2, c3, c4, c5, c6⟩, e0'⟩ | exact ⟨⟨d0, d1, d2, d3, d4, d5, d6⟩, e1⟩ | exact ⟨⟨f0, f1, f2, f3, f4, f5, f6⟩, e2⟩) (first
                | (go_at_call 46; (with_reducible refine (There2.back_r (d := G j) (j := J j) (l1 := rest G J n (j + 1)) (l2 := enc (G j) (J j) ++ (rest G J n (j + 1) ++ more)) HB.out HT2.out (by first | exact Below.refl _ _ | exact dr_below _ | exact dn_below _ _) Q.out OK.out (HJ.out j hlt).1 (HJ.out j hlt).2 HI1.out HL1.out).mono ?_); rintro e3 w3 ⟨rfl, h⟩; have T3 := Aside0.mk h; (have q3' := Q.out.below (HB.out.lowT h.fr)); (have d0 := q3'.c0); (have d1 := q3'.c1); (have d2 := q3'.c2); (have d3 := q3'.c3); (have d4 := q3'.c4); (have d5 := q3'.c5); (have d6 := q3'.c6); (have e1 := three_end HB.out h hlt); clear h q3')
                | (go_at_call 46; go_loud (with_reducible refine (There2.back_q (d := G j) (j := J j) (l1 := rest G J n (j + 1)) (l2 := rest G J n (j + 1) ++ more) HB.out T3.out (by first | exact Below.refl _ _ | exact dr_below _ | exact dn_below _ _) Q.out OK.out (HJ.out j hlt).1 (HJ.out j hlt).2 HI2.out HL2.out).mono ?_); rintro e4 w4 ⟨rfl, h⟩; have T4 := Aside0.mk h; (have q4' := Q.out.below (HB.out.lowT h.fr)); (have f0 := q4'.c0); (have f1 := q4'.c1); (have f2 := q4'.c2); (have f3 := q4'.c3); (have f4 := q4'.c4); (have f5 := q4'.c5); (have f6 := q4'.c6); (have e2 := three_end HB.out h hlt); clear h q4')
                | (go_at_call 37; ((with_reducible refine (Reader_Left _ gr (rest G J n (j + 1)) 0 (by first | exact T4.out.r | exact T4.out.r.below (dr_below _) | exact T4.out.r.below (dn_below _ _))).mono ?_); rintro e7 w7 ⟨rfl, rfl⟩)))
              have hdd := there_sub HRN.out.2.1 HCN.out HRN.out.2.2
              go_wp2
              all_goals (go_roundg k2; (case measure => omega); (case rel => exact ⟨j + 1, by first | rfl | (rw [← HW3.out]), ⟨by have := HK.out; omega⟩, ⟨by omega⟩, T4⟩))
            · have hjn : n = j := by have := HJN.out; omega
              subst hjn
              have hT := HT.out
              rw [rest_end] at hT
              have HT2 : Aside0 (There2 w10 gr gq S1 S2 [] more wr) := ⟨hT⟩
              have hd : decide ((n : Int) < (n : Int)) = false := decide_eq_false (by omega)
              have HEM := Aside0.mk (end_more more)
              have hEM := HEM.out
              have he0 : endOf [] 0 = 0 := rfl
              clear hT HT HK HJN hlt
              by_cases hz : (cat G J n).length = 0
              · have hz' : decide (((cat G J n).length : Int) = 0) = true := decide_eq_true (by omega)
                go_wp2_with (first
                  | (go_at_call 39; ((with_reducible refine (Reader_End _ gr [] 0 HT2.out.r).mono ?_); rintro e5 w5 ⟨rfl, rfl⟩; rw [he0]))
                  | (go_at_call 36; ((with_reducible refine (Reader_Err _ gr [] 0 HT2.out.r).mono ?_); rintro e5 w5 ⟨rfl, rfl⟩))
                  | (go_at_call 37; ((with_reducible refine (Reader_Left _ gq more 0 HT2.out.q).mono ?_); rintro e5 w5 ⟨rfl, rfl⟩))
                  | (go_at_call 36; ((with_reducible refine (Reader_Err _ gq more 0 HT2.out.q).mono ?_); rintro e5 w5 ⟨rfl, rfl⟩))
                  | (go_at_call 39; ((with_reducible refine (Reader_End _ gq more 0 HT2.out.q).mono ?_); rintro e5 w5 ⟨rfl, rfl⟩)))
                go_ret
                exact ⟨rfl, HB.out.lowT HT2.out.fr⟩
              · have hz' : decide (((cat G J n).length : Int) = 0) = false := decide_eq_false (by omega)
                obtain ⟨N, hN, hpk⟩ := pick_big cut (cat G J n).length (by omega) (by have := HCN.out; omega)
                obtain ⟨M, hM⟩ : ∃ M, M = (cat G J n).take N := ⟨_, rfl⟩
                have hML : N = M.length := by rw [hM, List.length_take]; omega
                subst hML
                have HPK := Aside0.mk hpk
                have HM := Aside0.mk hM
                have HMN := Aside0.mk hN
                have hcut : ∀ W : World, (Instr.slice 22 (.slice A5 (cat G J n).length c5) none (some (.int .i64 (M.length : Int))) none).run Try.prog W = .ok (.slice A5 M.length c5) W := by
                  obtain ⟨i, hi, _, hsz, _⟩ := info_parts info5
                  exact cut_to (P := Try.prog) 22 5 .i64 Try.underlying22 hi A5 (cat G J n).length c5 (M.length : Int) (by omega) (by omega) HC5.out
                have HCP3 := Aside0.mk (PureForms.copy_f M (by have := HCN.out; omega) (k := M.length + 1) (by omega))
                have HCM5 : Aside0 (M.length ≤ c5) := ⟨by have := HC5.out; omega⟩
                clear hM hN hpk
                go_wp2_with (first
                  | (go_at_call 39; ((with_reducible refine (Reader_End _ gr [] 0 HT2.out.r).mono ?_); rintro e5 w5 ⟨rfl, rfl⟩; rw [he0]))
                  | (go_at_call 36; ((with_reducible refine (Reader_Err _ gr [] 0 HT2.out.r).mono ?_); rintro e5 w5 ⟨rfl, rfl⟩))
                  | (go_at_call 37; ((with_reducible refine (Reader_Left _ gq more 0 HT2.out.q).mono ?_); rintro e5 w5 ⟨rfl, rfl⟩))
                  | (go_at_call 36; ((with_reducible refine (Reader_Err _ gq more 0 HT2.out.q).mono ?_); rintro e5 w5 ⟨rfl, rfl⟩))
                  | (go_at_call 39; ((with_reducible refine (Reader_End _ gq more 0 HT2.out.q).mono ?_); rintro e5 w5 ⟨rfl, rfl⟩))
                  | (go_at_call 15; ((with_reducible refine (latchkeykit_Pick.calls cut ((cat G J n).length : Int) (M.length : Int) _ HPK.out).mono ?_); rintro e6 w6 ⟨rfl, ⟨m0, rfl⟩⟩))
                  | (go_at_call 14; (go_loud (refine (latchkeyref00_CopyBytes.calls _ A5 c5 M M _ (C_cut (Kd.C_below (HB.out.bAt HT2.out.fr) (dn_below _ _)) HM.out (Nat.le_of_lt HMN.out)) HCM5.out HCP3.out).mono ?_); rintro e7 w7 ⟨v7, rfl, q7, b7⟩; (obtain ⟨A7, c7, rfl⟩ := Kd.R_slice q7); have Q7 := Aside0.mk (Kd.R_reads' q7).2.2; have B7 := Aside0.mk (below_step (dn_below _ _) b7); clear q7 b7))
                  | (go_at_call 29; ((with_reducible refine (Reader_Read w7 A7 M c7 Q7.out (by have := HCN.out; have := HMN.out; omega)).mono ?_); rintro e8 w8 ⟨gs, rfl, h1, h2, h3⟩; have GS := Aside0.mk h1; have R8 := Aside0.mk h2; have B8 := Aside0.mk h3; clear h1 h2 h3)))
                have h3 := There3.start HB.out HT2.out B7.out B8.out GS.out R8.out
                obtain ⟨S3, hS3⟩ : ∃ S3 : Nat → Prop, S3 = (fun k => w7.heap.size ≤ k ∧ k < w8.heap.size) := ⟨_, rfl⟩
                rw [← hS3] at h3
                have HT0 : Aside0 (There3 w w10 gs hs S3 A8 n (endsL G J n) (rest3 G J n M.length 0) w8) := ⟨by show There3 w w10 gs hs S3 A8 n (endsL G J n) ((cat G J n).take M.length) w8; rw [← HM.out]; exact h3⟩
                have H0L : Aside0 ((cat G J 0).length ≤ M.length) := ⟨Nat.zero_le _⟩
                clear h3 hS3 B7 B8 GS R8 Q7 HT2 hcut
                go_loopg [16] (n + 1) (fun kq v16 w' => ∃ j : Nat, v16 = .int .i64 (j : Int) ∧ Aside0 (kq + j = n + 1) ∧ Aside0 (j ≤ n) ∧ Aside0 ((cat G J j).length ≤ M.length) ∧ Aside0 (There3 w w10 gs hs S3 A8 n (endsL G J n) (rest3 G J n M.length j) w'))
                case atStart => exact ⟨0, rfl, ⟨rfl⟩, ⟨Nat.zero_le _⟩, H0L, HT0⟩
                case round =>
                  clear HT0
                  obtain ⟨j, rfl, HK, HJN, HLE3, HT⟩ := hrel
                  cases gk with
                  | zero => exact absurd HK.out (by have := HJN.out; omega)
                  | succ k2 =>
                    by_cases hlt : j < n
                    · obtain ⟨ad, rfl, q, ok⟩ := HG.out j hlt
                      obtain ⟨a8, rfl, _, ez⟩ := HT.out.e j hlt
                      clear ez
                      have e0' := HT.out.end_ hlt
                      have q' := q.below HT.out.low
                      have c0 := q'.c0
                      have c1 := q'.c1
                      have c2 := q'.c2
                      have c3 := q'.c3
                      have c4 := q'.c4
                      have c5 := q'.c5
                      have c6 := q'.c6
                      have Q := Aside0.mk q
                      have OK := Aside0.mk ok
                      have hji : (0 : Int) ≤ (j : Int) := by omega
                      have hjm : (j : Int) < (n : Int) := by omega
                      have HW3 := Aside0.mk (wrap_next j n (by have := HN.out; omega) hlt)
                      by_cases hle : (cat G J (j + 1)).length ≤ M.length
                      · have hled : decide (((cat G J (j + 1)).length : Int) ≤ (M.length : Int)) = true := decide_eq_true (by omega)
                        have HE := Aside0.mk (rest3_ok G J n M.length j hlt hle)
                        have HT3 : Aside0 (There3 w w10 gs hs S3 (some a8) n (endsL G J n) (enc (G j) (J j) ++ rest3 G J n M.length (j + 1)) wr) := ⟨by rw [← HE.out]; exact HT.out⟩
                        have HI3 := Aside0.mk (rest3_in G J n M.length (j + 1) HIN.out)
                        have HL3 : Aside0 ((enc (G j) (J j) ++ rest3 G J n M.length (j + 1)).length ≤ 140737488351232) := ⟨by rw [← HE.out]; have := rest3_len G J n M.length j; have := HCN.out; omega⟩
                        have HLE4 := Aside0.mk hle
                        clear q q' ok
                        go_wp2_with (first
                          | (go_at_call 46; (go_loud (with_reducible refine (There3.back_ok (d := G j) (j := J j) (l1 := rest3 G J n M.length (j + 1)) HT3.out (by first | exact Below.refl _ _ | exact dr_below _ | exact dn_below _ _) Q.out OK.out (HJ.out j hlt).1 (HJ.out j hlt).2 HI3.out HL3.out).mono ?_); rintro e3 w3 ⟨rfl, h⟩; have T3 := Aside0.mk h; clear h))
                          | (go_at_call 36; ((with_reducible refine (Reader_Err w3 gs (rest3 G J n M.length (j + 1)) 0 T3.out.r).mono ?_); rintro e5 w5 ⟨rfl, rfl⟩)))
                        all_goals (go_roundg k2; (case measure => omega); (case rel => exact ⟨j + 1, by first | rfl | (rw [← HW3.out]), ⟨by have := HK.out; omega⟩, ⟨by omega⟩, HLE4, T3⟩))
                      · have hled : decide (((cat G J (j + 1)).length : Int) ≤ (M.length : Int)) = false := decide_eq_false (by omega)
                        have HE := Aside0.mk (rest3_no G J n M.length j hlt HLE3.out (by omega))
                        clear q q' ok
                        go_wp2_with (first
                          | (go_at_call 46; (go_loud (with_reducible refine (There3.back_no (d := G j) (j := J j) HT.out (by first | exact Below.refl _ _ | exact dr_below _ | exact dn_below _ _) Q.out OK.out (HJ.out j hlt).1 (HJ.out j hlt).2 HE.out.1 HE.out.2).mono ?_); rintro e3 w3 ⟨⟨b3, rfl⟩, h1, h2⟩; have T3 := Aside0.mk h1; have B3 := Aside0.mk h2; clear h1 h2))
                          | (go_at_call 36; ((with_reducible refine (Reader_Err w3 gs (rest3 G J n M.length j) 20 T3.out).mono ?_); rintro e5 w5 ⟨rfl, rfl⟩))
                          | (go_at_call 39; ((with_reducible refine (Reader_End _ gs (rest3 G J n M.length j) 20 T3.out).mono ?_); rintro e5 w5 ⟨rfl, rfl⟩; rw [end_20])))
                        go_ret
                        exact ⟨rfl, B3.out⟩
                    · exact absurd HLE3.out (by have hjn : n = j := (by have := HJN.out; omega); subst hjn; have := HMN.out; omega)
end Go.Proofs.Ytkjkmaopifmghaa.Oct
