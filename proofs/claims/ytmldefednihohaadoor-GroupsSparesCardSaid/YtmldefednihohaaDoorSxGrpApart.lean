/- ApartInts says true of rows of one's own that lie apart (plain walk). -/
import Derived.Test.YtmldefednihohaaDoorSxGrpApartG
import Derived.Deep.RegionLaw
namespace Go.Proofs.YtmldefednihohaaDoor.GrpAp
open Go.Proofs.YtmldefednihohaaDoor.Grp
open Go.RowKit Go.Proofs.YtmldefednihohaaDoorW.PrintWords Go.Proofs.YtmldefednihohaaDoorW.PrintLast Go.Proofs.YtmldefednihohaaDoorW.PrintMore
set_option linter.unusedVariables false
set_option linter.unusedSimpArgs false
set_option maxRecDepth 100000
theorem infoS : (Tryd.prog.info? 29).map (fun i => (i.zero, i.size, i.bytes)) = some (some (.slice none 0 0), 1, 24) := by kernel_rfl
set_option maxHeartbeats 8000000 in
theorem apart_calls (w : World) (K gl cl : Nat) (A : Nat → Option Addr) (N C : Nat → Nat) (L : Nat → List Int) (h : St K gl A N C w w L) (hN : ∀ k, k < K → N k ≤ 4096) (hK : K ≤ 1000) (hK0 : 0 < K) (T : Nat → Prop) (hT : ∀ k, k < K → ∀ b, (rowV A N C k).ownBlock = some b → T b) :
    Calls Tryd.prog 27 #[.slice (some ⟨gl, 0, none⟩) K cl] w fun e w' => e = .returned (.bool true) ∧ Fr w w' T := by
  have H := Aside0.mk h
  have HN := Aside0.mk hN
  have HK := Aside0.mk hK
  have HK0 := Aside0.mk hK0
  have HTT := Aside0.mk hT
  clear h hN hK hK0 hT
  go_enter Tryd.func27, Tryd.ntmps27
  go_wp2
  go_loopg [3] (K + 1) (fun kq v3 w' => ∃ k : Nat, v3 = .int .i64 (k : Int) ∧ Aside0 (kq + k = K + 1) ∧ Aside0 (k ≤ K) ∧ Aside0 (∃ L', St K gl A N C w w' L' ∧ ∀ j, j < k → L' j = mks j (N j)))
  case atStart => exact ⟨0, rfl, ⟨rfl⟩, ⟨Nat.zero_le _⟩, ⟨L, H.out, fun j hj => absurd hj (by omega)⟩⟩
  case round =>
    obtain ⟨k, rfl, HQ, HJ, HS⟩ := hrel
    cases gk with
    | zero => exact absurd HQ.out (by have := HJ.out; omega)
    | succ k1 =>
      by_cases hlt : k < K
      · have hk0 : (0 : Int) ≤ (k : Int) := by omega
        have hkm : (k : Int) < (K : Int) := by omega
        have HW1 : Aside0 (wrap64 ((k : Int) + 1) = ((k + 1 : Nat) : Int)) := ⟨wrap_up k 1000 (by have := HK.out; omega) (by omega)⟩
        go_wp2
        go_loopg [4] (N k + 1) (fun kq v4 w' => ∃ i : Nat, v4 = .int .i64 (i : Int) ∧ Aside0 (kq + i = N k + 1) ∧ Aside0 (i ≤ N k) ∧ Aside0 (∃ L', St K gl A N C w w' L' ∧ (∀ j, j < k → L' j = mks j (N j)) ∧ (L' k).take i = mks k i))
        case atStart =>
          refine ⟨0, rfl, ⟨rfl⟩, ⟨Nat.zero_le _⟩, ⟨?_⟩⟩
          obtain ⟨L', h1, h2⟩ := HS.out
          exact ⟨L', h1, h2, by simp [mks]⟩
        case round =>
          obtain ⟨i, rfl, HQ2, HI, HS2⟩ := hrel
          cases gk with
          | zero => exact absurd HQ2.out (by have := HI.out; omega)
          | succ k2 =>
            obtain ⟨L', hst, hL, hT⟩ := HS2.out
            have hcl := hst.hd k hlt
            unfold rowV at hcl
            by_cases hi : i < N k
            · obtain ⟨b, hA⟩ := hst.at_ hlt (by omega)
              obtain ⟨hc, hf⟩ := hst.cell hlt hi hA
              rw [hA] at hcl
              have hi0 : (0 : Int) ≤ (i : Int) := by omega
              have him : (i : Int) < (N k : Int) := by omega
              generalize hz : (Value.int IntKind.i64 (rdOf (0 : Int) (L' k) (i : Int))) = z at hc
              clear hz
              have HS3 := Aside0.mk hst
              have HL := Aside0.mk hL
              have HT := Aside0.mk hT
              have HA := Aside0.mk hA
              have HW3 : Aside0 (wrap64 ((i : Int) + 1) = ((i + 1 : Nat) : Int)) := ⟨wrap_up i (N k) (by omega) (by have := HN.out k hlt; omega)⟩
              have HF : Aside0 (GrpMk.latchkeykit_mark.f (k : Int) (i : Int) = some (Mk k i)) := ⟨Mk_f k i⟩
              clear hst hL hT hA
              go_wp2
              go_region_with (go_at_call 46; go_loud (refine (GrpMk.latchkeykit_mark.calls (k : Int) (i : Int) (Mk k i) _ HF.out).mono ?_); rintro e1 w2 ⟨rfl, ⟨m2, rfl⟩⟩)
              all_goals (go_wp2_with fail; go_roundg k2; (case measure => omega); (case rel => exact ⟨i + 1, by first | rfl | (rw [← HW3.out]), ⟨by have := HQ2.out; omega⟩, ⟨by omega⟩, ⟨HS3.out.mark HL.out HT.out hlt hi HA.out⟩⟩))
            · have hin : i = N k := by have := HI.out; omega
              subst hin
              have HS3 : Aside0 (∃ L', St K gl A N C w wr L' ∧ ∀ j, j < k + 1 → L' j = mks j (N j)) := ⟨L', hst, hst.marked hL hT hlt⟩
              have hd : decide (((N k : Nat) : Int) < (N k : Int)) = false := decide_eq_false (by omega)
              clear hst hL hT
              go_wp2
              go_roundg k1
              case measure => omega
              case rel => exact ⟨k + 1, by first | rfl | (rw [← HW1.out]), ⟨by have := HQ.out; omega⟩, ⟨by omega⟩, HS3⟩
      · have hkn : k = K := by have := HJ.out; omega
        subst hkn
        have hd : decide ((k : Int) < (k : Int)) = false := decide_eq_false (by omega)
        have HG0 : Aside0 (St k gl A N C w wr (fun j => mks j (N j))) := ⟨by obtain ⟨L', h1, h2⟩ := HS.out; exact h1.same (fun j hj => (h2 j hj).symm)⟩
        obtain ⟨K, hKK⟩ : ∃ K, K = k := ⟨_, rfl⟩
        rw [← hKK] at HG0 hd H HN HK HK0 HTT ⊢
        clear HS HQ HJ hlt hKK
        go_wp2
        go_loopg [5, 6] (K + 1) (fun kq v5 v6 w' => ∃ (k : Nat) (Gs : Nat → Sl), v6 = .int .i64 (k : Int) ∧ Aside0 (kq + k = K + 1) ∧ Aside0 (k ≤ K) ∧ Aside0 (Gr K gl A N C w w' k v5 Gs (fun j => mks j (N j + 64))))
        case atStart => exact ⟨0, fun _ => (none, 0, 0), rfl, ⟨rfl⟩, ⟨Nat.zero_le _⟩, ⟨Gr.nil HG0.out⟩⟩
        case round =>
          obtain ⟨k, Gs, rfl, HQ, HJ, HG⟩ := hrel
          cases gk with
          | zero => exact absurd HQ.out (by have := HJ.out; omega)
          | succ k1 =>
            by_cases hlt : k < K
            · have hk0 : (0 : Int) ≤ (k : Int) := by omega
              have hkm : (k : Int) < (K : Int) := by omega
              have HW1 : Aside0 (wrap64 ((k : Int) + 1) = ((k + 1 : Nat) : Int)) := ⟨wrap_up k 1000 (by have := HK.out; omega) (by omega)⟩
              have hcl := HG.out.st.hd k hlt
              unfold rowV at hcl
              have HI0 := Aside0.mk (Gi.start HG.out hlt)
              go_wp2
              go_loopg [7, 8] 65 (fun kq v7 v8 w' => ∃ (i : Nat) (p : Sl), v7 = sv p ∧ v8 = .int .i64 (i : Int) ∧ Aside0 (kq + i = 65) ∧ Aside0 (i ≤ 64) ∧ Aside0 (Gi K gl A N C w w' k u5 Gs (fun j => mks j (N j + 64)) i p))
              case atStart => exact ⟨0, _, rfl, rfl, ⟨rfl⟩, ⟨Nat.zero_le _⟩, HI0⟩
              case round =>
                obtain ⟨i, p, rfl, rfl, HQ2, HI, HS2⟩ := hrel
                cases gk with
                | zero => exact absurd HQ2.out (by have := HI.out; omega)
                | succ k2 =>
                  have hcl2 := HS2.out.gr.st.hd k hlt
                  unfold rowV at hcl2
                  by_cases hi : i < 64
                  · have hi0 : (0 : Int) ≤ (i : Int) := by omega
                    have him : (i : Int) < 64 := by omega
                    have HW3 : Aside0 (wrap64 ((i : Int) + 1) = ((i + 1 : Nat) : Int)) := ⟨wrap_up i 64 (by omega) (by omega)⟩
                    have hsum : wrap64 ((N k : Int) + (i : Int)) = (N k : Int) + (i : Int) := by have := HN.out k hlt; unfold wrap64; omega
                    have HF : Aside0 (GrpMk.latchkeykit_mark.f (k : Int) ((N k : Int) + (i : Int)) = some (Mk k (N k + i))) := ⟨by have := Mk_f k (N k + i); rwa [Int.natCast_add] at this⟩
                    go_wp2_with (first | (go_at_call 46; go_loud (refine (GrpMk.latchkeykit_mark.calls (k : Int) ((N k : Int) + (i : Int)) (Mk k (N k + i)) _ HF.out).mono ?_); rintro e1 w2 ⟨rfl, hd2⟩; have HD := Aside0.mk (HS2.out.below hd2.below); clear hd2) | ((with_reducible refine gate_builtin (b := .append) (xs := #[.tmp 54, .tmp 64]) rfl ?_); at_builtin; go_loud (refine wp_app1 (k := .i64) 0 rfl (.tmp 54) (.tmp 64) 29 3 (.int .i64 0) 8 rfl Tryd.underlying29 infoI rfl (by decide) (sv p) (mks k (N k + i)) (Mk k (N k + i)) (fun _ => True) rfl rfl ?aO ?aL ?aS ?aF ?_); (case aO => exact HD.out.row); (case aL => have := HN.out k hlt; rw [mks_len]; omega); (case aS => exact Nat.zero_le _); (case aF => exact fun _ _ => trivial); intro v6 w6 hr hg; (rw [mks_len] at hg); (obtain ⟨p1, rfl, hG⟩ := HD.out.next hlt hg hr); have HG1 := Aside0.mk hG; clear hr hg hG))
                    go_roundg k2
                    case measure => omega
                    case rel => exact ⟨i + 1, p1, rfl, by first | rfl | (rw [← HW3.out]) | (congr 1; omega), ⟨by have := HQ2.out; omega⟩, ⟨by omega⟩, HG1⟩
                  · have hin : i = 64 := by have := HI.out; omega
                    subst hin
                    have hsv : (Value.slice p.1 p.2.1 p.2.2) = sv p := rfl
                    go_wp2_with ((with_reducible refine gate_builtin (b := .append) (xs := #[.tmp 66, .tmp 68]) rfl ?_); at_builtin; go_loud (refine Kd.R_append SL (w0 := wr) w.heap.size rfl (.tmp 66) (.tmp 68) 56 29 (.slice none 0 0) 24 rfl Tryd.underlying56 infoS rfl (by decide) (by omega) u5 ((List.range k).map Gs) p [sv p] (fun _ => True) (fun _ => False) rfl rfl ?aP (fun _ hk => hk.elim) ?aF ?aO ?aB ?aS ?aL ?_); (case aP => exact rfl); (case aB => exact ⟨rfl, rfl, rfl, Nat.le_refl _, fun _ _ => rfl⟩); (case aF => exact (fun _ _ => trivial)); (case aO => exact HS2.out.gr.gs); (case aS => exact HS2.out.gr.size); (case aL => have h1 := HK.out; simp only [List.length_map, List.length_range]; omega); intro v6 w6 ho hb hg hat; have HG1 := Aside0.mk (HS2.out.lay hlt rfl ho hg); clear ho hb hg hat)
                    go_roundg k1
                    case measure => omega
                    case rel => exact ⟨k + 1, _, by first | rfl | (rw [← HW1.out]) | (congr 1; omega), ⟨by have := HQ.out; omega⟩, ⟨by omega⟩, HG1⟩
            · have hkn : k = K := by have := HJ.out; omega
              subst hkn
              have hd : decide ((k : Int) < (k : Int)) = false := decide_eq_false (by omega)
              obtain ⟨K, hKK⟩ : ∃ K, K = k := ⟨_, rfl⟩
              rw [← hKK] at HG hd H HN HK HK0 HTT ⊢
              obtain ⟨A5, c5, he⟩ := Kd.R_slice HG.out.gs
              rw [he] at HG
              rw [he]
              obtain ⟨hn5, gb, hA5⟩ := HG.out.head HK0.out
              rw [hn5, hA5] at HG
              rw [hn5, hA5]
              obtain ⟨E, hE⟩ : ∃ E : Nat → List Int, E = fun j => mks j (N j + 64) := ⟨_, rfl⟩
              rw [← hE] at HG
              have HE := Aside0.mk hE
              have HEL : Aside0 (∀ j, (E j).length = N j + 64) := ⟨fun j => by rw [hE]; exact mks_len _ _⟩
              clear HQ HJ hlt hKK he hn5 hA5 hE
              go_wp2
              go_loopg [9] (K + 1) (fun kq v9 w' => ∃ k : Nat, v9 = .int .i64 (k : Int) ∧ Aside0 (kq + k = K + 1) ∧ Aside0 (k ≤ K) ∧ Aside0 (Gr K gl A N C w w' K (.slice (some ⟨gb, 0, none⟩) K c5) Gs E))
              case atStart => exact ⟨0, rfl, ⟨rfl⟩, ⟨Nat.zero_le _⟩, HG⟩
              case round =>
                obtain ⟨k, rfl, HQ, HJ, HG⟩ := hrel
                cases gk with
                | zero => exact absurd HQ.out (by have := HJ.out; omega)
                | succ k1 =>
                  by_cases hlt : k < K
                  · have hk0 : (0 : Int) ≤ (k : Int) := by omega
                    have hkm : (k : Int) < (K : Int) := by omega
                    have HW1 : Aside0 (wrap64 ((k : Int) + 1) = ((k + 1 : Nat) : Int)) := ⟨wrap_up k 1000 (by have := HK.out; omega) (by omega)⟩
                    go_wp2
                    go_loopg [10] (N k + 65) (fun kq v10 w' => ∃ i : Nat, v10 = .int .i64 (i : Int) ∧ Aside0 (kq + i = N k + 65) ∧ Aside0 (i ≤ N k + 64) ∧ Aside0 (Gr K gl A N C w w' K (.slice (some ⟨gb, 0, none⟩) K c5) Gs E))
                    case atStart => exact ⟨0, rfl, ⟨rfl⟩, ⟨Nat.zero_le _⟩, HG⟩
                    case round =>
                      obtain ⟨i, rfl, HQ2, HI, HG2⟩ := hrel
                      cases gk with
                      | zero => exact absurd HQ2.out (by have := HI.out; omega)
                      | succ k2 =>
                        obtain ⟨a, c, hgc, hcc0⟩ := HG2.out.look hlt
                        obtain ⟨b, hab, hcc⟩ := hcc0 (by rw [HEL.out]; omega)
                        clear hcc0
                        subst hab
                        rw [HEL.out] at hgc hcc
                        have hcl := HG2.out.st.hd k hlt
                        unfold rowV at hcl
                        by_cases hi : i < N k + 64
                        · have hi0 : (0 : Int) ≤ (i : Int) := by omega
                          have him : (i : Int) < ((N k + 64 : Nat) : Int) := by omega
                          have hc := hcc i hi
                          rw [HE.out, mks_rd k hi] at hc
                          clear hcc
                          have HW3 : Aside0 (wrap64 ((i : Int) + 1) = ((i + 1 : Nat) : Int)) := ⟨wrap_up i (N k + 64) (by omega) (by have := HN.out k hlt; omega)⟩
                          have HF : Aside0 (GrpMk.latchkeykit_mark.f (k : Int) (i : Int) = some (Mk k i)) := ⟨Mk_f k i⟩
                          by_cases hiN : i < N k
                          · obtain ⟨b1, hA⟩ := HG2.out.st.at_ hlt (by omega)
                            have hc1 := (HG2.out.st.cell hlt hiN hA).1
                            rw [mks_rd k hiN] at hc1
                            rw [hA] at hcl
                            have hiN' : (i : Int) < (N k : Int) := by omega
                            generalize Mk k i = z at hc HF hc1
                            go_wp2
                            go_quiet ((go_at_call 46; first | exact quietM (fun w => GrpMk.latchkeykit_mark.calls (k : Int) (i : Int) z w HF.out) | exact quietB (fun w => GrpMk.latchkeykit_mark.calls (k : Int) (i : Int) z w HF.out)))
                            go_wp2
                            go_roundg k2
                            case measure => omega
                            case rel => exact ⟨i + 1, by first | rfl | (rw [← HW3.out]) | (congr 1; omega), ⟨by have := HQ2.out; omega⟩, ⟨by omega⟩, ⟨HG2.out.below (dnb _ _)⟩⟩
                          · have hd : decide ((i : Int) < (N k : Int)) = false := decide_eq_false (by omega)
                            generalize Mk k i = z at hc HF
                            go_wp2
                            go_quiet ((go_at_call 46; first | exact quietM (fun w => GrpMk.latchkeykit_mark.calls (k : Int) (i : Int) z w HF.out) | exact quietB (fun w => GrpMk.latchkeykit_mark.calls (k : Int) (i : Int) z w HF.out)))
                            go_wp2
                            go_roundg k2
                            case measure => omega
                            case rel => exact ⟨i + 1, by first | rfl | (rw [← HW3.out]) | (congr 1; omega), ⟨by have := HQ2.out; omega⟩, ⟨by omega⟩, ⟨HG2.out.below (dnb _ _)⟩⟩
                        · have hin : i = N k + 64 := by have := HI.out; omega
                          subst hin
                          have hd : decide (((N k + 64 : Nat) : Int) < ((N k + 64 : Nat) : Int)) = false := decide_eq_false (by omega)
                          clear hcc
                          go_wp2
                          go_roundg k1
                          case measure => omega
                          case rel => exact ⟨k + 1, by first | rfl | (rw [← HW1.out]) | (congr 1; omega), ⟨by have := HQ.out; omega⟩, ⟨by omega⟩, HG2⟩
                  · have hkn : k = K := by have := HJ.out; omega
                    subst hkn
                    have hd : decide ((k : Int) < (k : Int)) = false := decide_eq_false (by omega)
                    have HG4 : Aside0 (∃ E' Gs', Gr k gl A N C w wr k (.slice (some ⟨gb, 0, none⟩) k c5) Gs' E' ∧ ∀ j, j < k → N j ≤ (E' j).length ∧ (E' j).take (N j) = mks j (N j)) := ⟨E, Gs, HG.out, fun j hj => by rw [HE.out]; exact ⟨by rw [mks_len]; omega, mks_take j (by omega)⟩⟩
                    obtain ⟨K, hKK⟩ : ∃ K, K = k := ⟨_, rfl⟩
                    rw [← hKK] at HG4 hd H HN HK HK0 HTT ⊢
                    clear HG HQ HJ hlt hKK HE HEL
                    go_wp2
                    go_loopg [11] (K + 1) (fun kq v11 w' => ∃ k : Nat, v11 = .int .i64 (k : Int) ∧ Aside0 (kq + k = K + 1) ∧ Aside0 (k ≤ K) ∧ Aside0 (∃ E' Gs', Gr K gl A N C w w' K (.slice (some ⟨gb, 0, none⟩) K c5) Gs' E' ∧ ∀ j, j < K → N j ≤ (E' j).length ∧ (E' j).take (N j) = mks j (N j)))
                    case atStart => exact ⟨0, rfl, ⟨rfl⟩, ⟨Nat.zero_le _⟩, HG4⟩
                    case round =>
                      obtain ⟨k, rfl, HQ, HJ, HG⟩ := hrel
                      cases gk with
                      | zero => exact absurd HQ.out (by have := HJ.out; omega)
                      | succ k1 =>
                        by_cases hlt : k < K
                        · have hk0 : (0 : Int) ≤ (k : Int) := by omega
                          have hkm : (k : Int) < (K : Int) := by omega
                          have HW1 : Aside0 (wrap64 ((k : Int) + 1) = ((k + 1 : Nat) : Int)) := ⟨wrap_up k 1000 (by have := HK.out; omega) (by omega)⟩
                          obtain ⟨ws, hws⟩ : ∃ ws, ws = wr := ⟨_, rfl⟩
                          have HGs := HG
                          rw [← hws] at HGs
                          have HB0 : Aside0 (Below ws.heap.size ws wr) := ⟨by rw [hws]; exact Below.refl _ _⟩
                          clear hws HG
                          go_wp2
                          go_loopg [12, 13] 65 (fun kq v12 v13 w' => ∃ (i : Nat) (ys : List Int), v13 = .int .i64 (i : Int) ∧ Aside0 (kq + i = 65) ∧ Aside0 (i ≤ 64) ∧ Aside0 (ys.length = i) ∧ Aside0 (I64.R 3 w' ws.heap.size (fun _ => True) v12 ys) ∧ Aside0 (Below ws.heap.size ws w'))
                          case atStart => exact ⟨0, [], rfl, ⟨rfl⟩, ⟨Nat.zero_le _⟩, ⟨rfl⟩, ⟨Kd.R_nil _ _ _ _ _⟩, HB0⟩
                          case round =>
                            obtain ⟨i, ys, rfl, HQ2, HI, HY, HR, HB⟩ := hrel
                            cases gk with
                            | zero => exact absurd HQ2.out (by have := HI.out; omega)
                            | succ k2 =>
                              by_cases hi : i < 64
                              · have hi0 : (0 : Int) ≤ (i : Int) := by omega
                                have him : (i : Int) < 64 := by omega
                                have HW3 : Aside0 (wrap64 ((i : Int) + 1) = ((i + 1 : Nat) : Int)) := ⟨wrap_up i 64 (by omega) (by omega)⟩
                                have hsum : wrap64 ((k : Int) + (K : Int)) = (k : Int) + (K : Int) := by have := HK.out; unfold wrap64; omega
                                obtain ⟨z, hz⟩ := mark_f ((k : Int) + (K : Int)) (i : Int)
                                have HF := Aside0.mk hz
                                clear hz
                                go_wp2_with (first | (go_at_call 46; go_loud (refine (GrpMk.latchkeykit_mark.calls ((k : Int) + (K : Int)) (i : Int) z _ HF.out).mono ?_); rintro e1 w2 ⟨rfl, hd2⟩; have HD := Aside0.mk (Kd.R_below HR.out hd2.below); have HB2 := Aside0.mk (below_step HB.out hd2.below); clear hd2) | ((with_reducible refine gate_builtin (b := .append) (xs := #[.tmp 130, .tmp 137]) rfl ?_); at_builtin; go_loud (refine Kd.R_append I64 (w0 := ws) ws.heap.size rfl (.tmp 130) (.tmp 137) 29 3 (.int .i64 0) 8 rfl Tryd.underlying29 infoI rfl (by decide) (by omega) u12 ys z [.int .i64 z] (fun _ => True) (fun _ => False) rfl rfl ?aP (fun _ hk => hk.elim) ?aF HD.out HB2.out ?aS ?aL ?_); (case aP => exact rfl); (case aF => exact (fun _ _ => trivial)); (case aS => exact HB2.out.size); (case aL => have h1 := HY.out; omega); intro v6 w6 ho hb hg hat; have HO := Aside0.mk ho; have HB6 := Aside0.mk hb; clear ho hb hg hat))
                                go_roundg k2
                                case measure => omega
                                case rel => exact ⟨i + 1, ys ++ [z], by first | rfl | (rw [← HW3.out]) | (congr 1; omega), ⟨by have := HQ2.out; omega⟩, ⟨by omega⟩, ⟨by rw [List.length_append, HY.out]; rfl⟩, HO, HB6⟩
                              · have hin : i = 64 := by have := HI.out; omega
                                subst hin
                                obtain ⟨A12, c12, rfl⟩ := Kd.R_slice HR.out
                                have HC := Aside0.mk (Kd.R_reads' HR.out).2.2
                                have hy := HY.out
                                rw [hy] at HC ⊢
                                obtain ⟨ad, hA12⟩ : ∃ ad, A12 = some ad := by
                                  rcases (Kd.own_of_R HR.out).2 with ⟨_, h0⟩ | ⟨b, cap, cur, hv, _⟩
                                  · omega
                                  · exact ⟨_, (Value.slice.inj hv).1⟩
                                rw [hA12] at HC ⊢
                                obtain ⟨E', Gs', hG, hE'⟩ := HGs.out
                                have hcl2 := (hG.below HB.out).st.hd k hlt
                                unfold rowV at hcl2
                                have HG2 := Aside0.mk (hG.below HB.out)
                                have HE' := Aside0.mk hE'
                                clear hG hE' hy hA12 HR
                                go_wp2_with ((with_reducible refine gate_builtin (b := .append) (xs := #[.tmp 144, .tmp 145]) rfl ?_); at_builtin; go_loud (refine wp_app (k := .i64) 0 rfl (.tmp 144) (.tmp 145) 29 3 (.int .i64 0) 8 rfl Tryd.underlying29 infoI rfl (by decide) (.slice (A k) (N k) (C k)) (mks k (N k)) ys (fun _ => True) ad 64 c12 rfl rfl ?aO (by decide) ?aC ?aL ?aS ?aF ?_); (case aO => exact HG2.out.st.row k hlt); (case aC => exact HC.out); (case aL => have := HN.out k hlt; rw [mks_len]; omega); (case aS => exact Nat.zero_le _); (case aF => exact fun _ _ => trivial); intro v6 w6 hr hg; (rw [mks_len] at hg); (obtain ⟨p1, rfl, hz6, ⟨z6, hc6⟩, hG6⟩ := HG2.out.regrow hlt hg hr); have HG6 := Aside0.mk hG6; clear hr hg hG6)
                                have HG7 : Aside0 (∃ E2 Gs2, Gr K gl A N C w (w6.setCell ⟨gb, k, none⟩ (sv p1)) K (.slice (some ⟨gb, 0, none⟩) K c5) Gs2 E2 ∧ ∀ j, j < K → N j ≤ (E2 j).length ∧ (E2 j).take (N j) = mks j (N j)) := ⟨_, _, HG6.out, fun j hj => by
                                  by_cases e : j = k
                                  · subst e
                                    simp only [if_true]
                                    exact ⟨by rw [List.length_append, mks_len]; omega, List.take_left' (mks_len _ _)⟩
                                  · simp only [e, if_false]
                                    exact HE'.out j hj⟩
                                clear HG6
                                go_roundg k1
                                case measure => omega
                                case rel => exact ⟨k + 1, by first | rfl | (rw [← HW1.out]) | (congr 1; omega), ⟨by have := HQ.out; omega⟩, ⟨by omega⟩, HG7⟩
                        · have hkn : k = K := by have := HJ.out; omega
                          subst hkn
                          have hd : decide ((k : Int) < (k : Int)) = false := decide_eq_false (by omega)
                          obtain ⟨K, hKK⟩ : ∃ K, K = k := ⟨_, rfl⟩
                          rw [← hKK] at HG hd H HN HK HK0 HTT ⊢
                          obtain ⟨E', Gs', hG, hE'⟩ := HG.out
                          have HG5 := Aside0.mk hG
                          have HE' := Aside0.mk hE'
                          clear HG HQ HJ hlt hKK hG hE'
                          go_wp2
                          go_loopg [14] (K + 1) (fun kq v14 w' => ∃ k : Nat, v14 = .int .i64 (k : Int) ∧ Aside0 (kq + k = K + 1) ∧ Aside0 (k ≤ K) ∧ Aside0 (Gr K gl A N C w w' K (.slice (some ⟨gb, 0, none⟩) K c5) Gs' E'))
                          case atStart => exact ⟨0, rfl, ⟨rfl⟩, ⟨Nat.zero_le _⟩, HG5⟩
                          case round =>
                            obtain ⟨k, rfl, HQ, HJ, HG⟩ := hrel
                            cases gk with
                            | zero => exact absurd HQ.out (by have := HJ.out; omega)
                            | succ k1 =>
                              by_cases hlt : k < K
                              · have hk0 : (0 : Int) ≤ (k : Int) := by omega
                                have hkm : (k : Int) < (K : Int) := by omega
                                have HW1 : Aside0 (wrap64 ((k : Int) + 1) = ((k + 1 : Nat) : Int)) := ⟨wrap_up k 1000 (by have := HK.out; omega) (by omega)⟩
                                go_wp2
                                go_loopg [15] (N k + 1) (fun kq v15 w' => ∃ i : Nat, v15 = .int .i64 (i : Int) ∧ Aside0 (kq + i = N k + 1) ∧ Aside0 (i ≤ N k) ∧ Aside0 (Gr K gl A N C w w' K (.slice (some ⟨gb, 0, none⟩) K c5) Gs' E'))
                                case atStart => exact ⟨0, rfl, ⟨rfl⟩, ⟨Nat.zero_le _⟩, HG⟩
                                case round =>
                                  obtain ⟨i, rfl, HQ2, HI, HG2⟩ := hrel
                                  cases gk with
                                  | zero => exact absurd HQ2.out (by have := HI.out; omega)
                                  | succ k2 =>
                                    obtain ⟨hel, het⟩ := HE'.out k hlt
                                    have hcl := HG2.out.st.hd k hlt
                                    unfold rowV at hcl
                                    by_cases hi : i < N k
                                    · have hi0 : (0 : Int) ≤ (i : Int) := by omega
                                      have him : (i : Int) < (N k : Int) := by omega
                                      obtain ⟨a, c, hgc, hcc0⟩ := HG2.out.look hlt
                                      obtain ⟨b, hab, hcc⟩ := hcc0 (by omega)
                                      clear hcc0
                                      subst hab
                                      have hc := hcc i (by omega)
                                      rw [rd_take het hi, mks_rd k hi] at hc
                                      obtain ⟨b1, hA⟩ := HG2.out.st.at_ hlt (by omega)
                                      have hc1 := (HG2.out.st.cell hlt hi hA).1
                                      rw [mks_rd k hi] at hc1
                                      rw [hA] at hcl
                                      generalize hEl : (E' k).length = n5 at hgc hel
                                      have hin5 : (i : Int) < (n5 : Int) := by omega
                                      have HW3 : Aside0 (wrap64 ((i : Int) + 1) = ((i + 1 : Nat) : Int)) := ⟨wrap_up i (N k) (by omega) (by have := HN.out k hlt; omega)⟩
                                      have HF : Aside0 (GrpMk.latchkeykit_mark.f (k : Int) (i : Int) = some (Mk k i)) := ⟨Mk_f k i⟩
                                      clear hcc het hEl
                                      generalize Mk k i = z at hc HF hc1
                                      go_wp2
                                      go_quiet ((go_at_call 46; first | exact quietM (fun w => GrpMk.latchkeykit_mark.calls (k : Int) (i : Int) z w HF.out) | exact quietB (fun w => GrpMk.latchkeykit_mark.calls (k : Int) (i : Int) z w HF.out)))
                                      go_wp2
                                      go_roundg k2
                                      case measure => omega
                                      case rel => exact ⟨i + 1, by first | rfl | (rw [← HW3.out]) | (congr 1; omega), ⟨by have := HQ2.out; omega⟩, ⟨by omega⟩, ⟨HG2.out.below (dnb _ _)⟩⟩
                                    · have hin : i = N k := by have := HI.out; omega
                                      subst hin
                                      have hd : decide (((N k : Nat) : Int) < (N k : Int)) = false := decide_eq_false (by omega)
                                      clear het hel
                                      go_wp2
                                      go_roundg k1
                                      case measure => omega
                                      case rel => exact ⟨k + 1, by first | rfl | (rw [← HW1.out]) | (congr 1; omega), ⟨by have := HQ.out; omega⟩, ⟨by omega⟩, HG2⟩
                              · have hkn : k = K := by have := HJ.out; omega
                                subst hkn
                                have hd : decide ((k : Int) < (k : Int)) = false := decide_eq_false (by omega)
                                go_wp2
                                go_ret
                                exact ⟨rfl, HG.out.st.fr.1, HG.out.st.fr.2.mono fun b hb => by obtain ⟨j, hj, hb⟩ := hb; exact HTT.out j hj b hb⟩
end Go.Proofs.YtmldefednihohaaDoor.GrpAp
