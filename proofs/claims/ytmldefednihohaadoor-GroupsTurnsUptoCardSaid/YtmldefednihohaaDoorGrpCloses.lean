/- GroupsCloses says true (a plain walk). -/
import Derived.Test.YtmldefednihohaaDoorGrpTellsT
import Derived.Deep.RegionLaw
namespace Go.Proofs.YtmldefednihohaaDoor.Grp
open Go.RowKit Go.Proofs.YtmldefednihohaaDoorW.PrintWords Go.Proofs.YtmldefednihohaaDoorW.PrintLast Go.Proofs.YtmldefednihohaaDoorW.PrintMore
set_option linter.unusedVariables false
set_option linter.unusedSimpArgs false
set_option maxRecDepth 100000
set_option maxHeartbeats 2000000 in
theorem fewx_calls (w : World) (A : Option Addr) (n c : Nat) (G : Nat → OpX) (h : OxsAt w A n G) (hc : n ≤ c) :
    Calls Tryd.prog 16 #[.slice A n c] w fun e w' => ∃ m, e = .returned (.slice A m c) ∧ m ≤ n ∧ m ≤ 300 ∧ w' = w := by
  by_cases hn : n ≤ 300
  · have d1 : decide ((n : Int) > 300) = false := decide_eq_false (by omega)
    have d2 : decide (300 < (n : Int)) = false := decide_eq_false (by omega)
    have HN := Aside0.mk hn
    clear h hc hn
    go_enter Tryd.func16, Tryd.ntmps16
    go_wp2
    go_ret
    exact ⟨n, rfl, Nat.le_refl _, HN.out, rfl⟩
  · have d1 : decide ((n : Int) > 300) = true := decide_eq_true (by omega)
    have d2 : decide (300 < (n : Int)) = true := decide_eq_true (by omega)
    obtain ⟨ad, rfl, _⟩ := h 0 (by omega)
    have h300 : (300 : Int) ≤ (c : Int) := by omega
    have HN : Aside0 (300 ≤ n) := ⟨by omega⟩
    clear h hn hc
    go_enter Tryd.func16, Tryd.ntmps16
    go_wp2
    go_ret
    exact ⟨300, rfl, HN.out, Nat.le_refl _, rfl⟩
theorem build48 (a : Int) (w : World) : (Instr.build 48 #[(0, .int .i64 a)]).run Tryd.prog w = .ok (.agg #[.int .i64 a, .slice none 0 0]) w := run_build w 48 _ _ (by kernel_rfl)
attribute [local go_sem] build48
theorem make_bools (N : Nat) (h : N ≤ 576) (W : World) : (Instr.makeSlice 46 (.int .i64 (N : Int)) (.int .i64 (N : Int))).run Tryd.prog W = .ok (.slice (some ⟨W.heap.size, 0, none⟩) N N) (W.alloc (.cells (madeCells #[.bool false] N) 4)) := by
  obtain ⟨i0, hi, hzz⟩ := Option.map_eq_some_iff.1 infoBo
  simp only [Prod.mk.injEq] at hzz
  obtain ⟨hz0, hz1, hz2⟩ := hzz
  have hr := run_make (P := Tryd.prog) (w := W) 46 4 i0 (.bool false) Tryd.underlying46 hi hz0 .i64 .i64 (N : Int) (N : Int) (by omega) (by omega) (by rw [hz2]; omega) (by omega)
  simp only [Int.toNat_natCast] at hr
  rw [hz1, Nat.mul_one] at hr
  exact hr
theorem size24 (a : Int) : ∃ k : Nat, 1 ≤ k ∧ k ≤ 24 ∧ GrpRow.latchkeylaw22_size.f a = some (k : Int) := by
  have h1 : Int.tmod a 24 < 24 := Int.tmod_lt_of_pos a (by omega)
  have h2 : -24 < Int.tmod a 24 := Int.lt_tmod_of_pos a (by omega)
  obtain ⟨x, hx⟩ : ∃ x, x = Int.tmod a 24 := ⟨_, rfl⟩
  have h0 : wrap64 (x + 24) = x + 24 := by unfold wrap64; omega
  have h3 : (x + 24).tmod 24 = (x + 24) % 24 := Int.tmod_eq_emod_of_nonneg (by omega)
  have h4 : wrap64 (1 + (x + 24) % 24) = ((1 + (x + 24) % 24).toNat : Int) := by unfold wrap64; omega
  refine ⟨(1 + (x + 24) % 24).toNat, by omega, by omega, ?_⟩
  unfold GrpRow.latchkeylaw22_size.f
  rw [← hx, h0, h3, h4]
theorem below_alloc' {w W : World} (h : Below w.heap.size w W) (o : Obj) : Below w.heap.size w (W.alloc o) := below_step h (below_alloc (Below.refl _ _) o)
/-- The start: an empty table, an empty index. -/
theorem PlR.start {w W4 W5 w6 : World} {q gb cb n : Nat} {x : Option Addr} (h4 : Below w.heap.size w W4) (hq : w.heap.size ≤ q) (hb : BRel w (n * n) gb cb (fun _ => false) W5)
    (ht : W5.heap[q]? = some (.cells #[.int .i64 (n : Int), .slice (some ⟨gb, 0, none⟩) (n * n) cb] 48 (0, 0))) (hne : q ≠ gb) (hp : PX (fun k => W5.heap.size ≤ k) w6 (.pointer x) n (fun _ _ => false)) (hb6 : Below W5.heap.size W5 w6) (n1 : 1 ≤ n) (n24 : n ≤ 24) :
    PlR w w6 q gb cb n x (fun k => W5.heap.size ≤ k ∧ k < w6.heap.size) (fun _ _ => false) (fun _ => false) where
  px := hp.bound
  sg := fun k hk => by
    have h1 := hb.low.size
    have h2 := blk_lt ht
    have h3 : gb < W5.heap.size := own_lt' hb.row gb rfl
    exact ⟨by omega, hk.2, by omega, by omega⟩
  row := hb.below hb6
  top := (hb6.block q (blk_lt ht)).trans ht
  ne := hne
  ag := fun _ _ _ _ => rfl
  n1 := n1
  n24 := n24
set_option maxHeartbeats 16000000 in
theorem closes_walk (w : World) (a : Int) (A : Option Addr) (n c : Nat) (G : Nat → OpX) (h : OxsAt w A n G) (hA : ∀ ad, A = some ad → ad.block < w.heap.size) (hc : n ≤ c) (hgl : GL w) :
    Calls Tryd.prog 6 #[.int .i64 a, .slice A n c] w fun e w' => e = .returned (.bool true) ∧ Below w.heap.size w w' := by
  have HO := Aside0.mk h
  have HC := Aside0.mk hc
  have HA := Aside0.mk hA
  have HG := Aside0.mk hgl
  obtain ⟨k, k1, k2, hf⟩ := size24 a
  have HK1 := Aside0.mk k1
  have HK2 := Aside0.mk k2
  have HF := Aside0.mk hf
  clear h hc hA hgl k1 k2 hf
  go_enter Tryd.func6, Tryd.ntmps6
  go_upto_region 3 with (first
    | (go_at_call 16; (refine (fewx_calls w A n c G HO.out HC.out).mono ?_; rintro e1 w1 ⟨m, rfl, m1, m2, hw⟩; subst hw; have HM1 := Aside0.mk m1; have HM2 := Aside0.mk m2; clear m1 m2))
    | (go_at_call 19; (refine (GrpRow.latchkeylaw22_size.calls a (k : Int) w1 HF.out).mono ?_; rintro e2 w2 ⟨rfl, d2⟩; have B2 := Aside0.mk d2.below; clear d2)))
  have T3 := Aside0.mk (heap_alloc_new w2 (.cells #[.int .i64 (k : Int), .slice none 0 0] 48))
  have B3 := Aside0.mk (below_step B2.out (below_alloc (Below.refl w2.heap.size w2) (.cells #[.int .i64 (k : Int), .slice none 0 0] 48)))
  have HQ : Aside0 (w1.heap.size ≤ w2.heap.size) := ⟨B2.out.size⟩
  generalize w2.alloc (.cells #[.int .i64 (k : Int), .slice none 0 0] 48) = W3 at T3 B3 ⊢
  generalize w2.heap.size = q at T3 HQ ⊢
  obtain ⟨NN, hNN⟩ : ∃ NN, NN = k * k := ⟨_, rfl⟩
  have HNN := Aside0.mk hNN
  have hN1 : 1 ≤ NN := by rw [hNN]; exact Nat.mul_pos HK1.out HK1.out
  have hN2 : NN ≤ 576 := by rw [hNN]; exact Nat.mul_le_mul HK2.out HK2.out
  have HN1 := Aside0.mk hN1
  have HN2 := Aside0.mk hN2
  have hw1 : wrap64 ((k : Int) * (k : Int)) = (NN : Int) := by
    rw [show (k : Int) * (k : Int) = (NN : Int) by rw [hNN, Int.natCast_mul]]
    unfold wrap64; omega
  have hw2 : IntKind.i64.wrap ((k : Int) * (k : Int)) = (NN : Int) := by have := hw1; unfold wrap64 at this; rw [IntKind.wrap_i64]; exact this
  clear hNN hN1 hN2
  have l0 : W3.cell? ⟨q, 0, none⟩ = some (.int .i64 (k : Int)) := by rw [blk_cell T3.out]; rfl
  have l1 : W3.cell? ⟨q, 1, none⟩ = some (.slice none 0 0) := by rw [blk_cell T3.out]; rfl
  have f1 := blk_frozen T3.out 1
  obtain ⟨ob, hob⟩ : ∃ ob, ob = Obj.cells (madeCells #[.bool false] NN) 4 := ⟨_, rfl⟩
  have hmk : ∀ W : World, (Instr.makeSlice 46 (.int .i64 (NN : Int)) (.int .i64 (NN : Int))).run Tryd.prog W = .ok (.slice (some ⟨W.heap.size, 0, none⟩) NN NN) (W.alloc ob) := fun W => by rw [hob]; exact make_bools NN HN2.out W
  have fb : (W3.alloc ob).drew.cell? ⟨q, 1, none⟩ = some (.slice none 0 0) ∧ (W3.alloc ob).drew.frozen? ⟨q, 1, none⟩ = false := by
    have t := ((below_step (below_alloc (Below.refl W3.heap.size W3) ob) (dr_below _)).block q (blk_lt T3.out)).trans T3.out
    exact ⟨by rw [blk_cell t]; rfl, blk_frozen t 1⟩
  have HOB := Aside0.mk hob
  clear hob
  obtain ⟨fb0, fb1⟩ := fb
  have H5 : Aside0 (BRel w1 NN W3.heap.size NN (fun _ => false) ((W3.alloc ob).setCell ⟨q, 1, none⟩ (.slice (some ⟨W3.heap.size, 0, none⟩) NN NN)).drew ∧ ((W3.alloc ob).setCell ⟨q, 1, none⟩ (.slice (some ⟨W3.heap.size, 0, none⟩) NN NN)).drew.heap[q]? = some (.cells #[.int .i64 (k : Int), .slice (some ⟨W3.heap.size, 0, none⟩) NN NN] 48 (0, 0)) ∧ q ≠ W3.heap.size) := ⟨by
    have hql := blk_lt T3.out
    have ho := own_made_of (enc := Value.bool) (d := false) W3 w1.heap.size 4 NN B3.out.size (by have := HN2.out; omega)
    rw [← HOB.out] at ho
    have hr : Kd.bool.R 4 (W3.alloc ob) w1.heap.size (fun _ => True) (.slice (some ⟨W3.heap.size, 0, none⟩) NN NN) (bl (fun _ => false) NN) := by
      rw [bl_none]
      exact Kd.R_of_own (h1 := fun _ => rfl) (by rw [List.length_replicate]; exact ho) (fun _ _ => trivial)
    have h1 : BRel w1 NN W3.heap.size NN (fun _ => false) (W3.alloc ob) := ⟨below_alloc' B3.out ob, hr⟩
    have t := ((below_alloc (Below.refl W3.heap.size W3) ob).block q hql).trans T3.out
    have hne : q ≠ W3.heap.size := by omega
    exact ⟨(h1.keptX (Fr.set (g := q) 1 _) (fun k hk => ⟨by rw [hk]; exact HQ.out, by rw [hk]; exact hne⟩)).below (dr_below _), blk_set t 1 _, hne⟩⟩
  go_region_with (fail)
  all_goals (
    generalize ((W3.alloc ob).setCell ⟨q, 1, none⟩ (.slice (some ⟨W3.heap.size, 0, none⟩) NN NN)).drew = W5 at H5 ⊢
    generalize W3.heap.size = gb at H5 ⊢
    clear l0 l1 f1 fb0 fb1 hmk hw1 hw2
    have l0 : W5.cell? ⟨q, 0, none⟩ = some (.int .i64 (k : Int)) := by rw [blk_cell H5.out.2.1]; rfl
    have hmk : most (k : Int) = k := by unfold most; rw [if_pos (by have h1 := HK1.out; have h2 := HK2.out; omega), Int.toNat_natCast]
    have HMK := Aside0.mk hmk
    clear hmk
    go_upto_region 5 with (go_at_call 9; (refine (pnew_calls W5 (k : Int)).mono ?_; rintro e6 w6 ⟨v6, rfl, p6, b6⟩; (rw [HMK.out] at p6 ⊢); (rw [if_neg (show ¬ k = 0 by have := HK1.out; omega)]); have P6 := Aside0.mk p6; have B6 := Aside0.mk b6; clear p6 b6))
    obtain ⟨xg, hxg⟩ : ∃ xg, v6 = .pointer (some xg) := by
      rcases P6.out with h | ⟨_, g, h, _⟩
      · have := HK1.out; omega
      · exact ⟨_, h⟩
    subst hxg
    have HPL := Aside0.mk (PlR.start (W4 := W3) B3.out HQ.out (by rw [← HNN.out]; exact H5.out.1) (by rw [← HNN.out]; exact H5.out.2.1) H5.out.2.2 P6.out B6.out HK1.out HK2.out)
    clear l0
    have HOX : Aside0 (OxsAt w6 A m G) := ⟨OxsAt.kept (T := fun _ => False) (fun i hi => HO.out i (Nat.lt_of_lt_of_le hi HM1.out)) (Kept.of_below HPL.out.row.low (fun _ => False)) (fun _ _ h => h)⟩
    have HAX : Aside0 (∀ ad, A = some ad → ¬ (W5.heap.size ≤ ad.block ∧ ad.block < w6.heap.size) ∧ ad.block ≠ gb) := ⟨fun ad hA => by
      have h1 := HA.out ad hA
      have h2 := H5.out.1.low.size
      have h3 := H5.out.1.ge
      exact ⟨by omega, by omega⟩⟩
    have HAY : Aside0 (∀ ad, A = some ad → 0 < m → ad.block < w6.heap.size) := ⟨fun ad hA _ => Nat.lt_of_lt_of_le (HA.out ad hA) HPL.out.row.low.size⟩
    go_wp2_with (first
      | (go_at_call 20; (refine (play_calls w1 w6 q gb NN k (some xg) _ _ _ A m c G HPL.out HOX.out HAX.out HAY.out HG.out HM2.out).mono ?_; rintro e7 w7 ⟨rfl, S7, L7, P7, h7, f7, _⟩; have H7 := Aside0.mk h7; clear h7 f7))
      | (go_at_call 22; (refine (closed_calls w1 w7 q gb NN k (some xg) S7 L7 P7 H7.out).mono ?_; rintro e8 w8 ⟨gc, cc, Q, rfl, h8, q8⟩; have H8 := Aside0.mk h8; have Q8 := Aside0.mk q8; clear h8 q8))
      | (go_at_call 21; (refine (tells_calls w1 w8 w7 q gb NN gc cc k (some xg) S7 L7 P7 Q (H7.out.below H8.out.low) H8.out Q8.out HG.out).mono ?_; rintro e9 w9 ⟨rfl, b9⟩; have B9 := Aside0.mk (below_step (below_step H7.out.row.low H8.out.low) b9); clear b9)))
    go_ret
    exact ⟨rfl, B9.out⟩)
end Go.Proofs.YtmldefednihohaaDoor.Grp
