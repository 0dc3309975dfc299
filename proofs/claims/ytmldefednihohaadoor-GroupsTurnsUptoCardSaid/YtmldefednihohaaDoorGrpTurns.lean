/- GroupsTurns says true (a plain walk). -/
import Derived.Test.YtmldefednihohaaDoorGrpTurns0
import Derived.Deep.RegionHeld3
import Derived.BigQuiet
import Derived.Deep.Onto
namespace Go.Proofs.YtmldefednihohaaDoor.Grp
open Go.RowKit Go.Proofs.YtmldefednihohaaDoorW.PrintWords Go.Proofs.YtmldefednihohaaDoorW.PrintLast Go.Proofs.YtmldefednihohaaDoorW.PrintMore
set_option linter.unusedVariables false
set_option linter.unusedSimpArgs false
set_option maxRecDepth 100000
theorem TR.far {w W W2 : World} {ql gl cl qm gm cm n : Nat} {xl xm : Option Addr} {Sl Sm T : Nat → Prop} {Ll Lm : Nat → Nat → Bool} {Pl Pm : Nat → Bool} (h : TR w W ql gl cl qm gm cm n xl xm Sl Sm Ll Lm Pl Pm) (hf : Fr W W2 T) (hT : ∀ k, T k → w.heap.size ≤ k ∧ ¬ Sl k ∧ ¬ Sm k ∧ k ≠ ql ∧ k ≠ gl ∧ k ≠ qm ∧ k ≠ gm) : TR w W2 ql gl cl qm gm cm n xl xm Sl Sm Ll Lm Pl Pm :=
  { h with l := h.l.far hf (fun k hk => ⟨(hT k hk).1, (hT k hk).2.1, (hT k hk).2.2.2.1, (hT k hk).2.2.2.2.1⟩), m := h.m.far hf (fun k hk => ⟨(hT k hk).1, (hT k hk).2.2.1, (hT k hk).2.2.2.2.2.1, (hT k hk).2.2.2.2.2.2⟩) }
theorem build23 (a b : Int) (w : World) : (Instr.build 40 #[(0, .int .i64 2), (2, .int .i64 a), (3, .int .i64 b)]).run Tryd.prog w = .ok (.agg #[.int .i64 2, .int .i64 0, .int .i64 a, .int .i64 b]) w := run_build w 40 _ _ (by kernel_rfl)
attribute [local go_sem] build48 build23
theorem BRel.base {w w0 W : World} {n gb cb : Nat} {P : Nat → Bool} (h : BRel w n gb cb P W) (h0 : Below w0.heap.size w0 W) (hle : w0.heap.size ≤ w.heap.size) : BRel w0 n gb cb P W :=
  ⟨h0, Kd.R_of_own (h1 := fun _ => rfl) ((Kd.own_of_R h.row).mono hle) (fun _ _ => trivial)⟩
/-- An int brought into 0 to k - 1, as the text does it. -/
theorem norm_int (a : Int) {k : Nat} (h1 : 1 ≤ k) (h2 : k ≤ 24) : ∃ x : Nat, x < k ∧ IntKind.i64.wrap (a.tmod (k : Int)) = a.tmod (k : Int) ∧ wrap64 (a.tmod (k : Int) + (k : Int)) = a.tmod (k : Int) + (k : Int) ∧ IntKind.i64.wrap (a.tmod (k : Int) + (k : Int)) = a.tmod (k : Int) + (k : Int) ∧ (a.tmod (k : Int) + (k : Int)).tmod (k : Int) = (x : Int) := by
  have g1 : a.tmod (k : Int) < (k : Int) := Int.tmod_lt_of_pos a (by omega)
  have g2 : -(k : Int) < a.tmod (k : Int) := by have h := Int.tmod_lt_of_pos (-a) (b := (k : Int)) (by omega); rw [Int.neg_tmod] at h; omega
  have g3 : 0 ≤ (a.tmod (k : Int) + (k : Int)).tmod (k : Int) := Int.tmod_nonneg _ (by omega)
  have g4 : (a.tmod (k : Int) + (k : Int)).tmod (k : Int) < (k : Int) := Int.tmod_lt_of_pos _ (by omega)
  refine ⟨((a.tmod (k : Int) + (k : Int)).tmod (k : Int)).toNat, by omega, ?_, ?_, ?_, by omega⟩
  · rw [IntKind.wrap_i64]; omega
  · unfold wrap64; omega
  · rw [IntKind.wrap_i64]; omega
/-- The table behind a turn of the index alone. -/
theorem PlR.rest {w W W2 : World} {q gb cb n : Nat} {x : Option Addr} {S : Nat → Prop} {L : Nat → Nat → Bool} {P : Nat → Bool} (h : PlR w W q gb cb n x S L P) (hf : Fr W W2 S) : BRel w (n * n) gb cb P W2 ∧ W2.heap[q]? = some (.cells #[.int .i64 (n : Int), .slice (some ⟨gb, 0, none⟩) (n * n) cb] 48 (0, 0)) :=
  ⟨h.row.keptX hf (fun k hk => ⟨(h.sg k hk).1, (h.sg k hk).2.2.2⟩), blk_kept h.top hf.2 (fun e => (h.sg q e).2.2.1 rfl)⟩
/-- An index that has come back to the links that it had. -/
theorem PlR.back {w W W2 : World} {q gb cb n : Nat} {x : Option Addr} {S T : Nat → Prop} {L : Nat → Nat → Bool} {P : Nat → Bool} (h : PlR w W q gb cb n x S L P) (hf : Fr W W2 S) (hp : PX T W2 (.pointer x) n L) (hT : ∀ k, T k → S k ∨ W.heap.size ≤ k) : PlR w W2 q gb cb n x (fun k => T k ∧ k < W2.heap.size) L P where
  px := hp.bound
  sg := fun k hk => by
    have z1 := h.row.low.size
    have z2 := blk_lt h.top
    have z3 := h.gblt
    rcases hT k hk.1 with e | e
    · exact ⟨(h.sg k e).1, hk.2, (h.sg k e).2.2⟩
    · exact ⟨by omega, hk.2, by omega, by omega⟩
  row := (h.rest hf).1
  top := (h.rest hf).2
  ne := h.ne
  ag := h.ag
  n1 := h.n1
  n24 := h.n24
theorem add_cases {k x y : Nat} {L : Nat → Nat → Bool} (hx : x < k) (hy : y < k) : (L x y = true ∧ addA k L (x : Int) (y : Int) = 120 ∧ addT k L (x : Int) (y : Int) = L) ∨ (L x y = false ∧ addA k L (x : Int) (y : Int) = 0 ∧ cutA k (addT k L (x : Int) (y : Int)) (x : Int) (y : Int) = 0 ∧ cutT k (addT k L (x : Int) (y : Int)) (x : Int) (y : Int) = L) := by
  have hok : (okG k (x : Int) && okG k (y : Int)) = true := by
    rw [Bool.and_eq_true]; exact ⟨decide_eq_true (by omega), decide_eq_true (by omega)⟩
  have h0 : ¬ k = 0 := by omega
  cases hL : L x y with
  | true => exact .inl ⟨rfl, by unfold addA; rw [if_neg h0, hok, Int.toNat_natCast, Int.toNat_natCast, hL]; rfl, by unfold addT; rw [hok, Int.toNat_natCast, Int.toNat_natCast, hL]; rfl⟩
  | false =>
    have e1 : addT k L (x : Int) (y : Int) = addL L x y := by unfold addT; rw [hok, Int.toNat_natCast, Int.toNat_natCast, hL]; rfl
    have e2 : addL L x y x y = true := (addL_iff L x y x y).2 (.inr ⟨rfl, rfl⟩)
    refine .inr ⟨rfl, by unfold addA; rw [if_neg h0, hok, Int.toNat_natCast, Int.toNat_natCast, hL]; rfl, ?_, cut_add hx hy hL⟩
    rw [e1]
    unfold cutA
    rw [if_neg h0, hok, Int.toNat_natCast, Int.toNat_natCast, e2]; rfl
theorem add_more (k x y : Nat) (L : Nat → Nat → Bool) : ∀ a b, L a b = true → addT k L (x : Int) (y : Int) a b = true := fun a b h => by
  unfold addT
  split
  · exact (addL_iff L _ _ a b).2 (.inl h)
  · exact h
theorem add_thereX {k x y : Nat} {L : Nat → Nat → Bool} (hx : x < k) (hy : y < k) : addT k L (x : Int) (y : Int) x y = true := by
  have hok : (okG k (x : Int) && okG k (y : Int)) = true := by
    rw [Bool.and_eq_true]; exact ⟨decide_eq_true (by omega), decide_eq_true (by omega)⟩
  unfold addT
  rw [hok, Int.toNat_natCast, Int.toNat_natCast]
  cases hL : L x y with
  | true => exact hL
  | false => exact (addL_iff L x y x y).2 (.inr ⟨rfl, rfl⟩)
set_option maxHeartbeats 16000000 in
theorem turns_walk (w : World) (a b0 b1 : Int) (A1 : Option Addr) (n1 c1 : Nat) (G1 : Nat → OpX) (A2 : Option Addr) (n2 c2 : Nat) (G2 : Nat → OpX) (h1 : OxsAt w A1 n1 G1) (h2 : OxsAt w A2 n2 G2) (hA1 : ∀ ad, A1 = some ad → ad.block < w.heap.size) (hA2 : ∀ ad, A2 = some ad → ad.block < w.heap.size) (hc1 : n1 ≤ c1) (hc2 : n2 ≤ c2) (hgl : GL w) :
    Calls Tryd.prog 7 #[.int .i64 a, .slice A1 n1 c1, .slice A2 n2 c2, .int .i64 b0, .int .i64 b1] w fun e w' => e = .returned (.bool true) ∧ Below w.heap.size w w' := by
  have HO1 := Aside0.mk h1
  have HO2 := Aside0.mk h2
  have HC1 := Aside0.mk hc1
  have HC2 := Aside0.mk hc2
  have HA1 := Aside0.mk hA1
  have HA2 := Aside0.mk hA2
  have HG := Aside0.mk hgl
  obtain ⟨k, k1, k2, hf⟩ := size24 a
  have HK1 := Aside0.mk k1
  have HK2 := Aside0.mk k2
  have HF := Aside0.mk hf
  clear h1 h2 hc1 hc2 hA1 hA2 hgl k1 k2 hf
  go_enter Tryd.func7, Tryd.ntmps7
  go_upto_region 3 with (first
    | (go_at_call 16; ((with_reducible refine (fewx_calls _ A1 n1 c1 G1 HO1.out HC1.out).mono ?_); rintro e1 w1 ⟨m1, rfl, p1, p2, hw⟩; subst hw; have HM1 := Aside0.mk p1; have HM1' := Aside0.mk p2; clear p1 p2))
    | (go_at_call 16; ((with_reducible refine (fewx_calls _ A2 n2 c2 G2 HO2.out HC2.out).mono ?_); rintro e1 w1 ⟨m2, rfl, p1, p2, hw⟩; subst hw; have HM2 := Aside0.mk p1; have HM2' := Aside0.mk p2; clear p1 p2))
    | (go_at_call 19; (refine (GrpRow.latchkeylaw22_size.calls a (k : Int) w1 HF.out).mono ?_; rintro e2 w2 ⟨rfl, d2⟩; have B2 := Aside0.mk d2.below; clear d2)))
  have T3 := Aside0.mk (heap_alloc_new w2 (.cells #[.int .i64 (k : Int), .slice none 0 0] 48))
  have B3 := Aside0.mk (below_step B2.out (below_alloc (Below.refl w2.heap.size w2) (.cells #[.int .i64 (k : Int), .slice none 0 0] 48)))
  have HQ : Aside0 (w1.heap.size ≤ w2.heap.size) := ⟨B2.out.size⟩
  generalize w2.alloc (.cells #[.int .i64 (k : Int), .slice none 0 0] 48) = W3 at T3 B3 ⊢
  generalize w2.heap.size = q at T3 HQ ⊢
  obtain ⟨NN, hNN⟩ : ∃ NN, NN = k * k := ⟨_, rfl⟩
  have HNN := Aside0.mk hNN
  have hN1 : 1 ≤ NN := by rw [hNN]; exact Nat.mul_pos HK1.out HK1.out
  have hN2 : NN ≤ 576 := by rw [hNN]; exact Nat.mul_le_mul HK2.out HK2.out
  have HN1 := Aside0.mk hN1
  have HN2 := Aside0.mk hN2
  have hw1 : wrap64 ((k : Int) * (k : Int)) = (NN : Int) := by
    rw [show (k : Int) * (k : Int) = (NN : Int) by rw [hNN, Int.natCast_mul]]
    unfold wrap64; omega
  have hw2 : IntKind.i64.wrap ((k : Int) * (k : Int)) = (NN : Int) := by have := hw1; unfold wrap64 at this; rw [IntKind.wrap_i64]; exact this
  clear hNN hN1 hN2
  have l0 : W3.cell? ⟨q, 0, none⟩ = some (.int .i64 (k : Int)) := by rw [blk_cell T3.out]; rfl
  have l1 : W3.cell? ⟨q, 1, none⟩ = some (.slice none 0 0) := by rw [blk_cell T3.out]; rfl
  have f1 := blk_frozen T3.out 1
  obtain ⟨ob, hob⟩ : ∃ ob, ob = Obj.cells (madeCells #[.bool false] NN) 4 := ⟨_, rfl⟩
  have hmk : ∀ W : World, (Instr.makeSlice 46 (.int .i64 (NN : Int)) (.int .i64 (NN : Int))).run Tryd.prog W = .ok (.slice (some ⟨W.heap.size, 0, none⟩) NN NN) (W.alloc ob) := fun W => by rw [hob]; exact make_bools NN HN2.out W
  have fb : (W3.alloc ob).drew.cell? ⟨q, 1, none⟩ = some (.slice none 0 0) ∧ (W3.alloc ob).drew.frozen? ⟨q, 1, none⟩ = false := by
    have t := ((below_step (below_alloc (Below.refl W3.heap.size W3) ob) (dr_below _)).block q (blk_lt T3.out)).trans T3.out
    exact ⟨by rw [blk_cell t]; rfl, blk_frozen t 1⟩
  have HOB := Aside0.mk hob
  clear hob
  obtain ⟨fb0, fb1⟩ := fb
  have H5 : Aside0 (BRel w1 NN W3.heap.size NN (fun _ => false) ((W3.alloc ob).setCell ⟨q, 1, none⟩ (.slice (some ⟨W3.heap.size, 0, none⟩) NN NN)).drew ∧ ((W3.alloc ob).setCell ⟨q, 1, none⟩ (.slice (some ⟨W3.heap.size, 0, none⟩) NN NN)).drew.heap[q]? = some (.cells #[.int .i64 (k : Int), .slice (some ⟨W3.heap.size, 0, none⟩) NN NN] 48 (0, 0)) ∧ q ≠ W3.heap.size) := ⟨by
    have hql := blk_lt T3.out
    have ho := own_made_of (enc := Value.bool) (d := false) W3 w1.heap.size 4 NN B3.out.size (by have := HN2.out; omega)
    rw [← HOB.out] at ho
    have hr : Kd.bool.R 4 (W3.alloc ob) w1.heap.size (fun _ => True) (.slice (some ⟨W3.heap.size, 0, none⟩) NN NN) (bl (fun _ => false) NN) := by
      rw [bl_none]
      exact Kd.R_of_own (h1 := fun _ => rfl) (by rw [List.length_replicate]; exact ho) (fun _ _ => trivial)
    have h1 : BRel w1 NN W3.heap.size NN (fun _ => false) (W3.alloc ob) := ⟨below_alloc' B3.out ob, hr⟩
    have t := ((below_alloc (Below.refl W3.heap.size W3) ob).block q hql).trans T3.out
    have hne : q ≠ W3.heap.size := by omega
    exact ⟨(h1.keptX (Fr.set (g := q) 1 _) (fun k hk => ⟨by rw [hk]; exact HQ.out, by rw [hk]; exact hne⟩)).below (dr_below _), blk_set t 1 _, hne⟩⟩
  have KP3 : ∀ W2, Kept W3 W2 (fun k => k = q ∧ False) → W2.cell? ⟨q, 0, none⟩ = some (.int .i64 (k : Int)) := fun W2 hk => cell_kept l0 hk (fun h => h.2)
  have KS3 : ((W3.alloc ob).setCell ⟨q, 1, none⟩ (.slice (some ⟨W3.heap.size, 0, none⟩) NN NN)).drew.cell? ⟨q, 0, none⟩ = some (.int .i64 (k : Int)) := by rw [blk_cell H5.out.2.1]; rfl
  go_region_held3 (fun W => W.cell? ⟨q, 0, none⟩ = some (.int .i64 (k : Int))) (first | go_keep | exact l0 | exact KS3 | exact KP3 _ (Kept.of_below (below_alloc (Below.refl _ _) _) _) | exact KP3 _ (Kept.of_below (below_step (below_alloc (Below.refl _ _) _) (dr_below _)) _)) (fail)
  generalize ((W3.alloc ob).setCell ⟨q, 1, none⟩ (.slice (some ⟨W3.heap.size, 0, none⟩) NN NN)).drew = W5 at H5 ⊢
  generalize W3.heap.size = gb at H5 ⊢
  clear l0 l1 f1 fb0 fb1 KP3 KS3
  have l0 : W5.cell? ⟨q, 0, none⟩ = some (.int .i64 (k : Int)) := by rw [blk_cell H5.out.2.1]; rfl
  have KP5 : ∀ W2, Kept W5 W2 (fun k => k = q ∧ False) → W2.cell? ⟨q, 0, none⟩ = some (.int .i64 (k : Int)) := fun W2 hk => cell_kept l0 hk (fun h => h.2)
  have H6 : Aside0 (Below W5.heap.size W5 ((W5.alloc ob).alloc (.cells #[.int .i64 (k : Int), .slice (some ⟨W5.heap.size, 0, none⟩) NN NN] 48)).drew ∧ BRel w1 NN W5.heap.size NN (fun _ => false) ((W5.alloc ob).alloc (.cells #[.int .i64 (k : Int), .slice (some ⟨W5.heap.size, 0, none⟩) NN NN] 48)).drew ∧ ((W5.alloc ob).alloc (.cells #[.int .i64 (k : Int), .slice (some ⟨W5.heap.size, 0, none⟩) NN NN] 48)).drew.heap[W5.heap.size + 1]? = some (.cells #[.int .i64 (k : Int), .slice (some ⟨W5.heap.size, 0, none⟩) NN NN] 48 (0, 0))) := ⟨by
    have ho := own_made_of (enc := Value.bool) (d := false) W5 w1.heap.size 4 NN H5.out.1.low.size (by have := HN2.out; omega)
    rw [← HOB.out] at ho
    have hr : Kd.bool.R 4 (W5.alloc ob) w1.heap.size (fun _ => True) (.slice (some ⟨W5.heap.size, 0, none⟩) NN NN) (bl (fun _ => false) NN) := by
      rw [bl_none]
      exact Kd.R_of_own (h1 := fun _ => rfl) (by rw [List.length_replicate]; exact ho) (fun _ _ => trivial)
    have h1 : BRel w1 NN W5.heap.size NN (fun _ => false) (W5.alloc ob) := ⟨below_alloc' H5.out.1.low ob, hr⟩
    refine ⟨below_step (below_alloc' (below_alloc (Below.refl _ _) ob) _) (dr_below _), (h1.below (below_alloc (Below.refl _ _) _)).below (dr_below _), ?_⟩
    have := heap_alloc2_new W5 ob (.cells #[.int .i64 (k : Int), .slice (some ⟨W5.heap.size, 0, none⟩) NN NN] 48)
    exact this⟩
  go_upto_region 4 with (fail)
  go_region_held3 (fun W => W.cell? ⟨q, 0, none⟩ = some (.int .i64 (k : Int))) (first | go_keep | exact l0 | exact KP5 _ (Kept.of_below (below_alloc (Below.refl _ _) _) _) | exact KP5 _ (Kept.of_below (below_step (below_alloc (Below.refl _ _) _) (dr_below _)) _) | exact KP5 _ (Kept.of_below H6.out.1 _) | exact KP5 _ (Kept.of_below (below_alloc' (below_alloc (Below.refl _ _) _) _) _)) (fail)
  have HS5 : Aside0 (q < W5.heap.size ∧ gb < W5.heap.size) := ⟨blk_lt H5.out.2.1, own_lt' H5.out.1.row gb rfl⟩
  have HS6 : Aside0 (W5.heap.size + 1 < ((W5.alloc ob).alloc (.cells #[.int .i64 (k : Int), .slice (some ⟨W5.heap.size, 0, none⟩) NN NN] 48)).drew.heap.size) := ⟨blk_lt H6.out.2.2⟩
  generalize ((W5.alloc ob).alloc (.cells #[.int .i64 (k : Int), .slice (some ⟨W5.heap.size, 0, none⟩) NN NN] 48)).drew = W6 at H6 HS6 ⊢
  generalize hgm : W5.heap.size = gm at H6 HS5 HS6 ⊢
  have HGM := Aside0.mk hgm
  clear l0 KP5 hmk hw1 hw2 hgm
  have HB6 : Aside0 (Below W5.heap.size W5 W6) := ⟨by rw [HGM.out]; exact H6.out.1⟩
  have hmk : most (k : Int) = k := by unfold most; rw [if_pos (by have h1 := HK1.out; have h2 := HK2.out; omega), Int.toNat_natCast]
  have HMK := Aside0.mk hmk
  clear hmk
  have l0 : W6.cell? ⟨q, 0, none⟩ = some (.int .i64 (k : Int)) := by rw [blk_cell ((HB6.out.block q (blk_lt H5.out.2.1)).trans H5.out.2.1)]; rfl
  go_upto_region 6 with (go_at_call 9; (refine (pnew_calls W6 (k : Int)).mono ?_; rintro e7 w7 ⟨v7, rfl, p7, b7⟩; (rw [HMK.out] at p7 ⊢); (rw [if_neg (show ¬ k = 0 by have := HK1.out; omega)]); have P7 := Aside0.mk p7; have B7 := Aside0.mk b7; clear p7 b7))
  have l07 := pw_cell_below B7.out l0
  go_upto_region 7 with (go_at_call 9; (refine (pnew_calls w7 (k : Int)).mono ?_; rintro e8 w8 ⟨v8, rfl, p8, b8⟩; (rw [HMK.out] at p8 ⊢); (rw [if_neg (show ¬ k = 0 by have := HK1.out; omega)]); have P8 := Aside0.mk p8; have B8 := Aside0.mk b8; clear p8 b8))
  obtain ⟨xl, hxl⟩ : ∃ xg, v7 = .pointer (some xg) := by
    rcases P7.out with h | ⟨_, g, h, _⟩
    · have := HK1.out; omega
    · exact ⟨_, h⟩
  subst hxl
  obtain ⟨xm, hxm⟩ : ∃ xg, v8 = .pointer (some xg) := by
    rcases P8.out with h | ⟨_, g, h, _⟩
    · have := HK1.out; omega
    · exact ⟨_, h⟩
  subst hxm
  have HTR : Aside0 (TR w1 w8 q gb NN (gm + 1) gm NN k (some xl) (some xm) (fun k => W6.heap.size ≤ k ∧ k < w7.heap.size) (fun k => w7.heap.size ≤ k ∧ k < w8.heap.size) (fun _ _ => false) (fun _ _ => false) (fun _ => false) (fun _ => false)) := ⟨by
    have z5 := H5.out.1.low.size
    have z7 := B7.out.size
    have hs5 := HS5.out
    have hs6 := HS6.out
    have hgm := HGM.out
    have h1 : PlR w1 w7 q gb NN k (some xl) (fun k => W6.heap.size ≤ k ∧ k < w7.heap.size) (fun _ _ => false) (fun _ => false) := PlR.start (W4 := W3) B3.out HQ.out (by rw [← HNN.out]; exact H5.out.1.below HB6.out) (by rw [← HNN.out]; exact (HB6.out.block q (blk_lt H5.out.2.1)).trans H5.out.2.1) H5.out.2.2 P7.out B7.out HK1.out HK2.out
    have h2 : PlR w1 w8 (gm + 1) gm NN k (some xm) (fun k => w7.heap.size ≤ k ∧ k < w8.heap.size) (fun _ _ => false) (fun _ => false) := PlR.start (W4 := W3) B3.out (by omega) (by rw [← HNN.out]; exact H6.out.2.1.below B7.out) (by rw [← HNN.out]; exact (B7.out.block _ hs6).trans H6.out.2.2) (by omega) P8.out B8.out HK1.out HK2.out
    exact ⟨h1.below B8.out, h2, fun k hk => ⟨fun e => by omega, by omega, by omega⟩, fun k hk => ⟨by omega, by omega⟩, ⟨by omega, by omega, by omega⟩⟩⟩
  clear l0 l07
  have HBW : Aside0 (Below w1.heap.size w1 w8) := ⟨HTR.out.l.row.low⟩
  have HOX1 : Aside0 (OxsAt w8 A1 m1 G1) := ⟨OxsAt.kept (T := fun _ => False) (fun i hi => HO1.out i (Nat.lt_of_lt_of_le hi HM1.out)) (Kept.of_below HBW.out (fun _ => False)) (fun _ _ h => h)⟩
  have HOX2 : Aside0 (OxsAt w8 A2 m2 G2) := ⟨OxsAt.kept (T := fun _ => False) (fun i hi => HO2.out i (Nat.lt_of_lt_of_le hi HM2.out)) (Kept.of_below HBW.out (fun _ => False)) (fun _ _ h => h)⟩
  go_upto_region 10 with (first
    | (go_at_call 20; ((with_reducible refine (play_calls w1 w8 q gb NN k (some xl) _ _ _ A1 m1 c1 G1 HTR.out.l HOX1.out ?ha ?hb HG.out HM1'.out).mono ?_); (case ha => exact fun ad hA => (by have h1 := HA1.out ad hA; have h2 := HTR.out.l.row.ge; have h3 := H5.out.1.low.size; have h4 := HB6.out.size; exact ⟨fun e => by omega, by omega⟩)); (case hb => exact fun ad hA _ => Nat.lt_of_lt_of_le (HA1.out ad hA) HBW.out.size); rintro e9 w9 ⟨rfl, S9, L9, P9, h9, f9, s9, q9⟩; have HT9 := Aside0.mk (HTR.out.playL h9 f9 s9); have F9 := Aside0.mk f9; clear h9 f9 s9 q9))
    | (go_at_call 20; ((with_reducible refine (play_calls w1 w9 (gm + 1) gm NN k (some xm) _ _ _ A2 m2 c2 G2 HT9.out.m ?ho ?ha ?hb HG.out HM2'.out).mono ?_); (case ho => exact OxsAt.kept (T := fun _ => False) (fun i hi => HO2.out i (Nat.lt_of_lt_of_le hi HM2.out)) (Kept.of_below HT9.out.l.row.low (fun _ => False)) (fun _ _ h => h)); (case ha => exact fun ad hA => (by have h1 := HA2.out ad hA; have h2 := HT9.out.m.row.ge; have h3 := H5.out.1.low.size; have h4 := HB6.out.size; have h5 := B7.out.size; exact ⟨fun e => by omega, by omega⟩)); (case hb => exact fun ad hA _ => Nat.lt_of_lt_of_le (HA2.out ad hA) HT9.out.l.row.low.size); rintro e10 w10 ⟨rfl, S10, L10, P10, h10, f10, s10, q10⟩; have HT10 := Aside0.mk (HT9.out.playM h10 f10 s10); clear h10 f10 s10 q10))
    | (go_at_call 13; (refine (ppairs_calls S10 _ (.pointer (some xm)) k L10 _ HT10.out.m.px (isR_ex L10).choose_spec).mono ?_; rintro e11 w11 ⟨rfl, b11⟩; have HT11 := Aside0.mk (HT10.out.below b11); clear b11)))
  clear HOX1 HOX2
  obtain ⟨l0, l1⟩ := HT11.out.l.cells
  rw [← HNN.out] at l1
  have hw0 : wrap64 ((NN : Int) - 1) = (NN : Int) - 1 := by have h1 := HN1.out; have h2 := HN2.out; unfold wrap64; omega
  go_upto_region 11 with (fail)
  rw [hw0]
  clear l0 l1 hw0
  go_loopg [17] (NN + 1) (fun kq v17 w' => ∃ (j : Nat) (Sm : Nat → Prop) (Lm : Nat → Nat → Bool) (Pm : Nat → Bool), v17 = .int .i64 ((j : Int) - 1) ∧ Aside0 (kq = j + 1) ∧ Aside0 (j ≤ NN) ∧ Aside0 (TR w1 w' q gb NN (gm + 1) gm NN k (some xl) (some xm) S9 Sm L9 Lm P9 Pm) ∧ Aside0 (∀ i, j ≤ i → i < NN → P9 i = Pm i))
  case atStart => exact ⟨NN, S10, L10, P10, rfl, ⟨rfl⟩, ⟨Nat.le_refl _⟩, HT11, ⟨fun i h1 h2 => by omega⟩⟩
  case round =>
    obtain ⟨j, Sm, Lm, Pm, rfl, HK, HJ, HT, HE⟩ := hrel
    cases j with
    | zero =>
      have HE0 : Aside0 (∀ i, i < k * k → P9 i = Pm i) := ⟨fun i h => HE.out i (Nat.zero_le _) (by rw [HNN.out]; exact h)⟩
      rw [show (((0 : Nat) : Int) - 1) = -1 from rfl]
      have hge : decide ((-1 : Int) ≥ 0) = false := by decide
      go_upto_region 20 with (go_at_call 22; (refine (closed_calls w1 _ q gb NN k (some xl) S9 L9 P9 HT.out.l).mono ?_; rintro e8 w8' ⟨gc, cc, Q, rfl, h8, q8⟩; have H8 := Aside0.mk h8; have Q8 := Aside0.mk q8; clear h8 q8))
      have HT8 := Aside0.mk (HT.out.below H8.out.low)
      go_upto_region 22 with (first
        | (go_at_call 21; ((with_reducible refine (tells_calls w1 w8' _ q gb NN gc cc k (some xl) S9 L9 P9 Q HT8.out.l H8.out Q8.out HG.out).mono ?_); rintro e12 w12 ⟨rfl, b12⟩; have B12 := Aside0.mk b12; clear b12))
        | (go_at_call 21; ((with_reducible refine (tells_calls w1 w12 _ q gb NN gc cc k (some xm) Sm Lm P9 Q ((HT8.out.below B12.out).cross HE0.out) (H8.out.below B12.out) ?hq HG.out).mono ?_); (case hq => exact fun a b ha hb => (Q8.out a b ha hb).trans ⟨fun h => Rch.same (HT8.out.l.px.hz HK1.out) (HT8.out.same HE0.out) h, fun h => Rch.same (HT8.out.m.px.hz HK1.out) (fun a b ha hb => (HT8.out.same HE0.out a b ha hb).symm) h⟩); rintro e13 w13 ⟨rfl, b13⟩; have B13 := Aside0.mk b13; clear b13)))
      have HT9 := Aside0.mk ((HT8.out.below B12.out).below B13.out)
      have H9 := Aside0.mk ((H8.out.below B12.out).below B13.out)
      clear HT8 H8 B12 B13
      generalize w13 = V9 at HT9 H9 ⊢
      obtain ⟨l0, l1⟩ := HT9.out.l.cells
      have hk0 : ¬ (k : Int) = 0 := by have := HK1.out; omega
      have hk00 : ¬ k = 0 := by have := HK1.out; omega
      obtain ⟨x0, hx0, ha1, ha2, ha3, ha4⟩ := norm_int b0 HK1.out HK2.out
      obtain ⟨y0, hy0, hb1, hb2, hb3, hb4⟩ := norm_int b1 HK1.out HK2.out
      have HX := Aside0.mk hx0
      have HY := Aside0.mk hy0
      clear hx0 hy0
      go_quiet (fail)
      have HTA := Aside0.mk (HT9.out.below (dnb V9 nq))
      have HA9 := Aside0.mk (H9.out.below (dnb V9 nq))
      clear HT9 H9 l0 l1
      generalize V9.drewN nq = VA at HTA HA9 ⊢
      obtain ⟨l0, l1⟩ := HTA.out.l.cells
      go_upto_region 23 with (fail)
      go_quiet (fail)
      have HTB := Aside0.mk (HTA.out.below (dnb VA nq))
      have HB9 := Aside0.mk (HA9.out.below (dnb VA nq))
      clear HTA HA9 l0 l1 ha1 ha2 ha3 ha4 hb1 hb2 hb3 hb4 hk0 hk00 hge
      generalize VA.drewN nq = VB at HTB HB9 ⊢
      obtain ⟨R, hR⟩ := isR_ex L9
      obtain ⟨R', hR'⟩ := isR_ex (addT k L9 (x0 : Int) (y0 : Int))
      obtain ⟨p0, hp0⟩ : ∃ p0, pairsN k R k = p0 := ⟨_, rfl⟩
      obtain ⟨p1, hp1⟩ : ∃ p1, pairsN k R' k = p1 := ⟨_, rfl⟩
      have hpp : p0 ≤ p1 := by rw [← hp0, ← hp1]; exact pairs_more hR hR' (add_more k x0 y0 L9) k
      have hin' : inS k R' (x0 : Int) (y0 : Int) = true := by
        have h1 : R' x0 y0 = true := (hR' x0 y0).2 (.one _ (add_thereX HX.out HY.out))
        unfold inS
        rw [Int.toNat_natCast, Int.toNat_natCast, h1, show okG k (x0 : Int) = true from decide_eq_true (by have := HX.out; omega), show okG k (y0 : Int) = true from decide_eq_true (by have := HY.out; omega)]; rfl
      have HR := Aside0.mk hR
      have HR' := Aside0.mk hR'
      have HP0 := Aside0.mk hp0
      have HP1 := Aside0.mk hp1
      have HIN' := Aside0.mk hin'
      have hplt : decide ((p1 : Int) < (p0 : Int)) = false := decide_eq_false (by omega)
      have hplt2 : decide (p1 < p0) = false := decide_eq_false (by omega)
      obtain ⟨ix, hix⟩ : ∃ ix, x0 * k + y0 = ix := ⟨_, rfl⟩
      have hixl : ix < NN := by rw [← hix, HNN.out]; exact idx_lt HX.out HY.out
      have HIX := Aside0.mk hix
      have HIXL := Aside0.mk hixl
      clear hR hR' hp0 hp1 hin' hix hpp
      obtain ⟨lb, hlb⟩ : ∃ lb, L9 x0 y0 = lb := ⟨_, rfl⟩
      have HLB := Aside0.mk hlb
      clear hlb
      go_upto_region 25 with (go_at_call 13; (refine (ppairs_calls S9 VB (.pointer (some xl)) k L9 R HTB.out.l.px HR.out).mono ?_; rintro e14 w14 ⟨rfl, b14⟩; (rw [HP0.out]); have B14 := Aside0.mk b14; clear b14))
      have HTC := Aside0.mk (HTB.out.below B14.out)
      have HC9 := Aside0.mk (HB9.out.below B14.out)
      obtain ⟨g, hg⟩ : ∃ g, addA k L9 (x0 : Int) (y0 : Int) = g := ⟨_, rfl⟩
      have HGA := Aside0.mk hg
      clear hg
      go_upto_region 26 with (go_at_call 10; (refine (padd_calls S9 w14 (.pointer (some xl)) k L9 (x0 : Int) (y0 : Int) HTC.out.l.px).mono ?_; rintro e15 w15 ⟨rfl, p15, f15⟩; (rw [HGA.out]); have P15 := Aside0.mk p15; have F15 := Aside0.mk f15; clear p15 f15))
      have hSX : ∀ W, Below w15.heap.size w15 W → (Below w15.heap.size w15 W ∧ W.cell? ⟨q, 1, none⟩ = some (.slice (some ⟨gb, 0, none⟩) NN NN) ∧ W.cell? ⟨gb, ix, none⟩ = some (.bool lb)) := fun W hb => by
        have h1 := (HTC.out.l.rest F15.out).1.below hb
        have h2 := (hb.block q (blk_lt (HTC.out.l.rest F15.out).2)).trans (HTC.out.l.rest F15.out).2
        rw [← HNN.out] at h1 h2
        refine ⟨hb, by rw [blk_cell h2]; rfl, ?_⟩
        rw [(h1.cell HIXL.out).1, ← HLB.out, ← HTC.out.l.ag x0 y0 HX.out HY.out, HIX.out]
      have HSX := Aside0.mk hSX
      clear hSX
      have HLK : Aside0 (∀ W, (Below w15.heap.size w15 W ∧ W.cell? ⟨q, 1, none⟩ = some (.slice (some ⟨gb, 0, none⟩) NN NN) ∧ W.cell? ⟨gb, ix, none⟩ = some (.bool lb)) → Calls Tryd.prog 23 #[.pointer (some ⟨q, 0, none⟩), .int .i64 (x0 : Int), .int .i64 (y0 : Int)] W fun e w' => e = .returned (.int .i64 (ix : Int)) ∧ (Below w15.heap.size w15 w' ∧ w'.cell? ⟨q, 1, none⟩ = some (.slice (some ⟨gb, 0, none⟩) NN NN) ∧ w'.cell? ⟨gb, ix, none⟩ = some (.bool lb))) := ⟨fun W hs => by
        have h2 := (hs.1.block q (blk_lt (HTC.out.l.rest F15.out).2)).trans (HTC.out.l.rest F15.out).2
        exact (link_calls W q k x0 y0 (by rw [blk_cell h2]; rfl) HK2.out HX.out HY.out).mono fun e w' hh => ⟨by rw [hh.1, HIX.out], by rw [hh.2]; exact hs⟩⟩
      have HPR : Aside0 (∀ W, (Below w15.heap.size w15 W ∧ W.cell? ⟨q, 1, none⟩ = some (.slice (some ⟨gb, 0, none⟩) NN NN) ∧ W.cell? ⟨gb, ix, none⟩ = some (.bool lb)) → Calls Tryd.prog 13 #[.pointer (some xl)] W fun e w' => e = .returned (.int .i64 (p1 : Int)) ∧ (Below w15.heap.size w15 w' ∧ w'.cell? ⟨q, 1, none⟩ = some (.slice (some ⟨gb, 0, none⟩) NN NN) ∧ w'.cell? ⟨gb, ix, none⟩ = some (.bool lb))) := ⟨fun W hs => (ppairs_calls _ W (.pointer (some xl)) k _ R' (P15.out.below hs.1) HR'.out).mono fun e w' hh => ⟨by rw [hh.1, HP1.out], HSX.out w' (below_step hs.1 hh.2)⟩⟩
      have HIN : Aside0 (∀ W, (Below w15.heap.size w15 W ∧ W.cell? ⟨q, 1, none⟩ = some (.slice (some ⟨gb, 0, none⟩) NN NN) ∧ W.cell? ⟨gb, ix, none⟩ = some (.bool lb)) → Calls Tryd.prog 12 #[.pointer (some xl), .int .i64 (x0 : Int), .int .i64 (y0 : Int)] W fun e w' => e = .returned (.bool true) ∧ (Below w15.heap.size w15 w' ∧ w'.cell? ⟨q, 1, none⟩ = some (.slice (some ⟨gb, 0, none⟩) NN NN) ∧ w'.cell? ⟨gb, ix, none⟩ = some (.bool lb))) := ⟨fun W hs => (pin_calls _ W (.pointer (some xl)) k _ R' (x0 : Int) (y0 : Int) (P15.out.below hs.1) HR'.out).mono fun e w' hh => ⟨by rw [hh.1, HIN'.out], HSX.out w' (below_step hs.1 hh.2)⟩⟩
      have HS1 := Aside0.mk (HSX.out w15 (Below.refl _ _))
      have HS2 := Aside0.mk (HSX.out w15.drew (dr_below _))
      have hix0 : (0 : Int) ≤ (ix : Int) := by omega
      have hixn : (ix : Int) < (NN : Int) := by omega
      clear hixl
      rcases add_cases (L := L9) HX.out HY.out with ⟨e1, e2, e3⟩ | ⟨e1, e2, e3, e4⟩
      · have h1 := HLB.out.symm.trans e1
        subst h1
        have h2 := HGA.out.symm.trans e2
        subst h2
        have HE3 := Aside0.mk e3
        clear e1 e2 e3
        go_region_held3 (fun W => Below w15.heap.size w15 W ∧ W.cell? ⟨q, 1, none⟩ = some (.slice (some ⟨gb, 0, none⟩) NN NN) ∧ W.cell? ⟨gb, ix, none⟩ = some (.bool true)) (first | assumption | exact HS1.out | exact HS2.out) (first
          | (go_at_call 23; ((with_reducible refine (HLK.out _ (by assumption)).mono ?_); rintro e16 w16 ⟨rfl, hs16⟩))
          | (go_at_call 13; ((with_reducible refine (HPR.out _ (by assumption)).mono ?_); rintro e16 w16 ⟨rfl, hs16⟩))
          | (go_at_call 12; ((with_reducible refine (HIN.out _ (by assumption)).mono ?_); rintro e16 w16 ⟨rfl, hs16⟩)))
        have FR := Aside0.mk (Fr.then_ F15.out (Fr.of_below hs16.1 (fun _ => False)) (fun _ hk => hk.elim))
        have HV := Aside0.mk hs16.1
        have HPF : Aside0 (PlR w1 w16 q gb NN k (some xl) (fun j => More S9 w14 j ∧ j < w16.heap.size) L9 P9) := ⟨HTC.out.l.back FR.out (by have h := P15.out.below HV.out; rw [HE3.out] at h; exact h) (fun _ hk => hk)⟩
        have HQF : Aside0 (BRel w1 (k * k) gc cc Q w16) := ⟨(HC9.out.base HTC.out.l.row.low HT.out.l.row.low.size).keptX FR.out (fun j hj => ⟨(HT.out.l.sg j hj).1, by have h1 := (HT.out.l.sg j hj).2.1; have h2 := HC9.out.ge; omega⟩)⟩
        go_wp2_with (go_at_call 21; (refine (tells_calls w1 w16 w1 q gb NN gc cc k (some xl) _ L9 P9 Q HPF.out HQF.out Q8.out HG.out).mono ?_; rintro e18 w18 ⟨rfl, b18⟩; have B18 := Aside0.mk b18; clear b18))
        go_ret
        exact ⟨rfl, below_step HPF.out.row.low B18.out⟩
      · have h1 := HLB.out.symm.trans e1
        subst h1
        have h2 := HGA.out.symm.trans e2
        subst h2
        have HE3 := Aside0.mk e3
        have HE4 := Aside0.mk e4
        clear e1 e2 e3 e4
        go_region_held3 (fun W => Below w15.heap.size w15 W ∧ W.cell? ⟨q, 1, none⟩ = some (.slice (some ⟨gb, 0, none⟩) NN NN) ∧ W.cell? ⟨gb, ix, none⟩ = some (.bool false)) (first | assumption | exact HS1.out | exact HS2.out) (first
          | (go_at_call 23; ((with_reducible refine (HLK.out _ (by assumption)).mono ?_); rintro e16 w16 ⟨rfl, hs16⟩))
          | (go_at_call 13; ((with_reducible refine (HPR.out _ (by assumption)).mono ?_); rintro e16 w16 ⟨rfl, hs16⟩))
          | (go_at_call 12; ((with_reducible refine (HIN.out _ (by assumption)).mono ?_); rintro e16 w16 ⟨rfl, hs16⟩)))
        have FR := Aside0.mk (Fr.then_ F15.out (Fr.of_below hs16.1 (fun _ => False)) (fun _ hk => hk.elim))
        have HV := Aside0.mk hs16.1
        have HL16 := Aside0.mk ((HTC.out.l.rest FR.out).1.low)
        have H0 : Aside0 (¬ More S9 w14 0) := ⟨fun hk => by
          have z := gl_pos2 HG.out
          rcases hk with hk | hk
          · have := (HT.out.l.sg 0 hk).1; omega
          · have := HTC.out.l.row.low.size; omega⟩
        go_upto_region 30 with (go_at_call 11; (refine (pcut_calls (More S9 w14) w16 (.pointer (some xl)) k (addT k L9 (x0 : Int) (y0 : Int)) (x0 : Int) (y0 : Int) (P15.out.below HV.out) (HG.out.below HL16.out) H0.out).mono ?_; rintro e17 w17 ⟨rfl, p17, f17⟩; (rw [HE3.out]); (rw [HE4.out] at p17); have P17 := Aside0.mk p17; have F17 := Aside0.mk f17; clear p17 f17))
        have FR2 := Aside0.mk (Fr.then_ FR.out F17.out (fun _ hk => hk))
        have HPF : Aside0 (PlR w1 w17 q gb NN k (some xl) (fun j => More (More S9 w14) w16 j ∧ j < w17.heap.size) L9 P9) := ⟨HTC.out.l.back FR2.out P17.out (fun j hk => hk.elim id (fun h => .inr (by have h1 := FR.out.1.size; omega)))⟩
        have HQF : Aside0 (BRel w1 (k * k) gc cc Q w17) := ⟨(HC9.out.base HTC.out.l.row.low HT.out.l.row.low.size).keptX FR2.out (fun j hj => ⟨(HT.out.l.sg j hj).1, by have h1 := (HT.out.l.sg j hj).2.1; have h2 := HC9.out.ge; omega⟩)⟩
        go_wp2_with (go_at_call 21; (refine (tells_calls w1 w17 w1 q gb NN gc cc k (some xl) _ L9 P9 Q HPF.out HQF.out Q8.out HG.out).mono ?_; rintro e18 w18 ⟨rfl, b18⟩; have B18 := Aside0.mk b18; clear b18))
        go_ret
        exact ⟨rfl, below_step HPF.out.row.low B18.out⟩
    | succ i =>
      cases gk with
      | zero => exact absurd HK.out (by omega)
      | succ k1 =>
        rw [show (((i + 1 : Nat) : Int) - 1) = (i : Int) by omega]
        have hi : i < NN := by have := HJ.out; omega
        have hi0 : (0 : Int) ≤ (i : Int) := by omega
        have hin : (i : Int) < (NN : Int) := by omega
        have HI := Aside0.mk hi
        have hge : decide ((i : Int) ≥ 0) = true := decide_eq_true (by omega)
        obtain ⟨l0, l1⟩ := HT.out.l.cells
        obtain ⟨m0, m1⟩ := HT.out.m.cells
        rw [← HNN.out] at l1 m1
        have hrl := HT.out.l.row
        have hrm := HT.out.m.row
        rw [← HNN.out] at hrl hrm
        obtain ⟨c1', f1'⟩ := hrl.cell hi
        obtain ⟨c2', f2'⟩ := hrm.cell hi
        obtain ⟨pl, hpl⟩ : ∃ pl, P9 i = pl := ⟨_, rfl⟩
        obtain ⟨pm, hpm⟩ : ∃ pm, Pm i = pm := ⟨_, rfl⟩
        rw [hpl] at c1'
        rw [hpm] at c2'
        have HPL := Aside0.mk hpl
        have HPM := Aside0.mk hpm
        have HW3 : Aside0 (wrap64 ((i : Int) - 1) = (i : Int) - 1) := ⟨by have h2 := HN2.out; unfold wrap64; omega⟩
        clear hrl hrm hpl hpm hi
        go_upto_region 13 with (fail)
        cases pl with
        | false =>
          cases pm with
          | false =>
            go_quiet (fail)
            go_wp2
            go_roundg k1
            case measure => omega
            case rel => exact ⟨i, Sm, Lm, Pm, by first | rfl | (rw [HW3.out]), ⟨by have := HK.out; omega⟩, ⟨by have := HI.out; omega⟩, ⟨HT.out.below (dnb _ _)⟩, ⟨fun i' h1 h2 => by
              by_cases e : i' = i
              · subst e; rw [HPL.out, HPM.out]
              · exact HE.out i' (by omega) h2⟩⟩
          | true =>
            go_quiet (fail)
            have HT1 := Aside0.mk (HT.out.below (dnb wr nq))
            clear l0 l1 m0 m1 c1' f1' c2' f2'
            generalize wr.drewN nq = V1 at HT1 ⊢
            obtain ⟨l0, l1⟩ := HT1.out.l.cells
            rw [← HNN.out] at l1
            obtain ⟨ix1, ix2, ix3⟩ := idx_parts (n := k) (i := i) (by rw [← HNN.out]; exact HI.out)
            have hk0 : ¬ (k : Int) = 0 := by have := HK1.out; omega
            have hk00 : ¬ k = 0 := by have := HK1.out; omega
            have hq1 : (i : Int).tdiv (k : Int) = ((i / k : Nat) : Int) := rfl
            have hq2 : (i : Int).tmod (k : Int) = ((i % k : Nat) : Int) := rfl
            obtain ⟨ia, hia⟩ : ∃ ia, ia = i / k := ⟨_, rfl⟩
            obtain ⟨ib, hib⟩ : ∃ ib, ib = i % k := ⟨_, rfl⟩
            rw [← hia] at hq1 ix1 ix3
            rw [← hib] at hq2 ix2 ix3
            have hwi : IntKind.i64.wrap (ia : Int) = (ia : Int) := by rw [IntKind.wrap_i64]; have := HK2.out; omega
            have HX1 := Aside0.mk ix1
            have HX2 := Aside0.mk ix2
            have HX3 := Aside0.mk ix3
            clear hia hib ix1 ix2 ix3
            have KP1 : ∀ W2, Kept V1 W2 (fun k => k = q ∧ False) → W2.cell? ⟨q, 0, none⟩ = some (.int .i64 (k : Int)) := fun W2 hk => cell_kept l0 hk (fun h => h.2)
            go_upto_region 14 with (fail)
            go_region_held3 (fun W => W.cell? ⟨q, 0, none⟩ = some (.int .i64 (k : Int))) (first | go_keep | exact l0 | exact KP1 _ (Kept.of_below (below_alloc (Below.refl _ _) _) _) | exact KP1 _ (Kept.of_below (below_step (below_alloc (Below.refl _ _) _) (dr_below _)) _)) (fail)
            have HU : Aside0 (Below V1.heap.size V1 (V1.alloc (.cells #[.int .i64 2, .int .i64 0, .int .i64 (ia : Int), .int .i64 (ib : Int)] 40)).drew ∧ (V1.alloc (.cells #[.int .i64 2, .int .i64 0, .int .i64 (ia : Int), .int .i64 (ib : Int)] 40)).drew.heap[V1.heap.size]? = some (.cells #[.int .i64 2, .int .i64 0, .int .i64 (ia : Int), .int .i64 (ib : Int)] 40 (0, 0))) := ⟨below_step (below_alloc (Below.refl _ _) _) (dr_below _), heap_alloc_new V1 _⟩
            have HKB : Aside0 (w1.heap.size ≤ V1.heap.size ∧ ¬ S9 V1.heap.size ∧ ¬ Sm V1.heap.size ∧ V1.heap.size ≠ q ∧ V1.heap.size ≠ gb ∧ V1.heap.size ≠ gm + 1 ∧ V1.heap.size ≠ gm) := ⟨by
              have z1 := blk_lt HT1.out.l.top
              have z2 := blk_lt HT1.out.m.top
              have z3 := HT1.out.l.gblt
              have z4 := HT1.out.m.gblt
              exact ⟨HT1.out.l.row.low.size, fun e => absurd (HT1.out.l.sg _ e).2.1 (Nat.lt_irrefl _), fun e => absurd (HT1.out.m.sg _ e).2.1 (Nat.lt_irrefl _), by omega, by omega, by omega, by omega⟩⟩
            have HT2 := Aside0.mk (HT1.out.below HU.out.1)
            replace HU := Aside0.mk HU.out.2
            clear KP1 l0 l1
            generalize (V1.alloc (.cells #[.int .i64 2, .int .i64 0, .int .i64 (ia : Int), .int .i64 (ib : Int)] 40)).drew = V2 at HU HT2 ⊢
            clear HT1
            generalize V1.heap.size = kb at HU HKB ⊢
            obtain ⟨l0, l1⟩ := HT2.out.l.cells
            rw [← HNN.out] at l1
            have hrl := HT2.out.l.row
            rw [← HNN.out] at hrl
            obtain ⟨c1', f1'⟩ := hrl.cell HI.out
            rw [HPL.out] at c1'
            have fb := blk_frozen HU.out 0
            clear hrl
            go_upto_region 17 with (fail)
            have HU3 := HU
            have HT3 := HT2
            clear HU HT2 fb l0 l1 c1' f1'
            generalize V2 = V3 at HU3 HT3 ⊢
            have b0 : V3.cell? ⟨kb, 0, none⟩ = some (.int .i64 2) := by rw [blk_cell HU3.out]; rfl
            have b1 : V3.cell? ⟨kb, 1, none⟩ = some (.int .i64 0) := by rw [blk_cell HU3.out]; rfl
            have b2 : V3.cell? ⟨kb, 2, none⟩ = some (.int .i64 (ia : Int)) := by rw [blk_cell HU3.out]; rfl
            have b3 : V3.cell? ⟨kb, 3, none⟩ = some (.int .i64 (ib : Int)) := by rw [blk_cell HU3.out]; rfl
            have HT4 : Aside0 (TR w1 (V3.alloc (.cells #[.int .i64 2, .int .i64 0, .int .i64 (ia : Int), .int .i64 (ib : Int)] 40)) q gb NN (gm + 1) gm NN k (some xl) (some xm) S9 Sm L9 Lm P9 Pm) := ⟨HT3.out.below (below_alloc (Below.refl _ _) _)⟩
            have HO4 : Aside0 (OxsAt (V3.alloc (.cells #[.int .i64 2, .int .i64 0, .int .i64 (ia : Int), .int .i64 (ib : Int)] 40)) (some ⟨V3.heap.size, 0, none⟩) 1 (fun _ => ⟨2, 0, (ia : Int), (ib : Int)⟩)) := ⟨fun i hi => by
              have e : i = 0 := by omega
              subst e
              have t := heap_alloc_new V3 (.cells #[.int .i64 2, .int .i64 0, .int .i64 (ia : Int), .int .i64 (ib : Int)] 40)
              exact ⟨_, rfl, ⟨(blk_cell t 0).trans rfl, (blk_cell t 1).trans rfl, (blk_cell t 2).trans rfl, (blk_cell t 3).trans rfl⟩⟩⟩
            have HB4 : Aside0 (V3.heap.size < (V3.alloc (.cells #[.int .i64 2, .int .i64 0, .int .i64 (ia : Int), .int .i64 (ib : Int)] 40)).heap.size) := ⟨blk_lt (heap_alloc_new V3 _)⟩
            go_upto_region 12 with (go_at_call 20; ((with_reducible refine (play_calls w1 (V3.alloc (.cells #[.int .i64 2, .int .i64 0, .int .i64 (ia : Int), .int .i64 (ib : Int)] 40)) (gm + 1) gm NN k (some xm) Sm Lm Pm (some ⟨V3.heap.size, 0, none⟩) 1 1 (fun _ => ⟨2, 0, (ia : Int), (ib : Int)⟩) HT4.out.m HO4.out ?ha ?hb HG.out (by decide)).mono ?_); (case ha => exact fun ad hA => (by cases hA; exact ⟨fun e => absurd (HT3.out.m.sg _ e).2.1 (Nat.lt_irrefl _), fun e => Nat.lt_irrefl _ (Nat.lt_of_lt_of_le HT3.out.m.gblt (Nat.le_of_eq e))⟩)); (case hb => exact fun ad hA _ => (by cases hA; exact HB4.out)); rintro e5 w5 ⟨rfl, S5, L5, P5, h5, f5, s5, q5⟩; have HT5 := Aside0.mk (HT4.out.playM h5 f5 s5); have HQ5 := Aside0.mk q5; clear h5 f5 s5 q5))
            go_wp2
            have HE5 : Aside0 (∀ i', i ≤ i' → i' < NN → P9 i' = P5 i') := ⟨fun i' h1 h2 => by
              rw [HQ5.out]
              have hok : (okG k (ia : Int) && okG k (ib : Int)) = true := by
                rw [Bool.and_eq_true]; exact ⟨decide_eq_true (by have := HX1.out; omega), decide_eq_true (by have := HX2.out; omega)⟩
              unfold playT playT
              simp only [hok, if_true, Int.toNat_natCast]
              unfold putB
              by_cases e : i' = i
              · subst e
                rw [if_pos HX3.out.symm, HPL.out]; rfl
              · rw [if_neg (fun e2 => e (e2.trans HX3.out))]
                exact HE.out i' (by omega) h2⟩
            go_roundg k1
            case measure => omega
            case rel => exact ⟨i, S5, L5, P5, by first | rfl | (rw [HW3.out]), ⟨by have := HK.out; omega⟩, ⟨by have := HI.out; omega⟩, HT5, HE5⟩
        | true =>
          cases pm with
          | true =>
            go_quiet (fail)
            go_wp2
            go_roundg k1
            case measure => omega
            case rel => exact ⟨i, Sm, Lm, Pm, by first | rfl | (rw [HW3.out]), ⟨by have := HK.out; omega⟩, ⟨by have := HI.out; omega⟩, ⟨HT.out.below (dnb _ _)⟩, ⟨fun i' h1 h2 => by
              by_cases e : i' = i
              · subst e; rw [HPL.out, HPM.out]
              · exact HE.out i' (by omega) h2⟩⟩
          | false =>
            go_quiet (fail)
            have HT1 := Aside0.mk (HT.out.below (dnb wr nq))
            clear l0 l1 m0 m1 c1' f1' c2' f2'
            generalize wr.drewN nq = V1 at HT1 ⊢
            obtain ⟨l0, l1⟩ := HT1.out.l.cells
            rw [← HNN.out] at l1
            obtain ⟨ix1, ix2, ix3⟩ := idx_parts (n := k) (i := i) (by rw [← HNN.out]; exact HI.out)
            have hk0 : ¬ (k : Int) = 0 := by have := HK1.out; omega
            have hk00 : ¬ k = 0 := by have := HK1.out; omega
            have hq1 : (i : Int).tdiv (k : Int) = ((i / k : Nat) : Int) := rfl
            have hq2 : (i : Int).tmod (k : Int) = ((i % k : Nat) : Int) := rfl
            obtain ⟨ia, hia⟩ : ∃ ia, ia = i / k := ⟨_, rfl⟩
            obtain ⟨ib, hib⟩ : ∃ ib, ib = i % k := ⟨_, rfl⟩
            rw [← hia] at hq1 ix1 ix3
            rw [← hib] at hq2 ix2 ix3
            have hwi : IntKind.i64.wrap (ia : Int) = (ia : Int) := by rw [IntKind.wrap_i64]; have := HK2.out; omega
            have HX1 := Aside0.mk ix1
            have HX2 := Aside0.mk ix2
            have HX3 := Aside0.mk ix3
            clear hia hib ix1 ix2 ix3
            have KP1 : ∀ W2, Kept V1 W2 (fun k => k = q ∧ False) → W2.cell? ⟨q, 0, none⟩ = some (.int .i64 (k : Int)) := fun W2 hk => cell_kept l0 hk (fun h => h.2)
            go_upto_region 14 with (fail)
            go_region_held3 (fun W => W.cell? ⟨q, 0, none⟩ = some (.int .i64 (k : Int))) (first | go_keep | exact l0 | exact KP1 _ (Kept.of_below (below_alloc (Below.refl _ _) _) _) | exact KP1 _ (Kept.of_below (below_step (below_alloc (Below.refl _ _) _) (dr_below _)) _)) (fail)
            have HU : Aside0 (Below V1.heap.size V1 (V1.alloc (.cells #[.int .i64 2, .int .i64 0, .int .i64 (ia : Int), .int .i64 (ib : Int)] 40)).drew ∧ (V1.alloc (.cells #[.int .i64 2, .int .i64 0, .int .i64 (ia : Int), .int .i64 (ib : Int)] 40)).drew.heap[V1.heap.size]? = some (.cells #[.int .i64 2, .int .i64 0, .int .i64 (ia : Int), .int .i64 (ib : Int)] 40 (0, 0))) := ⟨below_step (below_alloc (Below.refl _ _) _) (dr_below _), heap_alloc_new V1 _⟩
            have HKB : Aside0 (w1.heap.size ≤ V1.heap.size ∧ ¬ S9 V1.heap.size ∧ ¬ Sm V1.heap.size ∧ V1.heap.size ≠ q ∧ V1.heap.size ≠ gb ∧ V1.heap.size ≠ gm + 1 ∧ V1.heap.size ≠ gm) := ⟨by
              have z1 := blk_lt HT1.out.l.top
              have z2 := blk_lt HT1.out.m.top
              have z3 := HT1.out.l.gblt
              have z4 := HT1.out.m.gblt
              exact ⟨HT1.out.l.row.low.size, fun e => absurd (HT1.out.l.sg _ e).2.1 (Nat.lt_irrefl _), fun e => absurd (HT1.out.m.sg _ e).2.1 (Nat.lt_irrefl _), by omega, by omega, by omega, by omega⟩⟩
            have HT2 := Aside0.mk (HT1.out.below HU.out.1)
            replace HU := Aside0.mk HU.out.2
            clear KP1 l0 l1
            generalize (V1.alloc (.cells #[.int .i64 2, .int .i64 0, .int .i64 (ia : Int), .int .i64 (ib : Int)] 40)).drew = V2 at HU HT2 ⊢
            clear HT1
            generalize V1.heap.size = kb at HU HKB ⊢
            obtain ⟨l0, l1⟩ := HT2.out.l.cells
            rw [← HNN.out] at l1
            have hrl := HT2.out.l.row
            rw [← HNN.out] at hrl
            obtain ⟨c1', f1'⟩ := hrl.cell HI.out
            rw [HPL.out] at c1'
            have fb := blk_frozen HU.out 0
            have fb2 : V2.cell? ⟨kb, 0, none⟩ = some (.int .i64 2) := by rw [blk_cell HU.out]; rfl
            clear hrl
            go_upto_region 17 with (fail)
            have HU3 : Aside0 ((V2.setCell ⟨kb, 0, none⟩ (.int .i64 1)).heap[kb]? = some (.cells #[.int .i64 1, .int .i64 0, .int .i64 (ia : Int), .int .i64 (ib : Int)] 40 (0, 0))) := ⟨blk_set HU.out 0 _⟩
            have HT3 : Aside0 (TR w1 (V2.setCell ⟨kb, 0, none⟩ (.int .i64 1)) q gb NN (gm + 1) gm NN k (some xl) (some xm) S9 Sm L9 Lm P9 Pm) := ⟨HT2.out.far (Fr.set (g := kb) 0 _) (fun k hk => by subst hk; exact HKB.out)⟩
            clear HU HT2 fb fb2 l0 l1 c1' f1'
            generalize V2.setCell ⟨kb, 0, none⟩ (.int .i64 1) = V3 at HU3 HT3 ⊢
            have b0 : V3.cell? ⟨kb, 0, none⟩ = some (.int .i64 1) := by rw [blk_cell HU3.out]; rfl
            have b1 : V3.cell? ⟨kb, 1, none⟩ = some (.int .i64 0) := by rw [blk_cell HU3.out]; rfl
            have b2 : V3.cell? ⟨kb, 2, none⟩ = some (.int .i64 (ia : Int)) := by rw [blk_cell HU3.out]; rfl
            have b3 : V3.cell? ⟨kb, 3, none⟩ = some (.int .i64 (ib : Int)) := by rw [blk_cell HU3.out]; rfl
            have HT4 : Aside0 (TR w1 (V3.alloc (.cells #[.int .i64 1, .int .i64 0, .int .i64 (ia : Int), .int .i64 (ib : Int)] 40)) q gb NN (gm + 1) gm NN k (some xl) (some xm) S9 Sm L9 Lm P9 Pm) := ⟨HT3.out.below (below_alloc (Below.refl _ _) _)⟩
            have HO4 : Aside0 (OxsAt (V3.alloc (.cells #[.int .i64 1, .int .i64 0, .int .i64 (ia : Int), .int .i64 (ib : Int)] 40)) (some ⟨V3.heap.size, 0, none⟩) 1 (fun _ => ⟨1, 0, (ia : Int), (ib : Int)⟩)) := ⟨fun i hi => by
              have e : i = 0 := by omega
              subst e
              have t := heap_alloc_new V3 (.cells #[.int .i64 1, .int .i64 0, .int .i64 (ia : Int), .int .i64 (ib : Int)] 40)
              exact ⟨_, rfl, ⟨(blk_cell t 0).trans rfl, (blk_cell t 1).trans rfl, (blk_cell t 2).trans rfl, (blk_cell t 3).trans rfl⟩⟩⟩
            have HB4 : Aside0 (V3.heap.size < (V3.alloc (.cells #[.int .i64 1, .int .i64 0, .int .i64 (ia : Int), .int .i64 (ib : Int)] 40)).heap.size) := ⟨blk_lt (heap_alloc_new V3 _)⟩
            go_upto_region 12 with (go_at_call 20; ((with_reducible refine (play_calls w1 (V3.alloc (.cells #[.int .i64 1, .int .i64 0, .int .i64 (ia : Int), .int .i64 (ib : Int)] 40)) (gm + 1) gm NN k (some xm) Sm Lm Pm (some ⟨V3.heap.size, 0, none⟩) 1 1 (fun _ => ⟨1, 0, (ia : Int), (ib : Int)⟩) HT4.out.m HO4.out ?ha ?hb HG.out (by decide)).mono ?_); (case ha => exact fun ad hA => (by cases hA; exact ⟨fun e => absurd (HT3.out.m.sg _ e).2.1 (Nat.lt_irrefl _), fun e => Nat.lt_irrefl _ (Nat.lt_of_lt_of_le HT3.out.m.gblt (Nat.le_of_eq e))⟩)); (case hb => exact fun ad hA _ => (by cases hA; exact HB4.out)); rintro e5 w5 ⟨rfl, S5, L5, P5, h5, f5, s5, q5⟩; have HT5 := Aside0.mk (HT4.out.playM h5 f5 s5); have HQ5 := Aside0.mk q5; clear h5 f5 s5 q5))
            go_wp2
            have HE5 : Aside0 (∀ i', i ≤ i' → i' < NN → P9 i' = P5 i') := ⟨fun i' h1 h2 => by
              rw [HQ5.out]
              have hok : (okG k (ia : Int) && okG k (ib : Int)) = true := by
                rw [Bool.and_eq_true]; exact ⟨decide_eq_true (by have := HX1.out; omega), decide_eq_true (by have := HX2.out; omega)⟩
              unfold playT playT
              simp only [hok, if_true, Int.toNat_natCast]
              unfold putB
              by_cases e : i' = i
              · subst e
                rw [if_pos HX3.out.symm, HPL.out]; rfl
              · rw [if_neg (fun e2 => e (e2.trans HX3.out))]
                exact HE.out i' (by omega) h2⟩
            go_roundg k1
            case measure => omega
            case rel => exact ⟨i, S5, L5, P5, by first | rfl | (rw [HW3.out]), ⟨by have := HK.out; omega⟩, ⟨by have := HI.out; omega⟩, HT5, HE5⟩
end Go.Proofs.YtmldefednihohaaDoor.Grp
