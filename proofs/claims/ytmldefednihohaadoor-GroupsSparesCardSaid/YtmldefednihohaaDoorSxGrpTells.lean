/- GroupsTells says true (a plain walk). -/
import Derived.Test.YtmldefednihohaaDoorSxGrpMade
namespace Go.Proofs.YtmldefednihohaaDoor.Grp
open Go.RowKit Go.Proofs.YtmldefednihohaaDoorW.PrintWords Go.Proofs.YtmldefednihohaaDoorW.PrintLast Go.Proofs.YtmldefednihohaaDoorW.PrintMore
set_option linter.unusedVariables false
set_option linter.unusedSimpArgs false
set_option maxRecDepth 100000
theorem gl_pos1 {w : World} (h : GL w) : 0 < w.heap.size := by
  have := World.block_lt_of_cell? w _ (h.out 0 (by decide))
  exact this
/-- A pair in its box. -/
structure PO (w W : World) (q : Nat) (x r : Option Addr) (n : Nat) (S : Nat → Prop) (L : Nat → Nat → Bool) : Prop where
  low : Below w.heap.size w W
  d : DX S W x r n L
  g : ∀ k, S k → w.heap.size ≤ k ∧ k ≠ q
  t : W.heap[q]? = some (.cells #[.pointer x, .pointer r] 36 (0, 0))
section
variable {w W W2 : World} {q n : Nat} {x r : Option Addr} {S : Nat → Prop} {L : Nat → Nat → Bool}
theorem PO.below (h : PO w W q x r n S L) (hb : Below W.heap.size W W2) : PO w W2 q x r n S L :=
  { h with low := below_step h.low hb, d := h.d.below hb, t := (hb.block q (blk_lt h.t)).trans h.t }
theorem low_fr1 {S : Nat → Prop} (hb : Below w.heap.size w W) (hf : Fr W W2 S) (hS : ∀ k, S k → w.heap.size ≤ k) : Below w.heap.size w W2 :=
  ⟨hf.1.os.trans hb.os, hf.1.tape.trans hb.tape, hf.1.output.trans hb.output, Nat.le_trans hb.size hf.1.size, fun k hk => (hf.2.2 k (Nat.lt_of_lt_of_le hk hb.size) (fun e => by have := hS k e; omega)).trans (hb.block k hk)⟩
theorem DX.lt1 {S : Nat → Prop} {px pr : Option Addr} {n : Nat} {L : Nat → Nat → Bool} (h : DX S W px pr n L) : ∀ k, S k → k < W.heap.size := by
  obtain ⟨Sx, Sr, h1, h2, h3, h4, hp, hr⟩ := h
  exact h4
theorem PO.step (h : PO w W q x r n S L) {L' : Nat → Nat → Bool} (hd : DX (Mo S W W2) W2 x r n L') (hf : Fr W W2 S) : PO w W2 q x r n (Mo S W W2) L' where
  low := low_fr1 h.low hf (fun k hk => (h.g k hk).1)
  d := hd
  g := fun k hk => by
    have h1 := blk_lt h.t
    have h3 := h.low.size
    rcases hk.1 with hk | hk
    · exact h.g k hk
    · exact ⟨by omega, by omega⟩
  t := blk_kept h.t hf.2 (fun e => (h.g q e).2 rfl)
theorem PO.far (h : PO w W q x r n S L) {T : Nat → Prop} (hf : Fr W W2 T) (hT : ∀ k, T k → w.heap.size ≤ k ∧ ¬ S k ∧ k ≠ q) : PO w W2 q x r n S L :=
  { h with low := low_fr1 h.low hf (fun k hk => (hT k hk).1), d := h.d.kept hf.2 (fun k hk hk' => (hT k hk').2.1 hk), t := blk_kept h.t hf.2 (fun e => (hT q e).2.2 rfl) }
theorem PO.cells (h : PO w W q x r n S L) : W.cell? ⟨q, 0, none⟩ = some (.pointer x) ∧ W.cell? ⟨q, 1, none⟩ = some (.pointer r) :=
  ⟨by rw [blk_cell h.t]; rfl, by rw [blk_cell h.t]; rfl⟩
theorem PO.some_ (h : PO w W q x r n S L) (hn : 1 ≤ n) : ∃ g, x = some g := by
  obtain ⟨Sx, Sr, h1, h2, h3, h4, hp, hr⟩ := h.d
  rcases hp with ⟨h0, _⟩ | ⟨_, g, hg, _⟩
  · omega
  · exact ⟨_, by injection hg⟩
/-- A step on the pair. -/
theorem PO.calls (h : PO w W q x r n S L) (hgl : GL w) (kk wh a b : Int) :
    Calls Tryd.prog 18 #[.agg #[.pointer x, .pointer r], .agg #[.int .i64 kk, .int .i64 wh, .int .i64 a, .int .i64 b]] W fun e w' => e = .returned (.bool true) ∧ ∃ S' L', PO w w' q x r n S' L' := by
  refine (step_calls S W x r n L kk wh a b h.d (hgl.below h.low) (fun e => by have h1 := (h.g 0 e).1; have h2 := gl_pos1 hgl; omega)).mono ?_
  rintro e w' ⟨rfl, ⟨L8, d8⟩, f8⟩
  exact ⟨rfl, _, _, h.step d8 f8⟩
theorem PO.start {w w2 : World} {x r : Option Addr} {n : Nat} {L : Nat → Nat → Bool} (d2 : DX (fun k => w.heap.size ≤ k ∧ k < w2.heap.size) w2 x r n L) (b2 : Below w.heap.size w w2) :
    PO w (w2.alloc (.cells #[.pointer x, .pointer r] 36)) w2.heap.size x r n (fun k => w.heap.size ≤ k ∧ k < w2.heap.size) L := by
  have b3 := below_alloc (Below.refl w2.heap.size w2) (.cells #[.pointer x, .pointer r] 36)
  exact { low := below_step b2 b3, d := d2.below b3, g := fun k hk => ⟨hk.1, by omega⟩, t := heap_alloc_new w2 _ }
end
theorem build4 (a : Int) (w : World) : (Instr.build 40 #[(0, .int .i64 4), (2, .int .i64 a)]).run Tryd.prog w = .ok (.agg #[.int .i64 4, .int .i64 0, .int .i64 a, .int .i64 0]) w := run_build w 40 _ _ (by kernel_rfl)
theorem build5 (a : Int) (w : World) : (Instr.build 40 #[(0, .int .i64 5), (3, .int .i64 a)]).run Tryd.prog w = .ok (.agg #[.int .i64 5, .int .i64 0, .int .i64 0, .int .i64 a]) w := run_build w 40 _ _ (by kernel_rfl)
theorem build3 (a b : Int) (w : World) : (Instr.build 40 #[(0, .int .i64 3), (2, .int .i64 a), (3, .int .i64 b)]).run Tryd.prog w = .ok (.agg #[.int .i64 3, .int .i64 0, .int .i64 a, .int .i64 b]) w := run_build w 40 _ _ (by kernel_rfl)
theorem build6 (w : World) : (Instr.build 40 #[(0, .int .i64 6)]).run Tryd.prog w = .ok (.agg #[.int .i64 6, .int .i64 0, .int .i64 0, .int .i64 0]) w := run_build w 40 _ _ (by kernel_rfl)
attribute [local go_sem] build3 build4 build5 build6
theorem forty (a : Int) : ∃ k : Nat, 1 ≤ k ∧ k ≤ 40 ∧ wrap64 (a.tmod 40 + 40) = a.tmod 40 + 40 ∧ wrap64 (1 + (a.tmod 40 + 40).tmod 40) = (k : Int) := by
  have h1 : Int.tmod a 40 < 40 := Int.tmod_lt_of_pos a (by omega)
  have h2 : -40 < Int.tmod a 40 := Int.lt_tmod_of_pos a (by omega)
  obtain ⟨x, hx⟩ : ∃ x, x = Int.tmod a 40 := ⟨_, rfl⟩
  rw [← hx] at h1 h2 ⊢
  have h3 : (x + 40).tmod 40 = (x + 40) % 40 := Int.tmod_eq_emod_of_nonneg (by omega)
  rw [h3]
  refine ⟨(1 + (x + 40) % 40).toNat, by omega, by omega, ?_, ?_⟩
  · unfold wrap64; omega
  · unfold wrap64; omega
set_option maxHeartbeats 16000000 in
theorem tells_walk (w : World) (a : Int) (A : Option Addr) (n c : Nat) (G : Nat → OpD) (h : OpsAt w A n G) (hc : n ≤ c) (hm : n ≤ 9223372036854775807) (hgl : GL w) :
    Calls Tryd.prog 5 #[.int .i64 a, .slice A n c] w fun e w' => e = .returned (.bool true) ∧ Below w.heap.size w w' := by
  have HO := Aside0.mk h
  have HC := Aside0.mk hc
  have HM := Aside0.mk hm
  have HG := Aside0.mk hgl
  obtain ⟨k, k1, k2, w1e, w2e⟩ := forty a
  have HK1 := Aside0.mk k1
  have HK2 := Aside0.mk k2
  have HW1 := Aside0.mk w1e
  have HW2 := Aside0.mk w2e
  clear h hc hm hgl k1 k2
  go_enter Tryd.func5, Tryd.ntmps5
  go_upto_region 3 with (go_at_call 16; (refine (few_calls w A n c G HO.out HC.out HM.out).mono ?_; rintro e1 w1 ⟨m, rfl, m1, m2, hw⟩; subst hw; have HM1 := Aside0.mk m1; have HM2 := Aside0.mk m2; clear m1 m2))
  rw [HW2.out]
  have hmk : most (k : Int) = k := by unfold most; rw [if_pos (by have h1 := HK1.out; have h2 := HK2.out; omega), Int.toNat_natCast]
  have HMK := Aside0.mk hmk
  clear hmk w1e w2e
  go_upto_region 4 with (go_at_call 17; (refine (made_calls w1 (k : Int)).mono ?_; rintro e2 w2 ⟨x, r, rfl, d2, b2⟩; (rw [HMK.out] at d2); have D2 := Aside0.mk d2; have B2 := Aside0.mk b2; clear d2 b2))
  have HPO := Aside0.mk (PO.start D2.out B2.out)
  generalize w2.alloc (.cells #[.pointer x, .pointer r] 36) = W3 at HPO ⊢
  clear D2 B2
  generalize w2.heap.size = q at HPO ⊢
  obtain ⟨xg, hxg⟩ := HPO.out.some_ HK1.out
  subst hxg
  obtain ⟨p0, p1⟩ := HPO.out.cells
  go_wp2
  clear p0 p1
  go_loopg [7] (m + 1) (fun kq v7 w' => ∃ (i : Nat) (S : Nat → Prop) (L : Nat → Nat → Bool), v7 = .int .i64 (i : Int) ∧ Aside0 (kq + i = m + 1) ∧ Aside0 (i ≤ m) ∧ Aside0 (PO w1 w' q (some xg) r k S L))
  case atStart => exact ⟨0, _, _, rfl, ⟨rfl⟩, ⟨Nat.zero_le _⟩, HPO⟩
  case round =>
    clear HPO
    obtain ⟨i, S, L, rfl, HK, HJ, HPO⟩ := hrel
    cases gk with
    | zero => exact absurd HK.out (by have := HJ.out; omega)
    | succ k1 =>
      by_cases hlt : i < m
      · have hi0 : (0 : Int) ≤ (i : Int) := by omega
        have him : (i : Int) < (m : Int) := by omega
        have HW3 : Aside0 (wrap64 ((i : Int) + 1) = ((i + 1 : Nat) : Int)) := ⟨wrap_up i m (by omega) (by have := HM2.out; omega)⟩
        obtain ⟨ad, hA, ho⟩ := HO.out i (by have := HM1.out; omega)
        subst hA
        obtain ⟨o0, o1, o2, o3, _, _⟩ := ho.below HPO.out.low
        clear ho
        generalize G i = d at o0 o1 o2 o3
        obtain ⟨d0, d1, d2, d3⟩ := d
        simp only at o0 o1 o2 o3
        go_upto_region 10 with (fail)
        have HKB : Aside0 (∀ k, k = wr.heap.size → w1.heap.size ≤ k ∧ ¬ S k ∧ k ≠ q) := ⟨fun k hk => ⟨by rw [hk]; exact HPO.out.low.size, fun e => by have := HPO.out.d.lt1 k e; omega, fun e => by have := blk_lt HPO.out.t; omega⟩⟩
        have H6 := Aside0.mk (HPO.out.below (below_alloc (Below.refl wr.heap.size wr) (.cells #[.int .i64 d0, .int .i64 d1, .int .i64 d2, .int .i64 d3] 40)))
        have TP := Aside0.mk (heap_alloc_new wr (.cells #[.int .i64 d0, .int .i64 d1, .int .i64 d2, .int .i64 d3] 40))
        generalize wr.alloc (.cells #[.int .i64 d0, .int .i64 d1, .int .i64 d2, .int .i64 d3] 40) = W6 at H6 TP ⊢
        generalize wr.heap.size = kb at TP HKB ⊢
        clear o0 o1 o2 o3
        have t0 := blk_cell TP.out 0
        have t0 : W6.cell? ⟨kb, 0, none⟩ = some (.int .i64 d0) := t0
        have f0 := blk_frozen TP.out 0
        go_upto_region 11 with (fail)
        generalize wrap64 (1 + (wrap64 (d0.tmod 2 + 2)).tmod 2) = kk
        have H7 := Aside0.mk (H6.out.far (Fr.set (w := W6) (g := kb) 0 (.int .i64 kk)) HKB.out)
        have T7 := Aside0.mk (blk_set TP.out 0 (.int .i64 kk))
        generalize W6.setCell ⟨kb, 0, none⟩ (.int .i64 kk) = W7 at H7 T7 ⊢
        clear t0 f0
        obtain ⟨p0, p1⟩ := H7.out.cells
        have t0 : W7.cell? ⟨kb, 0, none⟩ = some (.int .i64 kk) := by rw [blk_cell T7.out 0]; rfl
        have t1 : W7.cell? ⟨kb, 1, none⟩ = some (.int .i64 d1) := by rw [blk_cell T7.out 1]; rfl
        have t2 : W7.cell? ⟨kb, 2, none⟩ = some (.int .i64 d2) := by rw [blk_cell T7.out 2]; rfl
        have t3 : W7.cell? ⟨kb, 3, none⟩ = some (.int .i64 d3) := by rw [blk_cell T7.out 3]; rfl
        go_wp2_with (go_at_call 18; (refine (H7.out.calls HG.out kk d1 d2 d3).mono ?_; rintro e8 w8 ⟨rfl, S8, L8, h8⟩; have H8 := Aside0.mk h8; clear h8))
        go_roundg k1
        case measure => omega
        case rel => exact ⟨i + 1, _, _, by first | rfl | (rw [← HW3.out]), ⟨by have := HK.out; omega⟩, ⟨by omega⟩, H8⟩
      · have hjn : i = m := by have := HJ.out; omega
        subst hjn
        have hd : decide ((i : Int) < (i : Int)) = false := decide_eq_false (by omega)
        go_wp2
        go_loopg [9] (k + 3) (fun kq v9 w' => ∃ (j : Nat) (S : Nat → Prop) (L : Nat → Nat → Bool), v9 = .int .i64 ((j : Int) - 1) ∧ Aside0 (kq + j = k + 3) ∧ Aside0 (j ≤ k + 2) ∧ Aside0 (PO w1 w' q (some xg) r k S L))
        case atStart => exact ⟨0, _, _, rfl, ⟨rfl⟩, ⟨Nat.zero_le _⟩, HPO⟩
        case round =>
          clear HPO HJ HK hd
          obtain ⟨j, S, L, rfl, HK, HJ, HPO⟩ := hrel
          obtain ⟨p0, p1⟩ := HPO.out.cells
          cases gk with
          | zero => exact absurd HK.out (by have := HJ.out; omega)
          | succ k2 =>
            by_cases hlt : j < k + 2
            · have hd : decide ((j : Int) - 1 ≤ (k : Int)) = true := decide_eq_true (by omega)
              have HW3 : Aside0 (wrap64 (j : Int) = ((j + 1 : Nat) : Int) - 1) := ⟨by have := HK2.out; unfold wrap64; omega⟩
              go_wp2_with (first
                | (go_at_call 18; ((with_reducible refine (HPO.out.calls HG.out 4 0 ((j : Int) - 1) 0).mono ?_); rintro e8 w8 ⟨rfl, S8, L8, h8⟩; obtain ⟨p80, p81⟩ := h8.cells; have H8 := Aside0.mk h8; clear h8))
                | (go_at_call 18; ((with_reducible refine (H8.out.calls HG.out 5 0 0 ((j : Int) - 1)).mono ?_); rintro e9 w9 ⟨rfl, S9, L9, h9⟩; have H9 := Aside0.mk h9; clear h9)))
              go_loopg [10] (k + 3) (fun kq v10 w' => ∃ (l : Nat) (S : Nat → Prop) (L : Nat → Nat → Bool), v10 = .int .i64 ((l : Int) - 1) ∧ Aside0 (kq + l = k + 3) ∧ Aside0 (l ≤ k + 2) ∧ Aside0 (PO w1 w' q (some xg) r k S L))
              case atStart => exact ⟨0, _, _, rfl, ⟨rfl⟩, ⟨Nat.zero_le _⟩, H9⟩
              case round =>
                clear HPO H8 H9 p0 p1 p80 p81
                obtain ⟨l, S, L, rfl, HKI, HJI, HPO⟩ := hrel
                obtain ⟨p0, p1⟩ := HPO.out.cells
                cases gk with
                | zero => exact absurd HKI.out (by have := HJI.out; omega)
                | succ k3 =>
                  by_cases hlt2 : l < k + 2
                  · have hd2 : decide ((l : Int) - 1 ≤ (k : Int)) = true := decide_eq_true (by omega)
                    have HW4 : Aside0 (wrap64 (l : Int) = ((l + 1 : Nat) : Int) - 1) := ⟨by have := HK2.out; unfold wrap64; omega⟩
                    go_wp2_with (go_at_call 18; ((with_reducible refine (HPO.out.calls HG.out 3 0 ((j : Int) - 1) ((l : Int) - 1)).mono ?_); rintro e8 w8 ⟨rfl, S8, L8, h8⟩; have H8 := Aside0.mk h8; clear h8))
                    go_roundg k3
                    case measure => omega
                    case rel => exact ⟨l + 1, _, _, by first | rfl | (rw [← HW4.out]), ⟨by have := HKI.out; omega⟩, ⟨by omega⟩, H8⟩
                  · have hd2 : decide ((l : Int) - 1 ≤ (k : Int)) = false := decide_eq_false (by omega)
                    go_wp2
                    go_roundg k2
                    case measure => omega
                    case rel => exact ⟨j + 1, _, _, by first | rfl | (rw [← HW3.out]), ⟨by have := HK.out; omega⟩, ⟨by omega⟩, HPO⟩
            · have hd : decide ((j : Int) - 1 ≤ (k : Int)) = false := decide_eq_false (by omega)
              go_wp2_with (go_at_call 18; ((with_reducible refine (HPO.out.calls HG.out 6 0 0 0).mono ?_); rintro e8 w8 ⟨rfl, S8, L8, h8⟩; have H8 := Aside0.mk h8; clear h8))
              go_ret
              exact ⟨rfl, H8.out.low⟩
end Go.Proofs.YtmldefednihohaaDoor.Grp
