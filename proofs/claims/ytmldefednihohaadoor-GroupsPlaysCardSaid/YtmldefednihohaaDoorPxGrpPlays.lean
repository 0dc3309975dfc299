/- GroupsPlays says true (a plain walk). -/
import Derived.Test.YtmldefednihohaaDoorPxGrpMade
namespace Go.Proofs.YtmldefednihohaaDoor.Grp
open Go.RowKit Go.Proofs.YtmldefednihohaaDoorW.PrintWords Go.Proofs.YtmldefednihohaaDoorW.PrintLast Go.Proofs.YtmldefednihohaaDoorW.PrintMore
set_option linter.unusedVariables false
set_option linter.unusedSimpArgs false
set_option maxRecDepth 100000
theorem gl_pos {w : World} (h : GL w) : 0 < w.heap.size := by
  have := World.block_lt_of_cell? w _ (h.out 0 (by decide))
  exact this
/-- Two pairs, each in its box. -/
structure PR (w W : World) (qa qb : Nat) (xa ra xb rb : Option Addr) (na nb : Nat) (Sa Sb : Nat → Prop) (La Lb : Nat → Nat → Bool) : Prop where
  low : Below w.heap.size w W
  da : DX Sa W xa ra na La
  db : DX Sb W xb rb nb Lb
  ga : ∀ k, Sa k → w.heap.size ≤ k ∧ k ≠ qa ∧ k ≠ qb
  gb : ∀ k, Sb k → w.heap.size ≤ k ∧ k ≠ qa ∧ k ≠ qb
  dis : ∀ k, Sa k → ¬ Sb k
  ta : W.heap[qa]? = some (.cells #[.pointer xa, .pointer ra] 36 (0, 0))
  tb : W.heap[qb]? = some (.cells #[.pointer xb, .pointer rb] 36 (0, 0))
section
variable {w W W2 : World} {qa qb na nb : Nat} {xa ra xb rb : Option Addr} {Sa Sb : Nat → Prop} {La Lb : Nat → Nat → Bool}
theorem PR.below (h : PR w W qa qb xa ra xb rb na nb Sa Sb La Lb) (hb : Below W.heap.size W W2) : PR w W2 qa qb xa ra xb rb na nb Sa Sb La Lb :=
  { h with low := below_step h.low hb, da := h.da.below hb, db := h.db.below hb, ta := (hb.block qa (blk_lt h.ta)).trans h.ta, tb := (hb.block qb (blk_lt h.tb)).trans h.tb }
theorem low_fr {S : Nat → Prop} (hb : Below w.heap.size w W) (hf : Fr W W2 S) (hS : ∀ k, S k → w.heap.size ≤ k) : Below w.heap.size w W2 :=
  ⟨hf.1.os.trans hb.os, hf.1.tape.trans hb.tape, hf.1.output.trans hb.output, Nat.le_trans hb.size hf.1.size, fun k hk => (hf.2.2 k (Nat.lt_of_lt_of_le hk hb.size) (fun e => by have := hS k e; omega)).trans (hb.block k hk)⟩
theorem DX.lt {S : Nat → Prop} {px pr : Option Addr} {n : Nat} {L : Nat → Nat → Bool} (h : DX S W px pr n L) : ∀ k, S k → k < W.heap.size := by
  obtain ⟨Sx, Sr, h1, h2, h3, h4, hp, hr⟩ := h
  exact h4
theorem PR.stepA (h : PR w W qa qb xa ra xb rb na nb Sa Sb La Lb) {L' : Nat → Nat → Bool} (hd : DX (Mo Sa W W2) W2 xa ra na L') (hf : Fr W W2 Sa) : PR w W2 qa qb xa ra xb rb na nb (Mo Sa W W2) Sb L' Lb where
  low := low_fr h.low hf (fun k hk => (h.ga k hk).1)
  da := hd
  db := h.db.kept hf.2 (fun k hk hk' => h.dis k hk' hk)
  ga := fun k hk => by
    have h1 := blk_lt h.ta
    have h2 := blk_lt h.tb
    have h3 := h.low.size
    rcases hk.1 with hk | hk
    · exact h.ga k hk
    · exact ⟨by omega, by omega, by omega⟩
  gb := h.gb
  dis := fun k hk hk' => by
    rcases hk.1 with hk | hk
    · exact h.dis k hk hk'
    · have := h.db.lt k hk'; omega
  ta := blk_kept h.ta hf.2 (fun e => (h.ga qa e).2.1 rfl)
  tb := blk_kept h.tb hf.2 (fun e => (h.ga qb e).2.2 rfl)
theorem PR.stepB (h : PR w W qa qb xa ra xb rb na nb Sa Sb La Lb) {L' : Nat → Nat → Bool} (hd : DX (Mo Sb W W2) W2 xb rb nb L') (hf : Fr W W2 Sb) : PR w W2 qa qb xa ra xb rb na nb Sa (Mo Sb W W2) La L' where
  low := low_fr h.low hf (fun k hk => (h.gb k hk).1)
  db := hd
  da := h.da.kept hf.2 (fun k hk hk' => h.dis k hk hk')
  gb := fun k hk => by
    have h1 := blk_lt h.ta
    have h2 := blk_lt h.tb
    have h3 := h.low.size
    rcases hk.1 with hk | hk
    · exact h.gb k hk
    · exact ⟨by omega, by omega, by omega⟩
  ga := h.ga
  dis := fun k hk hk' => by
    rcases hk'.1 with hk' | hk'
    · exact h.dis k hk hk'
    · have := h.da.lt k hk; omega
  ta := blk_kept h.ta hf.2 (fun e => (h.gb qa e).2.1 rfl)
  tb := blk_kept h.tb hf.2 (fun e => (h.gb qb e).2.2 rfl)
theorem PR.far (h : PR w W qa qb xa ra xb rb na nb Sa Sb La Lb) {T : Nat → Prop} (hf : Fr W W2 T) (hT : ∀ k, T k → w.heap.size ≤ k ∧ ¬ Sa k ∧ ¬ Sb k ∧ k ≠ qa ∧ k ≠ qb) : PR w W2 qa qb xa ra xb rb na nb Sa Sb La Lb :=
  { h with low := low_fr h.low hf (fun k hk => (hT k hk).1), da := h.da.kept hf.2 (fun k hk hk' => (hT k hk').2.1 hk), db := h.db.kept hf.2 (fun k hk hk' => (hT k hk').2.2.1 hk), ta := blk_kept h.ta hf.2 (fun e => (hT qa e).2.2.2.1 rfl), tb := blk_kept h.tb hf.2 (fun e => (hT qb e).2.2.2.2 rfl) }
theorem PR.cells (h : PR w W qa qb xa ra xb rb na nb Sa Sb La Lb) : W.cell? ⟨qa, 0, none⟩ = some (.pointer xa) ∧ W.cell? ⟨qa, 1, none⟩ = some (.pointer ra) ∧ W.cell? ⟨qb, 0, none⟩ = some (.pointer xb) ∧ W.cell? ⟨qb, 1, none⟩ = some (.pointer rb) :=
  ⟨by rw [blk_cell h.ta]; rfl, by rw [blk_cell h.ta]; rfl, by rw [blk_cell h.tb]; rfl, by rw [blk_cell h.tb]; rfl⟩
theorem PR.start {w w2 w4 : World} {xa ra xb rb : Option Addr} {na nb : Nat} {La Lb : Nat → Nat → Bool} (d2 : DX (fun k => w.heap.size ≤ k ∧ k < w2.heap.size) w2 xa ra na La) (b2 : Below w.heap.size w w2)
    (d4 : DX (fun k => (w2.alloc (.cells #[.pointer xa, .pointer ra] 36)).heap.size ≤ k ∧ k < w4.heap.size) w4 xb rb nb Lb) (b4 : Below (w2.alloc (.cells #[.pointer xa, .pointer ra] 36)).heap.size (w2.alloc (.cells #[.pointer xa, .pointer ra] 36)) w4) :
    PR w (w4.alloc (.cells #[.pointer xb, .pointer rb] 36)) w2.heap.size w4.heap.size xa ra xb rb na nb (fun k => w.heap.size ≤ k ∧ k < w2.heap.size) (fun k => w2.heap.size + 1 ≤ k ∧ k < w4.heap.size) La Lb := by
  have b3 := below_alloc (Below.refl w2.heap.size w2) (.cells #[.pointer xa, .pointer ra] 36)
  have t3 := heap_alloc_new w2 (.cells #[.pointer xa, .pointer ra] 36)
  have z3 : (w2.alloc (.cells #[.pointer xa, .pointer ra] 36)).heap.size = w2.heap.size + 1 := World.size_alloc _ _
  generalize w2.alloc (.cells #[.pointer xa, .pointer ra] 36) = w3 at d4 b4 b3 t3 z3 ⊢
  have b5 := below_alloc (Below.refl w4.heap.size w4) (.cells #[.pointer xb, .pointer rb] 36)
  have t5 := heap_alloc_new w4 (.cells #[.pointer xb, .pointer rb] 36)
  generalize w4.alloc (.cells #[.pointer xb, .pointer rb] 36) = w5 at b5 t5 ⊢
  have z2 := b2.size
  have z4 := b4.size
  rw [z3] at d4
  exact
    { low := below_step (below_step (below_step b2 b3) b4) b5
      da := ((d2.below b3).below b4).below b5
      db := d4.below b5
      ga := fun k hk => ⟨hk.1, by omega, by omega⟩
      gb := fun k hk => ⟨by omega, by omega, by omega⟩
      dis := fun k hk hk' => by omega
      ta := (b5.block _ (by omega)).trans ((b4.block _ (by omega)).trans t3)
      tb := t5 }
end
set_option maxHeartbeats 8000000 in
theorem plays_walk (w : World) (one two : Int) (A : Option Addr) (n c : Nat) (G : Nat → OpD) (h : OpsAt w A n G) (hc : n ≤ c) (hm : n ≤ 9223372036854775807) (hgl : GL w) :
    Calls Tryd.prog 4 #[.int .i64 one, .int .i64 two, .slice A n c] w fun e w' => e = .returned (.bool true) ∧ Below w.heap.size w w' := by
  have HO := Aside0.mk h
  have HC := Aside0.mk hc
  have HM := Aside0.mk hm
  have HG := Aside0.mk hgl
  clear h hc hm hgl
  go_enter Tryd.func4, Tryd.ntmps4
  go_upto_region 3 with (first
    | (go_at_call 16; (refine (few_calls w A n c G HO.out HC.out HM.out).mono ?_; rintro e1 w1 ⟨m, rfl, m1, m2, hw⟩; subst hw; have HM1 := Aside0.mk m1; have HM2 := Aside0.mk m2; clear m1 m2))
    | (go_at_call 17; (refine (made_calls w1 one).mono ?_; rintro e2 w2 ⟨xa, ra, rfl, d2, b2⟩; have D2 := Aside0.mk d2; have B2 := Aside0.mk b2; clear d2 b2)))
  have B3 := Aside0.mk (below_alloc (Below.refl w2.heap.size w2) (.cells #[.pointer xa, .pointer ra] 36))
  go_upto_region 4 with (go_at_call 17; (refine (made_calls (w2.alloc (.cells #[.pointer xa, .pointer ra] 36)) two).mono ?_; rintro e4 w4 ⟨xb, rb, rfl, d4, b4⟩; have D4 := Aside0.mk d4; have B4 := Aside0.mk b4; clear d4 b4))
  have HPR := Aside0.mk (PR.start D2.out B2.out D4.out B4.out)
  generalize w4.alloc (.cells #[.pointer xb, .pointer rb] 36) = W5 at HPR ⊢
  clear D2 B2 B3 D4 B4
  generalize w2.heap.size = qa at HPR ⊢
  generalize w4.heap.size = qb at HPR ⊢
  go_wp2
  go_loopg [11] (m + 1) (fun kq v11 w' => ∃ (i : Nat) (Sa Sb : Nat → Prop) (La Lb : Nat → Nat → Bool), v11 = .int .i64 (i : Int) ∧ Aside0 (kq + i = m + 1) ∧ Aside0 (i ≤ m) ∧ Aside0 (PR w1 w' qa qb xa ra xb rb (most one) (most two) Sa Sb La Lb))
  case atStart => exact ⟨0, _, _, _, _, rfl, ⟨rfl⟩, ⟨Nat.zero_le _⟩, HPR⟩
  case round =>
    clear HPR
    obtain ⟨i, Sa, Sb, La, Lb, rfl, HK, HJ, HPR⟩ := hrel
    cases gk with
    | zero => exact absurd HK.out (by have := HJ.out; omega)
    | succ k1 =>
      by_cases hlt : i < m
      · have hi0 : (0 : Int) ≤ (i : Int) := by omega
        have him : (i : Int) < (m : Int) := by omega
        have HW3 : Aside0 (wrap64 ((i : Int) + 1) = ((i + 1 : Nat) : Int)) := ⟨wrap_up i m (by omega) (by have := HM2.out; omega)⟩
        obtain ⟨a0, a1, b0, b1⟩ := HPR.out.cells
        go_upto_region 10 with (fail)
        have HKB : Aside0 (∀ k, k = wr.heap.size → w1.heap.size ≤ k ∧ ¬ Sa k ∧ ¬ Sb k ∧ k ≠ qa ∧ k ≠ qb) := ⟨fun k hk => ⟨by rw [hk]; exact HPR.out.low.size, fun e => by have := HPR.out.da.lt k e; omega, fun e => by have := HPR.out.db.lt k e; omega, fun e => by have := blk_lt HPR.out.ta; omega, fun e => by have := blk_lt HPR.out.tb; omega⟩⟩
        have H6 := Aside0.mk (HPR.out.below (below_alloc (Below.refl wr.heap.size wr) (.cells #[.pointer xa, .pointer ra] 36)))
        have TP := Aside0.mk (heap_alloc_new wr (.cells #[.pointer xa, .pointer ra] 36))
        generalize wr.alloc (.cells #[.pointer xa, .pointer ra] 36) = W6 at H6 TP ⊢
        generalize wr.heap.size = kb at TP HKB ⊢
        obtain ⟨ad, hA, ho⟩ := HO.out i (by have := HM1.out; omega)
        subst hA
        have HOI := Aside0.mk ho
        have ho := ho.below H6.out.low
        obtain ⟨o0, o1, o2, o3, _, _⟩ := ho
        clear a0 a1 b0 b1
        obtain ⟨x, hx⟩ : ∃ x, ((G i).which.tmod 2 != 0) = x := ⟨_, rfl⟩
        cases x with
        | false =>
          have p0 := blk_cell TP.out 0
          have p1 := blk_cell TP.out 1
          have p0 : W6.cell? ⟨kb, 0, none⟩ = some (.pointer xa) := p0
          have p1 : W6.cell? ⟨kb, 1, none⟩ = some (.pointer ra) := p1
          go_upto_region 12 with (fail)
          go_region_with (go_at_call 18; (refine (step_calls Sa W6.drew xa ra (most one) La (G i).kind (G i).which (G i).a (G i).b (H6.out.below (dr_below _)).da (HG.out.below (H6.out.below (dr_below _)).low) (fun e => by have h1 := (H6.out.ga 0 e).1; have h2 := gl_pos HG.out; omega)).mono ?_; rintro e8 w8 ⟨rfl, ⟨L8, d8⟩, f8⟩; have H8 := Aside0.mk ((H6.out.below (dr_below _)).stepA d8 f8); clear d8 f8))
          all_goals (try go_wp2)
          all_goals (go_roundg k1; (case measure => omega); case rel => exact ⟨i + 1, _, _, _, _, by first | rfl | (rw [← HW3.out]), ⟨by have := HK.out; omega⟩, ⟨by omega⟩, by first | exact H8 | exact ⟨H8.out.below (dnb _ _)⟩⟩)
        | true =>
          obtain ⟨a0, a1, b0, b1⟩ := H6.out.cells
          have p0 := blk_cell TP.out 0
          have p1 := blk_cell TP.out 1
          have p0 : W6.cell? ⟨kb, 0, none⟩ = some (.pointer xa) := p0
          have p1 : W6.cell? ⟨kb, 1, none⟩ = some (.pointer ra) := p1
          have q0 := blk_frozen TP.out 0
          have q1 := blk_frozen TP.out 1
          go_upto_region 12 with (fail)
          have H7 := Aside0.mk (H6.out.far ((Fr.set (w := W6) (g := kb) 0 (.pointer xb)).then_ (Fr.set (g := kb) 1 (.pointer rb)) (fun k hk => .inl hk)) HKB.out)
          have TP7 := Aside0.mk (blk_set (blk_set TP.out 0 (.pointer xb)) 1 (.pointer rb))
          generalize (W6.setCell ⟨kb, 0, none⟩ (.pointer xb)).setCell ⟨kb, 1, none⟩ (.pointer rb) = W7 at H7 TP7 ⊢
          clear o0 o1 o2 o3 a0 a1 b0 b1 p0 p1 q0 q1
          obtain ⟨o0, o1, o2, o3, _, _⟩ := HOI.out.below H7.out.low
          have p0 := blk_cell TP7.out 0
          have p1 := blk_cell TP7.out 1
          have p0 : W7.cell? ⟨kb, 0, none⟩ = some (.pointer xb) := p0
          have p1 : W7.cell? ⟨kb, 1, none⟩ = some (.pointer rb) := p1
          go_region_with (go_at_call 18; (refine (step_calls Sb W7.drew xb rb (most two) Lb (G i).kind (G i).which (G i).a (G i).b (H7.out.below (dr_below _)).db (HG.out.below (H7.out.below (dr_below _)).low) (fun e => by have h1 := (H7.out.gb 0 e).1; have h2 := gl_pos HG.out; omega)).mono ?_; rintro e8 w8 ⟨rfl, ⟨L8, d8⟩, f8⟩; have H8 := Aside0.mk ((H7.out.below (dr_below _)).stepB d8 f8); clear d8 f8))
          all_goals (try go_wp2)
          all_goals (go_roundg k1; (case measure => omega); case rel => exact ⟨i + 1, _, _, _, _, by first | rfl | (rw [← HW3.out]), ⟨by have := HK.out; omega⟩, ⟨by omega⟩, by first | exact H8 | exact ⟨H8.out.below (dnb _ _)⟩⟩)
      · have hjn : i = m := by have := HJ.out; omega
        subst hjn
        have hd : decide ((i : Int) < (i : Int)) = false := decide_eq_false (by omega)
        go_wp2
        go_ret
        exact ⟨rfl, HPR.out.low⟩
end Go.Proofs.YtmldefednihohaaDoor.Grp
