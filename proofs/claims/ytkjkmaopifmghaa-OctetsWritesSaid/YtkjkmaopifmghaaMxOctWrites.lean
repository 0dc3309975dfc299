/- The walk of OctetsWrites. -/
import Derived.Test.YtkjkmaopifmghaaMxOctWs
import Derived.Test.YtkjkmaopifmghaaM5
import Derived.Test.YtkjkmaopifmghaaMxPureBack
import Derived.Deep.RegionLaw
namespace Go.Proofs.Ytkjkmaopifmghaa.Oct
open Go.RowKit Go.Proofs.YtkjkmaopifmghaaW.PrintWords Go.Proofs.YtkjkmaopifmghaaW.PrintLast Go.Proofs.YtkjkmaopifmghaaW.PrintMore Go.Proofs.Ytkjkmaopifmghaa.OctShort Go.Proofs.Ytkjkmaopifmghaa.OctCopy Go.Proofs.Ytkjkmaopifmghaa.OctNum Go.Proofs.Ytkjkmaopifmghaa.PureShort
set_option linter.unusedVariables false
set_option linter.unusedSimpArgs false
set_option maxRecDepth 100000
/-- What was written into the Writer b, so far. -/
def catO (G : Nat → PutD) (J O : Nat → Nat) (b : Nat) : Nat → List Int
  | 0 => []
  | j + 1 => if O j = b then catO G J O b j ++ enc (G j) (J j) else catO G J O b j
theorem catO_len (G : Nat → PutD) (J O : Nat → Nat) (b : Nat) : ∀ j, (catO G J O b j).length ≤ tot G j := by
  intro j
  induction j with
  | zero => simp [catO]
  | succ j ih =>
    have := enc_len (G j) (J j)
    simp only [catO, tot]
    split
    · rw [List.length_append]; omega
    · omega
theorem WS.congr {w W : World} {gw gb : Nat} {P : Nat → Nat → Prop} {v : Nat → Value} {l m : Nat → List Int} (h : WS w W gw gb P v l) (hm : ∀ i, i < 4 → l i = m i) : WS w W gw gb P v m :=
  ⟨h.hw, h.hb, fun i hi => hm i hi ▸ h.r i hi, h.dj, h.ng, h.gg, h.low⟩
def OutRel (w : World) (gw gb : Nat) (G : Nat → PutD) (J O : Nat → Nat) (j : Nat) (W : World) : Prop := ∃ P v, WS w W gw gb P v (fun i => catO G J O (i % 2) j)
theorem PutOk.mono' {a b : Nat} {d : PutD} (h : PutOk a d) (hab : a ≤ b) : PutOk b d := ⟨h.hc, fun ad ha hl => Nat.lt_of_lt_of_le (h.hA ad ha hl) hab, h.hb, h.hu, h.hi, h.hr, h.ht, h.hl⟩
theorem lent_out {w W : World} {gw gb n g1 : Nat} {P P4 : Nat → Nat → Prop} {v : Nat → Value} {l : Nat → List Int} (h : WS w W gw gb P v l) (hg : Grow P P4 n) (h1 : W.heap.size ≤ g1) (h2 : g1 < n) : g1 ≠ gw ∧ g1 ≠ gb ∧ w.heap.size ≤ g1 ∧ ∀ i, i < 4 → ¬ P4 i g1 := by
  have a1 := blk_lt h.hw
  have a2 := blk_lt h.hb
  have a3 := h.low.size
  refine ⟨by omega, by omega, by omega, fun i hi hp => ?_⟩
  rcases hg i g1 hp with h5 | h5
  · have := (h.ng i g1 hi h5).2.2.2
    omega
  · omega
/-- So many of the bytes have been put to what is wanted. -/
def InRel (w : World) (gw gb i : Nat) (L : Nat → List Int) (c Bl : List Int) (A8 : Option Addr) (k : Nat) (W : World) : Prop := ∃ P v, WS w W gw gb P v (upd L i (c ++ Bl.take k)) ∧ U8.C W A8 Bl.length Bl ∧ ∀ ad, A8 = some ad → 0 < Bl.length → ad.block < W.heap.size ∧ ad.block ≠ gb ∧ ∀ i, i < 4 → ¬ P i ad.block
theorem inrel_start {w W0 W : World} {gw gb i : Nat} {P : Nat → Nat → Prop} {v : Nat → Value} {L L0 : Nat → List Int} {Bl : List Int} {A8 : Option Addr} (h : WS w W gw gb P v L) (hC : U8.C W A8 Bl.length Bl) (hA : ∀ ad, A8 = some ad → 0 < Bl.length → ad.block < w.heap.size ∨ W0.heap.size ≤ ad.block) (h0 : WS w W0 gw gb P v L0) : InRel w gw gb i L (L i) Bl A8 0 W := by
  refine ⟨P, v, h.congr (fun a ha => ?_), hC, fun ad ha hl => ?_⟩
  · by_cases hai : a = i
    · subst hai; rw [upd_eq]; simp
    · rw [upd_ne _ _ hai]
  · have hlt : ad.block < W.heap.size := by
      obtain ⟨_, _, h3⟩ := Kd.reads_of_C (d := (0 : Int)) hC
      obtain ⟨ad', hA', hc'⟩ := h3 hl
      obtain rfl : ad' = ad := Option.some.inj (hA'.symm.trans ha)
      have h := World.block_lt_of_cell? W _ (hc' 0 (by omega))
      rwa [block_addO] at h
    have a1 := blk_lt h0.hw
    have a2 := blk_lt h0.hb
    have a3 := h0.gg
    refine ⟨hlt, ?_, fun i hi hp => ?_⟩
    · rcases hA ad ha hl with h | h <;> omega
    · have := h0.ng i ad.block hi hp
      rcases hA ad ha hl with h | h <;> omega
theorem want_row {w W : World} {gw gb : Nat} {P : Nat → Nat → Prop} {v : Nat → Value} {L : Nat → List Int} {l : List Int} (h : WS w W gw gb P v (upd L 2 l)) : U8.R 5 W.drew 0 (fun b => P 2 b ∨ W.heap.size ≤ b) (v 2) l := by
  have h1 := h.r 2 (by omega)
  rw [upd_eq] at h1
  exact Kd.R_mono h1 (fun k hk => .inl hk)
theorem want_row3 {w W : World} {gw gb : Nat} {P : Nat → Nat → Prop} {v : Nat → Value} {L : Nat → List Int} {l : List Int} (h : WS w W gw gb P v (upd L 3 l)) : U8.R 5 W.drew 0 (fun b => P 3 b ∨ W.heap.size ≤ b) (v 3) l := by
  have h1 := h.r 3 (by omega)
  rw [upd_eq] at h1
  exact Kd.R_mono h1 (fun k hk => .inl hk)
theorem want_low {w W : World} {gw gb : Nat} {P : Nat → Nat → Prop} {v : Nat → Value} {L : Nat → List Int} (h : WS w W gw gb P v L) : Below 0 w W.drew := ⟨h.low.os, h.low.tape, h.low.output, h.low.size, fun k hk => absurd hk (by omega)⟩
theorem want_cell {w W w1 : World} {gw gb : Nat} {P : Nat → Nat → Prop} {v : Nat → Value} {L : Nat → List Int} (h : WS w W gw gb P v L) (hg : W.drew.grownBy w1 (v 2).ownBlock) : w1.cell? ⟨gb, 0, none⟩ = some (v 2) ∧ w1.frozen? ⟨gb, 0, none⟩ = false :=
  (blk_two ((hg.block gb (blk_lt h.hb) (fun e => (h.ng 2 gb (by omega) ((h.r 2 (by omega)).1 gb e.symm)).2.1 rfl)).trans h.hb)).1
theorem want_cell3 {w W w1 : World} {gw gb : Nat} {P : Nat → Nat → Prop} {v : Nat → Value} {L : Nat → List Int} (h : WS w W gw gb P v L) (hg : W.drew.grownBy w1 (v 3).ownBlock) : w1.cell? ⟨gb, 1, none⟩ = some (v 3) ∧ w1.frozen? ⟨gb, 1, none⟩ = false :=
  (blk_two ((hg.block gb (blk_lt h.hb) (fun e => (h.ng 3 gb (by omega) ((h.r 3 (by omega)).1 gb e.symm)).2.1 rfl)).trans h.hb)).2
theorem want_far {w W w1 : World} {gw gb : Nat} {P : Nat → Nat → Prop} {v : Nat → Value} {L : Nat → List Int} {a : Addr} {x : Value} (h : WS w W gw gb P v L) (hg : W.drew.grownBy w1 (v 2).ownBlock) (hc : W.cell? a = some x) (hn : ¬ P 2 a.block) : w1.cell? a = some x := by
  have hlt := World.block_lt_of_cell? W _ hc
  rw [World.cell?_of_block (w := W) (w' := w1) (hg.block a.block hlt (fun e => hn ((h.r 2 (by omega)).1 _ e.symm)))]
  exact hc
theorem want_far3 {w W w1 : World} {gw gb : Nat} {P : Nat → Nat → Prop} {v : Nat → Value} {L : Nat → List Int} {a : Addr} {x : Value} (h : WS w W gw gb P v L) (hg : W.drew.grownBy w1 (v 3).ownBlock) (hc : W.cell? a = some x) (hn : ¬ P 3 a.block) : w1.cell? a = some x := by
  have hlt := World.block_lt_of_cell? W _ hc
  rw [World.cell?_of_block (w := W) (w' := w1) (hg.block a.block hlt (fun e => hn ((h.r 3 (by omega)).1 _ e.symm)))]
  exact hc
theorem C_kept0_ {w w' : World} {A : Option Addr} {n : Nat} {l : List Int} {T : Nat → Prop} (h : U8.C w A n l) (hk : Kept w w' T) (hn : ∀ ad, A = some ad → 0 < n → ¬ T ad.block) : U8.C w' A n l := by
  cases n with
  | zero =>
    obtain ⟨h1, h2, h3⟩ := Kd.reads_of_C (d := (0 : Int)) h
    exact Kd.C_of_reads (enc := Value.int .u8) (d := (0 : Int)) ⟨h1, h2, fun hp => absurd hp (by omega)⟩
  | succ n => exact C_kept h hk (fun ad ha => hn ad ha (by omega))
theorem take_rd (Bl : List Int) (k : Nat) (h : k < Bl.length) : Bl.take (k + 1) = Bl.take k ++ [rd Bl (k : Int)] := by
  rw [List.take_add_one, List.getElem?_eq_getElem h]
  have : rd Bl (k : Int) = Bl[k] := by
    show rdOf 0 Bl _ = _
    simp [rdOf, List.getD_eq_getElem?_getD, List.getElem?_eq_getElem h]
  rw [this]
  rfl
theorem inrel_next2 {w W w1 : World} {gw gb k : Nat} {P : Nat → Nat → Prop} {v : Nat → Value} {L : Nat → List Int} {c Bl : List Int} {A8 : Option Addr} {v6 : Value} {y : Int} (h : WS w W gw gb P v (upd L 2 (c ++ Bl.take k))) (hx : U8.C W A8 Bl.length Bl) (hb : ∀ ad, A8 = some ad → 0 < Bl.length → ad.block < W.heap.size ∧ ad.block ≠ gb ∧ ∀ i, i < 4 → ¬ P i ad.block)
    (hk : k < Bl.length) (hy : y = rd Bl (k : Int)) {X : List Int} (hX : X = c ++ Bl.take k ++ [y]) (hr : U8.R 5 w1 0 (fun b => P 2 b ∨ W.heap.size ≤ b) v6 X) (hg : W.grownBy w1 (v 2).ownBlock) : InRel w gw gb 2 L c Bl A8 (k + 1) (w1.setCell ⟨gb, 0, none⟩ v6) := by
  subst hX
  obtain ⟨P', v', gr, ws⟩ := h.c_next hr hg
  have hown : ∀ k, (v 2).ownBlock = some k → P 2 k := fun k hk => (h.r 2 (by omega)).1 k hk
  have hk1 : Kept W w1 (fun k => P 2 k) := Kept.of_grown hg (Kept.refl W _) (fun k hk => .inl (hown k hk))
  have hk2 : Kept W (w1.setCell ⟨gb, 0, none⟩ v6) (fun k => P 2 k ∨ k = gb) := Kept.setCell (hk1.mono (fun k hk => .inl hk)) (p := (⟨gb, 0, none⟩ : Addr)) (.inl (.inr rfl)) _
  refine ⟨P', v', ws.congr (fun a ha => ?_), C_kept0_ hx hk2 (fun ad ha hl ht => ?_), fun ad ha hl => ?_⟩
  · by_cases h2 : a = 2
    · subst h2
      rw [upd_eq, upd_eq, take_rd Bl k hk, hy, List.append_assoc]
    · rw [upd_ne _ _ h2, upd_ne _ _ h2, upd_ne _ _ h2]
  · obtain ⟨_, h1, h2⟩ := hb ad ha hl
    rcases ht with ht | ht
    · exact h2 2 (by omega) ht
    · exact h1 ht
  · obtain ⟨h0, h1, h2⟩ := hb ad ha hl
    have hs := hk2.1
    refine ⟨by omega, h1, fun i hi hp => ?_⟩
    rcases gr i _ hp with h3 | h3
    · exact h2 i hi h3
    · omega
theorem inrel_next3 {w W w1 : World} {gw gb k : Nat} {P : Nat → Nat → Prop} {v : Nat → Value} {L : Nat → List Int} {c Bl : List Int} {A8 : Option Addr} {v6 : Value} {y : Int} (h : WS w W gw gb P v (upd L 3 (c ++ Bl.take k))) (hx : U8.C W A8 Bl.length Bl) (hb : ∀ ad, A8 = some ad → 0 < Bl.length → ad.block < W.heap.size ∧ ad.block ≠ gb ∧ ∀ i, i < 4 → ¬ P i ad.block)
    (hk : k < Bl.length) (hy : y = rd Bl (k : Int)) {X : List Int} (hX : X = c ++ Bl.take k ++ [y]) (hr : U8.R 5 w1 0 (fun b => P 3 b ∨ W.heap.size ≤ b) v6 X) (hg : W.grownBy w1 (v 3).ownBlock) : InRel w gw gb 3 L c Bl A8 (k + 1) (w1.setCell ⟨gb, 1, none⟩ v6) := by
  subst hX
  obtain ⟨P', v', gr, ws⟩ := h.d_next hr hg
  have hown : ∀ k, (v 3).ownBlock = some k → P 3 k := fun k hk => (h.r 3 (by omega)).1 k hk
  have hk1 : Kept W w1 (fun k => P 3 k) := Kept.of_grown hg (Kept.refl W _) (fun k hk => .inl (hown k hk))
  have hk2 : Kept W (w1.setCell ⟨gb, 1, none⟩ v6) (fun k => P 3 k ∨ k = gb) := Kept.setCell (hk1.mono (fun k hk => .inl hk)) (p := (⟨gb, 1, none⟩ : Addr)) (.inl (.inr rfl)) _
  refine ⟨P', v', ws.congr (fun a ha => ?_), C_kept0_ hx hk2 (fun ad ha hl ht => ?_), fun ad ha hl => ?_⟩
  · by_cases h2 : a = 3
    · subst h2
      rw [upd_eq, upd_eq, take_rd Bl k hk, hy, List.append_assoc]
    · rw [upd_ne _ _ h2, upd_ne _ _ h2, upd_ne _ _ h2]
  · obtain ⟨_, h1, h2⟩ := hb ad ha hl
    rcases ht with ht | ht
    · exact h2 3 (by omega) ht
    · exact h1 ht
  · obtain ⟨h0, h1, h2⟩ := hb ad ha hl
    have hs := hk2.1
    refine ⟨by omega, h1, fun i hi hp => ?_⟩
    rcases gr i _ hp with h3 | h3
    · exact h2 i hi h3
    · omega
theorem out_next {G : Nat → PutD} {J O : Nat → Nat} {j k : Nat} {Bl : List Int} (hO : O j = 0) (hB : Bl = enc (G j) (J j)) (hk : k = Bl.length) : ∀ i, i < 4 → upd (upd (fun i => catO G J O (i % 2) j) 0 (catO G J O 0 j ++ Bl)) 2 (catO G J O 0 j ++ Bl.take k) i = catO G J O (i % 2) (j + 1) := by
  intro i hi
  subst hk
  rw [List.take_length, hB]
  rcases (by omega : i = 0 ∨ i = 1 ∨ i = 2 ∨ i = 3) with rfl | rfl | rfl | rfl <;> simp [upd, catO, hO]
theorem out_next1 {G : Nat → PutD} {J O : Nat → Nat} {j k : Nat} {Bl : List Int} (hO : O j = 1) (hB : Bl = enc (G j) (J j)) (hk : k = Bl.length) : ∀ i, i < 4 → upd (upd (fun i => catO G J O (i % 2) j) 1 (catO G J O 1 j ++ Bl)) 3 (catO G J O 1 j ++ Bl.take k) i = catO G J O (i % 2) (j + 1) := by
  intro i hi
  subst hk
  rw [List.take_length, hB]
  rcases (by omega : i = 0 ∨ i = 1 ∨ i = 2 ∨ i = 3) with rfl | rfl | rfl | rfl <;> simp [upd, catO, hO]
set_option maxHeartbeats 4000000 in
theorem writes_walk (Al : Option Addr) (cl n : Nat) (G : Nat → PutD) (J O : Nat → Nat) (w : World)
    (hG : PutsAt w Al n G) (hJ : ∀ i, i < n → J i < 6 ∧ latchkeykit_Pick.f (G i).kind 6 = some (J i : Int)) (hO : ∀ i, i < n → O i < 2 ∧ latchkeykit_Pick.f (G i).on 2 = some (O i : Int)) (hn : n ≤ 9223372036854775806) :
    Calls Try.prog 4 #[.slice Al n cl] w fun e w' => e = .returned (.bool true) ∧ Below w.heap.size w w' := by
  have HG := Aside0.mk hG
  have HJ := Aside0.mk hJ
  have HO := Aside0.mk hO
  have HN := Aside0.mk hn
  clear hG hJ hO hn
  go_enter Try.func4, Try.ntmps4
  by_cases hbig : 1073741824 < tot G n
  · have HTB : Aside0 (decide (1073741824 < tot G n) = true) := ⟨decide_eq_true hbig⟩
    go_wp2_with (go_at_call 16; go_loud (refine (tooMuch_calls w Al n cl G HG.out HN.out).mono ?_); rintro e1 w1 ⟨rfl, ⟨m1, rfl⟩⟩; rw [HTB.out])
    go_ret
    exact ⟨rfl, dn_below w m1⟩
  · have HTB : Aside0 (decide (1073741824 < tot G n) = false) := ⟨decide_eq_false hbig⟩
    have HTOT : Aside0 (tot G n ≤ 1073741824) := ⟨by omega⟩
    clear hbig
    go_wp2_with (go_at_call 16; go_loud (refine (tooMuch_calls w Al n cl G HG.out HN.out).mono ?_); rintro e1 w1 ⟨rfl, ⟨m1, rfl⟩⟩; rw [HTB.out])
    have hst := WS.start (w := w) (W := w.drewN m1) (dn_below w m1)
    have hst2 : OutRel w w.heap.size (w.heap.size + 1) G J O 0 (((w.drewN m1).alloc (.cells #[.slice none 0 0, .slice none 0 0] 37)).alloc (.cells #[.slice none 0 0, .slice none 0 0] 38)) := ⟨_, _, hst.congr (fun i hi => rfl)⟩
    have HST := Aside0.mk hst2
    clear hst hst2
    go_loopg [6] (n + 1) (fun kq v6 w' => ∃ j : Nat, v6 = .int .i64 (j : Int) ∧ Aside0 (kq + j = n + 1) ∧ Aside0 (j ≤ n) ∧ Aside0 (OutRel w w.heap.size (w.heap.size + 1) G J O j w'))
    case atStart => exact ⟨0, rfl, ⟨rfl⟩, ⟨Nat.zero_le _⟩, HST⟩
    case round =>
      clear HST
      obtain ⟨j, rfl, HK, HJN, HR⟩ := hrel
      cases gk with
      | zero => exact absurd HK.out (by have := HJN.out; omega)
      | succ k1 =>
        by_cases hlt : j < n
        · obtain ⟨ad, rfl, q, ok⟩ := HG.out j hlt
          obtain ⟨P, v, hws⟩ := HR.out
          have q' := q.below hws.low
          have c0 := q'.c0
          have c1 := q'.c1
          have c2 := q'.c2
          have c3 := q'.c3
          have c4 := q'.c4
          have c5 := q'.c5
          have c6 := q'.c6
          have Q := Aside0.mk q
          have OK := Aside0.mk ok
          have WS0 := Aside0.mk hws
          have hji : (0 : Int) ≤ (j : Int) := by omega
          have hjm : (j : Int) < (n : Int) := by omega
          have HW3 := Aside0.mk (wrap_next j n HN.out hlt)
          have HCL := Aside0.mk (catO_len G J O (O j) j)
          have HTJ : Aside0 (tot G j + (16 + (G j).t.size + (G j).raw.length) ≤ 1073741824) := ⟨by have h1 := tot_mono G (j + 1) (n - (j + 1)); have e : j + 1 + (n - (j + 1)) = n := by omega
                                                                                                   rw [e] at h1; have h2 := HTOT.out; exact Nat.le_trans h1 h2⟩
          obtain ⟨hO2, hOp⟩ := HO.out j hlt
          have HOP := Aside0.mk hOp
          clear q q' ok hws hOp
          rcases (by omega : O j = 0 ∨ O j = 1) with hOj | hOj
          · have HOJ := Aside0.mk hOj
            rw [hOj] at HOP HCL
            clear hOj hO2
            go_wp2_with (first
              | (go_at_call 15; go_loud (refine (latchkeykit_Pick.calls (G j).on 2 0 _ HOP.out).mono ?_); rintro e2 w2 ⟨rfl, ⟨m2, rfl⟩⟩)
              | (go_at_call 17; go_loud (refine (lent_calls _ (G j).A (G j).c (G j).raw (Kd.C_below (Kd.C_below Q.out.raw WS0.out.low) (dn_below _ _)) OK.out.hc OK.out.hl).mono ?_); rintro e3 w3 ⟨g1, cap1, rfl, hg1, l1, b3⟩; have G1 := Aside0.mk hg1; have L1 := Aside0.mk l1; have B3 := Aside0.mk (below_step (dn_below _ _) b3); clear hg1 l1 b3))
            have WS3 := Aside0.mk (WS0.out.below B3.out)
            have GL1 : Aside0 (g1 < w3.heap.size) := ⟨by obtain ⟨_, h, _⟩ := L1.out.blk; exact blk_lt h⟩
            have G1' : Aside0 (wr.heap.size ≤ g1) := ⟨by have h1 := G1.out; exact h1⟩
            (have q_ := (Q.out.below WS3.out.low))
            (have d0 := q_.c0)
            (have d1 := q_.c1)
            (have d2 := q_.c2)
            (have d3 := q_.c3)
            (have d4 := q_.c4)
            (have d5 := q_.c5)
            (have d6 := q_.c6)
            clear q_
            go_region_held3 (fun W => W.cell? (ad.add (j * 7)) = some (.int .i64 (G j).on) ∧ W.cell? { block := (ad.add (j * 7)).block, off := (ad.add (j * 7)).off + 1 } = some (.int .i64 (G j).kind) ∧ W.cell? { block := (ad.add (j * 7)).block, off := (ad.add (j * 7)).off + 2 } = some (.int .u64 (G j).u) ∧ W.cell? { block := (ad.add (j * 7)).block, off := (ad.add (j * 7)).off + 3 } = some (.int .i64 (G j).i) ∧ W.cell? { block := (ad.add (j * 7)).block, off := (ad.add (j * 7)).off + 4 } = some (.float .f32 (G j).r) ∧ W.cell? { block := (ad.add (j * 7)).block, off := (ad.add (j * 7)).off + 5 } = some (.string (G j).t) ∧ W.cell? { block := (ad.add (j * 7)).block, off := (ad.add (j * 7)).off + 6 } = some (.slice (G j).A (G j).raw.length (G j).c)) (first | go_keep | exact ⟨d0, d1, d2, d3, d4, d5, d6⟩ | exact ⟨e0, e1, e2, e3, e4, e5, e6⟩) ((go_at_call 18; go_loud (refine (WA.write_any (uo := v 1) w3.drew w.heap.size (fun k => P 0 k ∨ k = w.heap.size) (catO G J O 0 j) (G j) (some ⟨g1, 0, none⟩) cap1 (J j) (HJ.out j hlt).1 (WS3.out.below (dr_below w3)).a (OK.out.mono' (WS3.out.below (dr_below w3)).low.size) (by have h1 := HCL.out; have h2 := HTJ.out; omega) (Kd.C_below L1.out.raw (dr_below w3)) (HJ.out j hlt).2).mono ?_); rintro e4 w4 ⟨rfl, h1, h2⟩; have L4 := Aside0.mk ((L1.out.below (dr_below w3)).fr h2.2 (fun hk => hk.elim (fun h => by have h1 := (WS0.out.ng 0 g1 (by omega) h).2.2.2; have h2 := G1'.out; omega) (fun e => by have h1 := blk_lt WS0.out.hw; have h2 := G1'.out; omega))); (obtain ⟨P4, v4, gr4, ws4⟩ := WS.a_next (WS3.out.below (dr_below w3)) h1 h2); have GR4 := Aside0.mk gr4; have WS4 := Aside0.mk ws4; (have q_ := (Q.out.below ws4.low)); (have e0 := q_.c0); (have e1 := q_.c1); (have e2 := q_.c2); (have e3 := q_.c3); (have e4 := q_.c4); (have e5 := q_.c5); (have e6 := q_.c6); clear q_; clear h1 h2 gr4 ws4))
            clear c0 c1 c2 c3 c4 c5 c6 d0 d1 d2 d3 d4 d5 d6
            have NG1 := Aside0.mk (lent_out WS0.out GR4.out G1'.out (show g1 < w3.drew.heap.size from GL1.out))
            go_wp2_with (first
              | (go_at_call 18; go_loud (refine (write_nil w4 (G j) (some ⟨g1, 0, none⟩) (G j).raw.length cap1 (J j) (HJ.out j hlt).1 OK.out.hu (HJ.out j hlt).2).mono ?_); rintro e5 w5 ⟨rfl, b5⟩; have WS5 := Aside0.mk (WS4.out.below b5); have L5 := Aside0.mk (L4.out.below b5); (have q_ := (Q.out.below WS5.out.low)); (have f0 := q_.c0); (have f1 := q_.c1); (have f2 := q_.c2); (have f3 := q_.c3); (have f4 := q_.c4); (have f5 := q_.c5); (have f6 := q_.c6); clear q_; clear b5)
              | (go_at_call 19; go_loud (refine (kept_calls w5 g1 cap1 (G j).A (G j).c (G j).raw L5.out (Kd.C_below Q.out.raw WS5.out.low) OK.out.hc OK.out.hl).mono ?_); rintro e6 w6 ⟨rfl, b6⟩; have WS6 := Aside0.mk (WS5.out.below b6); have L6 := Aside0.mk (L5.out.below b6); clear b6)
              | (go_at_call 20; go_loud (refine (over_calls w6 g1 cap1 (G j).raw L6.out).mono ?_); rintro e7 w7 ⟨rfl, f7_⟩; have WS7 := Aside0.mk (WS6.out.fr f7_ (fun k hk => by rw [hk]; exact NG1.out)); (have q_ := (Q.out.below WS7.out.low)); (have m0 := q_.c0); (have m1 := q_.c1); (have m2 := q_.c2); (have m3 := q_.c3); (have m4 := q_.c4); (have m5 := q_.c5); (have m6 := q_.c6); clear q_; clear f7_)
              | (go_at_call 21; go_loud (refine (bytes_any w7 (G j) (J j) (HJ.out j hlt).1 (OK.out.mono' WS7.out.low.size) (Kd.C_below Q.out.raw WS7.out.low) (HJ.out j hlt).2).mono ?_); rintro e8 w8 ⟨A8, c8, rfl, hc8, x8, b8, hb8⟩; have WS8 := Aside0.mk (WS7.out.below b8); have X8 := Aside0.mk x8; have HC8 := Aside0.mk hc8; have HB8 := Aside0.mk hb8; clear hc8 x8 b8 hb8))
            obtain ⟨Bl, hBl⟩ : ∃ Bl, Bl = enc (G j) (J j) := ⟨_, rfl⟩
            have HBL : Aside0 (Bl.length ≤ 16 + (G j).t.size + (G j).raw.length) := ⟨by rw [hBl]; exact enc_len _ _⟩
            have HBI := Aside0.mk (PureBack.enc_in _ (G j) OK.out (J j))
            have HBE := Aside0.mk hBl
            rw [← hBl] at WS8 X8 HC8 HB8 HBI ⊢
            clear hBl
            have hin := inrel_start (i := 2) WS8.out X8.out (fun ad ha hl => (HB8.out ad ha hl).elim (fun h => .inl (OK.out.hA ad h.1 h.2)) .inr) WS7.out
            have HIN := Aside0.mk hin
            clear hin
            go_loopg [10] (Bl.length + 1) (fun kq v10 w' => ∃ k : Nat, v10 = .int .i64 (k : Int) ∧ Aside0 (kq + k = Bl.length + 1) ∧ Aside0 (k ≤ Bl.length) ∧ Aside0 (InRel w w.heap.size (w.heap.size + 1) 2 (upd (fun i => catO G J O (i % 2) j) 0 (catO G J O 0 j ++ Bl)) (catO G J O 0 j) Bl A8 k w'))
            case atStart => exact ⟨0, rfl, ⟨rfl⟩, ⟨Nat.zero_le _⟩, HIN⟩
            case round =>
              clear HIN
              obtain ⟨k, rfl, HKk, HKL, HI⟩ := hrel
              cases gk with
              | zero => exact absurd HKk.out (by have := HKL.out; omega)
              | succ k2 =>
                by_cases hkl : k < Bl.length
                · obtain ⟨P5, v5, ws5, x5, hb5⟩ := HI.out
                  have X5 := Aside0.mk x5
                  have WS5' := Aside0.mk ws5
                  have HB5 := Aside0.mk hb5
                  obtain ⟨a8, ha8, hx8⟩ := Kd.at_int x5 (k : Int) (by omega) (by omega)
                  subst ha8
                  have e0 : wr.cell? (a8.add k) = some (.int .u8 (rd Bl (k : Int))) := by simpa using hx8
                  obtain ⟨⟨e1, e2⟩, _⟩ := blk_two ws5.hb
                  have hki : (0 : Int) ≤ (k : Int) := by omega
                  have hkm : (k : Int) < (Bl.length : Int) := by omega
                  have HW4 := Aside0.mk (wrap_next k Bl.length (by have h1 := HBL.out; have h2 := HTJ.out; omega) hkl)
                  obtain ⟨y, hy⟩ : ∃ y, y = rd Bl (k : Int) := ⟨_, rfl⟩
                  rw [← hy] at e0
                  have HY := Aside0.mk hy
                  have fb : ∀ o, (wr.alloc o).drew.cell? ⟨w.heap.size + 1, 0, none⟩ = some (v5 2) ∧ (wr.alloc o).drew.frozen? ⟨w.heap.size + 1, 0, none⟩ = false := fun o => (blk_two ((ws5.below (below_step (below_alloc (Below.refl _ _) o) (dr_below _))).hb)).1
                  have fc : ∀ o, (wr.alloc o).drew.cell? (a8.add k) = some (.int .u8 y) := fun o => ((below_step (below_alloc (Below.refl _ _) o) (dr_below _)).cell (World.block_lt_of_cell? _ _ e0)).trans e0
                  clear ws5 x5 hb5 hx8 hy
                  go_wp2
                  go_region_law (((refine Kd.R_append_step U8 (w0 := w) (W := wr.drew) 0 (by rfl) (.tmp 70) (.tmp 75) 22 5 (.int .u8 0) 1 (by rfl) Try.underlying22 info5 (by rfl) (by decide) (by omega) (v5 2) (catO G J O 0 j ++ Bl.take k) y [.int .u8 y] (fun b => P5 2 b ∨ wr.heap.size ≤ b) (fun _ => False) (by rfl) (by rfl) rfl (fun _ hk => hk.elim) (fun b hb => .inr hb) ?aO ?aB (Nat.zero_le _) ?aL ?_); (case aO => exact want_row WS5'.out); (case aB => exact want_low WS5'.out); (case aL => have h1 := HBL.out; have h2 := HTJ.out; have h3 := HCL.out; simp only [List.length_append, List.length_take]; omega); intro v6 w6 ho hb hg hat; (obtain ⟨X, hX⟩ : ∃ X, X = catO G J O 0 j ++ Bl.take k ++ [y] := ⟨_, rfl⟩); rw [← hX] at ho; have HX := Aside0.mk hX; clear hX; (obtain ⟨A6, c6, rfl⟩ := Kd.R_slice ho); (obtain ⟨h1, h2⟩ := want_cell WS5'.out hg); have h0 := want_far WS5'.out hg (show wr.cell? (a8.add k) = some (.int .u8 y) from e0) (by rw [block_addO]; exact (HB5.out a8 rfl (by omega)).2.2 2 (by omega)); have HO6 := Aside0.mk ho; have HG6 := Aside0.mk hg; clear ho hb hg hat))
                  all_goals (go_wp2; go_roundg k2; (case measure => omega); (case rel => exact ⟨k + 1, by first | rfl | (rw [← HW4.out]), ⟨by have := HKk.out; omega⟩, ⟨by omega⟩, ⟨inrel_next2 (WS5'.out.below (dr_below wr)) (Kd.C_below X5.out (dr_below wr)) HB5.out hkl HY.out HX.out HO6.out HG6.out⟩⟩))
                · have hkn : k = Bl.length := by have := HKL.out; omega
                  obtain ⟨P5, v5, ws5, x5, hb5⟩ := HI.out
                  have ws6 := ws5.congr (out_next HOJ.out HBE.out hkn)
                  have hr2 := ws6.r 2 (by omega)
                  obtain ⟨Lw, hLw⟩ : ∃ Lw, Lw = catO G J O 0 (j + 1) := ⟨_, rfl⟩
                  have hr2' : RowB wr (P5 2) (v5 2) Lw := by rw [hLw]; exact hr2
                  obtain ⟨A2, c2, hv2⟩ := Kd.R_slice hr2'
                  obtain ⟨⟨e1, e2⟩, _⟩ := blk_two ws6.hb
                  rw [hv2] at e1 hr2'
                  have WS6' := Aside0.mk ws6
                  have R2 := Aside0.mk (Kd.R_reads' hr2')
                  have HLw := Aside0.mk hLw
                  have HLL : Aside0 (Lw.length ≤ 1073741824) := ⟨by rw [hLw]; have h1 := catO_len G J O 0 (j + 1); have h2 := tot_mono G (j + 1) (n - (j + 1)); have e : j + 1 + (n - (j + 1)) = n := (by omega); rw [e] at h2; have h3 := HTOT.out; omega⟩
                  have HSM := Aside0.mk (PureForms.same_self Lw (by have := HLL.out; omega) (k := Lw.length + 1) (by omega))
                  have hd2 : decide ((k : Int) < (Bl.length : Int)) = false := decide_eq_false (by omega)
                  clear ws5 x5 hb5 ws6 hr2 hr2' hLw hkn
                  by_cases h4 : Int.tmod (j : Int) 4 = 3
                  · have h4b : decide (Int.tmod (j : Int) 4 = 3) = true := decide_eq_true h4
                    go_wp2
                    go_region_held3 (fun W => W.cell? ⟨w.heap.size + 1, 0, none⟩ = some (.slice A2 Lw.length c2)) (first | go_keep | exact e1 | exact e9') (first
                      | (go_at_call 23; go_loud (refine (WA.Writer_Bytes (uo := v5 1) wr.drew w.heap.size (fun k => P5 0 k ∨ k = w.heap.size) Lw (by rw [HLw.out]; exact (WS6'.out.below (dr_below wr)).a) (by have := HLL.out; omega)).mono ?_); rintro e9 w9 ⟨v9, rfl, q9, b9⟩; (obtain ⟨A9, c9, rfl⟩ := Kd.R_slice q9); have R9 := Aside0.mk (Kd.R_reads' q9).2; have B9 : Aside0 (Below wr.heap.size wr w9) := ⟨below_step (dr_below wr) b9⟩; (have e9' := (B9.out.cell (World.block_lt_of_cell? wr _ e1)).trans e1); clear q9 b9)
                      | (go_at_call 22; go_loud (with_reducible refine (latchkeyref00_SameBytes.calls (Lw.length + 1) A9 c9 Lw A2 c2 Lw true w9 R9.out.2 R9.out.1 (Kd.C_below R2.out.2.2 B9.out) R2.out.2.1 HSM.out).mono ?_); rintro e10 w10 ⟨rfl, ⟨m10, rfl⟩⟩))
                    all_goals (go_wp2; go_roundg k1; (case measure => omega); (case rel => exact ⟨j + 1, by first | rfl | (rw [← HW3.out]), ⟨by have := HK.out; omega⟩, ⟨by omega⟩, ⟨⟨P5, v5, WS6'.out.below (below_step B9.out (dn_below _ _))⟩⟩⟩))
                  · have h4b : decide (Int.tmod (j : Int) 4 = 3) = false := decide_eq_false h4
                    go_wp2
                    go_quiet (fail)
                    all_goals (go_wp2; go_roundg k1; (case measure => omega); (case rel => exact ⟨j + 1, by first | rfl | (rw [← HW3.out]), ⟨by have := HK.out; omega⟩, ⟨by omega⟩, ⟨⟨P5, v5, WS6'.out.below (by first | exact dr_below _ | exact dn_below _ _ | exact Below.refl _ _)⟩⟩⟩))
          · have HOJ := Aside0.mk hOj
            rw [hOj] at HOP HCL
            clear hOj hO2
            go_wp2_with (first
              | (go_at_call 15; go_loud (refine (latchkeykit_Pick.calls (G j).on 2 1 _ HOP.out).mono ?_); rintro e2 w2 ⟨rfl, ⟨m2, rfl⟩⟩)
              | (go_at_call 17; go_loud (refine (lent_calls _ (G j).A (G j).c (G j).raw (Kd.C_below (Kd.C_below Q.out.raw WS0.out.low) (dn_below _ _)) OK.out.hc OK.out.hl).mono ?_); rintro e3 w3 ⟨g1, cap1, rfl, hg1, l1, b3⟩; have G1 := Aside0.mk hg1; have L1 := Aside0.mk l1; have B3 := Aside0.mk (below_step (dn_below _ _) b3); clear hg1 l1 b3))
            have WS3 := Aside0.mk (WS0.out.below B3.out)
            have GL1 : Aside0 (g1 < w3.heap.size) := ⟨by obtain ⟨_, h, _⟩ := L1.out.blk; exact blk_lt h⟩
            have G1' : Aside0 (wr.heap.size ≤ g1) := ⟨by have h1 := G1.out; exact h1⟩
            (have q_ := (Q.out.below WS3.out.low))
            (have d0 := q_.c0)
            (have d1 := q_.c1)
            (have d2 := q_.c2)
            (have d3 := q_.c3)
            (have d4 := q_.c4)
            (have d5 := q_.c5)
            (have d6 := q_.c6)
            clear q_
            go_region_held3 (fun W => W.cell? (ad.add (j * 7)) = some (.int .i64 (G j).on) ∧ W.cell? { block := (ad.add (j * 7)).block, off := (ad.add (j * 7)).off + 1 } = some (.int .i64 (G j).kind) ∧ W.cell? { block := (ad.add (j * 7)).block, off := (ad.add (j * 7)).off + 2 } = some (.int .u64 (G j).u) ∧ W.cell? { block := (ad.add (j * 7)).block, off := (ad.add (j * 7)).off + 3 } = some (.int .i64 (G j).i) ∧ W.cell? { block := (ad.add (j * 7)).block, off := (ad.add (j * 7)).off + 4 } = some (.float .f32 (G j).r) ∧ W.cell? { block := (ad.add (j * 7)).block, off := (ad.add (j * 7)).off + 5 } = some (.string (G j).t) ∧ W.cell? { block := (ad.add (j * 7)).block, off := (ad.add (j * 7)).off + 6 } = some (.slice (G j).A (G j).raw.length (G j).c)) (first | go_keep | exact ⟨d0, d1, d2, d3, d4, d5, d6⟩ | exact ⟨e0, e1, e2, e3, e4, e5, e6⟩) ((go_at_call 18; go_loud (refine (WB.write_any (uo := v 0) w3.drew w.heap.size (fun k => P 1 k ∨ k = w.heap.size) (catO G J O 1 j) (G j) (some ⟨g1, 0, none⟩) cap1 (J j) (HJ.out j hlt).1 (WS3.out.below (dr_below w3)).b (OK.out.mono' (WS3.out.below (dr_below w3)).low.size) (by have h1 := HCL.out; have h2 := HTJ.out; omega) (Kd.C_below L1.out.raw (dr_below w3)) (HJ.out j hlt).2).mono ?_); rintro e4 w4 ⟨rfl, h1, h2⟩; have L4 := Aside0.mk ((L1.out.below (dr_below w3)).fr h2.2 (fun hk => hk.elim (fun h => by have h1 := (WS0.out.ng 1 g1 (by omega) h).2.2.2; have h2 := G1'.out; omega) (fun e => by have h1 := blk_lt WS0.out.hw; have h2 := G1'.out; omega))); (obtain ⟨P4, v4, gr4, ws4⟩ := WS.b_next (WS3.out.below (dr_below w3)) h1 h2); have GR4 := Aside0.mk gr4; have WS4 := Aside0.mk ws4; (have q_ := (Q.out.below ws4.low)); (have e0 := q_.c0); (have e1 := q_.c1); (have e2 := q_.c2); (have e3 := q_.c3); (have e4 := q_.c4); (have e5 := q_.c5); (have e6 := q_.c6); clear q_; clear h1 h2 gr4 ws4))
            clear c0 c1 c2 c3 c4 c5 c6 d0 d1 d2 d3 d4 d5 d6
            have NG1 := Aside0.mk (lent_out WS0.out GR4.out G1'.out (show g1 < w3.drew.heap.size from GL1.out))
            go_wp2_with (first
              | (go_at_call 18; go_loud (refine (write_nil w4 (G j) (some ⟨g1, 0, none⟩) (G j).raw.length cap1 (J j) (HJ.out j hlt).1 OK.out.hu (HJ.out j hlt).2).mono ?_); rintro e5 w5 ⟨rfl, b5⟩; have WS5 := Aside0.mk (WS4.out.below b5); have L5 := Aside0.mk (L4.out.below b5); (have q_ := (Q.out.below WS5.out.low)); (have f0 := q_.c0); (have f1 := q_.c1); (have f2 := q_.c2); (have f3 := q_.c3); (have f4 := q_.c4); (have f5 := q_.c5); (have f6 := q_.c6); clear q_; clear b5)
              | (go_at_call 19; go_loud (refine (kept_calls w5 g1 cap1 (G j).A (G j).c (G j).raw L5.out (Kd.C_below Q.out.raw WS5.out.low) OK.out.hc OK.out.hl).mono ?_); rintro e6 w6 ⟨rfl, b6⟩; have WS6 := Aside0.mk (WS5.out.below b6); have L6 := Aside0.mk (L5.out.below b6); clear b6)
              | (go_at_call 20; go_loud (refine (over_calls w6 g1 cap1 (G j).raw L6.out).mono ?_); rintro e7 w7 ⟨rfl, f7_⟩; have WS7 := Aside0.mk (WS6.out.fr f7_ (fun k hk => by rw [hk]; exact NG1.out)); (have q_ := (Q.out.below WS7.out.low)); (have m0 := q_.c0); (have m1 := q_.c1); (have m2 := q_.c2); (have m3 := q_.c3); (have m4 := q_.c4); (have m5 := q_.c5); (have m6 := q_.c6); clear q_; clear f7_)
              | (go_at_call 21; go_loud (refine (bytes_any w7 (G j) (J j) (HJ.out j hlt).1 (OK.out.mono' WS7.out.low.size) (Kd.C_below Q.out.raw WS7.out.low) (HJ.out j hlt).2).mono ?_); rintro e8 w8 ⟨A8, c8, rfl, hc8, x8, b8, hb8⟩; have WS8 := Aside0.mk (WS7.out.below b8); have X8 := Aside0.mk x8; have HC8 := Aside0.mk hc8; have HB8 := Aside0.mk hb8; clear hc8 x8 b8 hb8))
            obtain ⟨Bl, hBl⟩ : ∃ Bl, Bl = enc (G j) (J j) := ⟨_, rfl⟩
            have HBL : Aside0 (Bl.length ≤ 16 + (G j).t.size + (G j).raw.length) := ⟨by rw [hBl]; exact enc_len _ _⟩
            have HBI := Aside0.mk (PureBack.enc_in _ (G j) OK.out (J j))
            have HBE := Aside0.mk hBl
            rw [← hBl] at WS8 X8 HC8 HB8 HBI ⊢
            clear hBl
            have hin := inrel_start (i := 3) WS8.out X8.out (fun ad ha hl => (HB8.out ad ha hl).elim (fun h => .inl (OK.out.hA ad h.1 h.2)) .inr) WS7.out
            have HIN := Aside0.mk hin
            clear hin
            go_loopg [10] (Bl.length + 1) (fun kq v10 w' => ∃ k : Nat, v10 = .int .i64 (k : Int) ∧ Aside0 (kq + k = Bl.length + 1) ∧ Aside0 (k ≤ Bl.length) ∧ Aside0 (InRel w w.heap.size (w.heap.size + 1) 3 (upd (fun i => catO G J O (i % 2) j) 1 (catO G J O 1 j ++ Bl)) (catO G J O 1 j) Bl A8 k w'))
            case atStart => exact ⟨0, rfl, ⟨rfl⟩, ⟨Nat.zero_le _⟩, HIN⟩
            case round =>
              clear HIN
              obtain ⟨k, rfl, HKk, HKL, HI⟩ := hrel
              cases gk with
              | zero => exact absurd HKk.out (by have := HKL.out; omega)
              | succ k2 =>
                by_cases hkl : k < Bl.length
                · obtain ⟨P5, v5, ws5, x5, hb5⟩ := HI.out
                  have X5 := Aside0.mk x5
                  have WS5' := Aside0.mk ws5
                  have HB5 := Aside0.mk hb5
                  obtain ⟨a8, ha8, hx8⟩ := Kd.at_int x5 (k : Int) (by omega) (by omega)
                  subst ha8
                  have e0 : wr.cell? (a8.add k) = some (.int .u8 (rd Bl (k : Int))) := by simpa using hx8
                  obtain ⟨_, e1, e2⟩ := blk_two ws5.hb
                  have hki : (0 : Int) ≤ (k : Int) := by omega
                  have hkm : (k : Int) < (Bl.length : Int) := by omega
                  have HW4 := Aside0.mk (wrap_next k Bl.length (by have h1 := HBL.out; have h2 := HTJ.out; omega) hkl)
                  obtain ⟨y, hy⟩ : ∃ y, y = rd Bl (k : Int) := ⟨_, rfl⟩
                  rw [← hy] at e0
                  have HY := Aside0.mk hy
                  have fb : ∀ o, (wr.alloc o).drew.cell? ⟨w.heap.size + 1, 1, none⟩ = some (v5 3) ∧ (wr.alloc o).drew.frozen? ⟨w.heap.size + 1, 1, none⟩ = false := fun o => (blk_two ((ws5.below (below_step (below_alloc (Below.refl _ _) o) (dr_below _))).hb)).2
                  have fc : ∀ o, (wr.alloc o).drew.cell? (a8.add k) = some (.int .u8 y) := fun o => ((below_step (below_alloc (Below.refl _ _) o) (dr_below _)).cell (World.block_lt_of_cell? _ _ e0)).trans e0
                  clear ws5 x5 hb5 hx8 hy
                  go_wp2
                  go_region_law (((refine Kd.R_append_step U8 (w0 := w) (W := wr.drew) 0 (by rfl) (.tmp 70) (.tmp 75) 22 5 (.int .u8 0) 1 (by rfl) Try.underlying22 info5 (by rfl) (by decide) (by omega) (v5 3) (catO G J O 1 j ++ Bl.take k) y [.int .u8 y] (fun b => P5 3 b ∨ wr.heap.size ≤ b) (fun _ => False) (by rfl) (by rfl) rfl (fun _ hk => hk.elim) (fun b hb => .inr hb) ?aO ?aB (Nat.zero_le _) ?aL ?_); (case aO => exact want_row3 WS5'.out); (case aB => exact want_low WS5'.out); (case aL => have h1 := HBL.out; have h2 := HTJ.out; have h3 := HCL.out; simp only [List.length_append, List.length_take]; omega); intro v6 w6 ho hb hg hat; (obtain ⟨X, hX⟩ : ∃ X, X = catO G J O 1 j ++ Bl.take k ++ [y] := ⟨_, rfl⟩); rw [← hX] at ho; have HX := Aside0.mk hX; clear hX; (obtain ⟨A6, c6, rfl⟩ := Kd.R_slice ho); (obtain ⟨h1, h2⟩ := want_cell3 WS5'.out hg); have h0 := want_far3 WS5'.out hg (show wr.cell? (a8.add k) = some (.int .u8 y) from e0) (by rw [block_addO]; exact (HB5.out a8 rfl (by omega)).2.2 3 (by omega)); have HO6 := Aside0.mk ho; have HG6 := Aside0.mk hg; clear ho hb hg hat))
                  all_goals (go_wp2; go_roundg k2; (case measure => omega); (case rel => exact ⟨k + 1, by first | rfl | (rw [← HW4.out]), ⟨by have := HKk.out; omega⟩, ⟨by omega⟩, ⟨inrel_next3 (WS5'.out.below (dr_below wr)) (Kd.C_below X5.out (dr_below wr)) HB5.out hkl HY.out HX.out HO6.out HG6.out⟩⟩))
                · have hkn : k = Bl.length := by have := HKL.out; omega
                  obtain ⟨P5, v5, ws5, x5, hb5⟩ := HI.out
                  have ws6 := ws5.congr (out_next1 HOJ.out HBE.out hkn)
                  have hr2 := ws6.r 3 (by omega)
                  obtain ⟨Lw, hLw⟩ : ∃ Lw, Lw = catO G J O 1 (j + 1) := ⟨_, rfl⟩
                  have hr2' : RowB wr (P5 3) (v5 3) Lw := by rw [hLw]; exact hr2
                  obtain ⟨A2, c2, hv2⟩ := Kd.R_slice hr2'
                  obtain ⟨_, e1, e2⟩ := blk_two ws6.hb
                  rw [hv2] at e1 hr2'
                  have WS6' := Aside0.mk ws6
                  have R2 := Aside0.mk (Kd.R_reads' hr2')
                  have HLw := Aside0.mk hLw
                  have HLL : Aside0 (Lw.length ≤ 1073741824) := ⟨by rw [hLw]; have h1 := catO_len G J O 1 (j + 1); have h2 := tot_mono G (j + 1) (n - (j + 1)); have e : j + 1 + (n - (j + 1)) = n := (by omega); rw [e] at h2; have h3 := HTOT.out; omega⟩
                  have HSM := Aside0.mk (PureForms.same_self Lw (by have := HLL.out; omega) (k := Lw.length + 1) (by omega))
                  have hd2 : decide ((k : Int) < (Bl.length : Int)) = false := decide_eq_false (by omega)
                  clear ws5 x5 hb5 ws6 hr2 hr2' hLw hkn
                  by_cases h4 : Int.tmod (j : Int) 4 = 3
                  · have h4b : decide (Int.tmod (j : Int) 4 = 3) = true := decide_eq_true h4
                    go_wp2
                    go_region_held3 (fun W => W.cell? ⟨w.heap.size + 1, 1, none⟩ = some (.slice A2 Lw.length c2)) (first | go_keep | exact e1 | exact e9') (first
                      | (go_at_call 23; go_loud (refine (WB.Writer_Bytes (uo := v5 0) wr.drew w.heap.size (fun k => P5 1 k ∨ k = w.heap.size) Lw (by rw [HLw.out]; exact (WS6'.out.below (dr_below wr)).b) (by have := HLL.out; omega)).mono ?_); rintro e9 w9 ⟨v9, rfl, q9, b9⟩; (obtain ⟨A9, c9, rfl⟩ := Kd.R_slice q9); have R9 := Aside0.mk (Kd.R_reads' q9).2; have B9 : Aside0 (Below wr.heap.size wr w9) := ⟨below_step (dr_below wr) b9⟩; (have e9' := (B9.out.cell (World.block_lt_of_cell? wr _ e1)).trans e1); clear q9 b9)
                      | (go_at_call 22; go_loud (with_reducible refine (latchkeyref00_SameBytes.calls (Lw.length + 1) A9 c9 Lw A2 c2 Lw true w9 R9.out.2 R9.out.1 (Kd.C_below R2.out.2.2 B9.out) R2.out.2.1 HSM.out).mono ?_); rintro e10 w10 ⟨rfl, ⟨m10, rfl⟩⟩))
                    all_goals (go_wp2; go_roundg k1; (case measure => omega); (case rel => exact ⟨j + 1, by first | rfl | (rw [← HW3.out]), ⟨by have := HK.out; omega⟩, ⟨by omega⟩, ⟨⟨P5, v5, WS6'.out.below (below_step B9.out (dn_below _ _))⟩⟩⟩))
                  · have h4b : decide (Int.tmod (j : Int) 4 = 3) = false := decide_eq_false h4
                    go_wp2
                    go_quiet (fail)
                    all_goals (go_wp2; go_roundg k1; (case measure => omega); (case rel => exact ⟨j + 1, by first | rfl | (rw [← HW3.out]), ⟨by have := HK.out; omega⟩, ⟨by omega⟩, ⟨⟨P5, v5, WS6'.out.below (by first | exact dr_below _ | exact dn_below _ _ | exact Below.refl _ _)⟩⟩⟩))
        · have hjn : n = j := by have := HJN.out; omega
          subst hjn
          obtain ⟨P, v, ws⟩ := HR.out
          obtain ⟨L0, hL0⟩ : ∃ L0, L0 = catO G J O 0 n := ⟨_, rfl⟩
          obtain ⟨L1, hL1⟩ : ∃ L1, L1 = catO G J O 1 n := ⟨_, rfl⟩
          have r0 : RowB wr (P 2) (v 2) L0 := by rw [hL0]; exact ws.r 2 (by omega)
          have r1 : RowB wr (P 3) (v 3) L1 := by rw [hL1]; exact ws.r 3 (by omega)
          obtain ⟨A2, c2, hv2⟩ := Kd.R_slice r0
          obtain ⟨A3, c3, hv3⟩ := Kd.R_slice r1
          obtain ⟨⟨e1, _⟩, e2, _⟩ := blk_two ws.hb
          rw [hv2] at e1 r0
          rw [hv3] at e2 r1
          have WSn := Aside0.mk ws
          have R0 := Aside0.mk (Kd.R_reads' r0)
          have R1 := Aside0.mk (Kd.R_reads' r1)
          have HL0 := Aside0.mk hL0
          have HL1 := Aside0.mk hL1
          have HB0 : Aside0 (L0.length ≤ 1073741824) := ⟨by rw [hL0]; exact Nat.le_trans (catO_len G J O 0 n) HTOT.out⟩
          have HB1 : Aside0 (L1.length ≤ 1073741824) := ⟨by rw [hL1]; exact Nat.le_trans (catO_len G J O 1 n) HTOT.out⟩
          have S0 := Aside0.mk (PureForms.same_self L0 (by have := HB0.out; omega) (k := L0.length + 1) (by omega))
          have S1 := Aside0.mk (PureForms.same_self L1 (by have := HB1.out; omega) (k := L1.length + 1) (by omega))
          have hd : decide ((n : Int) < (n : Int)) = false := decide_eq_false (by omega)
          clear ws r0 r1 hL0 hL1 HR HK HJN hlt
          go_wp2
          go_region_held3 (fun W => W.cell? ⟨w.heap.size + 1, 0, none⟩ = some (.slice A2 L0.length c2) ∧ W.cell? ⟨w.heap.size + 1, 1, none⟩ = some (.slice A3 L1.length c3)) (first | go_keep | exact ⟨e1, e2⟩ | exact ⟨f1, f2⟩ | exact ⟨g1, g2⟩) (first
            | (go_at_call 23; (with_reducible refine (WA.Writer_Bytes (uo := v 1) wr.drew w.heap.size (fun k => P 0 k ∨ k = w.heap.size) L0 (by rw [HL0.out]; exact (WSn.out.below (dr_below wr)).a) (by have := HB0.out; omega)).mono ?_); rintro e9 w9 ⟨v9, rfl, q9, b9⟩; (obtain ⟨A9, c9, rfl⟩ := Kd.R_slice q9); have R9 := Aside0.mk (Kd.R_reads' q9).2; have B9 : Aside0 (Below wr.heap.size wr w9) := ⟨below_step (dr_below wr) b9⟩; (have f1 := (B9.out.cell (World.block_lt_of_cell? wr _ e1)).trans e1); (have f2 := (B9.out.cell (World.block_lt_of_cell? wr _ e2)).trans e2); clear q9 b9)
            | (go_at_call 22; (with_reducible refine (latchkeyref00_SameBytes.calls (L0.length + 1) A9 c9 L0 A2 c2 L0 true w9 R9.out.2 R9.out.1 (Kd.C_below R0.out.2.2 B9.out) R0.out.2.1 S0.out).mono ?_); rintro e10 w10 ⟨rfl, ⟨m10, rfl⟩⟩)
            | (go_at_call 23; (with_reducible refine (WB.Writer_Bytes (uo := v 0) (w9.drewN m10) w.heap.size (fun k => P 1 k ∨ k = w.heap.size) L1 (by rw [HL1.out]; exact (WSn.out.below (below_step B9.out (dn_below _ _))).b) (by have := HB1.out; omega)).mono ?_); rintro e11 w11 ⟨v11, rfl, q11, b11⟩; (obtain ⟨A11, c11, rfl⟩ := Kd.R_slice q11); have R11 := Aside0.mk (Kd.R_reads' q11).2; have B11 : Aside0 (Below wr.heap.size wr w11) := ⟨below_step (below_step B9.out (dn_below _ _)) b11⟩; (have g1 := (B11.out.cell (World.block_lt_of_cell? wr _ e1)).trans e1); (have g2 := (B11.out.cell (World.block_lt_of_cell? wr _ e2)).trans e2); clear q11 b11)
            | (go_at_call 22; (with_reducible refine (latchkeyref00_SameBytes.calls (L1.length + 1) A11 c11 L1 A3 c3 L1 true w11 R11.out.2 R11.out.1 (Kd.C_below R1.out.2.2 B11.out) R1.out.2.1 S1.out).mono ?_); rintro e12 w12 ⟨rfl, ⟨m12, rfl⟩⟩)
            | (go_at_call 23; (with_reducible refine (NilW_Bytes _).mono ?_); rintro e13 w13 ⟨rfl, rfl⟩)
            | (go_at_call 12; (with_reducible refine (awake_calls (w11.drewN m12)).mono ?_); rintro e14 w14 ⟨rfl, b14⟩; have B14 : Aside0 (Below wr.heap.size wr w14) := ⟨below_step (below_step B11.out (dn_below _ _)) b14⟩; (have g1 := (B14.out.cell (World.block_lt_of_cell? wr _ e1)).trans e1); (have g2 := (B14.out.cell (World.block_lt_of_cell? wr _ e2)).trans e2); clear b14))
          all_goals go_wp2
          all_goals go_ret
          all_goals exact ⟨rfl, below_step WSn.out.low B14.out⟩
end Go.Proofs.Ytkjkmaopifmghaa.Oct
