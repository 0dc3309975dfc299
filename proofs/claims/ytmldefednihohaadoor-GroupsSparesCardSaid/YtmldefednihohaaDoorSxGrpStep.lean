/- A pair (an index and the document's) of the same links; a step on both says true (plain walks); printed by gen_step.py. -/
import Derived.Test.YtmldefednihohaaDoorSxGrpRefCut
namespace Go.Proofs.YtmldefednihohaaDoor.Grp
open Go.RowKit Go.Proofs.YtmldefednihohaaDoorW.PrintWords Go.Proofs.YtmldefednihohaaDoorW.PrintLast Go.Proofs.YtmldefednihohaaDoorW.PrintMore
set_option linter.unusedVariables false
set_option linter.unusedSimpArgs false
set_option maxRecDepth 100000
/-- An index and the document's, both of the links L, in blocks of S, apart. -/
def DX (S : Nat → Prop) (w : World) (px pr : Option Addr) (n : Nat) (L : Nat → Nat → Bool) : Prop :=
  ∃ Sx Sr : Nat → Prop, (∀ k, Sx k → S k) ∧ (∀ k, Sr k → S k) ∧ (∀ k, Sx k → ¬ Sr k) ∧ (∀ k, S k → k < w.heap.size) ∧ PX Sx w (.pointer px) n L ∧ RX Sr w (.pointer pr) n L
section
variable {S T : Nat → Prop} {w w' : World} {px pr : Option Addr} {n : Nat} {L : Nat → Nat → Bool}
theorem DX.kept (h : DX S w px pr n L) (hk : Kept w w' T) (hn : ∀ k, S k → ¬ T k) : DX S w' px pr n L := by
  obtain ⟨Sx, Sr, h1, h2, h3, h4, hp, hr⟩ := h
  exact ⟨Sx, Sr, h1, h2, h3, fun k hk' => Nat.lt_of_lt_of_le (h4 k hk') hk.1, hp.kept hk (fun k hk' => hn k (h1 k hk')), hr.kept hk (fun k hk' => hn k (h2 k hk'))⟩
theorem DX.below (h : DX S w px pr n L) (hb : Below w.heap.size w w') : DX S w' px pr n L := h.kept (Kept.of_below hb (fun _ => False)) (fun _ _ h => h)
theorem DX.mono (h : DX S w px pr n L) (hs : ∀ k, S k → T k) (ht : ∀ k, T k → k < w.heap.size) : DX T w px pr n L := by
  obtain ⟨Sx, Sr, h1, h2, h3, h4, hp, hr⟩ := h
  exact ⟨Sx, Sr, fun k hk => hs k (h1 k hk), fun k hk => hs k (h2 k hk), h3, ht, hp, hr⟩
end
/-- The blocks that a step may leave it in. -/
def Mo (S : Nat → Prop) (w w' : World) : Nat → Prop := fun k => (S k ∨ w.heap.size ≤ k) ∧ k < w'.heap.size
theorem DX.low {S : Nat → Prop} {w w' : World} {px pr : Option Addr} {n : Nat} {L : Nat → Nat → Bool} (h : DX S w px pr n L) (hb : Below w.heap.size w w') : DX (Mo S w w') w' px pr n L :=
  (h.below hb).mono (fun k hk => by
    obtain ⟨Sx, Sr, h1, h2, h3, h4, hp, hr⟩ := h
    exact ⟨.inl hk, Nat.lt_of_lt_of_le (h4 k hk) hb.size⟩) (fun k hk => hk.2)
/-- Two turns, one of each. -/
theorem DX.turn {S Sx Sr : Nat → Prop} {w W5 w6 w7 : World} {px pr : Option Addr} {n : Nat} {L' : Nat → Nat → Bool} (h1 : ∀ k, Sx k → S k) (h2 : ∀ k, Sr k → S k) (h3 : ∀ k, Sx k → ¬ Sr k) (h4 : ∀ k, S k → k < w.heap.size)
    (hb : Below w.heap.size w W5) (hp : PX (More Sx W5) w6 (.pointer px) n L') (hf : Fr W5 w6 Sx) (hr : RX (More Sr w6) w7 (.pointer pr) n L') (hg : Fr w6 w7 Sr) :
    DX (Mo S w w7) w7 px pr n L' ∧ Fr w w7 S := by
  have z1 := hb.size
  have z2 := hf.1.size
  have z3 := hg.1.size
  refine ⟨⟨fun k => More Sx W5 k ∧ k < w6.heap.size, fun k => More Sr w6 k ∧ k < w7.heap.size, ?_, ?_, ?_, fun k hk => hk.2, ?_, hr.bound⟩, ?_⟩
  · rintro k ⟨hk | hk, hlt⟩
    · exact ⟨.inl (h1 k hk), by omega⟩
    · exact ⟨.inr (by omega), by omega⟩
  · rintro k ⟨hk | hk, hlt⟩
    · exact ⟨.inl (h2 k hk), by omega⟩
    · exact ⟨.inr (by omega), by omega⟩
  · rintro k ⟨hk | hk, hlt⟩ ⟨hk' | hk', hlt'⟩
    · exact h3 k hk hk'
    · have := h4 k (h1 k hk); omega
    · have := h4 k (h2 k hk'); omega
    · omega
  · refine hp.bound.kept hg.2 ?_
    rintro k ⟨hk | hk, hlt⟩ hk'
    · exact h3 k hk hk'
    · have := h4 k (h2 k hk'); omega
  · exact ((Fr.of_below hb S).then_ hf (fun k hk => .inl (h1 k hk))).then_ hg (fun k hk => .inl (h2 k hk))
theorem same_go (l : List Int) (hl : l.length ≤ 4096) : ∀ k i, i + k = l.length → GrpRow.latchkeyref00_SameInts.l0 (k + 1) l l (i : Int) = some true := by
  intro k
  induction k with
  | zero =>
    intro i h
    unfold GrpRow.latchkeyref00_SameInts.l0
    rw [if_neg (by omega)]
  | succ k ih =>
    intro i h
    unfold GrpRow.latchkeyref00_SameInts.l0
    rw [if_pos (by omega), if_pos (by omega), if_pos (by omega), if_pos rfl, wrap_up i l.length (by omega) (by omega)]
    exact ih (i + 1) (by omega)
theorem same_calls {W : World} {b1 b2 : Nat} {ok1 ok2 : Nat → Prop} {u1 u2 : Value} {l : List Int} (hl : l.length ≤ 4096) (h1 : I64.R 3 W b1 ok1 u1 l) (h2 : I64.R 3 W b2 ok2 u2 l) :
    Calls Tryd.prog 26 #[u1, u2] W fun e w' => e = .returned (.bool true) ∧ Drawn0 W w' := by
  obtain ⟨A1, c1, rfl, k1, q1⟩ := Kd.R_reads h1
  obtain ⟨A2, c2, rfl, k2, q2⟩ := Kd.R_reads h2
  exact GrpRow.latchkeyref00_SameInts.calls (l.length + 1) A1 c1 l A2 c2 l true W q1 k1 q2 k2 (by
    unfold GrpRow.latchkeyref00_SameInts.f
    rw [if_pos rfl]
    exact same_go l hl l.length 0 (by omega))
theorem above_le (n : Nat) (R : Nat → Nat → Bool) (a : Int) : (aboveS n R a).length ≤ n := by
  unfold aboveS
  split
  · exact elems_le _ _
  · exact Nat.zero_le _
theorem below_le (n : Nat) (R : Nat → Nat → Bool) (a : Int) : (belowS n R a).length ≤ n := by
  unfold belowS
  split
  · exact elems_le _ _
  · exact Nat.zero_le _
theorem PX.n4 {S : Nat → Prop} {w : World} {v : Value} {n : Nat} {L : Nat → Nat → Bool} (h : PX S w v n L) : n ≤ 4096 := by
  rcases h with h | ⟨h0, g, rfl, hz, X, ⟨gl, gi, cl, ci, V, hv, _⟩, _⟩
  · omega
  · exact hv.n4

/-- The boxes of a step's pair and Op. -/
structure BX (w W : World) (q1 q2 : Nat) (px pr : Option Addr) (k wh a b : Int) : Prop where
  low : Below w.heap.size w W
  g1 : w.heap.size ≤ q1
  g2 : w.heap.size ≤ q2
  t1 : W.heap[q1]? = some (.cells #[.pointer px, .pointer pr] 36 (0, 0))
  t2 : W.heap[q2]? = some (.cells #[.int .i64 k, .int .i64 wh, .int .i64 a, .int .i64 b] 40 (0, 0))
section
variable {w W W2 : World} {q1 q2 : Nat} {px pr : Option Addr} {k wh a b : Int}
theorem BX.cells (h : BX w W q1 q2 px pr k wh a b) : W.cell? ⟨q1, 0, none⟩ = some (.pointer px) ∧ W.cell? ⟨q1, 1, none⟩ = some (.pointer pr) ∧ W.cell? ⟨q2, 0, none⟩ = some (.int .i64 k) ∧ W.cell? ⟨q2, 2, none⟩ = some (.int .i64 a) ∧ W.cell? ⟨q2, 3, none⟩ = some (.int .i64 b) :=
  ⟨by rw [blk_cell h.t1]; rfl, by rw [blk_cell h.t1]; rfl, by rw [blk_cell h.t2]; rfl, by rw [blk_cell h.t2]; rfl, by rw [blk_cell h.t2]; rfl⟩
theorem BX.kept {T : Nat → Prop} (h : BX w W q1 q2 px pr k wh a b) (hf : Fr W W2 T) (hT : ∀ k, T k → k < w.heap.size) : W2.cell? ⟨q1, 0, none⟩ = some (.pointer px) ∧ W2.cell? ⟨q1, 1, none⟩ = some (.pointer pr) ∧ W2.cell? ⟨q2, 0, none⟩ = some (.int .i64 k) ∧ W2.cell? ⟨q2, 2, none⟩ = some (.int .i64 a) ∧ W2.cell? ⟨q2, 3, none⟩ = some (.int .i64 b) := by
  have n1 : ¬ T q1 := fun e => by have h1 := hT _ e; have h2 := h.g1; omega
  have n2 : ¬ T q2 := fun e => by have h1 := hT _ e; have h2 := h.g2; omega
  have t1 := blk_kept h.t1 hf.2 n1
  have t2 := blk_kept h.t2 hf.2 n2
  exact ⟨by rw [blk_cell t1]; rfl, by rw [blk_cell t1]; rfl, by rw [blk_cell t2]; rfl, by rw [blk_cell t2]; rfl, by rw [blk_cell t2]; rfl⟩
theorem BX.mk_ (w : World) (px pr : Option Addr) (k wh a b : Int) : BX w ((w.alloc (.cells #[.pointer px, .pointer pr] 36)).alloc (.cells #[.int .i64 k, .int .i64 wh, .int .i64 a, .int .i64 b] 40)) w.heap.size (w.heap.size + 1) px pr k wh a b where
  low := below_alloc (below_alloc (Below.refl _ _) _) _
  g1 := Nat.le_refl _
  g2 := Nat.le_succ _
  t1 := heap_alloc2_old _ _ _
  t2 := heap_alloc2_new _ _ _
end
set_option maxHeartbeats 8000000 in
theorem step_add (S : Nat → Prop) (w : World) (px pr : Option Addr) (n : Nat) (L : Nat → Nat → Bool) (wh a b : Int) (h : DX S w px pr n L) (hgl : GL w) (hS0 : ¬ S 0) :
    Calls Tryd.prog 18 #[.agg #[.pointer px, .pointer pr], .agg #[.int .i64 1, .int .i64 wh, .int .i64 a, .int .i64 b]] w fun e w' => e = .returned (.bool true) ∧ (∃ L', DX (Mo S w w') w' px pr n L') ∧ Fr w w' S := by
  have HD := Aside0.mk h
  obtain ⟨Sx, Sr, h1, h2, h3, h4, hp, hr⟩ := h
  obtain ⟨R, hR⟩ := isR_ex L
  have H1 := Aside0.mk h1
  have H2 := Aside0.mk h2
  have H3 := Aside0.mk h3
  have H4 := Aside0.mk h4
  have HP := Aside0.mk hp
  have HR := Aside0.mk hr
  have HI := Aside0.mk hR
  have HG := Aside0.mk hgl
  have H0 := Aside0.mk hS0
  clear h1 h2 h3 h4 hp hr hR hgl hS0
  go_enter Tryd.func18, Tryd.ntmps18
  go_upto_region 1 with (fail)
  have HB := Aside0.mk (BX.mk_ w px pr 1 wh a b)
  generalize hW5 : (w.alloc (.cells #[.pointer px, .pointer pr] 36)).alloc (.cells #[.int .i64 1, .int .i64 wh, .int .i64 a, .int .i64 b] 40) = W5 at HB ⊢
  generalize hq2 : w.heap.size + 1 = q2 at HB ⊢
  generalize hq1 : w.heap.size = q1 at HB ⊢
  have HB : Aside0 (BX w W5 q1 q2 px pr 1 wh a b) := HB
  clear hW5 hq1 hq2
  obtain ⟨b0, b1, b2, b3, b4⟩ := HB.out.cells
  obtain ⟨z, hz⟩ : ∃ z, z = addA n L a b := ⟨_, rfl⟩
  have HZ := Aside0.mk hz
  clear hz
  go_wp2_with (first
    | (go_at_call 10; (refine (padd_calls Sx W5 (.pointer px) n L a b (HP.out.below HB.out.low)).mono ?_; rintro e1 w6 ⟨rfl, p6, f6⟩; (rw [← HZ.out]); (obtain ⟨b60, b61, b62, b63, b64⟩ := HB.out.kept f6 (fun k hk => H4.out k (H1.out k hk))); have P6 := Aside0.mk p6; have F6 := Aside0.mk f6; clear p6 f6))
    | (go_at_call 38; ((refine (radd_calls Sr w6 (.pointer pr) n L a b ((HR.out.below HB.out.low).kept F6.out.2 (fun k hk hx => H3.out k hx hk))).mono ?_); rintro e2 w7 ⟨rfl, r7, f7⟩; (rw [← HZ.out]); have HDX := Aside0.mk (DX.turn H1.out H2.out H3.out H4.out HB.out.low P6.out F6.out r7 f7); clear r7 f7)))
  go_ret
  exact ⟨rfl, ⟨_, HDX.out.1⟩, HDX.out.2⟩
set_option maxHeartbeats 8000000 in
theorem step_cut (S : Nat → Prop) (w : World) (px pr : Option Addr) (n : Nat) (L : Nat → Nat → Bool) (wh a b : Int) (h : DX S w px pr n L) (hgl : GL w) (hS0 : ¬ S 0) :
    Calls Tryd.prog 18 #[.agg #[.pointer px, .pointer pr], .agg #[.int .i64 2, .int .i64 wh, .int .i64 a, .int .i64 b]] w fun e w' => e = .returned (.bool true) ∧ (∃ L', DX (Mo S w w') w' px pr n L') ∧ Fr w w' S := by
  have HD := Aside0.mk h
  obtain ⟨Sx, Sr, h1, h2, h3, h4, hp, hr⟩ := h
  obtain ⟨R, hR⟩ := isR_ex L
  have H1 := Aside0.mk h1
  have H2 := Aside0.mk h2
  have H3 := Aside0.mk h3
  have H4 := Aside0.mk h4
  have HP := Aside0.mk hp
  have HR := Aside0.mk hr
  have HI := Aside0.mk hR
  have HG := Aside0.mk hgl
  have H0 := Aside0.mk hS0
  clear h1 h2 h3 h4 hp hr hR hgl hS0
  go_enter Tryd.func18, Tryd.ntmps18
  go_upto_region 1 with (fail)
  have HB := Aside0.mk (BX.mk_ w px pr 2 wh a b)
  generalize hW5 : (w.alloc (.cells #[.pointer px, .pointer pr] 36)).alloc (.cells #[.int .i64 2, .int .i64 wh, .int .i64 a, .int .i64 b] 40) = W5 at HB ⊢
  generalize hq2 : w.heap.size + 1 = q2 at HB ⊢
  generalize hq1 : w.heap.size = q1 at HB ⊢
  have HB : Aside0 (BX w W5 q1 q2 px pr 2 wh a b) := HB
  clear hW5 hq1 hq2
  obtain ⟨b0, b1, b2, b3, b4⟩ := HB.out.cells
  obtain ⟨z, hz⟩ : ∃ z, z = cutA n L a b := ⟨_, rfl⟩
  have HZ := Aside0.mk hz
  clear hz
  go_wp2_with (first
    | (go_at_call 11; (refine (pcut_calls Sx W5 (.pointer px) n L a b (HP.out.below HB.out.low) (HG.out.below HB.out.low) (fun h => H0.out (H1.out 0 h))).mono ?_; rintro e1 w6 ⟨rfl, p6, f6⟩; (rw [← HZ.out]); (obtain ⟨b60, b61, b62, b63, b64⟩ := HB.out.kept f6 (fun k hk => H4.out k (H1.out k hk))); have P6 := Aside0.mk p6; have F6 := Aside0.mk f6; clear p6 f6))
    | (go_at_call 39; ((refine (rcut_calls Sr w6 (.pointer pr) n L a b ((HR.out.below HB.out.low).kept F6.out.2 (fun k hk hx => H3.out k hx hk))).mono ?_); rintro e2 w7 ⟨rfl, r7, f7⟩; (rw [← HZ.out]); have HDX := Aside0.mk (DX.turn H1.out H2.out H3.out H4.out HB.out.low P6.out F6.out r7 f7); clear r7 f7)))
  go_ret
  exact ⟨rfl, ⟨_, HDX.out.1⟩, HDX.out.2⟩
set_option maxHeartbeats 8000000 in
theorem step_in (S : Nat → Prop) (w : World) (px pr : Option Addr) (n : Nat) (L : Nat → Nat → Bool) (wh a b : Int) (h : DX S w px pr n L) (hgl : GL w) (hS0 : ¬ S 0) :
    Calls Tryd.prog 18 #[.agg #[.pointer px, .pointer pr], .agg #[.int .i64 3, .int .i64 wh, .int .i64 a, .int .i64 b]] w fun e w' => e = .returned (.bool true) ∧ (∃ L', DX (Mo S w w') w' px pr n L') ∧ Fr w w' S := by
  have HD := Aside0.mk h
  obtain ⟨Sx, Sr, h1, h2, h3, h4, hp, hr⟩ := h
  obtain ⟨R, hR⟩ := isR_ex L
  have H1 := Aside0.mk h1
  have H2 := Aside0.mk h2
  have H3 := Aside0.mk h3
  have H4 := Aside0.mk h4
  have HP := Aside0.mk hp
  have HR := Aside0.mk hr
  have HI := Aside0.mk hR
  have HG := Aside0.mk hgl
  have H0 := Aside0.mk hS0
  clear h1 h2 h3 h4 hp hr hR hgl hS0
  go_enter Tryd.func18, Tryd.ntmps18
  go_upto_region 1 with (fail)
  have HB := Aside0.mk (BX.mk_ w px pr 3 wh a b)
  generalize hW5 : (w.alloc (.cells #[.pointer px, .pointer pr] 36)).alloc (.cells #[.int .i64 3, .int .i64 wh, .int .i64 a, .int .i64 b] 40) = W5 at HB ⊢
  generalize hq2 : w.heap.size + 1 = q2 at HB ⊢
  generalize hq1 : w.heap.size = q1 at HB ⊢
  have HB : Aside0 (BX w W5 q1 q2 px pr 3 wh a b) := HB
  clear hW5 hq1 hq2
  obtain ⟨b0, b1, b2, b3, b4⟩ := HB.out.cells
  obtain ⟨z, hz⟩ : ∃ z, z = inS n R a b := ⟨_, rfl⟩
  have HZ := Aside0.mk hz
  clear hz
  go_wp2_with (first
    | (go_at_call 12; (refine (pin_calls Sx W5 (.pointer px) n L R a b (HP.out.below HB.out.low) HI.out).mono ?_; rintro e1 w6 ⟨rfl, d6⟩; (rw [← HZ.out]); (obtain ⟨b60, b61, b62, b63, b64⟩ := HB.out.kept (Fr.of_below d6 (fun _ => False)) (fun k hk => hk.elim)); have BB := Aside0.mk (below_step HB.out.low d6); clear d6))
    | (go_at_call 40; ((refine (rin_calls Sr w6 (.pointer pr) n L R a b (HR.out.below BB.out) HI.out).mono ?_); rintro e2 w7 ⟨rfl, d7⟩; (rw [← HZ.out]); have B7 := Aside0.mk (below_step BB.out d7); clear d7)))
  go_ret
  exact ⟨by first | rfl | simp, ⟨L, HD.out.low B7.out⟩, Fr.of_below B7.out S⟩
set_option maxHeartbeats 8000000 in
theorem step_above (S : Nat → Prop) (w : World) (px pr : Option Addr) (n : Nat) (L : Nat → Nat → Bool) (wh a b : Int) (h : DX S w px pr n L) (hgl : GL w) (hS0 : ¬ S 0) :
    Calls Tryd.prog 18 #[.agg #[.pointer px, .pointer pr], .agg #[.int .i64 4, .int .i64 wh, .int .i64 a, .int .i64 b]] w fun e w' => e = .returned (.bool true) ∧ (∃ L', DX (Mo S w w') w' px pr n L') ∧ Fr w w' S := by
  have HD := Aside0.mk h
  obtain ⟨Sx, Sr, h1, h2, h3, h4, hp, hr⟩ := h
  obtain ⟨R, hR⟩ := isR_ex L
  have H1 := Aside0.mk h1
  have H2 := Aside0.mk h2
  have H3 := Aside0.mk h3
  have H4 := Aside0.mk h4
  have HP := Aside0.mk hp
  have HR := Aside0.mk hr
  have HI := Aside0.mk hR
  have HG := Aside0.mk hgl
  have H0 := Aside0.mk hS0
  clear h1 h2 h3 h4 hp hr hR hgl hS0
  go_enter Tryd.func18, Tryd.ntmps18
  go_upto_region 1 with (fail)
  have HB := Aside0.mk (BX.mk_ w px pr 4 wh a b)
  generalize hW5 : (w.alloc (.cells #[.pointer px, .pointer pr] 36)).alloc (.cells #[.int .i64 4, .int .i64 wh, .int .i64 a, .int .i64 b] 40) = W5 at HB ⊢
  generalize hq2 : w.heap.size + 1 = q2 at HB ⊢
  generalize hq1 : w.heap.size = q1 at HB ⊢
  have HB : Aside0 (BX w W5 q1 q2 px pr 4 wh a b) := HB
  clear hW5 hq1 hq2
  obtain ⟨b0, b1, b2, b3, b4⟩ := HB.out.cells
  have HN4 := Aside0.mk HP.out.n4
  go_wp2_with (first
    | (go_at_call 14; (refine (pabove_calls Sx W5 (.pointer px) n L R a (HP.out.below HB.out.low) HI.out (HG.out.below HB.out.low)).mono ?_; rintro e1 w6 ⟨u6, rfl, r6, d6⟩; (obtain ⟨A6, c6, rfl⟩ := Kd.R_slice r6); (obtain ⟨b60, b61, b62, b63, b64⟩ := HB.out.kept (Fr.of_below d6 (fun _ => False)) (fun k hk => hk.elim)); have R6 := Aside0.mk r6; have B6 := Aside0.mk d6; have BB := Aside0.mk (below_step HB.out.low d6); clear r6 d6))
    | (go_at_call 24; ((refine (rabove_calls Sr w6 (.pointer pr) n L R a (HR.out.below BB.out) HI.out).mono ?_); rintro e2 w7 ⟨u7, rfl, r7, d7⟩; (obtain ⟨A7, c7, rfl⟩ := Kd.R_slice r7); have R7 := Aside0.mk r7; have R67 := Aside0.mk (Kd.R_below R6.out d7); have B7 := Aside0.mk (below_step BB.out d7); clear r7 d7))
    | (go_at_call 26; ((refine (same_calls (Nat.le_trans (above_le n R a) HN4.out) R67.out R7.out).mono ?_); rintro e3 w8 ⟨rfl, d8⟩; have B8 := Aside0.mk (below_step B7.out d8.below); clear d8)))
  go_ret
  exact ⟨rfl, ⟨L, HD.out.low B8.out⟩, Fr.of_below B8.out S⟩
set_option maxHeartbeats 8000000 in
theorem step_below (S : Nat → Prop) (w : World) (px pr : Option Addr) (n : Nat) (L : Nat → Nat → Bool) (wh a b : Int) (h : DX S w px pr n L) (hgl : GL w) (hS0 : ¬ S 0) :
    Calls Tryd.prog 18 #[.agg #[.pointer px, .pointer pr], .agg #[.int .i64 5, .int .i64 wh, .int .i64 a, .int .i64 b]] w fun e w' => e = .returned (.bool true) ∧ (∃ L', DX (Mo S w w') w' px pr n L') ∧ Fr w w' S := by
  have HD := Aside0.mk h
  obtain ⟨Sx, Sr, h1, h2, h3, h4, hp, hr⟩ := h
  obtain ⟨R, hR⟩ := isR_ex L
  have H1 := Aside0.mk h1
  have H2 := Aside0.mk h2
  have H3 := Aside0.mk h3
  have H4 := Aside0.mk h4
  have HP := Aside0.mk hp
  have HR := Aside0.mk hr
  have HI := Aside0.mk hR
  have HG := Aside0.mk hgl
  have H0 := Aside0.mk hS0
  clear h1 h2 h3 h4 hp hr hR hgl hS0
  go_enter Tryd.func18, Tryd.ntmps18
  go_upto_region 1 with (fail)
  have HB := Aside0.mk (BX.mk_ w px pr 5 wh a b)
  generalize hW5 : (w.alloc (.cells #[.pointer px, .pointer pr] 36)).alloc (.cells #[.int .i64 5, .int .i64 wh, .int .i64 a, .int .i64 b] 40) = W5 at HB ⊢
  generalize hq2 : w.heap.size + 1 = q2 at HB ⊢
  generalize hq1 : w.heap.size = q1 at HB ⊢
  have HB : Aside0 (BX w W5 q1 q2 px pr 5 wh a b) := HB
  clear hW5 hq1 hq2
  obtain ⟨b0, b1, b2, b3, b4⟩ := HB.out.cells
  have HN4 := Aside0.mk HP.out.n4
  go_wp2_with (first
    | (go_at_call 15; (refine (pbelow_calls Sx W5 (.pointer px) n L R b (HP.out.below HB.out.low) HI.out).mono ?_; rintro e1 w6 ⟨u6, rfl, r6, d6⟩; (obtain ⟨A6, c6, rfl⟩ := Kd.R_slice r6); (obtain ⟨b60, b61, b62, b63, b64⟩ := HB.out.kept (Fr.of_below d6 (fun _ => False)) (fun k hk => hk.elim)); have R6 := Aside0.mk r6; have B6 := Aside0.mk d6; have BB := Aside0.mk (below_step HB.out.low d6); clear r6 d6))
    | (go_at_call 25; ((refine (rbelow_calls Sr w6 (.pointer pr) n L R b (HR.out.below BB.out) HI.out).mono ?_); rintro e2 w7 ⟨u7, rfl, r7, d7⟩; (obtain ⟨A7, c7, rfl⟩ := Kd.R_slice r7); have R7 := Aside0.mk r7; have R67 := Aside0.mk (Kd.R_below R6.out d7); have B7 := Aside0.mk (below_step BB.out d7); clear r7 d7))
    | (go_at_call 26; ((refine (same_calls (Nat.le_trans (below_le n R b) HN4.out) R67.out R7.out).mono ?_); rintro e3 w8 ⟨rfl, d8⟩; have B8 := Aside0.mk (below_step B7.out d8.below); clear d8)))
  go_ret
  exact ⟨rfl, ⟨L, HD.out.low B8.out⟩, Fr.of_below B8.out S⟩
set_option maxHeartbeats 8000000 in
theorem step_pairs (S : Nat → Prop) (w : World) (px pr : Option Addr) (n : Nat) (L : Nat → Nat → Bool) (wh a b : Int) (h : DX S w px pr n L) (hgl : GL w) (hS0 : ¬ S 0) :
    Calls Tryd.prog 18 #[.agg #[.pointer px, .pointer pr], .agg #[.int .i64 6, .int .i64 wh, .int .i64 a, .int .i64 b]] w fun e w' => e = .returned (.bool true) ∧ (∃ L', DX (Mo S w w') w' px pr n L') ∧ Fr w w' S := by
  have HD := Aside0.mk h
  obtain ⟨Sx, Sr, h1, h2, h3, h4, hp, hr⟩ := h
  obtain ⟨R, hR⟩ := isR_ex L
  have H1 := Aside0.mk h1
  have H2 := Aside0.mk h2
  have H3 := Aside0.mk h3
  have H4 := Aside0.mk h4
  have HP := Aside0.mk hp
  have HR := Aside0.mk hr
  have HI := Aside0.mk hR
  have HG := Aside0.mk hgl
  have H0 := Aside0.mk hS0
  clear h1 h2 h3 h4 hp hr hR hgl hS0
  go_enter Tryd.func18, Tryd.ntmps18
  go_upto_region 1 with (fail)
  have HB := Aside0.mk (BX.mk_ w px pr 6 wh a b)
  generalize hW5 : (w.alloc (.cells #[.pointer px, .pointer pr] 36)).alloc (.cells #[.int .i64 6, .int .i64 wh, .int .i64 a, .int .i64 b] 40) = W5 at HB ⊢
  generalize hq2 : w.heap.size + 1 = q2 at HB ⊢
  generalize hq1 : w.heap.size = q1 at HB ⊢
  have HB : Aside0 (BX w W5 q1 q2 px pr 6 wh a b) := HB
  clear hW5 hq1 hq2
  obtain ⟨b0, b1, b2, b3, b4⟩ := HB.out.cells
  obtain ⟨z, hz⟩ : ∃ z, z = ((pairsN n R n : Nat) : Int) := ⟨_, rfl⟩
  have HZ := Aside0.mk hz
  clear hz
  go_wp2_with (first
    | (go_at_call 13; (refine (ppairs_calls Sx W5 (.pointer px) n L R (HP.out.below HB.out.low) HI.out).mono ?_; rintro e1 w6 ⟨rfl, d6⟩; (rw [← HZ.out]); (obtain ⟨b60, b61, b62, b63, b64⟩ := HB.out.kept (Fr.of_below d6 (fun _ => False)) (fun k hk => hk.elim)); have BB := Aside0.mk (below_step HB.out.low d6); clear d6))
    | (go_at_call 41; ((refine (rpairs_calls Sr w6 (.pointer pr) n L R (HR.out.below BB.out) HI.out).mono ?_); rintro e2 w7 ⟨rfl, d7⟩; (rw [← HZ.out]); have B7 := Aside0.mk (below_step BB.out d7); clear d7)))
  go_ret
  exact ⟨by first | rfl | simp, ⟨L, HD.out.low B7.out⟩, Fr.of_below B7.out S⟩
set_option maxHeartbeats 8000000 in
theorem step_none (S : Nat → Prop) (w : World) (px pr : Option Addr) (n : Nat) (L : Nat → Nat → Bool) (kk wh a b : Int) (h : DX S w px pr n L) (hgl : GL w) (hS0 : ¬ S 0) (hk : kk < 1 ∨ 6 < kk) :
    Calls Tryd.prog 18 #[.agg #[.pointer px, .pointer pr], .agg #[.int .i64 kk, .int .i64 wh, .int .i64 a, .int .i64 b]] w fun e w' => e = .returned (.bool true) ∧ (∃ L', DX (Mo S w w') w' px pr n L') ∧ Fr w w' S := by
  have HD := Aside0.mk h
  obtain ⟨Sx, Sr, h1, h2, h3, h4, hp, hr⟩ := h
  obtain ⟨R, hR⟩ := isR_ex L
  have H1 := Aside0.mk h1
  have H2 := Aside0.mk h2
  have H3 := Aside0.mk h3
  have H4 := Aside0.mk h4
  have HP := Aside0.mk hp
  have HR := Aside0.mk hr
  have HI := Aside0.mk hR
  have HG := Aside0.mk hgl
  have H0 := Aside0.mk hS0
  clear h1 h2 h3 h4 hp hr hR hgl hS0
  go_enter Tryd.func18, Tryd.ntmps18
  go_upto_region 1 with (fail)
  have HB := Aside0.mk (BX.mk_ w px pr kk wh a b)
  generalize hW5 : (w.alloc (.cells #[.pointer px, .pointer pr] 36)).alloc (.cells #[.int .i64 kk, .int .i64 wh, .int .i64 a, .int .i64 b] 40) = W5 at HB ⊢
  generalize hq2 : w.heap.size + 1 = q2 at HB ⊢
  generalize hq1 : w.heap.size = q1 at HB ⊢
  have HB : Aside0 (BX w W5 q1 q2 px pr kk wh a b) := HB
  clear hW5 hq1 hq2
  obtain ⟨b0, b1, b2, b3, b4⟩ := HB.out.cells
  have d1 : (kk == 1) = false := by simp; omega
  have d2 : (kk == 2) = false := by simp; omega
  have d3 : (kk == 3) = false := by simp; omega
  have d4 : (kk == 4) = false := by simp; omega
  have d5 : (kk == 5) = false := by simp; omega
  have d6 : (kk == 6) = false := by simp; omega
  clear hk
  go_wp2
  go_ret
  exact ⟨rfl, ⟨L, HD.out.low HB.out.low⟩, Fr.of_below HB.out.low S⟩
theorem step_calls (S : Nat → Prop) (w : World) (px pr : Option Addr) (n : Nat) (L : Nat → Nat → Bool) (kk wh a b : Int) (h : DX S w px pr n L) (hgl : GL w) (hS0 : ¬ S 0) :
    Calls Tryd.prog 18 #[.agg #[.pointer px, .pointer pr], .agg #[.int .i64 kk, .int .i64 wh, .int .i64 a, .int .i64 b]] w fun e w' => e = .returned (.bool true) ∧ (∃ L', DX (Mo S w w') w' px pr n L') ∧ Fr w w' S := by
  by_cases hk : kk < 1 ∨ 6 < kk
  · exact step_none S w px pr n L kk wh a b h hgl hS0 hk
  · rcases (show kk = 1 ∨ kk = 2 ∨ kk = 3 ∨ kk = 4 ∨ kk = 5 ∨ kk = 6 by omega) with e | e | e | e | e | e
    · subst e; exact step_add S w px pr n L wh a b h hgl hS0
    · subst e; exact step_cut S w px pr n L wh a b h hgl hS0
    · subst e; exact step_in S w px pr n L wh a b h hgl hS0
    · subst e; exact step_above S w px pr n L wh a b h hgl hS0
    · subst e; exact step_below S w px pr n L wh a b h hgl hS0
    · subst e; exact step_pairs S w px pr n L wh a b h hgl hS0
end Go.Proofs.YtmldefednihohaaDoor.Grp
