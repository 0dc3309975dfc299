/- The steps of a script as numbers; few, made (plain walks). -/
import Derived.Test.YtmldefednihohaaDoorSxGrpStep
namespace Go.Proofs.YtmldefednihohaaDoor.Grp
open Go.RowKit Go.Proofs.YtmldefednihohaaDoorW.PrintWords Go.Proofs.YtmldefednihohaaDoorW.PrintLast Go.Proofs.YtmldefednihohaaDoorW.PrintMore
set_option linter.unusedVariables false
set_option linter.unusedSimpArgs false
set_option maxRecDepth 100000
structure OpD where
  kind : Int
  which : Int
  a : Int
  b : Int
/-- A step at the address p. -/
structure OpAt (w : World) (p : Addr) (d : OpD) : Prop where
  c0 : w.cell? p = some (.int .i64 d.kind)
  c1 : w.cell? { block := p.block, off := p.off + 1 } = some (.int .i64 d.which)
  c2 : w.cell? { block := p.block, off := p.off + 2 } = some (.int .i64 d.a)
  c3 : w.cell? { block := p.block, off := p.off + 3 } = some (.int .i64 d.b)
  k1 : -9223372036854775808 ≤ d.kind ∧ d.kind < 9223372036854775808
  k2 : -9223372036854775808 ≤ d.which ∧ d.which < 9223372036854775808
def OpsAt (w : World) (A : Option Addr) (n : Nat) (G : Nat → OpD) : Prop := ∀ i, i < n → ∃ ad, A = some ad ∧ OpAt w (ad.add (i * 4)) (G i)
theorem OpAt.below {w w' : World} {p : Addr} {d : OpD} (h : OpAt w p d) (hb : Below w.heap.size w w') : OpAt w' p d :=
  ⟨(hb.cell (World.block_lt_of_cell? w _ h.c0)).trans h.c0, (hb.cell (World.block_lt_of_cell? w _ h.c1)).trans h.c1, (hb.cell (World.block_lt_of_cell? w _ h.c2)).trans h.c2, (hb.cell (World.block_lt_of_cell? w _ h.c3)).trans h.c3, h.k1, h.k2⟩
theorem OpsAt.below {w w' : World} {A : Option Addr} {n : Nat} {G : Nat → OpD} (h : OpsAt w A n G) (hb : Below w.heap.size w w') : OpsAt w' A n G := fun i hi => by
  obtain ⟨ad, h1, h2⟩ := h i hi
  exact ⟨ad, h1, h2.below hb⟩
theorem OpsAt.less {w : World} {A : Option Addr} {n m : Nat} {G : Nat → OpD} (h : OpsAt w A n G) (hm : m ≤ n) : OpsAt w A m G := fun i hi => h i (by omega)
set_option maxHeartbeats 2000000 in
theorem few_calls (w : World) (A : Option Addr) (n c : Nat) (G : Nat → OpD) (h : OpsAt w A n G) (hc : n ≤ c) (hm : n ≤ 9223372036854775807) :
    Calls Tryd.prog 16 #[.slice A n c] w fun e w' => ∃ m, e = .returned (.slice A m c) ∧ m ≤ n ∧ m ≤ 300 ∧ w' = w := by
  by_cases hn : n ≤ 300
  · have d1 : decide ((n : Int) > 300) = false := decide_eq_false (by omega)
    have d2 : decide (300 < (n : Int)) = false := decide_eq_false (by omega)
    have HN := Aside0.mk hn
    clear h hc hm hn
    go_enter Tryd.func16, Tryd.ntmps16
    go_wp2
    go_ret
    exact ⟨n, rfl, Nat.le_refl _, HN.out, rfl⟩
  · have d1 : decide ((n : Int) > 300) = true := decide_eq_true (by omega)
    have d2 : decide (300 < (n : Int)) = true := decide_eq_true (by omega)
    obtain ⟨ad, rfl, _⟩ := h 0 (by omega)
    have h300 : (300 : Int) ≤ (c : Int) := by omega
    have HN : Aside0 (300 ≤ n) := ⟨by omega⟩
    clear h hm hn hc
    go_enter Tryd.func16, Tryd.ntmps16
    go_wp2
    go_ret
    exact ⟨300, rfl, HN.out, Nat.le_refl _, rfl⟩
theorem res_cell_tmp {fn : Func} {t u : Tmp} {T : TypeId} (h : fn.results = #[.cell t T, .tmp u]) (tmps : Array Value) (P : Program) (w : World) (g : Addr) (v : Value) (ht : tmps.getD t undef = .pointer (some g)) (hl : (loadVar T g).run P w = .ok v w) :
    (results fn tmps).run P w = .ok (.tuple #[v, tmps.getD u undef]) w := by
  have ht' : tmps[t]?.getD undef = .pointer (some g) := by simpa using ht
  simp [results, h, ht', asAddr, Sem.run_bind, hl]
theorem DX.made {w W5 w6 w7 : World} {q n : Nat} {px pr : Option Addr} {L0 : Nat → Nat → Bool} (hb : Below w.heap.size w W5) (hqe : w.heap.size = q) (hq : q < W5.heap.size) (hp : PX (fun k => W5.heap.size ≤ k) w6 (.pointer px) n L0) (b6 : Below W5.heap.size W5 w6)
    (hr : RX (fun k => w6.heap.size ≤ k) w7 (.pointer pr) n L0) (b7 : Below w6.heap.size w6 w7) (u1 u2 : Value) :
    DX (fun k => w.heap.size ≤ k ∧ k < ((w7.setCell ⟨q, 0, none⟩ u1).setCell ⟨q, 1, none⟩ u2).heap.size) ((w7.setCell ⟨q, 0, none⟩ u1).setCell ⟨q, 1, none⟩ u2) px pr n L0 ∧ Below w.heap.size w ((w7.setCell ⟨q, 0, none⟩ u1).setCell ⟨q, 1, none⟩ u2) := by
  have hf : Fr w7 ((w7.setCell ⟨q, 0, none⟩ u1).setCell ⟨q, 1, none⟩ u2) (fun k => k = q) := (Fr.set 0 u1).then_ (Fr.set 1 u2) (fun k hk => .inl hk)
  have z5 := hb.size
  have z6 := b6.size
  have z7 := b7.size
  have z8 := hf.1.size
  generalize ((w7.setCell ⟨q, 0, none⟩ u1).setCell ⟨q, 1, none⟩ u2) = w8 at hf z8 ⊢
  refine ⟨⟨fun k => W5.heap.size ≤ k ∧ k < w6.heap.size, fun k => w6.heap.size ≤ k ∧ k < w7.heap.size, fun k hk => ⟨by omega, by omega⟩, fun k hk => ⟨by omega, by omega⟩, fun k hk hk' => by omega, fun k hk => hk.2, ?_, ?_⟩, ?_⟩
  · exact (hp.bound.below b7).kept hf.2 (fun k hk e => by omega)
  · exact hr.bound.kept hf.2 (fun k hk e => by omega)
  · have h7 : Below w.heap.size w w7 := below_step (below_step hb b6) b7
    exact ⟨hf.1.os.trans h7.os, hf.1.tape.trans h7.tape, hf.1.output.trans h7.output, by omega, fun k hk => (hf.2.2 k (by omega) (by omega)).trans (h7.block k hk)⟩
theorem pair_info : (Tryd.prog.info? 36).map (·.size) = some 2 := by kernel_rfl
set_option maxHeartbeats 4000000 in
theorem made_calls (w : World) (a : Int) :
    Calls Tryd.prog 17 #[.int .i64 a] w fun e w' => ∃ px pr, e = .returned (.tuple #[.agg #[.pointer px, .pointer pr], .bool true]) ∧ DX (fun k => w.heap.size ≤ k ∧ k < w'.heap.size) w' px pr (most a) (fun _ _ => false) ∧ Below w.heap.size w w' := by
  go_enter Tryd.func17, Tryd.ntmps17
  go_upto_region 1 with (fail)
  have hq := heap_alloc_new w (.cells #[.pointer none, .pointer none] 36)
  have hb := below_alloc (Below.refl w.heap.size w) (.cells #[.pointer none, .pointer none] 36)
  have HQ := Aside0.mk hq
  have HB := Aside0.mk hb
  have HS : Aside0 (w.heap.size < (w.alloc (.cells #[.pointer none, .pointer none] 36)).heap.size) := ⟨by rw [World.size_alloc]; omega⟩
  clear hq hb
  generalize w.alloc (.cells #[.pointer none, .pointer none] 36) = W5 at HQ HB HS ⊢
  generalize hq : w.heap.size = q at HQ HS ⊢
  have HE := Aside0.mk hq
  clear hq
  go_upto_region 3 with (first
    | (go_at_call 9; (refine (pnew_calls W5 a).mono ?_; rintro e1 w6 ⟨v6, rfl, p6, b6⟩; have P6 := Aside0.mk p6; have B6 := Aside0.mk b6; clear p6 b6))
    | (go_at_call 37; (refine (rnew_calls w6 a).mono ?_; rintro e2 w7 ⟨v7, rfl, r7, b7⟩; have R7 := Aside0.mk r7; have B7 := Aside0.mk b7; clear r7 b7)))
  have ht7 := blk_kept (blk_kept HQ.out (Kept.of_below B6.out (fun _ => False)) (fun h => h)) (Kept.of_below B7.out (fun _ => False)) (fun h => h)
  have HT := Aside0.mk ht7
  obtain ⟨z, hz⟩ : ∃ z : Int, z = (if most a = 0 then 2 else 0) := ⟨_, rfl⟩
  rw [← hz]
  clear hz
  have c0 := blk_cell ht7 0
  have c1 := blk_cell ht7 1
  have f0 := blk_frozen ht7 0
  have f1 := blk_frozen ht7 1
  have c0 : w7.cell? ⟨q, 0, none⟩ = some (.pointer none) := c0
  have c1 : w7.cell? ⟨q, 1, none⟩ = some (.pointer none) := c1
  clear ht7
  by_cases hm : most a = 0
  · obtain ⟨rfl⟩ : v6 = .pointer none := by
      rcases P6.out with h | ⟨h, _⟩
      · exact h.2
      · omega
    obtain ⟨rfl⟩ : v7 = .pointer none := by
      rcases R7.out with h | ⟨r, _, _, h⟩
      · exact h.2
      · have := h.n1; omega
    go_wp2
    have hs := blk_set (blk_set HT.out 0 (.pointer none)) 1 (.pointer none)
    refine bodyPost_ret (res_cell_tmp rfl _ _ _ ⟨q, 0, none⟩ _ rfl (run_loadVar_row _ _ _ _ _ _ _ hs Tryd.underlying36 rfl pair_info)) rfl ?_
    have hrx : RX (fun k => w6.heap.size ≤ k) w7 (.pointer none) (most a) (fun _ _ => false) := .inl ⟨hm, rfl⟩
    have hd := DX.made HB.out HE.out HS.out P6.out B6.out hrx B7.out (.pointer none) (.pointer none)
    exact ⟨none, none, rfl, by first | exact hd.1 | (simp only [hm] at hd; exact hd.1), hd.2⟩
  · obtain ⟨g, rfl⟩ : ∃ g, v6 = .pointer (some g) := by
      rcases P6.out with h | ⟨_, g, h, _⟩
      · exact absurd h.1 hm
      · exact ⟨_, h⟩
    obtain ⟨r, rfl, hr, hv⟩ : ∃ r, v7 = .pointer (some ⟨r, 0, none⟩) ∧ w6.heap.size ≤ r ∧ RvAt w7 r (most a) none 0 [] := by
      rcases R7.out with h | h
      · exact absurd h.1 hm
      · exact h
    have HR := Aside0.mk hr
    have HV := Aside0.mk hv
    clear hr hv
    go_wp2
    have hs := blk_set (blk_set HT.out 0 (.pointer (some g))) 1 (.pointer (some ⟨r, 0, none⟩))
    have hrx : RX (fun k => w6.heap.size ≤ k) w7 (.pointer (some ⟨r, 0, none⟩)) (most a) (fun _ _ => false) := .inr ⟨r, none, 0, [], rfl, HV.out, fun _ _ => ⟨fun h => (by cases h), fun h => (by cases h)⟩, HR.out, fun b hb => (by simp [Value.ownBlock] at hb)⟩
    refine bodyPost_ret (res_cell_tmp rfl _ _ _ ⟨q, 0, none⟩ _ rfl (run_loadVar_row _ _ _ _ _ _ _ hs Tryd.underlying36 rfl pair_info)) rfl ?_
    have hd := DX.made HB.out HE.out HS.out P6.out B6.out hrx B7.out (.pointer (some g)) (.pointer (some ⟨r, 0, none⟩))
    exact ⟨some g, some ⟨r, 0, none⟩, rfl, hd.1, hd.2⟩
end Go.Proofs.YtmldefednihohaaDoor.Grp
