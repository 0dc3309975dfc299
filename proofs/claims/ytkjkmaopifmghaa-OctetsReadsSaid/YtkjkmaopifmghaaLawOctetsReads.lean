/- Proved: every row of reads of two Readers in turns answers as the document has it (the statement OctetsReads); conditions: none. -/
import Derived.Test.YtkjkmaopifmghaaRows
import Derived.Test.YtkjkmaopifmghaaOctReads
import Derived.Test.YtkjkmaopifmghaaPureReads
import Derived.WalkKit
import Derived.ProofKit
import Derived.OpenShut
import Derived.ShutString
import Derived.ChangeOld
import Derived.Below
import Derived.SizedLaws
import Derived.Lib.SmallJoins
import Derived.Test.YtkjkmaopifmghaaWSized
import Derived.Deep.Slices
import Derived.ChangeArms
namespace Go.Proofs.Ytkjkmaopifmghaa.octetsReads
open Go.ChangeShapes Go.WideShapes Go.ChangeAt Go.RowKit Go.Joins
open Go.ChangeMaps (open_string shut_string)
set_option linter.unusedVariables false
theorem own : ownKnob Try.prog.godebug = none := by kernel_rfl
theorem laidOut : laidOutB Try.prog = true := by kernel_rfl
def IsRow (k : IntKind) (w : World) (a : Option Addr) (len cap : Nat) (zs : List Int) : Prop :=
  (a = none ∧ len = 0 ∧ cap = 0 ∧ zs = []) ∨
  ∃ x, a = some x ∧ len ≤ cap ∧ cap ≤ maxLen ∧ zs.length = cap ∧ (∀ i, i < zs.length → w.cell? (x.add i) = some (.int k (zs.getD i 0))) ∧ ∀ n ∈ zs, (Lit.int k n).wf = true
theorem slice_block {P : Program} {W : World} {r : Reach} {base : Nat} {t e : TypeId} {a : Option Addr} {len cap : Nat} (hu : P.underlying t = some (.slice e)) (h : Value.okWide P W r base t (.slice a len cap)) : ∀ ad, a = some ad → ad.block < W.heap.size := by
  rintro ad rfl
  simp only [Value.okWide, hu, Cell.okWide, Cell.ok] at h
  obtain ⟨_, _, h⟩ := h
  obtain ⟨_, _, row, cells, hs, _⟩ := h
  unfold World.shape? at hs
  cases hg : W.heap[ad.block]? with
  | none => simp [hg] at hs
  | some o => exact (Array.getElem?_eq_some_iff.1 hg).1
theorem elem_struct {H : Type} {enc : TypeId × Value → H} {P : Program} {W : World} {base : Nat} {spare : Nat → Bool} {held : Bool} {t e : TypeId} {C : Nat} {a : Option Addr} {len cap : Nat} {d : DataW H} {ps : List MemPlace} (ht : P.underlying t = some (.slice e)) (hC : P.cellsOf e = C)
    (h : DataW.Trod enc P W base spare held t (.slice a len cap) d ps) : len ≤ maxLen ∧ ∀ i, i < len → ∃ x cs y n, a = some x ∧ cs.length = C ∧ (∀ j, j < C → W.cell? ((x.add (i * C)).add j) = cs[j]?) ∧ DataW.trod enc P W base spare held n e cs = some y := by
  obtain ⟨fuel, hf⟩ := h
  rcases Go.Deep.open_slice ht hf with ⟨hcs, _⟩ | ⟨x, l, c, m, n, D, Pl, hcs, _, hl, hcm, hm, _, hi⟩
  · simp [Value.cells] at hcs
    obtain ⟨rfl, rfl, rfl⟩ := hcs
    exact ⟨Nat.zero_le _, fun i h => absurd h (by omega)⟩
  · simp [Value.cells] at hcs
    obtain ⟨rfl, rfl, rfl⟩ := hcs
    refine ⟨Nat.le_trans hl hcm, fun i hil => ?_⟩
    have him : i < m := by
      rw [hm]
      split
      · omega
      · exact hil
    obtain ⟨cs, h1, h2⟩ := hi i him
    rw [hC] at h1
    obtain ⟨_, hlen, hat⟩ := World.cells?_some h1
    exact ⟨x, cs, _, n, rfl, hlen, hat, h2⟩
set_option maxRecDepth 100000 in
theorem lifted (os : Os) (started : os.Started) (H : Type) (enc : TypeId × Value → H) :
    ReturnsInHanded {} Try.checked os 8 .any (Rows.octetsReadsSpec.pre6 enc Try.prog Try.f8 Rows.octetsReadsRow.domain false) (Rows.octetsReadsSpec.post enc Try.prog Try.f8 false true false false) := by
  refine returnsInHanded_of_change_sized (C := Try.checked) own started (by kernel_rfl) Try.func8
    (ChangeSpec.witness6 (enc := enc) (C := Try.checked) false ⟨#[], #[.slice none 0 0, .slice none 0 0, .slice none 0 0], []⟩ 8 (by kernel_rfl) (by kernel_rfl) (by kernel_rfl) (by kernel_rfl)) ?_
  intro W base args ds gs before hval0 hW hcnd hsz0 _
  have hsz : (DataW.weightsEach Try.prog (Try.f8.params.toList ++ Rows.octetsReadsSpec.plain.varTypes Try.prog) (ds ++ gs)).all (· ≤ reachBytes) = true := hsz0
  have hval : ∀ (j : Nat) t v, Try.f8.params[j]? = some t → args[j]? = some v → Value.okWide Try.prog W .any base t v := hval0
  have hW' := hW
  obtain ⟨p, q, hA0, hV, rfl, hfz, hnd⟩ := hW
  have hA : DataW.TrodAll enc Try.prog W 0 (fun _ => true) true Try.f8.params.toList args.toList ds p := hA0
  rw [Try.params8] at hA hval hsz
  obtain ⟨v0, vs0, d0, ds0, p0, q0, hargs, rfl, rfl, h0, r0⟩ := trodAll_cons hA
  obtain ⟨v1, vs1, d1, ds1, p1, q1, rfl, rfl, rfl, h1, r1⟩ := trodAll_cons r0
  obtain ⟨v2, vs2, d2, ds2, p2, q2, rfl, rfl, rfl, h2, r2⟩ := trodAll_cons r1
  obtain ⟨rfl, rfl, rfl⟩ := trodAll_nil r2
  obtain rfl : args = #[v0, v1, v2] := by cases args; simp_all
  obtain ⟨rfl, rfl⟩ := trodVars_none hV
  obtain ⟨a0, len0, cap0, rfl⟩ := okWide_slice Try.underlying22 (hval 0 22 v0 rfl rfl)
  have k0 := h0
  have lt0 : ∀ x ∈ p0, x.block < W.heap.size := by obtain ⟨m, hm⟩ := k0; exact DataW.trod_lt m _ _ _ hm
  obtain ⟨z0, w0⟩ : ∃ zs, IsRow .u8 W a0 len0 cap0 zs := by
    obtain ⟨fuel, hf⟩ := h0
    rcases open_ints Try.underlying22 Try.underlying5 (by kernel_rfl) hf with ⟨hcs, _⟩ | ⟨x, l, c, zs, hcs, _, hl, hm, hz, _, hcell, hwz⟩
    · simp [Value.cells] at hcs
      obtain ⟨rfl, rfl, rfl⟩ := hcs
      exact ⟨[], .inl ⟨rfl, rfl, rfl, rfl⟩⟩
    · simp [Value.cells] at hcs
      obtain ⟨rfl, rfl, rfl⟩ := hcs
      exact ⟨zs, .inr ⟨_, rfl, hl, hm, by simpa using hz, hcell, hwz⟩⟩
  have y0 : len0 * 1 ≤ 140737488351232 := Go.Proofs.YtkjkmaopifmghaaW.PrintWords.sized_ints hsz (j := 0) (t := 22) rfl rfl Try.underlying22 Try.underlying5 (by kernel_rfl) (by kernel_rfl) h0
  obtain ⟨l0, rfl, hr0, hm0, hw0, hc0⟩ := Go.Proofs.YtkjkmaopifmghaaW.PrintWords.ReadsInt.ofRowC w0
  obtain ⟨a1, len1, cap1, rfl⟩ := okWide_slice Try.underlying22 (hval 1 22 v1 rfl rfl)
  have k1 := h1
  have lt1 : ∀ x ∈ p1, x.block < W.heap.size := by obtain ⟨m, hm⟩ := k1; exact DataW.trod_lt m _ _ _ hm
  obtain ⟨z1, w1⟩ : ∃ zs, IsRow .u8 W a1 len1 cap1 zs := by
    obtain ⟨fuel, hf⟩ := h1
    rcases open_ints Try.underlying22 Try.underlying5 (by kernel_rfl) hf with ⟨hcs, _⟩ | ⟨x, l, c, zs, hcs, _, hl, hm, hz, _, hcell, hwz⟩
    · simp [Value.cells] at hcs
      obtain ⟨rfl, rfl, rfl⟩ := hcs
      exact ⟨[], .inl ⟨rfl, rfl, rfl, rfl⟩⟩
    · simp [Value.cells] at hcs
      obtain ⟨rfl, rfl, rfl⟩ := hcs
      exact ⟨zs, .inr ⟨_, rfl, hl, hm, by simpa using hz, hcell, hwz⟩⟩
  have y1 : len1 * 1 ≤ 140737488351232 := Go.Proofs.YtkjkmaopifmghaaW.PrintWords.sized_ints hsz (j := 1) (t := 22) rfl rfl Try.underlying22 Try.underlying5 (by kernel_rfl) (by kernel_rfl) h1
  obtain ⟨l1, rfl, hr1, hm1, hw1, hc1⟩ := Go.Proofs.YtkjkmaopifmghaaW.PrintWords.ReadsInt.ofRowC w1
  obtain ⟨a2, len2, cap2, rfl⟩ := okWide_slice Try.underlying65 (hval 2 65 v2 rfl rfl)
  have k2 := h2
  have lt2 : ∀ x ∈ p2, x.block < W.heap.size := by obtain ⟨m, hm⟩ := k2; exact DataW.trod_lt m _ _ _ hm
  obtain ⟨hmax2, hel2⟩ := elem_struct (C := 3) Try.underlying65 (by kernel_rfl) h2
  have hgets : ∀ i, ∃ g : Int × Int × Int, i < len2 → ∃ x, a2 = some x ∧ W.cell? (x.add (i * 3)) = some (.int .i64 g.1) ∧ W.cell? { block := (x.add (i * 3)).block, off := (x.add (i * 3)).off + 1 } = some (.int .i64 g.2.1) ∧ W.cell? { block := (x.add (i * 3)).block, off := (x.add (i * 3)).off + 2 } = some (.int .i64 g.2.2) ∧ g.2.2 < 9223372036854775808 := by
    intro i
    by_cases hi : i < len2
    · obtain ⟨x, cs, y, n, rfl, hlen, hat, ht⟩ := hel2 i hi
      match cs, hlen with
      | [c0, c1, c2], _ =>
        obtain ⟨xs, m, _, _, _, hxl, hf⟩ := DataW.trod_struct Try.underlying70 ht
        match xs, hxl with
        | [y0, y1, y2], _ =>
          obtain ⟨n0, e0, _, w0⟩ := DataW.trod_int Try.underlying3 (hf 0 _ rfl)
          obtain ⟨n1, e1, _, w1⟩ := DataW.trod_int Try.underlying3 (hf 1 _ rfl)
          obtain ⟨n2, e2, _, w2⟩ := DataW.trod_int Try.underlying3 (hf 2 _ rfl)
          have e0' : c0 = .int .i64 n0 := by
            have h : [c0] = [Value.int .i64 n0] := e0
            simpa using h
          have e1' : c1 = .int .i64 n1 := by
            have h : [c1] = [Value.int .i64 n1] := e1
            simpa using h
          have e2' : c2 = .int .i64 n2 := by
            have h : [c2] = [Value.int .i64 n2] := e2
            simpa using h
          subst e0' e1' e2'
          refine ⟨(n0, n1, n2), fun _ => ⟨x, rfl, ?_, ?_, ?_, ?_⟩⟩
          · exact hat 0 (by omega)
          · exact hat 1 (by omega)
          · exact hat 2 (by omega)
          · simp [Lit.wf, IntKind.min, IntKind.max, IntKind.signed, IntKind.bits] at w2
            show n2 < _
            omega
    · exact ⟨(0, 0, 0), fun h => absurd h hi⟩
  obtain ⟨G, hG⟩ := Classical.axiomOfChoice hgets
  clear hA0 hval0 hsz0 hsz
  have hb0 : ∀ x ∈ l0, 0 ≤ x ∧ x < 256 := fun x hx => by
    have h := hw0 x hx
    simp [Lit.wf, IntKind.min, IntKind.max, IntKind.signed, IntKind.bits] at h
    omega
  have hb1 : ∀ x ∈ l1, 0 ≤ x ∧ x < 256 := fun x hx => by
    have h := hw1 x hx
    simp [Lit.wf, IntKind.min, IntKind.max, IntKind.signed, IntKind.bits] at h
    omega
  have hk0 := slice_block Try.underlying22 (hval 0 22 _ rfl rfl)
  have hk1 := slice_block Try.underlying22 (hval 1 22 _ rfl rfl)
  have hm2 : len2 ≤ 9223372036854775807 := by simpa [maxLen] using hmax2
  refine (PureReads.reads_all a0 a1 a2 _ _ _ len2 G l0 l1 W (Go.Proofs.YtkjkmaopifmghaaW.PrintWords.Kd.C_of_reads (d := (0 : Int)) (h1 := fun _ => rfl) hr0) hc0 (by omega) hb0 hk0 (Go.Proofs.YtkjkmaopifmghaaW.PrintWords.Kd.C_of_reads (d := (0 : Int)) (h1 := fun _ => rfl) hr1) hc1 (by omega) hb1 hk1 (fun i hi => by obtain ⟨x, h1, h2, h3, h4, _⟩ := hG i hi; exact ⟨x, h1, h2, h3, h4⟩) hm2 (fun i hi => by obtain ⟨x, _, _, _, _, h⟩ := hG i hi; exact h)).mono fun e W' ⟨he, bel0⟩ => ?_
  have bel : Below W.heap.size W W' := by first | exact bel0 | exact bel0.below
  subst he
  exact ⟨_, rfl, _, _, _, [], _, [], hW', trodAll_mk1 (shut_bool Try.underlying4 _), (trodAll_cons_mk (Below.trod laidOut (by kernel_rfl) (of_decide_eq_true (by kernel_rfl)) k0 bel lt0) (trodAll_cons_mk (Below.trod laidOut (by kernel_rfl) (of_decide_eq_true (by kernel_rfl)) k1 bel lt1) (trodAll_cons_mk (Below.trod laidOut (by kernel_rfl) (of_decide_eq_true (by kernel_rfl)) k2 bel lt2) trodAll_mk0))), rfl, bel.frame _, fun h => by cases h⟩
theorem over : Rows.octetsReadsRow.holds Try.pinned (OpenSpec.ofChange Rows.octetsReadsSpec) :=
  OpenClaim.holds_of_wide 8 Try.f8 rfl rfl rfl rfl rfl rfl rfl ⟨rfl, rfl, rfl, rfl, rfl⟩ rfl rfl rfl rfl rfl (by kernel_rfl) Try.func8 (by kernel_rfl)
    (of_decide_eq_true (by kernel_rfl)) (by unfold Func.isWrapper; first | (rw [if_pos (by decide +kernel)]; kernel_rfl) | (rw [if_neg (by decide +kernel)]; exact ⟨rfl, rfl⟩))
    (fun os started H enc _ => lifted os started H enc)
theorem proved : Rows.OctetsReadsSaid := over
#print axioms proved
end Go.Proofs.Ytkjkmaopifmghaa.octetsReads
namespace Go.Proofs.Ytkjkmaopifmghaa
/-- The row, under a short name, for the claim. -/
theorem octetsReads_holds : Rows.OctetsReadsSaid := octetsReads.proved
end Go.Proofs.Ytkjkmaopifmghaa
