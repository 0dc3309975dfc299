/- The reading of a row of things to write, out of memory. -/
import Derived.Test.YtkjkmaopifmghaaOctThereP
import Derived.Test.YtkjkmaopifmghaaRows
import Derived.Test.YtkjkmaopifmghaaWSized
import Derived.WalkKit
import Derived.ProofKit
import Derived.OpenShut
import Derived.ChangeArms
import Derived.Deep.Slices
import Derived.Lib.SmallJoins
namespace Go.Proofs.Ytkjkmaopifmghaa.Oct
open Go.ChangeShapes Go.WideShapes Go.ChangeAt Go.RowKit Go.Joins
open Go.Proofs.YtkjkmaopifmghaaW.PrintWords Go.Proofs.Ytkjkmaopifmghaa.OctShort Go.Proofs.Ytkjkmaopifmghaa.OctCopy Go.Proofs.Ytkjkmaopifmghaa.OctNum Go.Proofs.Ytkjkmaopifmghaa.PureShort
set_option linter.unusedVariables false
set_option maxRecDepth 100000
set_option linter.unusedSimpArgs false
theorem bulk_app {H : Type} (a b : List (DataW H)) : Rows.uptoBulkAll (a ++ b) = Rows.uptoBulkAll a + Rows.uptoBulkAll b := by
  induction a with
  | nil => simp [Rows.uptoBulkAll]
  | cons x r ih => simp only [List.cons_append, Rows.uptoBulkAll, ih]; omega
theorem bulk_pos {H : Type} (x : DataW H) : 1 ≤ Rows.uptoBulk x := by
  cases x with
  | lit l => cases l <;> simp [Rows.uptoBulk]
  | _ => simp [Rows.uptoBulk]
theorem bulk_ge {H : Type} (l : List (DataW H)) : l.length ≤ Rows.uptoBulkAll l := by
  induction l with
  | nil => simp
  | cons x r ih =>
    have := bulk_pos x
    simp only [Rows.uptoBulkAll, List.length_cons]; omega
def bsum {H : Type} (D : Nat → DataW H) : Nat → Nat
  | 0 => 0
  | n + 1 => bsum D n + Rows.uptoBulk (D n)
theorem bulk_range {H : Type} (D : Nat → DataW H) : ∀ n, Rows.uptoBulkAll ((List.range n).map D) = bsum D n := by
  intro n
  induction n with
  | zero => simp [bsum, Rows.uptoBulkAll]
  | succ n ih => simp [List.range_succ, bulk_app, ih, bsum, Rows.uptoBulkAll]
theorem trod_float_ {H : Type} {enc : TypeId × Value → H} {P : Program} {w : World} {base : Nat} {spare : Nat → Bool} {held : Bool} {fuel : Nat} {t : TypeId} {cs : List Value} {x : DataW H × List MemPlace} {k : FloatKind} (ht : P.underlying t = some (.float k)) (h : DataW.trod enc P w base spare held fuel t cs = some x) : ∃ n, cs = [.float k n] ∧ x = (.lit (.float k n), []) ∧ (Lit.float k n).wf = true := by
  cases fuel with
  | zero => simp [DataW.trod] at h
  | succ n =>
    unfold DataW.trod at h
    rw [ht] at h
    split at h <;> simp_all
theorem elem_data {H : Type} {enc : TypeId × Value → H} {P : Program} {W : World} {base : Nat} {spare : Nat → Bool} {held : Bool} {t e : TypeId} {C : Nat} {a : Option Addr} {len cap : Nat} {d : DataW H} {ps : List MemPlace} (ht : P.underlying t = some (.slice e)) (hC : P.cellsOf e = C)
    (h : DataW.Trod enc P W base spare held t (.slice a len cap) d ps) : len ≤ maxLen ∧ ∃ D : Nat → DataW H, bsum D len ≤ Rows.uptoBulk d ∧ ∀ i, i < len → ∃ x cs y n, a = some x ∧ cs.length = C ∧ (∀ j, j < C → W.cell? ((x.add (i * C)).add j) = cs[j]?) ∧ DataW.trod enc P W base spare held n e cs = some (D i, y) := by
  obtain ⟨fuel, hf⟩ := h
  rcases Go.Deep.open_slice ht hf with ⟨hcs, _⟩ | ⟨x, l, c, m, n, D, Pl, hcs, _, hl, hcm, hm, hx, hi⟩
  · simp [Value.cells] at hcs
    obtain ⟨rfl, rfl, rfl⟩ := hcs
    exact ⟨Nat.zero_le _, fun _ => d, Nat.zero_le _, fun i h => absurd h (by omega)⟩
  · simp [Value.cells] at hcs
    obtain ⟨rfl, rfl, rfl⟩ := hcs
    obtain ⟨hx, _⟩ := Prod.mk.inj hx
    subst hx
    refine ⟨Nat.le_trans hl hcm, D, ?_, fun i hil => ?_⟩
    · simp only [Rows.uptoBulk, bulk_range]
      omega
    · have him : i < m := by
        rw [hm]
        split
        · omega
        · exact hil
      obtain ⟨cs, h1, h2⟩ := hi i him
      rw [hC] at h1
      obtain ⟨_, hlen, hat⟩ := World.cells?_some h1
      exact ⟨x, cs, _, n, rfl, hlen, hat, h2⟩
theorem raw_of {H : Type} {enc : TypeId × Value → H} {W : World} {held : Bool} {fuel : Nat} {c : Value} {x : DataW H × List MemPlace} (h : DataW.trod enc Try.prog W 0 (fun _ => true) held fuel 22 [c] = some x) :
    ∃ (A : Option Addr) (cap : Nat) (l : List Int), c = .slice A l.length cap ∧ l.length ≤ cap ∧ U8.C W A l.length l ∧ (∀ y ∈ l, 0 ≤ y ∧ y < 256) ∧ l.length + 1 ≤ Rows.uptoBulk x.1 ∧ (∀ ad, A = some ad → 0 < l.length → ad.block < W.heap.size) := by
  obtain ⟨a, len, cap, zs, rfl, hrow, hb⟩ : ∃ (a : Option Addr) (len cap : Nat) (zs : List Int), c = .slice a len cap ∧ ((a = none ∧ len = 0 ∧ cap = 0 ∧ zs = []) ∨ ∃ x, a = some x ∧ len ≤ cap ∧ cap ≤ maxLen ∧ zs.length = cap ∧ (∀ i, i < zs.length → W.cell? (x.add i) = some (.int .u8 (zs.getD i 0))) ∧ ∀ n ∈ zs, (Lit.int .u8 n).wf = true) ∧ len + 1 ≤ Rows.uptoBulk x.1 := by
    rcases open_ints Try.underlying22 Try.underlying5 (by kernel_rfl) h with ⟨hcs, rfl⟩ | ⟨a, len, cap, zs, hcs, _, hl, hm, hz, rfl, hcell, hwz⟩
    · obtain rfl : c = .slice none 0 0 := by simpa using hcs
      exact ⟨none, 0, 0, [], rfl, .inl ⟨rfl, rfl, rfl, rfl⟩, by simp [Rows.uptoBulk]⟩
    · obtain rfl : c = .slice (some a) len cap := by simpa using hcs
      have hz' : zs.length = cap := by simpa using hz
      refine ⟨some a, len, cap, zs, rfl, .inr ⟨a, rfl, hl, hm, hz', hcell, hwz⟩, ?_⟩
      have h1 := bulk_ge (lits (H := H) .u8 (zs.take len))
      have h2 : (lits (H := H) .u8 (zs.take len)).length = len := by simp [lits]; omega
      simp only [Rows.uptoBulk]
      omega
  obtain ⟨l, rfl, hr, hm, hw, hc⟩ := ReadsInt.ofRowC hrow
  have hC : U8.C W a l.length l := Kd.C_of_reads (d := (0 : Int)) (h1 := fun _ => rfl) hr
  refine ⟨a, cap, l, rfl, hc, hC, ?_, hb, ?_⟩
  · intro y hy
    have h := hw y hy
    simp [Lit.wf, IntKind.min, IntKind.max, IntKind.signed, IntKind.bits] at h
    omega
  · intro ad hA hp
    obtain ⟨_, _, h3⟩ := Kd.reads_of_C (d := (0 : Int)) hC
    obtain ⟨ad', hA', hc'⟩ := h3 hp
    obtain rfl : ad' = ad := Option.some.inj (hA'.symm.trans hA)
    have h := World.block_lt_of_cell? W _ (hc' 0 (by omega))
    rwa [block_addO] at h
theorem put_of {H : Type} {enc : TypeId × Value → H} {W : World} {held : Bool} {fuel : Nat} {cs : List Value} {D : DataW H} {ps : List MemPlace} (hlen : cs.length = 7) (h : DataW.trod enc Try.prog W 0 (fun _ => true) held fuel 42 cs = some (D, ps)) :
    ∃ d : PutD, cs = [.int .i64 d.on, .int .i64 d.kind, .int .u64 d.u, .int .i64 d.i, .float .f32 d.r, .string d.t, .slice d.A d.raw.length d.c] ∧ U8.C W d.A d.raw.length d.raw ∧ 8 + d.t.size + d.raw.length ≤ Rows.uptoBulk D ∧ (d.t.size ≤ 140737488351232 → d.raw.length ≤ 140737488351232 → PutOk W.heap.size d) := by
  match cs, hlen with
  | [c0, c1, c2, c3, c4, c5, c6], _ =>
    obtain ⟨xs, m, _, hx, _, hxl, hf⟩ := DataW.trod_struct Try.underlying42 h
    match xs, hxl with
    | [y0, y1, y2, y3, y4, y5, y6], _ =>
      obtain ⟨n0, e0, z0, w0⟩ := DataW.trod_int Try.underlying3 (hf 0 _ rfl)
      obtain ⟨n1, e1, z1, w1⟩ := DataW.trod_int Try.underlying3 (hf 1 _ rfl)
      obtain ⟨n2, e2, z2, w2⟩ := DataW.trod_int Try.underlying26 (hf 2 _ rfl)
      obtain ⟨n3, e3, z3, w3⟩ := DataW.trod_int Try.underlying2 (hf 3 _ rfl)
      obtain ⟨n4, e4, z4, w4⟩ := trod_float_ Try.underlying40 (hf 4 _ rfl)
      obtain ⟨n5, e5, z5, w5⟩ := DataW.trod_string Try.underlying9 (hf 5 _ rfl)
      have h6 : DataW.trod enc Try.prog W 0 (fun _ => true) held m 22 [c6] = some y6 := hf 6 _ rfl
      obtain ⟨A, cap, l, rfl, hc, hC, hb, hbk, hA⟩ := raw_of h6
      have e0' : c0 = .int .i64 n0 := by
        have h : [c0] = [Value.int .i64 n0] := e0
        simpa using h
      have e1' : c1 = .int .i64 n1 := by
        have h : [c1] = [Value.int .i64 n1] := e1
        simpa using h
      have e2' : c2 = .int .u64 n2 := by
        have h : [c2] = [Value.int .u64 n2] := e2
        simpa using h
      have e3' : c3 = .int .i64 n3 := by
        have h : [c3] = [Value.int .i64 n3] := e3
        simpa using h
      have e4' : c4 = .float .f32 n4 := by
        have h : [c4] = [Value.float .f32 n4] := e4
        simpa using h
      have e5' : c5 = .string n5 := by
        have h : [c5] = [Value.string n5] := e5
        simpa using h
      subst e0' e1' e2' e3' e4' e5'
      obtain ⟨hD, _⟩ := Prod.mk.inj hx
      subst z0 z1 z2 z3 z4 z5
      refine ⟨⟨n0, n1, n2, n3, n4, n5, A, cap, l⟩, rfl, hC, ?_, fun ht hl => ⟨hc, hA, hb, ?_, ?_, ?_, ht, hl⟩⟩
      · subst hD
        have z2 : n5.data.size = n5.size := rfl
        simp only [List.map, Rows.uptoBulk, Rows.uptoBulkAll, Array.length_toList]
        omega
      · simp [Lit.wf, IntKind.min, IntKind.max, IntKind.signed, IntKind.bits] at w2
        show 0 ≤ n2 ∧ n2 < _
        omega
      · simp [Lit.wf, IntKind.min, IntKind.max, IntKind.signed, IntKind.bits] at w3
        show _ ≤ n3 ∧ n3 < _
        omega
      · simp [Lit.wf] at w4
        show n4 < _
        omega
theorem puts_of {H : Type} {enc : TypeId × Value → H} {W : World} {held : Bool} {a : Option Addr} {len cap : Nat} {d : DataW H} {ps : List MemPlace} (h : DataW.Trod enc Try.prog W 0 (fun _ => true) held 31 (.slice a len cap) d ps) (hb : Rows.uptoBulk d ≤ 1048576) :
    ∃ (G : Nat → PutD) (J : Nat → Nat), PutsAt W a len G ∧ (∀ i, i < len → J i < 6 ∧ latchkeykit_Pick.f (G i).kind 6 = some (J i : Int)) ∧ tot G len ≤ 1073741824 := by
  obtain ⟨_, D, hsum, hel⟩ := elem_data (C := 7) Try.underlying31 (by kernel_rfl) h
  have hD : ∀ n i, i < n → Rows.uptoBulk (D i) ≤ bsum D n := by
    intro n
    induction n with
    | zero => intro i hi; omega
    | succ n ih =>
      intro i hi
      simp only [bsum]
      by_cases h : i < n
      · have := ih i h; omega
      · obtain rfl : i = n := by omega
        omega
  have hp : ∀ i, ∃ d : PutD, i < len → ∃ x, a = some x ∧ PutAt W (x.add (i * 7)) d ∧ PutOk W.heap.size d ∧ 8 + d.t.size + d.raw.length ≤ Rows.uptoBulk (D i) := by
    intro i
    by_cases hi : i < len
    · obtain ⟨x, cs, y, n, rfl, hlen, hat, ht⟩ := hel i hi
      obtain ⟨d, rfl, hC, hbk, hok⟩ := put_of hlen ht
      have h1 := hD len i hi
      exact ⟨d, fun _ => ⟨x, rfl, ⟨hat 0 (by omega), hat 1 (by omega), hat 2 (by omega), hat 3 (by omega), hat 4 (by omega), hat 5 (by omega), hat 6 (by omega), hC⟩, hok (by omega) (by omega), hbk⟩⟩
    · exact ⟨⟨0, 0, 0, 0, 0, ByteArray.empty, none, 0, []⟩, fun h => absurd h hi⟩
  obtain ⟨G, hG⟩ := Classical.axiomOfChoice hp
  have hj : ∀ i, ∃ j : Nat, i < len → j < 6 ∧ latchkeykit_Pick.f (G i).kind 6 = some (j : Int) := by
    intro i
    obtain ⟨j, h1, h2⟩ := pick_big (G i).kind 6 (by omega) (by omega)
    exact ⟨j, fun _ => ⟨h1, h2⟩⟩
  obtain ⟨J, hJ⟩ := Classical.axiomOfChoice hj
  refine ⟨G, J, fun i hi => ?_, hJ, ?_⟩
  · obtain ⟨x, h1, h2, h3, _⟩ := hG i hi
    exact ⟨x, h1, h2, h3⟩
  · have hs : ∀ n, n ≤ len → tot G n ≤ 16 * bsum D n := by
      intro n
      induction n with
      | zero => intro _; simp [tot]
      | succ n ih =>
        intro hn
        have h1 := ih (by omega)
        obtain ⟨_, _, _, _, h2⟩ := hG n (by omega)
        simp only [tot, bsum]
        omega
    have := hs len (Nat.le_refl _)
    omega
end Go.Proofs.Ytkjkmaopifmghaa.Oct
