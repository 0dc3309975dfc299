/- The reading of a row of things to write, out of memory, by the weights alone. -/
import Derived.Test.YtkjkmaopifmghaaKxOctP
import Derived.WalkKit
import Derived.ProofKit
import Derived.OpenShut
import Derived.ChangeArms
import Derived.SizedLaws
import Derived.Deep.Slices
import Derived.Lib.SmallJoins
namespace Go.Proofs.Ytkjkmaopifmghaa.OctPW
open Go.ChangeShapes Go.WideShapes Go.ChangeAt Go.RowKit Go.Joins
open Go.Proofs.YtkjkmaopifmghaaW.PrintWords Go.Proofs.Ytkjkmaopifmghaa.OctShort Go.Proofs.Ytkjkmaopifmghaa.OctCopy Go.Proofs.Ytkjkmaopifmghaa.OctNum Go.Proofs.Ytkjkmaopifmghaa.Oct
set_option linter.unusedVariables false
set_option maxRecDepth 100000
set_option linter.unusedSimpArgs false
theorem pick_w (a : Int) (n : Nat) (hn : 0 < n) (hn' : n ≤ 4611686018427387904) : ∃ j : Nat, j < n ∧ latchkeykit_Pick.f a (n : Int) = some (j : Int) := by
  unfold latchkeykit_Pick.f
  rw [if_neg (by omega), if_neg (by omega)]
  have h1 : Int.tmod a n < n := Int.tmod_lt_of_pos a (by omega)
  have h2 : -(n : Int) < Int.tmod a n := by
    have := Int.lt_tmod_of_pos a (b := (n : Int)) (by omega)
    omega
  by_cases h : Int.tmod a n < 0
  · rw [if_pos h]
    have : wrap64 (Int.tmod a n + n) = Int.tmod a n + n := by unfold wrap64; omega
    rw [this]
    exact ⟨(Int.tmod a n + n).toNat, by omega, by congr 1; omega⟩
  · rw [if_neg h]
    exact ⟨(Int.tmod a n).toNat, by omega, by congr 1; omega⟩
theorem all_mem {H : Type} {P : Program} {e : TypeId} {d : DataW H} {n : Nat} : ∀ {l : List (DataW H)}, d ∈ l → n ∈ d.weights P e → n ∈ DataW.weightsAll P e l
  | x :: r, hd, hn => by
    simp only [DataW.weightsAll, List.mem_append]
    cases List.mem_cons.1 hd with
    | inl h => subst h; exact Or.inl hn
    | inr h => exact Or.inr (all_mem h hn)
theorem float_ {H : Type} {enc : TypeId × Value → H} {P : Program} {w : World} {base : Nat} {spare : Nat → Bool} {held : Bool} {fuel : Nat} {t : TypeId} {cs : List Value} {x : DataW H × List MemPlace} {k : FloatKind} (ht : P.underlying t = some (.float k)) (h : DataW.trod enc P w base spare held fuel t cs = some x) : ∃ n, cs = [.float k n] ∧ x = (.lit (.float k n), []) ∧ (Lit.float k n).wf = true := by
  cases fuel with
  | zero => simp [DataW.trod] at h
  | succ n =>
    unfold DataW.trod at h
    rw [ht] at h
    split at h <;> simp_all
theorem elem_w {H : Type} {enc : TypeId × Value → H} {P : Program} {W : World} {base : Nat} {spare : Nat → Bool} {held : Bool} {t e : TypeId} {C : Nat} {a : Option Addr} {len cap : Nat} {d : DataW H} {ps : List MemPlace} (ht : P.underlying t = some (.slice e)) (hC : P.cellsOf e = C)
    (h : DataW.Trod enc P W base spare held t (.slice a len cap) d ps) : len ≤ maxLen ∧ ∃ D : Nat → DataW H, (∀ i, i < len → (∀ n ∈ (D i).weights P e, n ∈ d.weights P t) ∧ len * P.bytesOf e ≤ (d.weights P t).headD 0) ∧ ∀ i, i < len → ∃ x cs y n, a = some x ∧ cs.length = C ∧ (∀ j, j < C → W.cell? ((x.add (i * C)).add j) = cs[j]?) ∧ DataW.trod enc P W base spare held n e cs = some (D i, y) := by
  obtain ⟨fuel, hf⟩ := h
  rcases Go.Deep.open_slice ht hf with ⟨hcs, _⟩ | ⟨x, l, c, m, n, D, Pl, hcs, _, hl, hcm, hm, hx, hi⟩
  · simp [Value.cells] at hcs
    obtain ⟨rfl, rfl, rfl⟩ := hcs
    exact ⟨Nat.zero_le _, fun _ => d, fun i h => absurd h (by omega), fun i h => absurd h (by omega)⟩
  · simp [Value.cells] at hcs
    obtain ⟨rfl, rfl, rfl⟩ := hcs
    obtain ⟨hx, _⟩ := Prod.mk.inj hx
    subst hx
    refine ⟨Nat.le_trans hl hcm, D, fun i hil => ⟨fun k hk => ?_, ?_⟩, fun i hil => ?_⟩
    · simp only [DataW.weights, ht, List.mem_cons, List.mem_append]
      exact Or.inr (Or.inl (all_mem (List.mem_map.2 ⟨i, List.mem_range.2 hil, rfl⟩) hk))
    · simp only [DataW.weights, ht, List.headD_cons, List.length_map, List.length_range]
      exact Nat.mul_le_mul_right _ (by omega)
    · have him : i < m := by
        rw [hm]
        split
        · omega
        · exact hil
      obtain ⟨cs, h1, h2⟩ := hi i him
      rw [hC] at h1
      obtain ⟨_, hlen, hat⟩ := World.cells?_some h1
      exact ⟨x, cs, _, n, rfl, hlen, hat, h2⟩
theorem raw_w {H : Type} {enc : TypeId × Value → H} {W : World} {held : Bool} {fuel : Nat} {c : Value} {x : DataW H × List MemPlace} (h : DataW.trod enc Try.prog W 0 (fun _ => true) held fuel 22 [c] = some x) :
    ∃ (A : Option Addr) (cap : Nat) (l : List Int), c = .slice A l.length cap ∧ l.length ≤ cap ∧ U8.C W A l.length l ∧ (∀ y ∈ l, 0 ≤ y ∧ y < 256) ∧ ((∀ n ∈ x.1.weights Try.prog 22, n ≤ reachBytes) → l.length ≤ reachBytes) ∧ (∀ ad, A = some ad → 0 < l.length → ad.block < W.heap.size) := by
  obtain ⟨a, len, cap, zs, rfl, hrow, hb⟩ : ∃ (a : Option Addr) (len cap : Nat) (zs : List Int), c = .slice a len cap ∧ ((a = none ∧ len = 0 ∧ cap = 0 ∧ zs = []) ∨ ∃ x, a = some x ∧ len ≤ cap ∧ cap ≤ maxLen ∧ zs.length = cap ∧ (∀ i, i < zs.length → W.cell? (x.add i) = some (.int .u8 (zs.getD i 0))) ∧ ∀ n ∈ zs, (Lit.int .u8 n).wf = true) ∧ ((∀ n ∈ x.1.weights Try.prog 22, n ≤ reachBytes) → len ≤ reachBytes) := by
    rcases open_ints Try.underlying22 Try.underlying5 (by kernel_rfl) h with ⟨hcs, rfl⟩ | ⟨a, len, cap, zs, hcs, _, hl, hm, hz, rfl, hcell, hwz⟩
    · obtain rfl : c = .slice none 0 0 := by simpa using hcs
      exact ⟨none, 0, 0, [], rfl, .inl ⟨rfl, rfl, rfl, rfl⟩, fun _ => Nat.zero_le _⟩
    · obtain rfl : c = .slice (some a) len cap := by simpa using hcs
      have hz' : zs.length = cap := by simpa using hz
      refine ⟨some a, len, cap, zs, rfl, .inr ⟨a, rfl, hl, hm, hz', hcell, hwz⟩, fun hk => ?_⟩
      have h0 := hk _ (by simp only [DataW.weights, Try.underlying22]; exact List.mem_cons_self ..)
      have hb1 : Try.prog.bytesOf 5 = 1 := by kernel_rfl
      rw [hb1] at h0
      have h2 : (lits (H := H) .u8 (zs.take len)).length = len := by simp [lits]; omega
      omega
  obtain ⟨l, rfl, hr, hm, hw, hc⟩ := ReadsInt.ofRowC hrow
  have hC : U8.C W a l.length l := Kd.C_of_reads (d := (0 : Int)) (h1 := fun _ => rfl) hr
  refine ⟨a, cap, l, rfl, hc, hC, ?_, hb, ?_⟩
  · intro y hy
    have h := hw y hy
    simp [Lit.wf, IntKind.min, IntKind.max, IntKind.signed, IntKind.bits] at h
    omega
  · intro ad hA hp
    obtain ⟨_, _, h3⟩ := Kd.reads_of_C (d := (0 : Int)) hC
    obtain ⟨ad', hA', hc'⟩ := h3 hp
    obtain rfl : ad' = ad := Option.some.inj (hA'.symm.trans hA)
    have h := World.block_lt_of_cell? W _ (hc' 0 (by omega))
    rwa [block_addO] at h
theorem put_w {H : Type} {enc : TypeId × Value → H} {W : World} {held : Bool} {fuel : Nat} {cs : List Value} {D : DataW H} {ps : List MemPlace} (hlen : cs.length = 7) (h : DataW.trod enc Try.prog W 0 (fun _ => true) held fuel 42 cs = some (D, ps)) (hk : ∀ n ∈ D.weights Try.prog 42, n ≤ reachBytes) :
    ∃ d : PutD, cs = [.int .i64 d.on, .int .i64 d.kind, .int .u64 d.u, .int .i64 d.i, .float .f32 d.r, .string d.t, .slice d.A d.raw.length d.c] ∧ U8.C W d.A d.raw.length d.raw ∧ PutOk W.heap.size d := by
  match cs, hlen with
  | [c0, c1, c2, c3, c4, c5, c6], _ =>
    obtain ⟨xs, m, _, hx, _, hxl, hf⟩ := DataW.trod_struct Try.underlying42 h
    match xs, hxl with
    | [y0, y1, y2, y3, y4, y5, y6], _ =>
      obtain ⟨n0, e0, z0, w0⟩ := DataW.trod_int Try.underlying3 (hf 0 _ rfl)
      obtain ⟨n1, e1, z1, w1⟩ := DataW.trod_int Try.underlying3 (hf 1 _ rfl)
      obtain ⟨n2, e2, z2, w2⟩ := DataW.trod_int Try.underlying26 (hf 2 _ rfl)
      obtain ⟨n3, e3, z3, w3⟩ := DataW.trod_int Try.underlying2 (hf 3 _ rfl)
      obtain ⟨n4, e4, z4, w4⟩ := float_ Try.underlying40 (hf 4 _ rfl)
      obtain ⟨n5, e5, z5, w5⟩ := DataW.trod_string Try.underlying9 (hf 5 _ rfl)
      have h6 : DataW.trod enc Try.prog W 0 (fun _ => true) held m 22 [c6] = some y6 := hf 6 _ rfl
      obtain ⟨A, cap, l, rfl, hc, hC, hb, hbk, hA⟩ := raw_w h6
      have e0' : c0 = .int .i64 n0 := by
        have h : [c0] = [Value.int .i64 n0] := e0
        simpa using h
      have e1' : c1 = .int .i64 n1 := by
        have h : [c1] = [Value.int .i64 n1] := e1
        simpa using h
      have e2' : c2 = .int .u64 n2 := by
        have h : [c2] = [Value.int .u64 n2] := e2
        simpa using h
      have e3' : c3 = .int .i64 n3 := by
        have h : [c3] = [Value.int .i64 n3] := e3
        simpa using h
      have e4' : c4 = .float .f32 n4 := by
        have h : [c4] = [Value.float .f32 n4] := e4
        simpa using h
      have e5' : c5 = .string n5 := by
        have h : [c5] = [Value.string n5] := e5
        simpa using h
      subst e0' e1' e2' e3' e4' e5'
      obtain ⟨hD, _⟩ := Prod.mk.inj hx
      subst z0 z1 z2 z3 z4 z5
      subst hD
      have ht : n5.size ≤ reachBytes := by
        have z := hk n5.data.toList.length (by simp [DataW.weights, DataW.weightsEach, Try.underlying42])
        rw [Array.length_toList] at z
        exact z
      have hl : l.length ≤ reachBytes := hbk fun n hn => hk n (by simp [DataW.weights, DataW.weightsEach, Try.underlying42, hn])
      refine ⟨⟨n0, n1, n2, n3, n4, n5, A, cap, l⟩, rfl, hC, ⟨hc, hA, hb, ?_, ?_, ?_, ht, hl⟩⟩
      · simp [Lit.wf, IntKind.min, IntKind.max, IntKind.signed, IntKind.bits] at w2
        show 0 ≤ n2 ∧ n2 < _
        omega
      · simp [Lit.wf, IntKind.min, IntKind.max, IntKind.signed, IntKind.bits] at w3
        show _ ≤ n3 ∧ n3 < _
        omega
      · simp [Lit.wf] at w4
        show n4 < _
        omega
theorem puts_w {H : Type} {enc : TypeId × Value → H} {W : World} {held : Bool} {a : Option Addr} {len cap : Nat} {d : DataW H} {ps : List MemPlace} (h : DataW.Trod enc Try.prog W 0 (fun _ => true) held 31 (.slice a len cap) d ps) (hb : ∀ n ∈ d.weights Try.prog 31, n ≤ reachBytes) :
    ∃ (G : Nat → PutD) (J O : Nat → Nat), PutsAt W a len G ∧ (∀ i, i < len → J i < 6 ∧ latchkeykit_Pick.f (G i).kind 6 = some (J i : Int)) ∧ (∀ i, i < len → O i < 2 ∧ latchkeykit_Pick.f (G i).on 2 = some (O i : Int)) ∧ len ≤ 9223372036854775806 := by
  obtain ⟨hmax, D, hw, hel⟩ := elem_w (C := 7) Try.underlying31 (by kernel_rfl) h
  have hp : ∀ i, ∃ d : PutD, i < len → ∃ x, a = some x ∧ PutAt W (x.add (i * 7)) d ∧ PutOk W.heap.size d := by
    intro i
    by_cases hi : i < len
    · obtain ⟨x, cs, y, n, rfl, hlen, hat, ht⟩ := hel i hi
      obtain ⟨d, rfl, hC, hok⟩ := put_w hlen ht (fun n hn => hb n ((hw i hi).1 n hn))
      exact ⟨d, fun _ => ⟨x, rfl, ⟨hat 0 (by omega), hat 1 (by omega), hat 2 (by omega), hat 3 (by omega), hat 4 (by omega), hat 5 (by omega), hat 6 (by omega), hC⟩, hok⟩⟩
    · exact ⟨⟨0, 0, 0, 0, 0, ByteArray.empty, none, 0, []⟩, fun h => absurd h hi⟩
  obtain ⟨G, hG⟩ := Classical.axiomOfChoice hp
  have hj : ∀ i, ∃ j : Nat, i < len → j < 6 ∧ latchkeykit_Pick.f (G i).kind 6 = some (j : Int) := by
    intro i
    obtain ⟨j, h1, h2⟩ := pick_w (G i).kind 6 (by omega) (by omega)
    exact ⟨j, fun _ => ⟨h1, h2⟩⟩
  obtain ⟨J, hJ⟩ := Classical.axiomOfChoice hj
  have ho : ∀ i, ∃ j : Nat, i < len → j < 2 ∧ latchkeykit_Pick.f (G i).on 2 = some (j : Int) := by
    intro i
    obtain ⟨j, h1, h2⟩ := pick_w (G i).on 2 (by omega) (by omega)
    exact ⟨j, fun _ => ⟨h1, h2⟩⟩
  obtain ⟨O, hO⟩ := Classical.axiomOfChoice ho
  refine ⟨G, J, O, fun i hi => ?_, hJ, hO, ?_⟩
  · obtain ⟨x, h1, h2, h3⟩ := hG i hi
    exact ⟨x, h1, h2, h3⟩
  · have := hmax
    cases hn : len with
    | zero => omega
    | succ k =>
      have h1 := (hw 0 (by omega)).2
      have hb1 : Try.prog.bytesOf 42 = 80 := by kernel_rfl
      rw [hb1] at h1
      have h2 : (d.weights Try.prog 31).headD 0 ≤ reachBytes := by
        cases hwl : d.weights Try.prog 31 with
        | nil => simp
        | cons z r => exact hb z (by rw [hwl]; exact List.mem_cons_self ..)
      simp only [reachBytes] at h2
      omega
end Go.Proofs.Ytkjkmaopifmghaa.OctPW
