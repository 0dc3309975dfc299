/- The reading of a value out of memory. -/
import Derived.Test.YtgkocbbpkiechaaValMay
import Derived.WalkKit
import Derived.ProofKit
import Derived.OpenShut
import Derived.ChangeArms
import Derived.SizedLaws
import Derived.Deep.Slices
import Derived.Lib.SmallJoins
namespace Go.Proofs.Ytgkocbbpkiechaa.ValW
open Go.ChangeShapes Go.WideShapes Go.ChangeAt Go.RowKit Go.Joins
open Go.Proofs.YtgkocbbpkiechaaW.PrintWords Go.Proofs.Ytgkocbbpkiechaa.Val
set_option linter.unusedVariables false
set_option maxRecDepth 100000
set_option linter.unusedSimpArgs false
theorem trod_float {H : Type} {enc : TypeId × Value → H} {P : Program} {w : World} {base : Nat} {spare : Nat → Bool} {held : Bool} {fuel : Nat} {t : TypeId} {cs : List Value} {x : DataW H × List MemPlace} {k : FloatKind} (ht : P.underlying t = some (.float k)) (h : DataW.trod enc P w base spare held fuel t cs = some x) : ∃ b, cs = [.float k b] ∧ x = (.lit (.float k b), []) ∧ (Lit.float k b).wf = true := by
  cases fuel with
  | zero => simp [DataW.trod] at h
  | succ n =>
    unfold DataW.trod at h
    rw [ht] at h
    split at h <;> simp_all
theorem i64_wf {n : Int} (h : (Lit.int .i64 n).wf = true) : -9223372036854775808 ≤ n ∧ n ≤ 9223372036854775807 := by
  have e1 : IntKind.i64.min = -9223372036854775808 := by decide
  have e2 : IntKind.i64.max = 9223372036854775807 := by decide
  simp only [Lit.wf, e1, e2, Bool.and_eq_true, decide_eq_true_eq] at h
  exact h
theorem array6 {α : Type} {cs : Array α} (h : cs.size = 6) : ∃ c0 c1 c2 c3 c4 c5, cs = #[c0, c1, c2, c3, c4, c5] := by
  obtain ⟨l⟩ := cs
  match l, h with
  | [c0, c1, c2, c3, c4, c5], _ => exact ⟨c0, c1, c2, c3, c4, c5, rfl⟩
/-- A list of texts that is read. -/
theorem texts_w {H : Type} {enc : TypeId × Value → H} {W : World} {base : Nat} {spare : Nat → Bool} {held : Bool} {fuel : Nat} {cs : List Value} {x : DataW H × List MemPlace} (h : DataW.trod enc Try.prog W base spare held fuel 23 cs = some x) :
    ∃ (A : Option Addr) (n c : Nat) (G : Nat → ByteArray), cs = [.slice A n c] ∧ TxAt W A n G ∧ n ≤ c ∧ n ≤ 9223372036854775807 ∧ (∀ j, j < n → (G j).size ≤ 9223372036854775807) ∧ ∀ ad, A = some ad → 0 < n → ad.block < W.heap.size := by
  rcases Go.Deep.open_slice1 Try.underlying23 (by kernel_rfl) h with ⟨hcs, _⟩ | ⟨a, len, cap, m, n, Vf, D, Pl, hcs, hb, hl, hm, hmm, hx, hi⟩
  · exact ⟨none, 0, 0, fun _ => ByteArray.empty, hcs, fun i hi => absurd hi (by omega), by omega, by omega, fun j hj => absurd hj (by omega), fun ad e => by cases e⟩
  · have hlen : len ≤ m := by rw [hmm]; split <;> omega
    have hs : ∀ i, ∃ s : ByteArray, i < len → Vf i = .string s ∧ s.size ≤ maxLen := by
      intro i
      by_cases hil : i < len
      · obtain ⟨h1, h2⟩ := hi i (by omega)
        obtain ⟨s, e, _, hsz⟩ := DataW.trod_string Try.underlying9 h2
        have e' : Vf i = .string s := by
          have h : [Vf i] = [Value.string s] := e
          simpa using h
        exact ⟨s, fun _ => ⟨e', hsz⟩⟩
      · exact ⟨ByteArray.empty, fun h => absurd h hil⟩
    refine ⟨some a, len, cap, fun i => (hs i).choose, hcs, fun i hil => ⟨a, rfl, ?_⟩, hl, ?_, fun j hj => ?_, fun ad e h0 => ?_⟩
    · have h1 := (hi i (by omega)).1
      rw [((hs i).choose_spec hil).1] at h1
      exact h1
    · simp only [maxLen] at hm; omega
    · exact Nat.le_trans ((hs j).choose_spec hj).2 (Nat.le_of_eq (by decide))
    · cases e
      have h1 := (hi 0 (by omega)).1
      have := World.block_lt_of_cell? W _ h1
      rw [show (a.add 0).block = a.block by unfold Addr.add; split <;> rfl] at this
      exact this
/-- A value that is read. -/
theorem val_w {H : Type} {enc : TypeId × Value → H} {W : World} {r : Reach} {b0 : Nat} {spare : Nat → Bool} {held : Bool} {base : Nat} {v : Value} {d : DataW H} {ps : List MemPlace} (hv : Value.okWide Try.prog W r b0 25 v) (h : DataW.Trod enc Try.prog W base spare held 25 v d ps) :
    ∃ (D : ValD) (A : Option Addr) (c : Nat), v = .agg #[.int .i64 D.kind, .bool D.bo, .int .i64 D.it, .float .f32 D.re, .string D.tx, .slice A D.n c] ∧ VAt W D A ∧ (D.n ≤ c ∧ -9223372036854775808 ≤ D.kind ∧ D.kind ≤ 9223372036854775807) ∧ ∀ ad, A = some ad → 0 < D.n → ad.block < W.heap.size := by
  obtain ⟨cs, rfl, hsz⟩ := okWide_struct Try.underlying25 hv
  obtain ⟨c0, c1, c2, c3, c4, c5, rfl⟩ := array6 (hsz.trans (by kernel_rfl))
  obtain ⟨fuel, hf⟩ := h
  obtain ⟨xs, m, _, hx, _, hxl, hf⟩ := DataW.trod_struct Try.underlying25 hf
  match xs, hxl with
  | [y0, y1, y2, y3, y4, y5], _ =>
    obtain ⟨n0, e0, z0, w0⟩ := DataW.trod_int Try.underlying3 (hf 0 _ rfl)
    obtain ⟨n1, e1, z1⟩ := DataW.trod_bool Try.underlying4 (hf 1 _ rfl)
    obtain ⟨n2, e2, z2, w2⟩ := DataW.trod_int Try.underlying2 (hf 2 _ rfl)
    obtain ⟨n3, e3, z3, w3⟩ := trod_float Try.underlying22 (hf 3 _ rfl)
    obtain ⟨n4, e4, z4, w4⟩ := DataW.trod_string Try.underlying9 (hf 4 _ rfl)
    obtain ⟨A, n, c, G, e5, t1, t2, t3, t4, t5⟩ := texts_w (hf 5 _ rfl)
    have e0' : c0 = .int .i64 n0 := by
      have h : [c0] = [Value.int .i64 n0] := e0
      simpa using h
    have e1' : c1 = .bool n1 := by
      have h : [c1] = [Value.bool n1] := e1
      simpa using h
    have e2' : c2 = .int .i64 n2 := by
      have h : [c2] = [Value.int .i64 n2] := e2
      simpa using h
    have e3' : c3 = .float .f32 n3 := by
      have h : [c3] = [Value.float .f32 n3] := e3
      simpa using h
    have e4' : c4 = .string n4 := by
      have h : [c4] = [Value.string n4] := e4
      simpa using h
    have e5' : c5 = .slice A n c := by
      have h : [c5] = [Value.slice A n c] := e5
      simpa using h
    subst e0' e1' e2' e3' e4' e5'
    have q0 : -9223372036854775808 ≤ n0 ∧ n0 ≤ 9223372036854775807 := i64_wf w0
    have q2 : -9223372036854775808 ≤ n2 ∧ n2 ≤ 9223372036854775807 := i64_wf w2
    have q3 : n3 < 4294967296 := by simp [Lit.wf] at w3; omega
    have q4 : n4.size ≤ 9223372036854775807 := by simp only [maxLen] at w4; omega
    exact ⟨⟨n0, n1, n2, n3, n4, n, G⟩, A, c, rfl, ⟨t1, q3, q2.1, q2.2, q4, t3, t4⟩, ⟨t2, q0.1, q0.2⟩, t5⟩
end Go.Proofs.Ytgkocbbpkiechaa.ValW
