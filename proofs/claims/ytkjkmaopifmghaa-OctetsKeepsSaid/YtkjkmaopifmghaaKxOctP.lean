/- Things to write, as they lie in memory; tooMuch (plain walk). -/
import Derived.Test.YtkjkmaopifmghaaKxOctD
import Derived.Test.YtkjkmaopifmghaaOctCopyx1
import Derived.Test.YtkjkmaopifmghaaKxPureForms
import Derived.RegionTactic
import Derived.ChangeAlike
import Derived.Deep.QuietTactic
import Derived.BigQuiet
import Derived.Deep.RegionHeld3
namespace Go.Proofs.Ytkjkmaopifmghaa.Oct
open Go.RowKit Go.Proofs.YtkjkmaopifmghaaW.PrintWords Go.Proofs.YtkjkmaopifmghaaW.PrintLast Go.Proofs.YtkjkmaopifmghaaW.PrintMore Go.Proofs.Ytkjkmaopifmghaa.OctShort Go.Proofs.Ytkjkmaopifmghaa.OctCopy Go.Proofs.Ytkjkmaopifmghaa.OctNum
set_option linter.unusedVariables false
set_option linter.unusedSimpArgs false
set_option maxRecDepth 100000
structure PutD where
  on : Int
  kind : Int
  u : Int
  i : Int
  r : Nat
  t : ByteArray
  A : Option Addr
  c : Nat
  raw : List Int
/-- A thing to write at the address p. -/
structure PutAt (w : World) (p : Addr) (d : PutD) : Prop where
  c0 : w.cell? p = some (.int .i64 d.on)
  c1 : w.cell? { block := p.block, off := p.off + 1 } = some (.int .i64 d.kind)
  c2 : w.cell? { block := p.block, off := p.off + 2 } = some (.int .u64 d.u)
  c3 : w.cell? { block := p.block, off := p.off + 3 } = some (.int .i64 d.i)
  c4 : w.cell? { block := p.block, off := p.off + 4 } = some (.float .f32 d.r)
  c5 : w.cell? { block := p.block, off := p.off + 5 } = some (.string d.t)
  c6 : w.cell? { block := p.block, off := p.off + 6 } = some (.slice d.A d.raw.length d.c)
  raw : U8.C w d.A d.raw.length d.raw
structure PutOk (hs : Nat) (d : PutD) : Prop where
  hc : d.raw.length ≤ d.c
  hA : ∀ ad, d.A = some ad → 0 < d.raw.length → ad.block < hs
  hb : ∀ x ∈ d.raw, 0 ≤ x ∧ x < 256
  hu : 0 ≤ d.u ∧ d.u < 18446744073709551616
  hi : -9223372036854775808 ≤ d.i ∧ d.i < 9223372036854775808
  hr : d.r < 4294967296
  ht : d.t.size ≤ 140737488351232
  hl : d.raw.length ≤ 140737488351232
def PutsAt (w : World) (A : Option Addr) (n : Nat) (G : Nat → PutD) : Prop := ∀ i, i < n → ∃ ad, A = some ad ∧ PutAt w (ad.add (i * 7)) (G i) ∧ PutOk w.heap.size (G i)
theorem PutAt.below {w w' : World} {p : Addr} {d : PutD} (h : PutAt w p d) (hb : Below w.heap.size w w') : PutAt w' p d :=
  ⟨(hb.cell (World.block_lt_of_cell? w _ h.c0)).trans h.c0, (hb.cell (World.block_lt_of_cell? w _ h.c1)).trans h.c1, (hb.cell (World.block_lt_of_cell? w _ h.c2)).trans h.c2, (hb.cell (World.block_lt_of_cell? w _ h.c3)).trans h.c3, (hb.cell (World.block_lt_of_cell? w _ h.c4)).trans h.c4, (hb.cell (World.block_lt_of_cell? w _ h.c5)).trans h.c5, (hb.cell (World.block_lt_of_cell? w _ h.c6)).trans h.c6, Kd.C_below h.raw hb⟩
/-- What so many of them count. -/
def tot (G : Nat → PutD) : Nat → Nat
  | 0 => 0
  | j + 1 => tot G j + (16 + (G j).t.size + (G j).raw.length)
theorem tot_mono (G : Nat → PutD) (j : Nat) : ∀ d, tot G j ≤ tot G (j + d) := by
  intro d
  induction d with
  | zero => exact Nat.le_refl _
  | succ d ih => show _ ≤ tot G (j + d) + _; omega
theorem sums_in (x : Int) (a b : Nat) (x0 : 0 ≤ x) (x1 : x ≤ 1073741824) (ha : a ≤ 140737488351232) (hb : b ≤ 140737488351232) :
    wrap64 (x - 16) = x - 16 ∧ wrap64 (x - 16 - (a : Int)) = x - 16 - (a : Int) ∧ wrap64 (x - 16 - (a : Int) - (b : Int)) = x - 16 - (a : Int) - (b : Int) ∧ IntKind.i64.wrap (x - 16) = x - 16 ∧ IntKind.i64.wrap (x - 16 - (a : Int)) = x - 16 - (a : Int) ∧ IntKind.i64.wrap (x - 16 - (a : Int) - (b : Int)) = x - 16 - (a : Int) - (b : Int) := by
  refine ⟨?_, ?_, ?_, ?_, ?_, ?_⟩
  · unfold wrap64; omega
  · unfold wrap64; omega
  · unfold wrap64; omega
  · rw [IntKind.wrap_i64]; omega
  · rw [IntKind.wrap_i64]; omega
  · rw [IntKind.wrap_i64]; omega
theorem wrap_next (j n : Nat) (hn : n ≤ 9223372036854775806) (hj : j < n) : wrap64 ((j : Int) + 1) = ((j + 1 : Nat) : Int) := by unfold wrap64; omega
theorem tot_big (G : Nat → PutD) (j n : Nat) (x : Int) (hx : x = 1073741824 - (tot G j : Int)) (hneg : x - 16 - ((G j).t.size : Int) - ((G j).raw.length : Int) < 0) (hj : j < n) : 1073741824 < tot G n := by
  have h1 := tot_mono G (j + 1) (n - (j + 1))
  have e : j + 1 + (n - (j + 1)) = n := by omega
  rw [e] at h1
  have hst : tot G (j + 1) = tot G j + (16 + (G j).t.size + (G j).raw.length) := rfl
  omega
theorem tot_next (G : Nat → PutD) (j : Nat) (x : Int) (hx : x = 1073741824 - (tot G j : Int)) : x - 16 - ((G j).t.size : Int) - ((G j).raw.length : Int) = 1073741824 - (tot G (j + 1) : Int) := by
  have hst : tot G (j + 1) = tot G j + (16 + (G j).t.size + (G j).raw.length) := rfl
  omega
set_option maxHeartbeats 1000000 in
theorem tooMuch_calls (w : World) (A : Option Addr) (n c : Nat) (G : Nat → PutD) (h : PutsAt w A n G) (hn : n ≤ 9223372036854775806) :
    Calls Try.prog 16 #[.slice A n c] w fun e w' => e = .returned (.bool (decide (1073741824 < tot G n))) ∧ ∃ m, w' = w.drewN m := by
  have H := Aside0.mk h
  have HNB := Aside0.mk hn
  obtain ⟨B, hB⟩ : ∃ B, B = decide (1073741824 < tot G n) := ⟨_, rfl⟩
  rw [← hB]
  have HB := Aside0.mk hB
  clear h hn hB
  go_enter Try.func16, Try.ntmps16
  go_wp2
  go_loopg [3, 4] (n + 1) (fun kq v3 v4 w' => ∃ j m : Nat, ∃ x : Int, v4 = .int .i64 (j : Int) ∧ v3 = .int .i64 x ∧ Aside0 (x = 1073741824 - (tot G j : Int)) ∧ Aside0 (0 ≤ x) ∧ Aside0 (kq + j = n + 1) ∧ Aside0 (j ≤ n) ∧ w' = w.drewN m)
  case atStart => exact ⟨0, 0, 1073741824, rfl, rfl, ⟨by simp [tot]⟩, ⟨by omega⟩, ⟨rfl⟩, ⟨Nat.zero_le _⟩, rfl⟩
  case round =>
    obtain ⟨j, m, x, rfl, rfl, HX, HX0, HK, HJ, rfl⟩ := hrel
    cases gk with
    | zero => exact absurd HK.out (by have := HJ.out; omega)
    | succ k1 =>
      by_cases hlt : j < n
      · obtain ⟨ad, rfl, q, ok⟩ := H.out j hlt
        have q5 : w.cell? { block := (ad.add (j * 7)).block, off := (ad.add (j * 7)).off + 5 } = some (.string (G j).t) := q.c5
        have q6 : w.cell? { block := (ad.add (j * 7)).block, off := (ad.add (j * 7)).off + 6 } = some (.slice (G j).A (G j).raw.length (G j).c) := q.c6
        have hji : (0 : Int) ≤ (j : Int) := by omega
        have hjm : (j : Int) < (n : Int) := by omega
        have b1 := ok.ht
        have b2 := ok.hl
        have x0 := HX0.out
        have x1 : x ≤ 1073741824 := by have := HX.out; omega
        have EE := sums_in x _ _ x0 x1 b1 b2
        obtain ⟨e1, e2, e3, f1, f2, f3⟩ := EE
        have E4 : Aside0 (wrap64 ((j : Int) + 1) = ((j + 1 : Nat) : Int)) := ⟨wrap_next j n HNB.out hlt⟩
        have e4 := E4.out
        by_cases hneg : x - 16 - ((G j).t.size : Int) - ((G j).raw.length : Int) < 0
        · have hb := tot_big G j n x HX.out hneg hlt
          have HBT : Aside0 (B = true) := ⟨by rw [HB.out, decide_eq_true hb]⟩
          have hd : decide (x - 16 - ((G j).t.size : Int) - ((G j).raw.length : Int) < 0) = true := decide_eq_true hneg
          clear hb e4 b1 b2 x1 hneg q ok
          go_wp2
          go_quiet (fail)
          go_wp2
          go_ret
          exact ⟨by rw [HBT.out]; rfl, _, rfl⟩
        · have hd : decide (x - 16 - ((G j).t.size : Int) - ((G j).raw.length : Int) < 0) = false := decide_eq_false hneg
          have HT := Aside0.mk (tot_next G j x HX.out)
          have HN := Aside0.mk hneg
          clear e4 b1 b2 x1 hneg q ok
          go_wp2
          go_quiet (fail)
          go_wp2
          go_roundg k1
          case measure => omega
          case rel => exact ⟨j + 1, _, x - 16 - ((G j).t.size : Int) - ((G j).raw.length : Int), by first | rfl | (rw [← E4.out]), rfl, HT, ⟨by have := HN.out; omega⟩, ⟨by have := HK.out; omega⟩, ⟨by omega⟩, rfl⟩
      · have hjn : j = n := by have := HJ.out; omega
        have HBT : Aside0 (B = false) := ⟨by rw [HB.out]; refine decide_eq_false ?_; have := HX.out; have := HX0.out; rw [← hjn]; omega⟩
        have hd : decide ((j : Int) < (n : Int)) = false := decide_eq_false (by omega)
        clear hjn
        go_wp2
        go_ret
        exact ⟨by rw [HBT.out]; rfl, _, rfl⟩
end Go.Proofs.Ytkjkmaopifmghaa.Oct
