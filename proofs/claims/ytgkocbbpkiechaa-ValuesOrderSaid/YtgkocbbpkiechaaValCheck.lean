/- values.Check: may a value be? (a plain walk) -/
import Derived.Test.YtgkocbbpkiechaaValKey
namespace Go.Proofs.Ytgkocbbpkiechaa.Val
open Go.RowKit Go.Proofs.YtgkocbbpkiechaaW.PrintWords Go.Proofs.YtgkocbbpkiechaaW.PrintLast Go.Proofs.YtgkocbbpkiechaaW.PrintMore Go.Proofs.Ytgkocbbpkiechaa.Flt
set_option linter.unusedVariables false
set_option linter.unusedSimpArgs false
set_option maxRecDepth 100000
/-- A value's words. -/
structure ValD where
  kind : Int
  bo : Bool
  it : Int
  re : Nat
  tx : ByteArray
  n : Nat
  G : Nat → ByteArray
abbrev valV (d : ValD) (A : Option Addr) (c : Nat) : Value := .agg #[.int .i64 d.kind, .bool d.bo, .int .i64 d.it, .float .f32 d.re, .string d.tx, .slice A d.n c]
def chkK (k : Int) (bb ii rr tt ll : Bool) : Bool :=
  if k = 1 then !(ii || rr || tt || ll) else if k = 2 then !(bb || rr || tt || ll) else if k = 3 then !(bb || ii || tt || ll) else if k = 4 then !(bb || ii || rr || ll) else if k = 5 then !(bb || ii || rr || tt) else false
def shortL (n : Nat) (G : Nat → ByteArray) : Bool := decide (∀ j, j < n → (G j).size ≤ 256)
def chk (d : ValD) : Bool := decide (d.tx.size ≤ 256) && decide (d.n ≤ 32) && shortL d.n d.G && chkK d.kind d.bo (d.it != 0) (FloatKind.f32.format.order d.re 0 != some .eq) (!d.tx.toList.isEmpty) (decide (0 < d.n))
def errK (b : Bool) : Int := if b then 0 else 40
theorem box6 {w : World} {q : Nat} {a b c d e f : Value} {T : TypeId} (h : w.heap[q]? = some (.cells #[a, b, c, d, e, f] T (0, 0))) : w.cell? ⟨q, 0, none⟩ = some a ∧ w.cell? ⟨q, 1, none⟩ = some b ∧ w.cell? ⟨q, 2, none⟩ = some c ∧ w.cell? ⟨q, 3, none⟩ = some d ∧ w.cell? ⟨q, 4, none⟩ = some e ∧ w.cell? ⟨q, 5, none⟩ = some f :=
  ⟨by rw [blk_cell h]; rfl, by rw [blk_cell h]; rfl, by rw [blk_cell h]; rfl, by rw [blk_cell h]; rfl, by rw [blk_cell h]; rfl, by rw [blk_cell h]; rfl⟩
theorem check_calls (w : World) (d : ValD) (A : Option Addr) (c : Nat) (h : TxAt w A d.n d.G) (ht : d.tx.size ≤ 9223372036854775807) (hn : d.n ≤ 9223372036854775807) (hg : ∀ j, j < d.n → (d.G j).size ≤ 9223372036854775807) :
    Calls Try.prog 8 #[valV d A c] w fun e w' => e = .returned (.int .i64 (errK (chk d))) ∧ Below w.heap.size w w' := by
  obtain ⟨kd, bb, ni, rb, tx, n, G⟩ := d
  have H := Aside0.mk h
  have HN := Aside0.mk hn
  have HG := Aside0.mk hg
  clear h hn hg
  unfold valV
  simp only at ht H HN HG ⊢
  go_enter Try.func8, Try.ntmps8
  go_upto_region 1 with (fail)
  have T1 := Aside0.mk (heap_alloc_new w (.cells #[.int .i64 kd, .bool bb, .int .i64 ni, .float .f32 rb, .string tx, .slice A n c] 25))
  have B1 := Aside0.mk (below_alloc (Below.refl w.heap.size w) (.cells #[.int .i64 kd, .bool bb, .int .i64 ni, .float .f32 rb, .string tx, .slice A n c] 25))
  generalize w.alloc (.cells #[.int .i64 kd, .bool bb, .int .i64 ni, .float .f32 rb, .string tx, .slice A n c] 25) = W1 at T1 B1 ⊢
  have HW := B1
  clear B1
  generalize w.heap.size = q at T1 ⊢
  obtain ⟨p0, p1, p2, p3, p4, p5⟩ := box6 T1.out
  by_cases htx : 256 < tx.size
  · have hd : decide ((tx.size : Int) > 256) = true := decide_eq_true (by omega)
    have hr : Aside0 (chk ⟨kd, bb, ni, rb, tx, n, G⟩ = false) := ⟨by unfold chk; rw [decide_eq_false (p := tx.size ≤ 256) (by omega)]; rfl⟩
    go_wp2
    go_ret
    exact ⟨by rw [hr.out]; rfl, HW.out⟩
  · have hd : decide ((tx.size : Int) > 256) = false := decide_eq_false (by omega)
    by_cases hn : 32 < n
    · have hd2 : decide ((n : Int) > 32) = true := decide_eq_true (by omega)
      have hr : Aside0 (chk ⟨kd, bb, ni, rb, tx, n, G⟩ = false) := ⟨by unfold chk; rw [decide_eq_false (p := n ≤ 32) (by omega)]; simp⟩
      go_wp2
      go_ret
      exact ⟨by rw [hr.out]; rfl, HW.out⟩
    · have hd2 : decide ((n : Int) > 32) = false := decide_eq_false (by omega)
      have HT : Aside0 (TxAt W1 A n G) := ⟨H.out.below HW.out⟩
      have HN32 := Aside0.mk hn
      have HTX := Aside0.mk htx
      clear ht hn htx
      go_wp2
      clear hd hd2
      go_loopg [23] (n + 1) (fun kq v23 w' => ∃ i : Nat, v23 = .int .i64 (i : Int) ∧ Aside0 (kq + i = n + 1) ∧ Aside0 (i ≤ n) ∧ Aside0 (∀ j, j < i → (G j).size ≤ 256) ∧ w' = W1)
      case atStart => exact ⟨0, rfl, ⟨rfl⟩, ⟨Nat.zero_le _⟩, ⟨fun j hj => absurd hj (by omega)⟩, rfl⟩
      case round =>
        obtain ⟨i, rfl, HQ, HI, HE, hwr⟩ := hrel
        subst hwr
        cases gk with
        | zero => exact absurd HQ.out (by have := HI.out; omega)
        | succ k1 =>
          have hi0 : (0 : Int) ≤ (i : Int) := by omega
          by_cases hlt : i < n
          · have him : (i : Int) < (n : Int) := by omega
            obtain ⟨a1, hA1, hc1⟩ := HT.out i hlt
            subst hA1
            have HW3 : Aside0 (wrap64 ((i : Int) + 1) = ((i + 1 : Nat) : Int)) := ⟨wrap_up i n (by omega) HN.out⟩
            by_cases hg : 256 < (G i).size
            · have hd : decide (((G i).size : Int) > 256) = true := decide_eq_true (by omega)
              have hr : Aside0 (chk ⟨kd, bb, ni, rb, tx, n, G⟩ = false) := ⟨by
                unfold chk shortL
                rw [decide_eq_false (p := ∀ j, j < n → (G j).size ≤ 256) (fun h => by have := h i hlt; omega)]; simp⟩
              go_wp2
              go_ret
              exact ⟨by rw [hr.out]; rfl, HW.out⟩
            · have hd : decide (((G i).size : Int) > 256) = false := decide_eq_false (by omega)
              have HGS := Aside0.mk hg
              clear hg
              go_wp2
              go_roundg k1
              case measure => omega
              case rel => exact ⟨i + 1, by first | rfl | (rw [← HW3.out]), ⟨by have := HQ.out; omega⟩, ⟨by omega⟩, ⟨fun j hj => by
                by_cases e : j = i
                · rw [e]; have := HGS.out; omega
                · exact HE.out j (by omega)⟩, rfl⟩
          · have hin : i = n := by have := HI.out; omega
            subst hin
            have hdi : decide ((i : Int) < (i : Int)) = false := decide_eq_false (by omega)
            have HSH : Aside0 (chk ⟨kd, bb, ni, rb, tx, i, G⟩ = chkK kd bb (ni != 0) (FloatKind.f32.format.order rb 0 != some .eq) (!tx.toList.isEmpty) (decide (0 < i))) := ⟨by
              have h1 := HTX.out
              have h2 := HN32.out
              unfold chk shortL
              rw [decide_eq_true (p := tx.size ≤ 256) (by omega), decide_eq_true (p := i ≤ 32) (by omega), decide_eq_true (p := ∀ j, j < i → (G j).size ≤ 256) HE.out]; rfl⟩
            go_upto_region 9 with (fail)
            go_quiet (fail)
            have HW2 : Aside0 (Below w.heap.size w (wr.drewN nq)) := ⟨below_step HW.out (dnb wr nq)⟩
            have p0' : (wr.drewN nq).cell? ⟨q, 0, none⟩ = some (.int .i64 kd) := p0
            clear p0 p1 p2 p3 p4 p5 hdi
            generalize wr.drewN nq = W2 at HW2 p0' ⊢
            generalize (ni != 0) = ii at HSH ⊢
            generalize (FloatKind.f32.format.order rb 0 != some Ordering.eq) = rr at HSH ⊢
            generalize (!tx.toList.isEmpty) = tt at HSH ⊢
            generalize decide (0 < i) = ll at HSH ⊢
            by_cases k1 : kd = 1
            · subst k1
              go_upto_region 22 with (fail)
              cases ii <;> cases rr <;> cases tt <;> cases ll <;> (go_wp2; go_ret; exact ⟨by rw [HSH.out]; rfl, HW2.out⟩)
            · by_cases k2 : kd = 2
              · subst k2
                go_upto_region 22 with (fail)
                cases bb <;> cases rr <;> cases tt <;> cases ll <;> (go_wp2; go_ret; exact ⟨by rw [HSH.out]; rfl, HW2.out⟩)
              · by_cases k3 : kd = 3
                · subst k3
                  go_upto_region 22 with (fail)
                  cases bb <;> cases ii <;> cases tt <;> cases ll <;> (go_wp2; go_ret; exact ⟨by rw [HSH.out]; rfl, HW2.out⟩)
                · by_cases k4 : kd = 4
                  · subst k4
                    go_upto_region 22 with (fail)
                    cases bb <;> cases ii <;> cases rr <;> cases ll <;> (go_wp2; go_ret; exact ⟨by rw [HSH.out]; rfl, HW2.out⟩)
                  · by_cases k5 : kd = 5
                    · subst k5
                      go_upto_region 22 with (fail)
                      cases bb <;> cases ii <;> cases rr <;> cases tt <;> (go_wp2; go_ret; exact ⟨by rw [HSH.out]; rfl, HW2.out⟩)
                    · have e1 : (kd == 1) = false := by simp; exact k1
                      have e2 : (kd == 2) = false := by simp; exact k2
                      have e3 : (kd == 3) = false := by simp; exact k3
                      have e4 : (kd == 4) = false := by simp; exact k4
                      have e5 : (kd == 5) = false := by simp; exact k5
                      have hr : Aside0 (chkK kd bb ii rr tt ll = false) := ⟨by unfold chkK; rw [if_neg k1, if_neg k2, if_neg k3, if_neg k4, if_neg k5]⟩
                      go_wp2
                      go_ret
                      exact ⟨by rw [HSH.out, hr.out]; rfl, HW2.out⟩
end Go.Proofs.Ytgkocbbpkiechaa.Val
