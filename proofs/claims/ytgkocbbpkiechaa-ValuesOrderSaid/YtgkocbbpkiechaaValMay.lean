/- values.may, Same: two values (plain walks). -/
import Derived.Test.YtgkocbbpkiechaaValCheck
namespace Go.Proofs.Ytgkocbbpkiechaa.Val
open Go.RowKit Go.Proofs.YtgkocbbpkiechaaW.PrintWords Go.Proofs.YtgkocbbpkiechaaW.PrintLast Go.Proofs.YtgkocbbpkiechaaW.PrintMore Go.Proofs.Ytgkocbbpkiechaa.Flt
set_option linter.unusedVariables false
set_option linter.unusedSimpArgs false
set_option maxRecDepth 100000
theorem below_alloc' {w W : World} (h : Below w.heap.size w W) (o : Obj) : Below w.heap.size w (W.alloc o) := below_step h (below_alloc (Below.refl _ _) o)
/-- A value in memory. -/
structure VAt (w : World) (d : ValD) (A : Option Addr) : Prop where
  tx : TxAt w A d.n d.G
  re : d.re < 4294967296
  i1 : -9223372036854775808 ≤ d.it
  i2 : d.it ≤ 9223372036854775807
  t1 : d.tx.size ≤ 9223372036854775807
  n1 : d.n ≤ 9223372036854775807
  g1 : ∀ j, j < d.n → (d.G j).size ≤ 9223372036854775807
theorem VAt.below {w w' : World} {d : ValD} {A : Option Addr} (h : VAt w d A) (hb : Below w.heap.size w w') : VAt w' d A := { h with tx := h.tx.below hb }
theorem check_at {w : World} {d : ValD} {A : Option Addr} {c : Nat} (h : VAt w d A) :
    Calls Try.prog 8 #[.agg #[.int .i64 d.kind, .bool d.bo, .int .i64 d.it, .float .f32 d.re, .string d.tx, .slice A d.n c]] w fun e w' => e = .returned (.int .i64 (errK (chk d))) ∧ Below w.heap.size w w' :=
  check_calls w d A c h.tx h.t1 h.n1 h.g1
theorem errK_f : errK false = 40 := rfl
theorem errK_t : errK true = 0 := rfl
theorem may_calls (w : World) (a b : ValD) (Aa Ab : Option Addr) (ca cb : Nat) (ha : VAt w a Aa) (hb : VAt w b Ab) :
    Calls Try.prog 24 #[.agg #[.int .i64 a.kind, .bool a.bo, .int .i64 a.it, .float .f32 a.re, .string a.tx, .slice Aa a.n ca], .agg #[.int .i64 b.kind, .bool b.bo, .int .i64 b.it, .float .f32 b.re, .string b.tx, .slice Ab b.n cb]] w fun e w' => e = .returned (.bool (chk a && chk b)) ∧ Below w.heap.size w w' := by
  have HA := Aside0.mk ha
  have HB := Aside0.mk hb
  clear ha hb
  go_enter Try.func24, Try.ntmps24
  go_upto_region 1 with (fail)
  have T2 := Aside0.mk (heap_alloc2_new w (.cells #[.int .i64 a.kind, .bool a.bo, .int .i64 a.it, .float .f32 a.re, .string a.tx, .slice Aa a.n ca] 25) (.cells #[.int .i64 b.kind, .bool b.bo, .int .i64 b.it, .float .f32 b.re, .string b.tx, .slice Ab b.n cb] 25))
  have T1 := Aside0.mk ((heap_alloc_old (w.alloc (.cells #[.int .i64 a.kind, .bool a.bo, .int .i64 a.it, .float .f32 a.re, .string a.tx, .slice Aa a.n ca] 25)) (.cells #[.int .i64 b.kind, .bool b.bo, .int .i64 b.it, .float .f32 b.re, .string b.tx, .slice Ab b.n cb] 25) (blk_lt (heap_alloc_new w (.cells #[.int .i64 a.kind, .bool a.bo, .int .i64 a.it, .float .f32 a.re, .string a.tx, .slice Aa a.n ca] 25)))).trans (heap_alloc_new w (.cells #[.int .i64 a.kind, .bool a.bo, .int .i64 a.it, .float .f32 a.re, .string a.tx, .slice Aa a.n ca] 25)))
  have HW : Aside0 (Below w.heap.size w ((w.alloc (.cells #[.int .i64 a.kind, .bool a.bo, .int .i64 a.it, .float .f32 a.re, .string a.tx, .slice Aa a.n ca] 25)).alloc (.cells #[.int .i64 b.kind, .bool b.bo, .int .i64 b.it, .float .f32 b.re, .string b.tx, .slice Ab b.n cb] 25))) := ⟨below_alloc' (below_alloc (Below.refl _ _) _) _⟩
  generalize (w.alloc (.cells #[.int .i64 a.kind, .bool a.bo, .int .i64 a.it, .float .f32 a.re, .string a.tx, .slice Aa a.n ca] 25)).alloc (.cells #[.int .i64 b.kind, .bool b.bo, .int .i64 b.it, .float .f32 b.re, .string b.tx, .slice Ab b.n cb] 25) = W1 at T1 T2 HW ⊢
  generalize w.heap.size = q at T1 T2 ⊢
  obtain ⟨p0, p1, p2, p3, p4, p5⟩ := box6 T1.out
  obtain ⟨r0, r1, r2, r3, r4, r5⟩ := box6 T2.out
  have HTA : Aside0 (TxAt W1 Aa a.n a.G) := ⟨HA.out.tx.below HW.out⟩
  have HTB : Aside0 (TxAt W1 Ab b.n b.G) := ⟨HB.out.tx.below HW.out⟩
  have HVA := Aside0.mk (HA.out.below HW.out)
  have HVB := Aside0.mk (HB.out.below HW.out)
  cases h1 : chk a with
  | false =>
    have HC := Aside0.mk h1
    clear h1
    go_wp2_with (go_at_call 8; ((refine (check_at HVA.out).mono ?_); rintro e2 w2 ⟨rfl, b2⟩; (rw [HC.out, errK_f]); have B2 := Aside0.mk b2; clear b2))
    go_ret
    exact ⟨by first | (rw [HC.out]; done) | (rw [HC.out]; rfl) | (simp [HC.out]; done), below_step HW.out B2.out⟩
  | true =>
    have HC := Aside0.mk h1
    clear h1
    cases h2 : chk b with
    | false =>
      have HC2 := Aside0.mk h2
      clear h2
      go_wp2_with (first
        | (go_at_call 8; ((with_reducible refine (check_at HVA.out).mono ?_); rintro e2 w2 ⟨rfl, b2⟩; (rw [HC.out, errK_t]); have B2 := Aside0.mk b2; have HVB2 := Aside0.mk (HVB.out.below b2); clear b2; obtain ⟨p02, p12, p22, p32, p42, p52⟩ := box6 ((B2.out.block q (blk_lt T1.out)).trans T1.out); obtain ⟨r02, r12, r22, r32, r42, r52⟩ := box6 ((B2.out.block (q + 1) (blk_lt T2.out)).trans T2.out)))
        | (go_at_call 8; ((with_reducible refine (check_at HVB2.out).mono ?_); rintro e3 w3 ⟨rfl, b3⟩; (rw [HC2.out, errK_f]); have B3 := Aside0.mk b3; clear b3)))
      go_ret
      exact ⟨by first | (rw [HC.out, HC2.out]; done) | (rw [HC.out, HC2.out]; rfl) | (simp [HC.out, HC2.out]; done), below_step (below_step HW.out B2.out) B3.out⟩
    | true =>
      have HC2 := Aside0.mk h2
      clear h2
      go_wp2_with (first
        | (go_at_call 8; ((with_reducible refine (check_at HVA.out).mono ?_); rintro e2 w2 ⟨rfl, b2⟩; (rw [HC.out, errK_t]); have B2 := Aside0.mk b2; have HVB2 := Aside0.mk (HVB.out.below b2); clear b2; obtain ⟨p02, p12, p22, p32, p42, p52⟩ := box6 ((B2.out.block q (blk_lt T1.out)).trans T1.out); obtain ⟨r02, r12, r22, r32, r42, r52⟩ := box6 ((B2.out.block (q + 1) (blk_lt T2.out)).trans T2.out)))
        | (go_at_call 8; ((with_reducible refine (check_at HVB2.out).mono ?_); rintro e3 w3 ⟨rfl, b3⟩; (rw [HC2.out, errK_t]); have B3 := Aside0.mk b3; clear b3)))
      go_ret
      exact ⟨by first | (rw [HC.out, HC2.out]; done) | (rw [HC.out, HC2.out]; rfl) | (simp [HC.out, HC2.out]; done), below_step (below_step HW.out B2.out) B3.out⟩
end Go.Proofs.Ytgkocbbpkiechaa.Val
