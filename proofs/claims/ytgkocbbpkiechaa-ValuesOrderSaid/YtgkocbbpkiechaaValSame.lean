/- values.Same: are two values one? (a plain walk; printed by gen_val.py) -/
import Derived.Test.YtgkocbbpkiechaaValMay
namespace Go.Proofs.Ytgkocbbpkiechaa.Val
open Go.RowKit Go.Proofs.YtgkocbbpkiechaaW.PrintWords Go.Proofs.YtgkocbbpkiechaaW.PrintLast Go.Proofs.YtgkocbbpkiechaaW.PrintMore Go.Proofs.Ytgkocbbpkiechaa.Flt
set_option linter.unusedVariables false
set_option linter.unusedSimpArgs false
set_option maxRecDepth 100000
def sameK (a b : ValD) : Bool :=
  if a.kind = 1 then a.bo == b.bo else if a.kind = 2 then a.it == b.it else if a.kind = 3 then keyB a.re == keyB b.re else if a.kind = 4 then (a.tx.toList == b.tx.toList) else eqL a.n a.G b.n b.G
def sameD (a b : ValD) : Bool := (chk a && chk b) && ((a.kind == b.kind) && sameK a b)
theorem chk_kind {d : ValD} (h : chk d = true) : d.kind = 1 ∨ d.kind = 2 ∨ d.kind = 3 ∨ d.kind = 4 ∨ d.kind = 5 := by
  unfold chk chkK at h
  simp only [Bool.and_eq_true] at h
  have h := h.2
  split at h
  · omega
  · split at h
    · omega
    · split at h
      · omega
      · split at h
        · omega
        · split at h
          · omega
          · exact absurd h (by simp)
theorem same_calls (w : World) (a b : ValD) (Aa Ab : Option Addr) (ca cb : Nat) (ha : VAt w a Aa) (hb : VAt w b Ab) :
    Calls Try.prog 10 #[.agg #[.int .i64 a.kind, .bool a.bo, .int .i64 a.it, .float .f32 a.re, .string a.tx, .slice Aa a.n ca], .agg #[.int .i64 b.kind, .bool b.bo, .int .i64 b.it, .float .f32 b.re, .string b.tx, .slice Ab b.n cb]] w fun e w' => e = .returned (.bool (sameD a b)) ∧ Below w.heap.size w w' := by
  have HA := Aside0.mk ha
  have HB := Aside0.mk hb
  clear ha hb
  go_enter Try.func10, Try.ntmps10
  go_upto_region 1 with (fail)
  have T2 := Aside0.mk (heap_alloc2_new w (.cells #[.int .i64 a.kind, .bool a.bo, .int .i64 a.it, .float .f32 a.re, .string a.tx, .slice Aa a.n ca] 25) (.cells #[.int .i64 b.kind, .bool b.bo, .int .i64 b.it, .float .f32 b.re, .string b.tx, .slice Ab b.n cb] 25))
  have T1 := Aside0.mk ((heap_alloc_old (w.alloc (.cells #[.int .i64 a.kind, .bool a.bo, .int .i64 a.it, .float .f32 a.re, .string a.tx, .slice Aa a.n ca] 25)) (.cells #[.int .i64 b.kind, .bool b.bo, .int .i64 b.it, .float .f32 b.re, .string b.tx, .slice Ab b.n cb] 25) (blk_lt (heap_alloc_new w (.cells #[.int .i64 a.kind, .bool a.bo, .int .i64 a.it, .float .f32 a.re, .string a.tx, .slice Aa a.n ca] 25)))).trans (heap_alloc_new w (.cells #[.int .i64 a.kind, .bool a.bo, .int .i64 a.it, .float .f32 a.re, .string a.tx, .slice Aa a.n ca] 25)))
  have HW : Aside0 (Below w.heap.size w ((w.alloc (.cells #[.int .i64 a.kind, .bool a.bo, .int .i64 a.it, .float .f32 a.re, .string a.tx, .slice Aa a.n ca] 25)).alloc (.cells #[.int .i64 b.kind, .bool b.bo, .int .i64 b.it, .float .f32 b.re, .string b.tx, .slice Ab b.n cb] 25))) := ⟨below_alloc' (below_alloc (Below.refl _ _) _) _⟩
  generalize (w.alloc (.cells #[.int .i64 a.kind, .bool a.bo, .int .i64 a.it, .float .f32 a.re, .string a.tx, .slice Aa a.n ca] 25)).alloc (.cells #[.int .i64 b.kind, .bool b.bo, .int .i64 b.it, .float .f32 b.re, .string b.tx, .slice Ab b.n cb] 25) = W1 at T1 T2 HW ⊢
  generalize w.heap.size = q at T1 T2 ⊢
  obtain ⟨p0, p1, p2, p3, p4, p5⟩ := box6 T1.out
  obtain ⟨r0, r1, r2, r3, r4, r5⟩ := box6 T2.out
  have HTA : Aside0 (TxAt W1 Aa a.n a.G) := ⟨HA.out.tx.below HW.out⟩
  have HTB : Aside0 (TxAt W1 Ab b.n b.G) := ⟨HB.out.tx.below HW.out⟩
  have HVA := Aside0.mk (HA.out.below HW.out)
  have HVB := Aside0.mk (HB.out.below HW.out)
  obtain ⟨mm, hmm⟩ : ∃ mm, (chk a && chk b) = mm := ⟨_, rfl⟩
  have HM := Aside0.mk hmm
  clear hmm
  cases mm with
  | false =>
    go_wp2_with (go_at_call 24; ((refine (may_calls _ a b Aa Ab ca cb HVA.out HVB.out).mono ?_); rintro e2 w2 ⟨rfl, b2⟩; (rw [HM.out]); have B2 := Aside0.mk b2; clear b2))
    go_ret
    exact ⟨by unfold sameD; rw [HM.out]; rfl, below_step HW.out B2.out⟩
  | true =>
    have hcc := HM.out
    rw [Bool.and_eq_true] at hcc
    have hk := chk_kind hcc.1
    clear hcc
    obtain ⟨ne, hne⟩ : ∃ ne, (a.kind != b.kind) = ne := ⟨_, rfl⟩
    cases ne with
    | true =>
      have HE : Aside0 ((a.kind == b.kind) = false) := ⟨by unfold bne at hne; simpa using hne⟩
      clear hk
      go_wp2_with (go_at_call 24; ((refine (may_calls _ a b Aa Ab ca cb HVA.out HVB.out).mono ?_); rintro e2 w2 ⟨rfl, b2⟩; (rw [HM.out]); have B2 := Aside0.mk b2; clear b2; obtain ⟨p0, p1, p2, p3, p4, p5⟩ := box6 ((B2.out.block q (blk_lt T1.out)).trans T1.out); obtain ⟨r0, r1, r2, r3, r4, r5⟩ := box6 ((B2.out.block (q + 1) (blk_lt T2.out)).trans T2.out)))
      go_ret
      exact ⟨by unfold sameD; rw [HM.out, HE.out]; rfl, below_step HW.out B2.out⟩
    | false =>
      have HE : Aside0 ((a.kind == b.kind) = true) := ⟨by unfold bne at hne; simpa using hne⟩
      go_upto_region 3 with (go_at_call 24; ((refine (may_calls _ a b Aa Ab ca cb HVA.out HVB.out).mono ?_); rintro e2 w2 ⟨rfl, b2⟩; (rw [HM.out]); have B2 := Aside0.mk b2; clear b2; obtain ⟨p0, p1, p2, p3, p4, p5⟩ := box6 ((B2.out.block q (blk_lt T1.out)).trans T1.out); obtain ⟨r0, r1, r2, r3, r4, r5⟩ := box6 ((B2.out.block (q + 1) (blk_lt T2.out)).trans T2.out)))
      have HVA2 := Aside0.mk (HVA.out.below B2.out)
      have HVB2 := Aside0.mk (HVB.out.below B2.out)
      have HD : Aside0 (sameD a b = sameK a b) := ⟨by unfold sameD; rw [HM.out, HE.out]; rfl⟩
      have HWB := Aside0.mk (below_step HW.out B2.out)
      clear hne
      rcases hk with k | k | k | k | k
      · have HS : Aside0 (sameK a b = (a.bo == b.bo)) := ⟨by unfold sameK; simp only [k]; rfl⟩
        have ea1 : (a.kind == 1) = true := by rw [k]; rfl
        have ea2 : (a.kind == 2) = false := by rw [k]; rfl
        have ea3 : (a.kind == 3) = false := by rw [k]; rfl
        have ea4 : (a.kind == 4) = false := by rw [k]; rfl
        have ea5 : (a.kind == 5) = false := by rw [k]; rfl
        go_wp2
        go_ret
        exact ⟨by first | (rw [HD.out, HS.out]; done) | (rw [HD.out, HS.out]; rfl), HWB.out⟩
      · have HS : Aside0 (sameK a b = (a.it == b.it)) := ⟨by unfold sameK; simp only [k]; rfl⟩
        have ea1 : (a.kind == 1) = false := by rw [k]; rfl
        have ea2 : (a.kind == 2) = true := by rw [k]; rfl
        have ea3 : (a.kind == 3) = false := by rw [k]; rfl
        have ea4 : (a.kind == 4) = false := by rw [k]; rfl
        have ea5 : (a.kind == 5) = false := by rw [k]; rfl
        go_wp2
        go_ret
        exact ⟨by first | (rw [HD.out, HS.out]; done) | (rw [HD.out, HS.out]; rfl), HWB.out⟩
      · have HS : Aside0 (sameK a b = (keyB a.re == keyB b.re)) := ⟨by unfold sameK; simp only [k]; rfl⟩
        have ea1 : (a.kind == 1) = false := by rw [k]; rfl
        have ea2 : (a.kind == 2) = false := by rw [k]; rfl
        have ea3 : (a.kind == 3) = true := by rw [k]; rfl
        have ea4 : (a.kind == 4) = false := by rw [k]; rfl
        have ea5 : (a.kind == 5) = false := by rw [k]; rfl
        go_wp2_with (go_at_call 31; (refine (rsame_calls a.re b.re _ HVA2.out.re HVB2.out.re).mono ?_; rintro e3 w3 ⟨rfl, hw⟩; subst hw))
        go_ret
        exact ⟨by first | (rw [HD.out, HS.out]; done) | (rw [HD.out, HS.out]; rfl), HWB.out⟩
      · have HS : Aside0 (sameK a b = (a.tx.toList == b.tx.toList)) := ⟨by unfold sameK; simp only [k]; rfl⟩
        have ea1 : (a.kind == 1) = false := by rw [k]; rfl
        have ea2 : (a.kind == 2) = false := by rw [k]; rfl
        have ea3 : (a.kind == 3) = false := by rw [k]; rfl
        have ea4 : (a.kind == 4) = true := by rw [k]; rfl
        have ea5 : (a.kind == 5) = false := by rw [k]; rfl
        go_wp2
        go_ret
        exact ⟨by first | (rw [HD.out, HS.out]; done) | (rw [HD.out, HS.out]; rfl), HWB.out⟩
      · have HS : Aside0 (sameK a b = eqL a.n a.G b.n b.G) := ⟨by unfold sameK; simp only [k]; rfl⟩
        have ea1 : (a.kind == 1) = false := by rw [k]; rfl
        have ea2 : (a.kind == 2) = false := by rw [k]; rfl
        have ea3 : (a.kind == 3) = false := by rw [k]; rfl
        have ea4 : (a.kind == 4) = false := by rw [k]; rfl
        have ea5 : (a.kind == 5) = true := by rw [k]; rfl
        go_wp2_with (go_at_call 32; (refine (slEqual_calls _ Aa Ab a.n b.n ca cb a.G b.G HVA2.out.tx HVB2.out.tx HVA2.out.n1).mono ?_; rintro e3 w3 ⟨rfl, b3⟩; have B3 := Aside0.mk b3; clear b3))
        go_ret
        exact ⟨by first | (rw [HD.out, HS.out]; done) | (rw [HD.out, HS.out]; rfl), below_step HWB.out B3.out⟩
end Go.Proofs.Ytgkocbbpkiechaa.Val
