/- values.Compare: how two values stand (a plain walk; printed by gen_val.py) -/
import Derived.Test.YtgkocbbpkiechaaValSame
namespace Go.Proofs.Ytgkocbbpkiechaa.Val
open Go.RowKit Go.Proofs.YtgkocbbpkiechaaW.PrintWords Go.Proofs.YtgkocbbpkiechaaW.PrintLast Go.Proofs.YtgkocbbpkiechaaW.PrintMore Go.Proofs.Ytgkocbbpkiechaa.Flt
set_option linter.unusedVariables false
set_option linter.unusedSimpArgs false
set_option maxRecDepth 100000
def numK (k : Int) : Bool := k == 2 || k == 3
/-- A number's worth. -/
def worth (d : ValD) : Int := if d.kind = 2 then d.it * (oneM : Int) else V d.re
def nanD (d : ValD) : Bool := d.kind == 3 && nanB d.re
def bn (b : Bool) : Int := if b then 1 else 0
def cmpD (a b : ValD) : Int × Bool :=
  if (chk a && chk b) = false then (0, false)
  else if (numK a.kind && numK b.kind) = true then (if (nanD a || nanD b) = true then (0, false) else (cmpI (worth a) (worth b), true))
  else if ¬ a.kind = b.kind then (0, false)
  else if a.kind = 1 then (bn a.bo - bn b.bo, true)
  else if a.kind = 4 then (cmpB a.tx b.tx, true)
  else (cmpL a.n a.G b.n b.G, true)
theorem compareInt_nan (b : Nat) (n : Int) (w : World) (h1 : -9223372036854775808 ≤ n) (h2 : n ≤ 9223372036854775807) (h : nanB b = true) :
    Calls Try.prog 25 #[.float .f32 b, .int .i64 n] w fun e w' => e = .returned (.tuple #[.int .i64 0, .bool false]) ∧ w' = w :=
  (compareInt_calls b n w h1 h2).mono fun e w' hh => ⟨by rw [hh.1, h]; rfl, hh.2⟩
theorem compareInt_fin (b : Nat) (n : Int) (w : World) (h1 : -9223372036854775808 ≤ n) (h2 : n ≤ 9223372036854775807) (h : nanB b = false) :
    Calls Try.prog 25 #[.float .f32 b, .int .i64 n] w fun e w' => e = .returned (.tuple #[.int .i64 (cmpI (V b) (n * (oneM : Int))), .bool true]) ∧ w' = w :=
  (compareInt_calls b n w h1 h2).mono fun e w' hh => ⟨by rw [hh.1, h]; rfl, hh.2⟩
theorem number_calls (b : Bool) (w : World) : Calls Try.prog 26 #[.bool b] w fun e w' => e = .returned (.int .i64 (bn b)) ∧ w' = w := by
  cases b with
  | true =>
    go_enter Try.func26, Try.ntmps26
    go_wp2
    go_ret
    exact ⟨rfl, rfl⟩
  | false =>
    go_enter Try.func26, Try.ntmps26
    go_wp2
    go_ret
    exact ⟨rfl, rfl⟩
theorem quietM {P : Program} {f : FuncId} {args : Array Value} {w : World} {n : Nat} {v : Value} (h : ∀ w : World, Calls P f args w fun e w' => e = .returned v ∧ Drawn0 w w') :
    Calls P f args (w.drewN n) fun e w1 => e = .returned v ∧ ∃ m, w1 = w.drewN m := (h _).mono fun _ _ hh => ⟨hh.1, by
      obtain ⟨m, rfl⟩ := hh.2
      exact ⟨n + m, World.drewN_drewN ..⟩⟩
theorem quietB {P : Program} {f : FuncId} {args : Array Value} {w : World} {a n : Nat} {v : Value} (h : ∀ w : World, Calls P f args w fun e w' => e = .returned v ∧ Drawn0 w w') :
    Calls P f args (w.drewN (a + n)) fun e w1 => e = .returned v ∧ ∃ m, w1 = w.drewN (a + m) := (h _).mono fun _ _ hh => ⟨hh.1, by
      obtain ⟨m, rfl⟩ := hh.2
      exact ⟨n + m, by rw [World.drewN_drewN, Nat.add_assoc]⟩⟩
theorem number_t (w : World) : Calls Try.prog 26 #[.bool true] w fun e w' => e = .returned (.int .i64 1) ∧ Drawn0 w w' := (number_calls true w).mono fun e w' hh => ⟨hh.1, 0, hh.2⟩
theorem number_f (w : World) : Calls Try.prog 26 #[.bool false] w fun e w' => e = .returned (.int .i64 0) ∧ Drawn0 w w' := (number_calls false w).mono fun e w' hh => ⟨hh.1, 0, hh.2⟩
set_option maxHeartbeats 4000000 in
theorem compare_calls (w : World) (a b : ValD) (Aa Ab : Option Addr) (ca cb : Nat) (ha : VAt w a Aa) (hb : VAt w b Ab) :
    Calls Try.prog 7 #[.agg #[.int .i64 a.kind, .bool a.bo, .int .i64 a.it, .float .f32 a.re, .string a.tx, .slice Aa a.n ca], .agg #[.int .i64 b.kind, .bool b.bo, .int .i64 b.it, .float .f32 b.re, .string b.tx, .slice Ab b.n cb]] w fun e w' => e = .returned (.tuple #[.int .i64 (cmpD a b).1, .bool (cmpD a b).2]) ∧ Below w.heap.size w w' := by
  have HA := Aside0.mk ha
  have HB := Aside0.mk hb
  clear ha hb
  go_enter Try.func7, Try.ntmps7
  go_upto_region 1 with (fail)
  have T2 := Aside0.mk (heap_alloc2_new w (.cells #[.int .i64 a.kind, .bool a.bo, .int .i64 a.it, .float .f32 a.re, .string a.tx, .slice Aa a.n ca] 25) (.cells #[.int .i64 b.kind, .bool b.bo, .int .i64 b.it, .float .f32 b.re, .string b.tx, .slice Ab b.n cb] 25))
  have T1 := Aside0.mk ((heap_alloc_old (w.alloc (.cells #[.int .i64 a.kind, .bool a.bo, .int .i64 a.it, .float .f32 a.re, .string a.tx, .slice Aa a.n ca] 25)) (.cells #[.int .i64 b.kind, .bool b.bo, .int .i64 b.it, .float .f32 b.re, .string b.tx, .slice Ab b.n cb] 25) (blk_lt (heap_alloc_new w (.cells #[.int .i64 a.kind, .bool a.bo, .int .i64 a.it, .float .f32 a.re, .string a.tx, .slice Aa a.n ca] 25)))).trans (heap_alloc_new w (.cells #[.int .i64 a.kind, .bool a.bo, .int .i64 a.it, .float .f32 a.re, .string a.tx, .slice Aa a.n ca] 25)))
  have HW : Aside0 (Below w.heap.size w ((w.alloc (.cells #[.int .i64 a.kind, .bool a.bo, .int .i64 a.it, .float .f32 a.re, .string a.tx, .slice Aa a.n ca] 25)).alloc (.cells #[.int .i64 b.kind, .bool b.bo, .int .i64 b.it, .float .f32 b.re, .string b.tx, .slice Ab b.n cb] 25))) := ⟨below_alloc' (below_alloc (Below.refl _ _) _) _⟩
  generalize (w.alloc (.cells #[.int .i64 a.kind, .bool a.bo, .int .i64 a.it, .float .f32 a.re, .string a.tx, .slice Aa a.n ca] 25)).alloc (.cells #[.int .i64 b.kind, .bool b.bo, .int .i64 b.it, .float .f32 b.re, .string b.tx, .slice Ab b.n cb] 25) = W1 at T1 T2 HW ⊢
  generalize w.heap.size = q at T1 T2 ⊢
  obtain ⟨p0, p1, p2, p3, p4, p5⟩ := box6 T1.out
  obtain ⟨r0, r1, r2, r3, r4, r5⟩ := box6 T2.out
  have HTA : Aside0 (TxAt W1 Aa a.n a.G) := ⟨HA.out.tx.below HW.out⟩
  have HTB : Aside0 (TxAt W1 Ab b.n b.G) := ⟨HB.out.tx.below HW.out⟩
  have HVA := Aside0.mk (HA.out.below HW.out)
  have HVB := Aside0.mk (HB.out.below HW.out)
  obtain ⟨mm, hmm⟩ : ∃ mm, (chk a && chk b) = mm := ⟨_, rfl⟩
  have HM := Aside0.mk hmm
  clear hmm
  cases mm with
  | false =>
    go_wp2_with (go_at_call 24; ((refine (may_calls _ a b Aa Ab ca cb HVA.out HVB.out).mono ?_); rintro e2 w2 ⟨rfl, b2⟩; (rw [HM.out]); have B2 := Aside0.mk b2; clear b2))
    go_ret2
    exact ⟨by unfold cmpD; rw [HM.out]; rfl, below_step HW.out B2.out⟩
  | true =>
    have hcc := HM.out
    rw [Bool.and_eq_true] at hcc
    have hka := chk_kind hcc.1
    have hkb := chk_kind hcc.2
    clear hcc
    go_upto_region 3 with (go_at_call 24; ((refine (may_calls _ a b Aa Ab ca cb HVA.out HVB.out).mono ?_); rintro e2 w2 ⟨rfl, b2⟩; (rw [HM.out]); have B2 := Aside0.mk b2; clear b2; obtain ⟨p0, p1, p2, p3, p4, p5⟩ := box6 ((B2.out.block q (blk_lt T1.out)).trans T1.out); obtain ⟨r0, r1, r2, r3, r4, r5⟩ := box6 ((B2.out.block (q + 1) (blk_lt T2.out)).trans T2.out)))
    have HVA2 := Aside0.mk (HVA.out.below B2.out)
    have HVB2 := Aside0.mk (HVB.out.below B2.out)
    have HWB := Aside0.mk (below_step HW.out B2.out)
    clear HTA HTB
    rcases hka with k | k | k | k | k
    · rcases hkb with kb | kb | kb | kb | kb
      · have ea1 : (a.kind == 1) = true := by rw [k]; rfl
        have ea2 : (a.kind == 2) = false := by rw [k]; rfl
        have ea3 : (a.kind == 3) = false := by rw [k]; rfl
        have ea4 : (a.kind == 4) = false := by rw [k]; rfl
        have ea5 : (a.kind == 5) = false := by rw [k]; rfl
        have eb1 : (b.kind == 1) = true := by rw [kb]; rfl
        have eb2 : (b.kind == 2) = false := by rw [kb]; rfl
        have eb3 : (b.kind == 3) = false := by rw [kb]; rfl
        have eb4 : (b.kind == 4) = false := by rw [kb]; rfl
        have eb5 : (b.kind == 5) = false := by rw [kb]; rfl
        have ene : (a.kind != b.kind) = false := by rw [k, kb]; rfl
        cases hba : a.bo <;> cases hbb : b.bo
        · have HC : Aside0 (cmpD a b = (0, true)) := ⟨by unfold cmpD numK nanD worth; rw [HM.out]; simp [k, kb, hba, hbb, bn]⟩
          have HBA := Aside0.mk hba
          have HBB := Aside0.mk hbb
          rw [hba] at p1
          rw [hbb] at r1
          clear hba hbb
          go_upto_region 12 with (fail)
          go_quiet ((go_at_call 26; first | exact quietM number_t | exact quietM number_f | exact quietB number_t | exact quietB number_f))
          first | go_ret2 | (go_wp2; go_ret2)
          exact ⟨by first | (rw [HC.out]; done) | (rw [HC.out]; rfl), below_step HWB.out (dnb w2 nq)⟩
        · have HC : Aside0 (cmpD a b = (-1, true)) := ⟨by unfold cmpD numK nanD worth; rw [HM.out]; simp [k, kb, hba, hbb, bn]⟩
          have HBA := Aside0.mk hba
          have HBB := Aside0.mk hbb
          rw [hba] at p1
          rw [hbb] at r1
          clear hba hbb
          go_upto_region 12 with (fail)
          go_quiet ((go_at_call 26; first | exact quietM number_t | exact quietM number_f | exact quietB number_t | exact quietB number_f))
          first | go_ret2 | (go_wp2; go_ret2)
          exact ⟨by first | (rw [HC.out]; done) | (rw [HC.out]; rfl), below_step HWB.out (dnb w2 nq)⟩
        · have HC : Aside0 (cmpD a b = (1, true)) := ⟨by unfold cmpD numK nanD worth; rw [HM.out]; simp [k, kb, hba, hbb, bn]⟩
          have HBA := Aside0.mk hba
          have HBB := Aside0.mk hbb
          rw [hba] at p1
          rw [hbb] at r1
          clear hba hbb
          go_upto_region 12 with (fail)
          go_quiet ((go_at_call 26; first | exact quietM number_t | exact quietM number_f | exact quietB number_t | exact quietB number_f))
          first | go_ret2 | (go_wp2; go_ret2)
          exact ⟨by first | (rw [HC.out]; done) | (rw [HC.out]; rfl), below_step HWB.out (dnb w2 nq)⟩
        · have HC : Aside0 (cmpD a b = (0, true)) := ⟨by unfold cmpD numK nanD worth; rw [HM.out]; simp [k, kb, hba, hbb, bn]⟩
          have HBA := Aside0.mk hba
          have HBB := Aside0.mk hbb
          rw [hba] at p1
          rw [hbb] at r1
          clear hba hbb
          go_upto_region 12 with (fail)
          go_quiet ((go_at_call 26; first | exact quietM number_t | exact quietM number_f | exact quietB number_t | exact quietB number_f))
          first | go_ret2 | (go_wp2; go_ret2)
          exact ⟨by first | (rw [HC.out]; done) | (rw [HC.out]; rfl), below_step HWB.out (dnb w2 nq)⟩
      · have ea1 : (a.kind == 1) = true := by rw [k]; rfl
        have ea2 : (a.kind == 2) = false := by rw [k]; rfl
        have ea3 : (a.kind == 3) = false := by rw [k]; rfl
        have ea4 : (a.kind == 4) = false := by rw [k]; rfl
        have ea5 : (a.kind == 5) = false := by rw [k]; rfl
        have eb1 : (b.kind == 1) = false := by rw [kb]; rfl
        have eb2 : (b.kind == 2) = true := by rw [kb]; rfl
        have eb3 : (b.kind == 3) = false := by rw [kb]; rfl
        have eb4 : (b.kind == 4) = false := by rw [kb]; rfl
        have eb5 : (b.kind == 5) = false := by rw [kb]; rfl
        have ene : (a.kind != b.kind) = true := by rw [k, kb]; rfl
        have HC : Aside0 (cmpD a b = (0, false)) := ⟨by unfold cmpD numK nanD worth; rw [HM.out]; simp [k, kb]⟩
        go_wp2
        go_ret2
        exact ⟨by first | (rw [HC.out]; done) | (rw [HC.out]; rfl), HWB.out⟩
      · have ea1 : (a.kind == 1) = true := by rw [k]; rfl
        have ea2 : (a.kind == 2) = false := by rw [k]; rfl
        have ea3 : (a.kind == 3) = false := by rw [k]; rfl
        have ea4 : (a.kind == 4) = false := by rw [k]; rfl
        have ea5 : (a.kind == 5) = false := by rw [k]; rfl
        have eb1 : (b.kind == 1) = false := by rw [kb]; rfl
        have eb2 : (b.kind == 2) = false := by rw [kb]; rfl
        have eb3 : (b.kind == 3) = true := by rw [kb]; rfl
        have eb4 : (b.kind == 4) = false := by rw [kb]; rfl
        have eb5 : (b.kind == 5) = false := by rw [kb]; rfl
        have ene : (a.kind != b.kind) = true := by rw [k, kb]; rfl
        have HC : Aside0 (cmpD a b = (0, false)) := ⟨by unfold cmpD numK nanD worth; rw [HM.out]; simp [k, kb]⟩
        go_wp2
        go_ret2
        exact ⟨by first | (rw [HC.out]; done) | (rw [HC.out]; rfl), HWB.out⟩
      · have ea1 : (a.kind == 1) = true := by rw [k]; rfl
        have ea2 : (a.kind == 2) = false := by rw [k]; rfl
        have ea3 : (a.kind == 3) = false := by rw [k]; rfl
        have ea4 : (a.kind == 4) = false := by rw [k]; rfl
        have ea5 : (a.kind == 5) = false := by rw [k]; rfl
        have eb1 : (b.kind == 1) = false := by rw [kb]; rfl
        have eb2 : (b.kind == 2) = false := by rw [kb]; rfl
        have eb3 : (b.kind == 3) = false := by rw [kb]; rfl
        have eb4 : (b.kind == 4) = true := by rw [kb]; rfl
        have eb5 : (b.kind == 5) = false := by rw [kb]; rfl
        have ene : (a.kind != b.kind) = true := by rw [k, kb]; rfl
        have HC : Aside0 (cmpD a b = (0, false)) := ⟨by unfold cmpD numK nanD worth; rw [HM.out]; simp [k, kb]⟩
        go_wp2
        go_ret2
        exact ⟨by first | (rw [HC.out]; done) | (rw [HC.out]; rfl), HWB.out⟩
      · have ea1 : (a.kind == 1) = true := by rw [k]; rfl
        have ea2 : (a.kind == 2) = false := by rw [k]; rfl
        have ea3 : (a.kind == 3) = false := by rw [k]; rfl
        have ea4 : (a.kind == 4) = false := by rw [k]; rfl
        have ea5 : (a.kind == 5) = false := by rw [k]; rfl
        have eb1 : (b.kind == 1) = false := by rw [kb]; rfl
        have eb2 : (b.kind == 2) = false := by rw [kb]; rfl
        have eb3 : (b.kind == 3) = false := by rw [kb]; rfl
        have eb4 : (b.kind == 4) = false := by rw [kb]; rfl
        have eb5 : (b.kind == 5) = true := by rw [kb]; rfl
        have ene : (a.kind != b.kind) = true := by rw [k, kb]; rfl
        have HC : Aside0 (cmpD a b = (0, false)) := ⟨by unfold cmpD numK nanD worth; rw [HM.out]; simp [k, kb]⟩
        go_wp2
        go_ret2
        exact ⟨by first | (rw [HC.out]; done) | (rw [HC.out]; rfl), HWB.out⟩
    · rcases hkb with kb | kb | kb | kb | kb
      · have ea1 : (a.kind == 1) = false := by rw [k]; rfl
        have ea2 : (a.kind == 2) = true := by rw [k]; rfl
        have ea3 : (a.kind == 3) = false := by rw [k]; rfl
        have ea4 : (a.kind == 4) = false := by rw [k]; rfl
        have ea5 : (a.kind == 5) = false := by rw [k]; rfl
        have eb1 : (b.kind == 1) = true := by rw [kb]; rfl
        have eb2 : (b.kind == 2) = false := by rw [kb]; rfl
        have eb3 : (b.kind == 3) = false := by rw [kb]; rfl
        have eb4 : (b.kind == 4) = false := by rw [kb]; rfl
        have eb5 : (b.kind == 5) = false := by rw [kb]; rfl
        have ene : (a.kind != b.kind) = true := by rw [k, kb]; rfl
        have HC : Aside0 (cmpD a b = (0, false)) := ⟨by unfold cmpD numK nanD worth; rw [HM.out]; simp [k, kb]⟩
        go_wp2
        go_ret2
        exact ⟨by first | (rw [HC.out]; done) | (rw [HC.out]; rfl), HWB.out⟩
      · have ea1 : (a.kind == 1) = false := by rw [k]; rfl
        have ea2 : (a.kind == 2) = true := by rw [k]; rfl
        have ea3 : (a.kind == 3) = false := by rw [k]; rfl
        have ea4 : (a.kind == 4) = false := by rw [k]; rfl
        have ea5 : (a.kind == 5) = false := by rw [k]; rfl
        have eb1 : (b.kind == 1) = false := by rw [kb]; rfl
        have eb2 : (b.kind == 2) = true := by rw [kb]; rfl
        have eb3 : (b.kind == 3) = false := by rw [kb]; rfl
        have eb4 : (b.kind == 4) = false := by rw [kb]; rfl
        have eb5 : (b.kind == 5) = false := by rw [kb]; rfl
        have ene : (a.kind != b.kind) = false := by rw [k, kb]; rfl
        have HC : Aside0 (cmpD a b = (cmpI a.it b.it, true)) := ⟨by unfold cmpD numK nanD worth; rw [HM.out]; simp [k, kb, ord_I_mul a.it b.it (show (0 : Int) < (oneM : Int) by have := oneM_pos; omega)]⟩
        go_wp2_with (go_at_call 27; (refine (cmpInt_calls a.it b.it _).mono ?_; rintro e3 w3 ⟨rfl, hw⟩; subst hw))
        go_ret2
        exact ⟨by first | (rw [HC.out]; done) | (rw [HC.out]; rfl), HWB.out⟩
      · have ea1 : (a.kind == 1) = false := by rw [k]; rfl
        have ea2 : (a.kind == 2) = true := by rw [k]; rfl
        have ea3 : (a.kind == 3) = false := by rw [k]; rfl
        have ea4 : (a.kind == 4) = false := by rw [k]; rfl
        have ea5 : (a.kind == 5) = false := by rw [k]; rfl
        have eb1 : (b.kind == 1) = false := by rw [kb]; rfl
        have eb2 : (b.kind == 2) = false := by rw [kb]; rfl
        have eb3 : (b.kind == 3) = true := by rw [kb]; rfl
        have eb4 : (b.kind == 4) = false := by rw [kb]; rfl
        have eb5 : (b.kind == 5) = false := by rw [kb]; rfl
        have ene : (a.kind != b.kind) = true := by rw [k, kb]; rfl
        cases hn : nanB b.re with
        | true =>
          have HC : Aside0 (cmpD a b = (0, false)) := ⟨by unfold cmpD numK nanD worth; rw [HM.out]; simp [k, kb, hn]⟩
          go_wp2_with (go_at_call 25; (refine (compareInt_nan b.re a.it _ HVA2.out.i1 HVA2.out.i2 hn).mono ?_; rintro e3 w3 ⟨rfl, hw⟩; subst hw))
          go_ret2
          exact ⟨by first | (rw [HC.out]; done) | (rw [HC.out]; rfl), HWB.out⟩
        | false =>
          obtain ⟨c0, hc0⟩ : ∃ c0, cmpI (V b.re) (a.it * (oneM : Int)) = c0 := ⟨_, rfl⟩
          have lo := ord_I.lo (V b.re) (a.it * (oneM : Int))
          have hi := ord_I.hi (V b.re) (a.it * (oneM : Int))
          rw [hc0] at lo hi
          have HC0 := Aside0.mk hc0
          have HC : Aside0 (cmpD a b = (-c0, true)) := ⟨by unfold cmpD numK nanD worth; rw [HM.out]; simp [k, kb, hn, ord_I.anti (a.it * (oneM : Int)) (V b.re), hc0]⟩
          have hw1 : IntKind.i64.wrap (-c0) = -c0 := by rw [IntKind.wrap_i64]; omega
          have hw2 : wrap64 (-c0) = -c0 := by unfold wrap64; omega
          clear lo hi hc0
          go_wp2_with (go_at_call 25; (refine (compareInt_fin b.re a.it _ HVA2.out.i1 HVA2.out.i2 hn).mono ?_; rintro e3 w3 ⟨rfl, hw⟩; subst hw; rw [HC0.out]))
          go_ret2
          exact ⟨by first | (rw [HC.out]; done) | (rw [HC.out]; rfl), HWB.out⟩
      · have ea1 : (a.kind == 1) = false := by rw [k]; rfl
        have ea2 : (a.kind == 2) = true := by rw [k]; rfl
        have ea3 : (a.kind == 3) = false := by rw [k]; rfl
        have ea4 : (a.kind == 4) = false := by rw [k]; rfl
        have ea5 : (a.kind == 5) = false := by rw [k]; rfl
        have eb1 : (b.kind == 1) = false := by rw [kb]; rfl
        have eb2 : (b.kind == 2) = false := by rw [kb]; rfl
        have eb3 : (b.kind == 3) = false := by rw [kb]; rfl
        have eb4 : (b.kind == 4) = true := by rw [kb]; rfl
        have eb5 : (b.kind == 5) = false := by rw [kb]; rfl
        have ene : (a.kind != b.kind) = true := by rw [k, kb]; rfl
        have HC : Aside0 (cmpD a b = (0, false)) := ⟨by unfold cmpD numK nanD worth; rw [HM.out]; simp [k, kb]⟩
        go_wp2
        go_ret2
        exact ⟨by first | (rw [HC.out]; done) | (rw [HC.out]; rfl), HWB.out⟩
      · have ea1 : (a.kind == 1) = false := by rw [k]; rfl
        have ea2 : (a.kind == 2) = true := by rw [k]; rfl
        have ea3 : (a.kind == 3) = false := by rw [k]; rfl
        have ea4 : (a.kind == 4) = false := by rw [k]; rfl
        have ea5 : (a.kind == 5) = false := by rw [k]; rfl
        have eb1 : (b.kind == 1) = false := by rw [kb]; rfl
        have eb2 : (b.kind == 2) = false := by rw [kb]; rfl
        have eb3 : (b.kind == 3) = false := by rw [kb]; rfl
        have eb4 : (b.kind == 4) = false := by rw [kb]; rfl
        have eb5 : (b.kind == 5) = true := by rw [kb]; rfl
        have ene : (a.kind != b.kind) = true := by rw [k, kb]; rfl
        have HC : Aside0 (cmpD a b = (0, false)) := ⟨by unfold cmpD numK nanD worth; rw [HM.out]; simp [k, kb]⟩
        go_wp2
        go_ret2
        exact ⟨by first | (rw [HC.out]; done) | (rw [HC.out]; rfl), HWB.out⟩
    · rcases hkb with kb | kb | kb | kb | kb
      · have ea1 : (a.kind == 1) = false := by rw [k]; rfl
        have ea2 : (a.kind == 2) = false := by rw [k]; rfl
        have ea3 : (a.kind == 3) = true := by rw [k]; rfl
        have ea4 : (a.kind == 4) = false := by rw [k]; rfl
        have ea5 : (a.kind == 5) = false := by rw [k]; rfl
        have eb1 : (b.kind == 1) = true := by rw [kb]; rfl
        have eb2 : (b.kind == 2) = false := by rw [kb]; rfl
        have eb3 : (b.kind == 3) = false := by rw [kb]; rfl
        have eb4 : (b.kind == 4) = false := by rw [kb]; rfl
        have eb5 : (b.kind == 5) = false := by rw [kb]; rfl
        have ene : (a.kind != b.kind) = true := by rw [k, kb]; rfl
        have HC : Aside0 (cmpD a b = (0, false)) := ⟨by unfold cmpD numK nanD worth; rw [HM.out]; simp [k, kb]⟩
        go_wp2
        go_ret2
        exact ⟨by first | (rw [HC.out]; done) | (rw [HC.out]; rfl), HWB.out⟩
      · have ea1 : (a.kind == 1) = false := by rw [k]; rfl
        have ea2 : (a.kind == 2) = false := by rw [k]; rfl
        have ea3 : (a.kind == 3) = true := by rw [k]; rfl
        have ea4 : (a.kind == 4) = false := by rw [k]; rfl
        have ea5 : (a.kind == 5) = false := by rw [k]; rfl
        have eb1 : (b.kind == 1) = false := by rw [kb]; rfl
        have eb2 : (b.kind == 2) = true := by rw [kb]; rfl
        have eb3 : (b.kind == 3) = false := by rw [kb]; rfl
        have eb4 : (b.kind == 4) = false := by rw [kb]; rfl
        have eb5 : (b.kind == 5) = false := by rw [kb]; rfl
        have ene : (a.kind != b.kind) = true := by rw [k, kb]; rfl
        cases hn : nanB a.re with
        | true =>
          have HC : Aside0 (cmpD a b = (0, false)) := ⟨by unfold cmpD numK nanD worth; rw [HM.out]; simp [k, kb, hn]⟩
          go_wp2_with (go_at_call 25; (refine (compareInt_nan a.re b.it _ HVB2.out.i1 HVB2.out.i2 hn).mono ?_; rintro e3 w3 ⟨rfl, hw⟩; subst hw))
          go_ret2
          exact ⟨by first | (rw [HC.out]; done) | (rw [HC.out]; rfl), HWB.out⟩
        | false =>
          obtain ⟨c0, hc0⟩ : ∃ c0, cmpI (V a.re) (b.it * (oneM : Int)) = c0 := ⟨_, rfl⟩
          have lo := ord_I.lo (V a.re) (b.it * (oneM : Int))
          have hi := ord_I.hi (V a.re) (b.it * (oneM : Int))
          rw [hc0] at lo hi
          have HC0 := Aside0.mk hc0
          have HC : Aside0 (cmpD a b = (c0, true)) := ⟨by unfold cmpD numK nanD worth; rw [HM.out]; simp [k, kb, hn, hc0]⟩
          clear lo hi hc0
          go_wp2_with (go_at_call 25; (refine (compareInt_fin a.re b.it _ HVB2.out.i1 HVB2.out.i2 hn).mono ?_; rintro e3 w3 ⟨rfl, hw⟩; subst hw; rw [HC0.out]))
          go_ret2
          exact ⟨by first | (rw [HC.out]; done) | (rw [HC.out]; rfl), HWB.out⟩
      · have ea1 : (a.kind == 1) = false := by rw [k]; rfl
        have ea2 : (a.kind == 2) = false := by rw [k]; rfl
        have ea3 : (a.kind == 3) = true := by rw [k]; rfl
        have ea4 : (a.kind == 4) = false := by rw [k]; rfl
        have ea5 : (a.kind == 5) = false := by rw [k]; rfl
        have eb1 : (b.kind == 1) = false := by rw [kb]; rfl
        have eb2 : (b.kind == 2) = false := by rw [kb]; rfl
        have eb3 : (b.kind == 3) = true := by rw [kb]; rfl
        have eb4 : (b.kind == 4) = false := by rw [kb]; rfl
        have eb5 : (b.kind == 5) = false := by rw [kb]; rfl
        have ene : (a.kind != b.kind) = false := by rw [k, kb]; rfl
        have sa := f_self a.re
        have sb := f_self b.re
        cases hna : nanB a.re with
        | true =>
          rw [hna] at sa
          have HC : Aside0 (cmpD a b = (0, false)) := ⟨by unfold cmpD numK nanD worth; rw [HM.out]; simp [k, kb, hna]⟩
          go_wp2
          go_ret2
          exact ⟨by first | (rw [HC.out]; done) | (rw [HC.out]; rfl), HWB.out⟩
        | false =>
          rw [hna] at sa
          cases hnb : nanB b.re with
          | true =>
            rw [hnb] at sb
            have HC : Aside0 (cmpD a b = (0, false)) := ⟨by unfold cmpD numK nanD worth; rw [HM.out]; simp [k, kb, hna, hnb]⟩
            go_wp2
            go_ret2
            exact ⟨by first | (rw [HC.out]; done) | (rw [HC.out]; rfl), HWB.out⟩
          | false =>
            rw [hnb] at sb
            have HC : Aside0 (cmpD a b = (cmpI (V a.re) (V b.re), true)) := ⟨by unfold cmpD numK nanD worth; rw [HM.out]; simp [k, kb, hna, hnb]⟩
            go_wp2_with (go_at_call 28; (refine (cmpReal_calls a.re b.re _ hna hnb).mono ?_; rintro e3 w3 ⟨rfl, hw⟩; subst hw))
            go_ret2
            exact ⟨by first | (rw [HC.out]; done) | (rw [HC.out]; rfl), HWB.out⟩
      · have ea1 : (a.kind == 1) = false := by rw [k]; rfl
        have ea2 : (a.kind == 2) = false := by rw [k]; rfl
        have ea3 : (a.kind == 3) = true := by rw [k]; rfl
        have ea4 : (a.kind == 4) = false := by rw [k]; rfl
        have ea5 : (a.kind == 5) = false := by rw [k]; rfl
        have eb1 : (b.kind == 1) = false := by rw [kb]; rfl
        have eb2 : (b.kind == 2) = false := by rw [kb]; rfl
        have eb3 : (b.kind == 3) = false := by rw [kb]; rfl
        have eb4 : (b.kind == 4) = true := by rw [kb]; rfl
        have eb5 : (b.kind == 5) = false := by rw [kb]; rfl
        have ene : (a.kind != b.kind) = true := by rw [k, kb]; rfl
        have HC : Aside0 (cmpD a b = (0, false)) := ⟨by unfold cmpD numK nanD worth; rw [HM.out]; simp [k, kb]⟩
        go_wp2
        go_ret2
        exact ⟨by first | (rw [HC.out]; done) | (rw [HC.out]; rfl), HWB.out⟩
      · have ea1 : (a.kind == 1) = false := by rw [k]; rfl
        have ea2 : (a.kind == 2) = false := by rw [k]; rfl
        have ea3 : (a.kind == 3) = true := by rw [k]; rfl
        have ea4 : (a.kind == 4) = false := by rw [k]; rfl
        have ea5 : (a.kind == 5) = false := by rw [k]; rfl
        have eb1 : (b.kind == 1) = false := by rw [kb]; rfl
        have eb2 : (b.kind == 2) = false := by rw [kb]; rfl
        have eb3 : (b.kind == 3) = false := by rw [kb]; rfl
        have eb4 : (b.kind == 4) = false := by rw [kb]; rfl
        have eb5 : (b.kind == 5) = true := by rw [kb]; rfl
        have ene : (a.kind != b.kind) = true := by rw [k, kb]; rfl
        have HC : Aside0 (cmpD a b = (0, false)) := ⟨by unfold cmpD numK nanD worth; rw [HM.out]; simp [k, kb]⟩
        go_wp2
        go_ret2
        exact ⟨by first | (rw [HC.out]; done) | (rw [HC.out]; rfl), HWB.out⟩
    · rcases hkb with kb | kb | kb | kb | kb
      · have ea1 : (a.kind == 1) = false := by rw [k]; rfl
        have ea2 : (a.kind == 2) = false := by rw [k]; rfl
        have ea3 : (a.kind == 3) = false := by rw [k]; rfl
        have ea4 : (a.kind == 4) = true := by rw [k]; rfl
        have ea5 : (a.kind == 5) = false := by rw [k]; rfl
        have eb1 : (b.kind == 1) = true := by rw [kb]; rfl
        have eb2 : (b.kind == 2) = false := by rw [kb]; rfl
        have eb3 : (b.kind == 3) = false := by rw [kb]; rfl
        have eb4 : (b.kind == 4) = false := by rw [kb]; rfl
        have eb5 : (b.kind == 5) = false := by rw [kb]; rfl
        have ene : (a.kind != b.kind) = true := by rw [k, kb]; rfl
        have HC : Aside0 (cmpD a b = (0, false)) := ⟨by unfold cmpD numK nanD worth; rw [HM.out]; simp [k, kb]⟩
        go_wp2
        go_ret2
        exact ⟨by first | (rw [HC.out]; done) | (rw [HC.out]; rfl), HWB.out⟩
      · have ea1 : (a.kind == 1) = false := by rw [k]; rfl
        have ea2 : (a.kind == 2) = false := by rw [k]; rfl
        have ea3 : (a.kind == 3) = false := by rw [k]; rfl
        have ea4 : (a.kind == 4) = true := by rw [k]; rfl
        have ea5 : (a.kind == 5) = false := by rw [k]; rfl
        have eb1 : (b.kind == 1) = false := by rw [kb]; rfl
        have eb2 : (b.kind == 2) = true := by rw [kb]; rfl
        have eb3 : (b.kind == 3) = false := by rw [kb]; rfl
        have eb4 : (b.kind == 4) = false := by rw [kb]; rfl
        have eb5 : (b.kind == 5) = false := by rw [kb]; rfl
        have ene : (a.kind != b.kind) = true := by rw [k, kb]; rfl
        have HC : Aside0 (cmpD a b = (0, false)) := ⟨by unfold cmpD numK nanD worth; rw [HM.out]; simp [k, kb]⟩
        go_wp2
        go_ret2
        exact ⟨by first | (rw [HC.out]; done) | (rw [HC.out]; rfl), HWB.out⟩
      · have ea1 : (a.kind == 1) = false := by rw [k]; rfl
        have ea2 : (a.kind == 2) = false := by rw [k]; rfl
        have ea3 : (a.kind == 3) = false := by rw [k]; rfl
        have ea4 : (a.kind == 4) = true := by rw [k]; rfl
        have ea5 : (a.kind == 5) = false := by rw [k]; rfl
        have eb1 : (b.kind == 1) = false := by rw [kb]; rfl
        have eb2 : (b.kind == 2) = false := by rw [kb]; rfl
        have eb3 : (b.kind == 3) = true := by rw [kb]; rfl
        have eb4 : (b.kind == 4) = false := by rw [kb]; rfl
        have eb5 : (b.kind == 5) = false := by rw [kb]; rfl
        have ene : (a.kind != b.kind) = true := by rw [k, kb]; rfl
        have HC : Aside0 (cmpD a b = (0, false)) := ⟨by unfold cmpD numK nanD worth; rw [HM.out]; simp [k, kb]⟩
        go_wp2
        go_ret2
        exact ⟨by first | (rw [HC.out]; done) | (rw [HC.out]; rfl), HWB.out⟩
      · have ea1 : (a.kind == 1) = false := by rw [k]; rfl
        have ea2 : (a.kind == 2) = false := by rw [k]; rfl
        have ea3 : (a.kind == 3) = false := by rw [k]; rfl
        have ea4 : (a.kind == 4) = true := by rw [k]; rfl
        have ea5 : (a.kind == 5) = false := by rw [k]; rfl
        have eb1 : (b.kind == 1) = false := by rw [kb]; rfl
        have eb2 : (b.kind == 2) = false := by rw [kb]; rfl
        have eb3 : (b.kind == 3) = false := by rw [kb]; rfl
        have eb4 : (b.kind == 4) = true := by rw [kb]; rfl
        have eb5 : (b.kind == 5) = false := by rw [kb]; rfl
        have ene : (a.kind != b.kind) = false := by rw [k, kb]; rfl
        have HC : Aside0 (cmpD a b = (cmpB a.tx b.tx, true)) := ⟨by unfold cmpD numK nanD worth; rw [HM.out]; simp [k, kb]⟩
        go_wp2_with (go_at_call 29; (refine (cmpText_calls a.tx b.tx _).mono ?_; rintro e3 w3 ⟨rfl, hw⟩; subst hw))
        go_ret2
        exact ⟨by first | (rw [HC.out]; done) | (rw [HC.out]; rfl), HWB.out⟩
      · have ea1 : (a.kind == 1) = false := by rw [k]; rfl
        have ea2 : (a.kind == 2) = false := by rw [k]; rfl
        have ea3 : (a.kind == 3) = false := by rw [k]; rfl
        have ea4 : (a.kind == 4) = true := by rw [k]; rfl
        have ea5 : (a.kind == 5) = false := by rw [k]; rfl
        have eb1 : (b.kind == 1) = false := by rw [kb]; rfl
        have eb2 : (b.kind == 2) = false := by rw [kb]; rfl
        have eb3 : (b.kind == 3) = false := by rw [kb]; rfl
        have eb4 : (b.kind == 4) = false := by rw [kb]; rfl
        have eb5 : (b.kind == 5) = true := by rw [kb]; rfl
        have ene : (a.kind != b.kind) = true := by rw [k, kb]; rfl
        have HC : Aside0 (cmpD a b = (0, false)) := ⟨by unfold cmpD numK nanD worth; rw [HM.out]; simp [k, kb]⟩
        go_wp2
        go_ret2
        exact ⟨by first | (rw [HC.out]; done) | (rw [HC.out]; rfl), HWB.out⟩
    · rcases hkb with kb | kb | kb | kb | kb
      · have ea1 : (a.kind == 1) = false := by rw [k]; rfl
        have ea2 : (a.kind == 2) = false := by rw [k]; rfl
        have ea3 : (a.kind == 3) = false := by rw [k]; rfl
        have ea4 : (a.kind == 4) = false := by rw [k]; rfl
        have ea5 : (a.kind == 5) = true := by rw [k]; rfl
        have eb1 : (b.kind == 1) = true := by rw [kb]; rfl
        have eb2 : (b.kind == 2) = false := by rw [kb]; rfl
        have eb3 : (b.kind == 3) = false := by rw [kb]; rfl
        have eb4 : (b.kind == 4) = false := by rw [kb]; rfl
        have eb5 : (b.kind == 5) = false := by rw [kb]; rfl
        have ene : (a.kind != b.kind) = true := by rw [k, kb]; rfl
        have HC : Aside0 (cmpD a b = (0, false)) := ⟨by unfold cmpD numK nanD worth; rw [HM.out]; simp [k, kb]⟩
        go_wp2
        go_ret2
        exact ⟨by first | (rw [HC.out]; done) | (rw [HC.out]; rfl), HWB.out⟩
      · have ea1 : (a.kind == 1) = false := by rw [k]; rfl
        have ea2 : (a.kind == 2) = false := by rw [k]; rfl
        have ea3 : (a.kind == 3) = false := by rw [k]; rfl
        have ea4 : (a.kind == 4) = false := by rw [k]; rfl
        have ea5 : (a.kind == 5) = true := by rw [k]; rfl
        have eb1 : (b.kind == 1) = false := by rw [kb]; rfl
        have eb2 : (b.kind == 2) = true := by rw [kb]; rfl
        have eb3 : (b.kind == 3) = false := by rw [kb]; rfl
        have eb4 : (b.kind == 4) = false := by rw [kb]; rfl
        have eb5 : (b.kind == 5) = false := by rw [kb]; rfl
        have ene : (a.kind != b.kind) = true := by rw [k, kb]; rfl
        have HC : Aside0 (cmpD a b = (0, false)) := ⟨by unfold cmpD numK nanD worth; rw [HM.out]; simp [k, kb]⟩
        go_wp2
        go_ret2
        exact ⟨by first | (rw [HC.out]; done) | (rw [HC.out]; rfl), HWB.out⟩
      · have ea1 : (a.kind == 1) = false := by rw [k]; rfl
        have ea2 : (a.kind == 2) = false := by rw [k]; rfl
        have ea3 : (a.kind == 3) = false := by rw [k]; rfl
        have ea4 : (a.kind == 4) = false := by rw [k]; rfl
        have ea5 : (a.kind == 5) = true := by rw [k]; rfl
        have eb1 : (b.kind == 1) = false := by rw [kb]; rfl
        have eb2 : (b.kind == 2) = false := by rw [kb]; rfl
        have eb3 : (b.kind == 3) = true := by rw [kb]; rfl
        have eb4 : (b.kind == 4) = false := by rw [kb]; rfl
        have eb5 : (b.kind == 5) = false := by rw [kb]; rfl
        have ene : (a.kind != b.kind) = true := by rw [k, kb]; rfl
        have HC : Aside0 (cmpD a b = (0, false)) := ⟨by unfold cmpD numK nanD worth; rw [HM.out]; simp [k, kb]⟩
        go_wp2
        go_ret2
        exact ⟨by first | (rw [HC.out]; done) | (rw [HC.out]; rfl), HWB.out⟩
      · have ea1 : (a.kind == 1) = false := by rw [k]; rfl
        have ea2 : (a.kind == 2) = false := by rw [k]; rfl
        have ea3 : (a.kind == 3) = false := by rw [k]; rfl
        have ea4 : (a.kind == 4) = false := by rw [k]; rfl
        have ea5 : (a.kind == 5) = true := by rw [k]; rfl
        have eb1 : (b.kind == 1) = false := by rw [kb]; rfl
        have eb2 : (b.kind == 2) = false := by rw [kb]; rfl
        have eb3 : (b.kind == 3) = false := by rw [kb]; rfl
        have eb4 : (b.kind == 4) = true := by rw [kb]; rfl
        have eb5 : (b.kind == 5) = false := by rw [kb]; rfl
        have ene : (a.kind != b.kind) = true := by rw [k, kb]; rfl
        have HC : Aside0 (cmpD a b = (0, false)) := ⟨by unfold cmpD numK nanD worth; rw [HM.out]; simp [k, kb]⟩
        go_wp2
        go_ret2
        exact ⟨by first | (rw [HC.out]; done) | (rw [HC.out]; rfl), HWB.out⟩
      · have ea1 : (a.kind == 1) = false := by rw [k]; rfl
        have ea2 : (a.kind == 2) = false := by rw [k]; rfl
        have ea3 : (a.kind == 3) = false := by rw [k]; rfl
        have ea4 : (a.kind == 4) = false := by rw [k]; rfl
        have ea5 : (a.kind == 5) = true := by rw [k]; rfl
        have eb1 : (b.kind == 1) = false := by rw [kb]; rfl
        have eb2 : (b.kind == 2) = false := by rw [kb]; rfl
        have eb3 : (b.kind == 3) = false := by rw [kb]; rfl
        have eb4 : (b.kind == 4) = false := by rw [kb]; rfl
        have eb5 : (b.kind == 5) = true := by rw [kb]; rfl
        have ene : (a.kind != b.kind) = false := by rw [k, kb]; rfl
        have HC : Aside0 (cmpD a b = (cmpL a.n a.G b.n b.G, true)) := ⟨by unfold cmpD numK nanD worth; rw [HM.out]; simp [k, kb]⟩
        go_wp2_with (go_at_call 30; (refine (slCompare_calls _ Aa Ab a.n b.n ca cb a.G b.G HVA2.out.tx HVB2.out.tx HVA2.out.n1).mono ?_; rintro e3 w3 ⟨rfl, hw⟩; subst hw))
        go_ret2
        exact ⟨by first | (rw [HC.out]; done) | (rw [HC.out]; rfl), HWB.out⟩
end Go.Proofs.Ytgkocbbpkiechaa.Val
