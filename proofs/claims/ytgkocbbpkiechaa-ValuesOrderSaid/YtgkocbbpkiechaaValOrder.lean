/- ValuesOrder says true (a plain walk, case by case; printed by gen_order.py). -/
import Derived.Test.YtgkocbbpkiechaaValLaw
namespace Go.Proofs.Ytgkocbbpkiechaa.Val
open Go.RowKit Go.Proofs.YtgkocbbpkiechaaW.PrintWords Go.Proofs.YtgkocbbpkiechaaW.PrintLast Go.Proofs.YtgkocbbpkiechaaW.PrintMore Go.Proofs.Ytgkocbbpkiechaa.Flt
set_option linter.unusedVariables false
set_option linter.unusedSimpArgs false
set_option maxRecDepth 100000
theorem compare_eq {w : World} {a b : ValD} {Aa Ab : Option Addr} {ca cb : Nat} {x : Int} {o : Bool} (ha : VAt w a Aa) (hb : VAt w b Ab) (h : cmpD a b = (x, o)) :
    Calls Try.prog 7 #[.agg #[.int .i64 a.kind, .bool a.bo, .int .i64 a.it, .float .f32 a.re, .string a.tx, .slice Aa a.n ca], .agg #[.int .i64 b.kind, .bool b.bo, .int .i64 b.it, .float .f32 b.re, .string b.tx, .slice Ab b.n cb]] w fun e w' => e = .returned (.tuple #[.int .i64 x, .bool o]) ∧ Below w.heap.size w w' :=
  (compare_calls w a b Aa Ab ca cb ha hb).mono fun e w' hh => ⟨by rw [hh.1, h], hh.2⟩
theorem check_eq {w : World} {d : ValD} {A : Option Addr} {c : Nat} {o : Bool} {x : Int} (h : VAt w d A) (he : chk d = o) (hx : errK o = x) :
    Calls Try.prog 8 #[.agg #[.int .i64 d.kind, .bool d.bo, .int .i64 d.it, .float .f32 d.re, .string d.tx, .slice A d.n c]] w fun e w' => e = .returned (.int .i64 x) ∧ Below w.heap.size w w' :=
  (check_at h).mono fun e w' hh => ⟨by rw [hh.1, he, hx], hh.2⟩
theorem same_eq {w : World} {a b : ValD} {Aa Ab : Option Addr} {ca cb : Nat} {o : Bool} (ha : VAt w a Aa) (hb : VAt w b Ab) (h : sameD a b = o) :
    Calls Try.prog 10 #[.agg #[.int .i64 a.kind, .bool a.bo, .int .i64 a.it, .float .f32 a.re, .string a.tx, .slice Aa a.n ca], .agg #[.int .i64 b.kind, .bool b.bo, .int .i64 b.it, .float .f32 b.re, .string b.tx, .slice Ab b.n cb]] w fun e w' => e = .returned (.bool o) ∧ Below w.heap.size w w' :=
  (same_calls w a b Aa Ab ca cb ha hb).mono fun e w' hh => ⟨by rw [hh.1, h], hh.2⟩
theorem num_calls (w : World) (a : ValD) (Aa : Option Addr) (ca : Nat) {o : Bool} (h : numK a.kind = o) :
    Calls Try.prog 9 #[.agg #[.int .i64 a.kind, .bool a.bo, .int .i64 a.it, .float .f32 a.re, .string a.tx, .slice Aa a.n ca]] w fun e w' => e = .returned (.bool o) ∧ Below w.heap.size w w' := by
  have HH := Aside0.mk h
  clear h
  go_enter Try.func9, Try.ntmps9
  go_upto_region 1 with (fail)
  have T1 := Aside0.mk (heap_alloc_new w (.cells #[.int .i64 a.kind, .bool a.bo, .int .i64 a.it, .float .f32 a.re, .string a.tx, .slice Aa a.n ca] 25))
  have B1 := Aside0.mk (below_alloc (Below.refl w.heap.size w) (.cells #[.int .i64 a.kind, .bool a.bo, .int .i64 a.it, .float .f32 a.re, .string a.tx, .slice Aa a.n ca] 25))
  generalize w.alloc (.cells #[.int .i64 a.kind, .bool a.bo, .int .i64 a.it, .float .f32 a.re, .string a.tx, .slice Aa a.n ca] 25) = W1 at T1 B1 ⊢
  obtain ⟨p0, p1, p2, p3, p4, p5⟩ := box6 T1.out
  cases e2 : (a.kind == 2) with
  | true =>
    go_wp2
    go_ret
    exact ⟨by rw [← HH.out]; unfold numK; rw [e2]; rfl, B1.out⟩
  | false =>
    go_wp2
    go_ret
    exact ⟨by rw [← HH.out]; unfold numK; rw [e2]; rfl, B1.out⟩
/-- The two constants that are compared at the end. -/
def oneD : ValD := ⟨2, false, 1, 0, ByteArray.empty, 0, fun _ => ByteArray.empty⟩
def moreD : ValD := ⟨3, false, 0, 1069547520, ByteArray.empty, 0, fun _ => ByteArray.empty⟩
theorem one_more : cmpD oneD moreD = (-1, true) := by kernel_rfl
theorem const_at (w : World) (d : ValD) (h0 : d.n = 0) (h1 : d.re < 4294967296) (h2 : -9223372036854775808 ≤ d.it) (h3 : d.it ≤ 9223372036854775807) (h4 : d.tx.size ≤ 9223372036854775807) : VAt w d none :=
  ⟨fun i hi => absurd hi (by omega), h1, h2, h3, h4, by omega, fun j hj => absurd hj (by omega)⟩
theorem const_calls (w : World) : Calls Try.prog 7 #[.agg #[.int .i64 2, .bool false, .int .i64 1, .float .f32 0, .string ByteArray.empty, .slice none 0 0], .agg #[.int .i64 3, .bool false, .int .i64 0, .float .f32 1069547520, .string ByteArray.empty, .slice none 0 0]] w fun e w' => e = .returned (.tuple #[.int .i64 (-1), .bool true]) ∧ Below w.heap.size w w' :=
  compare_eq (w := w) (a := oneD) (b := moreD) (Aa := none) (Ab := none) (ca := 0) (cb := 0) (const_at w oneD rfl (by decide) (by decide) (by decide) (by decide)) (const_at w moreD rfl (by decide) (by decide) (by decide) (by decide)) one_more
theorem buildInt (w : World) : (Instr.build 25 #[(0, .int .i64 2), (2, .int .i64 1)]).run Try.prog w = .ok (.agg #[.int .i64 2, .bool false, .int .i64 1, .float .f32 0, .string ByteArray.empty, .slice none 0 0]) w := run_build w 25 _ _ (by kernel_rfl)
theorem buildReal (w : World) : (Instr.build 25 #[(0, .int .i64 3), (3, .float .f32 1069547520)]).run Try.prog w = .ok (.agg #[.int .i64 3, .bool false, .int .i64 0, .float .f32 1069547520, .string ByteArray.empty, .slice none 0 0]) w := run_build w 25 _ _ (by kernel_rfl)
attribute [local go_sem] buildInt buildReal
structure OrdF (a b c : ValD) (x y z : Int) (ok is was : Bool) : Prop where
  lo : -1 ≤ x
  hi : x ≤ 1
  no : ok = false → x = 0
  back : cmpD b a = (-x, ok)
  tr : ok = true → is = true → was = true ∧ (x ≤ 0 → y ≤ 0 → z ≤ 0 ∧ (x < 0 ∨ y < 0 → z < 0))
  oks : ok = ((chk a && chk b) && (!(nanB a.re || nanB b.re) && relK a b))
  same : sameD a b = true → chk a = true ∧ chk b = true ∧ (a.kind == b.kind) = true ∧ ((nanB a.re || nanB b.re) = false → ok = true ∧ x = 0)
theorem ord_facts {a b c : ValD} {x y z : Int} {ok is was : Bool} (h1 : cmpD a b = (x, ok)) (h2 : cmpD b c = (y, is)) (h3 : cmpD a c = (z, was)) : OrdF a b c x y z ok is was := by
  rw [cmpD_eq] at h1 h2 h3
  have hok : okD a b = ok := by split at h1 <;> simp_all
  have his : okD b c = is := by split at h2 <;> simp_all
  have hwas : okD a c = was := by split at h3 <;> simp_all
  have hx : x = if ok = true then coreD a b else 0 := by rw [← hok]; split at h1 <;> simp_all
  have hy : y = if is = true then coreD b c else 0 := by rw [← his]; split at h2 <;> simp_all
  have hz : z = if was = true then coreD a c else 0 := by rw [← hwas]; split at h3 <;> simp_all
  have hl := core_lo a b
  have hoks : ok = ((chk a && chk b) && (!(nanB a.re || nanB b.re) && relK a b)) := by
    rw [← hok]
    unfold okD
    cases e1 : chk a with
    | false => rfl
    | true =>
      cases e2 : chk b with
      | false => rfl
      | true => rw [chk_nan e1, chk_nan e2]
  refine ⟨by rw [hx]; split <;> omega, by rw [hx]; split <;> omega, fun h => by rw [hx, h]; rfl, ?_, ?_, hoks, ?_⟩
  · rw [cmpD_eq, ok_symm, hok, hx]
    cases ok with
    | true => simp only [if_true]; rw [core_anti (ok_parts hok).2.2.2.2]
    | false => rfl
  · intro e1 e2
    rw [e1] at hok
    rw [e2] at his
    have h5 := ok_trans hok his
    have e3 : was = true := by rw [← hwas, h5]
    refine ⟨e3, ?_⟩
    rw [hx, hy, hz, e1, e2, e3]
    simp only [if_true]
    exact core_trans (ok_parts hok).2.2.2.2 (ok_parts his).2.2.2.2
  · intro hs
    have hs' := hs
    unfold sameD at hs'
    simp only [Bool.and_eq_true] at hs'
    refine ⟨hs'.1.1, hs'.1.2, hs'.2.1, fun hn => ?_⟩
    rw [Bool.or_eq_false_iff] at hn
    have h6 := same_core hs (by rw [chk_nan hs'.1.1]; exact hn.1)
    rw [hok] at h6
    exact ⟨h6.1, by rw [hx, h6.1, h6.2]; rfl⟩
set_option maxHeartbeats 16000000 in
theorem order_walk (w : World) (a b c : ValD) (Aa Ab Ac : Option Addr) (ca cb cc : Nat) (ha : VAt w a Aa) (hb : VAt w b Ab) (hc : VAt w c Ac) :
    Calls Try.prog 3 #[.agg #[.int .i64 a.kind, .bool a.bo, .int .i64 a.it, .float .f32 a.re, .string a.tx, .slice Aa a.n ca], .agg #[.int .i64 b.kind, .bool b.bo, .int .i64 b.it, .float .f32 b.re, .string b.tx, .slice Ab b.n cb], .agg #[.int .i64 c.kind, .bool c.bo, .int .i64 c.it, .float .f32 c.re, .string c.tx, .slice Ac c.n cc]] w fun e w' => e = .returned (.bool true) ∧ Below w.heap.size w w' := by
  have HA := Aside0.mk ha
  have HB := Aside0.mk hb
  have HC := Aside0.mk hc
  clear ha hb hc
  obtain ⟨x, ok, hX⟩ : ∃ x ok, cmpD a b = (x, ok) := ⟨_, _, rfl⟩
  obtain ⟨y, is, hY⟩ : ∃ x ok, cmpD b c = (x, ok) := ⟨_, _, rfl⟩
  obtain ⟨z, was, hZ⟩ : ∃ x ok, cmpD a c = (x, ok) := ⟨_, _, rfl⟩
  have HOF := Aside0.mk (ord_facts hX hY hZ)
  have HX := Aside0.mk hX
  have HY := Aside0.mk hY
  have HZ := Aside0.mk hZ
  obtain ⟨wv, hwv⟩ : ∃ wv, wv = -x := ⟨_, rfl⟩
  have HBK : Aside0 (cmpD b a = (wv, ok)) := ⟨by rw [hwv]; exact HOF.out.back⟩
  have HWV0 := Aside0.mk hwv
  clear hX hY hZ hwv
  go_enter Try.func3, Try.ntmps3
  go_upto_region 1 with (fail)
  have T2' := heap_alloc2_new w (.cells #[.int .i64 a.kind, .bool a.bo, .int .i64 a.it, .float .f32 a.re, .string a.tx, .slice Aa a.n ca] 25) (.cells #[.int .i64 b.kind, .bool b.bo, .int .i64 b.it, .float .f32 b.re, .string b.tx, .slice Ab b.n cb] 25)
  have T1' := (heap_alloc_old (w.alloc (.cells #[.int .i64 a.kind, .bool a.bo, .int .i64 a.it, .float .f32 a.re, .string a.tx, .slice Aa a.n ca] 25)) (.cells #[.int .i64 b.kind, .bool b.bo, .int .i64 b.it, .float .f32 b.re, .string b.tx, .slice Ab b.n cb] 25) (blk_lt (heap_alloc_new w (.cells #[.int .i64 a.kind, .bool a.bo, .int .i64 a.it, .float .f32 a.re, .string a.tx, .slice Aa a.n ca] 25)))).trans (heap_alloc_new w (.cells #[.int .i64 a.kind, .bool a.bo, .int .i64 a.it, .float .f32 a.re, .string a.tx, .slice Aa a.n ca] 25))
  have hb2 := below_alloc' (below_alloc (Below.refl w.heap.size w) (.cells #[.int .i64 a.kind, .bool a.bo, .int .i64 a.it, .float .f32 a.re, .string a.tx, .slice Aa a.n ca] 25)) (.cells #[.int .i64 b.kind, .bool b.bo, .int .i64 b.it, .float .f32 b.re, .string b.tx, .slice Ab b.n cb] 25)
  have hs2 : ((w.alloc (.cells #[.int .i64 a.kind, .bool a.bo, .int .i64 a.it, .float .f32 a.re, .string a.tx, .slice Aa a.n ca] 25)).alloc (.cells #[.int .i64 b.kind, .bool b.bo, .int .i64 b.it, .float .f32 b.re, .string b.tx, .slice Ab b.n cb] 25)).heap.size = w.heap.size + 2 := by simp
  generalize (w.alloc (.cells #[.int .i64 a.kind, .bool a.bo, .int .i64 a.it, .float .f32 a.re, .string a.tx, .slice Aa a.n ca] 25)).alloc (.cells #[.int .i64 b.kind, .bool b.bo, .int .i64 b.it, .float .f32 b.re, .string b.tx, .slice Ab b.n cb] 25) = W2 at T1' T2' hb2 hs2 ⊢
  have T3 := Aside0.mk (heap_alloc_new W2 (.cells #[.int .i64 c.kind, .bool c.bo, .int .i64 c.it, .float .f32 c.re, .string c.tx, .slice Ac c.n cc] 25))
  have T1 := Aside0.mk ((heap_alloc_old W2 (.cells #[.int .i64 c.kind, .bool c.bo, .int .i64 c.it, .float .f32 c.re, .string c.tx, .slice Ac c.n cc] 25) (blk_lt T1')).trans T1')
  have T2 := Aside0.mk ((heap_alloc_old W2 (.cells #[.int .i64 c.kind, .bool c.bo, .int .i64 c.it, .float .f32 c.re, .string c.tx, .slice Ac c.n cc] 25) (blk_lt T2')).trans T2')
  have HWV := Aside0.mk (below_alloc' hb2 (.cells #[.int .i64 c.kind, .bool c.bo, .int .i64 c.it, .float .f32 c.re, .string c.tx, .slice Ac c.n cc] 25))
  rw [hs2] at T3
  clear T1' T2' hb2 hs2
  generalize W2.alloc (.cells #[.int .i64 c.kind, .bool c.bo, .int .i64 c.it, .float .f32 c.re, .string c.tx, .slice Ac c.n cc] 25) = V at T1 T2 T3 HWV ⊢
  clear W2
  have HVA := Aside0.mk (HA.out.below HWV.out)
  have HVB := Aside0.mk (HB.out.below HWV.out)
  have HVC := Aside0.mk (HC.out.below HWV.out)
  generalize w.heap.size = q at T1 T2 T3 ⊢
  have HB9 : Aside0 (Below V.heap.size V V) := ⟨Below.refl _ _⟩
  obtain ⟨p0, p1, p2, p3, p4, p5⟩ := box6 ((HB9.out.block q (blk_lt T1.out)).trans T1.out)
  obtain ⟨r0, r1, r2, r3, r4, r5⟩ := box6 ((HB9.out.block (q + 1) (blk_lt T2.out)).trans T2.out)
  obtain ⟨s0, s1, s2, s3, s4, s5⟩ := box6 ((HB9.out.block (q + 2) (blk_lt T3.out)).trans T3.out)
  go_upto_region 5 with (first
    | (go_at_call 7; ((with_reducible refine (compare_eq (HVA.out.below HB9.out) (HVB.out.below HB9.out) HX.out).mono ?_); rintro e9 w9 ⟨rfl, b9⟩; have HB9 := Aside0.mk (below_step HB9.out b9); clear b9; clear p0 p1 p2 p3 p4 p5 r0 r1 r2 r3 r4 r5 s0 s1 s2 s3 s4 s5; obtain ⟨p0, p1, p2, p3, p4, p5⟩ := box6 ((HB9.out.block q (blk_lt T1.out)).trans T1.out); obtain ⟨r0, r1, r2, r3, r4, r5⟩ := box6 ((HB9.out.block (q + 1) (blk_lt T2.out)).trans T2.out); obtain ⟨s0, s1, s2, s3, s4, s5⟩ := box6 ((HB9.out.block (q + 2) (blk_lt T3.out)).trans T3.out)))
    | (go_at_call 7; ((with_reducible refine (compare_eq (HVB.out.below HB9.out) (HVC.out.below HB9.out) HY.out).mono ?_); rintro e9 w9 ⟨rfl, b9⟩; have HB9 := Aside0.mk (below_step HB9.out b9); clear b9; clear p0 p1 p2 p3 p4 p5 r0 r1 r2 r3 r4 r5 s0 s1 s2 s3 s4 s5; obtain ⟨p0, p1, p2, p3, p4, p5⟩ := box6 ((HB9.out.block q (blk_lt T1.out)).trans T1.out); obtain ⟨r0, r1, r2, r3, r4, r5⟩ := box6 ((HB9.out.block (q + 1) (blk_lt T2.out)).trans T2.out); obtain ⟨s0, s1, s2, s3, s4, s5⟩ := box6 ((HB9.out.block (q + 2) (blk_lt T3.out)).trans T3.out)))
    | (go_at_call 7; ((with_reducible refine (compare_eq (HVA.out.below HB9.out) (HVC.out.below HB9.out) HZ.out).mono ?_); rintro e9 w9 ⟨rfl, b9⟩; have HB9 := Aside0.mk (below_step HB9.out b9); clear b9; clear p0 p1 p2 p3 p4 p5 r0 r1 r2 r3 r4 r5 s0 s1 s2 s3 s4 s5; obtain ⟨p0, p1, p2, p3, p4, p5⟩ := box6 ((HB9.out.block q (blk_lt T1.out)).trans T1.out); obtain ⟨r0, r1, r2, r3, r4, r5⟩ := box6 ((HB9.out.block (q + 1) (blk_lt T2.out)).trans T2.out); obtain ⟨s0, s1, s2, s3, s4, s5⟩ := box6 ((HB9.out.block (q + 2) (blk_lt T3.out)).trans T3.out)))
    | (go_at_call 7; ((with_reducible refine (compare_eq (HVB.out.below HB9.out) (HVA.out.below HB9.out) HBK.out).mono ?_); rintro e9 w9 ⟨rfl, b9⟩; have HB9 := Aside0.mk (below_step HB9.out b9); clear b9; clear p0 p1 p2 p3 p4 p5 r0 r1 r2 r3 r4 r5 s0 s1 s2 s3 s4 s5; obtain ⟨p0, p1, p2, p3, p4, p5⟩ := box6 ((HB9.out.block q (blk_lt T1.out)).trans T1.out); obtain ⟨r0, r1, r2, r3, r4, r5⟩ := box6 ((HB9.out.block (q + 1) (blk_lt T2.out)).trans T2.out); obtain ⟨s0, s1, s2, s3, s4, s5⟩ := box6 ((HB9.out.block (q + 2) (blk_lt T3.out)).trans T3.out))))
  have lo := HOF.out.lo
  have hi := HOF.out.hi
  have hwv := HWV0.out
  have n1 : IntKind.i64.wrap (-wv) = x := by rw [IntKind.wrap_i64]; omega
  have n2 : wrap64 (-wv) = x := by unfold wrap64; omega
  have n3 : (x != x) = false := by simp
  have n4 : decide (x < -1) = false := decide_eq_false (by omega)
  have n5 : decide (x > 1) = false := decide_eq_false (by omega)
  have n6 : decide (1 < x) = false := decide_eq_false (by omega)
  have n7 : (ok != ok) = false := by cases ok <;> rfl
  clear lo hi hwv
  have hok := HOF.out.oks
  cases ok with
  | true =>
    replace hok := hok.symm
    simp only [Bool.and_eq_true, Bool.not_eq_true', Bool.or_eq_false_iff] at hok
    obtain ⟨⟨hca, hcb⟩, ⟨hna, hnb⟩, hrel⟩ := hok
    have HCA := Aside0.mk hca
    have HCB := Aside0.mk hcb
    have sa : (FloatKind.f32.format.order a.re a.re != some Ordering.eq) = false := by rw [f_self]; exact hna
    have sb : (FloatKind.f32.format.order b.re b.re != some Ordering.eq) = false := by rw [f_self]; exact hnb
    have HNN : Aside0 ((nanB a.re || nanB b.re) = false) := ⟨by rw [hna, hnb]; rfl⟩
    have hne : (a.kind == b.kind) = true ∨ ((a.kind == b.kind) = false ∧ numK a.kind = true ∧ numK b.kind = true) := by
      unfold relK at hrel
      cases he : (a.kind == b.kind) with
      | true => exact .inl rfl
      | false => rw [he, Bool.false_or, Bool.and_eq_true] at hrel; exact .inr ⟨rfl, hrel⟩
    clear hca hcb hna hnb hrel
    rcases hne with hke | ⟨hke, hnma, hnmb⟩
    · skip
      cases is with
      | false =>
        cases hsm : sameD a b with
        | false =>
          have HSM := Aside0.mk hsm
          clear hsm
          go_wp2_with (first
            | (go_at_call 8; ((with_reducible refine (check_eq (HVA.out.below HB9.out) HCA.out rfl).mono ?_); rintro e9 w9 ⟨rfl, b9⟩; have HB9 := Aside0.mk (below_step HB9.out b9); clear b9; clear p0 p1 p2 p3 p4 p5 r0 r1 r2 r3 r4 r5 s0 s1 s2 s3 s4 s5; obtain ⟨p0, p1, p2, p3, p4, p5⟩ := box6 ((HB9.out.block q (blk_lt T1.out)).trans T1.out); obtain ⟨r0, r1, r2, r3, r4, r5⟩ := box6 ((HB9.out.block (q + 1) (blk_lt T2.out)).trans T2.out); obtain ⟨s0, s1, s2, s3, s4, s5⟩ := box6 ((HB9.out.block (q + 2) (blk_lt T3.out)).trans T3.out)))
            | (go_at_call 8; ((with_reducible refine (check_eq (HVB.out.below HB9.out) HCB.out rfl).mono ?_); rintro e9 w9 ⟨rfl, b9⟩; have HB9 := Aside0.mk (below_step HB9.out b9); clear b9; clear p0 p1 p2 p3 p4 p5 r0 r1 r2 r3 r4 r5 s0 s1 s2 s3 s4 s5; obtain ⟨p0, p1, p2, p3, p4, p5⟩ := box6 ((HB9.out.block q (blk_lt T1.out)).trans T1.out); obtain ⟨r0, r1, r2, r3, r4, r5⟩ := box6 ((HB9.out.block (q + 1) (blk_lt T2.out)).trans T2.out); obtain ⟨s0, s1, s2, s3, s4, s5⟩ := box6 ((HB9.out.block (q + 2) (blk_lt T3.out)).trans T3.out)))
            | (go_at_call 10; ((with_reducible refine (same_eq (HVA.out.below HB9.out) (HVB.out.below HB9.out) HSM.out).mono ?_); rintro e9 w9 ⟨rfl, b9⟩; have HB9 := Aside0.mk (below_step HB9.out b9); clear b9; clear p0 p1 p2 p3 p4 p5 r0 r1 r2 r3 r4 r5 s0 s1 s2 s3 s4 s5; obtain ⟨p0, p1, p2, p3, p4, p5⟩ := box6 ((HB9.out.block q (blk_lt T1.out)).trans T1.out); obtain ⟨r0, r1, r2, r3, r4, r5⟩ := box6 ((HB9.out.block (q + 1) (blk_lt T2.out)).trans T2.out); obtain ⟨s0, s1, s2, s3, s4, s5⟩ := box6 ((HB9.out.block (q + 2) (blk_lt T3.out)).trans T3.out)))
            | (go_at_call 7; (refine (const_calls _).mono ?_; rintro e9 w9 ⟨rfl, b9⟩; have HB9 := Aside0.mk (below_step HB9.out b9); clear b9)))
          go_ret
          exact ⟨by first | rfl | (simp; done), below_step HWV.out HB9.out⟩
        | true =>
          have HSM := Aside0.mk hsm
          obtain ⟨z1, z2, z3, z4⟩ := HOF.out.same hsm
          clear hsm
          have hx00 := (z4 HNN.out).2
          have d9 : (x != 0) = false := by rw [hx00]; rfl
          clear z1 z2 z3 z4 hx00
          go_wp2_with (first
            | (go_at_call 8; ((with_reducible refine (check_eq (HVA.out.below HB9.out) HCA.out rfl).mono ?_); rintro e9 w9 ⟨rfl, b9⟩; have HB9 := Aside0.mk (below_step HB9.out b9); clear b9; clear p0 p1 p2 p3 p4 p5 r0 r1 r2 r3 r4 r5 s0 s1 s2 s3 s4 s5; obtain ⟨p0, p1, p2, p3, p4, p5⟩ := box6 ((HB9.out.block q (blk_lt T1.out)).trans T1.out); obtain ⟨r0, r1, r2, r3, r4, r5⟩ := box6 ((HB9.out.block (q + 1) (blk_lt T2.out)).trans T2.out); obtain ⟨s0, s1, s2, s3, s4, s5⟩ := box6 ((HB9.out.block (q + 2) (blk_lt T3.out)).trans T3.out)))
            | (go_at_call 8; ((with_reducible refine (check_eq (HVB.out.below HB9.out) HCB.out rfl).mono ?_); rintro e9 w9 ⟨rfl, b9⟩; have HB9 := Aside0.mk (below_step HB9.out b9); clear b9; clear p0 p1 p2 p3 p4 p5 r0 r1 r2 r3 r4 r5 s0 s1 s2 s3 s4 s5; obtain ⟨p0, p1, p2, p3, p4, p5⟩ := box6 ((HB9.out.block q (blk_lt T1.out)).trans T1.out); obtain ⟨r0, r1, r2, r3, r4, r5⟩ := box6 ((HB9.out.block (q + 1) (blk_lt T2.out)).trans T2.out); obtain ⟨s0, s1, s2, s3, s4, s5⟩ := box6 ((HB9.out.block (q + 2) (blk_lt T3.out)).trans T3.out)))
            | (go_at_call 10; ((with_reducible refine (same_eq (HVA.out.below HB9.out) (HVB.out.below HB9.out) HSM.out).mono ?_); rintro e9 w9 ⟨rfl, b9⟩; have HB9 := Aside0.mk (below_step HB9.out b9); clear b9; clear p0 p1 p2 p3 p4 p5 r0 r1 r2 r3 r4 r5 s0 s1 s2 s3 s4 s5; obtain ⟨p0, p1, p2, p3, p4, p5⟩ := box6 ((HB9.out.block q (blk_lt T1.out)).trans T1.out); obtain ⟨r0, r1, r2, r3, r4, r5⟩ := box6 ((HB9.out.block (q + 1) (blk_lt T2.out)).trans T2.out); obtain ⟨s0, s1, s2, s3, s4, s5⟩ := box6 ((HB9.out.block (q + 2) (blk_lt T3.out)).trans T3.out)))
            | (go_at_call 7; (refine (const_calls _).mono ?_; rintro e9 w9 ⟨rfl, b9⟩; have HB9 := Aside0.mk (below_step HB9.out b9); clear b9)))
          go_ret
          exact ⟨by first | rfl | (simp; done), below_step HWV.out HB9.out⟩
      | true =>
        obtain ⟨hw, htr⟩ := HOF.out.tr rfl rfl
        subst hw
        by_cases hx0 : x ≤ 0
        · have d1 : decide (x ≤ 0) = true := decide_eq_true hx0
          by_cases hy0 : y ≤ 0
          · have d2 : decide (y ≤ 0) = true := decide_eq_true hy0
            obtain ⟨hz0, hzz⟩ := htr hx0 hy0
            have d3 : decide (z > 0) = false := decide_eq_false (by omega)
            have d3' : decide (0 < z) = false := decide_eq_false (by omega)
            by_cases hz1 : z = 0
            · have d4 : (z == 0) = true := by rw [hz1]; rfl
              have d5 : decide (x < 0) = false := decide_eq_false (fun h => by have := hzz (.inl h); omega)
              have d6 : decide (y < 0) = false := decide_eq_false (fun h => by have := hzz (.inr h); omega)
              clear htr hzz
              cases hsm : sameD a b with
              | false =>
                have HSM := Aside0.mk hsm
                clear hsm
                go_wp2_with (first
                  | (go_at_call 8; ((with_reducible refine (check_eq (HVA.out.below HB9.out) HCA.out rfl).mono ?_); rintro e9 w9 ⟨rfl, b9⟩; have HB9 := Aside0.mk (below_step HB9.out b9); clear b9; clear p0 p1 p2 p3 p4 p5 r0 r1 r2 r3 r4 r5 s0 s1 s2 s3 s4 s5; obtain ⟨p0, p1, p2, p3, p4, p5⟩ := box6 ((HB9.out.block q (blk_lt T1.out)).trans T1.out); obtain ⟨r0, r1, r2, r3, r4, r5⟩ := box6 ((HB9.out.block (q + 1) (blk_lt T2.out)).trans T2.out); obtain ⟨s0, s1, s2, s3, s4, s5⟩ := box6 ((HB9.out.block (q + 2) (blk_lt T3.out)).trans T3.out)))
                  | (go_at_call 8; ((with_reducible refine (check_eq (HVB.out.below HB9.out) HCB.out rfl).mono ?_); rintro e9 w9 ⟨rfl, b9⟩; have HB9 := Aside0.mk (below_step HB9.out b9); clear b9; clear p0 p1 p2 p3 p4 p5 r0 r1 r2 r3 r4 r5 s0 s1 s2 s3 s4 s5; obtain ⟨p0, p1, p2, p3, p4, p5⟩ := box6 ((HB9.out.block q (blk_lt T1.out)).trans T1.out); obtain ⟨r0, r1, r2, r3, r4, r5⟩ := box6 ((HB9.out.block (q + 1) (blk_lt T2.out)).trans T2.out); obtain ⟨s0, s1, s2, s3, s4, s5⟩ := box6 ((HB9.out.block (q + 2) (blk_lt T3.out)).trans T3.out)))
                  | (go_at_call 10; ((with_reducible refine (same_eq (HVA.out.below HB9.out) (HVB.out.below HB9.out) HSM.out).mono ?_); rintro e9 w9 ⟨rfl, b9⟩; have HB9 := Aside0.mk (below_step HB9.out b9); clear b9; clear p0 p1 p2 p3 p4 p5 r0 r1 r2 r3 r4 r5 s0 s1 s2 s3 s4 s5; obtain ⟨p0, p1, p2, p3, p4, p5⟩ := box6 ((HB9.out.block q (blk_lt T1.out)).trans T1.out); obtain ⟨r0, r1, r2, r3, r4, r5⟩ := box6 ((HB9.out.block (q + 1) (blk_lt T2.out)).trans T2.out); obtain ⟨s0, s1, s2, s3, s4, s5⟩ := box6 ((HB9.out.block (q + 2) (blk_lt T3.out)).trans T3.out)))
                  | (go_at_call 7; (refine (const_calls _).mono ?_; rintro e9 w9 ⟨rfl, b9⟩; have HB9 := Aside0.mk (below_step HB9.out b9); clear b9)))
                go_ret
                exact ⟨by first | rfl | (simp; done), below_step HWV.out HB9.out⟩
              | true =>
                have HSM := Aside0.mk hsm
                obtain ⟨z1, z2, z3, z4⟩ := HOF.out.same hsm
                clear hsm
                have hx00 := (z4 HNN.out).2
                have d9 : (x != 0) = false := by rw [hx00]; rfl
                clear z1 z2 z3 z4 hx00
                go_wp2_with (first
                  | (go_at_call 8; ((with_reducible refine (check_eq (HVA.out.below HB9.out) HCA.out rfl).mono ?_); rintro e9 w9 ⟨rfl, b9⟩; have HB9 := Aside0.mk (below_step HB9.out b9); clear b9; clear p0 p1 p2 p3 p4 p5 r0 r1 r2 r3 r4 r5 s0 s1 s2 s3 s4 s5; obtain ⟨p0, p1, p2, p3, p4, p5⟩ := box6 ((HB9.out.block q (blk_lt T1.out)).trans T1.out); obtain ⟨r0, r1, r2, r3, r4, r5⟩ := box6 ((HB9.out.block (q + 1) (blk_lt T2.out)).trans T2.out); obtain ⟨s0, s1, s2, s3, s4, s5⟩ := box6 ((HB9.out.block (q + 2) (blk_lt T3.out)).trans T3.out)))
                  | (go_at_call 8; ((with_reducible refine (check_eq (HVB.out.below HB9.out) HCB.out rfl).mono ?_); rintro e9 w9 ⟨rfl, b9⟩; have HB9 := Aside0.mk (below_step HB9.out b9); clear b9; clear p0 p1 p2 p3 p4 p5 r0 r1 r2 r3 r4 r5 s0 s1 s2 s3 s4 s5; obtain ⟨p0, p1, p2, p3, p4, p5⟩ := box6 ((HB9.out.block q (blk_lt T1.out)).trans T1.out); obtain ⟨r0, r1, r2, r3, r4, r5⟩ := box6 ((HB9.out.block (q + 1) (blk_lt T2.out)).trans T2.out); obtain ⟨s0, s1, s2, s3, s4, s5⟩ := box6 ((HB9.out.block (q + 2) (blk_lt T3.out)).trans T3.out)))
                  | (go_at_call 10; ((with_reducible refine (same_eq (HVA.out.below HB9.out) (HVB.out.below HB9.out) HSM.out).mono ?_); rintro e9 w9 ⟨rfl, b9⟩; have HB9 := Aside0.mk (below_step HB9.out b9); clear b9; clear p0 p1 p2 p3 p4 p5 r0 r1 r2 r3 r4 r5 s0 s1 s2 s3 s4 s5; obtain ⟨p0, p1, p2, p3, p4, p5⟩ := box6 ((HB9.out.block q (blk_lt T1.out)).trans T1.out); obtain ⟨r0, r1, r2, r3, r4, r5⟩ := box6 ((HB9.out.block (q + 1) (blk_lt T2.out)).trans T2.out); obtain ⟨s0, s1, s2, s3, s4, s5⟩ := box6 ((HB9.out.block (q + 2) (blk_lt T3.out)).trans T3.out)))
                  | (go_at_call 7; (refine (const_calls _).mono ?_; rintro e9 w9 ⟨rfl, b9⟩; have HB9 := Aside0.mk (below_step HB9.out b9); clear b9)))
                go_ret
                exact ⟨by first | rfl | (simp; done), below_step HWV.out HB9.out⟩
            · have d4 : (z == 0) = false := by simp; exact hz1
              clear htr hzz
              cases hsm : sameD a b with
              | false =>
                have HSM := Aside0.mk hsm
                clear hsm
                go_wp2_with (first
                  | (go_at_call 8; ((with_reducible refine (check_eq (HVA.out.below HB9.out) HCA.out rfl).mono ?_); rintro e9 w9 ⟨rfl, b9⟩; have HB9 := Aside0.mk (below_step HB9.out b9); clear b9; clear p0 p1 p2 p3 p4 p5 r0 r1 r2 r3 r4 r5 s0 s1 s2 s3 s4 s5; obtain ⟨p0, p1, p2, p3, p4, p5⟩ := box6 ((HB9.out.block q (blk_lt T1.out)).trans T1.out); obtain ⟨r0, r1, r2, r3, r4, r5⟩ := box6 ((HB9.out.block (q + 1) (blk_lt T2.out)).trans T2.out); obtain ⟨s0, s1, s2, s3, s4, s5⟩ := box6 ((HB9.out.block (q + 2) (blk_lt T3.out)).trans T3.out)))
                  | (go_at_call 8; ((with_reducible refine (check_eq (HVB.out.below HB9.out) HCB.out rfl).mono ?_); rintro e9 w9 ⟨rfl, b9⟩; have HB9 := Aside0.mk (below_step HB9.out b9); clear b9; clear p0 p1 p2 p3 p4 p5 r0 r1 r2 r3 r4 r5 s0 s1 s2 s3 s4 s5; obtain ⟨p0, p1, p2, p3, p4, p5⟩ := box6 ((HB9.out.block q (blk_lt T1.out)).trans T1.out); obtain ⟨r0, r1, r2, r3, r4, r5⟩ := box6 ((HB9.out.block (q + 1) (blk_lt T2.out)).trans T2.out); obtain ⟨s0, s1, s2, s3, s4, s5⟩ := box6 ((HB9.out.block (q + 2) (blk_lt T3.out)).trans T3.out)))
                  | (go_at_call 10; ((with_reducible refine (same_eq (HVA.out.below HB9.out) (HVB.out.below HB9.out) HSM.out).mono ?_); rintro e9 w9 ⟨rfl, b9⟩; have HB9 := Aside0.mk (below_step HB9.out b9); clear b9; clear p0 p1 p2 p3 p4 p5 r0 r1 r2 r3 r4 r5 s0 s1 s2 s3 s4 s5; obtain ⟨p0, p1, p2, p3, p4, p5⟩ := box6 ((HB9.out.block q (blk_lt T1.out)).trans T1.out); obtain ⟨r0, r1, r2, r3, r4, r5⟩ := box6 ((HB9.out.block (q + 1) (blk_lt T2.out)).trans T2.out); obtain ⟨s0, s1, s2, s3, s4, s5⟩ := box6 ((HB9.out.block (q + 2) (blk_lt T3.out)).trans T3.out)))
                  | (go_at_call 7; (refine (const_calls _).mono ?_; rintro e9 w9 ⟨rfl, b9⟩; have HB9 := Aside0.mk (below_step HB9.out b9); clear b9)))
                go_ret
                exact ⟨by first | rfl | (simp; done), below_step HWV.out HB9.out⟩
              | true =>
                have HSM := Aside0.mk hsm
                obtain ⟨z1, z2, z3, z4⟩ := HOF.out.same hsm
                clear hsm
                have hx00 := (z4 HNN.out).2
                have d9 : (x != 0) = false := by rw [hx00]; rfl
                clear z1 z2 z3 z4 hx00
                go_wp2_with (first
                  | (go_at_call 8; ((with_reducible refine (check_eq (HVA.out.below HB9.out) HCA.out rfl).mono ?_); rintro e9 w9 ⟨rfl, b9⟩; have HB9 := Aside0.mk (below_step HB9.out b9); clear b9; clear p0 p1 p2 p3 p4 p5 r0 r1 r2 r3 r4 r5 s0 s1 s2 s3 s4 s5; obtain ⟨p0, p1, p2, p3, p4, p5⟩ := box6 ((HB9.out.block q (blk_lt T1.out)).trans T1.out); obtain ⟨r0, r1, r2, r3, r4, r5⟩ := box6 ((HB9.out.block (q + 1) (blk_lt T2.out)).trans T2.out); obtain ⟨s0, s1, s2, s3, s4, s5⟩ := box6 ((HB9.out.block (q + 2) (blk_lt T3.out)).trans T3.out)))
                  | (go_at_call 8; ((with_reducible refine (check_eq (HVB.out.below HB9.out) HCB.out rfl).mono ?_); rintro e9 w9 ⟨rfl, b9⟩; have HB9 := Aside0.mk (below_step HB9.out b9); clear b9; clear p0 p1 p2 p3 p4 p5 r0 r1 r2 r3 r4 r5 s0 s1 s2 s3 s4 s5; obtain ⟨p0, p1, p2, p3, p4, p5⟩ := box6 ((HB9.out.block q (blk_lt T1.out)).trans T1.out); obtain ⟨r0, r1, r2, r3, r4, r5⟩ := box6 ((HB9.out.block (q + 1) (blk_lt T2.out)).trans T2.out); obtain ⟨s0, s1, s2, s3, s4, s5⟩ := box6 ((HB9.out.block (q + 2) (blk_lt T3.out)).trans T3.out)))
                  | (go_at_call 10; ((with_reducible refine (same_eq (HVA.out.below HB9.out) (HVB.out.below HB9.out) HSM.out).mono ?_); rintro e9 w9 ⟨rfl, b9⟩; have HB9 := Aside0.mk (below_step HB9.out b9); clear b9; clear p0 p1 p2 p3 p4 p5 r0 r1 r2 r3 r4 r5 s0 s1 s2 s3 s4 s5; obtain ⟨p0, p1, p2, p3, p4, p5⟩ := box6 ((HB9.out.block q (blk_lt T1.out)).trans T1.out); obtain ⟨r0, r1, r2, r3, r4, r5⟩ := box6 ((HB9.out.block (q + 1) (blk_lt T2.out)).trans T2.out); obtain ⟨s0, s1, s2, s3, s4, s5⟩ := box6 ((HB9.out.block (q + 2) (blk_lt T3.out)).trans T3.out)))
                  | (go_at_call 7; (refine (const_calls _).mono ?_; rintro e9 w9 ⟨rfl, b9⟩; have HB9 := Aside0.mk (below_step HB9.out b9); clear b9)))
                go_ret
                exact ⟨by first | rfl | (simp; done), below_step HWV.out HB9.out⟩
          · have d2 : decide (y ≤ 0) = false := decide_eq_false hy0
            clear htr
            cases hsm : sameD a b with
            | false =>
              have HSM := Aside0.mk hsm
              clear hsm
              go_wp2_with (first
                | (go_at_call 8; ((with_reducible refine (check_eq (HVA.out.below HB9.out) HCA.out rfl).mono ?_); rintro e9 w9 ⟨rfl, b9⟩; have HB9 := Aside0.mk (below_step HB9.out b9); clear b9; clear p0 p1 p2 p3 p4 p5 r0 r1 r2 r3 r4 r5 s0 s1 s2 s3 s4 s5; obtain ⟨p0, p1, p2, p3, p4, p5⟩ := box6 ((HB9.out.block q (blk_lt T1.out)).trans T1.out); obtain ⟨r0, r1, r2, r3, r4, r5⟩ := box6 ((HB9.out.block (q + 1) (blk_lt T2.out)).trans T2.out); obtain ⟨s0, s1, s2, s3, s4, s5⟩ := box6 ((HB9.out.block (q + 2) (blk_lt T3.out)).trans T3.out)))
                | (go_at_call 8; ((with_reducible refine (check_eq (HVB.out.below HB9.out) HCB.out rfl).mono ?_); rintro e9 w9 ⟨rfl, b9⟩; have HB9 := Aside0.mk (below_step HB9.out b9); clear b9; clear p0 p1 p2 p3 p4 p5 r0 r1 r2 r3 r4 r5 s0 s1 s2 s3 s4 s5; obtain ⟨p0, p1, p2, p3, p4, p5⟩ := box6 ((HB9.out.block q (blk_lt T1.out)).trans T1.out); obtain ⟨r0, r1, r2, r3, r4, r5⟩ := box6 ((HB9.out.block (q + 1) (blk_lt T2.out)).trans T2.out); obtain ⟨s0, s1, s2, s3, s4, s5⟩ := box6 ((HB9.out.block (q + 2) (blk_lt T3.out)).trans T3.out)))
                | (go_at_call 10; ((with_reducible refine (same_eq (HVA.out.below HB9.out) (HVB.out.below HB9.out) HSM.out).mono ?_); rintro e9 w9 ⟨rfl, b9⟩; have HB9 := Aside0.mk (below_step HB9.out b9); clear b9; clear p0 p1 p2 p3 p4 p5 r0 r1 r2 r3 r4 r5 s0 s1 s2 s3 s4 s5; obtain ⟨p0, p1, p2, p3, p4, p5⟩ := box6 ((HB9.out.block q (blk_lt T1.out)).trans T1.out); obtain ⟨r0, r1, r2, r3, r4, r5⟩ := box6 ((HB9.out.block (q + 1) (blk_lt T2.out)).trans T2.out); obtain ⟨s0, s1, s2, s3, s4, s5⟩ := box6 ((HB9.out.block (q + 2) (blk_lt T3.out)).trans T3.out)))
                | (go_at_call 7; (refine (const_calls _).mono ?_; rintro e9 w9 ⟨rfl, b9⟩; have HB9 := Aside0.mk (below_step HB9.out b9); clear b9)))
              go_ret
              exact ⟨by first | rfl | (simp; done), below_step HWV.out HB9.out⟩
            | true =>
              have HSM := Aside0.mk hsm
              obtain ⟨z1, z2, z3, z4⟩ := HOF.out.same hsm
              clear hsm
              have hx00 := (z4 HNN.out).2
              have d9 : (x != 0) = false := by rw [hx00]; rfl
              clear z1 z2 z3 z4 hx00
              go_wp2_with (first
                | (go_at_call 8; ((with_reducible refine (check_eq (HVA.out.below HB9.out) HCA.out rfl).mono ?_); rintro e9 w9 ⟨rfl, b9⟩; have HB9 := Aside0.mk (below_step HB9.out b9); clear b9; clear p0 p1 p2 p3 p4 p5 r0 r1 r2 r3 r4 r5 s0 s1 s2 s3 s4 s5; obtain ⟨p0, p1, p2, p3, p4, p5⟩ := box6 ((HB9.out.block q (blk_lt T1.out)).trans T1.out); obtain ⟨r0, r1, r2, r3, r4, r5⟩ := box6 ((HB9.out.block (q + 1) (blk_lt T2.out)).trans T2.out); obtain ⟨s0, s1, s2, s3, s4, s5⟩ := box6 ((HB9.out.block (q + 2) (blk_lt T3.out)).trans T3.out)))
                | (go_at_call 8; ((with_reducible refine (check_eq (HVB.out.below HB9.out) HCB.out rfl).mono ?_); rintro e9 w9 ⟨rfl, b9⟩; have HB9 := Aside0.mk (below_step HB9.out b9); clear b9; clear p0 p1 p2 p3 p4 p5 r0 r1 r2 r3 r4 r5 s0 s1 s2 s3 s4 s5; obtain ⟨p0, p1, p2, p3, p4, p5⟩ := box6 ((HB9.out.block q (blk_lt T1.out)).trans T1.out); obtain ⟨r0, r1, r2, r3, r4, r5⟩ := box6 ((HB9.out.block (q + 1) (blk_lt T2.out)).trans T2.out); obtain ⟨s0, s1, s2, s3, s4, s5⟩ := box6 ((HB9.out.block (q + 2) (blk_lt T3.out)).trans T3.out)))
                | (go_at_call 10; ((with_reducible refine (same_eq (HVA.out.below HB9.out) (HVB.out.below HB9.out) HSM.out).mono ?_); rintro e9 w9 ⟨rfl, b9⟩; have HB9 := Aside0.mk (below_step HB9.out b9); clear b9; clear p0 p1 p2 p3 p4 p5 r0 r1 r2 r3 r4 r5 s0 s1 s2 s3 s4 s5; obtain ⟨p0, p1, p2, p3, p4, p5⟩ := box6 ((HB9.out.block q (blk_lt T1.out)).trans T1.out); obtain ⟨r0, r1, r2, r3, r4, r5⟩ := box6 ((HB9.out.block (q + 1) (blk_lt T2.out)).trans T2.out); obtain ⟨s0, s1, s2, s3, s4, s5⟩ := box6 ((HB9.out.block (q + 2) (blk_lt T3.out)).trans T3.out)))
                | (go_at_call 7; (refine (const_calls _).mono ?_; rintro e9 w9 ⟨rfl, b9⟩; have HB9 := Aside0.mk (below_step HB9.out b9); clear b9)))
              go_ret
              exact ⟨by first | rfl | (simp; done), below_step HWV.out HB9.out⟩
        · have d1 : decide (x ≤ 0) = false := decide_eq_false hx0
          clear htr
          cases hsm : sameD a b with
          | false =>
            have HSM := Aside0.mk hsm
            clear hsm
            go_wp2_with (first
              | (go_at_call 8; ((with_reducible refine (check_eq (HVA.out.below HB9.out) HCA.out rfl).mono ?_); rintro e9 w9 ⟨rfl, b9⟩; have HB9 := Aside0.mk (below_step HB9.out b9); clear b9; clear p0 p1 p2 p3 p4 p5 r0 r1 r2 r3 r4 r5 s0 s1 s2 s3 s4 s5; obtain ⟨p0, p1, p2, p3, p4, p5⟩ := box6 ((HB9.out.block q (blk_lt T1.out)).trans T1.out); obtain ⟨r0, r1, r2, r3, r4, r5⟩ := box6 ((HB9.out.block (q + 1) (blk_lt T2.out)).trans T2.out); obtain ⟨s0, s1, s2, s3, s4, s5⟩ := box6 ((HB9.out.block (q + 2) (blk_lt T3.out)).trans T3.out)))
              | (go_at_call 8; ((with_reducible refine (check_eq (HVB.out.below HB9.out) HCB.out rfl).mono ?_); rintro e9 w9 ⟨rfl, b9⟩; have HB9 := Aside0.mk (below_step HB9.out b9); clear b9; clear p0 p1 p2 p3 p4 p5 r0 r1 r2 r3 r4 r5 s0 s1 s2 s3 s4 s5; obtain ⟨p0, p1, p2, p3, p4, p5⟩ := box6 ((HB9.out.block q (blk_lt T1.out)).trans T1.out); obtain ⟨r0, r1, r2, r3, r4, r5⟩ := box6 ((HB9.out.block (q + 1) (blk_lt T2.out)).trans T2.out); obtain ⟨s0, s1, s2, s3, s4, s5⟩ := box6 ((HB9.out.block (q + 2) (blk_lt T3.out)).trans T3.out)))
              | (go_at_call 10; ((with_reducible refine (same_eq (HVA.out.below HB9.out) (HVB.out.below HB9.out) HSM.out).mono ?_); rintro e9 w9 ⟨rfl, b9⟩; have HB9 := Aside0.mk (below_step HB9.out b9); clear b9; clear p0 p1 p2 p3 p4 p5 r0 r1 r2 r3 r4 r5 s0 s1 s2 s3 s4 s5; obtain ⟨p0, p1, p2, p3, p4, p5⟩ := box6 ((HB9.out.block q (blk_lt T1.out)).trans T1.out); obtain ⟨r0, r1, r2, r3, r4, r5⟩ := box6 ((HB9.out.block (q + 1) (blk_lt T2.out)).trans T2.out); obtain ⟨s0, s1, s2, s3, s4, s5⟩ := box6 ((HB9.out.block (q + 2) (blk_lt T3.out)).trans T3.out)))
              | (go_at_call 7; (refine (const_calls _).mono ?_; rintro e9 w9 ⟨rfl, b9⟩; have HB9 := Aside0.mk (below_step HB9.out b9); clear b9)))
            go_ret
            exact ⟨by first | rfl | (simp; done), below_step HWV.out HB9.out⟩
          | true =>
            have HSM := Aside0.mk hsm
            obtain ⟨z1, z2, z3, z4⟩ := HOF.out.same hsm
            clear hsm
            have hx00 := (z4 HNN.out).2
            have d9 : (x != 0) = false := by rw [hx00]; rfl
            clear z1 z2 z3 z4 hx00
            go_wp2_with (first
              | (go_at_call 8; ((with_reducible refine (check_eq (HVA.out.below HB9.out) HCA.out rfl).mono ?_); rintro e9 w9 ⟨rfl, b9⟩; have HB9 := Aside0.mk (below_step HB9.out b9); clear b9; clear p0 p1 p2 p3 p4 p5 r0 r1 r2 r3 r4 r5 s0 s1 s2 s3 s4 s5; obtain ⟨p0, p1, p2, p3, p4, p5⟩ := box6 ((HB9.out.block q (blk_lt T1.out)).trans T1.out); obtain ⟨r0, r1, r2, r3, r4, r5⟩ := box6 ((HB9.out.block (q + 1) (blk_lt T2.out)).trans T2.out); obtain ⟨s0, s1, s2, s3, s4, s5⟩ := box6 ((HB9.out.block (q + 2) (blk_lt T3.out)).trans T3.out)))
              | (go_at_call 8; ((with_reducible refine (check_eq (HVB.out.below HB9.out) HCB.out rfl).mono ?_); rintro e9 w9 ⟨rfl, b9⟩; have HB9 := Aside0.mk (below_step HB9.out b9); clear b9; clear p0 p1 p2 p3 p4 p5 r0 r1 r2 r3 r4 r5 s0 s1 s2 s3 s4 s5; obtain ⟨p0, p1, p2, p3, p4, p5⟩ := box6 ((HB9.out.block q (blk_lt T1.out)).trans T1.out); obtain ⟨r0, r1, r2, r3, r4, r5⟩ := box6 ((HB9.out.block (q + 1) (blk_lt T2.out)).trans T2.out); obtain ⟨s0, s1, s2, s3, s4, s5⟩ := box6 ((HB9.out.block (q + 2) (blk_lt T3.out)).trans T3.out)))
              | (go_at_call 10; ((with_reducible refine (same_eq (HVA.out.below HB9.out) (HVB.out.below HB9.out) HSM.out).mono ?_); rintro e9 w9 ⟨rfl, b9⟩; have HB9 := Aside0.mk (below_step HB9.out b9); clear b9; clear p0 p1 p2 p3 p4 p5 r0 r1 r2 r3 r4 r5 s0 s1 s2 s3 s4 s5; obtain ⟨p0, p1, p2, p3, p4, p5⟩ := box6 ((HB9.out.block q (blk_lt T1.out)).trans T1.out); obtain ⟨r0, r1, r2, r3, r4, r5⟩ := box6 ((HB9.out.block (q + 1) (blk_lt T2.out)).trans T2.out); obtain ⟨s0, s1, s2, s3, s4, s5⟩ := box6 ((HB9.out.block (q + 2) (blk_lt T3.out)).trans T3.out)))
              | (go_at_call 7; (refine (const_calls _).mono ?_; rintro e9 w9 ⟨rfl, b9⟩; have HB9 := Aside0.mk (below_step HB9.out b9); clear b9)))
            go_ret
            exact ⟨by first | rfl | (simp; done), below_step HWV.out HB9.out⟩
    · have HNA := Aside0.mk hnma
      have HNB := Aside0.mk hnmb
      have HSM : Aside0 (sameD a b = false) := ⟨by unfold sameD; rw [hke]; simp⟩
      clear hnma hnmb
      cases is with
      | false =>
        go_wp2_with (first
          | (go_at_call 8; ((with_reducible refine (check_eq (HVA.out.below HB9.out) HCA.out rfl).mono ?_); rintro e9 w9 ⟨rfl, b9⟩; have HB9 := Aside0.mk (below_step HB9.out b9); clear b9; clear p0 p1 p2 p3 p4 p5 r0 r1 r2 r3 r4 r5 s0 s1 s2 s3 s4 s5; obtain ⟨p0, p1, p2, p3, p4, p5⟩ := box6 ((HB9.out.block q (blk_lt T1.out)).trans T1.out); obtain ⟨r0, r1, r2, r3, r4, r5⟩ := box6 ((HB9.out.block (q + 1) (blk_lt T2.out)).trans T2.out); obtain ⟨s0, s1, s2, s3, s4, s5⟩ := box6 ((HB9.out.block (q + 2) (blk_lt T3.out)).trans T3.out)))
          | (go_at_call 8; ((with_reducible refine (check_eq (HVB.out.below HB9.out) HCB.out rfl).mono ?_); rintro e9 w9 ⟨rfl, b9⟩; have HB9 := Aside0.mk (below_step HB9.out b9); clear b9; clear p0 p1 p2 p3 p4 p5 r0 r1 r2 r3 r4 r5 s0 s1 s2 s3 s4 s5; obtain ⟨p0, p1, p2, p3, p4, p5⟩ := box6 ((HB9.out.block q (blk_lt T1.out)).trans T1.out); obtain ⟨r0, r1, r2, r3, r4, r5⟩ := box6 ((HB9.out.block (q + 1) (blk_lt T2.out)).trans T2.out); obtain ⟨s0, s1, s2, s3, s4, s5⟩ := box6 ((HB9.out.block (q + 2) (blk_lt T3.out)).trans T3.out)))
          | (go_at_call 9; ((with_reducible refine (num_calls _ a Aa ca HNA.out).mono ?_); rintro e9 w9 ⟨rfl, b9⟩; have HB9 := Aside0.mk (below_step HB9.out b9); clear b9; clear p0 p1 p2 p3 p4 p5 r0 r1 r2 r3 r4 r5 s0 s1 s2 s3 s4 s5; obtain ⟨p0, p1, p2, p3, p4, p5⟩ := box6 ((HB9.out.block q (blk_lt T1.out)).trans T1.out); obtain ⟨r0, r1, r2, r3, r4, r5⟩ := box6 ((HB9.out.block (q + 1) (blk_lt T2.out)).trans T2.out); obtain ⟨s0, s1, s2, s3, s4, s5⟩ := box6 ((HB9.out.block (q + 2) (blk_lt T3.out)).trans T3.out)))
          | (go_at_call 9; ((with_reducible refine (num_calls _ b Ab cb HNB.out).mono ?_); rintro e9 w9 ⟨rfl, b9⟩; have HB9 := Aside0.mk (below_step HB9.out b9); clear b9; clear p0 p1 p2 p3 p4 p5 r0 r1 r2 r3 r4 r5 s0 s1 s2 s3 s4 s5; obtain ⟨p0, p1, p2, p3, p4, p5⟩ := box6 ((HB9.out.block q (blk_lt T1.out)).trans T1.out); obtain ⟨r0, r1, r2, r3, r4, r5⟩ := box6 ((HB9.out.block (q + 1) (blk_lt T2.out)).trans T2.out); obtain ⟨s0, s1, s2, s3, s4, s5⟩ := box6 ((HB9.out.block (q + 2) (blk_lt T3.out)).trans T3.out)))
          | (go_at_call 10; ((with_reducible refine (same_eq (HVA.out.below HB9.out) (HVB.out.below HB9.out) HSM.out).mono ?_); rintro e9 w9 ⟨rfl, b9⟩; have HB9 := Aside0.mk (below_step HB9.out b9); clear b9; clear p0 p1 p2 p3 p4 p5 r0 r1 r2 r3 r4 r5 s0 s1 s2 s3 s4 s5; obtain ⟨p0, p1, p2, p3, p4, p5⟩ := box6 ((HB9.out.block q (blk_lt T1.out)).trans T1.out); obtain ⟨r0, r1, r2, r3, r4, r5⟩ := box6 ((HB9.out.block (q + 1) (blk_lt T2.out)).trans T2.out); obtain ⟨s0, s1, s2, s3, s4, s5⟩ := box6 ((HB9.out.block (q + 2) (blk_lt T3.out)).trans T3.out)))
          | (go_at_call 7; (refine (const_calls _).mono ?_; rintro e9 w9 ⟨rfl, b9⟩; have HB9 := Aside0.mk (below_step HB9.out b9); clear b9)))
        go_ret
        exact ⟨by first | rfl | (simp; done), below_step HWV.out HB9.out⟩
      | true =>
        obtain ⟨hw, htr⟩ := HOF.out.tr rfl rfl
        subst hw
        by_cases hx0 : x ≤ 0
        · have d1 : decide (x ≤ 0) = true := decide_eq_true hx0
          by_cases hy0 : y ≤ 0
          · have d2 : decide (y ≤ 0) = true := decide_eq_true hy0
            obtain ⟨hz0, hzz⟩ := htr hx0 hy0
            have d3 : decide (z > 0) = false := decide_eq_false (by omega)
            have d3' : decide (0 < z) = false := decide_eq_false (by omega)
            by_cases hz1 : z = 0
            · have d4 : (z == 0) = true := by rw [hz1]; rfl
              have d5 : decide (x < 0) = false := decide_eq_false (fun h => by have := hzz (.inl h); omega)
              have d6 : decide (y < 0) = false := decide_eq_false (fun h => by have := hzz (.inr h); omega)
              clear htr hzz
              go_wp2_with (first
                | (go_at_call 8; ((with_reducible refine (check_eq (HVA.out.below HB9.out) HCA.out rfl).mono ?_); rintro e9 w9 ⟨rfl, b9⟩; have HB9 := Aside0.mk (below_step HB9.out b9); clear b9; clear p0 p1 p2 p3 p4 p5 r0 r1 r2 r3 r4 r5 s0 s1 s2 s3 s4 s5; obtain ⟨p0, p1, p2, p3, p4, p5⟩ := box6 ((HB9.out.block q (blk_lt T1.out)).trans T1.out); obtain ⟨r0, r1, r2, r3, r4, r5⟩ := box6 ((HB9.out.block (q + 1) (blk_lt T2.out)).trans T2.out); obtain ⟨s0, s1, s2, s3, s4, s5⟩ := box6 ((HB9.out.block (q + 2) (blk_lt T3.out)).trans T3.out)))
                | (go_at_call 8; ((with_reducible refine (check_eq (HVB.out.below HB9.out) HCB.out rfl).mono ?_); rintro e9 w9 ⟨rfl, b9⟩; have HB9 := Aside0.mk (below_step HB9.out b9); clear b9; clear p0 p1 p2 p3 p4 p5 r0 r1 r2 r3 r4 r5 s0 s1 s2 s3 s4 s5; obtain ⟨p0, p1, p2, p3, p4, p5⟩ := box6 ((HB9.out.block q (blk_lt T1.out)).trans T1.out); obtain ⟨r0, r1, r2, r3, r4, r5⟩ := box6 ((HB9.out.block (q + 1) (blk_lt T2.out)).trans T2.out); obtain ⟨s0, s1, s2, s3, s4, s5⟩ := box6 ((HB9.out.block (q + 2) (blk_lt T3.out)).trans T3.out)))
                | (go_at_call 9; ((with_reducible refine (num_calls _ a Aa ca HNA.out).mono ?_); rintro e9 w9 ⟨rfl, b9⟩; have HB9 := Aside0.mk (below_step HB9.out b9); clear b9; clear p0 p1 p2 p3 p4 p5 r0 r1 r2 r3 r4 r5 s0 s1 s2 s3 s4 s5; obtain ⟨p0, p1, p2, p3, p4, p5⟩ := box6 ((HB9.out.block q (blk_lt T1.out)).trans T1.out); obtain ⟨r0, r1, r2, r3, r4, r5⟩ := box6 ((HB9.out.block (q + 1) (blk_lt T2.out)).trans T2.out); obtain ⟨s0, s1, s2, s3, s4, s5⟩ := box6 ((HB9.out.block (q + 2) (blk_lt T3.out)).trans T3.out)))
                | (go_at_call 9; ((with_reducible refine (num_calls _ b Ab cb HNB.out).mono ?_); rintro e9 w9 ⟨rfl, b9⟩; have HB9 := Aside0.mk (below_step HB9.out b9); clear b9; clear p0 p1 p2 p3 p4 p5 r0 r1 r2 r3 r4 r5 s0 s1 s2 s3 s4 s5; obtain ⟨p0, p1, p2, p3, p4, p5⟩ := box6 ((HB9.out.block q (blk_lt T1.out)).trans T1.out); obtain ⟨r0, r1, r2, r3, r4, r5⟩ := box6 ((HB9.out.block (q + 1) (blk_lt T2.out)).trans T2.out); obtain ⟨s0, s1, s2, s3, s4, s5⟩ := box6 ((HB9.out.block (q + 2) (blk_lt T3.out)).trans T3.out)))
                | (go_at_call 10; ((with_reducible refine (same_eq (HVA.out.below HB9.out) (HVB.out.below HB9.out) HSM.out).mono ?_); rintro e9 w9 ⟨rfl, b9⟩; have HB9 := Aside0.mk (below_step HB9.out b9); clear b9; clear p0 p1 p2 p3 p4 p5 r0 r1 r2 r3 r4 r5 s0 s1 s2 s3 s4 s5; obtain ⟨p0, p1, p2, p3, p4, p5⟩ := box6 ((HB9.out.block q (blk_lt T1.out)).trans T1.out); obtain ⟨r0, r1, r2, r3, r4, r5⟩ := box6 ((HB9.out.block (q + 1) (blk_lt T2.out)).trans T2.out); obtain ⟨s0, s1, s2, s3, s4, s5⟩ := box6 ((HB9.out.block (q + 2) (blk_lt T3.out)).trans T3.out)))
                | (go_at_call 7; (refine (const_calls _).mono ?_; rintro e9 w9 ⟨rfl, b9⟩; have HB9 := Aside0.mk (below_step HB9.out b9); clear b9)))
              go_ret
              exact ⟨by first | rfl | (simp; done), below_step HWV.out HB9.out⟩
            · have d4 : (z == 0) = false := by simp; exact hz1
              clear htr hzz
              go_wp2_with (first
                | (go_at_call 8; ((with_reducible refine (check_eq (HVA.out.below HB9.out) HCA.out rfl).mono ?_); rintro e9 w9 ⟨rfl, b9⟩; have HB9 := Aside0.mk (below_step HB9.out b9); clear b9; clear p0 p1 p2 p3 p4 p5 r0 r1 r2 r3 r4 r5 s0 s1 s2 s3 s4 s5; obtain ⟨p0, p1, p2, p3, p4, p5⟩ := box6 ((HB9.out.block q (blk_lt T1.out)).trans T1.out); obtain ⟨r0, r1, r2, r3, r4, r5⟩ := box6 ((HB9.out.block (q + 1) (blk_lt T2.out)).trans T2.out); obtain ⟨s0, s1, s2, s3, s4, s5⟩ := box6 ((HB9.out.block (q + 2) (blk_lt T3.out)).trans T3.out)))
                | (go_at_call 8; ((with_reducible refine (check_eq (HVB.out.below HB9.out) HCB.out rfl).mono ?_); rintro e9 w9 ⟨rfl, b9⟩; have HB9 := Aside0.mk (below_step HB9.out b9); clear b9; clear p0 p1 p2 p3 p4 p5 r0 r1 r2 r3 r4 r5 s0 s1 s2 s3 s4 s5; obtain ⟨p0, p1, p2, p3, p4, p5⟩ := box6 ((HB9.out.block q (blk_lt T1.out)).trans T1.out); obtain ⟨r0, r1, r2, r3, r4, r5⟩ := box6 ((HB9.out.block (q + 1) (blk_lt T2.out)).trans T2.out); obtain ⟨s0, s1, s2, s3, s4, s5⟩ := box6 ((HB9.out.block (q + 2) (blk_lt T3.out)).trans T3.out)))
                | (go_at_call 9; ((with_reducible refine (num_calls _ a Aa ca HNA.out).mono ?_); rintro e9 w9 ⟨rfl, b9⟩; have HB9 := Aside0.mk (below_step HB9.out b9); clear b9; clear p0 p1 p2 p3 p4 p5 r0 r1 r2 r3 r4 r5 s0 s1 s2 s3 s4 s5; obtain ⟨p0, p1, p2, p3, p4, p5⟩ := box6 ((HB9.out.block q (blk_lt T1.out)).trans T1.out); obtain ⟨r0, r1, r2, r3, r4, r5⟩ := box6 ((HB9.out.block (q + 1) (blk_lt T2.out)).trans T2.out); obtain ⟨s0, s1, s2, s3, s4, s5⟩ := box6 ((HB9.out.block (q + 2) (blk_lt T3.out)).trans T3.out)))
                | (go_at_call 9; ((with_reducible refine (num_calls _ b Ab cb HNB.out).mono ?_); rintro e9 w9 ⟨rfl, b9⟩; have HB9 := Aside0.mk (below_step HB9.out b9); clear b9; clear p0 p1 p2 p3 p4 p5 r0 r1 r2 r3 r4 r5 s0 s1 s2 s3 s4 s5; obtain ⟨p0, p1, p2, p3, p4, p5⟩ := box6 ((HB9.out.block q (blk_lt T1.out)).trans T1.out); obtain ⟨r0, r1, r2, r3, r4, r5⟩ := box6 ((HB9.out.block (q + 1) (blk_lt T2.out)).trans T2.out); obtain ⟨s0, s1, s2, s3, s4, s5⟩ := box6 ((HB9.out.block (q + 2) (blk_lt T3.out)).trans T3.out)))
                | (go_at_call 10; ((with_reducible refine (same_eq (HVA.out.below HB9.out) (HVB.out.below HB9.out) HSM.out).mono ?_); rintro e9 w9 ⟨rfl, b9⟩; have HB9 := Aside0.mk (below_step HB9.out b9); clear b9; clear p0 p1 p2 p3 p4 p5 r0 r1 r2 r3 r4 r5 s0 s1 s2 s3 s4 s5; obtain ⟨p0, p1, p2, p3, p4, p5⟩ := box6 ((HB9.out.block q (blk_lt T1.out)).trans T1.out); obtain ⟨r0, r1, r2, r3, r4, r5⟩ := box6 ((HB9.out.block (q + 1) (blk_lt T2.out)).trans T2.out); obtain ⟨s0, s1, s2, s3, s4, s5⟩ := box6 ((HB9.out.block (q + 2) (blk_lt T3.out)).trans T3.out)))
                | (go_at_call 7; (refine (const_calls _).mono ?_; rintro e9 w9 ⟨rfl, b9⟩; have HB9 := Aside0.mk (below_step HB9.out b9); clear b9)))
              go_ret
              exact ⟨by first | rfl | (simp; done), below_step HWV.out HB9.out⟩
          · have d2 : decide (y ≤ 0) = false := decide_eq_false hy0
            clear htr
            go_wp2_with (first
              | (go_at_call 8; ((with_reducible refine (check_eq (HVA.out.below HB9.out) HCA.out rfl).mono ?_); rintro e9 w9 ⟨rfl, b9⟩; have HB9 := Aside0.mk (below_step HB9.out b9); clear b9; clear p0 p1 p2 p3 p4 p5 r0 r1 r2 r3 r4 r5 s0 s1 s2 s3 s4 s5; obtain ⟨p0, p1, p2, p3, p4, p5⟩ := box6 ((HB9.out.block q (blk_lt T1.out)).trans T1.out); obtain ⟨r0, r1, r2, r3, r4, r5⟩ := box6 ((HB9.out.block (q + 1) (blk_lt T2.out)).trans T2.out); obtain ⟨s0, s1, s2, s3, s4, s5⟩ := box6 ((HB9.out.block (q + 2) (blk_lt T3.out)).trans T3.out)))
              | (go_at_call 8; ((with_reducible refine (check_eq (HVB.out.below HB9.out) HCB.out rfl).mono ?_); rintro e9 w9 ⟨rfl, b9⟩; have HB9 := Aside0.mk (below_step HB9.out b9); clear b9; clear p0 p1 p2 p3 p4 p5 r0 r1 r2 r3 r4 r5 s0 s1 s2 s3 s4 s5; obtain ⟨p0, p1, p2, p3, p4, p5⟩ := box6 ((HB9.out.block q (blk_lt T1.out)).trans T1.out); obtain ⟨r0, r1, r2, r3, r4, r5⟩ := box6 ((HB9.out.block (q + 1) (blk_lt T2.out)).trans T2.out); obtain ⟨s0, s1, s2, s3, s4, s5⟩ := box6 ((HB9.out.block (q + 2) (blk_lt T3.out)).trans T3.out)))
              | (go_at_call 9; ((with_reducible refine (num_calls _ a Aa ca HNA.out).mono ?_); rintro e9 w9 ⟨rfl, b9⟩; have HB9 := Aside0.mk (below_step HB9.out b9); clear b9; clear p0 p1 p2 p3 p4 p5 r0 r1 r2 r3 r4 r5 s0 s1 s2 s3 s4 s5; obtain ⟨p0, p1, p2, p3, p4, p5⟩ := box6 ((HB9.out.block q (blk_lt T1.out)).trans T1.out); obtain ⟨r0, r1, r2, r3, r4, r5⟩ := box6 ((HB9.out.block (q + 1) (blk_lt T2.out)).trans T2.out); obtain ⟨s0, s1, s2, s3, s4, s5⟩ := box6 ((HB9.out.block (q + 2) (blk_lt T3.out)).trans T3.out)))
              | (go_at_call 9; ((with_reducible refine (num_calls _ b Ab cb HNB.out).mono ?_); rintro e9 w9 ⟨rfl, b9⟩; have HB9 := Aside0.mk (below_step HB9.out b9); clear b9; clear p0 p1 p2 p3 p4 p5 r0 r1 r2 r3 r4 r5 s0 s1 s2 s3 s4 s5; obtain ⟨p0, p1, p2, p3, p4, p5⟩ := box6 ((HB9.out.block q (blk_lt T1.out)).trans T1.out); obtain ⟨r0, r1, r2, r3, r4, r5⟩ := box6 ((HB9.out.block (q + 1) (blk_lt T2.out)).trans T2.out); obtain ⟨s0, s1, s2, s3, s4, s5⟩ := box6 ((HB9.out.block (q + 2) (blk_lt T3.out)).trans T3.out)))
              | (go_at_call 10; ((with_reducible refine (same_eq (HVA.out.below HB9.out) (HVB.out.below HB9.out) HSM.out).mono ?_); rintro e9 w9 ⟨rfl, b9⟩; have HB9 := Aside0.mk (below_step HB9.out b9); clear b9; clear p0 p1 p2 p3 p4 p5 r0 r1 r2 r3 r4 r5 s0 s1 s2 s3 s4 s5; obtain ⟨p0, p1, p2, p3, p4, p5⟩ := box6 ((HB9.out.block q (blk_lt T1.out)).trans T1.out); obtain ⟨r0, r1, r2, r3, r4, r5⟩ := box6 ((HB9.out.block (q + 1) (blk_lt T2.out)).trans T2.out); obtain ⟨s0, s1, s2, s3, s4, s5⟩ := box6 ((HB9.out.block (q + 2) (blk_lt T3.out)).trans T3.out)))
              | (go_at_call 7; (refine (const_calls _).mono ?_; rintro e9 w9 ⟨rfl, b9⟩; have HB9 := Aside0.mk (below_step HB9.out b9); clear b9)))
            go_ret
            exact ⟨by first | rfl | (simp; done), below_step HWV.out HB9.out⟩
        · have d1 : decide (x ≤ 0) = false := decide_eq_false hx0
          clear htr
          go_wp2_with (first
            | (go_at_call 8; ((with_reducible refine (check_eq (HVA.out.below HB9.out) HCA.out rfl).mono ?_); rintro e9 w9 ⟨rfl, b9⟩; have HB9 := Aside0.mk (below_step HB9.out b9); clear b9; clear p0 p1 p2 p3 p4 p5 r0 r1 r2 r3 r4 r5 s0 s1 s2 s3 s4 s5; obtain ⟨p0, p1, p2, p3, p4, p5⟩ := box6 ((HB9.out.block q (blk_lt T1.out)).trans T1.out); obtain ⟨r0, r1, r2, r3, r4, r5⟩ := box6 ((HB9.out.block (q + 1) (blk_lt T2.out)).trans T2.out); obtain ⟨s0, s1, s2, s3, s4, s5⟩ := box6 ((HB9.out.block (q + 2) (blk_lt T3.out)).trans T3.out)))
            | (go_at_call 8; ((with_reducible refine (check_eq (HVB.out.below HB9.out) HCB.out rfl).mono ?_); rintro e9 w9 ⟨rfl, b9⟩; have HB9 := Aside0.mk (below_step HB9.out b9); clear b9; clear p0 p1 p2 p3 p4 p5 r0 r1 r2 r3 r4 r5 s0 s1 s2 s3 s4 s5; obtain ⟨p0, p1, p2, p3, p4, p5⟩ := box6 ((HB9.out.block q (blk_lt T1.out)).trans T1.out); obtain ⟨r0, r1, r2, r3, r4, r5⟩ := box6 ((HB9.out.block (q + 1) (blk_lt T2.out)).trans T2.out); obtain ⟨s0, s1, s2, s3, s4, s5⟩ := box6 ((HB9.out.block (q + 2) (blk_lt T3.out)).trans T3.out)))
            | (go_at_call 9; ((with_reducible refine (num_calls _ a Aa ca HNA.out).mono ?_); rintro e9 w9 ⟨rfl, b9⟩; have HB9 := Aside0.mk (below_step HB9.out b9); clear b9; clear p0 p1 p2 p3 p4 p5 r0 r1 r2 r3 r4 r5 s0 s1 s2 s3 s4 s5; obtain ⟨p0, p1, p2, p3, p4, p5⟩ := box6 ((HB9.out.block q (blk_lt T1.out)).trans T1.out); obtain ⟨r0, r1, r2, r3, r4, r5⟩ := box6 ((HB9.out.block (q + 1) (blk_lt T2.out)).trans T2.out); obtain ⟨s0, s1, s2, s3, s4, s5⟩ := box6 ((HB9.out.block (q + 2) (blk_lt T3.out)).trans T3.out)))
            | (go_at_call 9; ((with_reducible refine (num_calls _ b Ab cb HNB.out).mono ?_); rintro e9 w9 ⟨rfl, b9⟩; have HB9 := Aside0.mk (below_step HB9.out b9); clear b9; clear p0 p1 p2 p3 p4 p5 r0 r1 r2 r3 r4 r5 s0 s1 s2 s3 s4 s5; obtain ⟨p0, p1, p2, p3, p4, p5⟩ := box6 ((HB9.out.block q (blk_lt T1.out)).trans T1.out); obtain ⟨r0, r1, r2, r3, r4, r5⟩ := box6 ((HB9.out.block (q + 1) (blk_lt T2.out)).trans T2.out); obtain ⟨s0, s1, s2, s3, s4, s5⟩ := box6 ((HB9.out.block (q + 2) (blk_lt T3.out)).trans T3.out)))
            | (go_at_call 10; ((with_reducible refine (same_eq (HVA.out.below HB9.out) (HVB.out.below HB9.out) HSM.out).mono ?_); rintro e9 w9 ⟨rfl, b9⟩; have HB9 := Aside0.mk (below_step HB9.out b9); clear b9; clear p0 p1 p2 p3 p4 p5 r0 r1 r2 r3 r4 r5 s0 s1 s2 s3 s4 s5; obtain ⟨p0, p1, p2, p3, p4, p5⟩ := box6 ((HB9.out.block q (blk_lt T1.out)).trans T1.out); obtain ⟨r0, r1, r2, r3, r4, r5⟩ := box6 ((HB9.out.block (q + 1) (blk_lt T2.out)).trans T2.out); obtain ⟨s0, s1, s2, s3, s4, s5⟩ := box6 ((HB9.out.block (q + 2) (blk_lt T3.out)).trans T3.out)))
            | (go_at_call 7; (refine (const_calls _).mono ?_; rintro e9 w9 ⟨rfl, b9⟩; have HB9 := Aside0.mk (below_step HB9.out b9); clear b9)))
          go_ret
          exact ⟨by first | rfl | (simp; done), below_step HWV.out HB9.out⟩
  | false =>
    have HOK := Aside0.mk hok.symm
    clear hok
    have hx0 := HOF.out.no rfl
    subst hx0
    have d8 : ((0 : Int) != 0) = false := rfl
    cases hca : chk a with
    | false =>
      have HCA := Aside0.mk hca
      have HSM : Aside0 (sameD a b = false) := ⟨by unfold sameD; rw [hca]; rfl⟩
      cases hna : nanB a.re with
      | true =>
        have sa : (FloatKind.f32.format.order a.re a.re != some Ordering.eq) = true := by rw [f_self]; exact hna
        go_wp2_with (first
          | (go_at_call 8; ((with_reducible refine (check_eq (HVA.out.below HB9.out) HCA.out rfl).mono ?_); rintro e9 w9 ⟨rfl, b9⟩; have HB9 := Aside0.mk (below_step HB9.out b9); clear b9; clear p0 p1 p2 p3 p4 p5 r0 r1 r2 r3 r4 r5 s0 s1 s2 s3 s4 s5; obtain ⟨p0, p1, p2, p3, p4, p5⟩ := box6 ((HB9.out.block q (blk_lt T1.out)).trans T1.out); obtain ⟨r0, r1, r2, r3, r4, r5⟩ := box6 ((HB9.out.block (q + 1) (blk_lt T2.out)).trans T2.out); obtain ⟨s0, s1, s2, s3, s4, s5⟩ := box6 ((HB9.out.block (q + 2) (blk_lt T3.out)).trans T3.out)))
          | (go_at_call 10; ((with_reducible refine (same_eq (HVA.out.below HB9.out) (HVB.out.below HB9.out) HSM.out).mono ?_); rintro e9 w9 ⟨rfl, b9⟩; have HB9 := Aside0.mk (below_step HB9.out b9); clear b9; clear p0 p1 p2 p3 p4 p5 r0 r1 r2 r3 r4 r5 s0 s1 s2 s3 s4 s5; obtain ⟨p0, p1, p2, p3, p4, p5⟩ := box6 ((HB9.out.block q (blk_lt T1.out)).trans T1.out); obtain ⟨r0, r1, r2, r3, r4, r5⟩ := box6 ((HB9.out.block (q + 1) (blk_lt T2.out)).trans T2.out); obtain ⟨s0, s1, s2, s3, s4, s5⟩ := box6 ((HB9.out.block (q + 2) (blk_lt T3.out)).trans T3.out)))
          | (go_at_call 7; (refine (const_calls _).mono ?_; rintro e9 w9 ⟨rfl, b9⟩; have HB9 := Aside0.mk (below_step HB9.out b9); clear b9)))
        go_ret
        exact ⟨by first | rfl | (simp; done), below_step HWV.out HB9.out⟩
      | false =>
        cases hnb : nanB b.re with
        | true =>
          have sa : (FloatKind.f32.format.order a.re a.re != some Ordering.eq) = false := by rw [f_self]; exact hna
          have sb : (FloatKind.f32.format.order b.re b.re != some Ordering.eq) = true := by rw [f_self]; exact hnb
          go_wp2_with (first
            | (go_at_call 8; ((with_reducible refine (check_eq (HVA.out.below HB9.out) HCA.out rfl).mono ?_); rintro e9 w9 ⟨rfl, b9⟩; have HB9 := Aside0.mk (below_step HB9.out b9); clear b9; clear p0 p1 p2 p3 p4 p5 r0 r1 r2 r3 r4 r5 s0 s1 s2 s3 s4 s5; obtain ⟨p0, p1, p2, p3, p4, p5⟩ := box6 ((HB9.out.block q (blk_lt T1.out)).trans T1.out); obtain ⟨r0, r1, r2, r3, r4, r5⟩ := box6 ((HB9.out.block (q + 1) (blk_lt T2.out)).trans T2.out); obtain ⟨s0, s1, s2, s3, s4, s5⟩ := box6 ((HB9.out.block (q + 2) (blk_lt T3.out)).trans T3.out)))
            | (go_at_call 10; ((with_reducible refine (same_eq (HVA.out.below HB9.out) (HVB.out.below HB9.out) HSM.out).mono ?_); rintro e9 w9 ⟨rfl, b9⟩; have HB9 := Aside0.mk (below_step HB9.out b9); clear b9; clear p0 p1 p2 p3 p4 p5 r0 r1 r2 r3 r4 r5 s0 s1 s2 s3 s4 s5; obtain ⟨p0, p1, p2, p3, p4, p5⟩ := box6 ((HB9.out.block q (blk_lt T1.out)).trans T1.out); obtain ⟨r0, r1, r2, r3, r4, r5⟩ := box6 ((HB9.out.block (q + 1) (blk_lt T2.out)).trans T2.out); obtain ⟨s0, s1, s2, s3, s4, s5⟩ := box6 ((HB9.out.block (q + 2) (blk_lt T3.out)).trans T3.out)))
            | (go_at_call 7; (refine (const_calls _).mono ?_; rintro e9 w9 ⟨rfl, b9⟩; have HB9 := Aside0.mk (below_step HB9.out b9); clear b9)))
          go_ret
          exact ⟨by first | rfl | (simp; done), below_step HWV.out HB9.out⟩
        | false =>
          have sa : (FloatKind.f32.format.order a.re a.re != some Ordering.eq) = false := by rw [f_self]; exact hna
          have sb : (FloatKind.f32.format.order b.re b.re != some Ordering.eq) = false := by rw [f_self]; exact hnb
          go_wp2_with (first
            | (go_at_call 8; ((with_reducible refine (check_eq (HVA.out.below HB9.out) HCA.out rfl).mono ?_); rintro e9 w9 ⟨rfl, b9⟩; have HB9 := Aside0.mk (below_step HB9.out b9); clear b9; clear p0 p1 p2 p3 p4 p5 r0 r1 r2 r3 r4 r5 s0 s1 s2 s3 s4 s5; obtain ⟨p0, p1, p2, p3, p4, p5⟩ := box6 ((HB9.out.block q (blk_lt T1.out)).trans T1.out); obtain ⟨r0, r1, r2, r3, r4, r5⟩ := box6 ((HB9.out.block (q + 1) (blk_lt T2.out)).trans T2.out); obtain ⟨s0, s1, s2, s3, s4, s5⟩ := box6 ((HB9.out.block (q + 2) (blk_lt T3.out)).trans T3.out)))
            | (go_at_call 10; ((with_reducible refine (same_eq (HVA.out.below HB9.out) (HVB.out.below HB9.out) HSM.out).mono ?_); rintro e9 w9 ⟨rfl, b9⟩; have HB9 := Aside0.mk (below_step HB9.out b9); clear b9; clear p0 p1 p2 p3 p4 p5 r0 r1 r2 r3 r4 r5 s0 s1 s2 s3 s4 s5; obtain ⟨p0, p1, p2, p3, p4, p5⟩ := box6 ((HB9.out.block q (blk_lt T1.out)).trans T1.out); obtain ⟨r0, r1, r2, r3, r4, r5⟩ := box6 ((HB9.out.block (q + 1) (blk_lt T2.out)).trans T2.out); obtain ⟨s0, s1, s2, s3, s4, s5⟩ := box6 ((HB9.out.block (q + 2) (blk_lt T3.out)).trans T3.out)))
            | (go_at_call 7; (refine (const_calls _).mono ?_; rintro e9 w9 ⟨rfl, b9⟩; have HB9 := Aside0.mk (below_step HB9.out b9); clear b9)))
          go_ret
          exact ⟨by first | rfl | (simp; done), below_step HWV.out HB9.out⟩
    | true =>
      have HCA := Aside0.mk hca
      cases hcb : chk b with
      | false =>
        have HCB := Aside0.mk hcb
        have HSM : Aside0 (sameD a b = false) := ⟨by unfold sameD; rw [hcb, Bool.and_false]; rfl⟩
        cases hna : nanB a.re with
        | true =>
          have sa : (FloatKind.f32.format.order a.re a.re != some Ordering.eq) = true := by rw [f_self]; exact hna
          go_wp2_with (first
            | (go_at_call 8; ((with_reducible refine (check_eq (HVA.out.below HB9.out) HCA.out rfl).mono ?_); rintro e9 w9 ⟨rfl, b9⟩; have HB9 := Aside0.mk (below_step HB9.out b9); clear b9; clear p0 p1 p2 p3 p4 p5 r0 r1 r2 r3 r4 r5 s0 s1 s2 s3 s4 s5; obtain ⟨p0, p1, p2, p3, p4, p5⟩ := box6 ((HB9.out.block q (blk_lt T1.out)).trans T1.out); obtain ⟨r0, r1, r2, r3, r4, r5⟩ := box6 ((HB9.out.block (q + 1) (blk_lt T2.out)).trans T2.out); obtain ⟨s0, s1, s2, s3, s4, s5⟩ := box6 ((HB9.out.block (q + 2) (blk_lt T3.out)).trans T3.out)))
            | (go_at_call 8; ((with_reducible refine (check_eq (HVB.out.below HB9.out) HCB.out rfl).mono ?_); rintro e9 w9 ⟨rfl, b9⟩; have HB9 := Aside0.mk (below_step HB9.out b9); clear b9; clear p0 p1 p2 p3 p4 p5 r0 r1 r2 r3 r4 r5 s0 s1 s2 s3 s4 s5; obtain ⟨p0, p1, p2, p3, p4, p5⟩ := box6 ((HB9.out.block q (blk_lt T1.out)).trans T1.out); obtain ⟨r0, r1, r2, r3, r4, r5⟩ := box6 ((HB9.out.block (q + 1) (blk_lt T2.out)).trans T2.out); obtain ⟨s0, s1, s2, s3, s4, s5⟩ := box6 ((HB9.out.block (q + 2) (blk_lt T3.out)).trans T3.out)))
            | (go_at_call 10; ((with_reducible refine (same_eq (HVA.out.below HB9.out) (HVB.out.below HB9.out) HSM.out).mono ?_); rintro e9 w9 ⟨rfl, b9⟩; have HB9 := Aside0.mk (below_step HB9.out b9); clear b9; clear p0 p1 p2 p3 p4 p5 r0 r1 r2 r3 r4 r5 s0 s1 s2 s3 s4 s5; obtain ⟨p0, p1, p2, p3, p4, p5⟩ := box6 ((HB9.out.block q (blk_lt T1.out)).trans T1.out); obtain ⟨r0, r1, r2, r3, r4, r5⟩ := box6 ((HB9.out.block (q + 1) (blk_lt T2.out)).trans T2.out); obtain ⟨s0, s1, s2, s3, s4, s5⟩ := box6 ((HB9.out.block (q + 2) (blk_lt T3.out)).trans T3.out)))
            | (go_at_call 7; (refine (const_calls _).mono ?_; rintro e9 w9 ⟨rfl, b9⟩; have HB9 := Aside0.mk (below_step HB9.out b9); clear b9)))
          go_ret
          exact ⟨by first | rfl | (simp; done), below_step HWV.out HB9.out⟩
        | false =>
          cases hnb : nanB b.re with
          | true =>
            have sa : (FloatKind.f32.format.order a.re a.re != some Ordering.eq) = false := by rw [f_self]; exact hna
            have sb : (FloatKind.f32.format.order b.re b.re != some Ordering.eq) = true := by rw [f_self]; exact hnb
            go_wp2_with (first
              | (go_at_call 8; ((with_reducible refine (check_eq (HVA.out.below HB9.out) HCA.out rfl).mono ?_); rintro e9 w9 ⟨rfl, b9⟩; have HB9 := Aside0.mk (below_step HB9.out b9); clear b9; clear p0 p1 p2 p3 p4 p5 r0 r1 r2 r3 r4 r5 s0 s1 s2 s3 s4 s5; obtain ⟨p0, p1, p2, p3, p4, p5⟩ := box6 ((HB9.out.block q (blk_lt T1.out)).trans T1.out); obtain ⟨r0, r1, r2, r3, r4, r5⟩ := box6 ((HB9.out.block (q + 1) (blk_lt T2.out)).trans T2.out); obtain ⟨s0, s1, s2, s3, s4, s5⟩ := box6 ((HB9.out.block (q + 2) (blk_lt T3.out)).trans T3.out)))
              | (go_at_call 8; ((with_reducible refine (check_eq (HVB.out.below HB9.out) HCB.out rfl).mono ?_); rintro e9 w9 ⟨rfl, b9⟩; have HB9 := Aside0.mk (below_step HB9.out b9); clear b9; clear p0 p1 p2 p3 p4 p5 r0 r1 r2 r3 r4 r5 s0 s1 s2 s3 s4 s5; obtain ⟨p0, p1, p2, p3, p4, p5⟩ := box6 ((HB9.out.block q (blk_lt T1.out)).trans T1.out); obtain ⟨r0, r1, r2, r3, r4, r5⟩ := box6 ((HB9.out.block (q + 1) (blk_lt T2.out)).trans T2.out); obtain ⟨s0, s1, s2, s3, s4, s5⟩ := box6 ((HB9.out.block (q + 2) (blk_lt T3.out)).trans T3.out)))
              | (go_at_call 10; ((with_reducible refine (same_eq (HVA.out.below HB9.out) (HVB.out.below HB9.out) HSM.out).mono ?_); rintro e9 w9 ⟨rfl, b9⟩; have HB9 := Aside0.mk (below_step HB9.out b9); clear b9; clear p0 p1 p2 p3 p4 p5 r0 r1 r2 r3 r4 r5 s0 s1 s2 s3 s4 s5; obtain ⟨p0, p1, p2, p3, p4, p5⟩ := box6 ((HB9.out.block q (blk_lt T1.out)).trans T1.out); obtain ⟨r0, r1, r2, r3, r4, r5⟩ := box6 ((HB9.out.block (q + 1) (blk_lt T2.out)).trans T2.out); obtain ⟨s0, s1, s2, s3, s4, s5⟩ := box6 ((HB9.out.block (q + 2) (blk_lt T3.out)).trans T3.out)))
              | (go_at_call 7; (refine (const_calls _).mono ?_; rintro e9 w9 ⟨rfl, b9⟩; have HB9 := Aside0.mk (below_step HB9.out b9); clear b9)))
            go_ret
            exact ⟨by first | rfl | (simp; done), below_step HWV.out HB9.out⟩
          | false =>
            have sa : (FloatKind.f32.format.order a.re a.re != some Ordering.eq) = false := by rw [f_self]; exact hna
            have sb : (FloatKind.f32.format.order b.re b.re != some Ordering.eq) = false := by rw [f_self]; exact hnb
            go_wp2_with (first
              | (go_at_call 8; ((with_reducible refine (check_eq (HVA.out.below HB9.out) HCA.out rfl).mono ?_); rintro e9 w9 ⟨rfl, b9⟩; have HB9 := Aside0.mk (below_step HB9.out b9); clear b9; clear p0 p1 p2 p3 p4 p5 r0 r1 r2 r3 r4 r5 s0 s1 s2 s3 s4 s5; obtain ⟨p0, p1, p2, p3, p4, p5⟩ := box6 ((HB9.out.block q (blk_lt T1.out)).trans T1.out); obtain ⟨r0, r1, r2, r3, r4, r5⟩ := box6 ((HB9.out.block (q + 1) (blk_lt T2.out)).trans T2.out); obtain ⟨s0, s1, s2, s3, s4, s5⟩ := box6 ((HB9.out.block (q + 2) (blk_lt T3.out)).trans T3.out)))
              | (go_at_call 8; ((with_reducible refine (check_eq (HVB.out.below HB9.out) HCB.out rfl).mono ?_); rintro e9 w9 ⟨rfl, b9⟩; have HB9 := Aside0.mk (below_step HB9.out b9); clear b9; clear p0 p1 p2 p3 p4 p5 r0 r1 r2 r3 r4 r5 s0 s1 s2 s3 s4 s5; obtain ⟨p0, p1, p2, p3, p4, p5⟩ := box6 ((HB9.out.block q (blk_lt T1.out)).trans T1.out); obtain ⟨r0, r1, r2, r3, r4, r5⟩ := box6 ((HB9.out.block (q + 1) (blk_lt T2.out)).trans T2.out); obtain ⟨s0, s1, s2, s3, s4, s5⟩ := box6 ((HB9.out.block (q + 2) (blk_lt T3.out)).trans T3.out)))
              | (go_at_call 10; ((with_reducible refine (same_eq (HVA.out.below HB9.out) (HVB.out.below HB9.out) HSM.out).mono ?_); rintro e9 w9 ⟨rfl, b9⟩; have HB9 := Aside0.mk (below_step HB9.out b9); clear b9; clear p0 p1 p2 p3 p4 p5 r0 r1 r2 r3 r4 r5 s0 s1 s2 s3 s4 s5; obtain ⟨p0, p1, p2, p3, p4, p5⟩ := box6 ((HB9.out.block q (blk_lt T1.out)).trans T1.out); obtain ⟨r0, r1, r2, r3, r4, r5⟩ := box6 ((HB9.out.block (q + 1) (blk_lt T2.out)).trans T2.out); obtain ⟨s0, s1, s2, s3, s4, s5⟩ := box6 ((HB9.out.block (q + 2) (blk_lt T3.out)).trans T3.out)))
              | (go_at_call 7; (refine (const_calls _).mono ?_; rintro e9 w9 ⟨rfl, b9⟩; have HB9 := Aside0.mk (below_step HB9.out b9); clear b9)))
            go_ret
            exact ⟨by first | rfl | (simp; done), below_step HWV.out HB9.out⟩
      | true =>
        have HCB := Aside0.mk hcb
        cases hna : nanB a.re with
        | true =>
          have sa : (FloatKind.f32.format.order a.re a.re != some Ordering.eq) = true := by rw [f_self]; exact hna
          cases hsm : sameD a b with
          | false =>
            have HSM := Aside0.mk hsm
            clear hsm
            go_wp2_with (first
              | (go_at_call 8; ((with_reducible refine (check_eq (HVA.out.below HB9.out) HCA.out rfl).mono ?_); rintro e9 w9 ⟨rfl, b9⟩; have HB9 := Aside0.mk (below_step HB9.out b9); clear b9; clear p0 p1 p2 p3 p4 p5 r0 r1 r2 r3 r4 r5 s0 s1 s2 s3 s4 s5; obtain ⟨p0, p1, p2, p3, p4, p5⟩ := box6 ((HB9.out.block q (blk_lt T1.out)).trans T1.out); obtain ⟨r0, r1, r2, r3, r4, r5⟩ := box6 ((HB9.out.block (q + 1) (blk_lt T2.out)).trans T2.out); obtain ⟨s0, s1, s2, s3, s4, s5⟩ := box6 ((HB9.out.block (q + 2) (blk_lt T3.out)).trans T3.out)))
              | (go_at_call 8; ((with_reducible refine (check_eq (HVB.out.below HB9.out) HCB.out rfl).mono ?_); rintro e9 w9 ⟨rfl, b9⟩; have HB9 := Aside0.mk (below_step HB9.out b9); clear b9; clear p0 p1 p2 p3 p4 p5 r0 r1 r2 r3 r4 r5 s0 s1 s2 s3 s4 s5; obtain ⟨p0, p1, p2, p3, p4, p5⟩ := box6 ((HB9.out.block q (blk_lt T1.out)).trans T1.out); obtain ⟨r0, r1, r2, r3, r4, r5⟩ := box6 ((HB9.out.block (q + 1) (blk_lt T2.out)).trans T2.out); obtain ⟨s0, s1, s2, s3, s4, s5⟩ := box6 ((HB9.out.block (q + 2) (blk_lt T3.out)).trans T3.out)))
              | (go_at_call 10; ((with_reducible refine (same_eq (HVA.out.below HB9.out) (HVB.out.below HB9.out) HSM.out).mono ?_); rintro e9 w9 ⟨rfl, b9⟩; have HB9 := Aside0.mk (below_step HB9.out b9); clear b9; clear p0 p1 p2 p3 p4 p5 r0 r1 r2 r3 r4 r5 s0 s1 s2 s3 s4 s5; obtain ⟨p0, p1, p2, p3, p4, p5⟩ := box6 ((HB9.out.block q (blk_lt T1.out)).trans T1.out); obtain ⟨r0, r1, r2, r3, r4, r5⟩ := box6 ((HB9.out.block (q + 1) (blk_lt T2.out)).trans T2.out); obtain ⟨s0, s1, s2, s3, s4, s5⟩ := box6 ((HB9.out.block (q + 2) (blk_lt T3.out)).trans T3.out)))
              | (go_at_call 7; (refine (const_calls _).mono ?_; rintro e9 w9 ⟨rfl, b9⟩; have HB9 := Aside0.mk (below_step HB9.out b9); clear b9)))
            go_ret
            exact ⟨by first | rfl | (simp; done), below_step HWV.out HB9.out⟩
          | true =>
            have HSM := Aside0.mk hsm
            obtain ⟨z1, z2, z3, z4⟩ := HOF.out.same hsm
            clear hsm
            clear z1 z2 z3 z4
            go_wp2_with (first
              | (go_at_call 8; ((with_reducible refine (check_eq (HVA.out.below HB9.out) HCA.out rfl).mono ?_); rintro e9 w9 ⟨rfl, b9⟩; have HB9 := Aside0.mk (below_step HB9.out b9); clear b9; clear p0 p1 p2 p3 p4 p5 r0 r1 r2 r3 r4 r5 s0 s1 s2 s3 s4 s5; obtain ⟨p0, p1, p2, p3, p4, p5⟩ := box6 ((HB9.out.block q (blk_lt T1.out)).trans T1.out); obtain ⟨r0, r1, r2, r3, r4, r5⟩ := box6 ((HB9.out.block (q + 1) (blk_lt T2.out)).trans T2.out); obtain ⟨s0, s1, s2, s3, s4, s5⟩ := box6 ((HB9.out.block (q + 2) (blk_lt T3.out)).trans T3.out)))
              | (go_at_call 8; ((with_reducible refine (check_eq (HVB.out.below HB9.out) HCB.out rfl).mono ?_); rintro e9 w9 ⟨rfl, b9⟩; have HB9 := Aside0.mk (below_step HB9.out b9); clear b9; clear p0 p1 p2 p3 p4 p5 r0 r1 r2 r3 r4 r5 s0 s1 s2 s3 s4 s5; obtain ⟨p0, p1, p2, p3, p4, p5⟩ := box6 ((HB9.out.block q (blk_lt T1.out)).trans T1.out); obtain ⟨r0, r1, r2, r3, r4, r5⟩ := box6 ((HB9.out.block (q + 1) (blk_lt T2.out)).trans T2.out); obtain ⟨s0, s1, s2, s3, s4, s5⟩ := box6 ((HB9.out.block (q + 2) (blk_lt T3.out)).trans T3.out)))
              | (go_at_call 10; ((with_reducible refine (same_eq (HVA.out.below HB9.out) (HVB.out.below HB9.out) HSM.out).mono ?_); rintro e9 w9 ⟨rfl, b9⟩; have HB9 := Aside0.mk (below_step HB9.out b9); clear b9; clear p0 p1 p2 p3 p4 p5 r0 r1 r2 r3 r4 r5 s0 s1 s2 s3 s4 s5; obtain ⟨p0, p1, p2, p3, p4, p5⟩ := box6 ((HB9.out.block q (blk_lt T1.out)).trans T1.out); obtain ⟨r0, r1, r2, r3, r4, r5⟩ := box6 ((HB9.out.block (q + 1) (blk_lt T2.out)).trans T2.out); obtain ⟨s0, s1, s2, s3, s4, s5⟩ := box6 ((HB9.out.block (q + 2) (blk_lt T3.out)).trans T3.out)))
              | (go_at_call 7; (refine (const_calls _).mono ?_; rintro e9 w9 ⟨rfl, b9⟩; have HB9 := Aside0.mk (below_step HB9.out b9); clear b9)))
            go_ret
            exact ⟨by first | rfl | (simp; done), below_step HWV.out HB9.out⟩
        | false =>
          cases hnb : nanB b.re with
          | true =>
            have sa : (FloatKind.f32.format.order a.re a.re != some Ordering.eq) = false := by rw [f_self]; exact hna
            have sb : (FloatKind.f32.format.order b.re b.re != some Ordering.eq) = true := by rw [f_self]; exact hnb
            cases hsm : sameD a b with
            | false =>
              have HSM := Aside0.mk hsm
              clear hsm
              go_wp2_with (first
                | (go_at_call 8; ((with_reducible refine (check_eq (HVA.out.below HB9.out) HCA.out rfl).mono ?_); rintro e9 w9 ⟨rfl, b9⟩; have HB9 := Aside0.mk (below_step HB9.out b9); clear b9; clear p0 p1 p2 p3 p4 p5 r0 r1 r2 r3 r4 r5 s0 s1 s2 s3 s4 s5; obtain ⟨p0, p1, p2, p3, p4, p5⟩ := box6 ((HB9.out.block q (blk_lt T1.out)).trans T1.out); obtain ⟨r0, r1, r2, r3, r4, r5⟩ := box6 ((HB9.out.block (q + 1) (blk_lt T2.out)).trans T2.out); obtain ⟨s0, s1, s2, s3, s4, s5⟩ := box6 ((HB9.out.block (q + 2) (blk_lt T3.out)).trans T3.out)))
                | (go_at_call 8; ((with_reducible refine (check_eq (HVB.out.below HB9.out) HCB.out rfl).mono ?_); rintro e9 w9 ⟨rfl, b9⟩; have HB9 := Aside0.mk (below_step HB9.out b9); clear b9; clear p0 p1 p2 p3 p4 p5 r0 r1 r2 r3 r4 r5 s0 s1 s2 s3 s4 s5; obtain ⟨p0, p1, p2, p3, p4, p5⟩ := box6 ((HB9.out.block q (blk_lt T1.out)).trans T1.out); obtain ⟨r0, r1, r2, r3, r4, r5⟩ := box6 ((HB9.out.block (q + 1) (blk_lt T2.out)).trans T2.out); obtain ⟨s0, s1, s2, s3, s4, s5⟩ := box6 ((HB9.out.block (q + 2) (blk_lt T3.out)).trans T3.out)))
                | (go_at_call 10; ((with_reducible refine (same_eq (HVA.out.below HB9.out) (HVB.out.below HB9.out) HSM.out).mono ?_); rintro e9 w9 ⟨rfl, b9⟩; have HB9 := Aside0.mk (below_step HB9.out b9); clear b9; clear p0 p1 p2 p3 p4 p5 r0 r1 r2 r3 r4 r5 s0 s1 s2 s3 s4 s5; obtain ⟨p0, p1, p2, p3, p4, p5⟩ := box6 ((HB9.out.block q (blk_lt T1.out)).trans T1.out); obtain ⟨r0, r1, r2, r3, r4, r5⟩ := box6 ((HB9.out.block (q + 1) (blk_lt T2.out)).trans T2.out); obtain ⟨s0, s1, s2, s3, s4, s5⟩ := box6 ((HB9.out.block (q + 2) (blk_lt T3.out)).trans T3.out)))
                | (go_at_call 7; (refine (const_calls _).mono ?_; rintro e9 w9 ⟨rfl, b9⟩; have HB9 := Aside0.mk (below_step HB9.out b9); clear b9)))
              go_ret
              exact ⟨by first | rfl | (simp; done), below_step HWV.out HB9.out⟩
            | true =>
              have HSM := Aside0.mk hsm
              obtain ⟨z1, z2, z3, z4⟩ := HOF.out.same hsm
              clear hsm
              clear z1 z2 z3 z4
              go_wp2_with (first
                | (go_at_call 8; ((with_reducible refine (check_eq (HVA.out.below HB9.out) HCA.out rfl).mono ?_); rintro e9 w9 ⟨rfl, b9⟩; have HB9 := Aside0.mk (below_step HB9.out b9); clear b9; clear p0 p1 p2 p3 p4 p5 r0 r1 r2 r3 r4 r5 s0 s1 s2 s3 s4 s5; obtain ⟨p0, p1, p2, p3, p4, p5⟩ := box6 ((HB9.out.block q (blk_lt T1.out)).trans T1.out); obtain ⟨r0, r1, r2, r3, r4, r5⟩ := box6 ((HB9.out.block (q + 1) (blk_lt T2.out)).trans T2.out); obtain ⟨s0, s1, s2, s3, s4, s5⟩ := box6 ((HB9.out.block (q + 2) (blk_lt T3.out)).trans T3.out)))
                | (go_at_call 8; ((with_reducible refine (check_eq (HVB.out.below HB9.out) HCB.out rfl).mono ?_); rintro e9 w9 ⟨rfl, b9⟩; have HB9 := Aside0.mk (below_step HB9.out b9); clear b9; clear p0 p1 p2 p3 p4 p5 r0 r1 r2 r3 r4 r5 s0 s1 s2 s3 s4 s5; obtain ⟨p0, p1, p2, p3, p4, p5⟩ := box6 ((HB9.out.block q (blk_lt T1.out)).trans T1.out); obtain ⟨r0, r1, r2, r3, r4, r5⟩ := box6 ((HB9.out.block (q + 1) (blk_lt T2.out)).trans T2.out); obtain ⟨s0, s1, s2, s3, s4, s5⟩ := box6 ((HB9.out.block (q + 2) (blk_lt T3.out)).trans T3.out)))
                | (go_at_call 10; ((with_reducible refine (same_eq (HVA.out.below HB9.out) (HVB.out.below HB9.out) HSM.out).mono ?_); rintro e9 w9 ⟨rfl, b9⟩; have HB9 := Aside0.mk (below_step HB9.out b9); clear b9; clear p0 p1 p2 p3 p4 p5 r0 r1 r2 r3 r4 r5 s0 s1 s2 s3 s4 s5; obtain ⟨p0, p1, p2, p3, p4, p5⟩ := box6 ((HB9.out.block q (blk_lt T1.out)).trans T1.out); obtain ⟨r0, r1, r2, r3, r4, r5⟩ := box6 ((HB9.out.block (q + 1) (blk_lt T2.out)).trans T2.out); obtain ⟨s0, s1, s2, s3, s4, s5⟩ := box6 ((HB9.out.block (q + 2) (blk_lt T3.out)).trans T3.out)))
                | (go_at_call 7; (refine (const_calls _).mono ?_; rintro e9 w9 ⟨rfl, b9⟩; have HB9 := Aside0.mk (below_step HB9.out b9); clear b9)))
              go_ret
              exact ⟨by first | rfl | (simp; done), below_step HWV.out HB9.out⟩
          | false =>
            have sa : (FloatKind.f32.format.order a.re a.re != some Ordering.eq) = false := by rw [f_self]; exact hna
            have sb : (FloatKind.f32.format.order b.re b.re != some Ordering.eq) = false := by rw [f_self]; exact hnb
            have hrel : relK a b = false := by have hok := HOK.out; rw [hca, hcb, hna, hnb] at hok; simpa using hok
            unfold relK at hrel
            rw [Bool.or_eq_false_iff] at hrel
            obtain ⟨hke, hnm⟩ := hrel
            have HSM : Aside0 (sameD a b = false) := ⟨by unfold sameD; rw [hke]; simp⟩
            cases hnma : numK a.kind with
            | false =>
              have HNA := Aside0.mk hnma
              clear hnm hnma
              go_wp2_with (first
                | (go_at_call 8; ((with_reducible refine (check_eq (HVA.out.below HB9.out) HCA.out rfl).mono ?_); rintro e9 w9 ⟨rfl, b9⟩; have HB9 := Aside0.mk (below_step HB9.out b9); clear b9; clear p0 p1 p2 p3 p4 p5 r0 r1 r2 r3 r4 r5 s0 s1 s2 s3 s4 s5; obtain ⟨p0, p1, p2, p3, p4, p5⟩ := box6 ((HB9.out.block q (blk_lt T1.out)).trans T1.out); obtain ⟨r0, r1, r2, r3, r4, r5⟩ := box6 ((HB9.out.block (q + 1) (blk_lt T2.out)).trans T2.out); obtain ⟨s0, s1, s2, s3, s4, s5⟩ := box6 ((HB9.out.block (q + 2) (blk_lt T3.out)).trans T3.out)))
                | (go_at_call 8; ((with_reducible refine (check_eq (HVB.out.below HB9.out) HCB.out rfl).mono ?_); rintro e9 w9 ⟨rfl, b9⟩; have HB9 := Aside0.mk (below_step HB9.out b9); clear b9; clear p0 p1 p2 p3 p4 p5 r0 r1 r2 r3 r4 r5 s0 s1 s2 s3 s4 s5; obtain ⟨p0, p1, p2, p3, p4, p5⟩ := box6 ((HB9.out.block q (blk_lt T1.out)).trans T1.out); obtain ⟨r0, r1, r2, r3, r4, r5⟩ := box6 ((HB9.out.block (q + 1) (blk_lt T2.out)).trans T2.out); obtain ⟨s0, s1, s2, s3, s4, s5⟩ := box6 ((HB9.out.block (q + 2) (blk_lt T3.out)).trans T3.out)))
                | (go_at_call 9; ((with_reducible refine (num_calls _ a Aa ca HNA.out).mono ?_); rintro e9 w9 ⟨rfl, b9⟩; have HB9 := Aside0.mk (below_step HB9.out b9); clear b9; clear p0 p1 p2 p3 p4 p5 r0 r1 r2 r3 r4 r5 s0 s1 s2 s3 s4 s5; obtain ⟨p0, p1, p2, p3, p4, p5⟩ := box6 ((HB9.out.block q (blk_lt T1.out)).trans T1.out); obtain ⟨r0, r1, r2, r3, r4, r5⟩ := box6 ((HB9.out.block (q + 1) (blk_lt T2.out)).trans T2.out); obtain ⟨s0, s1, s2, s3, s4, s5⟩ := box6 ((HB9.out.block (q + 2) (blk_lt T3.out)).trans T3.out)))
                | (go_at_call 10; ((with_reducible refine (same_eq (HVA.out.below HB9.out) (HVB.out.below HB9.out) HSM.out).mono ?_); rintro e9 w9 ⟨rfl, b9⟩; have HB9 := Aside0.mk (below_step HB9.out b9); clear b9; clear p0 p1 p2 p3 p4 p5 r0 r1 r2 r3 r4 r5 s0 s1 s2 s3 s4 s5; obtain ⟨p0, p1, p2, p3, p4, p5⟩ := box6 ((HB9.out.block q (blk_lt T1.out)).trans T1.out); obtain ⟨r0, r1, r2, r3, r4, r5⟩ := box6 ((HB9.out.block (q + 1) (blk_lt T2.out)).trans T2.out); obtain ⟨s0, s1, s2, s3, s4, s5⟩ := box6 ((HB9.out.block (q + 2) (blk_lt T3.out)).trans T3.out)))
                | (go_at_call 7; (refine (const_calls _).mono ?_; rintro e9 w9 ⟨rfl, b9⟩; have HB9 := Aside0.mk (below_step HB9.out b9); clear b9)))
              go_ret
              exact ⟨by first | rfl | (simp; done), below_step HWV.out HB9.out⟩
            | true =>
              have HNA := Aside0.mk hnma
              rw [hnma, Bool.true_and] at hnm
              have HNB := Aside0.mk hnm
              clear hnm hnma
              go_wp2_with (first
                | (go_at_call 8; ((with_reducible refine (check_eq (HVA.out.below HB9.out) HCA.out rfl).mono ?_); rintro e9 w9 ⟨rfl, b9⟩; have HB9 := Aside0.mk (below_step HB9.out b9); clear b9; clear p0 p1 p2 p3 p4 p5 r0 r1 r2 r3 r4 r5 s0 s1 s2 s3 s4 s5; obtain ⟨p0, p1, p2, p3, p4, p5⟩ := box6 ((HB9.out.block q (blk_lt T1.out)).trans T1.out); obtain ⟨r0, r1, r2, r3, r4, r5⟩ := box6 ((HB9.out.block (q + 1) (blk_lt T2.out)).trans T2.out); obtain ⟨s0, s1, s2, s3, s4, s5⟩ := box6 ((HB9.out.block (q + 2) (blk_lt T3.out)).trans T3.out)))
                | (go_at_call 8; ((with_reducible refine (check_eq (HVB.out.below HB9.out) HCB.out rfl).mono ?_); rintro e9 w9 ⟨rfl, b9⟩; have HB9 := Aside0.mk (below_step HB9.out b9); clear b9; clear p0 p1 p2 p3 p4 p5 r0 r1 r2 r3 r4 r5 s0 s1 s2 s3 s4 s5; obtain ⟨p0, p1, p2, p3, p4, p5⟩ := box6 ((HB9.out.block q (blk_lt T1.out)).trans T1.out); obtain ⟨r0, r1, r2, r3, r4, r5⟩ := box6 ((HB9.out.block (q + 1) (blk_lt T2.out)).trans T2.out); obtain ⟨s0, s1, s2, s3, s4, s5⟩ := box6 ((HB9.out.block (q + 2) (blk_lt T3.out)).trans T3.out)))
                | (go_at_call 9; ((with_reducible refine (num_calls _ a Aa ca HNA.out).mono ?_); rintro e9 w9 ⟨rfl, b9⟩; have HB9 := Aside0.mk (below_step HB9.out b9); clear b9; clear p0 p1 p2 p3 p4 p5 r0 r1 r2 r3 r4 r5 s0 s1 s2 s3 s4 s5; obtain ⟨p0, p1, p2, p3, p4, p5⟩ := box6 ((HB9.out.block q (blk_lt T1.out)).trans T1.out); obtain ⟨r0, r1, r2, r3, r4, r5⟩ := box6 ((HB9.out.block (q + 1) (blk_lt T2.out)).trans T2.out); obtain ⟨s0, s1, s2, s3, s4, s5⟩ := box6 ((HB9.out.block (q + 2) (blk_lt T3.out)).trans T3.out)))
                | (go_at_call 9; ((with_reducible refine (num_calls _ b Ab cb HNB.out).mono ?_); rintro e9 w9 ⟨rfl, b9⟩; have HB9 := Aside0.mk (below_step HB9.out b9); clear b9; clear p0 p1 p2 p3 p4 p5 r0 r1 r2 r3 r4 r5 s0 s1 s2 s3 s4 s5; obtain ⟨p0, p1, p2, p3, p4, p5⟩ := box6 ((HB9.out.block q (blk_lt T1.out)).trans T1.out); obtain ⟨r0, r1, r2, r3, r4, r5⟩ := box6 ((HB9.out.block (q + 1) (blk_lt T2.out)).trans T2.out); obtain ⟨s0, s1, s2, s3, s4, s5⟩ := box6 ((HB9.out.block (q + 2) (blk_lt T3.out)).trans T3.out)))
                | (go_at_call 10; ((with_reducible refine (same_eq (HVA.out.below HB9.out) (HVB.out.below HB9.out) HSM.out).mono ?_); rintro e9 w9 ⟨rfl, b9⟩; have HB9 := Aside0.mk (below_step HB9.out b9); clear b9; clear p0 p1 p2 p3 p4 p5 r0 r1 r2 r3 r4 r5 s0 s1 s2 s3 s4 s5; obtain ⟨p0, p1, p2, p3, p4, p5⟩ := box6 ((HB9.out.block q (blk_lt T1.out)).trans T1.out); obtain ⟨r0, r1, r2, r3, r4, r5⟩ := box6 ((HB9.out.block (q + 1) (blk_lt T2.out)).trans T2.out); obtain ⟨s0, s1, s2, s3, s4, s5⟩ := box6 ((HB9.out.block (q + 2) (blk_lt T3.out)).trans T3.out)))
                | (go_at_call 7; (refine (const_calls _).mono ?_; rintro e9 w9 ⟨rfl, b9⟩; have HB9 := Aside0.mk (below_step HB9.out b9); clear b9)))
              go_ret
              exact ⟨by first | rfl | (simp; done), below_step HWV.out HB9.out⟩
end Go.Proofs.Ytgkocbbpkiechaa.Val
