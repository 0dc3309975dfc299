/- OnesCount64 counts the ones of a word, byte by byte: plain Lean. -/
import Derived.Test.YtmldefednihohaaDoorGrpPairs
namespace Go.Proofs.YtmldefednihohaaDoor.Grp
open Go.RowKit Go.Proofs.YtmldefednihohaaDoorW.PrintWords
set_option linter.unusedVariables false
set_option linter.unusedSimpArgs false
def ofB : List Nat → Nat
  | [] => 0
  | a :: l => a + 256 * ofB l
def repB (c : Nat) : List Nat → Nat
  | [] => 0
  | _ :: l => c + 256 * repB c l
theorem and_split (a m b k : Nat) (ha : a < 256) (hm : m < 256) : (a + 256 * b) &&& (m + 256 * k) = (a &&& m) + 256 * (b &&& k) := by
  have hand : a &&& m < 2 ^ 8 := Nat.lt_of_le_of_lt Nat.and_le_left ha
  have e1 : a + 256 * b = 2 ^ 8 * b + a := by omega
  have e2 : m + 256 * k = 2 ^ 8 * k + m := by omega
  have e3 : (a &&& m) + 256 * (b &&& k) = 2 ^ 8 * (b &&& k) + (a &&& m) := by omega
  rw [e1, e2, e3]
  apply Nat.eq_of_testBit_eq
  intro i
  rw [Nat.testBit_and, Nat.testBit_two_pow_mul_add _ ha, Nat.testBit_two_pow_mul_add _ hm, Nat.testBit_two_pow_mul_add _ hand]
  split
  · rw [Nat.testBit_and]
  · rw [Nat.testBit_and]
def g1 (a : Nat) : Nat := ((a / 2) &&& 85) + (a &&& 85)
def g2 (a : Nat) : Nat := ((a / 4) &&& 51) + (a &&& 51)
def g3 (a : Nat) : Nat := (a / 16 + a) % 16
theorem h1 : ∀ a : Fin 256, ∀ r : Fin 2, ((a.val / 2 + 128 * r.val) &&& 85) = (a.val / 2) &&& 85 := by decide +kernel
theorem h2 : ∀ a : Fin 256, ∀ r : Fin 4, ((a.val / 4 + 64 * r.val) &&& 51) = (a.val / 4) &&& 51 := by decide +kernel
theorem b1 : ∀ a : Fin 256, g1 a.val < 256 := by decide +kernel
theorem b2 : ∀ a : Fin 256, g2 (g1 a.val) / 16 ≤ 4 ∧ g2 (g1 a.val) % 16 ≤ 4 := by decide +kernel
theorem b3 : ∀ a : Fin 256, g3 (g2 (g1 a.val)) ≤ 8 := by decide +kernel
theorem sw1 : ∀ l : List Nat, (∀ a, a ∈ l → a < 256) → ((ofB l / 2) &&& repB 85 l) + (ofB l &&& repB 85 l) = ofB (l.map g1) := by
  intro l
  induction l with
  | nil => intro _; rfl
  | cons a l ih =>
    intro h
    have ha := h a (by simp)
    have ih := ih (fun x hx => h x (by simp [hx]))
    simp only [ofB, repB, List.map_cons]
    generalize ofB l = B at *
    have e : (a + 256 * B) / 2 = (a / 2 + 128 * (B % 2)) + 256 * (B / 2) := by omega
    rw [e, and_split _ 85 _ _ (by omega) (by decide), and_split a 85 _ _ ha (by decide)]
    have := h1 ⟨a, ha⟩ ⟨B % 2, by omega⟩
    simp only at this
    rw [this, ← ih]
    unfold g1
    omega
theorem sw2 : ∀ l : List Nat, (∀ a, a ∈ l → a < 256) → ((ofB l / 4) &&& repB 51 l) + (ofB l &&& repB 51 l) = ofB (l.map g2) := by
  intro l
  induction l with
  | nil => intro _; rfl
  | cons a l ih =>
    intro h
    have ha := h a (by simp)
    have ih := ih (fun x hx => h x (by simp [hx]))
    simp only [ofB, repB, List.map_cons]
    generalize ofB l = B at *
    have e : (a + 256 * B) / 4 = (a / 4 + 64 * (B % 4)) + 256 * (B / 4) := by omega
    rw [e, and_split _ 51 _ _ (by omega) (by decide), and_split a 51 _ _ ha (by decide)]
    have := h2 ⟨a, ha⟩ ⟨B % 4, by omega⟩
    simp only at this
    rw [this, ← ih]
    unfold g2
    omega
theorem ofB_mod (l : List Nat) (h : ∀ a, a ∈ l → a % 16 ≤ 4) : ofB l % 16 ≤ 4 := by
  cases l with
  | nil => simp [ofB]
  | cons a l =>
    have := h a (by simp)
    simp only [ofB]
    omega
theorem sw3 : ∀ l : List Nat, (∀ a, a ∈ l → a / 16 ≤ 4 ∧ a % 16 ≤ 4) → (ofB l / 16 + ofB l) &&& repB 15 l = ofB (l.map g3) := by
  intro l
  induction l with
  | nil => intro _; rfl
  | cons a l ih =>
    intro h
    have ha := h a (by simp)
    have hm := ofB_mod l (fun x hx => (h x (by simp [hx])).2)
    have ih := ih (fun x hx => h x (by simp [hx]))
    simp only [ofB, repB, List.map_cons]
    generalize ofB l = B at *
    have e : (a + 256 * B) / 16 + (a + 256 * B) = (a / 16 + 16 * (B % 16) + a) + 256 * (B / 16 + B) := by omega
    rw [e, and_split _ 15 _ _ (by omega) (by decide), ih]
    have e2 : (a / 16 + 16 * (B % 16) + a) &&& 15 = g3 a := by
      rw [show (15 : Nat) = 2 ^ 4 - 1 from rfl, Nat.and_two_pow_sub_one_eq_mod]
      unfold g3
      omega
    rw [e2]
theorem dv {y a d k : Nat} (h : y = a + d * k) (ha : a < d) : y / d = k := by
  rw [h, Nat.add_mul_div_left _ _ (by omega), Nat.div_eq_of_lt ha, Nat.zero_add]
theorem sw4 (p0 p1 p2 p3 p4 p5 p6 p7 : Nat) (q0 : p0 ≤ 8) (q1 : p1 ≤ 8) (q2 : p2 ≤ 8) (q3 : p3 ≤ 8) (q4 : p4 ≤ 8) (q5 : p5 ≤ 8) (q6 : p6 ≤ 8) (q7 : p7 ≤ 8) (x y1 y2 y3 : Nat)
    (hx : x = ofB [p0, p1, p2, p3, p4, p5, p6, p7]) (e1 : y1 = x + x / 256) (e2 : y2 = y1 + y1 / 65536) (e3 : y3 = y2 + y2 / 4294967296) : y3 < 9223372036854775808 ∧ y3 % 128 = p0 + p1 + p2 + p3 + p4 + p5 + p6 + p7 := by
  simp only [ofB, Nat.mul_zero, Nat.add_zero] at hx
  obtain ⟨h6, d6⟩ : ∃ h6, h6 = p6 + 256 * p7 := ⟨_, rfl⟩
  obtain ⟨h5, d5⟩ : ∃ h5, h5 = p5 + 256 * h6 := ⟨_, rfl⟩
  obtain ⟨h4, d4⟩ : ∃ h4, h4 = p4 + 256 * h5 := ⟨_, rfl⟩
  obtain ⟨h3, d3⟩ : ∃ h3, h3 = p3 + 256 * h4 := ⟨_, rfl⟩
  obtain ⟨h2, d2⟩ : ∃ h2, h2 = p2 + 256 * h3 := ⟨_, rfl⟩
  obtain ⟨h1, d1⟩ : ∃ h1, h1 = p1 + 256 * h2 := ⟨_, rfl⟩
  rw [← d6, ← d5, ← d4, ← d3, ← d2, ← d1] at hx
  have b6 : h6 < 256 * 9 := by clear hx e1 e2 e3 d1 d2 d3 d4 d5; omega
  have b5 : h5 < 65536 * 9 := by clear hx e1 e2 e3 d1 d2 d3 d4 d6; omega
  have b4 : h4 < 16777216 * 9 := by clear hx e1 e2 e3 d1 d2 d3 d5 d6; omega
  have b3 : h3 < 4294967296 * 9 := by clear hx e1 e2 e3 d1 d2 d4 d5 d6; omega
  have b2 : h2 < 1099511627776 * 9 := by clear hx e1 e2 e3 d1 d3 d4 d5 d6; omega
  have r1 : x / 256 = h1 := dv hx (by omega)
  rw [r1] at e1
  have f1 : y1 = ((p0 + p1) + 256 * (p1 + p2)) + 65536 * (h2 + h3) := by clear e2 e3 d3 d4 d5 d6 r1; omega
  have r2 : y1 / 65536 = h2 + h3 := dv f1 (by clear e1 hx e2 e3 d1 d2 d3 d4 d5 d6 r1 f1; omega)
  rw [r2] at e2
  have f2 : y2 = (p0 + p1 + p2 + p3) + 256 * (p1 + p2 + p3 + p4) + 65536 * (h2 + h3 + h4 + h5) := by clear e1 hx e3 d1 d5 d6 r1 r2; omega
  have g2 : h2 + h3 + h4 + h5 = (p2 + p3 + p4 + p5) + 256 * (p3 + p4 + p5 + p6) + 65536 * (h4 + h5 + h6 + p7) := by clear e1 hx e2 e3 d1 r1 r2 f1 f2; omega
  have f3 : y2 = ((p0 + p1 + p2 + p3) + 256 * (p1 + p2 + p3 + p4) + 65536 * (p2 + p3 + p4 + p5) + 16777216 * (p3 + p4 + p5 + p6)) + 4294967296 * (h4 + h5 + h6 + p7) := by clear e1 hx e2 e3 d1 d2 d3 d4 d5 d6 r1 r2 f1; omega
  have r3 : y2 / 4294967296 = h4 + h5 + h6 + p7 := dv f3 (by clear e1 hx e2 e3 d1 d2 d3 d4 d5 d6 r1 r2 f1 f2 f3 g2 b2 b3 b4 b5 b6; omega)
  rw [r3] at e3
  have g3 : h4 + h5 + h6 + p7 = (p4 + p5 + p6 + p7) + 256 * (h5 + h6 + p7) := by clear e1 hx e2 e3 d1 d2 d3 r1 r2 r3 f1 f2 f3 g2; omega
  have f4 : y3 = (p0 + p1 + p2 + p3 + p4 + p5 + p6 + p7) + 128 * (2 * ((p1 + p2 + p3 + p4) + 256 * (h2 + h3 + h4 + h5) + (h5 + h6 + p7))) := by clear e1 hx e2 d1 d2 d3 d4 d5 d6 r1 r2 r3 f1 f3 g2; omega
  constructor
  · rw [f4]
    clear e1 hx e2 d1 d2 d3 d4 d5 d6 r1 r2 r3 f1 f2 f3 f4 e3 g2 g3
    omega
  · rw [f4, Nat.add_mul_mod_self_left]
    exact Nat.mod_eq_of_lt (by clear e1 hx e2 d1 d2 d3 d4 d5 d6 r1 r2 r3 f1 f2 f3 f4 e3 g2 g3 b2 b3 b4 b5 b6; omega)
def g8 (a : Nat) : Nat := g3 (g2 (g1 a))
theorem ofB_lt : ∀ l : List Nat, (∀ a, a ∈ l → a < 256) → ofB l < 256 ^ l.length := by
  intro l
  induction l with
  | nil => intro _; simp [ofB]
  | cons a l ih =>
    intro h
    have h1 := h a (by simp)
    have h2 := ih (fun x hx => h x (by simp [hx]))
    simp only [ofB, List.length_cons, Nat.pow_succ]
    omega
theorem ofB_lt8 (l : List Nat) (hl : l.length = 8) (h : ∀ a, a ∈ l → a < 256) : ofB l < 18446744073709551616 := by
  have := ofB_lt l h
  rw [hl] at this
  simpa using this
theorem s_fin (y : Nat) (h : y < 9223372036854775808) : wrap64 (y : Int) = (y : Int) := by
  unfold wrap64
  omega
theorem s_step {x d M s : Nat} (hx : x < 18446744073709551616) (hM : M < 18446744073709551616) (hd : 0 < d) (hs : ((x / d) &&& M) + (x &&& M) = s) (hlt : s < 18446744073709551616) : IntKind.u64.wrap (Go.bits .and .u64 ((x : Int) / (d : Int)) (M : Int) + Go.bits .and .u64 (x : Int) (M : Int)) = (s : Int) := by
  have e : (x : Int) / (d : Int) = ((x / d : Nat) : Int) := by rw [Int.natCast_ediv]
  rw [e, u64_and_nat _ _ (Nat.lt_of_le_of_lt (Nat.div_le_self _ _) hx) hM, u64_and_nat _ _ hx hM, IntKind.wrap_u64]
  omega
theorem s_sum {x d s : Nat} (hs : x + x / d = s) (hlt : s < 18446744073709551616) : IntKind.u64.wrap ((x : Int) + (x : Int) / (d : Int)) = (s : Int) := by
  have e : (x : Int) / (d : Int) = ((x / d : Nat) : Int) := by rw [Int.natCast_ediv]
  rw [e, IntKind.wrap_u64]
  omega
theorem s_last {x M s : Nat} (hM : M < 18446744073709551616) (hs : (x / 16 + x) &&& M = s) (hlt : x / 16 + x < 18446744073709551616) : Go.bits .and .u64 (IntKind.u64.wrap ((x : Int) / 16 + (x : Int))) (M : Int) = (s : Int) := by
  have e : IntKind.u64.wrap ((x : Int) / 16 + (x : Int)) = ((x / 16 + x : Nat) : Int) := by
    rw [IntKind.wrap_u64]
    omega
  rw [e, u64_and_nat _ _ hlt hM, hs]
theorem oc_bytes (a0 a1 a2 a3 a4 a5 a6 a7 : Nat) (h : ∀ a, a ∈ [a0, a1, a2, a3, a4, a5, a6, a7] → a < 256) :
    oc (ofB [a0, a1, a2, a3, a4, a5, a6, a7]) = ((g8 a0 + g8 a1 + g8 a2 + g8 a3 + g8 a4 + g8 a5 + g8 a6 + g8 a7 : Nat) : Int) := by
  obtain ⟨l, hl⟩ : ∃ l, l = [a0, a1, a2, a3, a4, a5, a6, a7] := ⟨_, rfl⟩
  have hr : ∀ c, repB c l = repB c [0, 0, 0, 0, 0, 0, 0, 0] := fun c => by rw [hl]; rfl
  have e1 := sw1 l (by rw [hl]; exact h)
  have hg1 : ∀ a, a ∈ l.map g1 → a < 256 := fun a ha => by
    obtain ⟨x, hx, rfl⟩ := List.mem_map.1 ha
    exact b1 ⟨x, h x (by rw [← hl]; exact hx)⟩
  have e2 := sw2 (l.map g1) hg1
  have hg2 : ∀ a, a ∈ (l.map g1).map g2 → a / 16 ≤ 4 ∧ a % 16 ≤ 4 := fun a ha => by
    obtain ⟨x, hx, rfl⟩ := List.mem_map.1 ha
    obtain ⟨z, hz, rfl⟩ := List.mem_map.1 hx
    exact b2 ⟨z, h z (by rw [← hl]; exact hz)⟩
  have e3 := sw3 ((l.map g1).map g2) hg2
  have hr1 : repB 51 (l.map g1) = repB 51 [0, 0, 0, 0, 0, 0, 0, 0] := by rw [hl]; rfl
  have hr2 : repB 15 ((l.map g1).map g2) = repB 15 [0, 0, 0, 0, 0, 0, 0, 0] := by rw [hl]; rfl
  rw [hr 85, show repB 85 [0, 0, 0, 0, 0, 0, 0, 0] = 6148914691236517205 by decide] at e1
  rw [hr1, show repB 51 [0, 0, 0, 0, 0, 0, 0, 0] = 3689348814741910323 by decide] at e2
  rw [hr2, show repB 15 [0, 0, 0, 0, 0, 0, 0, 0] = 1085102592571150095 by decide] at e3
  have p8 : ∀ a, a ∈ [a0, a1, a2, a3, a4, a5, a6, a7] → g8 a ≤ 8 := fun a ha => b3 ⟨a, h a ha⟩
  have hx0 : ofB l < 18446744073709551616 := by
    exact ofB_lt8 l (by rw [hl]; rfl) (by rw [hl]; exact h)
  have hx1 : ofB (l.map g1) < 18446744073709551616 := by
    exact ofB_lt8 (l.map g1) (by rw [hl]; rfl) hg1
  have hg2' : ∀ a, a ∈ (l.map g1).map g2 → a ≤ 68 := fun a ha => by have := hg2 a ha; omega
  have hx2 : ofB ((l.map g1).map g2) / 16 + ofB ((l.map g1).map g2) < 18446744073709551616 := by
    have : ofB ((l.map g1).map g2) ≤ 68 * 72340172838076673 := by
      rw [hl] at hg2' ⊢
      simp only [List.map_cons, List.map_nil, List.mem_cons, List.mem_nil_iff, or_false, forall_eq_or_imp, forall_eq] at hg2'
      simp only [List.map_cons, List.map_nil, ofB]
      omega
    omega
  obtain ⟨x0, hx0'⟩ : ∃ x0, x0 = ofB l := ⟨_, rfl⟩
  obtain ⟨x1, hx1'⟩ : ∃ x1, x1 = ofB (l.map g1) := ⟨_, rfl⟩
  obtain ⟨x2, hx2'⟩ : ∃ x2, x2 = ofB ((l.map g1).map g2) := ⟨_, rfl⟩
  obtain ⟨x3, hx3'⟩ : ∃ x3, x3 = ofB (((l.map g1).map g2).map g3) := ⟨_, rfl⟩
  rw [← hx0'] at e1 hx0
  rw [← hx1'] at e1 e2 hx1
  rw [← hx2'] at e2 e3 hx2
  rw [← hx3'] at e3
  rw [← hl, ← hx0']
  have hf : x3 = ofB [g8 a0, g8 a1, g8 a2, g8 a3, g8 a4, g8 a5, g8 a6, g8 a7] := by rw [hx3', hl]; rfl
  obtain ⟨y1, hy1⟩ : ∃ y1, y1 = x3 + x3 / 256 := ⟨_, rfl⟩
  obtain ⟨y2, hy2⟩ : ∃ y2, y2 = y1 + y1 / 65536 := ⟨_, rfl⟩
  obtain ⟨y3, hy3⟩ : ∃ y3, y3 = y2 + y2 / 4294967296 := ⟨_, rfl⟩
  obtain ⟨k1, k2⟩ := sw4 (g8 a0) (g8 a1) (g8 a2) (g8 a3) (g8 a4) (g8 a5) (g8 a6) (g8 a7) (p8 _ (by simp)) (p8 _ (by simp)) (p8 _ (by simp)) (p8 _ (by simp)) (p8 _ (by simp)) (p8 _ (by simp)) (p8 _ (by simp)) (p8 _ (by simp)) x3 y1 y2 y3 hf hy1 hy2 hy3
  have s1 := s_step (x := x0) (d := 2) hx0 (by decide) (by decide) e1 hx1
  have s2 := s_step (x := x1) (d := 4) hx1 (by decide) (by decide) e2 (by omega)
  have s3 := s_last (x := x2) (by decide) e3 hx2
  have s4 := s_sum (x := x3) (d := 256) hy1.symm (by omega)
  have s5 := s_sum (x := y1) (d := 65536) hy2.symm (by omega)
  have s6 := s_sum (x := y2) (d := 4294967296) hy3.symm (by omega)
  have hfin : GrpRow.bits_OnesCount64.f (x0 : Int) = some ((y3 % 128 : Nat) : Int) := by
    unfold GrpRow.bits_OnesCount64.f
    simp only [Int.cast_ofNat_Int] at s1 s2 s3 s4 s5 s6
    rw [s1, s2, s3, s4, s5, s6, i64_and127, s_fin y3 k1]
    rfl
  have := (oc_f x0).1
  rw [hfin] at this
  rw [← Option.some.inj this, k2]
end Go.Proofs.YtmldefednihohaaDoor.Grp
