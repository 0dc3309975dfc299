/- How many bits a row has; what an index of links (or none) answers, each question by one contract. -/
import Derived.Test.YtmldefednihohaaDoorGrpOnes
import Derived.Test.YtmldefednihohaaDoorSxGrpGood
namespace Go.Proofs.YtmldefednihohaaDoor.Grp
open Go.RowKit Go.Proofs.YtmldefednihohaaDoorW.PrintWords Go.Proofs.YtmldefednihohaaDoorW.PrintLast Go.Proofs.YtmldefednihohaaDoorW.PrintMore
set_option linter.unusedVariables false
set_option linter.unusedSimpArgs false
def bz (P : Nat → Bool) (s : Nat) : Nat := if P s then 1 else 0
theorem bz_le (P : Nat → Bool) (s : Nat) : bz P s < 2 := by unfold bz; split <;> omega
def by8 (P : Nat → Bool) (s : Nat) : Nat := bz P s + 2 * bz P (s + 1) + 4 * bz P (s + 2) + 8 * bz P (s + 3) + 16 * bz P (s + 4) + 32 * bz P (s + 5) + 64 * bz P (s + 6) + 128 * bz P (s + 7)
def n8 (P : Nat → Bool) (s : Nat) : Nat := bz P s + bz P (s + 1) + bz P (s + 2) + bz P (s + 3) + bz P (s + 4) + bz P (s + 5) + bz P (s + 6) + bz P (s + 7)
theorem wk_succ (P : Nat → Bool) (i k : Nat) : wk P i (k + 1) = wk P i k + 2 ^ k * bz P (64 * i + k) := by
  unfold bz
  simp only [wk]
  split <;> simp
theorem wk8 (P : Nat → Bool) (i k : Nat) : wk P i (k + 8) = wk P i k + 2 ^ k * by8 P (64 * i + k) := by
  have e0 := wk_succ P i k
  have e1 := wk_succ P i (k + 1)
  have e2 := wk_succ P i (k + 2)
  have e3 := wk_succ P i (k + 3)
  have e4 := wk_succ P i (k + 4)
  have e5 := wk_succ P i (k + 5)
  have e6 := wk_succ P i (k + 6)
  have e7 := wk_succ P i (k + 7)
  simp only [← Nat.add_assoc] at e0 e1 e2 e3 e4 e5 e6 e7
  unfold by8
  simp only [Nat.pow_succ, Nat.pow_zero] at e1 e2 e3 e4 e5 e6 e7
  rw [e7, e6, e5, e4, e3, e2, e1, e0]
  generalize 2 ^ k = z
  simp only [Nat.mul_add, Nat.mul_assoc, Nat.mul_left_comm z 2, Nat.mul_left_comm z 4, Nat.mul_left_comm z 8, Nat.mul_left_comm z 16, Nat.mul_left_comm z 32, Nat.mul_left_comm z 64, Nat.mul_left_comm z 128]
  omega
theorem g8_all : ∀ b0 b1 b2 b3 b4 b5 b6 b7 : Fin 2, g8 (b0.val + 2 * b1.val + 4 * b2.val + 8 * b3.val + 16 * b4.val + 32 * b5.val + 64 * b6.val + 128 * b7.val) = b0.val + b1.val + b2.val + b3.val + b4.val + b5.val + b6.val + b7.val := by decide +kernel
theorem g8_by (P : Nat → Bool) (s : Nat) : g8 (by8 P s) = n8 P s := g8_all ⟨_, bz_le P s⟩ ⟨_, bz_le P (s + 1)⟩ ⟨_, bz_le P (s + 2)⟩ ⟨_, bz_le P (s + 3)⟩ ⟨_, bz_le P (s + 4)⟩ ⟨_, bz_le P (s + 5)⟩ ⟨_, bz_le P (s + 6)⟩ ⟨_, bz_le P (s + 7)⟩
theorem by_lt (P : Nat → Bool) (s : Nat) : by8 P s < 256 := by
  have h0 := bz_le P s
  have h1 := bz_le P (s + 1)
  have h2 := bz_le P (s + 2)
  have h3 := bz_le P (s + 3)
  have h4 := bz_le P (s + 4)
  have h5 := bz_le P (s + 5)
  have h6 := bz_le P (s + 6)
  have h7 := bz_le P (s + 7)
  unfold by8
  omega
theorem wd_bytes (P : Nat → Bool) (i : Nat) : wd P i = ofB [by8 P (64 * i), by8 P (64 * i + 8), by8 P (64 * i + 16), by8 P (64 * i + 24), by8 P (64 * i + 32), by8 P (64 * i + 40), by8 P (64 * i + 48), by8 P (64 * i + 56)] := by
  have e0 := wk8 P i 0
  have e1 := wk8 P i 8
  have e2 := wk8 P i 16
  have e3 := wk8 P i 24
  have e4 := wk8 P i 32
  have e5 := wk8 P i 40
  have e6 := wk8 P i 48
  have e7 := wk8 P i 56
  have ez : wk P i 0 = 0 := rfl
  simp only [Nat.reduceAdd, Nat.reducePow, Nat.zero_add, Nat.add_zero, Nat.one_mul] at e0 e1 e2 e3 e4 e5 e6 e7
  unfold wd
  simp only [ofB]
  omega
/-- How many from s on, k of them looked at. -/
def cntF (P : Nat → Bool) (s : Nat) : Nat → Nat
  | 0 => 0
  | k + 1 => cntF P s k + bz P (s + k)
theorem cntF8 (P : Nat → Bool) (s k : Nat) : cntF P s (k + 8) = cntF P s k + n8 P (s + k) := by
  have e : cntF P s (k + 8) = cntF P s k + bz P (s + k) + bz P (s + (k + 1)) + bz P (s + (k + 2)) + bz P (s + (k + 3)) + bz P (s + (k + 4)) + bz P (s + (k + 5)) + bz P (s + (k + 6)) + bz P (s + (k + 7)) := rfl
  rw [e]
  simp only [← Nat.add_assoc]
  unfold n8
  omega
theorem oc_wd (P : Nat → Bool) (i : Nat) : oc (wd P i) = ((cntF P (64 * i) 64 : Nat) : Int) := by
  rw [wd_bytes, oc_bytes _ _ _ _ _ _ _ _ (fun a ha => by
    simp only [List.mem_cons, List.mem_nil_iff, or_false] at ha
    rcases ha with h | h | h | h | h | h | h | h <;> (rw [h]; exact by_lt _ _))]
  simp only [g8_by]
  have e0 := cntF8 P (64 * i) 0
  have e1 := cntF8 P (64 * i) 8
  have e2 := cntF8 P (64 * i) 16
  have e3 := cntF8 P (64 * i) 24
  have e4 := cntF8 P (64 * i) 32
  have e5 := cntF8 P (64 * i) 40
  have e6 := cntF8 P (64 * i) 48
  have e7 := cntF8 P (64 * i) 56
  have ez : cntF P (64 * i) 0 = 0 := rfl
  simp only [Nat.reduceAdd, Nat.zero_add, Nat.add_zero] at e0 e1 e2 e3 e4 e5 e6 e7
  congr 1
  omega
theorem cntF_add (P : Nat → Bool) (s a : Nat) : ∀ b, cntF P s (a + b) = cntF P s a + cntF P (s + a) b := by
  intro b
  induction b with
  | zero => rfl
  | succ b ih =>
    rw [show a + (b + 1) = (a + b) + 1 from rfl]
    simp only [cntF]
    rw [ih, Nat.add_assoc s a b]
    omega
theorem elems_cntF (P : Nat → Bool) : ∀ N, (elems P N).length = cntF P 0 N := by
  intro N
  induction N with
  | zero => rfl
  | succ N ih =>
    simp only [elems, cntF, bz, Nat.zero_add]
    split
    · rw [List.length_append, ih]; rfl
    · rw [ih]; rfl
theorem rowSum_len (P : Nat → Bool) : ∀ m, rowSum P m = (((elems P (64 * m)).length : Nat) : Int) := by
  intro m
  induction m with
  | zero => rfl
  | succ m ih =>
    simp only [rowSum]
    rw [ih, oc_wd, elems_cntF, elems_cntF, show 64 * (m + 1) = 64 * m + 64 by omega, cntF_add, Nat.zero_add]
    omega
/-- How many pairs, up to row k. -/
def pairsN (n : Nat) (R : Nat → Nat → Bool) : Nat → Nat
  | 0 => 0
  | k + 1 => pairsN n R k + (elems (R k) n).length
/-- R is what the links L come to. -/
def IsR (L R : Nat → Nat → Bool) : Prop := ∀ c x, R c x = true ↔ Rch L c x
theorem isR_ex (L : Nat → Nat → Bool) : ∃ R, IsR L R := by
  classical
  exact ⟨fun c x => decide (Rch L c x), fun c x => by simp⟩
theorem IsR.lt {n : Nat} {L R : Nat → Nat → Bool} (h : IsR L R) (hz : ∀ k x, L k x = true → k < n ∧ x < n) {c x : Nat} (hr : R c x = true) : c < n ∧ x < n := Rch.lt hz ((h c x).1 hr)
theorem bool_iff {a b : Bool} (h : a = true ↔ b = true) : a = b := by cases a <;> cases b <;> simp_all
theorem elems_wide {P Q : Nat → Bool} {n N : Nat} (hn : n ≤ N) (h : ∀ x, x < n → P x = Q x) (hz : ∀ x, n ≤ x → P x = false) : elems P N = elems Q n := by
  rw [show N = n + (N - n) by omega, elems_skip P n (N - n) (fun b h1 _ => hz b h1)]
  exact elems_congr n h
theorem Gx.at_ {S : Nat → Prop} {w : World} {g n : Nat} {L R : Nat → Nat → Bool} (h : Gx S w g n L) (hr : IsR L R) : ∃ X, Ix S w g n X ∧ (∀ c, c < n → ∀ x, X (n + c) x = R c x) ∧ (∀ c x, R c x = true → c < n ∧ x < n) ∧ n ≤ 64 * wide n ∧ n ≤ 4096 := by
  obtain ⟨hz, X, hi, h1, h2⟩ := h
  have hw : n ≤ 64 * wide n ∧ n ≤ 4096 := by
    obtain ⟨gl, gi, cl, ci, V, hv, _⟩ := hi
    exact ⟨hv.wide1.2.2, hv.n4⟩
  exact ⟨X, hi, fun c hc x => bool_iff ((h2 c hc x).trans (hr c x).symm), fun c x hR => hr.lt hz hR, hw⟩
def inS (n : Nat) (R : Nat → Nat → Bool) (a b : Int) : Bool := okG n a && okG n b && R a.toNat b.toNat
def aboveS (n : Nat) (R : Nat → Nat → Bool) (a : Int) : List Int := if okG n a then elems (R a.toNat) n else []
def belowS (n : Nat) (R : Nat → Nat → Bool) (b : Int) : List Int := if okG n b then elems (fun a => R a b.toNat) n else []
/-- An index of n groups (none: 0) of the links L, all its blocks in S. -/
def PX (S : Nat → Prop) (w : World) (v : Value) (n : Nat) (L : Nat → Nat → Bool) : Prop := (n = 0 ∧ v = .pointer none) ∨ (1 ≤ n ∧ ∃ g, v = .pointer (some ⟨g, 0, none⟩) ∧ Gx S w g n L)
theorem okG_none (a : Int) : okG 0 a = false := decide_eq_false (by omega)
theorem PX.kept {S T : Nat → Prop} {w w' : World} {v : Value} {n : Nat} {L : Nat → Nat → Bool} (h : PX S w v n L) (hk : Kept w w' T) (hn : ∀ k, S k → ¬ T k) : PX S w' v n L := by
  rcases h with h | ⟨h0, g, rfl, h⟩
  · exact .inl h
  · exact .inr ⟨h0, g, rfl, h.kept hk hn⟩
theorem PX.below {S : Nat → Prop} {w w' : World} {v : Value} {n : Nat} {L : Nat → Nat → Bool} (h : PX S w v n L) (hb : Below w.heap.size w w') : PX S w' v n L := by
  rcases h with h | ⟨h0, g, rfl, h⟩
  · exact .inl h
  · exact .inr ⟨h0, g, rfl, h.below hb⟩
theorem PX.mono {S T : Nat → Prop} {w : World} {v : Value} {n : Nat} {L : Nat → Nat → Bool} (h : PX S w v n L) (hs : ∀ k, S k → T k) : PX T w v n L := by
  rcases h with h | ⟨h0, g, rfl, h⟩
  · exact .inl h
  · exact .inr ⟨h0, g, rfl, h.mono hs⟩
theorem PX.bound {S : Nat → Prop} {w : World} {v : Value} {n : Nat} {L : Nat → Nat → Bool} (h : PX S w v n L) : PX (fun k => S k ∧ k < w.heap.size) w v n L := by
  rcases h with h | ⟨h0, g, rfl, hz, X, ⟨gl, gi, cl, ci, V, hv, s1, s2, s3, s4⟩, h1, h2⟩
  · exact .inl h
  · exact .inr ⟨h0, g, rfl, hz, X, ⟨gl, gi, cl, ci, V, hv, ⟨s1, hv.lt_g⟩, ⟨s2, hv.lt_l⟩, ⟨s3, hv.lt_i⟩, fun k hk b hb => ⟨s4 k hk b hb, hv.lt_r hk b hb⟩⟩, h1, h2⟩
theorem pin_calls (S : Nat → Prop) (w : World) (v : Value) (n : Nat) (L R : Nat → Nat → Bool) (a b : Int) (h : PX S w v n L) (hr : IsR L R) :
    Calls Tryd.prog 12 #[v, .int .i64 a, .int .i64 b] w fun e w' => e = .returned (.bool (inS n R a b)) ∧ Below w.heap.size w w' := by
  rcases h with ⟨rfl, rfl⟩ | ⟨h0, g, rfl, h⟩
  · refine (in_nil w a b).mono ?_
    rintro e w' ⟨rfl, d⟩
    exact ⟨by unfold inS; rw [okG_none]; rfl, d.below⟩
  · obtain ⟨X, hi, h1, h2, hw⟩ := h.at_ hr
    refine (in_calls S w g n X a b hi).mono ?_
    rintro e w' ⟨rfl, d⟩
    refine ⟨?_, d.below⟩
    congr 2
    unfold inE inS
    by_cases ha : okG n a = true
    · obtain ⟨k, rfl, hk⟩ := okG_nat ha
      rw [Int.toNat_natCast, h1 k hk]
    · simp [ha]
theorem pabove_calls (S : Nat → Prop) (w : World) (v : Value) (n : Nat) (L R : Nat → Nat → Bool) (a : Int) (h : PX S w v n L) (hr : IsR L R) (hgl : GL w) :
    Calls Tryd.prog 14 #[v, .int .i64 a] w fun e w' => ∃ u, e = .returned u ∧ I64.R 3 w' w.heap.size (fun _ => True) u (aboveS n R a) ∧ Below w.heap.size w w' := by
  rcases h with ⟨rfl, rfl⟩ | ⟨h0, g, rfl, h⟩
  · refine (above_nil w a).mono ?_
    rintro e w' ⟨rfl, rfl⟩
    refine ⟨_, rfl, ?_, Below.refl _ _⟩
    unfold aboveS
    rw [okG_none]
    exact Kd.R_nil _ _ _ _ _
  · obtain ⟨X, hi, h1, h2, hw⟩ := h.at_ hr
    have e : aboveE n X a = aboveS n R a := by
      unfold aboveE aboveS
      by_cases ha : okG n a = true
      · rw [if_pos ha, if_pos ha]
        obtain ⟨k, rfl, hk⟩ := okG_nat ha
        rw [Int.toNat_natCast]
        refine elems_wide hw.1 (fun x _ => h1 k hk x) (fun x hx => ?_)
        rw [h1 k hk]
        cases hR : R k x with
        | false => rfl
        | true => have := (h2 k x hR).2; omega
      · rw [if_neg ha, if_neg ha]
    rw [← e]
    exact above_calls S w g n X a hi hgl
theorem pbelow_calls (S : Nat → Prop) (w : World) (v : Value) (n : Nat) (L R : Nat → Nat → Bool) (b : Int) (h : PX S w v n L) (hr : IsR L R) :
    Calls Tryd.prog 15 #[v, .int .i64 b] w fun e w' => ∃ u, e = .returned u ∧ I64.R 3 w' w.heap.size (fun _ => True) u (belowS n R b) ∧ Below w.heap.size w w' := by
  rcases h with ⟨rfl, rfl⟩ | ⟨h0, g, rfl, h⟩
  · refine (below_nil w b).mono ?_
    rintro e w' ⟨rfl, rfl⟩
    refine ⟨_, rfl, ?_, Below.refl _ _⟩
    unfold belowS
    rw [okG_none]
    exact Kd.R_nil _ _ _ _ _
  · obtain ⟨X, hi, h1, h2, hw⟩ := h.at_ hr
    have e : belowE n X b = belowS n R b := by
      unfold belowE belowS
      by_cases hb : okG n b = true
      · rw [if_pos hb, if_pos hb]
        exact elems_congr n (fun c hc => h1 c hc _)
      · rw [if_neg hb, if_neg hb]
    rw [← e]
    exact below_calls S w g n X b hi
theorem pairs_len {n : Nat} {X R : Nat → Nat → Bool} (h1 : ∀ c, c < n → ∀ x, X (n + c) x = R c x) (h2 : ∀ c x, R c x = true → c < n ∧ x < n) (hw : n ≤ 64 * wide n) : ∀ k, k ≤ n → pairsTo n X k = ((pairsN n R k : Nat) : Int) := by
  intro k
  induction k with
  | zero => intro _; rfl
  | succ k ih =>
    intro hk
    have e : elems (X (n + k)) (64 * wide n) = elems (R k) n := elems_wide hw (fun x _ => h1 k (by omega) x) (fun x hx => by
      rw [h1 k (by omega)]
      cases hR : R k x with
      | false => rfl
      | true => have := (h2 k x hR).2; omega)
    simp only [pairsTo, pairsN]
    rw [ih (by omega), rowSum_len, e]
    omega
theorem ppairs_calls (S : Nat → Prop) (w : World) (v : Value) (n : Nat) (L R : Nat → Nat → Bool) (h : PX S w v n L) (hr : IsR L R) :
    Calls Tryd.prog 13 #[v] w fun e w' => e = .returned (.int .i64 ((pairsN n R n : Nat) : Int)) ∧ Below w.heap.size w w' := by
  rcases h with ⟨rfl, rfl⟩ | ⟨h0, g, rfl, h⟩
  · refine (pairs_nil w).mono ?_
    rintro e w' ⟨rfl, rfl⟩
    exact ⟨rfl, Below.refl _ _⟩
  · obtain ⟨X, hi, h1, h2, hw⟩ := h.at_ hr
    refine (pairs_calls S w g n X hi).mono ?_
    rintro e w' ⟨rfl, d⟩
    exact ⟨by rw [pairs_len h1 h2 hw.1 n (Nat.le_refl _)], d.below⟩
/-- What Add and Cut answer, and leave. -/
def addA (n : Nat) (L : Nat → Nat → Bool) (a b : Int) : Int := if n = 0 then 1 else if okG n a && okG n b then (if L a.toNat b.toNat then 120 else 0) else 2
def addT (n : Nat) (L : Nat → Nat → Bool) (a b : Int) : Nat → Nat → Bool := if (okG n a && okG n b && !(L a.toNat b.toNat)) = true then addL L a.toNat b.toNat else L
def cutA (n : Nat) (L : Nat → Nat → Bool) (a b : Int) : Int := if n = 0 then 1 else if okG n a && okG n b then (if L a.toNat b.toNat then 0 else 121) else 2
def cutT (n : Nat) (L : Nat → Nat → Bool) (a b : Int) : Nat → Nat → Bool := if (okG n a && okG n b && L a.toNat b.toNat) = true then cutL L a.toNat b.toNat else L
def More (S : Nat → Prop) (w : World) : Nat → Prop := fun k => S k ∨ w.heap.size ≤ k
theorem padd_calls (S : Nat → Prop) (w : World) (v : Value) (n : Nat) (L : Nat → Nat → Bool) (a b : Int) (h : PX S w v n L) :
    Calls Tryd.prog 10 #[v, .int .i64 a, .int .i64 b] w fun e w' => e = .returned (.int .i64 (addA n L a b)) ∧ PX (More S w) w' v n (addT n L a b) ∧ Fr w w' S := by
  rcases h with ⟨rfl, rfl⟩ | ⟨h0, g, rfl, h⟩
  · refine (add_nil w a b).mono ?_
    rintro e w' ⟨rfl, rfl⟩
    exact ⟨rfl, .inl ⟨rfl, rfl⟩, Fr.refl _ _⟩
  · by_cases hab : (okG n a && okG n b) = true
    · have hab' := hab
      rw [Bool.and_eq_true] at hab'
      obtain ⟨i, rfl, hi⟩ := okG_nat hab'.1
      obtain ⟨j, rfl, hj⟩ := okG_nat hab'.2
      by_cases hL : L i j = true
      · have eT : addT n L (i : Int) (j : Int) = L := by unfold addT; rw [hab, Int.toNat_natCast, Int.toNat_natCast, hL]; rfl
        have eA : addA n L (i : Int) (j : Int) = 120 := by unfold addA; rw [if_neg (by omega), if_pos hab, Int.toNat_natCast, Int.toNat_natCast, if_pos hL]
        rw [eT, eA]
        have hg := h
        obtain ⟨hz, X, hx, h1, h2⟩ := h
        refine (add_there S w g n i j X hx hi hj (by rw [h1 i hi]; exact hL)).mono ?_
        rintro e w' ⟨rfl, d⟩
        exact ⟨rfl, .inr ⟨h0, g, rfl, (hg.below d.below).mono (fun _ hk => .inl hk)⟩, Fr.of_below d.below S⟩
      · have hL' : L i j = false := by simpa using hL
        have eT : addT n L (i : Int) (j : Int) = addL L i j := by unfold addT; rw [hab, Int.toNat_natCast, Int.toNat_natCast, hL']; rfl
        have eA : addA n L (i : Int) (j : Int) = 0 := by unfold addA; rw [if_neg (by omega), if_pos hab, Int.toNat_natCast, Int.toNat_natCast, if_neg hL]
        rw [eT, eA]
        refine (gadd_calls S w g n i j L h hi hj hL').mono ?_
        rintro e w' ⟨rfl, hg, hf⟩
        exact ⟨rfl, .inr ⟨h0, g, rfl, hg.mono (fun _ hk => .inl hk)⟩, hf⟩
    · have hab' : (okG n a && okG n b) = false := by simpa using hab
      have eT : addT n L a b = L := by unfold addT; rw [hab']; rfl
      have eA : addA n L a b = 2 := by unfold addA; rw [if_neg (by omega), if_neg hab]
      rw [eT, eA]
      have hg := h
      obtain ⟨hz, X, hx, h1, h2⟩ := h
      refine (add_bad S w g n X a b hx hab').mono ?_
      rintro e w' ⟨rfl, rfl⟩
      exact ⟨rfl, .inr ⟨h0, g, rfl, hg.mono (fun _ hk => .inl hk)⟩, Fr.refl _ _⟩
theorem pcut_calls (S : Nat → Prop) (w : World) (v : Value) (n : Nat) (L : Nat → Nat → Bool) (a b : Int) (h : PX S w v n L) (hgl : GL w) (hS0 : ¬ S 0) :
    Calls Tryd.prog 11 #[v, .int .i64 a, .int .i64 b] w fun e w' => e = .returned (.int .i64 (cutA n L a b)) ∧ PX (More S w) w' v n (cutT n L a b) ∧ Fr w w' S := by
  rcases h with ⟨rfl, rfl⟩ | ⟨h0, g, rfl, h⟩
  · refine (cut_nil w a b).mono ?_
    rintro e w' ⟨rfl, rfl⟩
    exact ⟨rfl, .inl ⟨rfl, rfl⟩, Fr.refl _ _⟩
  · by_cases hab : (okG n a && okG n b) = true
    · have hab' := hab
      rw [Bool.and_eq_true] at hab'
      obtain ⟨i, rfl, hi⟩ := okG_nat hab'.1
      obtain ⟨j, rfl, hj⟩ := okG_nat hab'.2
      by_cases hL : L i j = true
      · have eT : cutT n L (i : Int) (j : Int) = cutL L i j := by unfold cutT; rw [hab, Int.toNat_natCast, Int.toNat_natCast, hL]; rfl
        have eA : cutA n L (i : Int) (j : Int) = 0 := by unfold cutA; rw [if_neg (by omega), if_pos hab, Int.toNat_natCast, Int.toNat_natCast, if_pos hL]
        rw [eT, eA]
        refine (gcut_calls S w g n i j L h hi hj hL hgl hS0).mono ?_
        rintro e w' ⟨rfl, hg, hf⟩
        exact ⟨rfl, .inr ⟨h0, g, rfl, hg⟩, hf⟩
      · have hL' : L i j = false := by simpa using hL
        have eT : cutT n L (i : Int) (j : Int) = L := by unfold cutT; rw [hab, Int.toNat_natCast, Int.toNat_natCast, hL']; rfl
        have eA : cutA n L (i : Int) (j : Int) = 121 := by unfold cutA; rw [if_neg (by omega), if_pos hab, Int.toNat_natCast, Int.toNat_natCast, if_neg hL]
        rw [eT, eA]
        have hg := h
        obtain ⟨hz, X, hx, h1, h2⟩ := h
        refine (cut_absent S w g n i j X hx hi hj (by rw [h1 i hi]; exact hL')).mono ?_
        rintro e w' ⟨rfl, d⟩
        exact ⟨rfl, .inr ⟨h0, g, rfl, (hg.below d.below).mono (fun _ hk => .inl hk)⟩, Fr.of_below d.below S⟩
    · have hab' : (okG n a && okG n b) = false := by simpa using hab
      have eT : cutT n L a b = L := by unfold cutT; rw [hab']; rfl
      have eA : cutA n L a b = 2 := by unfold cutA; rw [if_neg (by omega), if_neg hab]
      rw [eT, eA]
      have hg := h
      obtain ⟨hz, X, hx, h1, h2⟩ := h
      refine (cut_bad S w g n X a b hx hab').mono ?_
      rintro e w' ⟨rfl, rfl⟩
      exact ⟨rfl, .inr ⟨h0, g, rfl, hg.mono (fun _ hk => .inl hk)⟩, Fr.refl _ _⟩
/-- New, of any number. -/
def most (a : Int) : Nat := if 1 ≤ a ∧ a ≤ 4096 then a.toNat else 0
theorem pnew_calls (w : World) (a : Int) :
    Calls Tryd.prog 9 #[.int .i64 a] w fun e w' => ∃ v, e = .returned (.tuple #[v, .int .i64 (if most a = 0 then 2 else 0)]) ∧ PX (fun k => w.heap.size ≤ k) w' v (most a) (fun _ _ => false) ∧ Below w.heap.size w w' := by
  by_cases h : 1 ≤ a ∧ a ≤ 4096
  · obtain ⟨n, rfl⟩ : ∃ n : Nat, a = (n : Int) := ⟨a.toNat, by omega⟩
    have em : most (n : Int) = n := by unfold most; rw [if_pos h, Int.toNat_natCast]
    rw [em, if_neg (by omega)]
    refine (new_calls w n (by omega) (by omega)).mono ?_
    rintro e w' ⟨g, rfl, hi, hb⟩
    exact ⟨_, rfl, .inr ⟨by omega, g, rfl, Gx.start hi⟩, hb⟩
  · have em : most a = 0 := by unfold most; rw [if_neg h]
    rw [em, if_pos rfl]
    refine (new_bad w a (by omega)).mono ?_
    rintro e w' ⟨rfl, d⟩
    exact ⟨_, rfl, .inl ⟨rfl, rfl⟩, d.below⟩
end Go.Proofs.YtmldefednihohaaDoor.Grp
