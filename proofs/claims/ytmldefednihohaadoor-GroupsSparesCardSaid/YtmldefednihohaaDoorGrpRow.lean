/- The rows of words: has, add, join (plain walks). -/
import Derived.Test.YtmldefednihohaaDoorGrpBase
import Derived.Test.YtmldefednihohaaDoorGrpBits
namespace Go.Proofs.YtmldefednihohaaDoor.Grp
open Go.RowKit Go.Proofs.YtmldefednihohaaDoorW.PrintWords Go.Proofs.YtmldefednihohaaDoorW.PrintLast Go.Proofs.YtmldefednihohaaDoorW.PrintMore
set_option linter.unusedVariables false
set_option linter.unusedSimpArgs false
set_option maxRecDepth 100000
abbrev U64 : Kd Int := Kd.int .u64
theorem info64 : (Tryd.prog.info? 67).map (fun i => (i.zero, i.size, i.bytes)) = some (some (.int .u64 0), 1, 8) := by kernel_rfl
/-- A row of m words at v: the set P. -/
def RowAt (w : World) (v : Value) (m : Nat) (P : Nat → Bool) : Prop := U64.R 67 w 0 (fun _ => True) v (rowL P m)
theorem RowAt.congr {w : World} {v : Value} {m : Nat} {P Q : Nat → Bool} (h : RowAt w v m P) (he : ∀ b, b < 64 * m → P b = Q b) : RowAt w v m Q := by
  unfold RowAt
  rw [← rowL_congr he]
  exact h
theorem RowAt.other {w w' : World} {S : Nat → Prop} {v : Value} {m : Nat} {P : Nat → Bool} (h : RowAt w v m P) (hk : Kept w w' S) (hn : ∀ b, v.ownBlock = some b → ¬ S b) : RowAt w' v m P := Grp.other h hk hn
theorem RowAt.below {w w' : World} {v : Value} {m : Nat} {P : Nat → Bool} (h : RowAt w v m P) (hb : Below w.heap.size w w') : RowAt w' v m P := Kd.R_below h hb
theorem RowAt.form {w : World} {v : Value} {m : Nat} {P : Nat → Bool} (h : RowAt w v m P) (hm : 0 < m) : ∃ g c, v = .slice (some ⟨g, 0, none⟩) m c := by
  rcases (Kd.own_of_R h).2 with ⟨_, h0⟩ | ⟨b, cap, cur, hv, _⟩
  · rw [rowL_len] at h0; omega
  · rw [rowL_len] at hv
    exact ⟨b, cap, hv⟩
theorem RowAt.cell {w : World} {g c m i : Nat} {P : Nat → Bool} (h : RowAt w (.slice (some ⟨g, 0, none⟩) m c) m P) (hi : i < m) : w.cell? ⟨g, i, none⟩ = some (.int .u64 ((wd P i : Nat) : Int)) ∧ w.frozen? ⟨g, i, none⟩ = false := by
  have h' := h
  unfold RowAt at h'
  rw [show (Value.slice (some ⟨g, 0, none⟩) m c) = .slice (some ⟨g, 0, none⟩) (rowL P m).length c by rw [rowL_len]] at h'
  have := Kd.R_cell (0 : Int) h' (i : Int) (by omega) (by rw [rowL_len]; omega)
  have e : rdOf (0 : Int) (rowL P m) (i : Int) = ((wd P i : Nat) : Int) := rowL_get P hi
  rw [e] at this
  simpa using this
theorem RowAt.reads {w : World} {A : Option Addr} {n c m : Nat} {P : Nat → Bool} (h : RowAt w (.slice A n c) m P) : n = m ∧ m ≤ c ∧ U64.C w A (rowL P m).length (rowL P m) := by
  obtain ⟨h1, h2, h3⟩ := Kd.R_reads' h
  rw [rowL_len] at h1
  exact ⟨h1, by omega, h3⟩
/-- A word is laid. -/
theorem RowAt.put {w : World} {g c m i x : Nat} {P : Nat → Bool} (h : RowAt w (.slice (some ⟨g, 0, none⟩) m c) m P) (hi : i < m) (hx : x < 18446744073709551616) : RowAt (w.setCell ⟨g, i, none⟩ (.int .u64 (x : Int))) (.slice (some ⟨g, 0, none⟩) m c) m (fun b => if b / 64 = i then x.testBit (b % 64) else P b) := by
  unfold RowAt
  rw [← rowL_set P hi hx]
  exact (Kd.R_putg h (i : Int) (x : Int)).1
theorem has_calls (w : World) (A : Option Addr) (c m b : Nat) (P : Nat → Bool) (h : RowAt w (.slice A m c) m P) (hb : b < 64 * m) (hm : m ≤ 1000) :
    Calls Tryd.prog 30 #[.slice A m c, .int .i64 (b : Int)] w fun e w' => e = .returned (.bool (P b)) ∧ Drawn0 w w' := by
  obtain ⟨_, h2, h3⟩ := h.reads
  have := GrpRow.groups_row_has.calls A c (rowL P m) (b : Int) (P b) w h3 (by rw [rowL_len]; exact h2) (has_f P m b hb hm)
  rwa [rowL_len] at this
theorem or_pow (x b : Nat) (hx : x < 18446744073709551616) (hb : b < 64) : x ||| 2 ^ b < 18446744073709551616 := Nat.or_lt_two_pow (n := 64) hx (Nat.pow_lt_pow_right (by omega) hb)
set_option maxHeartbeats 2000000 in
theorem add_calls (w : World) (g c m b : Nat) (P : Nat → Bool) (h : RowAt w (.slice (some ⟨g, 0, none⟩) m c) m P) (hb : b < 64 * m) (hm : m ≤ 1000) :
    Calls Tryd.prog 31 #[.slice (some ⟨g, 0, none⟩) m c, .int .i64 (b : Int)] w fun e w' => e = .returned (.tuple #[]) ∧ RowAt w' (.slice (some ⟨g, 0, none⟩) m c) m (fun x => P x || x == b) ∧ Fr w w' (fun k => k = g) := by
  obtain ⟨hc, hf⟩ := h.cell (i := b / 64) (by omega)
  have hd : (b : Int) / 64 = ((b / 64 : Nat) : Int) := by omega
  have hd0 : (0 : Int) ≤ (b : Int) / 64 := by omega
  have hdm : (b : Int) / 64 < (m : Int) := by omega
  have hdn : ((b : Int) / 64).toNat = b / 64 := by omega
  have ha := and63 b (by omega)
  have hx := wd_lt P (b / 64)
  generalize hz : wd P (b / 64) = z at hc hx
  obtain ⟨q, hq⟩ : ∃ q, q = b % 64 := ⟨_, rfl⟩
  rw [← hq] at ha
  have hq0 : (0 : Int) ≤ (q : Int) := by omega
  have hq4 : (q : Int) ≤ 64 := by omega
  obtain ⟨y, hy⟩ : ∃ y, y = 2 ^ q := ⟨_, rfl⟩
  have hylt : y < 18446744073709551616 := by rw [hy]; exact Nat.pow_lt_pow_right (n := 64) (by omega) (by omega)
  have hsh : IntKind.u64.wrap (2 ^ q) = (y : Int) := by
    have e : (2 : Int) ^ q = ((y : Nat) : Int) := by rw [hy, Int.natCast_pow]; rfl
    have e2 : ∀ n : Int, IntKind.u64.wrap n = n % 18446744073709551616 := fun n => by simp [IntKind.wrap, IntKind.bits, IntKind.signed]
    rw [e, e2]
    omega
  have hsh1 : IntKind.u64.wrap (1 * 2 ^ q) = (y : Int) := by rw [Int.one_mul]; exact hsh
  obtain ⟨x, hxx⟩ : ∃ x, x = z ||| y := ⟨_, rfl⟩
  have hor : Go.bits .or .u64 (z : Int) (y : Int) = (x : Int) := by rw [hxx]; exact u64_or_nat z y hx hylt
  have hP : Aside0 (∀ w : World, RowAt w (.slice (some ⟨g, 0, none⟩) m c) m P → RowAt (w.setCell ⟨g, b / 64, none⟩ (.int .u64 (x : Int))) (.slice (some ⟨g, 0, none⟩) m c) m (fun x => P x || x == b)) := ⟨fun w h => by
    refine (h.put (by omega) (by rw [hxx, hy]; exact or_pow z q hx (by omega))).congr (fun i hi => ?_)
    by_cases e : i / 64 = b / 64
    · have hb1 : (x.testBit (i % 64)) = (P i || i == b) := by
        rw [hxx, hy, Nat.testBit_or, ← hz, wd_bit, decide_eq_true (by omega : i % 64 < 64), Bool.true_and, Nat.testBit_two_pow]
        have e1 : 64 * (b / 64) + i % 64 = i := by omega
        rw [e1]
        congr 1
        rw [hq]
        by_cases e2 : i = b
        · subst e2; simp
        · have : ¬ b % 64 = i % 64 := by omega
          simp [e2, this]
      simp only [e, if_true]
      exact hb1
    · have e2 : ¬ i = b := fun h => e (by rw [h])
      simp [e, e2]⟩
  have H := Aside0.mk h
  generalize hi6 : b / 64 = i6 at hc hf hd hdn hP
  clear h hb hz hq hy hylt hxx hx hi6
  go_enter Tryd.func31, Tryd.ntmps31
  go_wp2
  go_region_with (fail)
  all_goals (go_wp2_with fail)
  all_goals ((try simp only [Exit.inBlock, Exit.then]); refine ⟨rfl, _, res0 rfl _ _ _, ?_⟩; exact ⟨rfl, (hP.out _ H.out).below (dr_below _), (Fr.set i6 _).then_ (Fr.of_below (dr_below _) (fun _ => False)) (fun _ h => h.elim)⟩)
/-- All of another row, put into this one, from word 0 to word j. -/
def joined (P Q : Nat → Bool) (j : Nat) (b : Nat) : Bool := P b || (decide (b / 64 < j) && Q b)
set_option maxHeartbeats 2000000 in
theorem join_calls (w : World) (g c m : Nat) (A : Option Addr) (c1 : Nat) (P Q : Nat → Bool) (h : RowAt w (.slice (some ⟨g, 0, none⟩) m c) m P) (g1 : Nat) (hA : A = some ⟨g1, 0, none⟩) (h1 : RowAt w (.slice A m c1) m Q) (hne : g1 ≠ g) (hm : m ≤ 1000) :
    Calls Tryd.prog 32 #[.slice (some ⟨g, 0, none⟩) m c, .slice A m c1] w fun e w' => e = .returned (.tuple #[]) ∧ RowAt w' (.slice (some ⟨g, 0, none⟩) m c) m (fun x => P x || Q x) ∧ Fr w w' (fun k => k = g) := by
  subst hA
  have H0 : Aside0 (RowAt w (.slice (some ⟨g, 0, none⟩) m c) m (joined P Q 0) ∧ Fr w w (fun k => k = g)) := ⟨h.congr (fun b _ => by simp [joined]), Fr.refl _ _⟩
  have H1 := Aside0.mk h1
  have HM := Aside0.mk hm
  clear h h1 hm
  go_enter Tryd.func32, Tryd.ntmps32
  go_wp2
  go_loopg [7] (m + 1) (fun kq v7 w' => ∃ j : Nat, v7 = .int .i64 (j : Int) ∧ Aside0 (kq + j = m + 1) ∧ Aside0 (j ≤ m) ∧ Aside0 (RowAt w' (.slice (some ⟨g, 0, none⟩) m c) m (joined P Q j) ∧ Fr w w' (fun k => k = g)))
  case atStart => exact ⟨0, rfl, ⟨rfl⟩, ⟨Nat.zero_le _⟩, H0⟩
  case round =>
    obtain ⟨j, rfl, HK, HJ, HR⟩ := hrel
    cases gk with
    | zero => exact absurd HK.out (by have := HJ.out; omega)
    | succ k1 =>
      by_cases hlt : j < m
      · have hji : (0 : Int) ≤ (j : Int) := by omega
        have hjm : (j : Int) < (m : Int) := by omega
        obtain ⟨hc, hf⟩ := HR.out.1.cell hlt
        have hc1 := ((H1.out.other HR.out.2.2 (fun b hb e => hne (by simp [Value.ownBlock] at hb; omega))).cell hlt).1
        have hx := wd_lt (joined P Q j) j
        have hy := wd_lt Q j
        generalize hz : wd (joined P Q j) j = z at hc hx
        generalize hzy : wd Q j = y at hc1 hy
        obtain ⟨x, hxx⟩ : ∃ x, x = z ||| y := ⟨_, rfl⟩
        have hor : Go.bits .or .u64 (z : Int) (y : Int) = (x : Int) := by rw [hxx]; exact u64_or_nat z y hx hy
        have HW3 : Aside0 (wrap64 ((j : Int) + 1) = ((j + 1 : Nat) : Int)) := ⟨wrap_up j m (by omega) (by have := HM.out; omega)⟩
        have hP : Aside0 (∀ w : World, RowAt w (.slice (some ⟨g, 0, none⟩) m c) m (joined P Q j) → RowAt (w.setCell ⟨g, j, none⟩ (.int .u64 (x : Int))) (.slice (some ⟨g, 0, none⟩) m c) m (joined P Q (j + 1))) := ⟨fun w h => by
          refine (h.put hlt (by rw [hxx]; exact Nat.or_lt_two_pow (n := 64) hx hy)).congr (fun i hi => ?_)
          by_cases e : i / 64 = j
          · have e1 : 64 * j + i % 64 = i := by omega
            simp only [e, if_true]
            rw [hxx, Nat.testBit_or, ← hz, ← hzy, wd_bit, wd_bit, decide_eq_true (by omega : i % 64 < 64), Bool.true_and, Bool.true_and, e1]
            simp [joined, e]
          · have e2 : (i / 64 < j + 1) = (i / 64 < j) := by apply propext; omega
            simp [e, joined, e2]⟩
        clear hz hzy hxx hx hy
        go_wp2
        go_region_with (fail)
        all_goals (go_wp2_with fail)
        all_goals (go_roundg k1; (case measure => omega); (case rel => exact ⟨j + 1, by first | rfl | (rw [← HW3.out]) | (congr 1; omega), ⟨by have := HK.out; omega⟩, ⟨by omega⟩, ⟨(hP.out _ HR.out.1).below (dr_below _), (HR.out.2.then_ (Fr.set j _) (fun k hk => .inl hk)).then_ (Fr.of_below (dr_below _) (fun _ => False)) (fun _ h => h.elim)⟩⟩))
      · have hjn : j = m := by have := HJ.out; omega
        subst hjn
        have hd : decide ((j : Int) < (j : Int)) = false := decide_eq_false (by omega)
        go_wp2
        (try simp only [Exit.inBlock, Exit.then])
        refine ⟨rfl, _, res0 rfl _ _ _, ?_⟩
        exact ⟨rfl, HR.out.1.congr (fun b hb => by have : b / 64 < j := by omega
                                                   simp [joined, this]), HR.out.2⟩
end Go.Proofs.YtmldefednihohaaDoor.Grp
