/- Library comparisons: cmp.Compare, strings.Compare (plain walks). -/
import Derived.Test.YtgkocbbpkiechaaReals
import Derived.Lib.Bytealg
namespace Go.Proofs.Ytgkocbbpkiechaa.Val
open Go.RowKit Go.Proofs.YtgkocbbpkiechaaW.PrintWords Go.Proofs.YtgkocbbpkiechaaW.PrintLast Go.Proofs.YtgkocbbpkiechaaW.PrintMore Go.Proofs.Ytgkocbbpkiechaa.Flt
set_option linter.unusedVariables false
set_option linter.unusedSimpArgs false
set_option maxRecDepth 100000
theorem wrap_up (i n : Nat) (h : i < n) (hn : n ≤ 9223372036854775807) : wrap64 ((i : Int) + 1) = ((i + 1 : Nat) : Int) := by unfold wrap64; omega
theorem isNaNI_calls (a : Int) (w : World) : Calls Try.prog 57 #[.int .i64 a] w fun e w' => e = .returned (.bool false) ∧ w' = w := by
  go_enter Try.func57, Try.ntmps57
  go_wp2
  go_ret
  exact ⟨by first | rfl | (simp; done), rfl⟩
theorem isNaNR_calls (a : Nat) (w : World) : Calls Try.prog 58 #[.float .f32 a] w fun e w' => e = .returned (.bool (nanB a)) ∧ w' = w := by
  have s1 := f_self a
  go_enter Try.func58, Try.ntmps58
  go_wp2
  go_ret
  exact ⟨by rw [← s1]; rfl, rfl⟩
theorem isNaNS_calls (a : ByteArray) (w : World) : Calls Try.prog 96 #[.string a] w fun e w' => e = .returned (.bool false) ∧ w' = w := by
  go_enter Try.func96, Try.ntmps96
  go_wp2
  go_ret
  exact ⟨by first | rfl | (simp; done), rfl⟩
theorem cmpInt_calls (a b : Int) (w : World) : Calls Try.prog 27 #[.int .i64 a, .int .i64 b] w fun e w' => e = .returned (.int .i64 (cmpI a b)) ∧ w' = w := by
  rcases Int.lt_trichotomy a b with h | h | h
  · have hc := cmpI_lt h
    have hd : decide (a < b) = true := decide_eq_true h
    go_enter Try.func27, Try.ntmps27
    go_wp2_with (first
      | (go_at_call 57; (refine (isNaNI_calls _ _).mono ?_; rintro e1 w1 ⟨rfl, hw⟩; subst hw)))
    go_ret
    exact ⟨by first | (rw [hc]; done) | (rw [hc]; rfl), rfl⟩
  · have hc := cmpI_eq h
    subst h
    have hd : decide (a < a) = false := decide_eq_false (by omega)
    go_enter Try.func27, Try.ntmps27
    go_wp2_with (first
      | (go_at_call 57; (refine (isNaNI_calls _ _).mono ?_; rintro e1 w1 ⟨rfl, hw⟩; subst hw)))
    go_ret
    exact ⟨by first | (rw [hc]; done) | (rw [hc]; rfl), rfl⟩
  · have hc := cmpI_gt h
    have hd : decide (a < b) = false := decide_eq_false (by omega)
    have hd2 : decide (a > b) = true := decide_eq_true h
    have hd3 : decide (b < a) = true := decide_eq_true h
    go_enter Try.func27, Try.ntmps27
    go_wp2_with (first
      | (go_at_call 57; (refine (isNaNI_calls _ _).mono ?_; rintro e1 w1 ⟨rfl, hw⟩; subst hw)))
    go_ret
    exact ⟨by first | (rw [hc]; done) | (rw [hc]; rfl), rfl⟩
theorem cmpReal_calls (a b : Nat) (w : World) (ha : nanB a = false) (hb : nanB b = false) : Calls Try.prog 28 #[.float .f32 a, .float .f32 b] w fun e w' => e = .returned (.int .i64 (cmpI (V a) (V b))) ∧ w' = w := by
  have s1 := f_self a
  have s2 := f_self b
  rw [ha] at s1
  rw [hb] at s2
  have g1 := f_lt ha hb
  have g2 := f_gt ha hb
  rcases Int.lt_trichotomy (V a) (V b) with h | h | h
  · have hc := cmpI_lt h
    rw [decide_eq_true h] at g1
    go_enter Try.func28, Try.ntmps28
    go_wp2_with (first
      | (go_at_call 58; ((with_reducible refine (isNaNR_calls a _).mono ?_); rintro e1 w1 ⟨rfl, hw⟩; subst hw; rw [ha]))
      | (go_at_call 58; ((with_reducible refine (isNaNR_calls b _).mono ?_); rintro e1 w1 ⟨rfl, hw⟩; subst hw; rw [hb])))
    go_ret
    exact ⟨by first | (rw [hc]; done) | (rw [hc]; rfl), rfl⟩
  · have hc := cmpI_eq h
    rw [decide_eq_false (by omega)] at g1 g2
    go_enter Try.func28, Try.ntmps28
    go_wp2_with (first
      | (go_at_call 58; ((with_reducible refine (isNaNR_calls a _).mono ?_); rintro e1 w1 ⟨rfl, hw⟩; subst hw; rw [ha]))
      | (go_at_call 58; ((with_reducible refine (isNaNR_calls b _).mono ?_); rintro e1 w1 ⟨rfl, hw⟩; subst hw; rw [hb])))
    go_ret
    exact ⟨by first | (rw [hc]; done) | (rw [hc]; rfl), rfl⟩
  · have hc := cmpI_gt h
    rw [decide_eq_false (by omega)] at g1
    rw [decide_eq_true h] at g2
    go_enter Try.func28, Try.ntmps28
    go_wp2_with (first
      | (go_at_call 58; ((with_reducible refine (isNaNR_calls a _).mono ?_); rintro e1 w1 ⟨rfl, hw⟩; subst hw; rw [ha]))
      | (go_at_call 58; ((with_reducible refine (isNaNR_calls b _).mono ?_); rintro e1 w1 ⟨rfl, hw⟩; subst hw; rw [hb])))
    go_ret
    exact ⟨by first | (rw [hc]; done) | (rw [hc]; rfl), rfl⟩
theorem cmpstring_call (a b : ByteArray) (w : World) : (callFunc 95 #[.string a, .string b]).run Try.prog w = .ok (.value (.int .i64 (Go.Lib.compareBytes a.data.toList b.data.toList))) w :=
  (run_callFunc_extern (e := Extern.BytealgCompare.compare) Try.func95 (by kernel_rfl) (by kernel_rfl) (by kernel_rfl) (by kernel_rfl) _ _).trans (by rw [Go.Lib.run_compareString]; rfl)
theorem cmpText_calls (a b : ByteArray) (w : World) : Calls Try.prog 29 #[.string a, .string b] w fun e w' => e = .returned (.int .i64 (cmpB a b)) ∧ w' = w := by
  have hc := cmpstring_call a b
  go_enter Try.func29, Try.ntmps29
  go_wp2
  go_ret
  exact ⟨rfl, rfl⟩
theorem cmpStr_calls (a b : ByteArray) (w : World) : Calls Try.prog 60 #[.string a, .string b] w fun e w' => e = .returned (.int .i64 (cmpB a b)) ∧ w' = w := by
  have h1 := less_B a b
  have h2 := same_B a b
  have lo := ord_B.lo a b
  have hi := ord_B.hi a b
  rcases Int.lt_trichotomy (cmpB a b) 0 with h | h | h
  · have hc : cmpB a b = -1 := by omega
    rw [decide_eq_true h] at h1
    clear h2 lo hi h
    go_enter Try.func60, Try.ntmps60
    go_wp2_with (go_at_call 96; (refine (isNaNS_calls _ _).mono ?_; rintro e1 w1 ⟨rfl, hw⟩; subst hw))
    go_ret
    exact ⟨by first | (rw [hc]; done) | (rw [hc]; rfl), rfl⟩
  · rw [decide_eq_false (by omega)] at h1
    rw [decide_eq_true (cmpB_zero h)] at h2
    clear lo hi
    go_enter Try.func60, Try.ntmps60
    go_wp2_with (go_at_call 96; (refine (isNaNS_calls _ _).mono ?_; rintro e1 w1 ⟨rfl, hw⟩; subst hw))
    go_ret
    exact ⟨by first | (rw [h]; done) | (rw [h]; rfl), rfl⟩
  · have hc : cmpB a b = 1 := by omega
    rw [decide_eq_false (by omega)] at h1
    rw [decide_eq_false (fun e => by rw [e, ord_B.refl] at h; omega)] at h2
    clear lo hi h
    go_enter Try.func60, Try.ntmps60
    go_wp2_with (go_at_call 96; (refine (isNaNS_calls _ _).mono ?_; rintro e1 w1 ⟨rfl, hw⟩; subst hw))
    go_ret
    exact ⟨by first | (rw [hc]; done) | (rw [hc]; rfl), rfl⟩
/-- n texts in memory. -/
def TxAt (w : World) (A : Option Addr) (n : Nat) (G : Nat → ByteArray) : Prop := ∀ i, i < n → ∃ ad, A = some ad ∧ w.cell? (ad.add i) = some (.string (G i))
theorem TxAt.below {w w' : World} {A : Option Addr} {n : Nat} {G : Nat → ByteArray} (h : TxAt w A n G) (hb : Below w.heap.size w w') : TxAt w' A n G := fun i hi => by
  obtain ⟨ad, hA, hc⟩ := h i hi
  exact ⟨ad, hA, pw_cell_below hb hc⟩
def lst (n : Nat) (G : Nat → ByteArray) : List ByteArray := (List.range n).map G
theorem lst_len (n : Nat) (G : Nat → ByteArray) : (lst n G).length = n := by simp [lst]
theorem lst_drop {n i : Nat} (G : Nat → ByteArray) (h : i < n) : (lst n G).drop i = G i :: (lst n G).drop (i + 1) := by
  rw [List.drop_eq_getElem_cons (by rw [lst_len]; exact h)]
  congr 1
  simp [lst]
theorem lst_end {n i : Nat} (G : Nat → ByteArray) (h : n ≤ i) : (lst n G).drop i = [] := List.drop_eq_nil_of_le (by rw [lst_len]; exact h)
/-- Two lists of texts. -/
def cmpL (n1 : Nat) (G1 : Nat → ByteArray) (n2 : Nat) (G2 : Nat → ByteArray) : Int := lexC cmpB (lst n1 G1) (lst n2 G2)
theorem cmpL_drop {n1 n2 i : Nat} {G1 G2 : Nat → ByteArray} (h1 : i ≤ n1) (h2 : i ≤ n2) (he : ∀ j, j < i → cmpB (G1 j) (G2 j) = 0) : cmpL n1 G1 n2 G2 = lexC cmpB ((lst n1 G1).drop i) ((lst n2 G2).drop i) := by
  refine lex_drop cmpB i _ _ (by rw [lst_len]; exact h1) (by rw [lst_len]; exact h2) (fun j g1 g2 hj => ?_)
  have := he j hj
  simpa [lst] using this
theorem slCompare_calls (w : World) (A1 A2 : Option Addr) (n1 n2 c1 c2 : Nat) (G1 G2 : Nat → ByteArray) (h1 : TxAt w A1 n1 G1) (h2 : TxAt w A2 n2 G2) (hn : n1 ≤ 9223372036854775807) :
    Calls Try.prog 30 #[.slice A1 n1 c1, .slice A2 n2 c2] w fun e w' => e = .returned (.int .i64 (cmpL n1 G1 n2 G2)) ∧ w' = w := by
  have H1 := Aside0.mk h1
  have H2 := Aside0.mk h2
  have HN := Aside0.mk hn
  clear h1 h2 hn
  go_enter Try.func30, Try.ntmps30
  go_wp2
  go_loopg [11] (n1 + 1) (fun kq v11 w' => ∃ i : Nat, v11 = .int .i64 (i : Int) ∧ Aside0 (kq + i = n1 + 1) ∧ Aside0 (i ≤ n1) ∧ Aside0 (i ≤ n2) ∧ Aside0 (∀ j, j < i → cmpB (G1 j) (G2 j) = 0) ∧ w' = w)
  case atStart => exact ⟨0, rfl, ⟨rfl⟩, ⟨Nat.zero_le _⟩, ⟨Nat.zero_le _⟩, ⟨fun j hj => absurd hj (by omega)⟩, rfl⟩
  case round =>
    obtain ⟨i, rfl, HQ, HI, HI2, HE, hwr⟩ := hrel
    subst hwr
    cases gk with
    | zero => exact absurd HQ.out (by have := HI.out; omega)
    | succ k1 =>
      have hi0 : (0 : Int) ≤ (i : Int) := by omega
      by_cases hlt : i < n1
      · have him : (i : Int) < (n1 : Int) := by omega
        obtain ⟨a1, hA1, hc1⟩ := H1.out i hlt
        have HW3 : Aside0 (wrap64 ((i : Int) + 1) = ((i + 1 : Nat) : Int)) := ⟨wrap_up i n1 (by omega) HN.out⟩
        by_cases hlt2 : i < n2
        · obtain ⟨a2, hA2, hc2⟩ := H2.out i hlt2
          subst hA1 hA2
          have him2 : (i : Int) < (n2 : Int) := by omega
          have hd : decide ((i : Int) ≥ (n2 : Int)) = false := decide_eq_false (by omega)
          obtain ⟨c, hc⟩ : ∃ c, cmpB (G1 i) (G2 i) = c := ⟨_, rfl⟩
          have HCC := Aside0.mk hc
          by_cases h0 : c = 0
          · subst h0
            clear hc
            go_wp2_with (go_at_call 60; (refine (cmpStr_calls _ _ _).mono ?_; rintro e1 w1 ⟨rfl, hw⟩; subst hw; rw [HCC.out]))
            go_roundg k1
            case measure => omega
            case rel => exact ⟨i + 1, by first | rfl | (rw [← HW3.out]), ⟨by have := HQ.out; omega⟩, ⟨by omega⟩, ⟨by omega⟩, ⟨fun j hj => by
              by_cases e : j = i
              · rw [e]; exact HCC.out
              · exact HE.out j (by omega)⟩, rfl⟩
          · have hb : (c != 0) = true := by simp; exact h0
            have hr : Aside0 (cmpL n1 G1 n2 G2 = c) := ⟨by rw [cmpL_drop HI.out HI2.out HE.out, lst_drop G1 hlt, lst_drop G2 hlt2]; simp only [lexC]; rw [HCC.out, if_neg h0]⟩
            clear hc
            go_wp2_with (go_at_call 60; (refine (cmpStr_calls _ _ _).mono ?_; rintro e1 w1 ⟨rfl, hw⟩; subst hw; rw [HCC.out]))
            go_ret
            exact ⟨by first | (rw [hr.out]; done) | (rw [hr.out]; rfl), rfl⟩
        · have hd : decide ((i : Int) ≥ (n2 : Int)) = true := decide_eq_true (by omega)
          have hr : Aside0 (cmpL n1 G1 n2 G2 = 1) := ⟨by rw [cmpL_drop HI.out HI2.out HE.out, lst_drop G1 hlt, lst_end G2 (by omega)]; rfl⟩
          subst hA1
          go_wp2
          go_ret
          exact ⟨by first | (rw [hr.out]; done) | (rw [hr.out]; rfl), rfl⟩
      · have hin : i = n1 := by have := HI.out; omega
        subst hin
        have hd : decide ((i : Int) < (i : Int)) = false := decide_eq_false (by omega)
        by_cases hlt2 : i < n2
        · have hd2 : decide ((i : Int) < (n2 : Int)) = true := decide_eq_true (by omega)
          have hr : Aside0 (cmpL i G1 n2 G2 = -1) := ⟨by rw [cmpL_drop (Nat.le_refl _) HI2.out HE.out, lst_end G1 (Nat.le_refl _), lst_drop G2 hlt2]; rfl⟩
          go_wp2
          go_ret
          exact ⟨by first | (rw [hr.out]; done) | (rw [hr.out]; rfl), rfl⟩
        · have hd2 : decide ((i : Int) < (n2 : Int)) = false := decide_eq_false (by omega)
          have hr : Aside0 (cmpL i G1 n2 G2 = 0) := ⟨by rw [cmpL_drop (Nat.le_refl _) HI2.out HE.out, lst_end G1 (Nat.le_refl _), lst_end G2 (by have := HI2.out; omega)]; rfl⟩
          go_wp2
          go_ret
          exact ⟨by first | (rw [hr.out]; done) | (rw [hr.out]; rfl), rfl⟩
end Go.Proofs.Ytgkocbbpkiechaa.Val
