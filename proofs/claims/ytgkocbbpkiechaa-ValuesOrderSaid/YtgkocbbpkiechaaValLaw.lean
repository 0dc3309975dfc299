/- What values.Compare says, as an order (no walk). -/
import Derived.Test.YtgkocbbpkiechaaValCompare
namespace Go.Proofs.Ytgkocbbpkiechaa.Val
open Go.Proofs.Ytgkocbbpkiechaa.Flt
set_option linter.unusedVariables false
set_option linter.unusedSimpArgs false
def relK (a b : ValD) : Bool := (a.kind == b.kind) || (numK a.kind && numK b.kind)
def okD (a b : ValD) : Bool := (chk a && chk b) && (!(nanD a || nanD b) && relK a b)
def coreD (a b : ValD) : Int :=
  if numK a.kind = true then cmpI (worth a) (worth b) else if a.kind = 1 then bn a.bo - bn b.bo else if a.kind = 4 then cmpB a.tx b.tx else cmpL a.n a.G b.n b.G
theorem nanD_num {a : ValD} (h : numK a.kind = false) : nanD a = false := by
  unfold numK at h
  unfold nanD
  rw [Bool.or_eq_false_iff] at h
  rw [h.2]; rfl
theorem cmpD_eq (a b : ValD) : cmpD a b = if okD a b = true then (coreD a b, true) else (0, false) := by
  unfold cmpD okD relK coreD
  cases h1 : (chk a && chk b) with
  | false => simp
  | true =>
    simp only [Bool.true_and, Bool.true_eq_false, if_false]
    cases h2 : numK a.kind with
    | true =>
      cases h3 : numK b.kind with
      | true =>
        cases h4 : (nanD a || nanD b) <;> simp
      | false =>
        have hne : ¬ a.kind = b.kind := fun e => by rw [e, h3] at h2; cases h2
        have hne' : (a.kind == b.kind) = false := by simp; exact hne
        rw [hne']
        simp [hne]
    | false =>
      by_cases he : a.kind = b.kind
      · have he' : (a.kind == b.kind) = true := by simp; exact he
        have n1 := nanD_num h2
        have n2 : nanD b = false := nanD_num (by rw [← he]; exact h2)
        rw [he', n1, n2]
        simp only [Bool.false_and, Bool.false_eq_true, if_false, Bool.or_self, Bool.not_false, Bool.true_or, Bool.and_true, Bool.true_and, if_true, he, not_true]
        split
        · rfl
        · split <;> rfl
      · have he' : (a.kind == b.kind) = false := by simp; exact he
        rw [he']
        simp [he]
theorem rel_num {a b : ValD} (h : relK a b = true) : numK a.kind = numK b.kind := by
  unfold relK at h
  rw [Bool.or_eq_true] at h
  rcases h with h | h
  · have : a.kind = b.kind := by simpa using h
    rw [this]
  · rw [Bool.and_eq_true] at h; rw [h.1, h.2]
theorem rel_kind {a b : ValD} (h : relK a b = true) (hn : numK a.kind = false) : a.kind = b.kind := by
  unfold relK at h
  rw [hn] at h
  simpa using h
theorem rel_symm {a b : ValD} (h : relK a b = true) : relK b a = true := by
  unfold relK at h ⊢
  rw [Bool.or_eq_true] at h ⊢
  rcases h with h | h
  · left; have : a.kind = b.kind := by simpa using h
    rw [this]; simp
  · right; rw [Bool.and_comm]; exact h
theorem rel_trans {a b c : ValD} (h : relK a b = true) (k : relK b c = true) : relK a c = true := by
  cases hn : numK b.kind with
  | true =>
    have h1 := rel_num h
    have h2 := rel_num k
    unfold relK
    rw [h1, hn, ← h2, hn]; simp
  | false =>
    have h1 := rel_kind k hn
    have h2 := rel_kind (rel_symm h) hn
    unfold relK
    rw [← h2, h1]; simp
theorem bn_in (b : Bool) : 0 ≤ bn b ∧ bn b ≤ 1 := by cases b <;> simp [bn]
theorem ord_L : Ord3 (fun (x y : ValD) => cmpL x.n x.G y.n y.G) := (lex_ord ord_B).map (fun x : ValD => lst x.n x.G)
theorem core_lo (a b : ValD) : -1 ≤ coreD a b ∧ coreD a b ≤ 1 := by
  unfold coreD
  have h1 := bn_in a.bo
  have h2 := bn_in b.bo
  split
  · exact ⟨ord_I.lo _ _, ord_I.hi _ _⟩
  · split
    · omega
    · split
      · exact ⟨ord_B.lo _ _, ord_B.hi _ _⟩
      · exact ⟨ord_L.lo a b, ord_L.hi a b⟩
theorem core_anti {a b : ValD} (h : relK a b = true) : coreD b a = -coreD a b := by
  unfold coreD
  rw [← rel_num h]
  cases hn : numK a.kind with
  | true => simp only [if_true]; exact ord_I.anti _ _
  | false =>
    rw [← rel_kind h hn]
    simp only [Bool.false_eq_true, if_false]
    split
    · omega
    · split
      · exact ord_B.anti _ _
      · exact ord_L.anti b a
theorem core_trans {a b c : ValD} (h : relK a b = true) (k : relK b c = true) (h1 : coreD a b ≤ 0) (h2 : coreD b c ≤ 0) : coreD a c ≤ 0 ∧ (coreD a b < 0 ∨ coreD b c < 0 → coreD a c < 0) := by
  unfold coreD at *
  rw [← rel_num h] at *
  cases hn : numK a.kind with
  | true =>
    rw [hn] at h1 h2
    simp only [if_true] at *
    exact ⟨ord_I.le _ _ _ h1 h2, ord_I.lt _ _ _ h1 h2⟩
  | false =>
    rw [hn] at h1 h2
    rw [← rel_kind h hn] at *
    simp only [Bool.false_eq_true, if_false] at *
    by_cases e1 : a.kind = 1
    · simp only [e1, if_true] at *; omega
    · by_cases e4 : a.kind = 4
      · simp only [e4, if_true] at *
        exact ⟨ord_B.le _ _ _ h1 h2, ord_B.lt _ _ _ h1 h2⟩
      · simp only [e1, e4, if_false] at *
        exact ⟨ord_L.le a b c h1 h2, ord_L.lt a b c h1 h2⟩
theorem ok_symm (a b : ValD) : okD b a = okD a b := by
  unfold okD
  have : relK b a = relK a b := by
    cases h : relK a b with
    | true => exact rel_symm h
    | false => cases k : relK b a with
      | true => exact absurd (rel_symm k) (by rw [h]; simp)
      | false => rfl
  rw [this, Bool.and_comm (chk b), Bool.or_comm (nanD b)]
theorem ok_parts {a b : ValD} (h : okD a b = true) : chk a = true ∧ chk b = true ∧ nanD a = false ∧ nanD b = false ∧ relK a b = true := by
  unfold okD at h
  simp only [Bool.and_eq_true, Bool.not_eq_true', Bool.or_eq_false_iff] at h
  exact ⟨h.1.1, h.1.2, h.2.1.1, h.2.1.2, h.2.2⟩
theorem ok_trans {a b c : ValD} (h : okD a b = true) (k : okD b c = true) : okD a c = true := by
  obtain ⟨a1, a2, a3, a4, a5⟩ := ok_parts h
  obtain ⟨b1, b2, b3, b4, b5⟩ := ok_parts k
  unfold okD
  rw [a1, b2, a3, b4, rel_trans a5 b5]; rfl
/-- What may be and has no number's kind: its real is none that is no number. -/
theorem chk_nan {a : ValD} (h : chk a = true) : nanD a = nanB a.re := by
  unfold nanD
  cases hn : nanB a.re with
  | false => rw [Bool.and_false]
  | true =>
    have hr : (FloatKind.f32.format.order a.re 0 != some Ordering.eq) = true := by
      rw [show FloatKind.f32.format.order a.re 0 = none from order_nan1 _ _ hn]; rfl
    have hk := chk_kind h
    unfold chk at h
    simp only [Bool.and_eq_true] at h
    have h := h.2
    rw [hr] at h
    rcases hk with k | k | k | k | k <;> rw [k] at h ⊢ <;> first | rfl | (simp [chkK] at h)
theorem same_core {a b : ValD} (h : sameD a b = true) (hn : nanD a = false) : okD a b = true ∧ coreD a b = 0 := by
  unfold sameD at h
  simp only [Bool.and_eq_true] at h
  obtain ⟨⟨h1, h2⟩, h3, h4⟩ := h
  have he : a.kind = b.kind := by simpa using h3
  have hrel : relK a b = true := by unfold relK; rw [h3]; rfl
  unfold sameK at h4
  unfold coreD
  by_cases k1 : a.kind = 1
  · rw [if_pos k1] at h4
    have hb : nanD b = false := by unfold nanD; rw [← he, k1]; rfl
    refine ⟨by unfold okD; rw [h1, h2, hn, hb, hrel]; rfl, ?_⟩
    have : a.bo = b.bo := by simpa using h4
    rw [k1, this]; simp [numK]
  · rw [if_neg k1] at h4
    by_cases k2 : a.kind = 2
    · rw [if_pos k2] at h4
      have hb : nanD b = false := by unfold nanD; rw [← he, k2]; rfl
      refine ⟨by unfold okD; rw [h1, h2, hn, hb, hrel]; rfl, ?_⟩
      have : a.it = b.it := by simpa using h4
      rw [k2, if_pos (show numK 2 = true from rfl)]
      unfold worth
      rw [← he, k2, this]; exact cmpI_eq rfl
    · rw [if_neg k2] at h4
      by_cases k3 : a.kind = 3
      · rw [if_pos k3] at h4
        have hk : keyB a.re = keyB b.re := by simpa using h4
        have ha : nanB a.re = false := by unfold nanD at hn; rw [k3] at hn; simpa using hn
        have hbn : nanB b.re = false := by
          cases hb : nanB b.re with
          | false => rfl
          | true =>
            exfalso
            unfold keyB at hk
            rw [ha, hb] at hk
            have ha' := of_decide_eq_false ha
            simp only [if_true, Bool.false_eq_true, if_false] at hk
            split at hk <;> omega
        have hb : nanD b = false := by unfold nanD; rw [hbn, Bool.and_false]
        refine ⟨by unfold okD; rw [h1, h2, hn, hb, hrel]; rfl, ?_⟩
        have hre : a.re = b.re := by
          unfold keyB at hk
          rw [ha, hbn] at hk
          simp only [Bool.false_eq_true, if_false] at hk
          split at hk <;> split at hk <;> omega
        rw [k3, if_pos (show numK 3 = true from rfl)]
        unfold worth
        rw [← he, k3, hre]; exact cmpI_eq rfl
      · rw [if_neg k3] at h4
        have hb : nanD b = false := by unfold nanD; rw [← he]; simp [k3]
        refine ⟨by unfold okD; rw [h1, h2, hn, hb, hrel]; rfl, ?_⟩
        have hnum : numK a.kind = false := by unfold numK; simp [k2, k3]
        rw [hnum]
        simp only [Bool.false_eq_true, if_false, k1]
        by_cases k4 : a.kind = 4
        · rw [if_pos k4] at h4 ⊢
          have : a.tx = b.tx := by rw [same_B] at h4; exact of_decide_eq_true h4
          rw [this]; exact ord_B.refl _
        · rw [if_neg k4] at h4 ⊢
          have h5 := of_decide_eq_true h4
          have : lst a.n a.G = lst b.n b.G := by
            unfold lst
            rw [← h5.1]
            exact List.map_congr_left fun j hj => h5.2 j (List.mem_range.1 hj)
          unfold cmpL
          rw [this]
          exact (lex_ord ord_B).refl _
end Go.Proofs.Ytgkocbbpkiechaa.Val
