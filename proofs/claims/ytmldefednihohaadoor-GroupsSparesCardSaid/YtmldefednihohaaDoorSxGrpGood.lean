/- An index whose rows are what its links come to: what adding and cutting a link leaves. -/
import Derived.Test.YtmldefednihohaaDoorSxGrpCut
namespace Go.Proofs.YtmldefednihohaaDoor.Grp
open Go.RowKit Go.Proofs.YtmldefednihohaaDoorW.PrintWords Go.Proofs.YtmldefednihohaaDoorW.PrintLast Go.Proofs.YtmldefednihohaaDoorW.PrintMore
set_option linter.unusedVariables false
set_option linter.unusedSimpArgs false
theorem Rch.trans {L : Nat → Nat → Bool} {a b c : Nat} (h1 : Rch L a b) (h2 : Rch L b c) : Rch L a c := by
  induction h2 with
  | one c h => exact .step b c h1 h
  | step d c _ h ih => exact .step d c ih h
theorem Rch.more {L M : Nat → Nat → Bool} {a b : Nat} (hs : ∀ k x, L k x = true → M k x = true) (h : Rch L a b) : Rch M a b := by
  induction h with
  | one b h => exact .one b (hs _ _ h)
  | step d b _ h ih => exact .step d b ih (hs _ _ h)
theorem addL_iff (L : Nat → Nat → Bool) (a b k x : Nat) : addL L a b k x = true ↔ L k x = true ∨ (k = a ∧ x = b) := by
  unfold addL upX
  by_cases e : k = a
  · subst e
    rw [if_pos rfl, Bool.or_eq_true]
    simp
  · rw [if_neg e]
    simp [e]
/-- What a link more leads to. -/
theorem Rch.add (L : Nat → Nat → Bool) (a b c x : Nat) : Rch (addL L a b) c x ↔ Rch L c x ∨ ((c = a ∨ Rch L c a) ∧ (x = b ∨ Rch L b x)) := by
  have hs : ∀ k x, L k x = true → addL L a b k x = true := fun k x h => (addL_iff L a b k x).2 (.inl h)
  constructor
  · intro h
    induction h with
    | one x h =>
      rcases (addL_iff L a b c x).1 h with h | ⟨h1, h2⟩
      · exact .inl (.one x h)
      · exact .inr ⟨.inl h1, .inl h2⟩
    | step d x _ h ih =>
      rcases (addL_iff L a b d x).1 h with hL | ⟨h1, h2⟩
      · rcases ih with ih | ⟨i1, i2⟩
        · exact .inl (.step d x ih hL)
        · refine .inr ⟨i1, .inr ?_⟩
          rcases i2 with i2 | i2
          · rw [i2] at hL; exact .one x hL
          · exact .step d x i2 hL
      · refine .inr ⟨?_, .inl h2⟩
        rcases ih with ih | ⟨i1, _⟩
        · exact .inr (h1 ▸ ih)
        · exact i1
  · intro h
    have hab : addL L a b a b = true := (addL_iff L a b a b).2 (.inr ⟨rfl, rfl⟩)
    rcases h with h | ⟨h1, h2⟩
    · exact h.more hs
    · have hcb : Rch (addL L a b) c b := by
        rcases h1 with h1 | h1
        · subst h1; exact .one b hab
        · exact .step a b (h1.more hs) hab
      rcases h2 with h2 | h2
      · subst h2; exact hcb
      · exact hcb.trans (h2.more hs)
/-- Where the links lead nowhere beyond n, neither do they over more than one. -/
theorem Rch.lt {n : Nat} {L : Nat → Nat → Bool} (hz : ∀ k x, L k x = true → k < n ∧ x < n) {c x : Nat} (h : Rch L c x) : c < n ∧ x < n := by
  induction h with
  | one b h => exact hz _ _ h
  | step d b _ h ih => exact ⟨ih.1, (hz _ _ h).2⟩
/-- An index of the links L. -/
def Gx (S : Nat → Prop) (w : World) (g n : Nat) (L : Nat → Nat → Bool) : Prop :=
  (∀ k x, L k x = true → k < n ∧ x < n) ∧ ∃ X, Ix S w g n X ∧ (∀ k, k < n → X k = L k) ∧ ∀ c, c < n → ∀ x, X (n + c) x = true ↔ Rch L c x
theorem rch_none {c x : Nat} (h : Rch (fun _ _ => false) c x) : False := by
  induction h with
  | one b h => cases h
  | step d b _ h _ => cases h
theorem Gx.start {S : Nat → Prop} {w : World} {g n : Nat} (h : Ix S w g n (fun _ _ => false)) : Gx S w g n (fun _ _ => false) :=
  ⟨(fun k x h => nomatch (show false = true from h)), _, h, fun k hk => rfl, fun c hc x => ⟨(fun h => nomatch (show false = true from h)), fun h => (rch_none h).elim⟩⟩
theorem Gx.below {S : Nat → Prop} {w w' : World} {g n : Nat} {L : Nat → Nat → Bool} (h : Gx S w g n L) (hb : Below w.heap.size w w') : Gx S w' g n L := by
  obtain ⟨hz, X, hi, h1, h2⟩ := h
  exact ⟨hz, X, hi.below hb, h1, h2⟩
theorem Gx.kept {S T : Nat → Prop} {w w' : World} {g n : Nat} {L : Nat → Nat → Bool} (h : Gx S w g n L) (hk : Kept w w' T) (hn : ∀ k, S k → ¬ T k) : Gx S w' g n L := by
  obtain ⟨hz, X, hi, h1, h2⟩ := h
  exact ⟨hz, X, hi.kept hk hn, h1, h2⟩
theorem Gx.mono {S T : Nat → Prop} {w : World} {g n : Nat} {L : Nat → Nat → Bool} (h : Gx S w g n L) (hs : ∀ k, S k → T k) : Gx T w g n L := by
  obtain ⟨hz, X, hi, h1, h2⟩ := h
  exact ⟨hz, X, hi.mono hs, h1, h2⟩
/-- Add, on an index of links. -/
theorem gadd_calls (S : Nat → Prop) (w : World) (g n a b : Nat) (L : Nat → Nat → Bool) (h : Gx S w g n L) (ha : a < n) (hb : b < n) (hL : L a b = false) :
    Calls Tryd.prog 10 #[.pointer (some ⟨g, 0, none⟩), .int .i64 (a : Int), .int .i64 (b : Int)] w fun e w' => e = .returned (.int .i64 0) ∧ Gx S w' g n (addL L a b) ∧ Fr w w' S := by
  obtain ⟨hz, X, hi, h1, h2⟩ := h
  have hXa : X a b = false := by rw [h1 a ha]; exact hL
  have hz' : ∀ k x, addL L a b k x = true → k < n ∧ x < n := fun k x h => by
    rcases (addL_iff L a b k x).1 h with h | ⟨h1, h2⟩
    · exact hz k x h
    · omega
  have hl : ∀ k, k < n → addL X a b k = addL L a b k := fun k hk => by
    unfold addL upX
    by_cases e : k = a
    · subst e; rw [if_pos rfl, if_pos rfl, h1 k hk]
    · rw [if_neg e, if_neg e, h1 k hk]
  have hr : ∀ c, addL X a b (n + c) = X (n + c) := fun c => by unfold addL upX; rw [if_neg (by omega)]
  by_cases hI : X (n + a) b = true
  · refine (add_in S w g n a b X hi ha hb hXa hI).mono ?_
    rintro e w' ⟨rfl, hi', hf⟩
    refine ⟨rfl, ⟨hz', _, hi', hl, fun c hc x => ?_⟩, hf⟩
    rw [hr, h2 c hc x, Rch.add]
    refine ⟨.inl, fun h => ?_⟩
    rcases h with h | ⟨i1, i2⟩
    · exact h
    · have hab := (h2 a ha b).1 hI
      have hcb : Rch L c b := by
        rcases i1 with i1 | i1
        · subst i1; exact hab
        · exact i1.trans hab
      rcases i2 with i2 | i2
      · subst i2; exact hcb
      · exact hcb.trans i2
  · have hI' : X (n + a) b = false := by simpa using hI
    refine (add_new S w g n a b X hi ha hb hXa hI').mono ?_
    rintro e w' ⟨rfl, hi', hf⟩
    refine ⟨rfl, ⟨hz', _, hi', fun k hk => ?_, fun c hc x => ?_⟩, hf⟩
    · rw [← hl k hk]
      funext x
      unfold addS
      rw [if_neg (by omega)]
    · have e : addS n (addL X a b) a (fun x => X (n + b) x || x == b) n (n + c) x = true ↔ (X (n + c) x = true ∨ ((c = a ∨ X (n + c) a = true) ∧ (x = b ∨ X (n + b) x = true))) := by
        unfold addS
        rw [hr]
        by_cases hc2 : c = a ∨ X (n + c) a = true
        · rw [if_pos ⟨by omega, by omega, by rw [Nat.add_sub_cancel_left]; exact hc2⟩, Bool.or_eq_true, Bool.or_eq_true]
          simp only [hc2, true_and]
          constructor
          · rintro (h | h | h)
            · exact .inl h
            · exact .inr (.inr h)
            · exact .inr (.inl (by simpa using h))
          · rintro (h | h | h)
            · exact .inl h
            · exact .inr (.inr (by simpa using h))
            · exact .inr (.inl h)
        · rw [if_neg (by rintro ⟨_, _, h3⟩; rw [Nat.add_sub_cancel_left] at h3; exact hc2 h3)]
          constructor
          · exact .inl
          · rintro (h | ⟨h, _⟩)
            · exact h
            · exact absurd h hc2
      rw [e, Rch.add, h2 c hc x, h2 c hc a, h2 b hb x]
/-- Cut, on an index of links. -/
theorem gcut_calls (S : Nat → Prop) (w : World) (g n a b : Nat) (L : Nat → Nat → Bool) (h : Gx S w g n L) (ha : a < n) (hb : b < n) (hL : L a b = true) (hgl : GL w) (hS0 : ¬ S 0) :
    Calls Tryd.prog 11 #[.pointer (some ⟨g, 0, none⟩), .int .i64 (a : Int), .int .i64 (b : Int)] w fun e w' => e = .returned (.int .i64 0) ∧ Gx (fun k => S k ∨ w.heap.size ≤ k) w' g n (cutL L a b) ∧ Fr w w' S := by
  obtain ⟨hz, X, hi, h1, h2⟩ := h
  have hXa : X a b = true := by rw [h1 a ha]; exact hL
  have hcl : ∀ k, k < n → cutL X a b k = cutL L a b k := fun k hk => by
    unfold cutL upX
    by_cases e : k = a
    · subst e; rw [if_pos rfl, if_pos rfl, h1 k hk]
    · rw [if_neg e, if_neg e, h1 k hk]
  have hsub : ∀ k x, cutL L a b k x = true → L k x = true := fun k x h => by
    unfold cutL upX at h
    by_cases e : k = a
    · subst e
      rw [if_pos rfl, Bool.and_eq_true] at h
      exact h.1
    · rw [if_neg e] at h
      exact h
  have hzX : ∀ k, k < n → ∀ x, cutL X a b k x = true → x < n := fun k hk x h => by
    rw [hcl k hk] at h
    exact (hz k x (hsub k x h)).2
  refine (cut_there S w g n a b X hi ha hb hXa (fun k hk x h => by rw [h1 k hk] at h; exact (hz k x h).2) hgl hS0).mono ?_
  rintro e w' ⟨rfl, ⟨X2, hi2, hX2, hX3⟩, hf⟩
  refine ⟨rfl, ⟨fun k x h => hz k x (hsub k x h), X2, hi2, fun k hk => by rw [hX2 k hk, hcl k hk], fun c hc x => ?_⟩, hf⟩
  have h3 := hX3 c hc
  by_cases hq : c = a ∨ X (n + c) a = true
  · rw [if_pos hq] at h3
    rw [h3 x]
    exact Rch.alike hc hcl hzX x
  · rw [if_neg hq] at h3
    rw [h3, h2 c hc x]
    refine ⟨fun hr => ?_, fun hr => hr.more hsub⟩
    have hna : ¬ Rch L c a := fun h => hq (.inr ((h2 c hc a).2 h))
    have hca : c ≠ a := fun e => hq (.inl e)
    have far : ∀ d, d ≠ a → ∀ x, L d x = true → cutL L a b d x = true := fun d hd x h => by
      unfold cutL upX
      rw [if_neg hd]
      exact h
    induction hr with
    | one x h => exact .one x (far c hca x h)
    | step d x hd h ih => exact .step d x ih (far d (fun e => hna (e ▸ hd)) x h)
end Go.Proofs.YtmldefednihohaaDoor.Grp
