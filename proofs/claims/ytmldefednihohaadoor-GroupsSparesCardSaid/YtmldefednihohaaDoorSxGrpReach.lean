/- What leads where: plain Lean. -/
import Derived.Test.YtmldefednihohaaDoorS1
namespace Go.Proofs.YtmldefednihohaaDoor.Grp
set_option linter.unusedVariables false
set_option linter.unusedSimpArgs false
/-- b is come to from c, over one link or more. -/
inductive Rch (L : Nat → Nat → Bool) (c : Nat) : Nat → Prop where
  | one (b : Nat) : L c b = true → Rch L c b
  | step (d b : Nat) : Rch L c d → L d b = true → Rch L c b
def upN (St : Nat → Nat) (k v : Nat) : Nat → Nat := fun j => if j = k then v else St j
/-- How many have been passed. -/
def cnt (St : Nat → Nat) : Nat → Nat
  | 0 => 0
  | k + 1 => cnt St k + (if St k = 2 then 1 else 0)
theorem cnt_le (St : Nat → Nat) : ∀ n, cnt St n ≤ n := by
  intro n
  induction n with
  | zero => simp [cnt]
  | succ n ih => simp only [cnt]; split <;> omega
theorem cnt_far (St : Nat → Nat) (k v : Nat) : ∀ n, n ≤ k → cnt (upN St k v) n = cnt St n := by
  intro n
  induction n with
  | zero => intro _; rfl
  | succ n ih =>
    intro h
    simp only [cnt]
    rw [ih (by omega)]
    have : ¬ n = k := by omega
    simp [upN, this]
theorem cnt_pass (St : Nat → Nat) (k : Nat) (hs : St k ≠ 2) : ∀ n, k < n → cnt (upN St k 2) n = cnt St n + 1 := by
  intro n
  induction n with
  | zero => intro h; omega
  | succ n ih =>
    intro h
    simp only [cnt]
    by_cases e : n = k
    · subst e
      rw [cnt_far St n 2 n (Nat.le_refl _)]
      simp [upN, hs]
    · rw [ih (by omega)]
      simp only [upN, e, if_false]
      omega
theorem cnt_wait (St : Nat → Nat) (k : Nat) (hs : St k = 0) : ∀ n, cnt (upN St k 1) n = cnt St n := by
  intro n
  induction n with
  | zero => rfl
  | succ n ih =>
    simp only [cnt, ih]
    by_cases e : n = k
    · subst e; simp [upN, hs]
    · simp [upN, e]
/-- A search from c: F found so far, St the states, ks what waits; the successors of the one in 'busy' may not be seen to yet. -/
structure SInv (n : Nat) (L : Nat → Nat → Bool) (c : Nat) (F : Nat → Bool) (St : Nat → Nat) (ks : List Nat) (busy : Nat → Prop) : Prop where
  sound : ∀ b, F b = true → Rch L c b
  reach : ∀ b, St b ≠ 0 → b = c ∨ Rch L c b
  pass : ∀ b, b < n → St b = 2 → ¬ busy b → ∀ x, L b x = true → F x = true ∧ St x ≠ 0
  wait : ∀ b, b < n → St b = 1 → b ∈ ks
  stk : ∀ b, b ∈ ks → b < n ∧ St b = 1
  dup : ks.Nodup
  le : ∀ b, St b ≤ 2
  from_ : St c ≠ 0
theorem SInv.start (n : Nat) (L : Nat → Nat → Bool) (c : Nat) (hc : c < n) : SInv n L c (fun _ => false) (upN (fun _ => 0) c 1) [c] (fun _ => False) where
  sound b h := by cases h
  reach b h := by
    by_cases e : b = c
    · exact .inl e
    · simp [upN, e] at h
  pass b hb h := by
    by_cases e : b = c
    · simp [upN, e] at h
    · simp [upN, e] at h
  wait b hb h := by
    by_cases e : b = c
    · simp [e]
    · simp [upN, e] at h
  stk b h := by
    obtain rfl : b = c := by simpa using h
    exact ⟨hc, by simp [upN]⟩
  dup := by simp
  le b := by
    unfold upN
    split
    · omega
    · exact Nat.zero_le _
  from_ := by simp [upN]
/-- The last one that waits is taken. -/
theorem SInv.pop {n : Nat} {L : Nat → Nat → Bool} {c : Nat} {F : Nat → Bool} {St : Nat → Nat} {ks : List Nat} {d : Nat} (h : SInv n L c F St (ks ++ [d]) (fun _ => False)) : d < n ∧ St d = 1 ∧ SInv n L c F (upN St d 2) ks (fun b => b = d) := by
  obtain ⟨hd1, hd2⟩ := h.stk d (by simp)
  have hnd := h.dup
  rw [List.nodup_append] at hnd
  have hdk : d ∉ ks := fun hm => hnd.2.2 d hm d (by simp) rfl
  refine ⟨hd1, hd2, h.sound, fun b hb => ?_, fun b hbn hb hnb x hx => ?_, fun b hbn hb => ?_, fun b hb => ?_, hnd.1, fun b => ?_, ?_⟩
  · by_cases e : b = d
    · subst e; exact h.reach b (by omega)
    · simp only [upN, e, if_false] at hb; exact h.reach b hb
  · simp only [upN, hnb, if_false] at hb
    obtain ⟨h1, h2⟩ := h.pass b hbn hb (fun h => h) x hx
    refine ⟨h1, ?_⟩
    unfold upN
    split
    · omega
    · exact h2
  · by_cases e : b = d
    · simp [upN, e] at hb
    · simp only [upN, e, if_false] at hb
      have := h.wait b hbn hb
      simpa [e] using this
  · have e : b ≠ d := fun e => hdk (e ▸ hb)
    obtain ⟨h1, h2⟩ := h.stk b (by simp [hb])
    exact ⟨h1, by simp [upN, e, h2]⟩
  · unfold upN
    split
    · omega
    · exact h.le b
  · unfold upN
    split
    · omega
    · exact h.from_
/-- A successor of d is found; it waits already, or has been passed. -/
theorem SInv.seen {n : Nat} {L : Nat → Nat → Bool} {c : Nat} {F : Nat → Bool} {St : Nat → Nat} {ks : List Nat} {d b : Nat} (h : SInv n L c F St ks (fun x => x = d)) (hd : St d ≠ 0) (hb : L d b = true) : SInv n L c (fun x => F x || x == b) St ks (fun x => x = d) := by
  have hrb : Rch L c b := by
    rcases h.reach d hd with e | e
    · subst e; exact .one b hb
    · exact .step d b e hb
  refine ⟨fun x hx => ?_, h.reach, fun x hx h2 hn y hy => ?_, h.wait, h.stk, h.dup, h.le, h.from_⟩
  · rw [Bool.or_eq_true] at hx
    rcases hx with hx | hx
    · exact h.sound x hx
    · obtain rfl : x = b := by simpa using hx
      exact hrb
  · obtain ⟨h3, h4⟩ := h.pass x hx h2 hn y hy
    exact ⟨by rw [h3]; rfl, h4⟩
/-- .. and it waits now, if it was fresh. -/
theorem SInv.push {n : Nat} {L : Nat → Nat → Bool} {c : Nat} {F : Nat → Bool} {St : Nat → Nat} {ks : List Nat} {d b : Nat} (h : SInv n L c F St ks (fun x => x = d)) (hd : St d ≠ 0) (hb : L d b = true) (hbn : b < n) (h0 : St b = 0) : SInv n L c F (upN St b 1) (ks ++ [b]) (fun x => x = d) := by
  have hrb : Rch L c b := by
    rcases h.reach d hd with e | e
    · subst e; exact .one b hb
    · exact .step d b e hb
  have hbk : b ∉ ks := fun hm => by have := (h.stk b hm).2; omega
  refine ⟨h.sound, fun x hx => ?_, fun x hx h2 hn y hy => ?_, fun x hx h1 => ?_, fun x hx => ?_, ?_, fun x => ?_, ?_⟩
  · by_cases e : x = b
    · subst e; exact .inr hrb
    · simp only [upN, e, if_false] at hx; exact h.reach x hx
  · by_cases e : x = b
    · simp [upN, e] at h2
    · simp only [upN, e, if_false] at h2
      obtain ⟨h3, h4⟩ := h.pass x hx h2 hn y hy
      refine ⟨h3, ?_⟩
      unfold upN
      split
      · omega
      · exact h4
  · by_cases e : x = b
    · simp [e]
    · simp only [upN, e, if_false] at h1
      simp [h.wait x hx h1]
  · rw [List.mem_append] at hx
    rcases hx with hx | hx
    · obtain ⟨h1, h2⟩ := h.stk x hx
      have e : x ≠ b := fun e => hbk (e ▸ hx)
      exact ⟨h1, by simp [upN, e, h2]⟩
    · obtain rfl : x = b := by simpa using hx
      exact ⟨hbn, by simp [upN]⟩
  · rw [List.nodup_append]
    refine ⟨h.dup, by simp, fun x hx y hy e => ?_⟩
    obtain rfl : y = b := by simpa using hy
    exact hbk (e ▸ hx)
  · unfold upN
    split
    · omega
    · exact h.le x
  · unfold upN
    split
    · omega
    · exact h.from_
/-- d has been seen to. -/
theorem SInv.done {n : Nat} {L : Nat → Nat → Bool} {c : Nat} {F : Nat → Bool} {St : Nat → Nat} {ks : List Nat} {d : Nat} (h : SInv n L c F St ks (fun x => x = d)) (hd : ∀ x, L d x = true → F x = true ∧ St x ≠ 0) : SInv n L c F St ks (fun _ => False) :=
  ⟨h.sound, h.reach, fun b hb h2 _ x hx => by
    by_cases e : b = d
    · subst e; exact hd x hx
    · exact h.pass b hb h2 e x hx, h.wait, h.stk, h.dup, h.le, h.from_⟩
/-- Nothing waits: all has been found. -/
theorem SInv.all {n : Nat} {L : Nat → Nat → Bool} {c : Nat} {F : Nat → Bool} {St : Nat → Nat} (h : SInv n L c F St [] (fun _ => False)) (hc : c < n) (hz : ∀ k, k < n → ∀ b, L k b = true → b < n) : ∀ b, F b = true ↔ Rch L c b := by
  have two : ∀ b, b < n → St b ≠ 0 → St b = 2 := fun b hb h0 => by
    have h1 := h.le b
    have h2 : St b ≠ 1 := fun e => by have := h.wait b hb e; cases this
    omega
  intro b
  refine ⟨h.sound b, fun hr => ?_⟩
  have : F b = true ∧ St b ≠ 0 ∧ b < n := by
    induction hr with
    | one b hb =>
      obtain ⟨h1, h2⟩ := h.pass c hc (two c hc h.from_) (fun h => h) b hb
      exact ⟨h1, h2, hz c hc b hb⟩
    | step d b _ hb ih =>
      obtain ⟨_, i2, i3⟩ := ih
      obtain ⟨h1, h2⟩ := h.pass d i3 (two d i3 i2) (fun h => h) b hb
      exact ⟨h1, h2, hz d i3 b hb⟩
  exact this.1
theorem elems_mem (P : Nat → Bool) : ∀ N (b : Nat), b < N → P b = true → (b : Int) ∈ elems P N := by
  intro N
  induction N with
  | zero => intro b h; omega
  | succ N ih =>
    intro b h hp
    simp only [elems]
    by_cases e : b = N
    · subst e
      rw [if_pos hp]
      simp
    · have := ih b (by omega) hp
      split
      · simp [this]
      · exact this
theorem elems_at (P : Nat → Bool) : ∀ N (x : Int), x ∈ elems P N → ∃ b : Nat, x = (b : Int) ∧ b < N ∧ P b = true := by
  intro N
  induction N with
  | zero => intro x h; cases h
  | succ N ih =>
    intro x h
    simp only [elems] at h
    split at h
    · next hp =>
      rw [List.mem_append] at h
      rcases h with h | h
      · obtain ⟨b, h1, h2, h3⟩ := ih x h
        exact ⟨b, h1, by omega, h3⟩
      · obtain rfl : x = (N : Int) := by simpa using h
        exact ⟨N, rfl, by omega, hp⟩
    · obtain ⟨b, h1, h2, h3⟩ := ih x h
      exact ⟨b, h1, by omega, h3⟩
end Go.Proofs.YtmldefednihohaaDoor.Grp
