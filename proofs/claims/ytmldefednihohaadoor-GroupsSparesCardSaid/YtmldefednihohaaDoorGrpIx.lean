/- An index in memory; New, group, asked, In (plain walks). -/
import Derived.Test.YtmldefednihohaaDoorGrpRows
namespace Go.Proofs.YtmldefednihohaaDoor.Grp
open Go.RowKit Go.Proofs.YtmldefednihohaaDoorW.PrintWords Go.Proofs.YtmldefednihohaaDoorW.PrintLast Go.Proofs.YtmldefednihohaaDoorW.PrintMore
set_option linter.unusedVariables false
set_option linter.unusedSimpArgs false
set_option maxRecDepth 100000
abbrev wide (n : Nat) : Nat := (n + 63) / 64
/-- An index at block g: rows 0 to n-1 are the links, n to 2n-1 what each group is in. -/
structure IxV (g gl gi cl ci n : Nat) (V : Nat → Sl) (w : World) (X : Nat → Nat → Bool) : Prop where
  top : w.heap[g]? = some (.cells #[.slice (some ⟨gl, 0, none⟩) n cl, .slice (some ⟨gi, 0, none⟩) n ci] 61 (0, 0))
  lk : HdAt w gl cl n V
  inn : HdAt w gi ci n (fun k => V (n + k))
  row : ∀ k, k < 2 * n → RowAt w (sv (V k)) (wide n) (X k)
  sep : ∀ i, i < 2 * n → ∀ k, k < 2 * n → i ≠ k → ∀ b, (sv (V i)).ownBlock = some b → (sv (V k)).ownBlock ≠ some b
  ne : gl ≠ gi
  n1 : 1 ≤ n
  n4 : n ≤ 4096
section
variable {g gl gi cl ci n : Nat} {V : Nat → Sl} {w w' : World} {X : Nat → Nat → Bool}
theorem IxV.wide1 (h : IxV g gl gi cl ci n V w X) : 1 ≤ wide n ∧ wide n ≤ 64 ∧ n ≤ 64 * wide n := by
  have := h.n1; have := h.n4; unfold wide; omega
theorem IxV.c0 (h : IxV g gl gi cl ci n V w X) : w.cell? ⟨g, 0, none⟩ = some (.slice (some ⟨gl, 0, none⟩) n cl) := by rw [blk_cell h.top]; rfl
theorem IxV.c1 (h : IxV g gl gi cl ci n V w X) : w.cell? ⟨g, 1, none⟩ = some (.slice (some ⟨gi, 0, none⟩) n ci) := by rw [blk_cell h.top]; rfl
theorem IxV.form (h : IxV g gl gi cl ci n V w X) {k : Nat} (hk : k < 2 * n) : ∃ b c, V k = (some ⟨b, 0, none⟩, wide n, c) := by
  obtain ⟨b, c, hv⟩ := (h.row k hk).form (by have := h.wide1; omega)
  obtain ⟨e1, e2, e3⟩ := Value.slice.inj hv
  exact ⟨b, c, by rw [← e1, ← e2, ← e3]⟩
theorem IxV.hl (h : IxV g gl gi cl ci n V w X) {k : Nat} (hk : k < n) : w.cell? ⟨gl, k, none⟩ = some (sv (V k)) := (hd_cell h.lk hk).1
theorem IxV.hi (h : IxV g gl gi cl ci n V w X) {k : Nat} (hk : k < n) : w.cell? ⟨gi, k, none⟩ = some (sv (V (n + k))) := (hd_cell h.inn hk).1
theorem IxV.lt_g (h : IxV g gl gi cl ci n V w X) : g < w.heap.size := blk_lt h.top
theorem IxV.lt_l (h : IxV g gl gi cl ci n V w X) : gl < w.heap.size := own_lt' h.lk gl rfl
theorem IxV.lt_i (h : IxV g gl gi cl ci n V w X) : gi < w.heap.size := own_lt' h.inn gi rfl
theorem IxV.lt_r (h : IxV g gl gi cl ci n V w X) {k : Nat} (hk : k < 2 * n) : ∀ b, (sv (V k)).ownBlock = some b → b < w.heap.size := own_lt' (h.row k hk)
/-- The row's block is no header's and not the index's own. -/
theorem IxV.row_ne (h : IxV g gl gi cl ci n V w X) {k : Nat} (hk : k < 2 * n) : ∀ b, (sv (V k)).ownBlock = some b → b ≠ g ∧ b ≠ gl ∧ b ≠ gi := by
  intro b hb
  refine ⟨fun e => ?_, fun e => ?_, fun e => ?_⟩
  · subst e
    obtain ⟨cells, hc⟩ := own_typed (Kd.own_of_R (h.row k hk)) b hb
    rw [h.top] at hc
    injection hc with hc
    injection hc with _ ht
    exact absurd ht (by decide)
  · subst e; exact own_ne (h.row k hk) h.lk (by decide) b hb rfl
  · subst e; exact own_ne (h.row k hk) h.inn (by decide) b hb rfl
/-- Where other blocks alone turned. -/
theorem IxV.kept (h : IxV g gl gi cl ci n V w X) {T : Nat → Prop} (hk : Kept w w' T) (hg : ¬ T g) (hl : ¬ T gl) (hi : ¬ T gi) (hr : ∀ k, k < 2 * n → ∀ b, (sv (V k)).ownBlock = some b → ¬ T b) : IxV g gl gi cl ci n V w' X where
  top := blk_kept h.top hk hg
  lk := other h.lk hk (fun b hb => by have : gl = b := by simpa [Value.ownBlock] using hb
                                      rw [← this]; exact hl)
  inn := other h.inn hk (fun b hb => by have : gi = b := by simpa [Value.ownBlock] using hb
                                        rw [← this]; exact hi)
  row k hk' := (h.row k hk').other hk (hr k hk')
  sep := h.sep
  ne := h.ne
  n1 := h.n1
  n4 := h.n4
theorem IxV.below (h : IxV g gl gi cl ci n V w X) (hb : Below w.heap.size w w') : IxV g gl gi cl ci n V w' X :=
  h.kept (Kept.of_below hb (fun _ => False)) (fun h => h) (fun h => h) (fun h => h) (fun _ _ _ _ h => h)
theorem IxV.congr {Y : Nat → Nat → Bool} (h : IxV g gl gi cl ci n V w X) (he : ∀ k, k < 2 * n → ∀ b, b < n → X k b = Y k b) (hX : ∀ k, k < 2 * n → ∀ b, n ≤ b → X k b = false) (hY : ∀ k, k < 2 * n → ∀ b, n ≤ b → Y k b = false) : IxV g gl gi cl ci n V w Y :=
  { h with row := fun k hk => (h.row k hk).congr (fun b _ => by
      rcases Nat.lt_or_ge b n with hb | hb
      · exact he k hk b hb
      · rw [hX k hk b hb, hY k hk b hb]) }
def upX (X : Nat → Nat → Bool) (k : Nat) (P : Nat → Bool) : Nat → Nat → Bool := fun j => if j = k then P else X j
/-- Row k alone turned. -/
theorem IxV.turn (h : IxV g gl gi cl ci n V w X) {k b : Nat} (hk : k < 2 * n) {P : Nat → Bool} (hb : (sv (V k)).ownBlock = some b) (hf : Fr w w' (fun j => j = b)) (hr : RowAt w' (sv (V k)) (wide n) P) : IxV g gl gi cl ci n V w' (upX X k P) := by
  obtain ⟨n1, n2, n3⟩ := h.row_ne hk b hb
  exact { top := blk_kept h.top hf.2 (fun e => n1 e.symm)
          lk := other h.lk hf.2 (fun b' hb' e => by subst e; have : gl = b' := by simpa [Value.ownBlock] using hb'
                                                    exact n2 this.symm)
          inn := other h.inn hf.2 (fun b' hb' e => by subst e; have : gi = b' := by simpa [Value.ownBlock] using hb'
                                                      exact n3 this.symm)
          row := fun j hj => by
            by_cases e : j = k
            · subst e
              simp only [upX, if_true]
              exact hr
            · simp only [upX, e, if_false]
              exact (h.row j hj).other hf.2 (fun b' hb' e' => by subst e'; exact h.sep j hj k hk e b' hb' hb)
          sep := h.sep
          ne := h.ne
          n1 := h.n1
          n4 := h.n4 }
end
/-- An index whose blocks lie in S. -/
def Ix (S : Nat → Prop) (w : World) (g n : Nat) (X : Nat → Nat → Bool) : Prop := ∃ gl gi cl ci V, IxV g gl gi cl ci n V w X ∧ S g ∧ S gl ∧ S gi ∧ ∀ k, k < 2 * n → ∀ b, (sv (V k)).ownBlock = some b → S b
theorem Ix.below {S : Nat → Prop} {w w' : World} {g n : Nat} {X : Nat → Nat → Bool} (h : Ix S w g n X) (hb : Below w.heap.size w w') : Ix S w' g n X := by
  obtain ⟨gl, gi, cl, ci, V, h, hs⟩ := h
  exact ⟨gl, gi, cl, ci, V, h.below hb, hs⟩
theorem Ix.kept {S T : Nat → Prop} {w w' : World} {g n : Nat} {X : Nat → Nat → Bool} (h : Ix S w g n X) (hk : Kept w w' T) (hn : ∀ k, S k → ¬ T k) : Ix S w' g n X := by
  obtain ⟨gl, gi, cl, ci, V, h, s1, s2, s3, s4⟩ := h
  exact ⟨gl, gi, cl, ci, V, h.kept hk (hn _ s1) (hn _ s2) (hn _ s3) (fun k hk b hb => hn _ (s4 k hk b hb)), s1, s2, s3, s4⟩
theorem Ix.mono {S T : Nat → Prop} {w : World} {g n : Nat} {X : Nat → Nat → Bool} (h : Ix S w g n X) (hs : ∀ k, S k → T k) : Ix T w g n X := by
  obtain ⟨gl, gi, cl, ci, V, h, s1, s2, s3, s4⟩ := h
  exact ⟨gl, gi, cl, ci, V, h, hs _ s1, hs _ s2, hs _ s3, fun k hk b hb => hs _ (s4 k hk b hb)⟩
theorem ix_new {w w1 w2 : World} {n gl cl gi ci : Nat} (hn1 : 1 ≤ n) (hn4 : n ≤ 4096) (h1 : RsRel w n gl cl n w1) (h2 : RsRel w1 n gi ci n w2) :
    Ix (fun k => w.heap.size ≤ k) (w2.alloc (.cells #[.slice (some ⟨gl, 0, none⟩) n cl, .slice (some ⟨gi, 0, none⟩) n ci] 61)) w2.heap.size n (fun _ _ => false) := by
  obtain ⟨low1, ge1, V1, hd1, row1, sep1⟩ := h1
  obtain ⟨low2, ge2, V2, hd2, row2, sep2⟩ := h2
  have b3 : Below w2.heap.size w2 (w2.alloc (.cells #[.slice (some ⟨gl, 0, none⟩) n cl, .slice (some ⟨gi, 0, none⟩) n ci] 61)) := below_alloc (Below.refl _ _) _
  have z1 := low1.size
  have z2 := low2.size
  have lt1 : ∀ k, k < n → ∀ b, (sv (V1 k)).ownBlock = some b → b < w1.heap.size := fun k hk b hb => own_lt' (row1 k hk).1 b hb
  have ge2' : ∀ k, k < n → ∀ b, (sv (V2 k)).ownBlock = some b → w1.heap.size ≤ b := fun k hk b hb => by
    obtain ⟨b', hb', h⟩ := (row2 k hk).2
    rw [hb] at hb'
    have := Option.some.inj hb'
    omega
  have ge1' : ∀ k, k < n → ∀ b, (sv (V1 k)).ownBlock = some b → w.heap.size ≤ b := fun k hk b hb => by
    obtain ⟨b', hb', h⟩ := (row1 k hk).2
    rw [hb] at hb'
    have := Option.some.inj hb'
    omega
  have hgl : gl < w1.heap.size := own_lt' hd1 gl rfl
  obtain ⟨V, hV⟩ : ∃ V : Nat → Sl, V = fun k => if k < n then V1 k else V2 (k - n) := ⟨_, rfl⟩
  have e1 : ∀ k, k < n → V k = V1 k := fun k hk => by rw [hV]; simp [hk]
  have e2 : ∀ k, k < n → V (n + k) = V2 k := fun k hk => by rw [hV]; simp only [if_neg (show ¬ n + k < n by omega), Nat.add_sub_cancel_left]
  have e2' : ∀ k, ¬ k < n → V k = V2 (k - n) := fun k hk => by rw [hV]; simp [hk]
  refine ⟨gl, gi, cl, ci, V, ⟨heap_alloc_new w2 _, ?_, ?_, fun k hk => ?_, fun i hi k hk hne b hbi hbk => ?_, by omega, hn1, hn4⟩, by show w.heap.size ≤ _; omega, ge1, by show w.heap.size ≤ _; omega, fun k hk b hb => ?_⟩
  · have := Kd.R_below (Kd.R_below hd1 low2) b3
    unfold HdAt
    rw [List.map_congr_left (fun k hk => e1 k (List.mem_range.1 hk))]
    exact this
  · have := Kd.R_below hd2 b3
    unfold HdAt
    rw [List.map_congr_left (fun k hk => e2 k (List.mem_range.1 hk))]
    exact this
  · by_cases h : k < n
    · rw [e1 k h]; exact (((row1 k h).1.below low2).below b3)
    · rw [e2' k h]; exact (row2 (k - n) (by omega)).1.below b3
  · by_cases h : i < n
    · rw [e1 i h] at hbi
      by_cases h' : k < n
      · rw [e1 k h'] at hbk; exact sep1 i h k h' hne b hbi hbk
      · rw [e2' k h'] at hbk
        have := lt1 i h b hbi
        have := ge2' (k - n) (by omega) b hbk
        omega
    · rw [e2' i h] at hbi
      by_cases h' : k < n
      · rw [e1 k h'] at hbk
        have := lt1 k h' b hbk
        have := ge2' (i - n) (by omega) b hbi
        omega
      · rw [e2' k h'] at hbk; exact sep2 (i - n) (by omega) (k - n) (by omega) (by omega) b hbi hbk
  · show w.heap.size ≤ b
    by_cases h : k < n
    · rw [e1 k h] at hb; exact ge1' k h b hb
    · rw [e2' k h] at hb
      have := ge2' (k - n) (by omega) b hb
      omega
set_option maxHeartbeats 2000000 in
theorem new_calls (w : World) (n : Nat) (hn1 : 1 ≤ n) (hn4 : n ≤ 4096) :
    Calls Tryd.prog 9 #[.int .i64 (n : Int)] w fun e w' => ∃ g, e = .returned (.tuple #[.pointer (some ⟨g, 0, none⟩), .int .i64 0]) ∧ Ix (fun k => w.heap.size ≤ k) w' g n (fun _ _ => false) ∧ Below w.heap.size w w' := by
  have HN1 := Aside0.mk hn1
  have HN4 := Aside0.mk hn4
  have d1 : decide ((n : Int) < 1) = false := decide_eq_false (by omega)
  have d2 : decide ((n : Int) > 4096) = false := decide_eq_false (by omega)
  have d3 : decide (4096 < (n : Int)) = false := decide_eq_false (by omega)
  clear hn1 hn4
  go_enter Tryd.func9, Tryd.ntmps9
  go_wp2_with (first
    | (go_at_call 28; ((with_reducible refine (rows_calls w n HN1.out HN4.out).mono ?_); rintro e1 w1 ⟨gl, cl, rfl, h1⟩; have R1 := Aside0.mk h1; clear h1))
    | (go_at_call 28; ((with_reducible refine (rows_calls w1 n HN1.out HN4.out).mono ?_); rintro e2 w2 ⟨gi, ci, rfl, h1⟩; have R2 := Aside0.mk h1; clear h1)))
  go_ret2
  exact ⟨_, rfl, ix_new HN1.out HN4.out R1.out R2.out, below_step (below_step R1.out.low R2.out.low) (below_alloc (Below.refl _ _) _)⟩
set_option maxHeartbeats 2000000 in
theorem new_bad (w : World) (n : Int) (hn : n < 1 ∨ 4096 < n) :
    Calls Tryd.prog 9 #[.int .i64 n] w fun e w' => e = .returned (.tuple #[.pointer none, .int .i64 2]) ∧ Drawn0 w w' := by
  rcases hn with hn | hn
  · go_enter Tryd.func9, Tryd.ntmps9
    go_wp2
    go_ret2
    exact ⟨rfl, Drawn0.refl _⟩
  · have d1 : decide (n < 1) = false := decide_eq_false (by omega)
    go_enter Tryd.func9, Tryd.ntmps9
    go_wp2
    go_ret2
    exact ⟨rfl, Drawn0.refl _⟩
set_option maxHeartbeats 2000000 in
theorem group_calls (S : Nat → Prop) (w : World) (g n : Nat) (X : Nat → Nat → Bool) (a : Int) (h : Ix S w g n X) :
    Calls Tryd.prog 34 #[.pointer (some ⟨g, 0, none⟩), .int .i64 a] w fun e w' => e = .returned (.bool (decide (0 ≤ a ∧ a < (n : Int)))) ∧ w' = w := by
  obtain ⟨gl, gi, cl, ci, V, h, _⟩ := h
  have c1 := h.c1
  clear h
  by_cases h0 : 0 ≤ a
  · by_cases h1 : a < (n : Int)
    · have e : decide (0 ≤ a ∧ a < (n : Int)) = true := decide_eq_true ⟨h0, h1⟩
      have d0 : decide (a ≥ 0) = true := decide_eq_true h0
      have d1 : decide (a < (n : Int)) = true := decide_eq_true h1
      rw [e]
      go_enter Tryd.func34, Tryd.ntmps34
      go_wp2
      go_ret
      exact ⟨rfl, rfl⟩
    · have e : decide (0 ≤ a ∧ a < (n : Int)) = false := decide_eq_false (fun h => h1 h.2)
      have d0 : decide (a ≥ 0) = true := decide_eq_true h0
      have d1 : decide (a < (n : Int)) = false := decide_eq_false h1
      rw [e]
      go_enter Tryd.func34, Tryd.ntmps34
      go_wp2
      go_ret
      exact ⟨rfl, rfl⟩
  · have e : decide (0 ≤ a ∧ a < (n : Int)) = false := decide_eq_false (fun h => h0 h.1)
    have d0 : decide (a ≥ 0) = false := decide_eq_false h0
    rw [e]
    go_enter Tryd.func34, Tryd.ntmps34
    go_wp2
    go_ret
    exact ⟨rfl, rfl⟩
set_option maxHeartbeats 2000000 in
theorem group_nil (w : World) (a : Int) : Calls Tryd.prog 34 #[.pointer none, .int .i64 a] w fun e w' => e = .returned (.bool false) ∧ w' = w := by
  go_enter Tryd.func34, Tryd.ntmps34
  go_wp2
  go_ret
  exact ⟨rfl, rfl⟩
def okG (n : Nat) (a : Int) : Bool := decide (0 ≤ a ∧ a < (n : Int))
theorem okG_nat {n : Nat} {a : Int} (h : okG n a = true) : ∃ k : Nat, a = (k : Int) ∧ k < n := by
  have := of_decide_eq_true h
  exact ⟨a.toNat, by omega, by omega⟩
set_option maxHeartbeats 2000000 in
theorem asked_calls (S : Nat → Prop) (w : World) (g n : Nat) (X : Nat → Nat → Bool) (a b : Int) (h : Ix S w g n X) :
    Calls Tryd.prog 29 #[.pointer (some ⟨g, 0, none⟩), .int .i64 a, .int .i64 b] w fun e w' => e = .returned (.int .i64 (if okG n a && okG n b then 0 else 2)) ∧ w' = w := by
  have H := Aside0.mk h
  clear h
  obtain ⟨x, hx⟩ : ∃ x, x = decide (0 ≤ a ∧ a < (n : Int)) := ⟨_, rfl⟩
  obtain ⟨y, hy⟩ : ∃ y, y = decide (0 ≤ b ∧ b < (n : Int)) := ⟨_, rfl⟩
  have HX := Aside0.mk hx
  have HY := Aside0.mk hy
  have e1 : okG n a = x := hx.symm
  have e2 : okG n b = y := hy.symm
  rw [e1, e2]
  clear hx hy e1 e2
  cases x with
  | false =>
    go_enter Tryd.func29, Tryd.ntmps29
    go_wp2_with (go_at_call 34; ((with_reducible refine (group_calls S w g n X a H.out).mono ?_); rintro e1 w1 ⟨rfl, rfl⟩; rw [← HX.out]))
    go_ret
    exact ⟨rfl, rfl⟩
  | true =>
    cases y with
    | false =>
      go_enter Tryd.func29, Tryd.ntmps29
      go_wp2_with (go_at_call 34; (first | ((with_reducible refine (group_calls S w g n X a H.out).mono ?_); rintro e1 w1 ⟨rfl, rfl⟩; rw [← HX.out]) | ((with_reducible refine (group_calls S _ g n X b H.out).mono ?_); rintro e1 w2 ⟨rfl, rfl⟩; rw [← HY.out])))
      go_ret
      exact ⟨rfl, rfl⟩
    | true =>
      go_enter Tryd.func29, Tryd.ntmps29
      go_wp2_with (go_at_call 34; (first | ((with_reducible refine (group_calls S w g n X a H.out).mono ?_); rintro e1 w1 ⟨rfl, rfl⟩; rw [← HX.out]) | ((with_reducible refine (group_calls S _ g n X b H.out).mono ?_); rintro e1 w2 ⟨rfl, rfl⟩; rw [← HY.out])))
      go_ret
      exact ⟨rfl, rfl⟩
set_option maxHeartbeats 2000000 in
theorem asked_nil (w : World) (a b : Int) : Calls Tryd.prog 29 #[.pointer none, .int .i64 a, .int .i64 b] w fun e w' => e = .returned (.int .i64 1) ∧ w' = w := by
  go_enter Tryd.func29, Tryd.ntmps29
  go_wp2
  go_ret
  exact ⟨rfl, rfl⟩
end Go.Proofs.YtmldefednihohaaDoor.Grp
