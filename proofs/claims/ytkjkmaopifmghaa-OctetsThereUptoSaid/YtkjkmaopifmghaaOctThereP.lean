/- What the walk of OctetsThere needs. -/
import Derived.Test.YtkjkmaopifmghaaOctBack
import Derived.Test.YtkjkmaopifmghaaOctAwake
namespace Go.Proofs.Ytkjkmaopifmghaa.Oct
open Go.RowKit Go.Proofs.YtkjkmaopifmghaaW.PrintWords Go.Proofs.YtkjkmaopifmghaaW.PrintLast Go.Proofs.YtkjkmaopifmghaaW.PrintMore Go.Proofs.Ytkjkmaopifmghaa.OctShort Go.Proofs.Ytkjkmaopifmghaa.OctCopy Go.Proofs.Ytkjkmaopifmghaa.OctNum Go.Proofs.Ytkjkmaopifmghaa.PureShort
set_option linter.unusedVariables false
set_option linter.unusedSimpArgs false
set_option maxRecDepth 100000
abbrev I64 : Kd Int := Kd.int .i64
theorem infoI : (Try.prog.info? 3).map (fun i => (i.zero, i.size, i.bytes)) = some (some (.int .i64 0), 1, 8) := by kernel_rfl
/-- All that was written, so far. -/
def cat (G : Nat → PutD) (J : Nat → Nat) : Nat → List Int
  | 0 => []
  | j + 1 => cat G J j ++ enc (G j) (J j)
def endsL (G : Nat → PutD) (J : Nat → Nat) : Nat → List Int
  | 0 => []
  | j + 1 => endsL G J j ++ [((cat G J (j + 1)).length : Int)]
theorem cat_len (G : Nat → PutD) (J : Nat → Nat) : ∀ j, (cat G J j).length ≤ tot G j := by
  intro j
  induction j with
  | zero => simp [cat]
  | succ j ih =>
    have := enc_len (G j) (J j)
    simp only [cat, tot, List.length_append]
    omega
theorem ends_len (G : Nat → PutD) (J : Nat → Nat) : ∀ j, (endsL G J j).length = j := by
  intro j
  induction j with
  | zero => rfl
  | succ j ih => simp [endsL, ih]
theorem tot_ge (G : Nat → PutD) : ∀ j, 16 * j ≤ tot G j := by
  intro j
  induction j with
  | zero => simp [tot]
  | succ j ih => simp only [tot]; omega
theorem PutOk.mono {a b : Nat} {d : PutD} (h : PutOk a d) (hab : a ≤ b) : PutOk b d := ⟨h.hc, fun ad ha hl => Nat.lt_of_lt_of_le (h.hA ad ha hl) hab, h.hb, h.hu, h.hi, h.hr, h.ht, h.hl⟩
theorem cat_pre (G : Nat → PutD) (J : Nat → Nat) (j : Nat) : ∀ d, ∃ X, cat G J (j + d) = cat G J j ++ X := by
  intro d
  induction d with
  | zero => exact ⟨[], by simp⟩
  | succ d ih =>
    obtain ⟨X, hX⟩ := ih
    exact ⟨X ++ enc (G (j + d)) (J (j + d)), by show cat G J (j + d) ++ _ = _; rw [hX, List.append_assoc]; rfl⟩
/-- What stands behind the first j things. -/
def rest (G : Nat → PutD) (J : Nat → Nat) (n j : Nat) : List Int := (cat G J n).drop (cat G J j).length
theorem rest_zero (G : Nat → PutD) (J : Nat → Nat) (n : Nat) : rest G J n 0 = cat G J n := rfl
theorem rest_end (G : Nat → PutD) (J : Nat → Nat) (n : Nat) : rest G J n n = [] := List.drop_eq_nil_of_le (Nat.le_refl _)
theorem rest_next (G : Nat → PutD) (J : Nat → Nat) (n j : Nat) (h : j < n) : rest G J n j = enc (G j) (J j) ++ rest G J n (j + 1) ∧ (cat G J (j + 1)).length ≤ (cat G J n).length ∧ (rest G J n (j + 1)).length = (cat G J n).length - (cat G J (j + 1)).length := by
  obtain ⟨X, hX⟩ := cat_pre G J (j + 1) (n - (j + 1))
  have e : j + 1 + (n - (j + 1)) = n := by omega
  rw [e] at hX
  refine ⟨?_, by rw [hX, List.length_append]; omega, by unfold rest; rw [List.length_drop]⟩
  unfold rest
  have h1 : cat G J (j + 1) = cat G J j ++ enc (G j) (J j) := rfl
  have h2 : (cat G J n).drop (cat G J (j + 1)).length = X := by rw [hX, List.drop_left]
  rw [h2, hX, h1, List.append_assoc, List.drop_left]
theorem ends_get (G : Nat → PutD) (J : Nat → Nat) : ∀ (n j : Nat), j < n → rd (endsL G J n) (j : Int) = ((cat G J (j + 1)).length : Int) := by
  intro n
  induction n with
  | zero => intro j h; omega
  | succ n ih =>
    intro j h
    have hl := ends_len G J n
    by_cases hj : j < n
    · rw [← ih j hj]
      show rdOf 0 (endsL G J n ++ _) _ = rdOf 0 _ _
      simp only [rdOf, Int.toNat_natCast, List.getD_eq_getElem?_getD]
      rw [List.getElem?_append_left (by omega)]
    · obtain rfl : j = n := by omega
      show rdOf 0 (endsL G J j ++ _) _ = _
      simp only [rdOf, Int.toNat_natCast, List.getD_eq_getElem?_getD]
      rw [List.getElem?_append_right (by omega), hl]
      simp
structure There1 (w : World) (gw : Nat) (G : Nat → PutD) (J : Nat → Nat) (j : Nat) (v : Value) (w' : World) : Prop where
  wr : ∃ Sw : Nat → Prop, WrAt w' gw Sw (cat G J j) ∧ (∀ k, Sw k → Own w k) ∧ (∀ k, v.ownBlock = some k → ¬ Sw k)
  r : I64.R 3 w' w.heap.size (fun _ => True) v (endsL G J j)
  fr : Fr w w' (Own w)
theorem There1.start (w W : World) (G : Nat → PutD) (J : Nat → Nat) (hf : Fr w W (Own w)) : There1 w W.heap.size G J 0 (.slice none 0 0) (W.alloc (.cells #[.slice none 0 0] 36)) :=
  ⟨⟨Own W, WrAt.new W, fun k hk => Nat.le_trans hf.1.size hk, fun k hk => by simp [Value.ownBlock] at hk⟩, Kd.R_nil _ _ _ _ _, hf.own (Fr.of_below (below_alloc (Below.refl _ _) _) (fun _ => False)) (fun _ h => h.elim)⟩
/-- One thing more has been written, W to W2; the list of ends is as it was. -/
theorem There1.write {w W W1 W2 : World} {gw : Nat} {G : Nat → PutD} {J : Nat → Nat} {j : Nat} {v : Value} {Sw : Nat → Prop} (hb : Below W.heap.size W W1) (hw : WrAt W1 gw Sw (cat G J j)) (hS : ∀ k, Sw k → Own w k) (hv : ∀ k, v.ownBlock = some k → ¬ Sw k)
    (hr : I64.R 3 W w.heap.size (fun _ => True) v (endsL G J j)) (hf : Fr w W (Own w)) (h2 : WrAt W2 gw (fun k => Sw k ∨ W1.heap.size ≤ k) (cat G J (j + 1))) (h3 : Fr W1 W2 Sw) :
    ∃ Sw2 : Nat → Prop, WrAt W2 gw Sw2 (cat G J (j + 1)) ∧ (∀ k, Sw2 k → Own w k ∧ k < W2.heap.size) ∧ (∀ k, v.ownBlock = some k → ¬ Sw2 k) ∧ I64.R 3 W2 w.heap.size (fun _ => True) v (endsL G J j) ∧ Fr w W2 (Own w) := by
  have hr1 := Kd.R_below hr hb
  have hlt : ∀ k, v.ownBlock = some k → k < W.heap.size := fun k hk => own_lt (Kd.own_of_R (enc := Value.int .i64) hr) k hk
  refine ⟨_, h2.lt, ?_, ?_, ?_, ?_⟩
  · rintro k ⟨hk | hk, hl⟩
    · exact ⟨hS k hk, hl⟩
    · exact ⟨Nat.le_trans (Nat.le_trans hf.1.size hb.size) hk, hl⟩
  · rintro k hk ⟨hs | hs, _⟩
    · exact hv k hk hs
    · have := hlt k hk
      have := hb.size
      omega
  · exact Kd.R_mono (Kd.R_kept (Kd.R_tight rfl hr1) h3.2 (fun k hk => hv k hk.symm)) (fun _ _ => trivial)
  · exact (hf.own (Fr.of_below hb (fun _ => False)) (fun _ h => h.elim)).own h3 hS
theorem There1.next {w w4 w5 w6 : World} {gw : Nat} {G : Nat → PutD} {J : Nat → Nat} {j : Nat} {v v6 : Value} {Sw2 : Nat → Prop} (h1 : WrAt w4 gw Sw2 (cat G J (j + 1))) (h2 : ∀ k, Sw2 k → Own w k ∧ k < w4.heap.size) (h3 : ∀ k, v.ownBlock = some k → ¬ Sw2 k) (b5 : Below w4.heap.size w4 w5)
    (ho : I64.R 3 w6 w.heap.size (fun _ => True) v6 (endsL G J j ++ [((cat G J (j + 1)).length : Int)])) (hb : Below w.heap.size w w6) (hg : w5.grownBy w6 v.ownBlock) (hat : v6.ownBlock = v.ownBlock ∨ ∃ b, v6.ownBlock = some b ∧ w5.heap.size ≤ b) : There1 w gw G J (j + 1) v6 w6 := by
  refine ⟨⟨Sw2, (h1.below b5).fr (Kept.of_grown hg (Kept.refl w5 (fun k => v.ownBlock = some k)) (fun k hk => .inl hk)) (fun k hs hv => h3 k hv hs), fun k hk => (h2 k hk).1, ?_⟩, ho, Fr.of_below hb _⟩
  intro k hk hs
  rcases hat with e | ⟨b, e, hl⟩
  · exact h3 k (e ▸ hk) hs
  · rw [e] at hk
    obtain rfl := Option.some.inj hk
    have := (h2 _ hs).2
    have := b5.size
    omega
/-- The ends, as they lie in memory. -/
def EndsAt (w : World) (A : Option Addr) (n hs : Nat) (l : List Int) : Prop := ∀ i, i < n → ∃ ad, A = some ad ∧ ad.block < hs ∧ w.cell? ((ad.add i)) = some (.int .i64 (rd l (i : Int)))
theorem ends_at {w W : World} {base : Nat} {v : Value} {l : List Int} {n : Nat} (h : I64.R 3 w base (fun _ => True) v l) (hn : l.length = n) (hb : Below w.heap.size w W) : ∃ A c, v = .slice A n c ∧ EndsAt W A n w.heap.size l := by
  obtain ⟨A, c, hv⟩ := Kd.R_slice h
  subst hv
  refine ⟨A, c, by rw [hn], fun i hi => ?_⟩
  obtain ⟨ad, ha, hc⟩ := Kd.at_int (Kd.R_reads' h).2.2 (i : Int) (by omega) (by omega)
  have hc' : w.cell? (ad.add i) = some (.int .i64 (rd l (i : Int))) := by simpa using hc
  have hlt := World.block_lt_of_cell? w _ hc'
  refine ⟨ad, ha, by simpa [block_addO] using hlt, (hb.cell hlt).trans hc'⟩
theorem EndsAt.kept {w w' : World} {A : Option Addr} {n hs : Nat} {l : List Int} {T : Nat → Prop} (h : EndsAt w A n hs l) (hk : Kept w w' T) (hT : ∀ ad, A = some ad → ad.block < hs → ¬ T ad.block) : EndsAt w' A n hs l := by
  intro i hi
  obtain ⟨ad, ha, hb, hc⟩ := h i hi
  have hlt := World.block_lt_of_cell? w _ hc
  refine ⟨ad, ha, hb, ?_⟩
  rw [World.cell?_of_block (w := w) (w' := w') (a := ad.add i) (hk.2 _ hlt (by rw [block_addO]; exact hT _ ha hb))]
  exact hc
theorem pick_big (a : Int) (n : Nat) (hn : 0 < n) (hn' : n ≤ 4611686018427387904) : ∃ j : Nat, j < n ∧ latchkeykit_Pick.f a (n : Int) = some (j : Int) := by
  unfold latchkeykit_Pick.f
  rw [if_neg (by omega), if_neg (by omega)]
  have h1 : Int.tmod a n < n := Int.tmod_lt_of_pos a (by omega)
  have h2 : -(n : Int) < Int.tmod a n := by
    have := Int.lt_tmod_of_pos a (b := (n : Int)) (by omega)
    omega
  by_cases h : Int.tmod a n < 0
  · rw [if_pos h]
    have : wrap64 (Int.tmod a n + n) = Int.tmod a n + n := by unfold wrap64; omega
    rw [this]
    exact ⟨(Int.tmod a n + n).toNat, by omega, by congr 1; omega⟩
  · rw [if_neg h]
    exact ⟨(Int.tmod a n).toNat, by omega, by congr 1; omega⟩
theorem back_any (w : World) (g : Nat) (S : Nat → Prop) (d : PutD) (j : Nat) (rest : List Int) (hj : j < 6) (hrest : ∀ x ∈ rest, 0 ≤ x ∧ x < 256) (hlr : (enc d j ++ rest).length ≤ 140737488351232) (h : RdAt w g S (enc d j ++ rest) 0) (hd : PutOk w.heap.size d) (hA : U8.C w d.A d.raw.length d.raw) (hgA : ∀ ad, d.A = some ad → 0 < d.raw.length → ad.block ≠ g) (hp : latchkeykit_Pick.f d.kind 6 = some (j : Int)) :
    Calls Try.prog 46 #[.pointer (some ⟨g, 0, none⟩), d.val] w fun e w' => e = .returned (.bool true) ∧ RdAt w' g S rest 0 ∧ Fr w w' (fun k => k = g) := by
  rcases (by omega : j = 0 ∨ j = 1 ∨ j = 2 ∨ j = 3 ∨ j = 4 ∨ j = 5) with rfl | rfl | rfl | rfl | rfl | rfl
  · exact back_ok0 w g d rest hrest hlr h hd hA hp
  · exact back_ok1 w g d rest hrest hlr h hd hA hp
  · exact back_ok2 w g d rest hrest hlr h hd hA hp
  · exact back_ok3 w g d rest hrest hlr h hd hA hp
  · exact back_ok4 w g d rest hrest hlr h hd hA hp
  · exact back_ok5 w g d rest hrest hlr h hd hA hgA hp
theorem back_none (w : World) (g : Nat) (S : Nat → Prop) (d : PutD) (j m : Nat) (l : List Int) (hj : j < 6) (hm : m < (enc d j).length) (hl : l = (enc d j).take m) (h : RdAt w g S l 0) (hd : PutOk w.heap.size d) (hA : U8.C w d.A d.raw.length d.raw) (hgA : ∀ ad, d.A = some ad → 0 < d.raw.length → ad.block ≠ g) (hp : latchkeykit_Pick.f d.kind 6 = some (j : Int)) :
    Calls Try.prog 46 #[.pointer (some ⟨g, 0, none⟩), d.val] w fun e w' => (∃ b, e = .returned (.bool b)) ∧ RdAt w' g S l 20 ∧ Fr w w' (fun k => k = g) := by
  rcases (by omega : j = 0 ∨ j = 1 ∨ j = 2 ∨ j = 3 ∨ j = 4 ∨ j = 5) with rfl | rfl | rfl | rfl | rfl | rfl
  · exact back_no0 w g d m l hm hl h hd hA hp
  · exact back_no1 w g d m l hm hl h hd hA hp
  · exact back_no2 w g d m l hm hl h hd hA hp
  · exact back_no3 w g d m l hm hl h hd hA hp
  · exact back_no4 w g d m l hm hl h hd hA hp
  · exact back_no5 w g d m l hm hl h hd hA hgA hp
theorem RdAt.own {w : World} {g : Nat} {S : Nat → Prop} {l : List Int} {e : Int} (h : RdAt w g S l e) : S g := by
  obtain ⟨_, _, _, _, _, h, _⟩ := h
  exact h
/-- What stands when all has been written. -/
structure ThereB (w W : World) (gr gq hs : Nat) (S1 S2 : Nat → Prop) (A5 A8 : Option Addr) (n : Nat) (l L E : List Int) : Prop where
  low : Below w.heap.size w W
  big : w.heap.size ≤ hs
  r : RdAt W gr S1 l 0
  q : RdAt W gq S2 L 0
  s1 : ∀ k, S1 k → hs ≤ k
  s2 : ∀ k, S2 k → hs ≤ k
  ds : ∀ k, S1 k → S2 k → False
  b : U8.C W A5 l.length l
  bb : ∀ ad, A5 = some ad → ad.block < hs
  e : EndsAt W A8 n hs E
theorem there_b {w wr w5 w6 w7 w8 w9 w10 : World} {gr gq n c5 : Nat} {A5 : Option Addr} {u8 : Value} {l L E : List Int} {Sw : Nat → Prop} (hE : E.length = n) (HF : Fr w wr (Own w)) (HS : ∀ k, Sw k → Own w k) (HV : ∀ k, u8.ownBlock = some k → ¬ Sw k) (HRR : I64.R 3 wr w.heap.size (fun _ => True) u8 E)
    (Q5 : U8.R 5 w5 wr.heap.size (fun _ => True) (.slice A5 l.length c5) l) (B5 : Below wr.heap.size wr w5) (B6 : Below w5.heap.size w5 w6) (F7 : Fr w6 w7 (fun k => Sw k ∧ k < wr.heap.size)) (C7 : U8.C w7 A5 l.length l) (B8 : Below w7.heap.size w7 w8) (R8 : RdAt w8 gr (fun k => w7.heap.size ≤ k ∧ k < w8.heap.size) l 0) (B9 : Below w8.heap.size w8 w9)
    (R10 : RdAt w10 gq (fun k => w9.heap.size ≤ k ∧ k < w10.heap.size) L 0) (B10 : Below w9.heap.size w9 w10) :
    ∃ A8 c8, u8 = .slice A8 n c8 ∧ ThereB w w10 gr gq w7.heap.size (fun k => w7.heap.size ≤ k ∧ k < w8.heap.size) (fun k => w9.heap.size ≤ k ∧ k < w10.heap.size) A5 A8 n l L E := by
  obtain ⟨A8, c8, rfl, he⟩ := ends_at HRR hE (below_step B5 B6)
  have hs5 := B5.size
  have hs6 := B6.size
  have hs7 := F7.1.size
  have hs8 := B8.size
  have hs9 := B9.size
  have hs0 := HF.1.size
  have f7 := ((HF.own (Fr.of_below B5 (fun _ => False)) (fun _ h => h.elim)).own (Fr.of_below B6 (fun _ => False)) (fun _ h => h.elim)).own F7 (fun k hk => HS k hk.1)
  have b710 := below_step (below_step B8 B9) B10
  have f10 := f7.own (Fr.of_below b710 (fun _ => False)) (fun _ h => h.elim)
  refine ⟨A8, c8, rfl, ⟨f10.low, by omega, R8.below (below_step B9 B10), R10, fun k h => h.1, fun k h => by have := h.1; omega, fun k h1 h2 => by have := h1.2; have := h2.1; omega, Kd.C_below C7 b710, ?_, ?_⟩⟩
  · intro ad ha
    have h := own_lt (Kd.own_of_R Q5) ad.block (by rw [ha]; rfl)
    omega
  · have h7 := he.kept F7.2 (fun ad ha hb hT => HV ad.block (by rw [ha]; rfl) hT.1)
    have h10 := h7.kept (Fr.of_below b710 (fun _ => False)).2 (fun _ _ _ h => h)
    intro i hi
    obtain ⟨ad, h1, h2, h3⟩ := h10 i hi
    exact ⟨ad, h1, by omega, h3⟩
structure There2 (W : World) (gr gq : Nat) (S1 S2 : Nat → Prop) (l1 l2 : List Int) (w' : World) : Prop where
  r : RdAt w' gr S1 l1 0
  q : RdAt w' gq S2 l2 0
  fr : Fr W w' (fun k => k = gr ∨ k = gq)
theorem There2.below {W : World} {gr gq : Nat} {S1 S2 : Nat → Prop} {l1 l2 : List Int} {w' w2 : World} (h : There2 W gr gq S1 S2 l1 l2 w') (hb : Below w'.heap.size w' w2) : There2 W gr gq S1 S2 l1 l2 w2 :=
  ⟨h.r.below hb, h.q.below hb, h.fr.then_ (Fr.of_below hb (fun _ => False)) (fun _ h => h.elim)⟩
section
variable {w W : World} {gr gq hs : Nat} {S1 S2 : Nat → Prop} {A5 A8 : Option Addr} {n : Nat} {l L E : List Int} (hB : ThereB w W gr gq hs S1 S2 A5 A8 n l L E)
include hB
theorem ThereB.start : There2 W gr gq S1 S2 l L W := ⟨hB.r, hB.q, Fr.of_below (Below.refl _ _) _⟩
theorem ThereB.lowT {w' : World} (h : Fr W w' (fun k => k = gr ∨ k = gq)) : Below w.heap.size w w' :=
  ((Fr.of_below hB.low (Own w)).own h (fun k hk => by
    have := hB.big
    have h1 := hB.s1 gr hB.r.own
    have h2 := hB.s2 gq hB.q.own
    show w.heap.size ≤ k
    rcases hk with rfl | rfl <;> omega)).low
theorem ThereB.ends {w' : World} (h : Fr W w' (fun k => k = gr ∨ k = gq)) : EndsAt w' A8 n hs E :=
  hB.e.kept h.2 (fun ad _ hl hk => by
    have h1 := hB.s1 gr hB.r.own
    have h2 := hB.s2 gq hB.q.own
    rcases hk with e | e <;> omega)
theorem ThereB.bAt {w' : World} (h : Fr W w' (fun k => k = gr ∨ k = gq)) : U8.C w' A5 l.length l :=
  C_kept hB.b h.2 (fun ad ha hk => by
    have h0 := hB.bb ad ha
    have h1 := hB.s1 gr hB.r.own
    have h2 := hB.s2 gq hB.q.own
    rcases hk with e | e <;> omega)
theorem There2.back_r {d : PutD} {j : Nat} {l1 l2 : List Int} {w' w2 : World} (h : There2 W gr gq S1 S2 (enc d j ++ l1) l2 w') (hb : Below w'.heap.size w' w2) {p : Addr} (hP : PutAt w p d) (hO : PutOk w.heap.size d) (hj : j < 6) (hp : latchkeykit_Pick.f d.kind 6 = some (j : Int)) (h1 : ∀ x ∈ l1, 0 ≤ x ∧ x < 256) (hl : (enc d j ++ l1).length ≤ 140737488351232) :
    Calls Try.prog 46 #[.pointer (some ⟨gr, 0, none⟩), .agg #[.int .i64 d.on, .int .i64 d.kind, .int .u64 d.u, .int .i64 d.i, .float .f32 d.r, .string d.t, .slice d.A d.raw.length d.c]] w2 fun e w3 => e = .returned (.bool true) ∧ There2 W gr gq S1 S2 l1 l2 w3 := by
  have h2 := h.below hb
  have hlow := hB.lowT h2.fr
  have hg := hB.s1 gr hB.r.own
  have hbig := hB.big
  refine (back_any w2 gr S1 d j l1 hj h1 hl h2.r (hO.mono hlow.size) (Kd.C_below hP.raw hlow) (fun ad ha hl_ => by have := hO.hA ad ha hl_; omega) hp).mono ?_
  rintro e w3 ⟨rfl, r3, f3⟩
  exact ⟨rfl, ⟨r3, h2.q.fr f3.2 (fun k hk he => hB.ds gr hB.r.own (he ▸ hk)), h2.fr.then_ f3 (fun k hk => .inl (.inl hk))⟩⟩
theorem There2.back_q {d : PutD} {j : Nat} {l1 l2 : List Int} {w' w2 : World} (h : There2 W gr gq S1 S2 l1 (enc d j ++ l2) w') (hb : Below w'.heap.size w' w2) {p : Addr} (hP : PutAt w p d) (hO : PutOk w.heap.size d) (hj : j < 6) (hp : latchkeykit_Pick.f d.kind 6 = some (j : Int)) (h1 : ∀ x ∈ l2, 0 ≤ x ∧ x < 256) (hl : (enc d j ++ l2).length ≤ 140737488351232) :
    Calls Try.prog 46 #[.pointer (some ⟨gq, 0, none⟩), .agg #[.int .i64 d.on, .int .i64 d.kind, .int .u64 d.u, .int .i64 d.i, .float .f32 d.r, .string d.t, .slice d.A d.raw.length d.c]] w2 fun e w3 => e = .returned (.bool true) ∧ There2 W gr gq S1 S2 l1 l2 w3 := by
  have h2 := h.below hb
  have hlow := hB.lowT h2.fr
  have hg := hB.s2 gq hB.q.own
  have hbig := hB.big
  refine (back_any w2 gq S2 d j l2 hj h1 hl h2.q (hO.mono hlow.size) (Kd.C_below hP.raw hlow) (fun ad ha hl_ => by have := hO.hA ad ha hl_; omega) hp).mono ?_
  rintro e w3 ⟨rfl, r3, f3⟩
  exact ⟨rfl, ⟨h2.r.fr f3.2 (fun k hk he => hB.ds gq (he ▸ hk) hB.q.own), r3, h2.fr.then_ f3 (fun k hk => .inl (.inr hk))⟩⟩
end
theorem three_end {w W : World} {gr gq hs : Nat} {S1 S2 : Nat → Prop} {A5 : Option Addr} {n : Nat} {l L : List Int} {G : Nat → PutD} {J : Nat → Nat} {a8 : Addr} {l1 l2 : List Int} {w' : World} {j : Nat} (hB : ThereB w W gr gq hs S1 S2 A5 (some a8) n l L (endsL G J n)) (h : There2 W gr gq S1 S2 l1 l2 w') (hj : j < n) : w'.cell? (a8.add j) = some (.int .i64 ((cat G J (j + 1)).length : Int)) := by
  obtain ⟨b8, e, _, e0⟩ := hB.ends h.fr j hj
  obtain rfl := Option.some.inj e
  rw [ends_get G J n j hj] at e0
  exact e0
theorem there_sub {a b c : Nat} (h1 : b ≤ a) (h2 : a ≤ 1073741824) (h3 : c = a - b) : ((c : Int) != IntKind.i64.wrap ((a : Int) - (b : Int))) = false := by
  rw [IntKind.wrap_i64]
  have : (c : Int) = ((a : Int) - (b : Int) + 9223372036854775808) % 18446744073709551616 - 9223372036854775808 := by omega
  simpa using this
theorem C_cut {w : World} {A : Option Addr} {l M : List Int} {N : Nat} (h : U8.C w A l.length l) (hM : M = l.take N) (hN : N ≤ l.length) : U8.C w A M.length M := by
  subst hM
  have := ReadsInt.take_ (k := .u8) (Kd.reads_of_C (d := (0 : Int)) h) N hN
  have h2 : (l.take N).length = N := by rw [List.length_take]; omega
  rw [h2]
  exact Kd.C_of_reads (enc := Value.int .u8) (d := (0 : Int)) this
theorem end_more (l : List Int) : (!(endOf l 0 == 23) == decide (0 < l.length)) = false := by
  cases l with
  | nil => rfl
  | cons x l => simp [endOf]
theorem end_20 (l : List Int) : endOf l 20 = 20 := by unfold endOf; rw [if_neg (by omega)]
/-- The third Reader, over the first N bytes. -/
structure There3 (w W : World) (gs hs : Nat) (S3 : Nat → Prop) (A8 : Option Addr) (n : Nat) (E : List Int) (l : List Int) (w' : World) : Prop where
  low : Below w.heap.size w w'
  r : RdAt w' gs S3 l 0
  gs : w.heap.size ≤ gs ∧ hs ≤ gs
  e : EndsAt w' A8 n hs E
theorem There3.below {w W w' w2 : World} {gs hs : Nat} {S3 : Nat → Prop} {A8 : Option Addr} {n : Nat} {E l : List Int} (h : There3 w W gs hs S3 A8 n E l w') (hb : Below w'.heap.size w' w2) : There3 w W gs hs S3 A8 n E l w2 :=
  ⟨below_step h.low hb, h.r.below hb, h.gs, h.e.kept (Fr.of_below hb (fun _ => False)).2 (fun _ _ _ h => h)⟩
theorem There3.fr {w W w' w2 : World} {gs hs : Nat} {S3 : Nat → Prop} {A8 : Option Addr} {n : Nat} {E l l2 : List Int} (h : There3 w W gs hs S3 A8 n E l w') (hr : RdAt w2 gs S3 l2 0) (hf : Fr w' w2 (fun k => k = gs)) : There3 w W gs hs S3 A8 n E l2 w2 :=
  ⟨((Fr.of_below h.low (Own w)).own hf (fun k hk => by have := h.gs.1; show w.heap.size ≤ k; omega)).low, hr, h.gs, h.e.kept hf.2 (fun ad _ hl hk => by have := h.gs.2; omega)⟩
theorem There3.start {w W wr w2 w3 : World} {gr gq gs hs : Nat} {S1 S2 : Nat → Prop} {A5 A8 : Option Addr} {n : Nat} {l L E l1 l2 M : List Int} (hB : ThereB w W gr gq hs S1 S2 A5 A8 n l L E) (h : There2 W gr gq S1 S2 l1 l2 wr) (b2 : Below wr.heap.size wr w2) (b3 : Below w2.heap.size w2 w3) (hg : w2.heap.size ≤ gs) (hr : RdAt w3 gs (fun k => w2.heap.size ≤ k ∧ k < w3.heap.size) M 0) : There3 w W gs hs (fun k => w2.heap.size ≤ k ∧ k < w3.heap.size) A8 n E M w3 := by
  have h0 := hB.s1 gr hB.r.own
  have h1 : gr < wr.heap.size := by obtain ⟨_, _, h, _⟩ := h.r; exact blk_lt h
  have h2 := b2.size
  have hlow := hB.lowT h.fr
  have h3 := hlow.size
  exact ⟨below_step (below_step hlow b2) b3, hr, ⟨by omega, by omega⟩, ((hB.ends h.fr).kept (Fr.of_below b2 (fun _ => False)).2 (fun _ _ _ h => h)).kept (Fr.of_below b3 (fun _ => False)).2 (fun _ _ _ h => h)⟩
theorem There3.end_ {w W w' : World} {gs hs n j : Nat} {S3 : Nat → Prop} {a8 : Addr} {G : Nat → PutD} {J : Nat → Nat} {l : List Int} (h : There3 w W gs hs S3 (some a8) n (endsL G J n) l w') (hj : j < n) : w'.cell? (a8.add j) = some (.int .i64 ((cat G J (j + 1)).length : Int)) := by
  obtain ⟨b8, e, _, e0⟩ := h.e j hj
  obtain rfl := Option.some.inj e
  rw [ends_get G J n j hj] at e0
  exact e0
theorem There3.back_ok {w W w' w2 : World} {gs hs : Nat} {S3 : Nat → Prop} {A8 : Option Addr} {n : Nat} {E l1 : List Int} {p : Addr} {d : PutD} {j : Nat} (h : There3 w W gs hs S3 A8 n E (enc d j ++ l1) w') (hb : Below w'.heap.size w' w2) (hP : PutAt w p d) (hO : PutOk w.heap.size d) (hj : j < 6) (hp : latchkeykit_Pick.f d.kind 6 = some (j : Int)) (h1 : ∀ x ∈ l1, 0 ≤ x ∧ x < 256) (hl : (enc d j ++ l1).length ≤ 140737488351232) :
    Calls Try.prog 46 #[.pointer (some ⟨gs, 0, none⟩), .agg #[.int .i64 d.on, .int .i64 d.kind, .int .u64 d.u, .int .i64 d.i, .float .f32 d.r, .string d.t, .slice d.A d.raw.length d.c]] w2 fun e w3 => e = .returned (.bool true) ∧ There3 w W gs hs S3 A8 n E l1 w3 := by
  have h2 := h.below hb
  have hg := h.gs.1
  refine (back_any w2 gs S3 d j l1 hj h1 hl h2.r (hO.mono h2.low.size) (Kd.C_below hP.raw h2.low) (fun ad ha hl_ => by have := hO.hA ad ha hl_; omega) hp).mono ?_
  rintro e w3 ⟨rfl, r3, f3⟩
  exact ⟨rfl, h2.fr r3 f3⟩
theorem There3.back_no {w W w' w2 : World} {gs hs : Nat} {S3 : Nat → Prop} {A8 : Option Addr} {n : Nat} {E l : List Int} {p : Addr} {d : PutD} {j m : Nat} (h : There3 w W gs hs S3 A8 n E l w') (hb : Below w'.heap.size w' w2) (hP : PutAt w p d) (hO : PutOk w.heap.size d) (hj : j < 6) (hp : latchkeykit_Pick.f d.kind 6 = some (j : Int)) (hm : m < (enc d j).length) (hl : l = (enc d j).take m) :
    Calls Try.prog 46 #[.pointer (some ⟨gs, 0, none⟩), .agg #[.int .i64 d.on, .int .i64 d.kind, .int .u64 d.u, .int .i64 d.i, .float .f32 d.r, .string d.t, .slice d.A d.raw.length d.c]] w2 fun e w3 => (∃ b, e = .returned (.bool b)) ∧ RdAt w3 gs S3 l 20 ∧ Below w.heap.size w w3 := by
  have h2 := h.below hb
  have hg := h.gs.1
  refine (back_none w2 gs S3 d j m l hj hm hl h2.r (hO.mono h2.low.size) (Kd.C_below hP.raw h2.low) (fun ad ha hl_ => by have := hO.hA ad ha hl_; omega) hp).mono ?_
  rintro e w3 ⟨e1, r3, f3⟩
  exact ⟨e1, r3, ((Fr.of_below h2.low (Own w)).own f3 (fun k hk => by show w.heap.size ≤ k; omega)).low⟩
theorem cat_in (G : Nat → PutD) (J : Nat → Nat) (hs n : Nat) (h : ∀ i, i < n → PutOk hs (G i)) : ∀ x ∈ cat G J n, 0 ≤ x ∧ x < 256 := by
  induction n with
  | zero => intro x hx; cases hx
  | succ n ih =>
    intro x hx
    rcases List.mem_append.1 hx with hx | hx
    · exact ih (fun i hi => h i (by omega)) x hx
    · exact PureBack.enc_in hs (G n) (h n (by omega)) (J n) x hx
/-- What of the first N bytes stands behind the first j things. -/
def rest3 (G : Nat → PutD) (J : Nat → Nat) (n N j : Nat) : List Int := ((cat G J n).take N).drop (cat G J j).length
theorem rest3_ok (G : Nat → PutD) (J : Nat → Nat) (n N j : Nat) (h : j < n) (hN : (cat G J (j + 1)).length ≤ N) : rest3 G J n N j = enc (G j) (J j) ++ rest3 G J n N (j + 1) := by
  obtain ⟨X, hX⟩ := cat_pre G J (j + 1) (n - (j + 1))
  rw [show j + 1 + (n - (j + 1)) = n by omega] at hX
  unfold rest3
  rw [hX, List.take_append, List.take_of_length_le hN, List.drop_left]
  show (cat G J j ++ enc (G j) (J j) ++ _).drop _ = _
  rw [List.append_assoc, List.drop_left]
theorem rest3_no (G : Nat → PutD) (J : Nat → Nat) (n N j : Nat) (h : j < n) (h0 : (cat G J j).length ≤ N) (hN : N < (cat G J (j + 1)).length) : N - (cat G J j).length < (enc (G j) (J j)).length ∧ rest3 G J n N j = (enc (G j) (J j)).take (N - (cat G J j).length) := by
  obtain ⟨X, hX⟩ := cat_pre G J (j + 1) (n - (j + 1))
  rw [show j + 1 + (n - (j + 1)) = n by omega] at hX
  have hc : cat G J (j + 1) = cat G J j ++ enc (G j) (J j) := rfl
  have hlen : (cat G J (j + 1)).length = (cat G J j).length + (enc (G j) (J j)).length := by rw [hc, List.length_append]
  refine ⟨by omega, ?_⟩
  unfold rest3
  rw [hX, List.take_append, show N - (cat G J (j + 1)).length = 0 by omega, List.take_zero, List.append_nil, hc, List.take_append, List.take_of_length_le h0, List.drop_left]
theorem rest3_in (G : Nat → PutD) (J : Nat → Nat) (n N j : Nat) (h : ∀ x ∈ cat G J n, 0 ≤ x ∧ x < 256) : ∀ x ∈ rest3 G J n N j, 0 ≤ x ∧ x < 256 := fun x hx => h x (List.mem_of_mem_take (List.mem_of_mem_drop hx))
theorem rest3_len (G : Nat → PutD) (J : Nat → Nat) (n N j : Nat) : (rest3 G J n N j).length ≤ (cat G J n).length := by
  unfold rest3
  rw [List.length_drop, List.length_take]
  omega
theorem rest_in (G : Nat → PutD) (J : Nat → Nat) (n j : Nat) (h : ∀ x ∈ cat G J n, 0 ≤ x ∧ x < 256) : ∀ x ∈ rest G J n j, 0 ≤ x ∧ x < 256 := fun x hx => h x (List.mem_of_mem_drop hx)
theorem rest_len (G : Nat → PutD) (J : Nat → Nat) (n j : Nat) : (rest G J n j).length ≤ (cat G J n).length := by
  unfold rest
  rw [List.length_drop]
  omega
end Go.Proofs.Ytkjkmaopifmghaa.Oct
