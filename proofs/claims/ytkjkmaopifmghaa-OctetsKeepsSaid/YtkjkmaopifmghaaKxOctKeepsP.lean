/- What the walk of OctetsKeeps needs: rows by the time they were made. -/
import Derived.Test.YtkjkmaopifmghaaKxOctApart
import Derived.Test.YtkjkmaopifmghaaKxOctWrite
import Derived.Test.YtkjkmaopifmghaaK3
import Derived.Test.YtkjkmaopifmghaaK5
import Derived.Test.YtkjkmaopifmghaaKxPureUna
namespace Go.Proofs.Ytkjkmaopifmghaa.Oct
open Go.RowKit Go.Proofs.YtkjkmaopifmghaaW.PrintWords Go.Proofs.YtkjkmaopifmghaaW.PrintLast Go.Proofs.YtkjkmaopifmghaaW.PrintMore Go.Proofs.Ytkjkmaopifmghaa.OctShort Go.Proofs.Ytkjkmaopifmghaa.OctCopy Go.Proofs.Ytkjkmaopifmghaa.OctNum Go.Proofs.Ytkjkmaopifmghaa.PureShort
set_option linter.unusedVariables false
set_option linter.unusedSimpArgs false
set_option maxRecDepth 100000
/-- A row of bytes whose block was made between two times. -/
def Made (s t : Nat) (w : World) (v : Value) (l : List Int) : Prop := U8.R 5 w 0 (fun _ => True) v l ∧ ∀ b, v.ownBlock = some b → s ≤ b ∧ b < t
theorem Made.new {w w' : World} {v : Value} {l : List Int} (h : U8.R 5 w' w.heap.size (fun _ => True) v l) : Made w.heap.size w'.heap.size w' v l := ⟨Kd.R_lower h (Nat.zero_le _), fun b hb => ⟨own_ge h b hb, own_lt' h b hb⟩⟩
theorem Made.fr {s t : Nat} {w w' : World} {v : Value} {l : List Int} {S : Nat → Prop} (h : Made s t w v l) (hf : Fr w w' S) (hS : ∀ b, S b → b < s ∨ t ≤ b) : Made s t w' v l :=
  ⟨other h.1 hf.2 (fun b hb hs => by have h1 := h.2 b hb; have h2 := hS b hs; omega), h.2⟩
theorem Made.below {s t : Nat} {w w' : World} {v : Value} {l : List Int} (h : Made s t w v l) (hb : Below w.heap.size w w') : Made s t w' v l := ⟨Kd.R_below h.1 hb, h.2⟩
theorem Made.reads {s t : Nat} {w : World} {A : Option Addr} {n c : Nat} {l : List Int} (h : Made s t w (.slice A n c) l) : n = l.length ∧ l.length ≤ c ∧ U8.C w A l.length l := by
  obtain ⟨h1, h2, h3⟩ := Kd.R_reads' h.1
  exact ⟨h1, by omega, h3⟩
theorem below_fr {w w' : World} (h : Below w.heap.size w w') (S : Nat → Prop) : Fr w w' S := Fr.of_below h S
/-- Seven rows that were made one behind the other lie apart. -/
theorem st_of {w : World} (P : Nat → Sl) (L : Nat → List Int) (lo hi : Nat → Nat) (hM : ∀ k, k < 7 → Made (lo k) (hi k) w (sv (P k)) (L k)) (hlh : ∀ i, i < 7 → ∀ j, j < 7 → i < j → hi i ≤ lo j) (cells : Array Value) (hc : ∀ k, k < 7 → cells[k]? = some (sv (P k))) :
    St 7 w.heap.size (fun k => (P k).1) (fun k => (P k).2.1) (fun k => (P k).2.2) (w.alloc (.cells cells 22)) (w.alloc (.cells cells 22)) L := by
  have hb : Below w.heap.size w (w.alloc (.cells cells 22)) := below_alloc (Below.refl _ _) _
  have hlt : ∀ i, i < 7 → ∀ b, (sv (P i)).ownBlock = some b → b < w.heap.size := fun i hi b hb => own_lt' (hM i hi).1 b hb
  refine ⟨fun k hk => ?_, by simp, fun k hk => Kd.R_below (hM k hk).1 hb, Fr.refl _ _, fun i hi j hj hne b hbi hbj => ?_, fun i hi e => ?_, fun i hi b hb1 => Nat.lt_of_lt_of_le (hlt i hi b hb1) hb.size⟩
  · have hn := heap_alloc_new w (.cells cells 22)
    unfold World.cell?
    dsimp only
    rw [hn]
    exact hc k hk
  · have h1 := (hM i hi).2 b hbi
    have h2 := (hM j hj).2 b hbj
    rcases Nat.lt_or_ge i j with h | h
    · have := hlh i hi j hj h; omega
    · have := hlh j hj i hi (by omega); omega
  · have := hlt i hi _ e
    omega
theorem same_calls (w : World) (A0 A1 : Option Addr) (n0 c0 n1 c1 : Nat) (l : List Int) (h0 : n0 = l.length) (h1 : n1 = l.length) (C0 : U8.C w A0 l.length l) (hc0 : l.length ≤ c0) (C1 : U8.C w A1 l.length l) (hc1 : l.length ≤ c1) (hl : l.length ≤ 140737488351232) :
    Calls Try.prog 22 #[.slice A0 n0 c0, .slice A1 n1 c1] w fun e w' => e = .returned (.bool true) ∧ Drawn0 w w' := by
  subst h0
  subst h1
  exact latchkeyref00_SameBytes.calls (l.length + 1) A0 c0 l A1 c1 l true w C0 hc0 C1 hc1 (PureForms.same_self l hl (by omega))
theorem putOk_mono {a b : Nat} {d : PutD} (h : PutOk a d) (hab : a ≤ b) : PutOk b d := ⟨h.hc, fun ad ha hl => Nat.lt_of_lt_of_le (h.hA ad ha hl) hab, h.hb, h.hu, h.hi, h.hr, h.ht, h.hl⟩
def catK (G : Nat → PutD) (J : Nat → Nat) : Nat → List Int
  | 0 => []
  | j + 1 => catK G J j ++ enc (G j) (J j)
theorem catK_len (G : Nat → PutD) (J : Nat → Nat) : ∀ j, (catK G J j).length ≤ tot G j := by
  intro j
  induction j with
  | zero => simp [catK]
  | succ j ih =>
    have := enc_len (G j) (J j)
    simp only [catK, tot, List.length_append]
    omega
/-- The Writer behind j writes. -/
def KRel (w : World) (gw : Nat) (G : Nat → PutD) (J : Nat → Nat) (j : Nat) (w' : World) : Prop := WrAt w' gw (Own w) (catK G J j) ∧ Fr w w' (Own w)
theorem KRel.next {w W W2 W3 : World} {gw j : Nat} {G : Nat → PutD} {J : Nat → Nat} (h : KRel w gw G J j W) (hb : Below W.heap.size W W2) (h1 : WrAt W3 gw (fun k => Own w k ∨ W2.heap.size ≤ k) (catK G J j ++ enc (G j) (J j))) (h2 : Fr W2 W3 (Own w)) : KRel w gw G J (j + 1) W3 :=
  ⟨h1.own (Nat.le_trans h.2.1.size hb.size), (h.2.own (Fr.of_below hb (fun _ => False)) (fun _ h => h.elim)).own h2 (fun _ h => h)⟩
theorem raw_part (b : List Int) (j : Nat) (hj : j ≤ b.length) : mRaw (j : Int) b 0 = (b.take j, b.drop j, 0) := by
  unfold mRaw
  rw [if_neg (by simp), if_neg (by omega), if_neg (by omega)]
  simp
theorem raw_rest (b : List Int) (j : Nat) (hj : j ≤ b.length) : mRaw ((b.length : Int) - (j : Int)) (b.drop j) 0 = (b.drop j, [], 0) := by
  have hl : (b.drop j).length = b.length - j := by simp
  have e : ((b.length : Int) - (j : Int)).toNat = (b.drop j).length := by omega
  unfold mRaw
  rw [if_neg (by simp), if_neg (by omega), if_neg (by rw [hl]; omega), e, List.take_length, List.drop_length]
theorem LentAt.lt {w : World} {g cap : Nat} {raw : List Int} (h : LentAt w g cap raw) : g < w.heap.size := by
  obtain ⟨_, h, _⟩ := h.blk
  exact blk_lt h
theorem RdAt.in_ {w : World} {g : Nat} {S : Nat → Prop} {l : List Int} {e : Int} (h : RdAt w g S l e) : S g := by
  obtain ⟨_, _, _, _, _, h, _⟩ := h
  exact h
theorem Fr.wide {w w' : World} {S T : Nat → Prop} (h : Fr w w' S) (hs : ∀ k, S k → T k) : Fr w w' T := ⟨h.1, h.2.mono hs⟩
/-- What stands when all that is held apart has been made: by the times s0 .. s14. -/
structure KMid (w W : World) (gw gr gq : Nat) (L0 x y : List Int) (b : List Int) (s0 s1 s2 s3 s5 s6 s7 s8 s9 s10 s11 s12 s13 s14 : Nat) (v1 v2 v3 v8 v9 v11 v12 v14 : Value) : Prop where
  m1 : Made s0 s1 W v1 L0
  m2 : Made s1 s2 W v2 L0
  m3 : Made s2 s3 W v3 L0
  m8 : Made s7 s8 W v8 x
  m9 : Made s8 s9 W v9 x
  m11 : Made s10 s11 W v11 b
  m12 : Made s11 s12 W v12 b
  m14 : Made s13 s14 W v14 y
  wr : WrAt W gw (fun k => Own w k ∧ k < s0) L0
  r : RdAt W gr (fun k => s5 ≤ k ∧ k < s6) [] 0
  q : RdAt W gq (fun k => s6 ≤ k ∧ k < s7) y 0
  low : Below w.heap.size w W
  z : w.heap.size ≤ s0 ∧ s0 ≤ s1 ∧ s1 ≤ s2 ∧ s2 ≤ s3 ∧ s3 ≤ s5 ∧ s5 ≤ s6 ∧ s6 ≤ s7 ∧ s7 ≤ s8 ∧ s8 ≤ s9 ∧ s9 ≤ s10 ∧ s10 ≤ s11 ∧ s11 ≤ s12 ∧ s12 ≤ s13 ∧ s13 ≤ s14 ∧ s14 ≤ W.heap.size
section
variable {w W W' : World} {gw gr gq : Nat} {L0 x y b : List Int} {s0 s1 s2 s3 s5 s6 s7 s8 s9 s10 s11 s12 s13 s14 : Nat} {v1 v2 v3 v8 v9 v11 v12 v14 : Value}
theorem KMid.below (h : KMid w W gw gr gq L0 x y b s0 s1 s2 s3 s5 s6 s7 s8 s9 s10 s11 s12 s13 s14 v1 v2 v3 v8 v9 v11 v12 v14) (hb : Below W.heap.size W W') : KMid w W' gw gr gq L0 x y b s0 s1 s2 s3 s5 s6 s7 s8 s9 s10 s11 s12 s13 s14 v1 v2 v3 v8 v9 v11 v12 v14 :=
  ⟨h.m1.below hb, h.m2.below hb, h.m3.below hb, h.m8.below hb, h.m9.below hb, h.m11.below hb, h.m12.below hb, h.m14.below hb, h.wr.below hb, h.r.below hb, h.q.below hb, below_step h.low hb, by have h1 := h.z; have h2 := hb.size; omega⟩
theorem kmid {w0 w1 w2 w3 w4 w5 w6 w7 w8 w9 w10 w11 w12 w13 w14 : World} {g5 : Nat} (F0 : Fr w w0 (Own w)) (HW : WrAt w0 gw (fun k => Own w k ∧ k < w0.heap.size) L0)
    (M1 : Made w0.heap.size w1.heap.size w1 v1 L0) (B1 : Below w0.heap.size w0 w1) (M2 : Made w1.heap.size w2.heap.size w2 v2 L0) (B2 : Below w1.heap.size w1 w2) (M3 : Made w2.heap.size w3.heap.size w3 v3 L0) (B3 : Below w2.heap.size w2 w3) (B4 : Below w3.heap.size w3 w4)
    (hg5 : w4.heap.size ≤ g5) (hg5' : g5 < w5.heap.size) (B5 : Below w4.heap.size w4 w5) (R6 : RdAt w6 gr (fun k => w5.heap.size ≤ k ∧ k < w6.heap.size) b 0) (B6 : Below w5.heap.size w5 w6) (R7 : RdAt w7 gq (fun k => w6.heap.size ≤ k ∧ k < w7.heap.size) b 0) (B7 : Below w6.heap.size w6 w7)
    (M8 : Made w7.heap.size w8.heap.size w8 v8 x) (F8 : Fr w7 w8 (fun k => k = gr)) (M9 : Made w8.heap.size w9.heap.size w9 v9 x) (F9 : Fr w8 w9 (fun k => k = gq)) (R9 : RdAt w9 gq (fun k => w6.heap.size ≤ k ∧ k < w7.heap.size) y 0) (B10 : Below w9.heap.size w9 w10)
    (M11 : Made w10.heap.size w11.heap.size w11 v11 b) (B11 : Below w10.heap.size w10 w11) (M12 : Made w11.heap.size w12.heap.size w12 v12 b) (B12 : Below w11.heap.size w11 w12) (F13 : Fr w12 w13 (fun k => k = g5)) (M14 : Made w13.heap.size w14.heap.size w14 v14 y) (R14 : RdAt w14 gr (fun k => w5.heap.size ≤ k ∧ k < w6.heap.size) [] 0) (F14 : Fr w13 w14 (fun k => k = gr)) :
    KMid w w14 gw gr gq L0 x y b w0.heap.size w1.heap.size w2.heap.size w3.heap.size w5.heap.size w6.heap.size w7.heap.size w8.heap.size w9.heap.size w10.heap.size w11.heap.size w12.heap.size w13.heap.size w14.heap.size v1 v2 v3 v8 v9 v11 v12 v14 := by
  have hgr := R6.in_
  have hgq := R7.in_
  have z0 := F0.2.1
  have z1 := B1.size
  have z2 := B2.size
  have z3 := B3.size
  have z4 := B4.size
  have z5 := B5.size
  have z6 := B6.size
  have z7 := B7.size
  have z8 := F8.2.1
  have z9 := F9.2.1
  have z10 := B10.size
  have z11 := B11.size
  have z12 := B12.size
  have z13 := F13.2.1
  have z14 := F14.2.1
  obtain ⟨Z, hZ⟩ : ∃ Z : Nat → Prop, Z = fun k => k = gr ∨ k = gq ∨ k = g5 := ⟨_, rfl⟩
  have zr : ∀ k, k = gr → Z k := fun k h => by rw [hZ]; exact .inl h
  have zq : ∀ k, k = gq → Z k := fun k h => by rw [hZ]; exact .inr (.inl h)
  have z5' : ∀ k, k = g5 → Z k := fun k h => by rw [hZ]; exact .inr (.inr h)
  have zz : ∀ k, Z k → w3.heap.size ≤ k ∧ k < w7.heap.size := fun k h => by rw [hZ] at h; rcases h with h | h | h <;> omega
  have f13 : Fr w13 w14 Z := F14.wide zr
  have f12 : Fr w12 w14 Z := (F13.wide z5').then_ f13 (fun k h => .inl h)
  have f11 : Fr w11 w14 Z := (below_fr B12 Z).then_ f12 (fun k h => .inl h)
  have f10 : Fr w10 w14 Z := (below_fr B11 Z).then_ f11 (fun k h => .inl h)
  have f9 : Fr w9 w14 Z := (below_fr B10 Z).then_ f10 (fun k h => .inl h)
  have f8 : Fr w8 w14 Z := (F9.wide zq).then_ f9 (fun k h => .inl h)
  have f7 : Fr w7 w14 Z := (F8.wide zr).then_ f8 (fun k h => .inl h)
  have f6 : Fr w6 w14 Z := (below_fr B7 Z).then_ f7 (fun k h => .inl h)
  have f5 : Fr w5 w14 Z := (below_fr B6 Z).then_ f6 (fun k h => .inl h)
  have f4 : Fr w4 w14 Z := (below_fr B5 Z).then_ f5 (fun k h => .inl h)
  have f3 : Fr w3 w14 Z := (below_fr B4 Z).then_ f4 (fun k h => .inl h)
  -- from the second Reader's read on, the second Reader stays
  have q9 : Fr w9 w14 (fun k => k = gr ∨ k = g5) := (below_fr B10 _).then_ ((below_fr B11 _).then_ ((below_fr B12 _).then_ ((F13.wide (fun k h => .inr h)).then_ (F14.wide (fun k h => .inl h)) (fun k h => .inl h)) (fun k h => .inl h)) (fun k h => .inl h)) (fun k h => .inl h)
  refine ⟨((M1.below B2).below B3).fr f3 (fun k h => .inr (by have := zz k h; omega)), (M2.below B3).fr f3 (fun k h => .inr (by have := zz k h; omega)), M3.fr f3 (fun k h => .inr (by have := zz k h; omega)), M8.fr f8 (fun k h => .inl (by have := zz k h; omega)), M9.fr f9 (fun k h => .inl (by have := zz k h; omega)), M11.fr f11 (fun k h => .inl (by have := zz k h; omega)), M12.fr f12 (fun k h => .inl (by have := zz k h; omega)), M14, ?_, R14, R9.fr q9.2 (fun k hk h => ?_), ?_, ⟨z0, z1, z2, z3, by omega, z6, z7, z8, z9, z10, z11, z12, z13, z14, Nat.le_refl _⟩⟩
  · exact (((HW.below B1).below B2).below B3).fr f3.2 (fun k hk h => by have := zz k h; have := hk.2; omega)
  · omega
  · have fa : Fr w w14 (Own w) := F0.then_ (((below_fr B1 Z).then_ ((below_fr B2 Z).then_ ((below_fr B3 Z).then_ f3 (fun k h => .inl h)) (fun k h => .inl h)) (fun k h => .inl h))) (fun k h => .inl (by have := zz k h; show w.heap.size ≤ k; omega))
    exact fa.low
end
theorem C_drop {w : World} {A : Option Addr} {c j : Nat} {l : List Int} (h : U8.C w A l.length l) (hc : l.length ≤ c) (hj : j ≤ l.length) : U8.C w (if c = j then A else Option.map (fun x => x.add j) A) (l.drop j).length (l.drop j) := by
  obtain ⟨h1, h2, h3⟩ := Kd.reads_of_C (d := (0 : Int)) h
  refine Kd.C_of_reads (enc := Value.int .u8) (d := (0 : Int)) ⟨rfl, by simp only [List.length_drop]; omega, fun hp => ?_⟩
  simp only [List.length_drop] at hp ⊢
  obtain ⟨ad, rfl, hcell⟩ := h3 (by omega)
  rw [if_neg (by omega)]
  refine ⟨ad.add j, rfl, fun i hi => ?_⟩
  have e : (ad.add j).add i = ad.add (j + i) := by
    unfold Addr.add
    split <;> split <;> simp_all [Nat.add_assoc]
  rw [e, hcell (j + i) (by omega)]
  simp [List.getD_eq_getElem?_getD, List.getElem?_drop]
section
variable {w W W' : World} {gw gr gq : Nat} {L0 x y b : List Int} {s0 s1 s2 s3 s5 s6 s7 s8 s9 s10 s11 s12 s13 s14 : Nat}
/-- What stands when all has been found apart. -/
structure KEnd (w W : World) (gw gr gq : Nat) (L0 y : List Int) (s0 s2 s3 s5 s6 s7 : Nat) (v3 : Value) : Prop where
  m3 : Made s2 s3 W v3 L0
  wr : WrAt W gw (fun k => Own w k ∧ k < s0) L0
  r : RdAt W gr (fun k => s5 ≤ k ∧ k < s6) [] 0
  q : RdAt W gq (fun k => s6 ≤ k ∧ k < s7) y 0
  low : Below w.heap.size w W
theorem KEnd.below {v3 : Value} (h : KEnd w W gw gr gq L0 y s0 s2 s3 s5 s6 s7 v3) (hb : Below W.heap.size W W') : KEnd w W' gw gr gq L0 y s0 s2 s3 s5 s6 s7 v3 := ⟨h.m3.below hb, h.wr.below hb, h.r.below hb, h.q.below hb, below_step h.low hb⟩
theorem apart_keeps {A1 A2 A8 A9 A11 A12 A14 : Option Addr} {n1 n2 n8 n9 n11 n12 n14 c1 c2 c8 c9 c11 c12 c14 : Nat} {v3 : Value} (h : KMid w W gw gr gq L0 x y b s0 s1 s2 s3 s5 s6 s7 s8 s9 s10 s11 s12 s13 s14 (.slice A1 n1 c1) (.slice A2 n2 c2) v3 (.slice A8 n8 c8) (.slice A9 n9 c9) (.slice A11 n11 c11) (.slice A12 n12 c12) (.slice A14 n14 c14))
    (hL : L0.length ≤ 140737488351232) (hx : x.length ≤ 140737488351232) (hy : y.length ≤ 140737488351232) (hb : b.length ≤ 140737488351232) :
    Calls Try.prog 44 #[.slice (some ⟨W.heap.size, 0, none⟩) 7 7] (W.alloc (.cells #[.slice A1 n1 c1, .slice A2 n2 c2, .slice A8 n8 c8, .slice A9 n9 c9, .slice A11 n11 c11, .slice A12 n12 c12, .slice A14 n14 c14] 22)) fun e w' => e = .returned (.bool true) ∧ KEnd w w' gw gr gq L0 y s0 s2 s3 s5 s6 s7 v3 := by
  obtain ⟨z0, z1, z2, z3, z5, z6, z7, z8, z9, z10, z11, z12, z13, z14, z15⟩ := h.z
  have hst := st_of (w := W) (fun k => match k with | 0 => (A1, n1, c1) | 1 => (A2, n2, c2) | 2 => (A8, n8, c8) | 3 => (A9, n9, c9) | 4 => (A11, n11, c11) | 5 => (A12, n12, c12) | _ => (A14, n14, c14))
    (fun k => match k with | 0 => L0 | 1 => L0 | 2 => x | 3 => x | 4 => b | 5 => b | _ => y)
    (fun k => match k with | 0 => s0 | 1 => s1 | 2 => s7 | 3 => s8 | 4 => s10 | 5 => s11 | _ => s13)
    (fun k => match k with | 0 => s1 | 1 => s2 | 2 => s8 | 3 => s9 | 4 => s11 | 5 => s12 | _ => s14)
    (fun k hk => match k, hk with | 0, _ => h.m1 | 1, _ => h.m2 | 2, _ => h.m8 | 3, _ => h.m9 | 4, _ => h.m11 | 5, _ => h.m12 | 6, _ => h.m14)
    (fun i hi j hj hij => by
      rcases (by omega : i = 0 ∨ i = 1 ∨ i = 2 ∨ i = 3 ∨ i = 4 ∨ i = 5 ∨ i = 6) with rfl | rfl | rfl | rfl | rfl | rfl | rfl <;> rcases (by omega : j = 0 ∨ j = 1 ∨ j = 2 ∨ j = 3 ∨ j = 4 ∨ j = 5 ∨ j = 6) with rfl | rfl | rfl | rfl | rfl | rfl | rfl <;> simp only [] <;> omega)
    #[.slice A1 n1 c1, .slice A2 n2 c2, .slice A8 n8 c8, .slice A9 n9 c9, .slice A11 n11 c11, .slice A12 n12 c12, .slice A14 n14 c14]
    (fun k hk => match k, hk with | 0, _ => rfl | 1, _ => rfl | 2, _ => rfl | 3, _ => rfl | 4, _ => rfl | 5, _ => rfl | 6, _ => rfl)
  have hKM := h.below (below_alloc (Below.refl _ _) (.cells #[.slice A1 n1 c1, .slice A2 n2 c2, .slice A8 n8 c8, .slice A9 n9 c9, .slice A11 n11 c11, .slice A12 n12 c12, .slice A14 n14 c14] 22))
  refine (apart_calls _ 7 W.heap.size 7 _ _ _ _ hst (fun k hk => ?_) (by omega) (by omega) (fun k => (s0 ≤ k ∧ k < s2) ∨ (s7 ≤ k ∧ k < s14)) (fun k hk bk hbk => ?_)).mono ?_
  · have h1 := h.m1.reads.1
    have h2 := h.m2.reads.1
    have h3 := h.m8.reads.1
    have h4 := h.m9.reads.1
    have h5 := h.m11.reads.1
    have h6 := h.m12.reads.1
    have h7 := h.m14.reads.1
    rcases (by omega : k = 0 ∨ k = 1 ∨ k = 2 ∨ k = 3 ∨ k = 4 ∨ k = 5 ∨ k = 6) with rfl | rfl | rfl | rfl | rfl | rfl | rfl <;> simp only [] <;> omega
  · match k, hk, hbk with
    | 0, _, hbk => have := h.m1.2 bk hbk; omega
    | 1, _, hbk => have := h.m2.2 bk hbk; omega
    | 2, _, hbk => have := h.m8.2 bk hbk; omega
    | 3, _, hbk => have := h.m9.2 bk hbk; omega
    | 4, _, hbk => have := h.m11.2 bk hbk; omega
    | 5, _, hbk => have := h.m12.2 bk hbk; omega
    | 6, _, hbk => have := h.m14.2 bk hbk; omega
  · rintro e w' ⟨rfl, hf⟩
    refine ⟨rfl, hKM.m3.fr hf (fun k hk => by omega), hKM.wr.fr hf.2 (fun k hk h => by have := hk.2; omega), hKM.r.fr hf.2 (fun k hk h => by omega), hKM.q.fr hf.2 (fun k hk h => by omega), ?_⟩
    have fa : Fr w w' (Own w) := (Fr.of_below hKM.low (Own w)).then_ hf (fun k h => .inl (show w.heap.size ≤ k by omega))
    exact fa.low
end
end Go.Proofs.Ytkjkmaopifmghaa.Oct
