/- Cut on an index (plain walk). -/
import Derived.Test.YtmldefednihohaaDoorSxGrpSearch
import Derived.StillTailTactics
namespace Go.Proofs.YtmldefednihohaaDoor.Grp
open Go.RowKit Go.Proofs.YtmldefednihohaaDoorW.PrintWords Go.Proofs.YtmldefednihohaaDoorW.PrintLast Go.Proofs.YtmldefednihohaaDoorW.PrintMore
set_option linter.unusedVariables false
set_option linter.unusedSimpArgs false
set_option maxRecDepth 100000
theorem Rch.congr {n c : Nat} {L M : Nat → Nat → Bool} (hc : c < n) (h : ∀ k, k < n → L k = M k) (hz : ∀ k, k < n → ∀ b, L k b = true → b < n) {b : Nat} (hr : Rch L c b) : Rch M c b ∧ b < n := by
  induction hr with
  | one b hb => exact ⟨.one b (by rw [← h c hc]; exact hb), hz c hc b hb⟩
  | step d b _ hb ih => exact ⟨.step d b ih.1 (by rw [← h d ih.2]; exact hb), hz d ih.2 b hb⟩
theorem Rch.alike {n c : Nat} {L M : Nat → Nat → Bool} (hc : c < n) (h : ∀ k, k < n → L k = M k) (hz : ∀ k, k < n → ∀ b, L k b = true → b < n) (b : Nat) : Rch L c b ↔ Rch M c b :=
  ⟨fun hr => (Rch.congr hc h hz hr).1, fun hr => (Rch.congr hc (fun k hk => (h k hk).symm) (fun k hk b hb => hz k hk b (by rw [h k hk]; exact hb)) hr).1⟩
/-- Without the link. -/
def cutL (X : Nat → Nat → Bool) (a b : Nat) : Nat → Nat → Bool := upX X a (fun x => X a x && !(x == b))
section
variable {g gl gi cl ci n : Nat} {V : Nat → Sl} {w w' : World} {X : Nat → Nat → Bool}
theorem IxV.hd_ne (h : IxV g gl gi cl ci n V w X) : g ≠ gl ∧ g ≠ gi := by
  constructor
  · intro e
    subst e
    obtain ⟨cells, hc⟩ := own_typed (Kd.own_of_R h.lk) g rfl
    rw [h.top] at hc
    injection hc with hc
    injection hc with _ ht
    exact absurd ht (by decide)
  · intro e
    subst e
    obtain ⟨cells, hc⟩ := own_typed (Kd.own_of_R h.inn) g rfl
    rw [h.top] at hc
    injection hc with hc
    injection hc with _ ht
    exact absurd ht (by decide)
/-- A row of what a group is in gives way to a new one. -/
theorem IxV.swap (h : IxV g gl gi cl ci n V w X) {c : Nat} (hc : c < n) {p : Sl} {P : Nat → Bool} (hr : RowAt w (sv p) (wide n) P) (hf : ∀ b, (sv p).ownBlock = some b → ∀ k, k < 2 * n → (sv (V k)).ownBlock ≠ some b) : IxV g gl gi cl ci n (upS V (n + c) p) (w.setCell ⟨gi, c, none⟩ (sv p)) (upX X (n + c) P) := by
  have hs := Fr.set (w := w) (g := gi) c (sv p)
  have hd := hd_put h.inn (k := c) p
  refine ⟨blk_kept h.top hs.2 h.hd_ne.2, ?_, ?_, fun k hk => ?_, fun i hi k hk hne b hbi hbk => ?_, h.ne, h.n1, h.n4⟩
  · have := other h.lk hs.2 (fun b hb e => by
      subst e
      have : gl = b := by simpa [Value.ownBlock] using hb
      exact h.ne this)
    unfold HdAt
    rw [List.map_congr_left (fun k hk => show upS V (n + c) p k = V k by
      have := List.mem_range.1 hk
      unfold upS
      rw [if_neg (by omega)])]
    exact this
  · unfold HdAt at hd ⊢
    rw [List.map_congr_left (fun k hk => show upS V (n + c) p (n + k) = upS (fun k => V (n + k)) c p k by
      unfold upS
      by_cases e : k = c
      · subst e; simp
      · rw [if_neg (by omega), if_neg e])]
    exact hd
  · by_cases e : k = n + c
    · subst e
      have e1 : upS V (n + c) p (n + c) = p := by simp [upS]
      have e2 : upX X (n + c) P (n + c) = P := by simp [upX]
      rw [e1, e2]
      exact hr.other hs.2 (fun b hb e => by subst e; exact own_ne hr h.inn (by decide) b hb rfl)
    · have e1 : upS V (n + c) p k = V k := by simp [upS, e]
      have e2 : upX X (n + c) P k = X k := by simp [upX, e]
      rw [e1, e2]
      exact (h.row k hk).other hs.2 (fun b hb e => (h.row_ne hk b hb).2.2 e)
  · by_cases e : i = n + c
    · subst e
      have e1 : upS V (n + c) p (n + c) = p := by simp [upS]
      have e2 : upS V (n + c) p k = V k := by simp [upS]; intro h; exact absurd h.symm hne
      rw [e1] at hbi
      rw [e2] at hbk
      exact hf b hbi k hk hbk
    · have e1 : upS V (n + c) p i = V i := by simp [upS, e]
      rw [e1] at hbi
      by_cases e2 : k = n + c
      · subst e2
        have e3 : upS V (n + c) p (n + c) = p := by simp [upS]
        rw [e3] at hbk
        exact hf b hbk i hi hbi
      · have e3 : upS V (n + c) p k = V k := by simp [upS, e2]
        rw [e3] at hbk
        exact h.sep i hi k hk hne b hbi hbk
end
/-- The word that loses a bit. -/
theorem cut_word {m b : Nat} {P : Nat → Bool} (hb : b < 64 * m) (hm : m ≤ 1000) : ∃ z x q y i6 : Nat, z = wd P (b / 64) ∧ i6 = b / 64 ∧ (b : Int) / 64 = (i6 : Int) ∧ ((b : Int) / 64).toNat = i6 ∧ i6 < m ∧ Go.bits .and .i64 (b : Int) 63 = (q : Int) ∧ q ≤ 64 ∧ IntKind.u64.wrap (2 ^ q) = (y : Int) ∧ IntKind.u64.wrap (1 * 2 ^ q) = (y : Int) ∧ Go.bits .andNot .u64 (z : Int) (y : Int) = (x : Int) ∧
    ∀ (w : World) (g c : Nat), RowAt w (.slice (some ⟨g, 0, none⟩) m c) m P → RowAt (w.setCell ⟨g, i6, none⟩ (.int .u64 (x : Int))) (.slice (some ⟨g, 0, none⟩) m c) m (fun t => P t && !(t == b)) := by
  have hx := wd_lt P (b / 64)
  obtain ⟨q, hq⟩ : ∃ q, q = b % 64 := ⟨_, rfl⟩
  have hq6 : q < 64 := by omega
  obtain ⟨y, hy⟩ : ∃ y, y = 2 ^ q := ⟨_, rfl⟩
  have hylt : y < 18446744073709551616 := by rw [hy]; exact Nat.pow_lt_pow_right (n := 64) (by omega) (by omega)
  have hsh : IntKind.u64.wrap (2 ^ q) = (y : Int) := by
    have e : (2 : Int) ^ q = ((y : Nat) : Int) := by rw [hy, Int.natCast_pow]; rfl
    have e2 : ∀ n : Int, IntKind.u64.wrap n = n % 18446744073709551616 := fun n => by simp [IntKind.wrap, IntKind.bits, IntKind.signed]
    rw [e, e2]
    omega
  have hbit : ∀ t, (18446744073709551615 - y).testBit t = (decide (t < 64) && !(decide (t = q))) := fun t => by
    have e : 18446744073709551615 - y = 2 ^ 64 - (y + 1) := by omega
    rw [e, Nat.testBit_two_pow_sub_succ (by omega), hy, Nat.testBit_two_pow]
    congr 2
    by_cases h : t = q
    · subst h; simp
    · have : ¬ q = t := fun e => h e.symm
      simp [h, this]
  refine ⟨wd P (b / 64), wd P (b / 64) &&& (18446744073709551615 - y), q, y, b / 64, rfl, rfl, by omega, by omega, by omega, by rw [hq]; exact and63 b (by omega), by omega, hsh, by rw [Int.one_mul]; exact hsh, u64_andNot_nat _ y hx hylt, fun w g c h => ?_⟩
  refine (h.put (by omega) (Nat.lt_of_le_of_lt Nat.and_le_left hx)).congr (fun i hi => ?_)
  by_cases e : i / 64 = b / 64
  · have e1 : 64 * (b / 64) + i % 64 = i := by omega
    simp only [e, if_true]
    rw [Nat.testBit_and, wd_bit, hbit, decide_eq_true (by omega : i % 64 < 64), Bool.true_and, Bool.true_and, e1]
    congr 2
    by_cases e2 : i = b
    · subst e2; simp [hq]
    · have : ¬ i % 64 = q := by omega
      simp [e2, this]
  · have e2 : ¬ i = b := fun h => e (by rw [h])
    simp [e, e2]
theorem gl_kept {w W : World} {S : Nat → Prop} (h : GL w) (hk : Kept w W S) (h0 : ¬ S 0) : GL W := ⟨fun j hj => cell_kept (h.out j hj) hk h0⟩
/-- j of the rows that led to a have been sought anew. -/
structure CutRel (S : Nat → Prop) (w : World) (g gl gi cl ci n a b : Nat) (X : Nat → Nat → Bool) (Ls : List Int) (A8 : Option Addr) (c8 : Nat) (j : Nat) (W : World) : Prop where
  has : ∃ V XX, IxV g gl gi cl ci n V W XX ∧ (∀ k, k < n → XX k = cutL X a b k) ∧ (∀ c, c < n → ((c : Int) ∈ Ls.take j → ∀ x, XX (n + c) x = true ↔ Rch (cutL X a b) c x) ∧ ((c : Int) ∉ Ls.take j → XX (n + c) = X (n + c))) ∧ ∀ k, k < 2 * n → ∀ b', (sv (V k)).ownBlock = some b' → S b' ∨ w.heap.size ≤ b'
  fr : Fr w W S
  lst : I64.R 3 W w.heap.size (fun _ => True) (.slice A8 Ls.length c8) Ls
theorem CutRel.next {S : Nat → Prop} {w W W4 : World} {g gl gi cl ci n a b : Nat} {X : Nat → Nat → Bool} {Ls : List Int} {A8 : Option Addr} {c8 j c gf cf : Nat} {V : Nat → Sl} {XX : Nat → Nat → Bool} {F : Nat → Bool} (h : CutRel S w g gl gi cl ci n a b X Ls A8 c8 j W) (hSi : S gi) (hj : j < Ls.length) (hjc : Ls[j] = (c : Int)) (hc : c < n)
    (hv : IxV g gl gi cl ci n V W XX) (hXk : ∀ k, k < n → XX k = cutL X a b k) (hXc : ∀ c, c < n → ((c : Int) ∈ Ls.take j → ∀ x, XX (n + c) x = true ↔ Rch (cutL X a b) c x) ∧ ((c : Int) ∉ Ls.take j → XX (n + c) = X (n + c))) (hown : ∀ k, k < 2 * n → ∀ b', (sv (V k)).ownBlock = some b' → S b' ∨ w.heap.size ≤ b')
    (hz : ∀ k, k < n → ∀ x, XX k x = true → x < n) (hgf : W.heap.size ≤ gf) (hr : RowAt W4 (.slice (some ⟨gf, 0, none⟩) (wide n) cf) (wide n) F) (hF : ∀ x, F x = true ↔ Rch XX c x) (b4 : Below W.heap.size W W4) :
    CutRel S w g gl gi cl ci n a b X Ls A8 c8 (j + 1) (W4.setCell ⟨gi, c, none⟩ (.slice (some ⟨gf, 0, none⟩) (wide n) cf)) := by
  have hs := Fr.set (w := W4) (g := gi) c (.slice (some ⟨gf, 0, none⟩) (wide n) cf)
  have hv4 := hv.below b4
  have hv5 := hv4.swap hc (p := (some ⟨gf, 0, none⟩, wide n, cf)) hr (fun b' hb' k hk hbk => by
    have h1 : gf = b' := by simpa [Value.ownBlock] using hb'
    have h2 := hv.lt_r hk b' hbk
    omega)
  have hl4 := Kd.R_below h.lst b4
  have hF2 : ∀ x, F x = true ↔ Rch (cutL X a b) c x := fun x => (hF x).trans (Rch.alike hc hXk hz x)
  refine ⟨⟨_, _, hv5, fun k hk => ?_, fun k hk => ⟨fun hm => ?_, fun hm => ?_⟩, fun k hk b' hb' => ?_⟩, ?_, ?_⟩
  · have e : upX XX (n + c) F k = XX k := by unfold upX; rw [if_neg (by omega)]
    rw [e]; exact hXk k hk
  · rw [List.take_succ_eq_append_getElem hj, List.mem_append] at hm
    by_cases e : k = c
    · subst e
      have e2 : upX XX (n + k) F (n + k) = F := by simp [upX]
      rw [e2]; exact hF2
    · have e2 : upX XX (n + c) F (n + k) = XX (n + k) := by unfold upX; rw [if_neg (by omega)]
      rw [e2]
      rcases hm with hm | hm
      · exact (hXc k hk).1 hm
      · have : (k : Int) = Ls[j] := by simpa using hm
        rw [hjc] at this
        exact absurd (by omega : k = c) e
  · rw [List.take_succ_eq_append_getElem hj, List.mem_append] at hm
    have e : ¬ k = c := fun e => hm (.inr (by rw [hjc, e]; simp))
    have e2 : upX XX (n + c) F (n + k) = XX (n + k) := by unfold upX; rw [if_neg (by omega)]
    rw [e2]
    exact (hXc k hk).2 (fun h => hm (.inl h))
  · by_cases e : k = n + c
    · subst e
      have e2 : upS V (n + c) (some ⟨gf, 0, none⟩, wide n, cf) (n + c) = (some ⟨gf, 0, none⟩, wide n, cf) := by simp [upS]
      rw [e2] at hb'
      have h1 : gf = b' := by simpa [Value.ownBlock] using hb'
      have h2 := h.fr.2.1
      exact .inr (by omega)
    · have e2 : upS V (n + c) (some ⟨gf, 0, none⟩, wide n, cf) k = V k := by simp [upS, e]
      rw [e2] at hb'
      exact hown k hk b' hb'
  · exact (h.fr.then_ (Fr.of_below b4 (fun _ => False)) (fun _ h => h.elim)).then_ hs (fun k hk => .inl (by rw [hk]; exact hSi))
  · exact other hl4 hs.2 (fun b' hb' e => by subst e; exact own_ne hl4 hv4.inn (by decide) b' hb' rfl)
theorem CutRel.below {S : Nat → Prop} {w W W2 : World} {g gl gi cl ci n a b : Nat} {X : Nat → Nat → Bool} {Ls : List Int} {A8 : Option Addr} {c8 j : Nat} (h : CutRel S w g gl gi cl ci n a b X Ls A8 c8 j W) (hb : Below W.heap.size W W2) : CutRel S w g gl gi cl ci n a b X Ls A8 c8 j W2 := by
  obtain ⟨⟨V, XX, hv, h1, h2, h3⟩, hf, hl⟩ := h
  exact ⟨⟨V, XX, hv.below hb, h1, h2, h3⟩, hf.then_ (Fr.of_below hb (fun _ => False)) (fun _ h => h.elim), Kd.R_below hl hb⟩
theorem CutRel.start {S : Nat → Prop} {w W3 W : World} {g gl gi cl ci n a b : Nat} {X : Nat → Nat → Bool} {Ls : List Int} {A8 : Option Addr} {c8 : Nat} {V : Nat → Sl} (hv : IxV g gl gi cl ci n V W3 (cutL X a b)) (hX1 : ∀ c, cutL X a b (n + c) = X (n + c)) (hown : ∀ k, k < 2 * n → ∀ b', (sv (V k)).ownBlock = some b' → S b') (hf : Fr w W3 S) (hb : Below W3.heap.size W3 W) (hl : I64.R 3 W W3.heap.size (fun _ => True) (.slice A8 Ls.length c8) Ls) :
    CutRel S w g gl gi cl ci n a b X Ls A8 c8 0 W :=
  ⟨⟨V, _, hv.below hb, fun k hk => rfl, fun c hc => ⟨fun hm => by simp at hm, fun _ => hX1 c⟩, fun k hk b' hb' => .inl (hown k hk b' hb')⟩, hf.then_ (Fr.of_below hb (fun _ => False)) (fun _ h => h.elim), Kd.R_lower hl hf.2.1⟩
set_option maxHeartbeats 8000000 in
theorem cut_there (S : Nat → Prop) (w : World) (g n a b : Nat) (X : Nat → Nat → Bool) (h : Ix S w g n X) (ha : a < n) (hb : b < n) (hX : X a b = true) (hz : ∀ k, k < n → ∀ b, X k b = true → b < n) (hgl : GL w) (hS0 : ¬ S 0) :
    Calls Tryd.prog 11 #[.pointer (some ⟨g, 0, none⟩), .int .i64 (a : Int), .int .i64 (b : Int)] w fun e w' => e = .returned (.int .i64 0) ∧ (∃ X2, Ix (fun k => S k ∨ w.heap.size ≤ k) w' g n X2 ∧ (∀ k, k < n → X2 k = cutL X a b k) ∧ ∀ c, c < n → if c = a ∨ X (n + c) a = true then (∀ x, X2 (n + c) x = true ↔ Rch (cutL X a b) c x) else X2 (n + c) = X (n + c)) ∧ Fr w w' S := by
  have H := Aside0.mk h
  obtain ⟨gl, gi, cl, ci, V, hv, sg, sl, si, sr⟩ := h
  obtain ⟨ra, ca, eA⟩ := hv.form (k := a) (by omega)
  have c0 := hv.c0
  have hl := hv.rowl ha eA
  have hw := hv.wide1
  have HV := Aside0.mk hv
  have HSR : Aside0 (S ra) := ⟨sr a (by omega) ra (by unfold sv; rw [eA]; rfl)⟩
  have HSS := Aside0.mk (And.intro sg (And.intro sl (And.intro si sr)))
  have HLT := Aside0.mk (And.intro hv.lt_g (And.intro hv.lt_l hv.lt_i))
  have HW := Aside0.mk hw
  have HA := Aside0.mk (has_calls w (some ⟨ra, 0, none⟩) ca (wide n) b (X a) (hv.at_ (by omega) eA) (by omega) (by omega))
  rw [hX] at HA
  obtain ⟨z, x, q, y, i6, hz1, hz2, hz3, hz4, hz5, hz6, hz7, hz8, hz9, hz10, hz11⟩ := cut_word (P := X a) (m := wide n) (b := b) (by omega) (by omega)
  have HRC := Aside0.mk hz11
  have hcz := ((hv.at_ (k := a) (by omega) eA).cell (i := i6) hz5)
  rw [hz2, ← hz1] at hcz
  rw [← hz2] at hcz
  have HCZ := Aside0.mk hcz
  have EA := Aside0.mk eA
  have HAN := Aside0.mk ha
  have HBN := Aside0.mk hb
  have HN4 := Aside0.mk hv.n4
  have HZ := Aside0.mk hz
  have HGL := Aside0.mk hgl
  have HS0 := Aside0.mk hS0
  have hk0 : (0 : Int) ≤ (a : Int) := by omega
  have hkn : (a : Int) < (n : Int) := by omega
  have hd0 : (0 : Int) ≤ (b : Int) / 64 := by omega
  have hdm : (b : Int) / 64 < ((wide n : Nat) : Int) := by omega
  have hdm2 : (b : Int) / 64 < ((n : Int) + 63) / 64 := by have : wide n = (n + 63) / 64 := rfl; omega
  have hq0 : (0 : Int) ≤ (q : Int) := by omega
  have hq4 : (q : Int) ≤ 64 := by omega
  clear hv hw eA hX hz ha hb sg sl si sr hz1 hz2 hz5 hz7 hz11 hcz hgl hS0
  go_enter Tryd.func11, Tryd.ntmps11
  go_wp2_with (first
    | (go_at_call 29; ((with_reducible refine (asked_ok S w g n a b X H.out HAN.out HBN.out).mono ?_); rintro e1 w ⟨rfl, rfl⟩))
    | (go_at_call 30; ((with_reducible refine HA.out.mono ?_); rintro e2 w2 ⟨rfl, d2⟩; have hv2 := HV.out.below d2.below; have F2 := Aside0.mk (Fr.of_below d2.below S); have c02 := hv2.c0; have hl2 := hv2.rowl HAN.out EA.out; have HV2 := Aside0.mk hv2; have hcz2 := pw_cell_below d2.below HCZ.out.1; have hfz2 := ((World.frozen?_of_block (a := ⟨ra, i6, none⟩) (d2.below.block ra (HV.out.lt_r (k := a) (by have := HAN.out; omega) ra (by unfold sv; rw [EA.out]; rfl)))).trans HCZ.out.2); clear d2 hv2)))
  go_region_with (fail)
  have hv3 : IxV g gl gi cl ci n V (w2.setCell ⟨ra, i6, none⟩ (.int .u64 (x : Int))).drew (cutL X a b) := (HV2.out.turn' (by have := HAN.out; omega) EA.out (Fr.set i6 _) (HRC.out w2 ra ca (HV2.out.at_ (by have := HAN.out; omega) EA.out))).below (dr_below _)
  have f3 : Fr w (w2.setCell ⟨ra, i6, none⟩ (.int .u64 (x : Int))).drew S := (F2.out.then_ (Fr.set i6 _) (fun k hk => .inl (by rw [hk]; exact HSR.out))).then_ (Fr.of_below (dr_below _) (fun _ => False)) (fun _ h => h.elim)
  generalize hW3 : (w2.setCell ⟨ra, i6, none⟩ (.int .u64 (x : Int))).drew = W3 at hv3 f3 ⊢
  clear hW3 c02 hl2 hcz2 hfz2
  have HV3 := Aside0.mk hv3
  have F3 := Aside0.mk f3
  have c13 := hv3.c1
  have hX1 : Aside0 (∀ c, cutL X a b (n + c) = X (n + c)) := ⟨fun c => by unfold cutL upX; rw [if_neg (by have := HAN.out; omega)]⟩
  obtain ⟨Q, hQ⟩ : ∃ Q : Nat → Bool, Q = fun c => c == a || X (n + c) a := ⟨_, rfl⟩
  have HQ := Aside0.mk hQ
  clear hv3 f3 hQ
  go_wp2
  go_loopg [8, 50] (n + 1) (fun kq v8 v50 w' => ∃ c : Nat, v50 = .int .i64 (c : Int) ∧ Aside0 (kq + c = n + 1) ∧ Aside0 (c ≤ n) ∧ Aside0 (I64.R 3 w' W3.heap.size (fun _ => True) v8 (elems Q c)) ∧ Aside0 (Below W3.heap.size W3 w'))
  case atStart => exact ⟨0, rfl, ⟨rfl⟩, ⟨Nat.zero_le _⟩, ⟨Kd.R_nil _ _ _ _ _⟩, ⟨Below.refl _ _⟩⟩
  case round =>
    obtain ⟨c, rfl, HK, HJ, HR, HB⟩ := hrel
    cases gk with
    | zero => exact absurd HK.out (by have := HJ.out; omega)
    | succ k1 =>
      by_cases hlt : c < n
      · have hc0 : (0 : Int) ≤ (c : Int) := by omega
        have hcn : (c : Int) < (n : Int) := by omega
        have HW3 : Aside0 (wrap64 ((c : Int) + 1) = ((c + 1 : Nat) : Int)) := ⟨wrap_up c n (by omega) (by have := HN4.out; omega)⟩
        have hvr := HV3.out.below HB.out
        have c1 := hvr.c1
        obtain ⟨r, rc, eR⟩ := hvr.form (k := n + c) (by omega)
        have hi := hvr.rowi hlt eR
        have HH := Aside0.mk (has_calls wr (some ⟨r, 0, none⟩) rc (wide n) a _ (hvr.at_ (by omega) eR) (by have h1 := HW.out; have h2 := HAN.out; omega) (by have := HW.out; omega))
        rw [hX1.out] at HH
        have HKL : Aside0 (((elems Q c).length + 1) * 8 ≤ 140737488355328) := ⟨by have h1 := elems_len Q c; have h2 := HN4.out; omega⟩
        clear hvr eR
        by_cases hca : a = c
        · subst hca
          have HE : Aside0 (elems Q (a + 1) = elems Q a ++ [(a : Int)]) := ⟨by simp only [elems]; rw [if_pos (by rw [HQ.out]; simp)]⟩
          go_wp2_with ((with_reducible refine gate_builtin (b := .append) (xs := #[.tmp 67, .tmp 69]) rfl ?_); at_builtin; go_loud ((refine Kd.R_append I64 (w0 := W3) (W := wr) W3.heap.size rfl (.tmp 67) (.tmp 69) 29 3 (.int .i64 0) 8 rfl Tryd.underlying29 infoI rfl (by decide) (by decide) u8 (elems Q a) (a : Int) [.int .i64 (a : Int)] (fun _ => True) (fun _ => False) rfl rfl rfl (fun _ hk => hk.elim) (fun _ _ => trivial) HR.out HB.out HB.out.size HKL.out ?_); intro v6 w6 ho hb hg hat; (rw [← HE.out] at ho); have HO := Aside0.mk ho; have HB6 := Aside0.mk hb; clear ho hb hg hat))
          go_roundg k1
          case measure => omega
          case rel => exact ⟨a + 1, by first | rfl | (rw [← HW3.out]) | (congr 1; omega), ⟨by have := HK.out; omega⟩, ⟨by omega⟩, HO, HB6⟩
        · have hca2 : ¬ c = a := fun e => hca e.symm
          by_cases hx : X (n + c) a = true
          · rw [hx] at HH
            have HE : Aside0 (elems Q (c + 1) = elems Q c ++ [(c : Int)]) := ⟨by simp only [elems]; rw [if_pos (by rw [HQ.out]; simp [hx])]⟩
            clear hx
            go_wp2_with (first
              | (go_at_call 30; ((with_reducible refine HH.out.mono ?_); rintro e8 w8 ⟨rfl, d8⟩; have HR8 := Aside0.mk (Kd.R_below HR.out d8.below); have HB8 := Aside0.mk (below_step HB.out d8.below); clear d8))
              | ((with_reducible refine gate_builtin (b := .append) (xs := #[.tmp 67, .tmp 69]) rfl ?_); at_builtin; go_loud ((refine Kd.R_append I64 (w0 := W3) (W := w8) W3.heap.size rfl (.tmp 67) (.tmp 69) 29 3 (.int .i64 0) 8 rfl Tryd.underlying29 infoI rfl (by decide) (by decide) u8 (elems Q c) (c : Int) [.int .i64 (c : Int)] (fun _ => True) (fun _ => False) rfl rfl rfl (fun _ hk => hk.elim) (fun _ _ => trivial) HR8.out HB8.out HB8.out.size HKL.out ?_); intro v6 w6 ho hb hg hat; (rw [← HE.out] at ho); have HO := Aside0.mk ho; have HB6 := Aside0.mk hb; clear ho hb hg hat)))
            go_roundg k1
            case measure => omega
            case rel => exact ⟨c + 1, by first | rfl | (rw [← HW3.out]) | (congr 1; omega), ⟨by have := HK.out; omega⟩, ⟨by omega⟩, HO, HB6⟩
          · have HE : Aside0 (elems Q (c + 1) = elems Q c) := ⟨by simp only [elems]; rw [if_neg (by rw [HQ.out]; simp [hca2, hx])]⟩
            rw [Bool.not_eq_true] at hx
            rw [hx] at HH
            clear hx
            go_wp2_with (go_at_call 30; ((with_reducible refine HH.out.mono ?_); rintro e8 w8 ⟨rfl, d8⟩; (have hr8 := Kd.R_below HR.out d8.below); (rw [← HE.out] at hr8); have HR8 := Aside0.mk hr8; have HB8 := Aside0.mk (below_step HB.out d8.below); clear d8 hr8))
            go_roundg k1
            case measure => omega
            case rel => exact ⟨c + 1, by first | rfl | (rw [← HW3.out]) | (congr 1; omega), ⟨by have := HK.out; omega⟩, ⟨by omega⟩, HR8, HB8⟩
      · have hnc : n = c := by have := HJ.out; omega
        subst hnc
        have hd : decide ((n : Int) < (n : Int)) = false := decide_eq_false (by omega)
        obtain ⟨A8, c8, h8⟩ := Kd.R_slice HR.out
        subst h8
        obtain ⟨Ls, hLs⟩ : ∃ Ls, Ls = elems Q n := ⟨_, rfl⟩
        rw [← hLs] at HR ⊢
        have HLS := Aside0.mk hLs
        have HLL : Aside0 (Ls.length ≤ 4096) := ⟨by rw [hLs]; have h1 := elems_len Q n; have h2 := HN4.out; omega⟩
        have HC0 : Aside0 (CutRel S w g gl gi cl ci n a b X Ls A8 c8 0 wr) := ⟨CutRel.start HV3.out hX1.out HSS.out.2.2.2 F3.out HB.out HR.out⟩
        clear hLs HR HB HK HJ hlt
        go_wp2
        go_loopg [74] (Ls.length + 1) (fun kq v74 w' => ∃ j : Nat, v74 = .int .i64 (j : Int) ∧ Aside0 (kq + j = Ls.length + 1) ∧ Aside0 (j ≤ Ls.length) ∧ Aside0 (CutRel S w g gl gi cl ci n a b X Ls A8 c8 j w'))
        case atStart => exact ⟨0, rfl, ⟨rfl⟩, ⟨Nat.zero_le _⟩, HC0⟩
        case round =>
          clear HC0
          obtain ⟨j, rfl, HK, HJ, HR⟩ := hrel
          cases gk with
          | zero => exact absurd HK.out (by have := HJ.out; omega)
          | succ k2 =>
            by_cases hlt : j < Ls.length
            · obtain ⟨c, hc1, hc2, hc3⟩ := elems_at Q n (Ls[j]) (by rw [← HLS.out]; exact List.getElem_mem hlt)
              obtain ⟨V', XX, hv, hXk, hXc, hown⟩ := HR.out.has
              obtain ⟨g8, hg8⟩ : ∃ g8, A8 = some ⟨g8, 0, none⟩ := by
                obtain ⟨g8, cc, h8⟩ := next_form HR.out.lst (by omega)
                exact ⟨g8, (Value.slice.inj h8).1⟩
              subst hg8
              have hcell : wr.cell? ⟨g8, j, none⟩ = some (.int .i64 (c : Int)) := by
                have h1 := (Kd.R_cell (0 : Int) HR.out.lst (j : Int) (by omega) (by omega)).1
                have h2 : rdOf (0 : Int) Ls (j : Int) = (c : Int) := by rw [← hc1]; simp [rdOf, List.getD_eq_getElem?_getD, hlt]
                rw [h2] at h1
                simpa using h1
              have hzz : ∀ k, k < n → ∀ x, XX k x = true → x < n := fun k hk x hx => by
                rw [hXk k hk] at hx
                refine HZ.out k hk x ?_
                unfold cutL upX at hx
                by_cases e : k = a
                · subst e
                  rw [if_pos rfl, Bool.and_eq_true] at hx
                  exact hx.1
                · rw [if_neg e] at hx
                  exact hx
              have HSE := Aside0.mk (fun (W : World) (hb : Below wr.heap.size wr W) => search_calls (fun _ => True) W g n c XX ⟨gl, gi, cl, ci, V', hv.below hb, trivial, trivial, trivial, fun _ _ _ _ => trivial⟩ hc2 hzz ((gl_kept HGL.out HR.out.fr.2 HS0.out).below hb))
              have HV' := Aside0.mk hv
              have HXK := Aside0.mk hXk
              have HXC := Aside0.mk hXc
              have HOW := Aside0.mk hown
              have HZZ := Aside0.mk hzz
              have HC1 := Aside0.mk hc1
              have HC2 := Aside0.mk hc2
              have HHD := Aside0.mk (hd_cell hv.inn hc2)
              have c1 := hv.c1
              have hj0 : (0 : Int) ≤ (j : Int) := by omega
              have hjm : (j : Int) < (Ls.length : Int) := by omega
              have hc0 : (0 : Int) ≤ (c : Int) := by omega
              have hcn : (c : Int) < (n : Int) := by omega
              have HW3 : Aside0 (wrap64 ((j : Int) + 1) = ((j + 1 : Nat) : Int)) := ⟨wrap_up j Ls.length (by omega) (by have := HLL.out; omega)⟩
              clear hv hXk hXc hown hzz hc1 hc2 hc3
              have HLTj := Aside0.mk hlt
              go_wp2
              go_region_held3 (fun W => W.cell? ⟨g, 1, none⟩ = some (.slice (some ⟨gi, 0, none⟩) n ci)) (first | go_keep | exact c1 | exact c1b | exact c1c) (first | (go_at_call 33; go_loud ((with_reducible refine (HSE.out _ (dr_below _)).mono ?_); rintro e4 w4 ⟨gf, cf, F, rfl, hgf, hrf, hF, b4⟩; have hv4 := (HV'.out.below (dr_below _)).below b4; have c1b := hv4.c1; (obtain ⟨hcc, hcf⟩ := hd_cell hv4.inn HC2.out); have c1c := cell_kept c1b (Fr.set (w := w4) (g := gi) c (.slice (some ⟨gf, 0, none⟩) (wide n) cf)).2 hv4.hd_ne.2; have HN := Aside0.mk ((HR.out.below (dr_below _)).next HSS.out.2.2.1 HLTj.out HC1.out HC2.out (HV'.out.below (dr_below _)) HXK.out HXC.out HOW.out HZZ.out hgf hrf hF b4); clear hgf hrf hF b4 hv4)))
              clear c1 hcell
              go_wp2
              go_roundg k2
              case measure => omega
              case rel => exact ⟨j + 1, by first | rfl | (rw [← HW3.out]) | (congr 1; omega), ⟨by have := HK.out; omega⟩, ⟨by have := HLTj.out; omega⟩, HN⟩
            · have hjn : Ls.length = j := by have := HJ.out; omega
              have HJN := Aside0.mk hjn
              have hnl : ¬ ((j : Int) < (Ls.length : Int)) := by omega
              have hdd : decide ((j : Int) < (Ls.length : Int)) = false := decide_eq_false hnl
              clear hjn
              go_wp2
              go_ret
              obtain ⟨V', XX, hv, hXk, hXc, hown⟩ := HR.out.has
              rw [← HJN.out, List.take_length, HLS.out] at hXc
              refine ⟨rfl, ⟨XX, ⟨gl, gi, cl, ci, V', hv, .inl HSS.out.1, .inl HSS.out.2.1, .inl HSS.out.2.2.1, hown⟩, hXk, fun c hc => ?_⟩, HR.out.fr⟩
              by_cases hq : c = a ∨ X (n + c) a = true
              · rw [if_pos hq]
                refine (hXc c hc).1 (elems_mem Q n c hc ?_)
                rw [HQ.out]
                rcases hq with hq | hq
                · simp [hq]
                · simp [hq]
              · rw [if_neg hq]
                refine (hXc c hc).2 (fun hm => hq ?_)
                obtain ⟨c', h1, _, h3⟩ := elems_at Q n (c : Int) hm
                have e : c = c' := by omega
                subst e
                rw [HQ.out] at h3
                simpa using h3
end Go.Proofs.YtmldefednihohaaDoor.Grp
