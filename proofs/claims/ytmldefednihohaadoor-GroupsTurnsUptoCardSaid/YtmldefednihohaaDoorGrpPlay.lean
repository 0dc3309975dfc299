/- The statements' own table of links: link, play (plain walks); printed by gen_play.py. -/
import Derived.Test.YtmldefednihohaaDoorGrpFrom
import Derived.BigQuiet
import Derived.Deep.RegionHeld3
namespace Go.Proofs.YtmldefednihohaaDoor.Grp
open Go.RowKit Go.Proofs.YtmldefednihohaaDoorW.PrintWords Go.Proofs.YtmldefednihohaaDoorW.PrintLast Go.Proofs.YtmldefednihohaaDoorW.PrintMore
set_option linter.unusedVariables false
set_option linter.unusedSimpArgs false
set_option maxRecDepth 100000
structure OpX where
  kind : Int
  which : Int
  a : Int
  b : Int
/-- A step at the address p. -/
structure OxAt (w : World) (p : Addr) (d : OpX) : Prop where
  c0 : w.cell? p = some (.int .i64 d.kind)
  c1 : w.cell? { block := p.block, off := p.off + 1 } = some (.int .i64 d.which)
  c2 : w.cell? { block := p.block, off := p.off + 2 } = some (.int .i64 d.a)
  c3 : w.cell? { block := p.block, off := p.off + 3 } = some (.int .i64 d.b)
def OxsAt (w : World) (A : Option Addr) (n : Nat) (G : Nat → OpX) : Prop := ∀ i, i < n → ∃ ad, A = some ad ∧ OxAt w (ad.add (i * 4)) (G i)
theorem OxsAt.kept {w w' : World} {A : Option Addr} {n : Nat} {G : Nat → OpX} {T : Nat → Prop} (h : OxsAt w A n G) (hk : Kept w w' T) (hA : ∀ ad, A = some ad → ¬ T ad.block) : OxsAt w' A n G := fun i hi => by
  obtain ⟨ad, rfl, c0, c1, c2, c3⟩ := h i hi
  have hb : ¬ T (ad.add (i * 4)).block := by rw [block_addO]; exact hA ad rfl
  exact ⟨ad, rfl, cell_kept c0 hk hb, cell_kept c1 hk hb, cell_kept c2 hk hb, cell_kept c3 hk hb⟩
def putB (P : Nat → Bool) (k : Nat) (x : Bool) : Nat → Bool := fun y => if y = k then x else P y
theorem bl_put (P : Nat → Bool) {n k : Nat} (h : k < n) (x : Bool) : (bl P n).set k x = bl (putB P k x) n := by
  apply List.ext_getElem?
  intro j
  simp only [bl, List.getElem?_set, List.getElem?_map, List.length_map, List.length_range]
  by_cases hj : j < n
  · by_cases e : k = j
    · subst e
      simp [hj, putB]
    · have e2 : ¬ j = k := fun h => e h.symm
      simp [hj, e, e2, putB]
  · have : k ≠ j := by omega
    simp [hj, this]
theorem BRel.putX {w W : World} {n gb cb k : Nat} {P : Nat → Bool} (h : BRel w n gb cb P W) (hk : k < n) (x : Bool) : BRel w n gb cb (putB P k x) (W.setCell ⟨gb, k, none⟩ (.bool x)) := by
  refine ⟨low_set _ h.low h.ge, ?_⟩
  have := (Kd.R_putg h.row (k : Int) x).1
  rw [← bl_put P hk]
  exact this
theorem BRel.keptX {w W W2 : World} {n gb cb : Nat} {P : Nat → Bool} {T : Nat → Prop} (h : BRel w n gb cb P W) (hf : Fr W W2 T) (hT : ∀ k, T k → w.heap.size ≤ k ∧ k ≠ gb) : BRel w n gb cb P W2 :=
  ⟨⟨hf.1.os.trans h.low.os, hf.1.tape.trans h.low.tape, hf.1.output.trans h.low.output, Nat.le_trans h.low.size hf.1.size, fun k hk => (hf.2.2 k (Nat.lt_of_lt_of_le hk h.low.size) (fun e => by have := (hT k e).1; omega)).trans (h.low.block k hk)⟩,
   other h.row hf.2 (fun b hb e => (hT b e).2 (Option.some.inj hb).symm)⟩
theorem idx_lt {n a b : Nat} (ha : a < n) (hb : b < n) : a * n + b < n * n := by
  have : (a + 1) * n ≤ n * n := Nat.mul_le_mul_right n ha
  rw [Nat.add_mul] at this
  omega
theorem idx_inj {n a b i j : Nat} (hb : b < n) (hj : j < n) (h : a * n + b = i * n + j) : a = i ∧ b = j := by
  have h1 : (a * n + b) / n = a := by rw [Nat.mul_comm, Nat.mul_add_div (by omega), Nat.div_eq_of_lt hb]; omega
  have h2 : (i * n + j) / n = i := by rw [Nat.mul_comm, Nat.mul_add_div (by omega), Nat.div_eq_of_lt hj]; omega
  have e : a = i := by rw [← h1, ← h2, h]
  subst e
  exact ⟨rfl, by omega⟩
theorem gl_pos2 {w : World} (h : GL w) : 0 < w.heap.size := by
  have := World.block_lt_of_cell? w _ (h.out 0 (by decide))
  exact this
/-- The blocks that a turn may leave it in. -/
def Mo2 (S : Nat → Prop) (w w' : World) : Nat → Prop := fun k => (S k ∨ w.heap.size ≤ k) ∧ k < w'.heap.size
/-- The table behind so many steps. -/
def playT (n : Nat) (P : Nat → Bool) (G : Nat → OpX) : Nat → Nat → Bool
  | 0 => P
  | i + 1 => if (okG n (G i).a && okG n (G i).b) = true then putB (playT n P G i) ((G i).a.toNat * n + (G i).b.toNat) ((G i).kind.tmod 2 != 0) else playT n P G i
/-- A table of links and an index of the same ones. -/
structure PlR (w W : World) (q gb cb n : Nat) (x : Option Addr) (S : Nat → Prop) (L : Nat → Nat → Bool) (P : Nat → Bool) : Prop where
  px : PX S W (.pointer x) n L
  sg : ∀ k, S k → w.heap.size ≤ k ∧ k < W.heap.size ∧ k ≠ q ∧ k ≠ gb
  row : BRel w (n * n) gb cb P W
  top : W.heap[q]? = some (.cells #[.int .i64 (n : Int), .slice (some ⟨gb, 0, none⟩) (n * n) cb] 48 (0, 0))
  ne : q ≠ gb
  ag : ∀ a b, a < n → b < n → P (a * n + b) = L a b
  n1 : 1 ≤ n
  n24 : n ≤ 24
section
variable {w W W2 : World} {q gb cb n : Nat} {x : Option Addr} {S : Nat → Prop} {L : Nat → Nat → Bool} {P : Nat → Bool}
theorem PlR.below (h : PlR w W q gb cb n x S L P) (hb : Below W.heap.size W W2) : PlR w W2 q gb cb n x S L P :=
  { h with px := h.px.below hb, row := h.row.below hb, top := (hb.block q (blk_lt h.top)).trans h.top, sg := fun k hk => ⟨(h.sg k hk).1, Nat.lt_of_lt_of_le (h.sg k hk).2.1 hb.size, (h.sg k hk).2.2⟩ }
/-- What is far away changes nothing. -/
theorem PlR.far {T : Nat → Prop} (h : PlR w W q gb cb n x S L P) (hf : Fr W W2 T) (hT : ∀ k, T k → w.heap.size ≤ k ∧ ¬ S k ∧ k ≠ q ∧ k ≠ gb) : PlR w W2 q gb cb n x S L P :=
  { h with px := h.px.kept hf.2 (fun k hk hk' => (hT k hk').2.1 hk), row := h.row.keptX hf (fun k hk => ⟨(hT k hk).1, (hT k hk).2.2.2⟩), top := blk_kept h.top hf.2 (fun e => (hT q e).2.2.1 rfl), sg := fun k hk => ⟨(h.sg k hk).1, Nat.lt_of_lt_of_le (h.sg k hk).2.1 hf.1.size, (h.sg k hk).2.2⟩ }
theorem PlR.cells (h : PlR w W q gb cb n x S L P) : W.cell? ⟨q, 0, none⟩ = some (.int .i64 (n : Int)) ∧ W.cell? ⟨q, 1, none⟩ = some (.slice (some ⟨gb, 0, none⟩) (n * n) cb) :=
  ⟨by rw [blk_cell h.top]; rfl, by rw [blk_cell h.top]; rfl⟩
theorem PlR.gblt (h : PlR w W q gb cb n x S L P) : gb < W.heap.size := own_lt' h.row.row gb rfl
/-- A cell of the table is set. -/
theorem PlR.set (h : PlR w W q gb cb n x S L P) {i j : Nat} (hi : i < n) (hj : j < n) (y : Bool) : PX S (W.setCell ⟨gb, i * n + j, none⟩ (.bool y)) (.pointer x) n L ∧ BRel w (n * n) gb cb (putB P (i * n + j) y) (W.setCell ⟨gb, i * n + j, none⟩ (.bool y)) ∧ (W.setCell ⟨gb, i * n + j, none⟩ (.bool y)).heap[q]? = some (.cells #[.int .i64 (n : Int), .slice (some ⟨gb, 0, none⟩) (n * n) cb] 48 (0, 0)) ∧ Fr W (W.setCell ⟨gb, i * n + j, none⟩ (.bool y)) (fun k => k = gb) :=
  ⟨h.px.kept (Fr.set (w := W) (g := gb) _ (.bool y)).2 (fun k hk e => (h.sg k hk).2.2.2 e), h.row.putX (idx_lt hi hj) y, blk_kept h.top (Fr.set (w := W) (g := gb) _ (.bool y)).2 h.ne, Fr.set _ _⟩
/-- A turn of the index, behind one of the table. -/
theorem PlR.turn {W1 : World} (h : PlR w W q gb cb n x S L P) {P' : Nat → Bool} {L' : Nat → Nat → Bool} (hf1 : Fr W W1 (fun k => k = gb)) (hrow : BRel w (n * n) gb cb P' W1) (htop : W1.heap[q]? = some (.cells #[.int .i64 (n : Int), .slice (some ⟨gb, 0, none⟩) (n * n) cb] 48 (0, 0)))
    (hp : PX (More S W1) W2 (.pointer x) n L') (hf : Fr W1 W2 S) (ag : ∀ a b, a < n → b < n → P' (a * n + b) = L' a b) : PlR w W2 q gb cb n x (Mo2 S W W2) L' P' ∧ Fr W W2 (fun k => S k ∨ k = gb) := by
  have z1 := hf1.1.size
  have z2 := hf.1.size
  have zq := blk_lt h.top
  have zg := h.gblt
  have zw := h.row.low.size
  refine ⟨{ px := hp.bound.mono ?_, sg := ?_, row := hrow.keptX hf (fun k hk => ⟨(h.sg k hk).1, (h.sg k hk).2.2.2⟩), top := blk_kept htop hf.2 (fun e => (h.sg q e).2.2.1 rfl), ne := h.ne, ag := ag, n1 := h.n1, n24 := h.n24 }, Fr.then_ (S := fun k => S k ∨ k = gb) ⟨hf1.1, hf1.2.mono fun k hk => .inr hk⟩ hf (fun k hk => .inl (.inl hk))⟩
  · rintro k ⟨hk | hk, hlt⟩
    · exact ⟨.inl hk, hlt⟩
    · exact ⟨.inr (by omega), hlt⟩
  · rintro k ⟨hk | hk, hlt⟩
    · have := h.sg k hk; exact ⟨this.1, hlt, this.2.2⟩
    · exact ⟨by omega, hlt, by omega, by omega⟩
end
theorem kept_ds (W : World) (m gb i : Nat) (u : Value) : Kept W ((W.drewN m).setCell ⟨gb, i, none⟩ u) (fun k => k = gb) := Kept.setCell (S := fun k => k = gb) ((Kept.refl W (fun k => k = gb)).drewN m) (p := (⟨gb, i, none⟩ : Addr)) (.inl rfl) _
theorem put_add {n i j : Nat} {L : Nat → Nat → Bool} {P : Nat → Bool} (ag : ∀ a b, a < n → b < n → P (a * n + b) = L a b) (hi : i < n) (hj : j < n) : ∀ a b, a < n → b < n → putB P (i * n + j) true (a * n + b) = addT n L (i : Int) (j : Int) a b := by
  have hok : (okG n (i : Int) && okG n (j : Int)) = true := by
    rw [Bool.and_eq_true]; exact ⟨decide_eq_true (by omega), decide_eq_true (by omega)⟩
  intro a b ha hb
  unfold addT
  rw [hok, Int.toNat_natCast, Int.toNat_natCast]
  unfold putB
  by_cases e : a = i ∧ b = j
  · obtain ⟨rfl, rfl⟩ := e
    rw [if_pos rfl]
    by_cases hL : L a b = true
    · rw [hL]; simp [hL]
    · have hL' : L a b = false := by simpa using hL
      rw [hL', if_pos (show (true && !false) = true from rfl)]
      exact ((addL_iff L a b a b).2 (.inr ⟨rfl, rfl⟩)).symm
  · rw [if_neg (fun h => e (idx_inj hb hj h)), ag a b ha hb]
    split
    · exact bool_iff ⟨fun h => (addL_iff L i j a b).2 (.inl h), fun h => ((addL_iff L i j a b).1 h).elim id (fun h => absurd h e)⟩
    · rfl
theorem put_cut {n i j : Nat} {L : Nat → Nat → Bool} {P : Nat → Bool} (ag : ∀ a b, a < n → b < n → P (a * n + b) = L a b) (hi : i < n) (hj : j < n) : ∀ a b, a < n → b < n → putB P (i * n + j) false (a * n + b) = cutT n L (i : Int) (j : Int) a b := by
  have hok : (okG n (i : Int) && okG n (j : Int)) = true := by
    rw [Bool.and_eq_true]; exact ⟨decide_eq_true (by omega), decide_eq_true (by omega)⟩
  intro a b ha hb
  unfold cutT
  rw [hok, Int.toNat_natCast, Int.toNat_natCast]
  unfold putB
  by_cases e : a = i ∧ b = j
  · obtain ⟨rfl, rfl⟩ := e
    rw [if_pos rfl]
    by_cases hL : L a b = true
    · rw [hL, if_pos (show (true && true) = true from rfl)]; simp [cutL, upX]
    · have hL' : L a b = false := by simpa using hL
      rw [hL']; simp [hL']
  · rw [if_neg (fun h => e (idx_inj hb hj h)), ag a b ha hb]
    split
    · unfold cutL upX
      by_cases ea : a = i
      · subst ea
        rw [if_pos rfl]
        have : (b == j) = false := by simp; exact fun h => e ⟨rfl, h⟩
        simp [this]
      · rw [if_neg ea]
    · rfl
set_option maxHeartbeats 2000000 in
theorem link_calls (W : World) (q n a b : Nat) (h : W.cell? ⟨q, 0, none⟩ = some (.int .i64 (n : Int))) (hn : n ≤ 24) (ha : a < n) (hb : b < n) :
    Calls Tryd.prog 23 #[.pointer (some ⟨q, 0, none⟩), .int .i64 (a : Int), .int .i64 (b : Int)] W fun e w' => e = .returned (.int .i64 ((a * n + b : Nat) : Int)) ∧ w' = W := by
  have hm : a * n ≤ 24 * 24 := Nat.mul_le_mul (by omega) hn
  have hw1 : wrap64 ((a : Int) * (n : Int)) = ((a * n : Nat) : Int) := by
    rw [Int.natCast_mul]
    have : ((a : Int) * (n : Int)) = ((a * n : Nat) : Int) := by rw [Int.natCast_mul]
    rw [this]
    unfold wrap64
    omega
  have hw2 : wrap64 (((a * n : Nat) : Int) + (b : Int)) = ((a * n + b : Nat) : Int) := by unfold wrap64; omega
  have HW1 := Aside0.mk hw1
  have HW2 := Aside0.mk hw2
  clear hm ha hb hn hw1 hw2
  go_enter Tryd.func23, Tryd.ntmps23
  go_wp2
  go_ret
  exact ⟨by show Ending.returned (Value.int .i64 (wrap64 (wrap64 ((a : Int) * (n : Int)) + (b : Int)))) = _; rw [HW1.out, HW2.out], rfl⟩
set_option maxHeartbeats 16000000 in
theorem play_calls (w W : World) (q gb cb n : Nat) (x : Option Addr) (S : Nat → Prop) (L : Nat → Nat → Bool) (P0 : Nat → Bool) (A : Option Addr) (m c : Nat) (G : Nat → OpX) (h : PlR w W q gb cb n x S L P0) (ho : OxsAt W A m G) (hA : ∀ ad, A = some ad → ¬ S ad.block ∧ ad.block ≠ gb) (hA2 : ∀ ad, A = some ad → 0 < m → ad.block < W.heap.size) (hgl : GL w) (hm : m ≤ 300) :
    Calls Tryd.prog 20 #[.pointer (some ⟨q, 0, none⟩), .pointer x, .slice A m c] W fun e w' => e = .returned (.bool true) ∧ ∃ S' L' P', PlR w w' q gb cb n x S' L' P' ∧ Fr W w' (fun k => S k ∨ k = gb) ∧ (∀ k, S' k → S k ∨ W.heap.size ≤ k) ∧ P' = playT n P0 G m := by
  have H := Aside0.mk h
  have HO := Aside0.mk ho
  have HA := Aside0.mk hA
  have HA2 := Aside0.mk hA2
  have HG := Aside0.mk hgl
  have HM := Aside0.mk hm
  have HN1 := Aside0.mk h.n1
  have HN24 := Aside0.mk h.n24
  clear h ho hA hA2 hgl hm
  go_enter Tryd.func20, Tryd.ntmps20
  go_wp2
  go_loopg [7] (m + 1) (fun kq v7 w' => ∃ (i : Nat) (S' : Nat → Prop) (L : Nat → Nat → Bool) (P : Nat → Bool), v7 = .int .i64 (i : Int) ∧ Aside0 (kq + i = m + 1) ∧ Aside0 (i ≤ m) ∧ Aside0 (PlR w w' q gb cb n x S' L P) ∧ Aside0 (Fr W w' (fun k => S k ∨ k = gb)) ∧ Aside0 (∀ k, S' k → S k ∨ W.heap.size ≤ k) ∧ Aside0 (P = playT n P0 G i))
  case atStart => exact ⟨0, S, L, P0, rfl, ⟨rfl⟩, ⟨Nat.zero_le _⟩, H, ⟨Fr.refl _ _⟩, ⟨fun k hk => .inl hk⟩, ⟨rfl⟩⟩
  case round =>
    clear H
    obtain ⟨i, S', L, P, rfl, HK, HJ, H, HF, HS, HPQ⟩ := hrel
    cases gk with
    | zero => exact absurd HK.out (by have := HJ.out; omega)
    | succ k1 =>
      by_cases hlt : i < m
      · have hi0 : (0 : Int) ≤ (i : Int) := by omega
        have him : (i : Int) < (m : Int) := by omega
        have HW3 : Aside0 (wrap64 ((i : Int) + 1) = ((i + 1 : Nat) : Int)) := ⟨wrap_up i m (by omega) (by have := HM.out; omega)⟩
        obtain ⟨ad, hA, ho⟩ := HO.out.kept HF.out.2 (fun ad hA hk => hk.elim (HA.out ad hA).1 (HA.out ad hA).2) i hlt
        subst hA
        obtain ⟨o0, o1, o2, o3⟩ := ho
        have hpt : playT n P0 G (i + 1) = if (okG n (G i).a && okG n (G i).b) = true then putB (playT n P0 G i) ((G i).a.toNat * n + (G i).b.toNat) ((G i).kind.tmod 2 != 0) else playT n P0 G i := rfl
        rw [← HPQ.out] at hpt
        generalize G i = d at o0 o1 o2 o3 hpt
        obtain ⟨dk, dw, da, db⟩ := d
        simp only at o0 o1 o2 o3 hpt
        have HPT := Aside0.mk hpt
        clear hpt
        go_upto_region 5 with (fail)
        have H6 := Aside0.mk (H.out.below (below_alloc (Below.refl wr.heap.size wr) (.cells #[.int .i64 dk, .int .i64 dw, .int .i64 da, .int .i64 db] 40)))
        have F6 := Aside0.mk (HF.out.then_ (Fr.of_below (below_alloc (Below.refl wr.heap.size wr) (.cells #[.int .i64 dk, .int .i64 dw, .int .i64 da, .int .i64 db] 40)) (fun _ => False)) (fun _ hk => hk.elim))
        have TP := Aside0.mk (heap_alloc_new wr (.cells #[.int .i64 dk, .int .i64 dw, .int .i64 da, .int .i64 db] 40))
        have HQ : Aside0 (¬ S' wr.heap.size ∧ wr.heap.size ≠ gb) := ⟨fun e => by have := (H.out.sg _ e).2.1; omega, fun e => by have := H.out.gblt; omega⟩
        generalize wr.alloc (.cells #[.int .i64 dk, .int .i64 dw, .int .i64 da, .int .i64 db] 40) = W6 at H6 F6 TP ⊢
        generalize wr.heap.size = kb at TP HQ ⊢
        clear o0 o1 o2 o3 H HF
        obtain ⟨l0, l1⟩ := H6.out.cells
        have t0 : W6.cell? ⟨kb, 0, none⟩ = some (.int .i64 dk) := by rw [blk_cell TP.out 0]; rfl
        have t2 : W6.cell? ⟨kb, 2, none⟩ = some (.int .i64 da) := by rw [blk_cell TP.out 2]; rfl
        have t3 : W6.cell? ⟨kb, 3, none⟩ = some (.int .i64 db) := by rw [blk_cell TP.out 3]; rfl
        obtain ⟨y, hy⟩ : ∃ y, (dk.tmod 2 != 0) = y := ⟨_, rfl⟩
        rcases (show da < 0 ∨ (0 ≤ da ∧ (n : Int) ≤ da) ∨ ((0 ≤ da ∧ da < (n : Int)) ∧ db < 0) ∨ ((0 ≤ da ∧ da < (n : Int)) ∧ 0 ≤ db ∧ (n : Int) ≤ db) ∨ ((0 ≤ da ∧ da < (n : Int)) ∧ 0 ≤ db ∧ db < (n : Int)) by omega) with hc | hc | hc | hc | hc
        · have d1 : decide (da ≥ 0) = false := decide_eq_false (by omega)
          cases y with
          | true =>
            have hbd : (okG n da && okG n db) = false := by
              unfold okG
              rw [Bool.and_eq_false_iff]
              first
                | exact .inl (decide_eq_false (by omega))
                | exact .inr (decide_eq_false (by omega))
            have HAA : Aside0 (addA n L da db = 2) := ⟨by unfold addA; rw [if_neg (by have := HN1.out; omega), if_neg (by rw [hbd]; simp)]⟩
            have HTT : Aside0 (addT n L da db = L) := ⟨by unfold addT; rw [hbd]; rfl⟩
            have HPN : Aside0 (playT n P0 G (i + 1) = P) := ⟨by rw [HPT.out, if_neg (by rw [hbd]; simp)]⟩
            clear hbd
            go_quiet (fail)
            have H7 := Aside0.mk (H6.out.below (dnb W6 nq))
            have F7 := Aside0.mk (F6.out.then_ (Fr.of_below (dnb W6 nq) (fun _ => False)) (fun _ hk => hk.elim))
            go_wp2_with (go_at_call 10; (refine (padd_calls S' (W6.drewN nq) (.pointer x) n L da db H7.out.px).mono ?_; rintro e8 w8 ⟨rfl, p8, f8⟩; (rw [HAA.out]); (rw [HTT.out] at p8); have HT := Aside0.mk (H7.out.turn (Fr.refl _ _) H7.out.row H7.out.top p8 f8 H7.out.ag); clear p8 f8))
            go_roundg k1
            case measure => omega
            case rel => exact ⟨i + 1, _, _, _, by first | rfl | (rw [← HW3.out]), ⟨by have := HK.out; omega⟩, ⟨by omega⟩, ⟨HT.out.1⟩, ⟨F7.out.then_ HT.out.2 (fun k hk => hk.elim (fun e => (HS.out k e).elim (fun e => .inl (.inl e)) .inr) (fun e => .inl (.inr e)))⟩, ⟨fun k hk => hk.1.elim (fun e => HS.out k e) (fun e => .inr (Nat.le_trans F7.out.1.size e))⟩, ⟨HPN.out.symm⟩⟩
          | false =>
            have hbd : (okG n da && okG n db) = false := by
              unfold okG
              rw [Bool.and_eq_false_iff]
              first
                | exact .inl (decide_eq_false (by omega))
                | exact .inr (decide_eq_false (by omega))
            have HAA : Aside0 (cutA n L da db = 2) := ⟨by unfold cutA; rw [if_neg (by have := HN1.out; omega), if_neg (by rw [hbd]; simp)]⟩
            have HTT : Aside0 (cutT n L da db = L) := ⟨by unfold cutT; rw [hbd]; rfl⟩
            have HPN : Aside0 (playT n P0 G (i + 1) = P) := ⟨by rw [HPT.out, if_neg (by rw [hbd]; simp)]⟩
            clear hbd
            go_quiet (fail)
            have H7 := Aside0.mk (H6.out.below (dnb W6 nq))
            have F7 := Aside0.mk (F6.out.then_ (Fr.of_below (dnb W6 nq) (fun _ => False)) (fun _ hk => hk.elim))
            go_wp2_with (go_at_call 11; (refine (pcut_calls S' (W6.drewN nq) (.pointer x) n L da db H7.out.px (HG.out.below H7.out.row.low) (fun e => by have h1 := (H6.out.sg 0 e).1; have h2 := gl_pos2 HG.out; omega)).mono ?_; rintro e8 w8 ⟨rfl, p8, f8⟩; (rw [HAA.out]); (rw [HTT.out] at p8); have HT := Aside0.mk (H7.out.turn (Fr.refl _ _) H7.out.row H7.out.top p8 f8 H7.out.ag); clear p8 f8))
            go_roundg k1
            case measure => omega
            case rel => exact ⟨i + 1, _, _, _, by first | rfl | (rw [← HW3.out]), ⟨by have := HK.out; omega⟩, ⟨by omega⟩, ⟨HT.out.1⟩, ⟨F7.out.then_ HT.out.2 (fun k hk => hk.elim (fun e => (HS.out k e).elim (fun e => .inl (.inl e)) .inr) (fun e => .inl (.inr e)))⟩, ⟨fun k hk => hk.1.elim (fun e => HS.out k e) (fun e => .inr (Nat.le_trans F7.out.1.size e))⟩, ⟨HPN.out.symm⟩⟩
        · have d1 : decide (da ≥ 0) = true := decide_eq_true (by omega)
          have d2 : decide (da < (n : Int)) = false := decide_eq_false (by omega)
          cases y with
          | true =>
            have hbd : (okG n da && okG n db) = false := by
              unfold okG
              rw [Bool.and_eq_false_iff]
              first
                | exact .inl (decide_eq_false (by omega))
                | exact .inr (decide_eq_false (by omega))
            have HAA : Aside0 (addA n L da db = 2) := ⟨by unfold addA; rw [if_neg (by have := HN1.out; omega), if_neg (by rw [hbd]; simp)]⟩
            have HTT : Aside0 (addT n L da db = L) := ⟨by unfold addT; rw [hbd]; rfl⟩
            have HPN : Aside0 (playT n P0 G (i + 1) = P) := ⟨by rw [HPT.out, if_neg (by rw [hbd]; simp)]⟩
            clear hbd
            go_quiet (fail)
            have H7 := Aside0.mk (H6.out.below (dnb W6 nq))
            have F7 := Aside0.mk (F6.out.then_ (Fr.of_below (dnb W6 nq) (fun _ => False)) (fun _ hk => hk.elim))
            go_wp2_with (go_at_call 10; (refine (padd_calls S' (W6.drewN nq) (.pointer x) n L da db H7.out.px).mono ?_; rintro e8 w8 ⟨rfl, p8, f8⟩; (rw [HAA.out]); (rw [HTT.out] at p8); have HT := Aside0.mk (H7.out.turn (Fr.refl _ _) H7.out.row H7.out.top p8 f8 H7.out.ag); clear p8 f8))
            go_roundg k1
            case measure => omega
            case rel => exact ⟨i + 1, _, _, _, by first | rfl | (rw [← HW3.out]), ⟨by have := HK.out; omega⟩, ⟨by omega⟩, ⟨HT.out.1⟩, ⟨F7.out.then_ HT.out.2 (fun k hk => hk.elim (fun e => (HS.out k e).elim (fun e => .inl (.inl e)) .inr) (fun e => .inl (.inr e)))⟩, ⟨fun k hk => hk.1.elim (fun e => HS.out k e) (fun e => .inr (Nat.le_trans F7.out.1.size e))⟩, ⟨HPN.out.symm⟩⟩
          | false =>
            have hbd : (okG n da && okG n db) = false := by
              unfold okG
              rw [Bool.and_eq_false_iff]
              first
                | exact .inl (decide_eq_false (by omega))
                | exact .inr (decide_eq_false (by omega))
            have HAA : Aside0 (cutA n L da db = 2) := ⟨by unfold cutA; rw [if_neg (by have := HN1.out; omega), if_neg (by rw [hbd]; simp)]⟩
            have HTT : Aside0 (cutT n L da db = L) := ⟨by unfold cutT; rw [hbd]; rfl⟩
            have HPN : Aside0 (playT n P0 G (i + 1) = P) := ⟨by rw [HPT.out, if_neg (by rw [hbd]; simp)]⟩
            clear hbd
            go_quiet (fail)
            have H7 := Aside0.mk (H6.out.below (dnb W6 nq))
            have F7 := Aside0.mk (F6.out.then_ (Fr.of_below (dnb W6 nq) (fun _ => False)) (fun _ hk => hk.elim))
            go_wp2_with (go_at_call 11; (refine (pcut_calls S' (W6.drewN nq) (.pointer x) n L da db H7.out.px (HG.out.below H7.out.row.low) (fun e => by have h1 := (H6.out.sg 0 e).1; have h2 := gl_pos2 HG.out; omega)).mono ?_; rintro e8 w8 ⟨rfl, p8, f8⟩; (rw [HAA.out]); (rw [HTT.out] at p8); have HT := Aside0.mk (H7.out.turn (Fr.refl _ _) H7.out.row H7.out.top p8 f8 H7.out.ag); clear p8 f8))
            go_roundg k1
            case measure => omega
            case rel => exact ⟨i + 1, _, _, _, by first | rfl | (rw [← HW3.out]), ⟨by have := HK.out; omega⟩, ⟨by omega⟩, ⟨HT.out.1⟩, ⟨F7.out.then_ HT.out.2 (fun k hk => hk.elim (fun e => (HS.out k e).elim (fun e => .inl (.inl e)) .inr) (fun e => .inl (.inr e)))⟩, ⟨fun k hk => hk.1.elim (fun e => HS.out k e) (fun e => .inr (Nat.le_trans F7.out.1.size e))⟩, ⟨HPN.out.symm⟩⟩
        · have d1 : decide (da ≥ 0) = true := decide_eq_true (by omega)
          have d2 : decide (da < (n : Int)) = true := decide_eq_true (by omega)
          have d3 : decide (db ≥ 0) = false := decide_eq_false (by omega)
          cases y with
          | true =>
            have hbd : (okG n da && okG n db) = false := by
              unfold okG
              rw [Bool.and_eq_false_iff]
              first
                | exact .inl (decide_eq_false (by omega))
                | exact .inr (decide_eq_false (by omega))
            have HAA : Aside0 (addA n L da db = 2) := ⟨by unfold addA; rw [if_neg (by have := HN1.out; omega), if_neg (by rw [hbd]; simp)]⟩
            have HTT : Aside0 (addT n L da db = L) := ⟨by unfold addT; rw [hbd]; rfl⟩
            have HPN : Aside0 (playT n P0 G (i + 1) = P) := ⟨by rw [HPT.out, if_neg (by rw [hbd]; simp)]⟩
            clear hbd
            go_quiet (fail)
            have H7 := Aside0.mk (H6.out.below (dnb W6 nq))
            have F7 := Aside0.mk (F6.out.then_ (Fr.of_below (dnb W6 nq) (fun _ => False)) (fun _ hk => hk.elim))
            go_wp2_with (go_at_call 10; (refine (padd_calls S' (W6.drewN nq) (.pointer x) n L da db H7.out.px).mono ?_; rintro e8 w8 ⟨rfl, p8, f8⟩; (rw [HAA.out]); (rw [HTT.out] at p8); have HT := Aside0.mk (H7.out.turn (Fr.refl _ _) H7.out.row H7.out.top p8 f8 H7.out.ag); clear p8 f8))
            go_roundg k1
            case measure => omega
            case rel => exact ⟨i + 1, _, _, _, by first | rfl | (rw [← HW3.out]), ⟨by have := HK.out; omega⟩, ⟨by omega⟩, ⟨HT.out.1⟩, ⟨F7.out.then_ HT.out.2 (fun k hk => hk.elim (fun e => (HS.out k e).elim (fun e => .inl (.inl e)) .inr) (fun e => .inl (.inr e)))⟩, ⟨fun k hk => hk.1.elim (fun e => HS.out k e) (fun e => .inr (Nat.le_trans F7.out.1.size e))⟩, ⟨HPN.out.symm⟩⟩
          | false =>
            have hbd : (okG n da && okG n db) = false := by
              unfold okG
              rw [Bool.and_eq_false_iff]
              first
                | exact .inl (decide_eq_false (by omega))
                | exact .inr (decide_eq_false (by omega))
            have HAA : Aside0 (cutA n L da db = 2) := ⟨by unfold cutA; rw [if_neg (by have := HN1.out; omega), if_neg (by rw [hbd]; simp)]⟩
            have HTT : Aside0 (cutT n L da db = L) := ⟨by unfold cutT; rw [hbd]; rfl⟩
            have HPN : Aside0 (playT n P0 G (i + 1) = P) := ⟨by rw [HPT.out, if_neg (by rw [hbd]; simp)]⟩
            clear hbd
            go_quiet (fail)
            have H7 := Aside0.mk (H6.out.below (dnb W6 nq))
            have F7 := Aside0.mk (F6.out.then_ (Fr.of_below (dnb W6 nq) (fun _ => False)) (fun _ hk => hk.elim))
            go_wp2_with (go_at_call 11; (refine (pcut_calls S' (W6.drewN nq) (.pointer x) n L da db H7.out.px (HG.out.below H7.out.row.low) (fun e => by have h1 := (H6.out.sg 0 e).1; have h2 := gl_pos2 HG.out; omega)).mono ?_; rintro e8 w8 ⟨rfl, p8, f8⟩; (rw [HAA.out]); (rw [HTT.out] at p8); have HT := Aside0.mk (H7.out.turn (Fr.refl _ _) H7.out.row H7.out.top p8 f8 H7.out.ag); clear p8 f8))
            go_roundg k1
            case measure => omega
            case rel => exact ⟨i + 1, _, _, _, by first | rfl | (rw [← HW3.out]), ⟨by have := HK.out; omega⟩, ⟨by omega⟩, ⟨HT.out.1⟩, ⟨F7.out.then_ HT.out.2 (fun k hk => hk.elim (fun e => (HS.out k e).elim (fun e => .inl (.inl e)) .inr) (fun e => .inl (.inr e)))⟩, ⟨fun k hk => hk.1.elim (fun e => HS.out k e) (fun e => .inr (Nat.le_trans F7.out.1.size e))⟩, ⟨HPN.out.symm⟩⟩
        · have d1 : decide (da ≥ 0) = true := decide_eq_true (by omega)
          have d2 : decide (da < (n : Int)) = true := decide_eq_true (by omega)
          have d3 : decide (db ≥ 0) = true := decide_eq_true (by omega)
          have d4 : decide (db < (n : Int)) = false := decide_eq_false (by omega)
          cases y with
          | true =>
            have hbd : (okG n da && okG n db) = false := by
              unfold okG
              rw [Bool.and_eq_false_iff]
              first
                | exact .inl (decide_eq_false (by omega))
                | exact .inr (decide_eq_false (by omega))
            have HAA : Aside0 (addA n L da db = 2) := ⟨by unfold addA; rw [if_neg (by have := HN1.out; omega), if_neg (by rw [hbd]; simp)]⟩
            have HTT : Aside0 (addT n L da db = L) := ⟨by unfold addT; rw [hbd]; rfl⟩
            have HPN : Aside0 (playT n P0 G (i + 1) = P) := ⟨by rw [HPT.out, if_neg (by rw [hbd]; simp)]⟩
            clear hbd
            go_quiet (fail)
            have H7 := Aside0.mk (H6.out.below (dnb W6 nq))
            have F7 := Aside0.mk (F6.out.then_ (Fr.of_below (dnb W6 nq) (fun _ => False)) (fun _ hk => hk.elim))
            go_wp2_with (go_at_call 10; (refine (padd_calls S' (W6.drewN nq) (.pointer x) n L da db H7.out.px).mono ?_; rintro e8 w8 ⟨rfl, p8, f8⟩; (rw [HAA.out]); (rw [HTT.out] at p8); have HT := Aside0.mk (H7.out.turn (Fr.refl _ _) H7.out.row H7.out.top p8 f8 H7.out.ag); clear p8 f8))
            go_roundg k1
            case measure => omega
            case rel => exact ⟨i + 1, _, _, _, by first | rfl | (rw [← HW3.out]), ⟨by have := HK.out; omega⟩, ⟨by omega⟩, ⟨HT.out.1⟩, ⟨F7.out.then_ HT.out.2 (fun k hk => hk.elim (fun e => (HS.out k e).elim (fun e => .inl (.inl e)) .inr) (fun e => .inl (.inr e)))⟩, ⟨fun k hk => hk.1.elim (fun e => HS.out k e) (fun e => .inr (Nat.le_trans F7.out.1.size e))⟩, ⟨HPN.out.symm⟩⟩
          | false =>
            have hbd : (okG n da && okG n db) = false := by
              unfold okG
              rw [Bool.and_eq_false_iff]
              first
                | exact .inl (decide_eq_false (by omega))
                | exact .inr (decide_eq_false (by omega))
            have HAA : Aside0 (cutA n L da db = 2) := ⟨by unfold cutA; rw [if_neg (by have := HN1.out; omega), if_neg (by rw [hbd]; simp)]⟩
            have HTT : Aside0 (cutT n L da db = L) := ⟨by unfold cutT; rw [hbd]; rfl⟩
            have HPN : Aside0 (playT n P0 G (i + 1) = P) := ⟨by rw [HPT.out, if_neg (by rw [hbd]; simp)]⟩
            clear hbd
            go_quiet (fail)
            have H7 := Aside0.mk (H6.out.below (dnb W6 nq))
            have F7 := Aside0.mk (F6.out.then_ (Fr.of_below (dnb W6 nq) (fun _ => False)) (fun _ hk => hk.elim))
            go_wp2_with (go_at_call 11; (refine (pcut_calls S' (W6.drewN nq) (.pointer x) n L da db H7.out.px (HG.out.below H7.out.row.low) (fun e => by have h1 := (H6.out.sg 0 e).1; have h2 := gl_pos2 HG.out; omega)).mono ?_; rintro e8 w8 ⟨rfl, p8, f8⟩; (rw [HAA.out]); (rw [HTT.out] at p8); have HT := Aside0.mk (H7.out.turn (Fr.refl _ _) H7.out.row H7.out.top p8 f8 H7.out.ag); clear p8 f8))
            go_roundg k1
            case measure => omega
            case rel => exact ⟨i + 1, _, _, _, by first | rfl | (rw [← HW3.out]), ⟨by have := HK.out; omega⟩, ⟨by omega⟩, ⟨HT.out.1⟩, ⟨F7.out.then_ HT.out.2 (fun k hk => hk.elim (fun e => (HS.out k e).elim (fun e => .inl (.inl e)) .inr) (fun e => .inl (.inr e)))⟩, ⟨fun k hk => hk.1.elim (fun e => HS.out k e) (fun e => .inr (Nat.le_trans F7.out.1.size e))⟩, ⟨HPN.out.symm⟩⟩
        · obtain ⟨i1, rfl⟩ : ∃ i1 : Nat, da = (i1 : Int) := ⟨da.toNat, by omega⟩
          obtain ⟨j1, rfl⟩ : ∃ j1 : Nat, db = (j1 : Int) := ⟨db.toNat, by omega⟩
          have hi1 : i1 < n := by omega
          have hj1 : j1 < n := by omega
          have HI1 := Aside0.mk hi1
          have HJ1 := Aside0.mk hj1
          have d1 : decide ((i1 : Int) ≥ 0) = true := decide_eq_true (by omega)
          have d2 : decide ((i1 : Int) < (n : Int)) = true := decide_eq_true (by omega)
          have d3 : decide ((j1 : Int) ≥ 0) = true := decide_eq_true (by omega)
          have d4 : decide ((j1 : Int) < (n : Int)) = true := decide_eq_true (by omega)
          have e2 : decide (i1 < n) = true := decide_eq_true hi1
          have e4 : decide (j1 < n) = true := decide_eq_true hj1
          obtain ⟨xx, hxx⟩ : ∃ xx, xx = i1 * n + j1 := ⟨_, rfl⟩
          obtain ⟨NN, hNN⟩ : ∃ NN, NN = n * n := ⟨_, rfl⟩
          have hx0 : (0 : Int) ≤ (xx : Int) := by omega
          have hx1 : (xx : Int) < (NN : Int) := by have := idx_lt hi1 hj1; omega
          have HXX := Aside0.mk hxx
          have HNN := Aside0.mk hNN
          have HLK : Aside0 (∀ W : World, W.cell? ⟨q, 0, none⟩ = some (.int .i64 (n : Int)) → Calls Tryd.prog 23 #[.pointer (some ⟨q, 0, none⟩), .int .i64 (i1 : Int), .int .i64 (j1 : Int)] W fun e w' => e = .returned (.int .i64 (xx : Int)) ∧ w' = W) := ⟨fun W hW => by rw [hxx]; exact link_calls W q n i1 j1 hW HN24.out hi1 hj1⟩
          rw [← hNN] at l1
          obtain ⟨hc1, hf1⟩ := H6.out.row.cell (idx_lt hi1 hj1)
          rw [H6.out.ag i1 j1 hi1 hj1, ← hxx] at hc1
          rw [← hxx] at hf1
          obtain ⟨p, hp⟩ : ∃ p, L i1 j1 = p := ⟨_, rfl⟩
          rw [hp] at hc1
          have HLP := Aside0.mk hp
          clear hp hc hxx hNN
          cases y with
          | true =>
            cases p with
            | true =>
              have HAA : Aside0 (addA n L (i1 : Int) (j1 : Int) = 120) := ⟨by unfold addA; rw [if_neg (by have := HN1.out; omega), if_pos (by rw [Bool.and_eq_true]; exact ⟨decide_eq_true (by omega), decide_eq_true (by omega)⟩), Int.toNat_natCast, Int.toNat_natCast, HLP.out]; rfl⟩
              have HPN : Aside0 (playT n P0 G (i + 1) = putB P xx true) := ⟨by rw [HPT.out, if_pos (by rw [Bool.and_eq_true]; exact ⟨decide_eq_true (by omega), decide_eq_true (by omega)⟩), Int.toNat_natCast, Int.toNat_natCast, hy, ← HXX.out]⟩
              clear hi1 hj1
              go_quiet (fail)
              have H7 := Aside0.mk (H6.out.below (dnb W6 nq))
              have F7 := Aside0.mk (F6.out.then_ (Fr.of_below (dnb W6 nq) (fun _ => False)) (fun _ hk => hk.elim))
              have TP7 : Aside0 ((W6.drewN nq).heap[kb]? = some (.cells #[.int .i64 dk, .int .i64 dw, .int .i64 (i1 : Int), .int .i64 (j1 : Int)] 40 (0, 0))) := ⟨TP.out⟩
              clear l0 l1 t0 t2 t3 hc1 hf1
              generalize W6.drewN nq = W7 at H7 F7 TP7 ⊢
              obtain ⟨l0, l1⟩ := H7.out.cells
              rw [← HNN.out] at l1
              have t0 : W7.cell? ⟨kb, 0, none⟩ = some (.int .i64 dk) := by rw [blk_cell TP7.out 0]; rfl
              have t2 : W7.cell? ⟨kb, 2, none⟩ = some (.int .i64 (i1 : Int)) := by rw [blk_cell TP7.out 2]; rfl
              have t3 : W7.cell? ⟨kb, 3, none⟩ = some (.int .i64 (j1 : Int)) := by rw [blk_cell TP7.out 3]; rfl
              obtain ⟨hc1, hf1⟩ := H7.out.row.cell (idx_lt HI1.out HJ1.out)
              rw [H7.out.ag i1 j1 HI1.out HJ1.out, HLP.out, ← HXX.out] at hc1
              rw [← HXX.out] at hf1
              go_upto_region 9 with (fail)
              go_quiet ((go_at_call 23; exact ((HLK.out _ (by exact l0)).mono fun e w' hh => ⟨hh.1, _, hh.2⟩)))
              go_upto_region 15 with (fail)
              have KP : ∀ W2, Kept W7 W2 (fun k => k = gb) → W2.cell? ⟨q, 1, none⟩ = some (.slice (some ⟨gb, 0, none⟩) NN cb) ∧ W2.cell? ⟨kb, 2, none⟩ = some (.int .i64 (i1 : Int)) ∧ W2.cell? ⟨kb, 3, none⟩ = some (.int .i64 (j1 : Int)) := fun W2 hk => ⟨cell_kept l1 hk H7.out.ne, cell_kept t2 hk HQ.out.2, cell_kept t3 hk HQ.out.2⟩
              go_region_held3 (fun W => W.cell? ⟨q, 1, none⟩ = some (.slice (some ⟨gb, 0, none⟩) NN cb) ∧ W.cell? ⟨kb, 2, none⟩ = some (.int .i64 (i1 : Int)) ∧ W.cell? ⟨kb, 3, none⟩ = some (.int .i64 (j1 : Int))) (first | go_keep | exact ⟨l1, t2, t3⟩ | exact KP _ (kept_ds _ _ _ _ _)) (first | (go_at_call 23; ((with_reducible refine (HLK.out _ (by simpa using l0)).mono ?_); rintro e9 w9 ⟨rfl, hw⟩; subst hw)))
              have H8 := Aside0.mk (H7.out.below (dnb W7 (nq + 1)))
              have F7 := Aside0.mk (F7.out.then_ (Fr.of_below (dnb W7 (nq + 1)) (fun _ => False)) (fun _ hk => hk.elim))
              have hz := H8.out.set HI1.out HJ1.out true
              rw [← HXX.out] at hz
              have HZ := Aside0.mk hz
              obtain ⟨_, u2, u3⟩ := KP _ (kept_ds W7 (nq + 1) gb xx (.bool true))
              have hag := put_add H7.out.ag HI1.out HJ1.out
              rw [← HXX.out] at hag
              have HAG := Aside0.mk hag
              clear hz hag l0 l1 t0 t2 t3 hc1 hf1 KP
              generalize (W7.drewN (nq + 1)).setCell ⟨gb, xx, none⟩ (.bool true) = W8 at HZ u2 u3 ⊢
              go_wp2_with (go_at_call 10; (refine (padd_calls S' W8 (.pointer x) n L (i1 : Int) (j1 : Int) HZ.out.1).mono ?_; rintro e9 w9 ⟨rfl, p9, f9⟩; (rw [HAA.out]); have HT := Aside0.mk (H8.out.turn HZ.out.2.2.2 HZ.out.2.1 HZ.out.2.2.1 p9 f9 HAG.out); clear p9 f9))
              go_roundg k1
              case measure => omega
              case rel => exact ⟨i + 1, _, _, _, by first | rfl | (rw [← HW3.out]), ⟨by have := HK.out; omega⟩, ⟨by omega⟩, ⟨HT.out.1⟩, ⟨F7.out.then_ HT.out.2 (fun k hk => hk.elim (fun e => (HS.out k e).elim (fun e => .inl (.inl e)) .inr) (fun e => .inl (.inr e)))⟩, ⟨fun k hk => hk.1.elim (fun e => HS.out k e) (fun e => .inr (Nat.le_trans F7.out.1.size e))⟩, ⟨HPN.out.symm⟩⟩
            | false =>
              have HAA : Aside0 (addA n L (i1 : Int) (j1 : Int) = 0) := ⟨by unfold addA; rw [if_neg (by have := HN1.out; omega), if_pos (by rw [Bool.and_eq_true]; exact ⟨decide_eq_true (by omega), decide_eq_true (by omega)⟩), Int.toNat_natCast, Int.toNat_natCast, HLP.out]; rfl⟩
              have HPN : Aside0 (playT n P0 G (i + 1) = putB P xx true) := ⟨by rw [HPT.out, if_pos (by rw [Bool.and_eq_true]; exact ⟨decide_eq_true (by omega), decide_eq_true (by omega)⟩), Int.toNat_natCast, Int.toNat_natCast, hy, ← HXX.out]⟩
              clear hi1 hj1
              go_quiet (fail)
              have H7 := Aside0.mk (H6.out.below (dnb W6 nq))
              have F7 := Aside0.mk (F6.out.then_ (Fr.of_below (dnb W6 nq) (fun _ => False)) (fun _ hk => hk.elim))
              have TP7 : Aside0 ((W6.drewN nq).heap[kb]? = some (.cells #[.int .i64 dk, .int .i64 dw, .int .i64 (i1 : Int), .int .i64 (j1 : Int)] 40 (0, 0))) := ⟨TP.out⟩
              clear l0 l1 t0 t2 t3 hc1 hf1
              generalize W6.drewN nq = W7 at H7 F7 TP7 ⊢
              obtain ⟨l0, l1⟩ := H7.out.cells
              rw [← HNN.out] at l1
              have t0 : W7.cell? ⟨kb, 0, none⟩ = some (.int .i64 dk) := by rw [blk_cell TP7.out 0]; rfl
              have t2 : W7.cell? ⟨kb, 2, none⟩ = some (.int .i64 (i1 : Int)) := by rw [blk_cell TP7.out 2]; rfl
              have t3 : W7.cell? ⟨kb, 3, none⟩ = some (.int .i64 (j1 : Int)) := by rw [blk_cell TP7.out 3]; rfl
              obtain ⟨hc1, hf1⟩ := H7.out.row.cell (idx_lt HI1.out HJ1.out)
              rw [H7.out.ag i1 j1 HI1.out HJ1.out, HLP.out, ← HXX.out] at hc1
              rw [← HXX.out] at hf1
              go_upto_region 9 with (fail)
              go_quiet ((go_at_call 23; exact ((HLK.out _ (by exact l0)).mono fun e w' hh => ⟨hh.1, _, hh.2⟩)))
              go_upto_region 15 with (fail)
              have KP : ∀ W2, Kept W7 W2 (fun k => k = gb) → W2.cell? ⟨q, 1, none⟩ = some (.slice (some ⟨gb, 0, none⟩) NN cb) ∧ W2.cell? ⟨kb, 2, none⟩ = some (.int .i64 (i1 : Int)) ∧ W2.cell? ⟨kb, 3, none⟩ = some (.int .i64 (j1 : Int)) := fun W2 hk => ⟨cell_kept l1 hk H7.out.ne, cell_kept t2 hk HQ.out.2, cell_kept t3 hk HQ.out.2⟩
              go_region_held3 (fun W => W.cell? ⟨q, 1, none⟩ = some (.slice (some ⟨gb, 0, none⟩) NN cb) ∧ W.cell? ⟨kb, 2, none⟩ = some (.int .i64 (i1 : Int)) ∧ W.cell? ⟨kb, 3, none⟩ = some (.int .i64 (j1 : Int))) (first | go_keep | exact ⟨l1, t2, t3⟩ | exact KP _ (kept_ds _ _ _ _ _)) (first | (go_at_call 23; ((with_reducible refine (HLK.out _ (by simpa using l0)).mono ?_); rintro e9 w9 ⟨rfl, hw⟩; subst hw)))
              have H8 := Aside0.mk (H7.out.below (dnb W7 (nq + 1)))
              have F7 := Aside0.mk (F7.out.then_ (Fr.of_below (dnb W7 (nq + 1)) (fun _ => False)) (fun _ hk => hk.elim))
              have hz := H8.out.set HI1.out HJ1.out true
              rw [← HXX.out] at hz
              have HZ := Aside0.mk hz
              obtain ⟨_, u2, u3⟩ := KP _ (kept_ds W7 (nq + 1) gb xx (.bool true))
              have hag := put_add H7.out.ag HI1.out HJ1.out
              rw [← HXX.out] at hag
              have HAG := Aside0.mk hag
              clear hz hag l0 l1 t0 t2 t3 hc1 hf1 KP
              generalize (W7.drewN (nq + 1)).setCell ⟨gb, xx, none⟩ (.bool true) = W8 at HZ u2 u3 ⊢
              go_wp2_with (go_at_call 10; (refine (padd_calls S' W8 (.pointer x) n L (i1 : Int) (j1 : Int) HZ.out.1).mono ?_; rintro e9 w9 ⟨rfl, p9, f9⟩; (rw [HAA.out]); have HT := Aside0.mk (H8.out.turn HZ.out.2.2.2 HZ.out.2.1 HZ.out.2.2.1 p9 f9 HAG.out); clear p9 f9))
              go_roundg k1
              case measure => omega
              case rel => exact ⟨i + 1, _, _, _, by first | rfl | (rw [← HW3.out]), ⟨by have := HK.out; omega⟩, ⟨by omega⟩, ⟨HT.out.1⟩, ⟨F7.out.then_ HT.out.2 (fun k hk => hk.elim (fun e => (HS.out k e).elim (fun e => .inl (.inl e)) .inr) (fun e => .inl (.inr e)))⟩, ⟨fun k hk => hk.1.elim (fun e => HS.out k e) (fun e => .inr (Nat.le_trans F7.out.1.size e))⟩, ⟨HPN.out.symm⟩⟩
          | false =>
            cases p with
            | true =>
              have HAA : Aside0 (cutA n L (i1 : Int) (j1 : Int) = 0) := ⟨by unfold cutA; rw [if_neg (by have := HN1.out; omega), if_pos (by rw [Bool.and_eq_true]; exact ⟨decide_eq_true (by omega), decide_eq_true (by omega)⟩), Int.toNat_natCast, Int.toNat_natCast, HLP.out]; rfl⟩
              have HPN : Aside0 (playT n P0 G (i + 1) = putB P xx false) := ⟨by rw [HPT.out, if_pos (by rw [Bool.and_eq_true]; exact ⟨decide_eq_true (by omega), decide_eq_true (by omega)⟩), Int.toNat_natCast, Int.toNat_natCast, hy, ← HXX.out]⟩
              clear hi1 hj1
              go_quiet (fail)
              have H7 := Aside0.mk (H6.out.below (dnb W6 nq))
              have F7 := Aside0.mk (F6.out.then_ (Fr.of_below (dnb W6 nq) (fun _ => False)) (fun _ hk => hk.elim))
              have TP7 : Aside0 ((W6.drewN nq).heap[kb]? = some (.cells #[.int .i64 dk, .int .i64 dw, .int .i64 (i1 : Int), .int .i64 (j1 : Int)] 40 (0, 0))) := ⟨TP.out⟩
              clear l0 l1 t0 t2 t3 hc1 hf1
              generalize W6.drewN nq = W7 at H7 F7 TP7 ⊢
              obtain ⟨l0, l1⟩ := H7.out.cells
              rw [← HNN.out] at l1
              have t0 : W7.cell? ⟨kb, 0, none⟩ = some (.int .i64 dk) := by rw [blk_cell TP7.out 0]; rfl
              have t2 : W7.cell? ⟨kb, 2, none⟩ = some (.int .i64 (i1 : Int)) := by rw [blk_cell TP7.out 2]; rfl
              have t3 : W7.cell? ⟨kb, 3, none⟩ = some (.int .i64 (j1 : Int)) := by rw [blk_cell TP7.out 3]; rfl
              obtain ⟨hc1, hf1⟩ := H7.out.row.cell (idx_lt HI1.out HJ1.out)
              rw [H7.out.ag i1 j1 HI1.out HJ1.out, HLP.out, ← HXX.out] at hc1
              rw [← HXX.out] at hf1
              go_upto_region 9 with (fail)
              go_quiet ((go_at_call 23; exact ((HLK.out _ (by exact l0)).mono fun e w' hh => ⟨hh.1, _, hh.2⟩)))
              go_upto_region 15 with (fail)
              have KP : ∀ W2, Kept W7 W2 (fun k => k = gb) → W2.cell? ⟨q, 1, none⟩ = some (.slice (some ⟨gb, 0, none⟩) NN cb) ∧ W2.cell? ⟨kb, 2, none⟩ = some (.int .i64 (i1 : Int)) ∧ W2.cell? ⟨kb, 3, none⟩ = some (.int .i64 (j1 : Int)) := fun W2 hk => ⟨cell_kept l1 hk H7.out.ne, cell_kept t2 hk HQ.out.2, cell_kept t3 hk HQ.out.2⟩
              go_region_held3 (fun W => W.cell? ⟨q, 1, none⟩ = some (.slice (some ⟨gb, 0, none⟩) NN cb) ∧ W.cell? ⟨kb, 2, none⟩ = some (.int .i64 (i1 : Int)) ∧ W.cell? ⟨kb, 3, none⟩ = some (.int .i64 (j1 : Int))) (first | go_keep | exact ⟨l1, t2, t3⟩ | exact KP _ (kept_ds _ _ _ _ _)) (first | (go_at_call 23; ((with_reducible refine (HLK.out _ (by simpa using l0)).mono ?_); rintro e9 w9 ⟨rfl, hw⟩; subst hw)))
              have H8 := Aside0.mk (H7.out.below (dnb W7 (nq + 1)))
              have F7 := Aside0.mk (F7.out.then_ (Fr.of_below (dnb W7 (nq + 1)) (fun _ => False)) (fun _ hk => hk.elim))
              have hz := H8.out.set HI1.out HJ1.out false
              rw [← HXX.out] at hz
              have HZ := Aside0.mk hz
              obtain ⟨_, u2, u3⟩ := KP _ (kept_ds W7 (nq + 1) gb xx (.bool false))
              have hag := put_cut H7.out.ag HI1.out HJ1.out
              rw [← HXX.out] at hag
              have HAG := Aside0.mk hag
              clear hz hag l0 l1 t0 t2 t3 hc1 hf1 KP
              generalize (W7.drewN (nq + 1)).setCell ⟨gb, xx, none⟩ (.bool false) = W8 at HZ u2 u3 ⊢
              go_wp2_with (go_at_call 11; (refine (pcut_calls S' W8 (.pointer x) n L (i1 : Int) (j1 : Int) HZ.out.1 (HG.out.below HZ.out.2.1.low) (fun e => by have h1 := (H6.out.sg 0 e).1; have h2 := gl_pos2 HG.out; omega)).mono ?_; rintro e9 w9 ⟨rfl, p9, f9⟩; (rw [HAA.out]); have HT := Aside0.mk (H8.out.turn HZ.out.2.2.2 HZ.out.2.1 HZ.out.2.2.1 p9 f9 HAG.out); clear p9 f9))
              go_roundg k1
              case measure => omega
              case rel => exact ⟨i + 1, _, _, _, by first | rfl | (rw [← HW3.out]), ⟨by have := HK.out; omega⟩, ⟨by omega⟩, ⟨HT.out.1⟩, ⟨F7.out.then_ HT.out.2 (fun k hk => hk.elim (fun e => (HS.out k e).elim (fun e => .inl (.inl e)) .inr) (fun e => .inl (.inr e)))⟩, ⟨fun k hk => hk.1.elim (fun e => HS.out k e) (fun e => .inr (Nat.le_trans F7.out.1.size e))⟩, ⟨HPN.out.symm⟩⟩
            | false =>
              have HAA : Aside0 (cutA n L (i1 : Int) (j1 : Int) = 121) := ⟨by unfold cutA; rw [if_neg (by have := HN1.out; omega), if_pos (by rw [Bool.and_eq_true]; exact ⟨decide_eq_true (by omega), decide_eq_true (by omega)⟩), Int.toNat_natCast, Int.toNat_natCast, HLP.out]; rfl⟩
              have HPN : Aside0 (playT n P0 G (i + 1) = putB P xx false) := ⟨by rw [HPT.out, if_pos (by rw [Bool.and_eq_true]; exact ⟨decide_eq_true (by omega), decide_eq_true (by omega)⟩), Int.toNat_natCast, Int.toNat_natCast, hy, ← HXX.out]⟩
              clear hi1 hj1
              go_quiet (fail)
              have H7 := Aside0.mk (H6.out.below (dnb W6 nq))
              have F7 := Aside0.mk (F6.out.then_ (Fr.of_below (dnb W6 nq) (fun _ => False)) (fun _ hk => hk.elim))
              have TP7 : Aside0 ((W6.drewN nq).heap[kb]? = some (.cells #[.int .i64 dk, .int .i64 dw, .int .i64 (i1 : Int), .int .i64 (j1 : Int)] 40 (0, 0))) := ⟨TP.out⟩
              clear l0 l1 t0 t2 t3 hc1 hf1
              generalize W6.drewN nq = W7 at H7 F7 TP7 ⊢
              obtain ⟨l0, l1⟩ := H7.out.cells
              rw [← HNN.out] at l1
              have t0 : W7.cell? ⟨kb, 0, none⟩ = some (.int .i64 dk) := by rw [blk_cell TP7.out 0]; rfl
              have t2 : W7.cell? ⟨kb, 2, none⟩ = some (.int .i64 (i1 : Int)) := by rw [blk_cell TP7.out 2]; rfl
              have t3 : W7.cell? ⟨kb, 3, none⟩ = some (.int .i64 (j1 : Int)) := by rw [blk_cell TP7.out 3]; rfl
              obtain ⟨hc1, hf1⟩ := H7.out.row.cell (idx_lt HI1.out HJ1.out)
              rw [H7.out.ag i1 j1 HI1.out HJ1.out, HLP.out, ← HXX.out] at hc1
              rw [← HXX.out] at hf1
              go_upto_region 9 with (fail)
              go_quiet ((go_at_call 23; exact ((HLK.out _ (by exact l0)).mono fun e w' hh => ⟨hh.1, _, hh.2⟩)))
              go_upto_region 15 with (fail)
              have KP : ∀ W2, Kept W7 W2 (fun k => k = gb) → W2.cell? ⟨q, 1, none⟩ = some (.slice (some ⟨gb, 0, none⟩) NN cb) ∧ W2.cell? ⟨kb, 2, none⟩ = some (.int .i64 (i1 : Int)) ∧ W2.cell? ⟨kb, 3, none⟩ = some (.int .i64 (j1 : Int)) := fun W2 hk => ⟨cell_kept l1 hk H7.out.ne, cell_kept t2 hk HQ.out.2, cell_kept t3 hk HQ.out.2⟩
              go_region_held3 (fun W => W.cell? ⟨q, 1, none⟩ = some (.slice (some ⟨gb, 0, none⟩) NN cb) ∧ W.cell? ⟨kb, 2, none⟩ = some (.int .i64 (i1 : Int)) ∧ W.cell? ⟨kb, 3, none⟩ = some (.int .i64 (j1 : Int))) (first | go_keep | exact ⟨l1, t2, t3⟩ | exact KP _ (kept_ds _ _ _ _ _)) (first | (go_at_call 23; ((with_reducible refine (HLK.out _ (by simpa using l0)).mono ?_); rintro e9 w9 ⟨rfl, hw⟩; subst hw)))
              have H8 := Aside0.mk (H7.out.below (dnb W7 (nq + 1)))
              have F7 := Aside0.mk (F7.out.then_ (Fr.of_below (dnb W7 (nq + 1)) (fun _ => False)) (fun _ hk => hk.elim))
              have hz := H8.out.set HI1.out HJ1.out false
              rw [← HXX.out] at hz
              have HZ := Aside0.mk hz
              obtain ⟨_, u2, u3⟩ := KP _ (kept_ds W7 (nq + 1) gb xx (.bool false))
              have hag := put_cut H7.out.ag HI1.out HJ1.out
              rw [← HXX.out] at hag
              have HAG := Aside0.mk hag
              clear hz hag l0 l1 t0 t2 t3 hc1 hf1 KP
              generalize (W7.drewN (nq + 1)).setCell ⟨gb, xx, none⟩ (.bool false) = W8 at HZ u2 u3 ⊢
              go_wp2_with (go_at_call 11; (refine (pcut_calls S' W8 (.pointer x) n L (i1 : Int) (j1 : Int) HZ.out.1 (HG.out.below HZ.out.2.1.low) (fun e => by have h1 := (H6.out.sg 0 e).1; have h2 := gl_pos2 HG.out; omega)).mono ?_; rintro e9 w9 ⟨rfl, p9, f9⟩; (rw [HAA.out]); have HT := Aside0.mk (H8.out.turn HZ.out.2.2.2 HZ.out.2.1 HZ.out.2.2.1 p9 f9 HAG.out); clear p9 f9))
              go_roundg k1
              case measure => omega
              case rel => exact ⟨i + 1, _, _, _, by first | rfl | (rw [← HW3.out]), ⟨by have := HK.out; omega⟩, ⟨by omega⟩, ⟨HT.out.1⟩, ⟨F7.out.then_ HT.out.2 (fun k hk => hk.elim (fun e => (HS.out k e).elim (fun e => .inl (.inl e)) .inr) (fun e => .inl (.inr e)))⟩, ⟨fun k hk => hk.1.elim (fun e => HS.out k e) (fun e => .inr (Nat.le_trans F7.out.1.size e))⟩, ⟨HPN.out.symm⟩⟩
      · have hjn : i = m := by have := HJ.out; omega
        subst hjn
        have hd : decide ((i : Int) < (i : Int)) = false := decide_eq_false (by omega)
        go_wp2
        go_ret
        exact ⟨rfl, S', L, P, H.out, HF.out, HS.out, HPQ.out⟩
end Go.Proofs.YtmldefednihohaaDoor.Grp
