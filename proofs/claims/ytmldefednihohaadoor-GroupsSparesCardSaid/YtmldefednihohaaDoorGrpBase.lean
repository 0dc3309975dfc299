/- Frames, rows of one's own, appends: the words of the walks of groups. -/
import Derived.Test.YtmldefednihohaaDoorProg
import Derived.Test.YtmldefednihohaaDoorWKept
import Derived.Test.YtmldefednihohaaDoorWMore
import Derived.Test.YtmldefednihohaaDoorWLast
import Derived.Test.YtmldefednihohaaDoorWApart
import Derived.WalkKit
import Derived.WalkLawsBesides
import Derived.WalkSpells
import Derived.Lib.Hide
import Derived.Outline
import Derived.Deep.RegionLaw
namespace Go.Proofs.YtmldefednihohaaDoor.Grp
open Go.RowKit Go.Proofs.YtmldefednihohaaDoorW.PrintWords Go.Proofs.YtmldefednihohaaDoorW.PrintLast Go.Proofs.YtmldefednihohaaDoorW.PrintMore
set_option linter.unusedVariables false
set_option linter.unusedSimpArgs false
set_option maxRecDepth 100000
theorem below_setCell0 {w w1 : World} (h : Below 0 w w1) {p : Addr} {u : Value} : Below 0 w (w1.setCell p u) := ⟨h.os, h.tape, h.output, by simpa [World.setCell] using h.size, fun k hk => absurd hk (by omega)⟩
theorem blk_one {w : World} {g : Nat} {v : Value} {T : Nat} (h : w.heap[g]? = some (.cells #[v] T (0, 0))) : w.cell? ⟨g, 0, none⟩ = some v ∧ w.frozen? ⟨g, 0, none⟩ = false := by
  constructor
  · simp [World.cell?, h]
  · simp [World.frozen?, h]
theorem set_one {w : World} {g : Nat} {v u : Value} {T : Nat} (h : w.heap[g]? = some (.cells #[v] T (0, 0))) : (w.setCell ⟨g, 0, none⟩ u).heap[g]? = some (.cells #[u] T (0, 0)) := by
  have hlt := blk_lt h
  simp only [World.setCell, h]
  rw [Array.getElem?_modify]
  simp [h]
theorem res0 {fn : Func} (h : fn.results = #[]) (tmps : Array Value) (P : Program) (w : World) : (results fn tmps).run P w = .ok (.tuple #[]) w := by simp [results, h]
abbrev Fr (w w' : World) (S : Nat → Prop) : Prop := Below 0 w w' ∧ Kept w w' S
theorem Fr.refl (w : World) (S : Nat → Prop) : Fr w w S := ⟨Below.refl _ _, Kept.refl _ _⟩
theorem Fr.of_below {w w' : World} (h : Below w.heap.size w w') (S : Nat → Prop) : Fr w w' S := ⟨⟨h.os, h.tape, h.output, h.size, fun k hk => absurd hk (by omega)⟩, Kept.of_below h S⟩
theorem Fr.then_ {w W W2 : World} {S T : Nat → Prop} (h : Fr w W S) (k : Fr W W2 T) (hs : ∀ k, T k → S k ∨ w.heap.size ≤ k) : Fr w W2 S := ⟨⟨k.1.os.trans h.1.os, k.1.tape.trans h.1.tape, k.1.output.trans h.1.output, Nat.le_trans h.1.size k.1.size, fun k hk => absurd hk (by omega)⟩, h.2.then_ k.2 hs⟩
theorem Fr.set {w : World} {g : Nat} (i : Nat) (u : Value) : Fr w (w.setCell ⟨g, i, none⟩ u) (fun k => k = g) := ⟨below_setCell0 (Below.refl _ _), Kept.setCell (S := fun k => k = g) (Kept.refl _ _) (p := (⟨g, i, none⟩ : Addr)) (.inl rfl) _⟩
theorem block_addO (a : Addr) (i : Nat) : (a.add i).block = a.block := by unfold Addr.add; split <;> rfl
theorem Fr.low {w W : World} (h : Fr w W (fun k => w.heap.size ≤ k)) : Below w.heap.size w W := ⟨h.1.os, h.1.tape, h.1.output, h.1.size, fun k hk => h.2.2 k hk (by omega)⟩
theorem range_len (f : Nat → Int) (n : Nat) : ((List.range n).map f).length = n := by simp
theorem range_succ_ (f : Nat → Int) (n : Nat) : (List.range (n + 1)).map f = (List.range n).map f ++ [f n] := by simp [List.range_succ]
theorem range_take (f : Nat → Int) {m n : Nat} (h : m ≤ n) : ((List.range n).map f).take m = (List.range m).map f := by
  simp [List.take_range, ← List.map_take, Nat.min_eq_left h]
theorem rd_range (f : Nat → Int) {i n : Nat} (h : i < n) : rdOf (0 : Int) ((List.range n).map f) (i : Int) = f i := by
  simp [rdOf, h, List.getD_eq_getElem?_getD]
abbrev Sl := Option Addr × Nat × Nat
abbrev sv (x : Sl) : Value := .slice x.1 x.2.1 x.2.2
abbrev SL : Kd Sl := Kd.scalar sv (fun _ => rfl)
theorem tight {α : Type} {enc : α → Value} {h1 : ∀ x, (enc x).oneCell' = true} {e base : Nat} {w : World} {ok : Nat → Prop} {v : Value} {xs : List α} (h : (Kd.scalar enc h1).R e w base ok v xs) : (Kd.scalar enc h1).R e w base (fun k => some k = v.ownBlock) v xs := Kd.R_tight rfl h
theorem loose {α : Type} {enc : α → Value} {h1 : ∀ x, (enc x).oneCell' = true} {e base : Nat} {w : World} {ok : Nat → Prop} {v : Value} {xs : List α} (h : (Kd.scalar enc h1).R e w base ok v xs) : (Kd.scalar enc h1).R e w base (fun _ => True) v xs := Kd.R_mono h fun _ _ => trivial
theorem other {α : Type} {enc : α → Value} {h1 : ∀ x, (enc x).oneCell' = true} {e base : Nat} {w w' : World} {S : Nat → Prop} {v : Value} {xs : List α} (h : (Kd.scalar enc h1).R e w base (fun _ => True) v xs) (hk : Kept w w' S) (hn : ∀ b, v.ownBlock = some b → ¬ S b) : (Kd.scalar enc h1).R e w' base (fun _ => True) v xs :=
  loose (Kd.R_kept (tight h) hk fun b hb => hn b hb.symm)
theorem own_lt' {α : Type} {enc : α → Value} {h1 : ∀ x, (enc x).oneCell' = true} {e base : Nat} {w : World} {ok : Nat → Prop} {v : Value} {xs : List α} (h : (Kd.scalar enc h1).R e w base ok v xs) : ∀ b, v.ownBlock = some b → b < w.heap.size := own_lt (Kd.own_of_R h)
theorem own_ge {α : Type} {enc : α → Value} {h1 : ∀ x, (enc x).oneCell' = true} {e base : Nat} {w : World} {ok : Nat → Prop} {v : Value} {xs : List α} (h : (Kd.scalar enc h1).R e w base ok v xs) : ∀ b, v.ownBlock = some b → base ≤ b := own_base (Kd.own_of_R h)
theorem own_ne {α β : Type} {enc : α → Value} {h1 : ∀ x, (enc x).oneCell' = true} {enc' : β → Value} {h1' : ∀ x, (enc' x).oneCell' = true} {e e' b b' : Nat} {w : World} {ok ok' : Nat → Prop} {v v' : Value} {xs : List α} {xs' : List β} (h : (Kd.scalar enc h1).R e w b ok v xs) (h' : (Kd.scalar enc' h1').R e' w b' ok' v' xs') (hne : e ≠ e') : ∀ k, v.ownBlock = some k → v'.ownBlock ≠ some k := by
  intro k hk hk'
  rcases own_type_ne (Kd.own_of_R h) (Kd.own_of_R h') hne with h | h
  · rw [h] at hk
    cases hk
  · exact h (hk.trans hk'.symm)
theorem fr_grown {w w' : World} {b : Option Nat} (h : w.grownBy w' b) : Fr w w' (fun k => b = some k) :=
  ⟨⟨h.os, h.tape, h.output, h.size, fun k hk => absurd hk (by omega)⟩, Kept.of_grown h (Kept.refl w _) (fun k hk => .inl hk)⟩
theorem own_same (a : Option Addr) (n c n' c' : Nat) : (Value.slice a n c).ownBlock = (Value.slice a n' c').ownBlock := by cases a <;> rfl
theorem fr_none {w w' : World} (h : w.grownBy w' none) : Fr w w' (fun _ => False) := ⟨(fr_grown h).1, (fr_grown h).2.mono (fun _ hk => by cases hk)⟩
theorem fr_some {w w' : World} {g : Nat} (h : w.grownBy w' (some g)) : Fr w w' (fun b => b = g) := ⟨(fr_grown h).1, (fr_grown h).2.mono (fun b hk => (Option.some.inj hk).symm)⟩
theorem dnb (w : World) (m : Nat) : Below w.heap.size w (w.drewN m) := ⟨rfl, rfl, rfl, Nat.le_refl _, fun _ _ => rfl⟩
theorem quietM {P : Program} {f : FuncId} {args : Array Value} {w : World} {n : Nat} {v : Value} (h : ∀ w : World, Calls P f args w fun e w' => e = .returned v ∧ Drawn0 w w') :
    Calls P f args (w.drewN n) fun e w1 => e = .returned v ∧ ∃ m, w1 = w.drewN m := (h _).mono fun _ _ hh => ⟨hh.1, by
      obtain ⟨m, rfl⟩ := hh.2
      exact ⟨n + m, World.drewN_drewN ..⟩⟩
theorem quietB {P : Program} {f : FuncId} {args : Array Value} {w : World} {a n : Nat} {v : Value} (h : ∀ w : World, Calls P f args w fun e w' => e = .returned v ∧ Drawn0 w w') :
    Calls P f args (w.drewN (a + n)) fun e w1 => e = .returned v ∧ ∃ m, w1 = w.drewN (a + m) := (h _).mono fun _ _ hh => ⟨hh.1, by
      obtain ⟨m, rfl⟩ := hh.2
      exact ⟨n + m, by rw [World.drewN_drewN, Nat.add_assoc]⟩⟩
theorem wrap_up (i n : Nat) (h : i ≤ n) (hn : n ≤ 140737488355328) : wrap64 ((i : Int) + 1) = ((i + 1 : Nat) : Int) := by unfold wrap64; omega
theorem dr_below (w : World) : Below w.heap.size w w.drew := ⟨rfl, rfl, rfl, Nat.le_refl _, fun _ _ => rfl⟩
theorem lit_cell (W : World) (p : Value) (T : Nat) (j : Nat) (u : Value) (hu : ([p] : List Value)[j]? = some u) : (W.alloc (.cells #[p] T)).cell? ((⟨W.heap.size, 0, none⟩ : Addr).add j) = some u := by
  have hj : j = 0 := by
    rcases j with _ | j
    · rfl
    · simp at hu
  subst hj
  have hn := heap_alloc_new W (.cells #[p] T)
  show (W.alloc (.cells #[p] T)).cell? ⟨W.heap.size, 0, none⟩ = some u
  unfold World.cell?
  dsimp only
  rw [hn]
  simpa using hu
/-- What an append leaves: v1 of v (n elements, m more). -/
def Grew (W w1 : World) (v v1 : Value) (n m : Nat) : Prop :=
  (∃ g c0, v = .slice (some ⟨g, 0, none⟩) n c0 ∧ v1 = .slice (some ⟨g, 0, none⟩) (n + m) c0 ∧ W.grownBy w1 (some g)) ∨ (∃ b c1, v1 = .slice (some ⟨b, 0, none⟩) (n + m) c1 ∧ W.heap.size ≤ b ∧ W.grownBy w1 none)
theorem run_app {P : Program} {W : World} {k : IntKind} (base : Nat) (t ty e : TypeId) (z : Value) (bytes : Nat) (ht : P.underlying t = some (.slice e))
    (hinfo : (P.info? e).map (fun i => (i.zero, i.size, i.bytes)) = some (some z, 1, bytes)) (hzs : z.cells.size = 1) (hb0 : 0 < bytes)
    (v : Value) (xs ys : List Int) (ok : Nat → Prop) (hR : (Kd.int k).R e W base ok v xs) (ad : Addr) (m c : Nat) (hm : 0 < m) (hC : (Kd.int k).C W (some ad) m ys)
    (hbytes : (xs.length + m) * bytes ≤ 140737488355328) (hbase : base ≤ W.heap.size) (hfresh : ∀ k, W.heap.size ≤ k → ok k) :
    ∃ v1 w1, (Builtin.append_ #[t, t] ty #[v, .slice (some ad) m c]).run P W = .ok v1 w1 ∧ (Kd.int k).R e w1 base ok v1 (xs ++ ys) ∧ Grew W w1 v v1 xs.length m := by
  obtain ⟨i, hi, hzz⟩ := Option.map_eq_some_iff.1 hinfo
  simp only [Prod.mk.injEq] at hzz
  obtain ⟨hz0, hz1, hz2⟩ := hzz
  have hown : W.ownsRow base e 1 v xs.length (nums k xs) := Kd.own_of_R (enc := Value.int k) hR
  obtain ⟨hyl, hym, hyc⟩ := Kd.reads_of_C (d := (0 : Int)) hC
  obtain ⟨ad', had, hcell⟩ := hyc hm
  obtain rfl : ad = ad' := Option.some.inj had
  have hl : (nums k ys).length = m * 1 := by rw [nums_length]; omega
  have hnews : ∀ j u, (nums k ys)[j]? = some u → W.cell? (ad.add j) = some u := by
    intro j u hu
    simp only [nums, List.getElem?_map, Option.map_eq_some_iff] at hu
    obtain ⟨y, hy, rfl⟩ := hu
    obtain ⟨hj, rfl⟩ := List.getElem?_eq_some_iff.1 hy
    rw [hcell j (by omega)]
    simp [List.getD_eq_getElem?_getD, hj]
  have h1 : ∀ u ∈ nums k ys, u.oneCell' = true := by
    intro u hu
    simp only [nums, List.mem_map] at hu
    obtain ⟨y, _, rfl⟩ := hu
    rfl
  have hsmall : xs.length + m ≤ 140737488355328 := Nat.le_trans (Nat.le_mul_of_pos_right _ hb0) hbytes
  have fin : ∀ v1 w1, w1.ownsRow base e 1 v1 (xs.length + m) (nums k xs ++ nums k ys) → Grew W w1 v v1 xs.length m → (Kd.int k).R e w1 base ok v1 (xs ++ ys) := by
    intro v1 w1 ho hg
    refine Kd.R_of_own (enc := Value.int k) (by rw [List.length_append, hyl]; show w1.ownsRow base e 1 v1 _ (nums k (xs ++ ys)); rw [nums_append]; exact ho) ?_
    intro b hb
    rcases hg with ⟨g, c0, rfl, rfl, _⟩ | ⟨b', c1, rfl, hle, _⟩
    · exact hR.1 b hb
    · have : b' = b := by simpa [Value.ownBlock] using hb
      exact hfresh b (by omega)
  rcases hown.2 with ⟨rfl, hn⟩ | ⟨g, cap, cur, rfl, hbg, hg, hnc, hcm, hcs, htake⟩
  · obtain ⟨v1, w1, hrun, ho, hg, hnil, hat⟩ := run_append_own_at (P := P) W base t ty e i z 1 bytes ht hi hz0 hz1 hz2 hzs (by omega) _ xs.length (nums k xs) hown ad m c (nums k ys) hl hnews h1 (by simp only [maxLen]; omega) hbytes hbase
    have hG : Grew W w1 (.slice none 0 0) v1 xs.length m := by
      rcases ho.2 with ⟨rfl, h0⟩ | ⟨b, c1, cur, rfl, hbb, hh, hr⟩
      · omega
      · refine .inr ⟨b, c1, rfl, ?_, ?_⟩
        · rcases hat with hat | hat
          · simp [Value.ownBlock] at hat
          · have : b = W.heap.size := by simpa [Value.ownBlock] using hat
            omega
        · simpa [Value.ownBlock] using hg
    exact ⟨v1, w1, hrun, fin v1 w1 ho hG, hG⟩
  · by_cases hroom : xs.length + m ≤ cap
    · obtain ⟨w1, hrun, ho1, hg1⟩ := run_append_fits (P := P) W base t ty e i 1 ht hi hz1 g xs.length cap (nums k xs) hown ad m c (nums k ys) hl hnews h1 hroom
      have hG : Grew W w1 (.slice (some ⟨g, 0, none⟩) xs.length cap) (.slice (some ⟨g, 0, none⟩) (xs.length + m) cap) xs.length m := .inl ⟨g, cap, rfl, rfl, hg1⟩
      exact ⟨_, w1, hrun, fin _ w1 ho1 hG, hG⟩
    · have holds : ∀ j u, (nums k xs)[j]? = some u → W.cell? ((⟨g, 0, none⟩ : Addr).add j) = some u := hown.cells (g := g) rfl
      have hrun := run_append_grow (P := P) W t ty e i z ht hi hz0 ⟨g, 0, none⟩ xs.length cap (nums k xs) (by rw [hz1]; exact hown.1) holds ad m c (nums k ys) (by rw [hz1]; exact hl) hnews (by omega) (by omega) (by rw [hz2]; exact growslice_fits (by omega) hbytes)
      have hge := grownCap_ge W (xs.length + m) cap e
      have hle := grownCap_le_maxLen W (xs.length + m) cap e (by simp only [maxLen]; omega)
      have hil : (nums k xs).length = xs.length := nums_length k xs
      have hil2 : (nums k ys).length = m := by omega
      have ho : (W.drew.alloc (.cells ((nums k xs).toArray ++ (nums k ys).toArray ++ Builtin.zeroCells z.cells (grownCap W (xs.length + m) cap e - (xs.length + m))) e)).ownsRow base e 1 (.slice (some ⟨W.heap.size, 0, none⟩) (xs.length + m) (grownCap W (xs.length + m) cap e)) (xs.length + m) (nums k xs ++ nums k ys) := by
        refine ⟨by rw [List.length_append, hil, hil2]; omega, .inr ⟨W.heap.size, _, _, rfl, hbase, heap_alloc_new W.drew _, hge, hle, ?_, ?_⟩⟩
        · simp only [Array.size_append, List.size_toArray, size_zeroCells, hzs, hil, hil2]
          omega
        · simp only [Array.toList_append, List.append_assoc]
          rw [← List.append_assoc]
          rw [List.take_left' (by rw [List.length_append, hil, hil2]; omega)]
      have hgr : W.grownBy (W.drew.alloc (.cells ((nums k xs).toArray ++ (nums k ys).toArray ++ Builtin.zeroCells z.cells (grownCap W (xs.length + m) cap e - (xs.length + m))) e)) none := ⟨rfl, rfl, rfl, by simp, fun _ hk _ => heap_alloc_old W.drew _ hk⟩
      have hG : Grew W (W.drew.alloc (.cells ((nums k xs).toArray ++ (nums k ys).toArray ++ Builtin.zeroCells z.cells (grownCap W (xs.length + m) cap e - (xs.length + m))) e)) (.slice (some ⟨g, 0, none⟩) xs.length cap) (.slice (some ⟨W.heap.size, 0, none⟩) (xs.length + m) (grownCap W (xs.length + m) cap e)) xs.length m := .inr ⟨_, _, rfl, Nat.le_refl _, hgr⟩
      exact ⟨_, _, hrun, fin _ _ ho hG, hG⟩
section
variable {P : Program} {ops : Array Oper} {rest : List Oper} {o : Oper} {a : Act} {Q : Exit → Act → World → Prop}
/-- append(v, l...) at the list of a plain region. -/
theorem wp_app {k : IntKind} {W : World} (base : Nat) (hgd : o.guard = none) (s x : Operand) (t e : TypeId) (z : Value) (bytes : Nat)
    (ho : o.op = .call { callee := .builtin .append, args := #[s, x], argTypes := #[t, t] })
    (ht : P.underlying t = some (.slice e)) (hinfo : (P.info? e).map (fun i => (i.zero, i.size, i.bytes)) = some (some z, 1, bytes)) (hzs : z.cells.size = 1) (hb0 : 0 < bytes)
    (v : Value) (xs ys : List Int) (ok : Nat → Prop) (ad : Addr) (m c : Nat) (hs : a.eval s = v) (hx : a.eval x = .slice (some ad) m c) (hR : (Kd.int k).R e W base ok v xs) (hm : 0 < m) (hC : (Kd.int k).C W (some ad) m ys)
    (hbytes : (xs.length + m) * bytes ≤ 140737488355328) (hbase : base ≤ W.heap.size) (hfresh : ∀ k, W.heap.size ≤ k → ok k)
    (h : ∀ v1 w1, (Kd.int k).R e w1 base ok v1 (xs ++ ys) → Grew W w1 v v1 xs.length m → wpList P ops Q rest (a.put o.dst v1) w1) :
    wpList P ops Q (o :: rest) a W := by
  refine wpList_plain hgd fun K hK => ?_
  obtain ⟨v1, w1, hrun, h2, h3⟩ := run_app (P := P) (W := W) (k := k) base t o.type e z bytes ht hinfo hzs hb0 v xs ys ok hR ad m c hm hC hbytes hbase hfresh
  unfold Oper.wp execOp
  simp only [ho, resolve, invoke, builtin, Sem.run_bind, Sem.run_pure, Result.andThen_ok, List.map_toArray, List.map_cons, List.map_nil, hs, hx, hrun]
  exact hK _ _ (h v1 w1 h2 h3)
/-- append(v, x) at the list of a plain region: x lies in a box of its own. -/
theorem wp_app1 {k : IntKind} {W : World} (base : Nat) (hgd : o.guard = none) (s x : Operand) (t e : TypeId) (z : Value) (bytes : Nat)
    (ho : o.op = .call { callee := .builtin .append, args := #[s, x], argTypes := #[t, t] })
    (ht : P.underlying t = some (.slice e)) (hinfo : (P.info? e).map (fun i => (i.zero, i.size, i.bytes)) = some (some z, 1, bytes)) (hzs : z.cells.size = 1) (hb0 : 0 < bytes)
    (v : Value) (xs : List Int) (y : Int) (ok : Nat → Prop) (hs : a.eval s = v) (hx : a.eval x = .slice (some ⟨W.heap.size, 0, none⟩) 1 1) (hR : (Kd.int k).R e W base ok v xs)
    (hbytes : (xs.length + 1) * bytes ≤ 140737488355328) (hbase : base ≤ W.heap.size) (hfresh : ∀ k, W.heap.size ≤ k → ok k)
    (h : ∀ v1 w1, (Kd.int k).R e w1 base ok v1 (xs ++ [y]) → Grew W w1 v v1 xs.length 1 → wpList P ops Q rest (a.put o.dst v1) w1) :
    wpList P ops Q (o :: rest) a (W.alloc (.cells #[.int k y] e)) := by
  have hgA : ∀ r, W.grownBy (W.alloc (.cells #[.int k y] e)) r := fun r => World.grownBy_alloc W _ r
  have hC : (Kd.int k).C (W.alloc (.cells #[.int k y] e)) (some ⟨W.heap.size, 0, none⟩) 1 [y] := by
    refine Kd.C_of_reads (enc := Value.int k) (d := (0 : Int)) ⟨rfl, by omega, fun _ => ⟨_, rfl, fun j hj => ?_⟩⟩
    obtain rfl : j = 0 := by omega
    exact lit_cell W _ e 0 _ rfl
  refine wp_app (W := W.alloc (.cells #[.int k y] e)) base hgd s x t e z bytes ho ht hinfo hzs hb0 v xs [y] ok _ 1 1 hs hx (Kd.R_below hR (below_alloc (Below.refl _ _) _)) (by omega) hC hbytes (Nat.le_trans hbase (hgA none).size) (fun b hb => hfresh b (Nat.le_trans (hgA none).size hb)) ?_
  intro v1 w1 h1 h2
  refine h v1 w1 h1 ?_
  rcases h2 with ⟨g, c0, e1, e2, e3⟩ | ⟨b, c1, e1, e2, e3⟩
  · exact .inl ⟨g, c0, e1, e2, World.grownBy.trans (hgA _) e3⟩
  · exact .inr ⟨b, c1, e1, Nat.le_trans (hgA none).size e2, World.grownBy.trans (hgA _) e3⟩
end
end Go.Proofs.YtmldefednihohaaDoor.Grp
