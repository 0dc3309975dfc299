/- An append that tells where the new row lies: in the old one's block, with the same room, or in a new block, all else as it was. -/
import Derived.Test.YtkjkmaopifmghaaK1
namespace Go.Proofs.Ytkjkmaopifmghaa.Oct
open Go.RowKit Go.Proofs.YtkjkmaopifmghaaW.PrintWords Go.Proofs.YtkjkmaopifmghaaW.PrintLast Go.Proofs.YtkjkmaopifmghaaW.PrintMore
set_option linter.unusedVariables false
set_option linter.unusedSimpArgs false
/-- What an append leaves: v1 of v (n elements, m more). -/
def Grew (W w1 : World) (v v1 : Value) (n m : Nat) : Prop :=
  (∃ g c0, v = .slice (some ⟨g, 0, none⟩) n c0 ∧ v1 = .slice (some ⟨g, 0, none⟩) (n + m) c0 ∧ W.grownBy w1 (some g)) ∨ (∃ b c1, v1 = .slice (some ⟨b, 0, none⟩) (n + m) c1 ∧ W.heap.size ≤ b ∧ W.grownBy w1 none)
theorem run_app {P : Program} {W : World} {k : IntKind} (base : Nat) (t ty e : TypeId) (z : Value) (bytes : Nat) (ht : P.underlying t = some (.slice e))
    (hinfo : (P.info? e).map (fun i => (i.zero, i.size, i.bytes)) = some (some z, 1, bytes)) (hzs : z.cells.size = 1) (hb0 : 0 < bytes)
    (v : Value) (xs ys : List Int) (ok : Nat → Prop) (hR : (Kd.int k).R e W base ok v xs) (ad : Addr) (m c : Nat) (hm : 0 < m) (hC : (Kd.int k).C W (some ad) m ys)
    (hbytes : (xs.length + m) * bytes ≤ 140737488355328) (hbase : base ≤ W.heap.size) (hfresh : ∀ k, W.heap.size ≤ k → ok k) :
    ∃ v1 w1, (Builtin.append_ #[t, t] ty #[v, .slice (some ad) m c]).run P W = .ok v1 w1 ∧ (Kd.int k).R e w1 base ok v1 (xs ++ ys) ∧ Grew W w1 v v1 xs.length m := by
  obtain ⟨i, hi, hzz⟩ := Option.map_eq_some_iff.1 hinfo
  simp only [Prod.mk.injEq] at hzz
  obtain ⟨hz0, hz1, hz2⟩ := hzz
  have hown : W.ownsRow base e 1 v xs.length (nums k xs) := Kd.own_of_R (enc := Value.int k) hR
  obtain ⟨hyl, hym, hyc⟩ := Kd.reads_of_C (d := (0 : Int)) hC
  obtain ⟨ad', had, hcell⟩ := hyc hm
  obtain rfl : ad = ad' := Option.some.inj had
  have hl : (nums k ys).length = m * 1 := by rw [nums_length]; omega
  have hnews : ∀ j u, (nums k ys)[j]? = some u → W.cell? (ad.add j) = some u := by
    intro j u hu
    simp only [nums, List.getElem?_map, Option.map_eq_some_iff] at hu
    obtain ⟨y, hy, rfl⟩ := hu
    obtain ⟨hj, rfl⟩ := List.getElem?_eq_some_iff.1 hy
    rw [hcell j (by omega)]
    simp [List.getD_eq_getElem?_getD, hj]
  have h1 : ∀ u ∈ nums k ys, u.oneCell' = true := by
    intro u hu
    simp only [nums, List.mem_map] at hu
    obtain ⟨y, _, rfl⟩ := hu
    rfl
  have hsmall : xs.length + m ≤ 140737488355328 := Nat.le_trans (Nat.le_mul_of_pos_right _ hb0) hbytes
  have fin : ∀ v1 w1, w1.ownsRow base e 1 v1 (xs.length + m) (nums k xs ++ nums k ys) → Grew W w1 v v1 xs.length m → (Kd.int k).R e w1 base ok v1 (xs ++ ys) := by
    intro v1 w1 ho hg
    refine Kd.R_of_own (enc := Value.int k) (by rw [List.length_append, hyl]; show w1.ownsRow base e 1 v1 _ (nums k (xs ++ ys)); rw [nums_append]; exact ho) ?_
    intro b hb
    rcases hg with ⟨g, c0, rfl, rfl, _⟩ | ⟨b', c1, rfl, hle, _⟩
    · exact hR.1 b hb
    · have : b' = b := by simpa [Value.ownBlock] using hb
      exact hfresh b (by omega)
  rcases hown.2 with ⟨rfl, hn⟩ | ⟨g, cap, cur, rfl, hbg, hg, hnc, hcm, hcs, htake⟩
  · obtain ⟨v1, w1, hrun, ho, hg, hnil, hat⟩ := run_append_own_at (P := P) W base t ty e i z 1 bytes ht hi hz0 hz1 hz2 hzs (by omega) _ xs.length (nums k xs) hown ad m c (nums k ys) hl hnews h1 (by simp only [maxLen]; omega) hbytes hbase
    have hG : Grew W w1 (.slice none 0 0) v1 xs.length m := by
      rcases ho.2 with ⟨rfl, h0⟩ | ⟨b, c1, cur, rfl, hbb, hh, hr⟩
      · omega
      · refine .inr ⟨b, c1, rfl, ?_, ?_⟩
        · rcases hat with hat | hat
          · simp [Value.ownBlock] at hat
          · have : b = W.heap.size := by simpa [Value.ownBlock] using hat
            omega
        · simpa [Value.ownBlock] using hg
    exact ⟨v1, w1, hrun, fin v1 w1 ho hG, hG⟩
  · by_cases hroom : xs.length + m ≤ cap
    · obtain ⟨w1, hrun, ho1, hg1⟩ := run_append_fits (P := P) W base t ty e i 1 ht hi hz1 g xs.length cap (nums k xs) hown ad m c (nums k ys) hl hnews h1 hroom
      have hG : Grew W w1 (.slice (some ⟨g, 0, none⟩) xs.length cap) (.slice (some ⟨g, 0, none⟩) (xs.length + m) cap) xs.length m := .inl ⟨g, cap, rfl, rfl, hg1⟩
      exact ⟨_, w1, hrun, fin _ w1 ho1 hG, hG⟩
    · have holds : ∀ j u, (nums k xs)[j]? = some u → W.cell? ((⟨g, 0, none⟩ : Addr).add j) = some u := hown.cells (g := g) rfl
      have hrun := run_append_grow (P := P) W t ty e i z ht hi hz0 ⟨g, 0, none⟩ xs.length cap (nums k xs) (by rw [hz1]; exact hown.1) holds ad m c (nums k ys) (by rw [hz1]; exact hl) hnews (by omega) (by omega) (by rw [hz2]; exact growslice_fits (by omega) hbytes)
      have hge := grownCap_ge W (xs.length + m) cap e
      have hle := grownCap_le_maxLen W (xs.length + m) cap e (by simp only [maxLen]; omega)
      have hil : (nums k xs).length = xs.length := nums_length k xs
      have hil2 : (nums k ys).length = m := by omega
      have ho : (W.drew.alloc (.cells ((nums k xs).toArray ++ (nums k ys).toArray ++ Builtin.zeroCells z.cells (grownCap W (xs.length + m) cap e - (xs.length + m))) e)).ownsRow base e 1 (.slice (some ⟨W.heap.size, 0, none⟩) (xs.length + m) (grownCap W (xs.length + m) cap e)) (xs.length + m) (nums k xs ++ nums k ys) := by
        refine ⟨by rw [List.length_append, hil, hil2]; omega, .inr ⟨W.heap.size, _, _, rfl, hbase, heap_alloc_new W.drew _, hge, hle, ?_, ?_⟩⟩
        · simp only [Array.size_append, List.size_toArray, size_zeroCells, hzs, hil, hil2]
          omega
        · simp only [Array.toList_append, List.append_assoc]
          rw [← List.append_assoc]
          rw [List.take_left' (by rw [List.length_append, hil, hil2]; omega)]
      have hgr : W.grownBy (W.drew.alloc (.cells ((nums k xs).toArray ++ (nums k ys).toArray ++ Builtin.zeroCells z.cells (grownCap W (xs.length + m) cap e - (xs.length + m))) e)) none := ⟨rfl, rfl, rfl, by simp, fun _ hk _ => heap_alloc_old W.drew _ hk⟩
      have hG : Grew W (W.drew.alloc (.cells ((nums k xs).toArray ++ (nums k ys).toArray ++ Builtin.zeroCells z.cells (grownCap W (xs.length + m) cap e - (xs.length + m))) e)) (.slice (some ⟨g, 0, none⟩) xs.length cap) (.slice (some ⟨W.heap.size, 0, none⟩) (xs.length + m) (grownCap W (xs.length + m) cap e)) xs.length m := .inr ⟨_, _, rfl, Nat.le_refl _, hgr⟩
      exact ⟨_, _, hrun, fin _ _ ho hG, hG⟩
section
variable {P : Program} {ops : Array Oper} {rest : List Oper} {o : Oper} {a : Act} {Q : Exit → Act → World → Prop}
/-- append(v, l...) at the list of a plain region. -/
theorem wp_app {k : IntKind} {W : World} (base : Nat) (hgd : o.guard = none) (s x : Operand) (t e : TypeId) (z : Value) (bytes : Nat)
    (ho : o.op = .call { callee := .builtin .append, args := #[s, x], argTypes := #[t, t] })
    (ht : P.underlying t = some (.slice e)) (hinfo : (P.info? e).map (fun i => (i.zero, i.size, i.bytes)) = some (some z, 1, bytes)) (hzs : z.cells.size = 1) (hb0 : 0 < bytes)
    (v : Value) (xs ys : List Int) (ok : Nat → Prop) (ad : Addr) (m c : Nat) (hs : a.eval s = v) (hx : a.eval x = .slice (some ad) m c) (hR : (Kd.int k).R e W base ok v xs) (hm : 0 < m) (hC : (Kd.int k).C W (some ad) m ys)
    (hbytes : (xs.length + m) * bytes ≤ 140737488355328) (hbase : base ≤ W.heap.size) (hfresh : ∀ k, W.heap.size ≤ k → ok k)
    (h : ∀ v1 w1, (Kd.int k).R e w1 base ok v1 (xs ++ ys) → Grew W w1 v v1 xs.length m → wpList P ops Q rest (a.put o.dst v1) w1) :
    wpList P ops Q (o :: rest) a W := by
  refine wpList_plain hgd fun K hK => ?_
  obtain ⟨v1, w1, hrun, h2, h3⟩ := run_app (P := P) (W := W) (k := k) base t o.type e z bytes ht hinfo hzs hb0 v xs ys ok hR ad m c hm hC hbytes hbase hfresh
  unfold Oper.wp execOp
  simp only [ho, resolve, invoke, builtin, Sem.run_bind, Sem.run_pure, Result.andThen_ok, List.map_toArray, List.map_cons, List.map_nil, hs, hx, hrun]
  exact hK _ _ (h v1 w1 h2 h3)
/-- append(v, x) at the list of a plain region: x lies in a box of its own. -/
theorem wp_app1 {k : IntKind} {W : World} (base : Nat) (hgd : o.guard = none) (s x : Operand) (t e : TypeId) (z : Value) (bytes : Nat)
    (ho : o.op = .call { callee := .builtin .append, args := #[s, x], argTypes := #[t, t] })
    (ht : P.underlying t = some (.slice e)) (hinfo : (P.info? e).map (fun i => (i.zero, i.size, i.bytes)) = some (some z, 1, bytes)) (hzs : z.cells.size = 1) (hb0 : 0 < bytes)
    (v : Value) (xs : List Int) (y : Int) (ok : Nat → Prop) (hs : a.eval s = v) (hx : a.eval x = .slice (some ⟨W.heap.size, 0, none⟩) 1 1) (hR : (Kd.int k).R e W base ok v xs)
    (hbytes : (xs.length + 1) * bytes ≤ 140737488355328) (hbase : base ≤ W.heap.size) (hfresh : ∀ k, W.heap.size ≤ k → ok k)
    (h : ∀ v1 w1, (Kd.int k).R e w1 base ok v1 (xs ++ [y]) → Grew W w1 v v1 xs.length 1 → wpList P ops Q rest (a.put o.dst v1) w1) :
    wpList P ops Q (o :: rest) a (W.alloc (.cells #[.int k y] e)) := by
  have hgA : ∀ r, W.grownBy (W.alloc (.cells #[.int k y] e)) r := fun r => World.grownBy_alloc W _ r
  have hC : (Kd.int k).C (W.alloc (.cells #[.int k y] e)) (some ⟨W.heap.size, 0, none⟩) 1 [y] := by
    refine Kd.C_of_reads (enc := Value.int k) (d := (0 : Int)) ⟨rfl, by omega, fun _ => ⟨_, rfl, fun j hj => ?_⟩⟩
    obtain rfl : j = 0 := by omega
    exact lit_cell W _ e 0 _ rfl
  refine wp_app (W := W.alloc (.cells #[.int k y] e)) base hgd s x t e z bytes ho ht hinfo hzs hb0 v xs [y] ok _ 1 1 hs hx (Kd.R_below hR (below_alloc (Below.refl _ _) _)) (by omega) hC hbytes (Nat.le_trans hbase (hgA none).size) (fun b hb => hfresh b (Nat.le_trans (hgA none).size hb)) ?_
  intro v1 w1 h1 h2
  refine h v1 w1 h1 ?_
  rcases h2 with ⟨g, c0, e1, e2, e3⟩ | ⟨b, c1, e1, e2, e3⟩
  · exact .inl ⟨g, c0, e1, e2, World.grownBy.trans (hgA _) e3⟩
  · exact .inr ⟨b, c1, e1, Nat.le_trans (hgA none).size e2, World.grownBy.trans (hgA _) e3⟩
end
end Go.Proofs.Ytkjkmaopifmghaa.Oct
