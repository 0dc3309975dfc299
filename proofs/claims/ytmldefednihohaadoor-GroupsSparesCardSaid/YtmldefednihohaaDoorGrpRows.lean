/- rows makes n empty rows (plain walk). -/
import Derived.Test.YtmldefednihohaaDoorGrpRow
namespace Go.Proofs.YtmldefednihohaaDoor.Grp
open Go.RowKit Go.Proofs.YtmldefednihohaaDoorW.PrintWords Go.Proofs.YtmldefednihohaaDoorW.PrintLast Go.Proofs.YtmldefednihohaaDoorW.PrintMore
set_option linter.unusedVariables false
set_option linter.unusedSimpArgs false
set_option maxRecDepth 100000
theorem infoRow : (Tryd.prog.info? 63).map (fun i => (i.zero, i.size, i.bytes)) = some (some (.slice none 0 0), 1, 24) := by kernel_rfl
theorem wd_none (i : Nat) : wd (fun _ => false) i = 0 := by
  have : ∀ k, wk (fun _ => false) i k = 0 := by
    intro k
    induction k with
    | zero => rfl
    | succ k ih => simp [wk, ih]
  exact this 64
theorem rowL_none (m : Nat) : rowL (fun _ => false) m = List.replicate m 0 := by
  apply List.ext_getElem?
  intro j
  simp only [rowL, List.getElem?_map, wd_none]
  by_cases hj : j < m
  · simp [hj, List.getElem?_replicate]
  · simp [hj, List.getElem?_replicate]
def upS (V : Nat → Sl) (k : Nat) (p : Sl) : Nat → Sl := fun j => if j = k then p else V j
theorem map_up (V : Nat → Sl) (n k : Nat) (p : Sl) : ((List.range n).map V).set k p = (List.range n).map (upS V k p) := by
  apply List.ext_getElem?
  intro j
  simp only [List.getElem?_map, List.getElem?_set, List.length_map, List.length_range, upS]
  by_cases hj : j < n
  · by_cases e : k = j
    · subst e; simp [hj, upS]
    · have : ¬ j = k := fun h => e h.symm
      simp [hj, e, this, upS]
  · by_cases e : k = j
    · subst e; simp [hj]
    · simp [hj, e]
/-- A header row: n slices at block gh. -/
abbrev HdAt (w : World) (gh ch n : Nat) (V : Nat → Sl) : Prop := SL.R 63 w 0 (fun _ => True) (.slice (some ⟨gh, 0, none⟩) n ch) ((List.range n).map V)
theorem hd_cell {w : World} {gh ch n k : Nat} {V : Nat → Sl} (h : HdAt w gh ch n V) (hk : k < n) : w.cell? ⟨gh, k, none⟩ = some (sv (V k)) ∧ w.frozen? ⟨gh, k, none⟩ = false := by
  have hgs := h
  unfold HdAt at hgs
  have hlen : ((List.range n).map V).length = n := by simp
  rw [show (Value.slice (some ⟨gh, 0, none⟩) n ch) = .slice (some ⟨gh, 0, none⟩) ((List.range n).map V).length ch by rw [hlen]] at hgs
  have := Kd.R_cell ((none, 0, 0) : Sl) hgs (k : Int) (by omega) (by omega)
  have e : rdOf ((none, 0, 0) : Sl) ((List.range n).map V) (k : Int) = V k := by simp [rdOf, hk, List.getD_eq_getElem?_getD]
  rw [e] at this
  simpa using this
theorem hd_put {w : World} {gh ch n k : Nat} {V : Nat → Sl} (h : HdAt w gh ch n V) (p : Sl) : HdAt (w.setCell ⟨gh, k, none⟩ (sv p)) gh ch n (upS V k p) := by
  have := (Kd.R_putg h (k : Int) p).1
  unfold HdAt
  rw [← map_up]
  exact this
/-- j of the n rows have been made. -/
structure RsRel (w : World) (n gh ch j : Nat) (W : World) : Prop where
  low : Below w.heap.size w W
  ge : w.heap.size ≤ gh
  has : ∃ V, HdAt W gh ch n V ∧ (∀ k, k < j → RowAt W (sv (V k)) ((n + 63) / 64) (fun _ => false) ∧ ∃ b, (sv (V k)).ownBlock = some b ∧ w.heap.size ≤ b) ∧ (∀ i, i < j → ∀ k, k < j → i ≠ k → ∀ b, (sv (V i)).ownBlock = some b → (sv (V k)).ownBlock ≠ some b)
theorem RsRel.next {w W w1 : World} {n gh ch j : Nat} {v1 : Value} (h : RsRel w n gh ch j W) (hj : j < n) (hr : U64.R 67 w1 0 (fun _ => True) v1 (List.replicate ((n + 63) / 64) 0)) (hg : W.grownBy w1 none) (hb : ∃ b, v1.ownBlock = some b ∧ W.heap.size ≤ b) :
    (∃ z, w1.cell? ⟨gh, j, none⟩ = some z) ∧ w1.frozen? ⟨gh, j, none⟩ = false ∧ RsRel w n gh ch (j + 1) (w1.setCell ⟨gh, j, none⟩ v1) := by
  obtain ⟨low, ge, V, hd, hrow, hsep⟩ := h
  have hB : Below W.heap.size W w1 := ⟨hg.os, hg.tape, hg.output, hg.size, fun k hk => hg.block k hk (by simp)⟩
  obtain ⟨A1, c1, rfl⟩ := Kd.R_slice hr
  obtain ⟨b, hb, hle⟩ := hb
  obtain ⟨p, hp⟩ : ∃ p : Sl, p = (A1, (List.replicate ((n + 63) / 64) (0 : Int)).length, c1) := ⟨_, rfl⟩
  have hpv : (Value.slice A1 (List.replicate ((n + 63) / 64) (0 : Int)).length c1) = sv p := by rw [hp]
  rw [hpv] at hr hb ⊢
  have hd1 : HdAt w1 gh ch n V := Kd.R_below hd hB
  obtain ⟨hc, hf⟩ := hd_cell hd1 hj
  have hf2 := Fr.set (w := w1) (g := gh) j (sv p)
  have hR : RowAt w1 (sv p) ((n + 63) / 64) (fun _ => false) := by unfold RowAt; rw [rowL_none]; exact hr
  have hn : ∀ v, RowAt w1 v ((n + 63) / 64) (fun _ => false) → ∀ b, v.ownBlock = some b → ¬ b = gh := fun v hv b hb e => by subst e; exact own_ne hd1 hv (by decide) b rfl hb
  refine ⟨⟨_, hc⟩, hf, ?_, ge, upS V j p, hd_put hd1 p, fun k hk => ?_, fun i hi k hk hne b' hbi hbk => ?_⟩
  · have fa : Fr w (w1.setCell ⟨gh, j, none⟩ (sv p)) (fun k => w.heap.size ≤ k) := ((Fr.of_below low _).then_ (Fr.of_below hB (fun _ => False)) (fun _ h => h.elim)).then_ hf2 (fun k hk => .inl (by omega))
    exact fa.low
  · by_cases e : k = j
    · subst e
      simp only [upS, if_true]
      exact ⟨hR.other hf2.2 (hn _ hR), b, hb, Nat.le_trans low.size hle⟩
    · simp only [upS, e, if_false]
      obtain ⟨h1, h2⟩ := hrow k (by omega)
      exact ⟨(h1.below hB).other hf2.2 (hn _ (h1.below hB)), h2⟩
  · simp only [upS] at hbi hbk
    have old : ∀ k, k < j → ∀ b', (sv (V k)).ownBlock = some b' → b' < b := fun k hk b' hb' => Nat.lt_of_lt_of_le (own_lt' (hrow k hk).1 b' hb') hle
    by_cases e : i = j
    · subst e
      simp only [if_true] at hbi
      rw [hb] at hbi
      have := Option.some.inj hbi
      have e2 : ¬ k = i := fun h => hne h.symm
      simp only [e2, if_false] at hbk
      have := old k (by omega) b' hbk
      omega
    · simp only [e, if_false] at hbi
      by_cases e2 : k = j
      · subst e2
        simp only [if_true] at hbk
        rw [hb] at hbk
        have := Option.some.inj hbk
        have := old i (by omega) b' hbi
        omega
      · simp only [e2, if_false] at hbk
        exact hsep i (by omega) k (by omega) hne b' hbi hbk
theorem hd_of {w w1 : World} {n : Nat} {v1 : Value} (h : SL.R 63 w1 0 (fun _ => True) v1 (List.replicate n (none, 0, 0))) (hn : 1 ≤ n) (hat : ∃ b, v1.ownBlock = some b ∧ w.heap.size ≤ b) (hg : w.grownBy w1 none) : ∃ gh ch, v1 = .slice (some ⟨gh, 0, none⟩) n ch ∧ RsRel w n gh ch 0 w1 := by
  have hB : Below w.heap.size w w1 := ⟨hg.os, hg.tape, hg.output, hg.size, fun k hk => hg.block k hk (by simp)⟩
  rcases (Kd.own_of_R h).2 with ⟨_, h0⟩ | ⟨b, cap, cur, hv, _⟩
  · simp at h0; omega
  · simp only [List.length_replicate] at hv
    subst hv
    obtain ⟨b', hb, hle⟩ := hat
    have hbb : b = b' := by simpa [Value.ownBlock] using hb
    subst hbb
    refine ⟨b, cap, rfl, hB, hle, fun _ => (none, 0, 0), ?_, fun k hk => absurd hk (by omega), fun k hk => absurd hk (by omega)⟩
    have e : (List.range n).map (fun _ => ((none, 0, 0) : Sl)) = List.replicate n (none, 0, 0) := by
      apply List.ext_getElem?
      intro j
      by_cases hj : j < n <;> simp [hj, List.getElem?_replicate]
    unfold HdAt
    rw [e]
    exact h
set_option maxHeartbeats 2000000 in
theorem rows_calls (w : World) (n : Nat) (hn1 : 1 ≤ n) (hn4 : n ≤ 4096) :
    Calls Tryd.prog 28 #[.int .i64 (n : Int)] w fun e w' => ∃ gh ch, e = .returned (.slice (some ⟨gh, 0, none⟩) n ch) ∧ RsRel w n gh ch n w' := by
  have HN1 := Aside0.mk hn1
  have HN4 := Aside0.mk hn4
  have hsum : wrap64 ((n : Int) + 63) = (n : Int) + 63 := by unfold wrap64; omega
  have hdiv : ((n : Int) + 63).tdiv 64 = ((((n + 63) / 64 : Nat)) : Int) := by
    have : ((n : Int) + 63) = ((n + 63 : Nat) : Int) := by omega
    rw [this]
    rfl
  obtain ⟨m, hm⟩ : ∃ m, m = (n + 63) / 64 := ⟨_, rfl⟩
  rw [← hm] at hdiv
  have HM := Aside0.mk hm
  have HM2 : Aside0 (m ≤ 1000) := ⟨by omega⟩
  have HWM : Aside0 (wrap64 (m : Int) = (m : Int)) := ⟨by unfold wrap64; omega⟩
  clear hn1 hn4 hm
  go_enter Tryd.func28, Tryd.ntmps28
  go_wp2_with ((with_reducible refine gate_dst (N := 6) rfl ?_); (refine Kd.R_make SL (w0 := w) 0 63 rfl (N := 6) rfl 58 _ _ rfl (n : Int) rfl rfl Tryd.underlying58 (.slice none 0 0) 24 infoRow rfl (by decide) (by omega) (none, 0, 0) (ok := fun _ => True) (okp := fun _ => True) rfl (fun _ hk => hk) trivial (by omega) ?hl ?hB (Nat.zero_le _) ?_); (case hl => have := HN4.out; simp only [Int.toNat_natCast]; omega); (case hB => exact ⟨rfl, rfl, rfl, Nat.le_refl _, fun _ _ => rfl⟩); intro v1 w1 ho hb hg hat; (rw [Int.toNat_natCast] at ho); (obtain ⟨gh, ch, rfl, hrel0⟩ := hd_of ho HN1.out hat hg); have HR0 := Aside0.mk hrel0; clear ho hb hg hat hrel0)
  go_loopg [9] (n + 1) (fun kq v9 w' => ∃ j : Nat, v9 = .int .i64 (j : Int) ∧ Aside0 (kq + j = n + 1) ∧ Aside0 (j ≤ n) ∧ Aside0 (RsRel w n gh ch j w'))
  case atStart => exact ⟨0, rfl, ⟨rfl⟩, ⟨Nat.zero_le _⟩, HR0⟩
  case round =>
    obtain ⟨j, rfl, HK, HJ, HR⟩ := hrel
    cases gk with
    | zero => exact absurd HK.out (by have := HJ.out; omega)
    | succ k1 =>
      by_cases hlt : j < n
      · have hji : (0 : Int) ≤ (j : Int) := by omega
        have hjn : (j : Int) < (n : Int) := by omega
        have HW3 : Aside0 (wrap64 ((j : Int) + 1) = ((j + 1 : Nat) : Int)) := ⟨wrap_up j n (by omega) (by have := HN4.out; omega)⟩
        go_wp2_with ((with_reducible refine gate_dst (N := 17) rfl ?_); (refine Kd.R_make U64 (w0 := wr) 0 67 rfl (N := 17) rfl 63 _ _ rfl (wrap64 (m : Int)) rfl rfl Tryd.underlying63 (.int .u64 0) 8 info64 rfl (by decide) (by omega) 0 (ok := fun _ => True) (okp := fun _ => True) rfl (fun _ hk => hk) trivial ?h0 ?hl ?hB (Nat.zero_le _) ?_); (case h0 => rw [HWM.out]; omega); (case hl => have := HM2.out; rw [HWM.out]; simp only [Int.toNat_natCast]; omega); (case hB => exact ⟨rfl, rfl, rfl, Nat.le_refl _, fun _ _ => rfl⟩); intro v1 w1 ho hb hg hat; (rw [HWM.out, Int.toNat_natCast, HM.out] at ho); (obtain ⟨A1, c1, hv1⟩ := Kd.R_slice ho); subst hv1; (obtain ⟨⟨z, hc⟩, hf, hN⟩ := HR.out.next hlt ho hg hat); (rw [List.length_replicate] at hN); have HN := Aside0.mk hN; clear ho hb hg hat hN)
        go_roundg k1
        case measure => omega
        case rel => exact ⟨j + 1, by first | rfl | (rw [← HW3.out]) | (congr 1; omega), ⟨by have := HK.out; omega⟩, ⟨by omega⟩, HN⟩
      · have hjn : j = n := by have := HJ.out; omega
        subst hjn
        have hd : decide ((j : Int) < (j : Int)) = false := decide_eq_false (by omega)
        go_wp2
        go_ret
        exact ⟨gh, ch, rfl, HR.out⟩
end Go.Proofs.YtmldefednihohaaDoor.Grp
