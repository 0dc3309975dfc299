/- The reference's from and to: rounds over the links till nothing more is found (plain walks); printed by gen_from.py. -/
import Derived.Test.YtmldefednihohaaDoorSxGrpRef
namespace Go.Proofs.YtmldefednihohaaDoor.Grp
open Go.RowKit Go.Proofs.YtmldefednihohaaDoorW.PrintWords Go.Proofs.YtmldefednihohaaDoorW.PrintLast Go.Proofs.YtmldefednihohaaDoorW.PrintMore
set_option linter.unusedVariables false
set_option linter.unusedSimpArgs false
set_option maxRecDepth 100000
theorem infoBo : (Tryd.prog.info? 4).map (fun i => (i.zero, i.size, i.bytes)) = some (some (.bool false), 1, 1) := by kernel_rfl
def bl (P : Nat → Bool) (n : Nat) : List Bool := (List.range n).map P
theorem bl_len (P : Nat → Bool) (n : Nat) : (bl P n).length = n := by simp [bl]
theorem bl_rd (P : Nat → Bool) {n k : Nat} (h : k < n) : rdOf false (bl P n) (k : Int) = P k := by simp [rdOf, bl, h, List.getD_eq_getElem?_getD]
def upB (P : Nat → Bool) (k : Nat) : Nat → Bool := fun x => P x || x == k
theorem bl_set (P : Nat → Bool) {n k : Nat} (h : k < n) : (bl P n).set k true = bl (upB P k) n := by
  apply List.ext_getElem?
  intro j
  simp only [bl, List.getElem?_set, List.getElem?_map, List.length_map, List.length_range, upB]
  by_cases hj : j < n
  · by_cases e : k = j
    · subst e
      simp [hj, upB]
    · have e2 : (j == k) = false := by simp; omega
      simp [hj, e, e2, upB]
  · have : k ≠ j := by omega
    simp [hj, this]
theorem bl_none (n : Nat) : bl (fun _ => false) n = List.replicate n false := by
  apply List.ext_getElem?
  intro j
  simp only [bl, List.getElem?_map, List.getElem?_replicate]
  by_cases hj : j < n
  · simp [hj]
  · simp [hj]
theorem cntF_le (P : Nat → Bool) (s : Nat) : ∀ k, cntF P s k ≤ k := by
  intro k
  induction k with
  | zero => exact Nat.le_refl _
  | succ k ih => have := bz_le P (s + k); simp only [cntF]; omega
theorem cntF_up (P : Nat → Bool) {t : Nat} (ht : P t = false) : ∀ n, t < n → cntF (upB P t) 0 n = cntF P 0 n + 1 := by
  have hlow : ∀ n, n ≤ t → cntF (upB P t) 0 n = cntF P 0 n := by
    intro n
    induction n with
    | zero => intro _; rfl
    | succ n ih =>
      intro h
      have e : (n == t) = false := by simp; omega
      simp only [cntF, Nat.zero_add]
      rw [ih (by omega)]
      simp [bz, upB, e]
  intro n
  induction n with
  | zero => intro h; omega
  | succ n ih =>
    intro h
    by_cases e : n = t
    · subst e
      simp only [cntF, Nat.zero_add]
      rw [hlow n (Nat.le_refl _)]
      simp [bz, upB, ht]
    · have e2 : (n == t) = false := by simp; omega
      simp only [cntF, Nat.zero_add]
      rw [ih (by omega)]
      simp only [bz, upB, e2, Bool.or_false]
      omega
/-- A row of bools of one's own. -/
structure BRel (w : World) (n gb cb : Nat) (P : Nat → Bool) (W : World) : Prop where
  low : Below w.heap.size w W
  row : Kd.bool.R 4 W w.heap.size (fun _ => True) (.slice (some ⟨gb, 0, none⟩) n cb) (bl P n)
section
variable {w W W2 : World} {n gb cb : Nat} {P : Nat → Bool}
theorem BRel.ge (h : BRel w n gb cb P W) : w.heap.size ≤ gb := own_ge h.row gb rfl
theorem BRel.below (h : BRel w n gb cb P W) (hb : Below W.heap.size W W2) : BRel w n gb cb P W2 := ⟨below_step h.low hb, Kd.R_below h.row hb⟩
theorem BRel.cell (h : BRel w n gb cb P W) {k : Nat} (hk : k < n) : W.cell? ⟨gb, k, none⟩ = some (.bool (P k)) ∧ W.frozen? ⟨gb, k, none⟩ = false := by
  have hs := h.row
  rw [show (Value.slice (some ⟨gb, 0, none⟩) n cb) = .slice (some ⟨gb, 0, none⟩) (bl P n).length cb by rw [bl_len]] at hs
  have := Kd.R_cell false hs (k : Int) (by omega) (by rw [bl_len]; omega)
  rw [bl_rd P hk] at this
  simpa using this
theorem BRel.put (h : BRel w n gb cb P W) {k : Nat} (hk : k < n) : BRel w n gb cb (upB P k) (W.setCell ⟨gb, k, none⟩ (.bool true)) := by
  refine ⟨low_set _ h.low h.ge, ?_⟩
  have := (Kd.R_putg h.row (k : Int) true).1
  rw [← bl_set P hk]
  exact this
theorem bool_form {v : Value} (h : Kd.bool.R 4 W w.heap.size (fun _ => True) v (bl P n)) (hn : 1 ≤ n) : ∃ g c, v = .slice (some ⟨g, 0, none⟩) n c := by
  rcases (Kd.own_of_R h).2 with ⟨_, h0⟩ | ⟨b, cap, cur, hv, _⟩
  · rw [bl_len] at h0; omega
  · exact ⟨b, cap, by rw [hv, bl_len]⟩
end
theorem Rch.rev1 {L : Nat → Nat → Bool} {b x : Nat} (h : Rch (fun x y => L y x) b x) : Rch L x b := by
  induction h with
  | one x h => exact .one b h
  | step d x _ h ih => exact Rch.trans (.one d h) ih
theorem Rch.rev (L : Nat → Nat → Bool) (b x : Nat) : Rch (fun x y => L y x) b x ↔ Rch L x b :=
  ⟨Rch.rev1, fun h => Rch.rev1 (L := fun x y => L y x) h⟩
/-- The bits that a search of rounds has; l the links, (f, t) of each. -/
structure Rd (L : Nat → Nat → Bool) (ks : List (Nat × Nat)) (a : Nat) (P0 P : Nat → Bool) (n : Nat) (mo : Bool) (i : Nat) : Prop where
  snd : ∀ x, P x = true → Rch L a x
  grow : mo = true → cntF P0 0 n + 1 ≤ cntF P 0 n
  still : mo = false → P = P0 ∧ ∀ j, j < i → ∀ f t, ks[j]? = some (f, t) → (f = a ∨ P f = true) → P t = true
theorem Rd.skip {L : Nat → Nat → Bool} {ks : List (Nat × Nat)} {a : Nat} {P0 P : Nat → Bool} {n : Nat} {mo : Bool} {i f t : Nat} (h : Rd L ks a P0 P n mo i) (hi : ks[i]? = some (f, t)) (hn : (f = a ∨ P f = true) → P t = true) : Rd L ks a P0 P n mo (i + 1) :=
  ⟨h.snd, h.grow, fun hm => ⟨(h.still hm).1, fun j hj f' t' hj' hf' => by
    by_cases e : j = i
    · subst e
      rw [hi] at hj'
      obtain ⟨rfl, rfl⟩ := Prod.mk.inj (Option.some.inj hj')
      exact hn hf'
    · exact (h.still hm).2 j (by omega) f' t' hj' hf'⟩⟩
theorem Rd.take {L : Nat → Nat → Bool} {ks : List (Nat × Nat)} {a : Nat} {P0 P : Nat → Bool} {n : Nat} {mo : Bool} {i f t : Nat} (h : Rd L ks a P0 P n mo i) (hL : L f t = true) (hf : f = a ∨ P f = true) (ht : P t = false) (htn : t < n) : Rd L ks a P0 (upB P t) n true (i + 1) :=
  ⟨fun x hx => by
    unfold upB at hx
    rw [Bool.or_eq_true] at hx
    rcases hx with hx | hx
    · exact h.snd x hx
    · have : x = t := by simpa using hx
      subst this
      rcases hf with hf | hf
      · subst hf; exact .one _ hL
      · exact .step f x (h.snd f hf) hL
   , fun _ => by
    rw [cntF_up P ht n htn]
    cases mo with
    | true => have := h.grow rfl; omega
    | false => rw [(h.still rfl).1]; omega
   , fun h => by cases h⟩
theorem Rd.start {L : Nat → Nat → Bool} {ks : List (Nat × Nat)} {a : Nat} {P : Nat → Bool} {n : Nat} (h : ∀ x, P x = true → Rch L a x) : Rd L ks a P P n false 0 :=
  ⟨h, fun h => (by cases h), fun _ => ⟨rfl, fun j hj => absurd hj (by omega)⟩⟩
theorem closed_all {L : Nat → Nat → Bool} {ks : List (Nat × Nat)} {a : Nat} {P : Nat → Bool} (hL : ∀ f t, L f t = true → ∃ j : Nat, ks[j]? = some (f, t)) (hc : ∀ (j f t : Nat), ks[j]? = some (f, t) → (f = a ∨ P f = true) → P t = true) {x : Nat} (h : Rch L a x) : P x = true := by
  induction h with
  | one x h =>
    obtain ⟨j, hj⟩ := hL _ _ h
    exact hc j _ _ hj (.inl rfl)
  | step d x _ h ih =>
    obtain ⟨j, hj⟩ := hL _ _ h
    exact hc j _ _ hj (.inr ih)
/-- The links as numbers. -/
def nat2 (p : Int × Int) : Nat × Nat := (p.1.toNat, p.2.toNat)
def tan2 (p : Int × Int) : Nat × Nat := (p.2.toNat, p.1.toNat)
/-- What the list says. -/
def Says (l : List (Int × Int)) (L : Nat → Nat → Bool) : Prop := ∀ a b : Nat, L a b = true ↔ ((a : Int), (b : Int)) ∈ l
theorem says_nat {l : List (Int × Int)} {L : Nat → Nat → Bool} (h : Says l L) (f t : Nat) (hL : L f t = true) : ∃ j : Nat, (l.map nat2)[j]? = some (f, t) := by
  obtain ⟨j, hj, e⟩ := List.getElem_of_mem ((h f t).1 hL)
  exact ⟨j, by rw [List.getElem?_map, List.getElem?_eq_getElem hj, e]; rfl⟩
theorem says_tan {l : List (Int × Int)} {L : Nat → Nat → Bool} (h : Says l L) (f t : Nat) (hL : (fun x y => L y x) f t = true) : ∃ j : Nat, (l.map tan2)[j]? = some (f, t) := by
  obtain ⟨j, hj, e⟩ := List.getElem_of_mem ((h t f).1 hL)
  exact ⟨j, by rw [List.getElem?_map, List.getElem?_eq_getElem hj, e]; rfl⟩
theorem says_at {l : List (Int × Int)} {L : Nat → Nat → Bool} (h : Says l L) {j f t : Nat} (hj : j < l.length) (e : l[j] = ((f : Int), (t : Int))) : L f t = true := (h f t).2 (by rw [← e]; exact List.getElem_mem hj)
set_option maxHeartbeats 8000000 in
theorem rfrom_calls (w : World) (r n : Nat) (A : Option Addr) (c : Nat) (l : List (Int × Int)) (L : Nat → Nat → Bool) (a : Nat) (h : RvAt w r n A c l) (hs : Says l L) (ha : a < n) (hl : l.length ≤ 20000000) :
    Calls Tryd.prog 44 #[.pointer (some ⟨r, 0, none⟩), .int .i64 (a : Int)] w fun e w' => ∃ gb cb P, e = .returned (.slice (some ⟨gb, 0, none⟩) n cb) ∧ BRel w n gb cb P w' ∧ ∀ x, P x = true ↔ Rch L a x := by
  have c0 := h.c0
  have H := Aside0.mk h
  have HS := Aside0.mk hs
  have HN1 := Aside0.mk h.n1
  have HN4 := Aside0.mk h.n4
  obtain ⟨N, hN⟩ : ∃ N, N = l.length := ⟨_, rfl⟩
  have HN := Aside0.mk hN
  have HLN : Aside0 (N ≤ 20000000) := ⟨by omega⟩
  obtain ⟨ks, hks⟩ : ∃ ks, ks = l.map nat2 := ⟨_, rfl⟩
  have HKS := Aside0.mk hks
  have HA := Aside0.mk ha
  clear h hl hs hN hks
  go_enter Tryd.func44, Tryd.ntmps44
  go_wp2_with ((with_reducible refine gate_dst (N := 13) rfl ?_); (refine Kd.R_make Kd.bool (w0 := w) w.heap.size 4 rfl (N := 13) rfl 46 _ _ rfl (n : Int) rfl rfl Tryd.underlying46 (.bool false) 1 infoBo rfl (by decide) (by omega) false (ok := fun _ => True) (okp := fun _ => True) rfl (fun _ hk => hk) trivial (by omega) ?hl ?hB (Nat.le_refl _) ?_); (case hl => have := HN4.out; simp only [Int.toNat_natCast]; omega); (case hB => exact Below.refl _ _); intro v1 w1 ho hb1 hg1 hat; (rw [Int.toNat_natCast, ← bl_none] at ho); (obtain ⟨gb, cb, hv⟩ := bool_form ho HN1.out); subst hv; have HB0 : Aside0 (BRel w n gb cb (fun _ => false) w1) := ⟨⟨⟨hg1.os, hg1.tape, hg1.output, hg1.size, fun k hk => hg1.block k hk (by simp)⟩, ho⟩⟩; clear ho hb1 hg1 hat c0)
  go_loopg [6] (n + 1) (fun kq v6 w' => ∃ (mo : Bool) (P : Nat → Bool), v6 = .bool mo ∧ Aside0 (∀ x, P x = true → Rch L a x) ∧ Aside0 (mo = true → n + 1 ≤ kq + cntF P 0 n) ∧ Aside0 (mo = false → ∀ (j f t : Nat), ks[j]? = some (f, t) → (f = a ∨ P f = true) → P t = true) ∧ Aside0 (BRel w n gb cb P w'))
  case atStart => exact ⟨true, fun _ => false, rfl, ⟨fun x h => by cases h⟩, ⟨fun _ => by omega⟩, ⟨fun h => by cases h⟩, HB0⟩
  case round =>
    clear HB0
    obtain ⟨mo, P0, rfl, HSN, HGR, HCL, HB⟩ := hrel
    cases mo with
    | false =>
      go_wp2
      go_ret
      refine ⟨gb, cb, rfl, P0, HB.out, fun x => ⟨HSN.out x, fun hx => ?_⟩⟩
      refine closed_all (ks := ks) ?_ (HCL.out trivial) hx
      rw [HKS.out]
      exact says_nat HS.out
    | true =>
      cases gk with
      | zero => exact absurd (HGR.out rfl) (by have := cntF_le P0 0 n; omega)
      | succ k1 =>
        have HGR1 : Aside0 (n ≤ k1 + cntF P0 0 n) := ⟨by have := HGR.out rfl; omega⟩
        have HRD : Aside0 (Rd L ks a P0 P0 n false 0) := ⟨Rd.start HSN.out⟩
        clear HSN HGR HCL
        have c1 := (H.out.below HB.out.low).c1
        rw [← HN.out] at c1
        go_wp2
        clear c1
        go_loopg [6, 7] (N + 1) (fun kq v6 v7 w' => ∃ (mo : Bool) (P : Nat → Bool) (i : Nat), v6 = .bool mo ∧ v7 = .int .i64 (i : Int) ∧ Aside0 (kq + i = N + 1) ∧ Aside0 (i ≤ N) ∧ Aside0 (Rd L ks a P0 P n mo i) ∧ Aside0 (BRel w n gb cb P w'))
        case atStart => exact ⟨false, P0, 0, rfl, rfl, ⟨rfl⟩, ⟨Nat.zero_le _⟩, HRD, HB⟩
        case round =>
          clear HRD HB
          obtain ⟨mo, P, i, rfl, rfl, HK, HJ, HR, HB⟩ := hrel
          have hv := H.out.below HB.out.low
          have c1 := hv.c1
          rw [← HN.out] at c1
          cases gk with
          | zero => exact absurd HK.out (by have := HJ.out; omega)
          | succ k2 =>
            by_cases hlt : i < N
            · have hc0 : (0 : Int) ≤ (i : Int) := by omega
              have hcn : (i : Int) < (N : Int) := by omega
              have HW3 : Aside0 (wrap64 ((i : Int) + 1) = ((i + 1 : Nat) : Int)) := ⟨wrap_up i N (by omega) (by have := HLN.out; omega)⟩
              have hil : i < l.length := by rw [← HN.out]; exact hlt
              obtain ⟨g, hA, hx, hy⟩ := hv.at_ (i := i) hil
              subst hA
              have hz := hv.hz l[i] (List.getElem_mem hil)
              obtain ⟨f, t, hf, ht, hp, hft, htn⟩ : ∃ f t : Nat, (l[i]).1 = (f : Int) ∧ (l[i]).2 = (t : Int) ∧ l[i] = ((f : Int), (t : Int)) ∧ f < n ∧ t < n := ⟨(l[i]).1.toNat, (l[i]).2.toNat, by omega, by omega, by rw [Prod.ext_iff]; exact ⟨by show (l[i]).1 = _; omega, by show (l[i]).2 = _; omega⟩, by omega, by omega⟩
              rw [hf] at hx
              rw [ht] at hy
              have HKI : Aside0 (ks[i]? = some (f, t)) := ⟨by rw [HKS.out, List.getElem?_map, List.getElem?_eq_getElem hil, hp]; rfl⟩
              have HLI : Aside0 (L f t = true) := ⟨says_at HS.out hil hp⟩
              have HFN := Aside0.mk hft
              have HTN := Aside0.mk htn
              have hf0 : (0 : Int) ≤ (f : Int) := by omega
              have hfn : (f : Int) < (n : Int) := by omega
              have ht0 : (0 : Int) ≤ (t : Int) := by omega
              have htn : (t : Int) < (n : Int) := by omega
              clear hv hz hf ht hp hft hil
              obtain ⟨hcf, hff⟩ := HB.out.cell HFN.out
              obtain ⟨hct, hff2⟩ := HB.out.cell HTN.out
              go_upto_region 9 with (fail)
              have HB5 : Aside0 (BRel w n gb cb P (wr.alloc (.cells #[.int .i64 (f : Int), .int .i64 (t : Int)] 81))) := ⟨HB.out.below (below_alloc (Below.refl _ _) _)⟩
              have hk0 : (wr.alloc (.cells #[.int .i64 (f : Int), .int .i64 (t : Int)] 81)).cell? ⟨wr.heap.size, 0, none⟩ = some (.int .i64 (f : Int)) := by rw [blk_cell (heap_alloc_new _ _)]; rfl
              have hk1 : (wr.alloc (.cells #[.int .i64 (f : Int), .int .i64 (t : Int)] 81)).cell? ⟨wr.heap.size, 1, none⟩ = some (.int .i64 (t : Int)) := by rw [blk_cell (heap_alloc_new _ _)]; rfl
              generalize hW5 : wr.alloc (.cells #[.int .i64 (f : Int), .int .i64 (t : Int)] 81) = W5 at HB5 hk0 hk1 ⊢
              clear hW5 hcf hff hct hff2 HB hx hy c1
              generalize wr.heap.size = kb at hk0 hk1 ⊢
              obtain ⟨hcf, hff⟩ := HB5.out.cell HFN.out
              obtain ⟨hct, hff2⟩ := HB5.out.cell HTN.out
              obtain ⟨pf, hpf⟩ : ∃ pf, pf = P f := ⟨_, rfl⟩
              obtain ⟨pt, hpt⟩ : ∃ pt, pt = P t := ⟨_, rfl⟩
              rw [← hpf] at hcf
              rw [← hpt] at hct
              have HPF := Aside0.mk hpf.symm
              have HPT := Aside0.mk hpt.symm
              clear hpf hpt
              by_cases hfa : f = a
              · have hda : decide ((f : Int) = (a : Int)) = true := decide_eq_true (by rw [hfa])
                cases pt with
                | true =>
                  go_wp2
                  go_roundg k2
                  case measure => omega
                  case rel => exact ⟨_, _, i + 1, rfl, by first | rfl | (rw [← HW3.out]), ⟨by have := HK.out; omega⟩, ⟨by omega⟩, ⟨HR.out.skip HKI.out (fun _ => HPT.out)⟩, ⟨HB5.out⟩⟩
                | false =>
                  go_wp2
                  go_roundg k2
                  case measure => omega
                  case rel => exact ⟨_, _, i + 1, rfl, by first | rfl | (rw [← HW3.out]), ⟨by have := HK.out; omega⟩, ⟨by omega⟩, ⟨HR.out.take HLI.out (.inl hfa) HPT.out HTN.out⟩, ⟨HB5.out.put HTN.out⟩⟩
              · have hda : decide ((f : Int) = (a : Int)) = false := decide_eq_false (by omega)
                cases pf with
                | false =>
                  go_wp2
                  go_roundg k2
                  case measure => omega
                  case rel => exact ⟨_, _, i + 1, rfl, by first | rfl | (rw [← HW3.out]), ⟨by have := HK.out; omega⟩, ⟨by omega⟩, ⟨HR.out.skip HKI.out (fun hh => hh.elim (fun e => absurd e hfa) (fun e => by rw [HPF.out] at e; cases e))⟩, ⟨HB5.out⟩⟩
                | true =>
                  cases pt with
                  | true =>
                    go_wp2
                    go_roundg k2
                    case measure => omega
                    case rel => exact ⟨_, _, i + 1, rfl, by first | rfl | (rw [← HW3.out]), ⟨by have := HK.out; omega⟩, ⟨by omega⟩, ⟨HR.out.skip HKI.out (fun _ => HPT.out)⟩, ⟨HB5.out⟩⟩
                  | false =>
                    go_wp2
                    go_roundg k2
                    case measure => omega
                    case rel => exact ⟨_, _, i + 1, rfl, by first | rfl | (rw [← HW3.out]), ⟨by have := HK.out; omega⟩, ⟨by omega⟩, ⟨HR.out.take HLI.out (.inr HPF.out) HPT.out HTN.out⟩, ⟨HB5.out.put HTN.out⟩⟩
            · have hjn : i = N := by have := HJ.out; omega
              subst hjn
              have hd : decide ((i : Int) < (i : Int)) = false := decide_eq_false (by omega)
              go_wp2
              go_roundg k1
              case measure => omega
              case rel => exact ⟨mo, P, rfl, ⟨HR.out.snd⟩, ⟨fun hm => by have := HR.out.grow hm; have := HGR1.out; omega⟩, ⟨fun hm j f t hj => (HR.out.still hm).2 j (by
                have hjl : j < ks.length := by
                  rcases Nat.lt_or_ge j ks.length with h | h
                  · exact h
                  · rw [List.getElem?_eq_none h] at hj; cases hj
                rw [HKS.out, List.length_map] at hjl
                rw [HN.out]; exact hjl) f t hj⟩, HB⟩
set_option maxHeartbeats 8000000 in
theorem rto_calls (w : World) (r n : Nat) (A : Option Addr) (c : Nat) (l : List (Int × Int)) (L : Nat → Nat → Bool) (a : Nat) (h : RvAt w r n A c l) (hs : Says l L) (ha : a < n) (hl : l.length ≤ 20000000) :
    Calls Tryd.prog 45 #[.pointer (some ⟨r, 0, none⟩), .int .i64 (a : Int)] w fun e w' => ∃ gb cb P, e = .returned (.slice (some ⟨gb, 0, none⟩) n cb) ∧ BRel w n gb cb P w' ∧ ∀ x, P x = true ↔ Rch (fun x y => L y x) a x := by
  have c0 := h.c0
  have H := Aside0.mk h
  have HS := Aside0.mk hs
  have HN1 := Aside0.mk h.n1
  have HN4 := Aside0.mk h.n4
  obtain ⟨N, hN⟩ : ∃ N, N = l.length := ⟨_, rfl⟩
  have HN := Aside0.mk hN
  have HLN : Aside0 (N ≤ 20000000) := ⟨by omega⟩
  obtain ⟨ks, hks⟩ : ∃ ks, ks = l.map tan2 := ⟨_, rfl⟩
  have HKS := Aside0.mk hks
  have HA := Aside0.mk ha
  clear h hl hs hN hks
  go_enter Tryd.func45, Tryd.ntmps45
  go_wp2_with ((with_reducible refine gate_dst (N := 13) rfl ?_); (refine Kd.R_make Kd.bool (w0 := w) w.heap.size 4 rfl (N := 13) rfl 46 _ _ rfl (n : Int) rfl rfl Tryd.underlying46 (.bool false) 1 infoBo rfl (by decide) (by omega) false (ok := fun _ => True) (okp := fun _ => True) rfl (fun _ hk => hk) trivial (by omega) ?hl ?hB (Nat.le_refl _) ?_); (case hl => have := HN4.out; simp only [Int.toNat_natCast]; omega); (case hB => exact Below.refl _ _); intro v1 w1 ho hb1 hg1 hat; (rw [Int.toNat_natCast, ← bl_none] at ho); (obtain ⟨gb, cb, hv⟩ := bool_form ho HN1.out); subst hv; have HB0 : Aside0 (BRel w n gb cb (fun _ => false) w1) := ⟨⟨⟨hg1.os, hg1.tape, hg1.output, hg1.size, fun k hk => hg1.block k hk (by simp)⟩, ho⟩⟩; clear ho hb1 hg1 hat c0)
  go_loopg [6] (n + 1) (fun kq v6 w' => ∃ (mo : Bool) (P : Nat → Bool), v6 = .bool mo ∧ Aside0 (∀ x, P x = true → Rch (fun x y => L y x) a x) ∧ Aside0 (mo = true → n + 1 ≤ kq + cntF P 0 n) ∧ Aside0 (mo = false → ∀ (j f t : Nat), ks[j]? = some (f, t) → (f = a ∨ P f = true) → P t = true) ∧ Aside0 (BRel w n gb cb P w'))
  case atStart => exact ⟨true, fun _ => false, rfl, ⟨fun x h => by cases h⟩, ⟨fun _ => by omega⟩, ⟨fun h => by cases h⟩, HB0⟩
  case round =>
    clear HB0
    obtain ⟨mo, P0, rfl, HSN, HGR, HCL, HB⟩ := hrel
    cases mo with
    | false =>
      go_wp2
      go_ret
      refine ⟨gb, cb, rfl, P0, HB.out, fun x => ⟨HSN.out x, fun hx => ?_⟩⟩
      refine closed_all (ks := ks) ?_ (HCL.out trivial) hx
      rw [HKS.out]
      exact says_tan HS.out
    | true =>
      cases gk with
      | zero => exact absurd (HGR.out rfl) (by have := cntF_le P0 0 n; omega)
      | succ k1 =>
        have HGR1 : Aside0 (n ≤ k1 + cntF P0 0 n) := ⟨by have := HGR.out rfl; omega⟩
        have HRD : Aside0 (Rd (fun x y => L y x) ks a P0 P0 n false 0) := ⟨Rd.start HSN.out⟩
        clear HSN HGR HCL
        have c1 := (H.out.below HB.out.low).c1
        rw [← HN.out] at c1
        go_wp2
        clear c1
        go_loopg [6, 7] (N + 1) (fun kq v6 v7 w' => ∃ (mo : Bool) (P : Nat → Bool) (i : Nat), v6 = .bool mo ∧ v7 = .int .i64 (i : Int) ∧ Aside0 (kq + i = N + 1) ∧ Aside0 (i ≤ N) ∧ Aside0 (Rd (fun x y => L y x) ks a P0 P n mo i) ∧ Aside0 (BRel w n gb cb P w'))
        case atStart => exact ⟨false, P0, 0, rfl, rfl, ⟨rfl⟩, ⟨Nat.zero_le _⟩, HRD, HB⟩
        case round =>
          clear HRD HB
          obtain ⟨mo, P, i, rfl, rfl, HK, HJ, HR, HB⟩ := hrel
          have hv := H.out.below HB.out.low
          have c1 := hv.c1
          rw [← HN.out] at c1
          cases gk with
          | zero => exact absurd HK.out (by have := HJ.out; omega)
          | succ k2 =>
            by_cases hlt : i < N
            · have hc0 : (0 : Int) ≤ (i : Int) := by omega
              have hcn : (i : Int) < (N : Int) := by omega
              have HW3 : Aside0 (wrap64 ((i : Int) + 1) = ((i + 1 : Nat) : Int)) := ⟨wrap_up i N (by omega) (by have := HLN.out; omega)⟩
              have hil : i < l.length := by rw [← HN.out]; exact hlt
              obtain ⟨g, hA, hx, hy⟩ := hv.at_ (i := i) hil
              subst hA
              have hz := hv.hz l[i] (List.getElem_mem hil)
              obtain ⟨f, t, hf, ht, hp, hft, htn⟩ : ∃ f t : Nat, (l[i]).1 = (f : Int) ∧ (l[i]).2 = (t : Int) ∧ l[i] = ((f : Int), (t : Int)) ∧ f < n ∧ t < n := ⟨(l[i]).1.toNat, (l[i]).2.toNat, by omega, by omega, by rw [Prod.ext_iff]; exact ⟨by show (l[i]).1 = _; omega, by show (l[i]).2 = _; omega⟩, by omega, by omega⟩
              rw [hf] at hx
              rw [ht] at hy
              have HKI : Aside0 (ks[i]? = some (t, f)) := ⟨by rw [HKS.out, List.getElem?_map, List.getElem?_eq_getElem hil, hp]; rfl⟩
              have HLI : Aside0 (L f t = true) := ⟨says_at HS.out hil hp⟩
              have HFN := Aside0.mk hft
              have HTN := Aside0.mk htn
              have hf0 : (0 : Int) ≤ (f : Int) := by omega
              have hfn : (f : Int) < (n : Int) := by omega
              have ht0 : (0 : Int) ≤ (t : Int) := by omega
              have htn : (t : Int) < (n : Int) := by omega
              clear hv hz hf ht hp hft hil
              obtain ⟨hcf, hff⟩ := HB.out.cell HFN.out
              obtain ⟨hct, hff2⟩ := HB.out.cell HTN.out
              go_upto_region 9 with (fail)
              have HB5 : Aside0 (BRel w n gb cb P (wr.alloc (.cells #[.int .i64 (f : Int), .int .i64 (t : Int)] 81))) := ⟨HB.out.below (below_alloc (Below.refl _ _) _)⟩
              have hk0 : (wr.alloc (.cells #[.int .i64 (f : Int), .int .i64 (t : Int)] 81)).cell? ⟨wr.heap.size, 0, none⟩ = some (.int .i64 (f : Int)) := by rw [blk_cell (heap_alloc_new _ _)]; rfl
              have hk1 : (wr.alloc (.cells #[.int .i64 (f : Int), .int .i64 (t : Int)] 81)).cell? ⟨wr.heap.size, 1, none⟩ = some (.int .i64 (t : Int)) := by rw [blk_cell (heap_alloc_new _ _)]; rfl
              generalize hW5 : wr.alloc (.cells #[.int .i64 (f : Int), .int .i64 (t : Int)] 81) = W5 at HB5 hk0 hk1 ⊢
              clear hW5 hcf hff hct hff2 HB hx hy c1
              generalize wr.heap.size = kb at hk0 hk1 ⊢
              obtain ⟨hcf, hff⟩ := HB5.out.cell HFN.out
              obtain ⟨hct, hff2⟩ := HB5.out.cell HTN.out
              obtain ⟨pf, hpf⟩ : ∃ pf, pf = P f := ⟨_, rfl⟩
              obtain ⟨pt, hpt⟩ : ∃ pt, pt = P t := ⟨_, rfl⟩
              rw [← hpf] at hcf
              rw [← hpt] at hct
              have HPF := Aside0.mk hpf.symm
              have HPT := Aside0.mk hpt.symm
              clear hpf hpt
              by_cases hfa : t = a
              · have hda : decide ((t : Int) = (a : Int)) = true := decide_eq_true (by rw [hfa])
                cases pf with
                | true =>
                  go_wp2
                  go_roundg k2
                  case measure => omega
                  case rel => exact ⟨_, _, i + 1, rfl, by first | rfl | (rw [← HW3.out]), ⟨by have := HK.out; omega⟩, ⟨by omega⟩, ⟨HR.out.skip HKI.out (fun _ => HPF.out)⟩, ⟨HB5.out⟩⟩
                | false =>
                  go_wp2
                  go_roundg k2
                  case measure => omega
                  case rel => exact ⟨_, _, i + 1, rfl, by first | rfl | (rw [← HW3.out]), ⟨by have := HK.out; omega⟩, ⟨by omega⟩, ⟨HR.out.take HLI.out (.inl hfa) HPF.out HFN.out⟩, ⟨HB5.out.put HFN.out⟩⟩
              · have hda : decide ((t : Int) = (a : Int)) = false := decide_eq_false (by omega)
                cases pt with
                | false =>
                  go_wp2
                  go_roundg k2
                  case measure => omega
                  case rel => exact ⟨_, _, i + 1, rfl, by first | rfl | (rw [← HW3.out]), ⟨by have := HK.out; omega⟩, ⟨by omega⟩, ⟨HR.out.skip HKI.out (fun hh => hh.elim (fun e => absurd e hfa) (fun e => by rw [HPT.out] at e; cases e))⟩, ⟨HB5.out⟩⟩
                | true =>
                  cases pf with
                  | true =>
                    go_wp2
                    go_roundg k2
                    case measure => omega
                    case rel => exact ⟨_, _, i + 1, rfl, by first | rfl | (rw [← HW3.out]), ⟨by have := HK.out; omega⟩, ⟨by omega⟩, ⟨HR.out.skip HKI.out (fun _ => HPF.out)⟩, ⟨HB5.out⟩⟩
                  | false =>
                    go_wp2
                    go_roundg k2
                    case measure => omega
                    case rel => exact ⟨_, _, i + 1, rfl, by first | rfl | (rw [← HW3.out]), ⟨by have := HK.out; omega⟩, ⟨by omega⟩, ⟨HR.out.take HLI.out (.inr HPT.out) HPF.out HFN.out⟩, ⟨HB5.out.put HFN.out⟩⟩
            · have hjn : i = N := by have := HJ.out; omega
              subst hjn
              have hd : decide ((i : Int) < (i : Int)) = false := decide_eq_false (by omega)
              go_wp2
              go_roundg k1
              case measure => omega
              case rel => exact ⟨mo, P, rfl, ⟨HR.out.snd⟩, ⟨fun hm => by have := HR.out.grow hm; have := HGR1.out; omega⟩, ⟨fun hm j f t hj => (HR.out.still hm).2 j (by
                have hjl : j < ks.length := by
                  rcases Nat.lt_or_ge j ks.length with h | h
                  · exact h
                  · rw [List.getElem?_eq_none h] at hj; cases hj
                rw [HKS.out, List.length_map] at hjl
                rw [HN.out]; exact hjl) f t hj⟩, HB⟩
end Go.Proofs.YtmldefednihohaaDoor.Grp
