/- The reference's Cut (a plain walk). -/
import Derived.Test.YtmldefednihohaaDoorPxGrpRefAdd
namespace Go.Proofs.YtmldefednihohaaDoor.Grp
open Go.RowKit Go.Proofs.YtmldefednihohaaDoorW.PrintWords Go.Proofs.YtmldefednihohaaDoorW.PrintLast Go.Proofs.YtmldefednihohaaDoorW.PrintMore
set_option linter.unusedVariables false
set_option linter.unusedSimpArgs false
set_option maxRecDepth 100000
theorem rcut_nil (w : World) (a b : Int) : Calls Tryd.prog 39 #[.pointer none, .int .i64 a, .int .i64 b] w fun e w' => e = .returned (.int .i64 1) ∧ w' = w := by
  go_enter Tryd.func39, Tryd.ntmps39
  go_wp2
  go_ret
  exact ⟨rfl, rfl⟩
set_option maxHeartbeats 4000000 in
theorem rcut_bad (w : World) (r n : Nat) (A : Option Addr) (c : Nat) (l : List (Int × Int)) (a b : Int) (h : RvAt w r n A c l) (hb : (okG n a && okG n b) = false) :
    Calls Tryd.prog 39 #[.pointer (some ⟨r, 0, none⟩), .int .i64 a, .int .i64 b] w fun e w' => e = .returned (.int .i64 2) ∧ Below w.heap.size w w' := by
  obtain ⟨xa, hxa⟩ : ∃ xa, okG n a = xa := ⟨_, rfl⟩
  have H := Aside0.mk h
  have HXA := Aside0.mk hxa
  rw [hxa] at hb
  cases xa with
  | false =>
    clear h hxa hb
    go_enter Tryd.func39, Tryd.ntmps39
    go_wp2_with (go_at_call 42; ((with_reducible refine (rgroup_calls w r n A c l a false H.out HXA.out).mono ?_); rintro e1 w1 ⟨rfl, d1⟩; have B1 := Aside0.mk d1.below; clear d1))
    go_ret
    exact ⟨rfl, B1.out⟩
  | true =>
    have HXB : Aside0 (okG n b = false) := ⟨by simpa using hb⟩
    clear h hxa hb
    go_enter Tryd.func39, Tryd.ntmps39
    go_wp2_with (first
      | (go_at_call 42; ((with_reducible refine (rgroup_calls w r n A c l a true H.out HXA.out).mono ?_); rintro e1 w1 ⟨rfl, d1⟩; have B1 := Aside0.mk d1.below; clear d1))
      | (go_at_call 42; ((with_reducible refine (rgroup_calls w1 r n A c l b false (H.out.below B1.out) HXB.out).mono ?_); rintro e2 w2 ⟨rfl, d2⟩; have B2 := Aside0.mk (below_step B1.out d2.below); clear d2)))
    go_ret
    exact ⟨rfl, B2.out⟩
set_option maxHeartbeats 4000000 in
theorem rcut_absent (w : World) (r n : Nat) (A : Option Addr) (c : Nat) (l : List (Int × Int)) (i j : Nat) (h : RvAt w r n A c l) (hi : i < n) (hj : j < n) (hm : ((i : Int), (j : Int)) ∉ l) :
    Calls Tryd.prog 39 #[.pointer (some ⟨r, 0, none⟩), .int .i64 (i : Int), .int .i64 (j : Int)] w fun e w' => e = .returned (.int .i64 121) ∧ Below w.heap.size w w' := by
  have H := Aside0.mk h
  have HL := Aside0.mk (lenL h)
  have HM := Aside0.mk hm
  have HXA : Aside0 (okG n (i : Int) = true) := ⟨decide_eq_true (by omega)⟩
  have HXB : Aside0 (okG n (j : Int) = true) := ⟨decide_eq_true (by omega)⟩
  clear h hi hj hm
  go_enter Tryd.func39, Tryd.ntmps39
  go_wp2_with (first
    | (go_at_call 42; ((with_reducible refine (rgroup_calls w r n A c l (i : Int) true H.out HXA.out).mono ?_); rintro e1 w1 ⟨rfl, d1⟩; have B1 := Aside0.mk d1.below; clear d1))
    | (go_at_call 42; ((with_reducible refine (rgroup_calls w1 r n A c l (j : Int) true (H.out.below B1.out) HXB.out).mono ?_); rintro e2 w2 ⟨rfl, d2⟩; have B2 := Aside0.mk (below_step B1.out d2.below); clear d2))
    | (go_at_call 49; ((with_reducible refine (rlinked_calls w2 r n A c l (i : Int) (j : Int) (H.out.below B2.out) (by have := HL.out; omega)).mono ?_); rintro e3 w3 ⟨h3, d3⟩; (obtain rfl := (h3.resolve_left (fun ⟨k, _, hk, hkl⟩ => HM.out (List.mem_of_getElem? hkl))).1); have B3 := Aside0.mk (below_step B2.out d3.below); clear d3 h3)))
  go_ret
  exact ⟨rfl, B3.out⟩
def less (l : List (Int × Int)) (p : Int × Int) : List (Int × Int) := l.filter (fun q => !(q == p))
theorem less_step {l : List (Int × Int)} {p : Int × Int} {i : Nat} (hi : i < l.length) : less (l.take (i + 1)) p = less (l.take i) p ++ (if l[i] = p then [] else [l[i]]) := by
  unfold less
  rw [List.take_add_one, List.getElem?_eq_getElem hi, List.filter_append]
  by_cases e : l[i] = p
  · rw [if_pos e]; simp [e]
  · rw [if_neg e]; simp [e]
theorem says_cut {l : List (Int × Int)} {L : Nat → Nat → Bool} (h : Says l L) (i j : Nat) : Says (less l ((i : Int), (j : Int))) (cutL L i j) := fun a b => by
  unfold less cutL upX
  rw [List.mem_filter]
  by_cases e : a = i
  · subst e
    rw [if_pos rfl, Bool.and_eq_true, h a b]
    simp only [Bool.not_eq_true', beq_eq_false_iff_ne, ne_eq, Prod.mk.injEq, true_and]
    constructor
    · rintro ⟨h1, h2⟩; exact ⟨h1, by omega⟩
    · rintro ⟨h1, h2⟩; exact ⟨h1, by omega⟩
  · rw [if_neg e, h a b]
    have : ((a : Int), (b : Int)) ≠ ((i : Int), (j : Int)) := fun hh => e (by have := (Prod.mk.inj hh).1; omega)
    simp [this]
/-- The new list, i links looked at. -/
structure CutR (w W : World) (r n : Nat) (A : Option Addr) (c : Nat) (l : List (Int × Int)) (p : Int × Int) (i : Nat) (v : Value) : Prop where
  low : Below w.heap.size w W
  row : LK.R 81 W w.heap.size (fun _ => True) v (less (l.take i) p)
set_option maxHeartbeats 8000000 in
theorem rcut_there (S : Nat → Prop) (w : World) (r n : Nat) (A : Option Addr) (c : Nat) (l : List (Int × Int)) (L : Nat → Nat → Bool) (i j : Nat) (h : RvAt w r n A c l) (hs : Says l L) (s1 : S r) (hi : i < n) (hj : j < n) (hL : L i j = true) :
    Calls Tryd.prog 39 #[.pointer (some ⟨r, 0, none⟩), .int .i64 (i : Int), .int .i64 (j : Int)] w fun e w' => e = .returned (.int .i64 0) ∧ RX (More S w) w' (.pointer (some ⟨r, 0, none⟩)) n (cutL L i j) ∧ Fr w w' S := by
  have H := Aside0.mk h
  have HL := Aside0.mk (lenL h)
  have HM := Aside0.mk ((hs i j).1 hL)
  have HS := Aside0.mk hs
  have HXA : Aside0 (okG n (i : Int) = true) := ⟨decide_eq_true (by omega)⟩
  have HXB : Aside0 (okG n (j : Int) = true) := ⟨decide_eq_true (by omega)⟩
  obtain ⟨N, hN⟩ : ∃ N, N = l.length := ⟨_, rfl⟩
  have HN := Aside0.mk hN
  have HLN : Aside0 (N ≤ 16777216) := ⟨by have := HL.out; omega⟩
  clear h hs hi hj hL hN
  go_enter Tryd.func39, Tryd.ntmps39
  go_wp2_with (first
    | (go_at_call 42; ((with_reducible refine (rgroup_calls w r n A c l (i : Int) true H.out HXA.out).mono ?_); rintro e1 w1 ⟨rfl, d1⟩; have B1 := Aside0.mk d1.below; clear d1))
    | (go_at_call 42; ((with_reducible refine (rgroup_calls w1 r n A c l (j : Int) true (H.out.below B1.out) HXB.out).mono ?_); rintro e2 w2 ⟨rfl, d2⟩; have B2 := Aside0.mk (below_step B1.out d2.below); clear d2))
    | (go_at_call 49; ((with_reducible refine (rlinked_calls w2 r n A c l (i : Int) (j : Int) (H.out.below B2.out) (by have := HL.out; omega)).mono ?_); rintro e3 w3 ⟨h3, d3⟩; (obtain ⟨k, rfl, hk, hkl⟩ := h3.resolve_right (fun hh => hh.2 HM.out)); have hk0 : decide ((k : Int) < 0) = false := decide_eq_false (by omega); have HK1 := Aside0.mk hk; have HKL := Aside0.mk hkl; have B3 := Aside0.mk (below_step B2.out d3.below); clear d3 h3 hk hkl)))
  have HR0 : Aside0 (CutR w w3 r n A c l ((i : Int), (j : Int)) 0 (.slice none 0 0)) := ⟨⟨B3.out, Kd.R_nil _ _ _ _ _⟩⟩
  go_loopg [8, 9] (N + 1) (fun kq v8 v9 w' => ∃ m : Nat, v9 = .int .i64 (m : Int) ∧ Aside0 (kq + m = N + 1) ∧ Aside0 (m ≤ N) ∧ Aside0 (CutR w w' r n A c l ((i : Int), (j : Int)) m v8))
  case atStart => exact ⟨0, rfl, ⟨rfl⟩, ⟨Nat.zero_le _⟩, HR0⟩
  case round =>
    clear HR0
    obtain ⟨m, rfl, HK, HJ, HR⟩ := hrel
    have hv := H.out.below HR.out.low
    have c1 := hv.c1
    rw [← HN.out] at c1
    cases gk with
    | zero => exact absurd HK.out (by have := HJ.out; omega)
    | succ k1 =>
      by_cases hlt : m < N
      · have hc0 : (0 : Int) ≤ (m : Int) := by omega
        have hcn : (m : Int) < (N : Int) := by omega
        have HW3 : Aside0 (wrap64 ((m : Int) + 1) = ((m + 1 : Nat) : Int)) := ⟨wrap_up m N (by omega) (by have := HLN.out; omega)⟩
        have hil : m < l.length := by rw [← HN.out]; exact hlt
        obtain ⟨g, hA, hx, hy⟩ := hv.at_ (i := m) hil
        subst hA
        have hst := less_step (p := ((i : Int), (j : Int))) hil
        have hke : l[m] = ((i : Int), (j : Int)) ↔ m = k := by
          have hk1 := HK1.out
          have hkk : l[k] = ((i : Int), (j : Int)) := by have := HKL.out; rw [List.getElem?_eq_getElem hk1] at this; exact Option.some.inj this
          constructor
          · intro e
            rw [← hkk] at e
            exact (List.getElem_inj H.out.nd).1 e
          · intro e
            subst e
            exact hkk
        obtain ⟨p, hp⟩ : ∃ p, l[m] = p := ⟨_, rfl⟩
        rw [hp] at hx hy hst hke
        obtain ⟨p1, p2⟩ := p
        by_cases hmk : m = k
        · rw [if_pos (hke.2 hmk), List.append_nil] at hst
          have HST := Aside0.mk hst
          have dmk : decide ((m : Int) = (k : Int)) = true := decide_eq_true (by omega)
          have dmk3 : ((m : Int) != (k : Int)) = false := by simp; omega
          clear hst hke hp hil hv hmk
          go_wp2
          go_roundg k1
          case measure => omega
          case rel => exact ⟨m + 1, by first | rfl | (rw [← HW3.out]), ⟨by have := HK.out; omega⟩, ⟨by omega⟩, ⟨⟨HR.out.low, by rw [HST.out]; exact HR.out.row⟩⟩⟩
        · rw [if_neg (fun e => hmk (hke.1 e))] at hst
          have HST := Aside0.mk hst
          have dmk : decide ((m : Int) = (k : Int)) = false := decide_eq_false (by omega)
          have dmk3 : ((m : Int) != (k : Int)) = true := by simp; omega
          have hle : (less (l.take m) ((i : Int), (j : Int))).length ≤ m := Nat.le_trans (List.length_filter_le _ _) (by rw [List.length_take]; omega)
          have HLE := Aside0.mk hle
          have hx : wr.cell? ⟨g, m * 2, none⟩ = some (.int .i64 p1) := hx
          have hy : wr.cell? ⟨g, m * 2 + 1, none⟩ = some (.int .i64 p2) := hy
          clear hst hke hp hil hv hmk hle
          obtain ⟨A8, c8, e8⟩ := Kd.R_slice HR.out.row
          subst e8
          go_wp2_with ((with_reducible refine gate_builtin (b := .append) (xs := #[.tmp 40, .tmp 48]) rfl ?_); at_builtin; go_loud (refine Kd.R_append LK (w0 := w) w.heap.size rfl (.tmp 40) (.tmp 48) 77 81 (.agg #[.int .i64 0, .int .i64 0]) 16 rfl Tryd.underlying77 infoL rfl (by decide) (by omega) (.slice A8 (less (l.take m) ((i : Int), (j : Int))).length c8) (less (l.take m) ((i : Int), (j : Int))) (p1, p2) [.int .i64 p1, .int .i64 p2] (fun _ => True) (fun _ => False) rfl rfl ?aP (fun _ hk => hk.elim) ?aF ?aO ?aB ?aS ?aL ?_); (case aP => exact ⟨[_], [_], rfl, rfl, rfl⟩); (case aF => exact (fun _ _ => trivial)); (case aO => exact HR.out.row); (case aB => exact HR.out.low); (case aS => exact HR.out.low.size); (case aL => have h1 := HLE.out; have h2 := HLN.out; omega); intro v4 w4 ho hb hg hat; (rw [← HST.out] at ho); have HO := Aside0.mk ho; have HB := Aside0.mk hb; clear ho hb hg hat)
          go_roundg k1
          case measure => omega
          case rel => exact ⟨m + 1, by first | rfl | (rw [← HW3.out]), ⟨by have := HK.out; omega⟩, ⟨by omega⟩, ⟨⟨HB.out, HO.out⟩⟩⟩
      · have hjn : m = N := by have := HJ.out; omega
        subst hjn
        have hd : decide ((m : Int) < (m : Int)) = false := decide_eq_false (by omega)
        have hrow := HR.out.row
        rw [HN.out, List.take_length] at hrow
        have hge := (Kd.R_base hrow)
        obtain ⟨A5, c5, e5, h5⟩ := hv.put (T := fun _ => False) (Kept.refl _ _) (fun h => h) (Kd.R_lower hrow (Nat.zero_le _)) (fun b hb e => by have h1 := hge b hb; have h2 := H.out.lt_r; omega) (fun p hp => hv.hz p (List.mem_filter.1 hp).1) (hv.nd.filter _)
        have f14 := blk_frozen hv.top 1
        subst e5
        have H5 := Aside0.mk h5
        have HGE := Aside0.mk hge
        clear hv hrow h5 hge
        go_wp2
        go_ret
        exact ⟨rfl, .inr ⟨r, A5, c5, _, rfl, H5.out, says_cut HS.out i j, .inl s1, fun b hb => .inr (HGE.out b hb)⟩, (Fr.of_below HR.out.low S).then_ (Fr.set (g := r) 1 _) (fun k hk => .inl (by rw [hk]; exact s1))⟩
theorem rcut_calls (S : Nat → Prop) (w : World) (v : Value) (n : Nat) (L : Nat → Nat → Bool) (a b : Int) (h : RX S w v n L) :
    Calls Tryd.prog 39 #[v, .int .i64 a, .int .i64 b] w fun e w' => e = .returned (.int .i64 (cutA n L a b)) ∧ RX (More S w) w' v n (cutT n L a b) ∧ Fr w w' S := by
  have hx := h
  rcases h with ⟨rfl, rfl⟩ | ⟨r, A, c, l, rfl, h, hs, s1, s2⟩
  · refine (rcut_nil w a b).mono ?_
    rintro e w' ⟨rfl, rfl⟩
    exact ⟨rfl, .inl ⟨rfl, rfl⟩, Fr.refl _ _⟩
  · have hn1 := h.n1
    by_cases hab : (okG n a && okG n b) = true
    · have hab' := hab
      rw [Bool.and_eq_true] at hab'
      obtain ⟨i, rfl, hi⟩ := okG_nat hab'.1
      obtain ⟨j, rfl, hj⟩ := okG_nat hab'.2
      by_cases hL : L i j = true
      · have eT : cutT n L (i : Int) (j : Int) = cutL L i j := by unfold cutT; rw [hab, Int.toNat_natCast, Int.toNat_natCast, hL]; rfl
        have eA : cutA n L (i : Int) (j : Int) = 0 := by unfold cutA; rw [if_neg (by omega), if_pos hab, Int.toNat_natCast, Int.toNat_natCast, if_pos hL]
        rw [eT, eA]
        exact rcut_there S w r n A c l L i j h hs s1 hi hj hL
      · have hL' : L i j = false := by simpa using hL
        have eT : cutT n L (i : Int) (j : Int) = L := by unfold cutT; rw [hab, Int.toNat_natCast, Int.toNat_natCast, hL']; rfl
        have eA : cutA n L (i : Int) (j : Int) = 121 := by unfold cutA; rw [if_neg (by omega), if_pos hab, Int.toNat_natCast, Int.toNat_natCast, if_neg hL]
        rw [eT, eA]
        refine (rcut_absent w r n A c l i j h hi hj (fun hm => hL ((hs i j).2 hm))).mono ?_
        rintro e w' ⟨rfl, d⟩
        exact ⟨rfl, (hx.below d).mono (fun _ hk => .inl hk), Fr.of_below d S⟩
    · have hab' : (okG n a && okG n b) = false := by simpa using hab
      have eT : cutT n L a b = L := by unfold cutT; rw [hab']; rfl
      have eA : cutA n L a b = 2 := by unfold cutA; rw [if_neg (by omega), if_neg hab]
      rw [eT, eA]
      refine (rcut_bad w r n A c l a b h hab').mono ?_
      rintro e w' ⟨rfl, d⟩
      exact ⟨rfl, (hx.below d).mono (fun _ hk => .inl hk), Fr.of_below d S⟩
end Go.Proofs.YtmldefednihohaaDoor.Grp
