/- The reference's Add (a plain walk). -/
import Derived.Test.YtmldefednihohaaDoorPxGrpRefPa
namespace Go.Proofs.YtmldefednihohaaDoor.Grp
open Go.RowKit Go.Proofs.YtmldefednihohaaDoorW.PrintWords Go.Proofs.YtmldefednihohaaDoorW.PrintLast Go.Proofs.YtmldefednihohaaDoorW.PrintMore
set_option linter.unusedVariables false
set_option linter.unusedSimpArgs false
set_option maxRecDepth 100000
theorem RvAt.put {w W : World} {r n c : Nat} {A : Option Addr} {l l' : List (Int × Int)} {T : Nat → Prop} {v1 : Value} (h : RvAt w r n A c l) (hk : Kept w W T) (hT : ¬ T r)
    (ho : LK.R 81 W 0 (fun _ => True) v1 l') (hn : ∀ b, v1.ownBlock = some b → b ≠ r) (hz : ∀ p, p ∈ l' → 0 ≤ p.1 ∧ p.1 < (n : Int) ∧ 0 ≤ p.2 ∧ p.2 < (n : Int)) (nd : l'.Nodup) :
    ∃ A' c', v1 = .slice A' l'.length c' ∧ RvAt (W.setCell ⟨r, 1, none⟩ v1) r n A' c' l' := by
  have ht := blk_kept h.top hk hT
  have hs := blk_set ht 1 v1
  have hr : LK.R 81 (W.setCell ⟨r, 1, none⟩ v1) 0 (fun _ => True) v1 l' := Kd.R_mono (Kd.R_far (Kd.R_tight rfl ho) (p := ⟨r, 1, none⟩) (fun k hk => hn k hk.symm) v1) (fun _ _ => trivial)
  obtain ⟨A', c', rfl⟩ := Kd.R_slice ho
  exact ⟨A', c', rfl, { top := hs, row := hr, hz := hz, nd := nd, n1 := h.n1, n4 := h.n4 }⟩
theorem says_add {l : List (Int × Int)} {L : Nat → Nat → Bool} (h : Says l L) (i j : Nat) : Says (l ++ [((i : Int), (j : Int))]) (addL L i j) := fun a b => by
  rw [addL_iff, List.mem_append, h a b]
  simp only [List.mem_singleton, Prod.mk.injEq]
  constructor
  · rintro (h | ⟨h1, h2⟩)
    · exact .inl h
    · exact .inr ⟨by omega, by omega⟩
  · rintro (h | ⟨h1, h2⟩)
    · exact .inl h
    · exact .inr ⟨by omega, by omega⟩
theorem RvAt.grow {w3 w4 : World} {r n c i j : Nat} {A : Option Addr} {l : List (Int × Int)} {v4 : Value} (h : RvAt w3 r n A c l) (hi : i < n) (hj : j < n) (hnm : ((i : Int), (j : Int)) ∉ l)
    (ho : LK.R 81 w4 0 (fun _ => True) v4 (l ++ [((i : Int), (j : Int))])) (hg : w3.grownBy w4 (Value.slice A l.length c).ownBlock) (hat : v4.ownBlock = (Value.slice A l.length c).ownBlock ∨ ∃ b, v4.ownBlock = some b ∧ w3.heap.size ≤ b) :
    ∃ A5 c5, v4 = .slice A5 (l ++ [((i : Int), (j : Int))]).length c5 ∧ RvAt (w4.setCell ⟨r, 1, none⟩ v4) r n A5 c5 (l ++ [((i : Int), (j : Int))]) ∧ w4.cell? ⟨r, 1, none⟩ = some (.slice A l.length c) ∧ w4.frozen? ⟨r, 1, none⟩ = false ∧
      Fr w3 (w4.setCell ⟨r, 1, none⟩ v4) (fun k => k = r ∨ (Value.slice A l.length c).ownBlock = some k) ∧ ∀ b, v4.ownBlock = some b → (Value.slice A l.length c).ownBlock = some b ∨ w3.heap.size ≤ b := by
  have how : ∀ b, v4.ownBlock = some b → (Value.slice A l.length c).ownBlock = some b ∨ w3.heap.size ≤ b := by
    intro b hb
    rcases hat with hat | ⟨k, hk, hge⟩
    · exact .inl (by rw [← hat, hb])
    · rw [hb] at hk
      have := Option.some.inj hk
      exact .inr (by omega)
  have hnr : (Value.slice A l.length c).ownBlock ≠ some r := fun e => (h.own r e).2 rfl
  have hne : ∀ b, v4.ownBlock = some b → b ≠ r := by
    intro b hb e
    subst e
    rcases how b hb with hh | hh
    · exact hnr hh
    · have := h.lt_r; omega
  obtain ⟨A5, c5, e5, h5⟩ := h.put (fr_grown hg).2 hnr ho hne (fun p hp => by
    rcases List.mem_append.1 hp with hp | hp
    · exact h.hz p hp
    · rw [List.mem_singleton.1 hp]
      exact ⟨by show (0 : Int) ≤ (i : Int); omega, by show (i : Int) < (n : Int); omega, by show (0 : Int) ≤ (j : Int); omega, by show (j : Int) < (n : Int); omega⟩) (List.nodup_append.2 ⟨h.nd, by simp, fun p hp q hq e => hnm (by rw [List.mem_singleton.1 hq] at e; rw [← e]; exact hp)⟩)
  have t4 := blk_kept h.top (fr_grown hg).2 hnr
  refine ⟨A5, c5, e5, h5, (by rw [blk_cell t4 1]; rfl), blk_frozen t4 1, (Fr.then_ (S := fun k => k = r ∨ (Value.slice A l.length c).ownBlock = some k) ⟨(fr_grown hg).1, (fr_grown hg).2.mono fun k hk => .inr hk⟩ (Fr.set (g := r) 1 v4) (fun k hk => .inl (.inl hk))), how⟩
set_option maxHeartbeats 8000000 in
theorem radd_new (S : Nat → Prop) (w : World) (r n : Nat) (A : Option Addr) (c : Nat) (l : List (Int × Int)) (L : Nat → Nat → Bool) (i j : Nat) (h : RvAt w r n A c l) (hs : Says l L) (s1 : S r) (s2 : ∀ b, (Value.slice A l.length c).ownBlock = some b → S b) (hi : i < n) (hj : j < n) (hL : L i j = false) :
    Calls Tryd.prog 38 #[.pointer (some ⟨r, 0, none⟩), .int .i64 (i : Int), .int .i64 (j : Int)] w fun e w' => e = .returned (.int .i64 0) ∧ RX (More S w) w' (.pointer (some ⟨r, 0, none⟩)) n (addL L i j) ∧ Fr w w' S := by
  have H := Aside0.mk h
  have HL := Aside0.mk (lenL h)
  have HI := Aside0.mk hi
  have HJ := Aside0.mk hj
  have HNI : Aside0 (((i : Int), (j : Int)) ∉ l) := ⟨fun hm => by rw [(hs i j).2 hm] at hL; cases hL⟩
  have HS := Aside0.mk hs
  have HXA : Aside0 (okG n (i : Int) = true) := ⟨decide_eq_true (by omega)⟩
  have HXB : Aside0 (okG n (j : Int) = true) := ⟨decide_eq_true (by omega)⟩
  clear h hs hi hj hL
  go_enter Tryd.func38, Tryd.ntmps38
  go_wp2_with (first
    | (go_at_call 42; ((with_reducible refine (rgroup_calls w r n A c l (i : Int) true H.out HXA.out).mono ?_); rintro e1 w1 ⟨rfl, d1⟩; have B1 := Aside0.mk d1.below; clear d1))
    | (go_at_call 42; ((with_reducible refine (rgroup_calls w1 r n A c l (j : Int) true (H.out.below B1.out) HXB.out).mono ?_); rintro e2 w2 ⟨rfl, d2⟩; have B2 := Aside0.mk (below_step B1.out d2.below); clear d2))
    | (go_at_call 49; ((with_reducible refine (rlinked_calls w2 r n A c l (i : Int) (j : Int) (H.out.below B2.out) (by have := HL.out; omega)).mono ?_); rintro e3 w3 ⟨h3, d3⟩; (obtain rfl := (h3.resolve_left (fun ⟨k, _, hk, hkl⟩ => HNI.out (List.mem_of_getElem? hkl))).1); have B3 := Aside0.mk (below_step B2.out d3.below); have H3 := Aside0.mk (H.out.below B3.out); have c1 := H3.out.c1; clear d3 h3))
    | ((with_reducible refine gate_builtin (b := .append) (xs := #[.tmp 28, .tmp 32]) rfl ?_); at_builtin; go_loud (refine Kd.R_append LK (w0 := w3) 0 rfl (.tmp 28) (.tmp 32) 77 81 (.agg #[.int .i64 0, .int .i64 0]) 16 rfl Tryd.underlying77 infoL rfl (by decide) (by omega) (.slice A l.length c) l ((i : Int), (j : Int)) [.int .i64 (i : Int), .int .i64 (j : Int)] (fun _ => True) (fun _ => False) rfl rfl ?aP (fun _ hk => hk.elim) ?aF ?aO ?aB ?aS ?aL ?_); (case aP => exact ⟨[_], [_], rfl, rfl, rfl⟩); (case aF => exact (fun _ _ => trivial)); (case aO => exact H3.out.row); (case aB => exact ⟨rfl, rfl, rfl, Nat.le_refl _, fun _ _ => rfl⟩); (case aS => exact Nat.zero_le _); (case aL => have := HL.out; omega); intro v4 w4 ho hb hg hat; (obtain ⟨A5, c5, e5, h5, c14, f14, F5, OW⟩ := H3.out.grow HI.out HJ.out HNI.out ho hg hat); subst e5; (rw [List.length_append, List.length_singleton] at h5 F5); have H5 := Aside0.mk h5; have OW := Aside0.mk OW; have F5 := Aside0.mk F5; clear ho hb hg hat h5))
  go_ret
  exact ⟨rfl, .inr ⟨r, A5, c5, _, rfl, H5.out, says_add HS.out i j, .inl s1, fun b hb => (OW.out b hb).elim (fun e => .inl (s2 b e)) (fun e => .inr (Nat.le_trans B3.out.size e))⟩, Fr.then_ (T := fun k => k = r ∨ (Value.slice A l.length c).ownBlock = some k) (Fr.of_below B3.out S) F5.out (fun k hk => hk.elim (fun e => .inl (by rw [e]; exact s1)) (fun e => .inl (s2 k e)))⟩
theorem radd_nil (w : World) (a b : Int) : Calls Tryd.prog 38 #[.pointer none, .int .i64 a, .int .i64 b] w fun e w' => e = .returned (.int .i64 1) ∧ w' = w := by
  go_enter Tryd.func38, Tryd.ntmps38
  go_wp2
  go_ret
  exact ⟨rfl, rfl⟩
set_option maxHeartbeats 4000000 in
theorem radd_bad (w : World) (r n : Nat) (A : Option Addr) (c : Nat) (l : List (Int × Int)) (a b : Int) (h : RvAt w r n A c l) (hb : (okG n a && okG n b) = false) :
    Calls Tryd.prog 38 #[.pointer (some ⟨r, 0, none⟩), .int .i64 a, .int .i64 b] w fun e w' => e = .returned (.int .i64 2) ∧ Below w.heap.size w w' := by
  obtain ⟨xa, hxa⟩ : ∃ xa, okG n a = xa := ⟨_, rfl⟩
  have H := Aside0.mk h
  have HXA := Aside0.mk hxa
  rw [hxa] at hb
  cases xa with
  | false =>
    clear h hxa hb
    go_enter Tryd.func38, Tryd.ntmps38
    go_wp2_with (go_at_call 42; ((with_reducible refine (rgroup_calls w r n A c l a false H.out HXA.out).mono ?_); rintro e1 w1 ⟨rfl, d1⟩; have B1 := Aside0.mk d1.below; clear d1))
    go_ret
    exact ⟨rfl, B1.out⟩
  | true =>
    have HXB : Aside0 (okG n b = false) := ⟨by simpa using hb⟩
    clear h hxa hb
    go_enter Tryd.func38, Tryd.ntmps38
    go_wp2_with (first
      | (go_at_call 42; ((with_reducible refine (rgroup_calls w r n A c l a true H.out HXA.out).mono ?_); rintro e1 w1 ⟨rfl, d1⟩; have B1 := Aside0.mk d1.below; clear d1))
      | (go_at_call 42; ((with_reducible refine (rgroup_calls w1 r n A c l b false (H.out.below B1.out) HXB.out).mono ?_); rintro e2 w2 ⟨rfl, d2⟩; have B2 := Aside0.mk (below_step B1.out d2.below); clear d2)))
    go_ret
    exact ⟨rfl, B2.out⟩
set_option maxHeartbeats 4000000 in
theorem radd_there (w : World) (r n : Nat) (A : Option Addr) (c : Nat) (l : List (Int × Int)) (i j : Nat) (h : RvAt w r n A c l) (hi : i < n) (hj : j < n) (hm : ((i : Int), (j : Int)) ∈ l) :
    Calls Tryd.prog 38 #[.pointer (some ⟨r, 0, none⟩), .int .i64 (i : Int), .int .i64 (j : Int)] w fun e w' => e = .returned (.int .i64 120) ∧ Below w.heap.size w w' := by
  have H := Aside0.mk h
  have HL := Aside0.mk (lenL h)
  have HM := Aside0.mk hm
  have HXA : Aside0 (okG n (i : Int) = true) := ⟨decide_eq_true (by omega)⟩
  have HXB : Aside0 (okG n (j : Int) = true) := ⟨decide_eq_true (by omega)⟩
  clear h hi hj hm
  go_enter Tryd.func38, Tryd.ntmps38
  go_wp2_with (first
    | (go_at_call 42; ((with_reducible refine (rgroup_calls w r n A c l (i : Int) true H.out HXA.out).mono ?_); rintro e1 w1 ⟨rfl, d1⟩; have B1 := Aside0.mk d1.below; clear d1))
    | (go_at_call 42; ((with_reducible refine (rgroup_calls w1 r n A c l (j : Int) true (H.out.below B1.out) HXB.out).mono ?_); rintro e2 w2 ⟨rfl, d2⟩; have B2 := Aside0.mk (below_step B1.out d2.below); clear d2))
    | (go_at_call 49; ((with_reducible refine (rlinked_calls w2 r n A c l (i : Int) (j : Int) (H.out.below B2.out) (by have := HL.out; omega)).mono ?_); rintro e3 w3 ⟨h3, d3⟩; (obtain ⟨k, rfl, _⟩ := h3.resolve_right (fun hh => hh.2 HM.out)); have hk0 : decide ((k : Int) ≥ 0) = true := decide_eq_true (by omega); have B3 := Aside0.mk (below_step B2.out d3.below); clear d3 h3)))
  go_ret
  exact ⟨rfl, B3.out⟩
theorem radd_calls (S : Nat → Prop) (w : World) (v : Value) (n : Nat) (L : Nat → Nat → Bool) (a b : Int) (h : RX S w v n L) :
    Calls Tryd.prog 38 #[v, .int .i64 a, .int .i64 b] w fun e w' => e = .returned (.int .i64 (addA n L a b)) ∧ RX (More S w) w' v n (addT n L a b) ∧ Fr w w' S := by
  have hx := h
  rcases h with ⟨rfl, rfl⟩ | ⟨r, A, c, l, rfl, h, hs, s1, s2⟩
  · refine (radd_nil w a b).mono ?_
    rintro e w' ⟨rfl, rfl⟩
    exact ⟨rfl, .inl ⟨rfl, rfl⟩, Fr.refl _ _⟩
  · have hn1 := h.n1
    by_cases hab : (okG n a && okG n b) = true
    · have hab' := hab
      rw [Bool.and_eq_true] at hab'
      obtain ⟨i, rfl, hi⟩ := okG_nat hab'.1
      obtain ⟨j, rfl, hj⟩ := okG_nat hab'.2
      by_cases hL : L i j = true
      · have eT : addT n L (i : Int) (j : Int) = L := by unfold addT; rw [hab, Int.toNat_natCast, Int.toNat_natCast, hL]; rfl
        have eA : addA n L (i : Int) (j : Int) = 120 := by unfold addA; rw [if_neg (by omega), if_pos hab, Int.toNat_natCast, Int.toNat_natCast, if_pos hL]
        rw [eT, eA]
        refine (radd_there w r n A c l i j h hi hj ((hs i j).1 hL)).mono ?_
        rintro e w' ⟨rfl, d⟩
        exact ⟨rfl, (hx.below d).mono (fun _ hk => .inl hk), Fr.of_below d S⟩
      · have hL' : L i j = false := by simpa using hL
        have eT : addT n L (i : Int) (j : Int) = addL L i j := by unfold addT; rw [hab, Int.toNat_natCast, Int.toNat_natCast, hL']; rfl
        have eA : addA n L (i : Int) (j : Int) = 0 := by unfold addA; rw [if_neg (by omega), if_pos hab, Int.toNat_natCast, Int.toNat_natCast, if_neg hL]
        rw [eT, eA]
        exact radd_new S w r n A c l L i j h hs s1 s2 hi hj hL'
    · have hab' : (okG n a && okG n b) = false := by simpa using hab
      have eT : addT n L a b = L := by unfold addT; rw [hab']; rfl
      have eA : addA n L a b = 2 := by unfold addA; rw [if_neg (by omega), if_neg hab]
      rw [eT, eA]
      refine (radd_bad w r n A c l a b h hab').mono ?_
      rintro e w' ⟨rfl, d⟩
      exact ⟨rfl, (hx.below d).mono (fun _ hk => .inl hk), Fr.of_below d S⟩
end Go.Proofs.YtmldefednihohaaDoor.Grp
