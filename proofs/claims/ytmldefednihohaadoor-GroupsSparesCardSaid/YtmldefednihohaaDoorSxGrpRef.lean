/- The reference's index: a block and a row of links; Group, linked, New (plain walks). -/
import Derived.Test.YtmldefednihohaaDoorSxGrpCount
namespace Go.Proofs.YtmldefednihohaaDoor.Grp
open Go.RowKit Go.Proofs.YtmldefednihohaaDoorW.PrintWords Go.Proofs.YtmldefednihohaaDoorW.PrintLast Go.Proofs.YtmldefednihohaaDoorW.PrintMore
set_option linter.unusedVariables false
set_option linter.unusedSimpArgs false
set_option maxRecDepth 100000
abbrev LK : Kd (Int × Int) := Kd.pair (Kd.int .i64) (Kd.int .i64)
theorem infoL : (Tryd.prog.info? 81).map (fun i => (i.zero, i.size, i.bytes)) = some (some (.agg #[.int .i64 0, .int .i64 0]), 2, 16) := by kernel_rfl
/-- The reference's index in block r. -/
structure RvAt (w : World) (r n : Nat) (A : Option Addr) (c : Nat) (l : List (Int × Int)) : Prop where
  top : w.heap[r]? = some (.cells #[.int .i64 (n : Int), .slice A l.length c] 79 (0, 0))
  row : LK.R 81 w 0 (fun _ => True) (.slice A l.length c) l
  hz : ∀ p, p ∈ l → 0 ≤ p.1 ∧ p.1 < (n : Int) ∧ 0 ≤ p.2 ∧ p.2 < (n : Int)
  nd : l.Nodup
  n1 : 1 ≤ n
  n4 : n ≤ 4096
section
variable {w w' : World} {r n c : Nat} {A : Option Addr} {l : List (Int × Int)}
theorem RvAt.c0 (h : RvAt w r n A c l) : w.cell? ⟨r, 0, none⟩ = some (.int .i64 (n : Int)) := by rw [blk_cell h.top]; rfl
theorem RvAt.c1 (h : RvAt w r n A c l) : w.cell? ⟨r, 1, none⟩ = some (.slice A l.length c) := by rw [blk_cell h.top]; rfl
theorem RvAt.lt_r (h : RvAt w r n A c l) : r < w.heap.size := blk_lt h.top
theorem RvAt.own (h : RvAt w r n A c l) : ∀ b, (Value.slice A l.length c).ownBlock = some b → b < w.heap.size ∧ b ≠ r := fun b hb => by
  obtain ⟨inner, ho⟩ := Kd.R_own h.row
  refine ⟨own_lt ho b hb, fun e => ?_⟩
  subst e
  exact Kd.R_ne h.row h.top (by decide) hb.symm
theorem RvAt.kept {S T : Nat → Prop} (h : RvAt w r n A c l) (hk : Kept w w' T) (hr : ¬ T r) (hb : ∀ b, (Value.slice A l.length c).ownBlock = some b → ¬ T b) : RvAt w' r n A c l :=
  { h with top := blk_kept h.top hk hr
           row := Kd.R_mono (Kd.R_kept (Kd.R_tight rfl h.row) hk fun b hb' => hb b hb'.symm) (fun _ _ => trivial) }
theorem RvAt.below (h : RvAt w r n A c l) (hb : Below w.heap.size w w') : RvAt w' r n A c l :=
  h.kept (S := fun _ => False) (Kept.of_below hb (fun _ => False)) (fun h => h) (fun _ _ h => h)
/-- A link's two cells. -/
theorem RvAt.at_ (h : RvAt w r n A c l) {i : Nat} (hi : i < l.length) : ∃ g, A = some ⟨g, 0, none⟩ ∧ w.cell? ⟨g, i * 2, none⟩ = some (.int .i64 (l[i]).1) ∧ w.cell? ⟨g, i * 2 + 1, none⟩ = some (.int .i64 (l[i]).2) := by
  obtain ⟨g, cap, hv, _⟩ := Kd.R_form h.row (by omega)
  obtain ⟨rfl, _, _⟩ := Value.slice.inj hv
  obtain ⟨_, _, hC⟩ := Kd.R_reads' h.row
  obtain ⟨ad, cs, had, hlen, hK, hat⟩ := Kd.C_get hC (0, 0) (i : Int) (by omega) (by omega)
  obtain rfl := Option.some.inj had
  rw [Int.toNat_natCast] at hK hat
  have hg : l.getD i (0, 0) = l[i] := by simp [List.getD_eq_getElem?_getD, hi]
  rw [hg] at hK
  obtain ⟨c0, c1, rfl, h0, h1⟩ := hK
  have h0 : c0 = [.int .i64 (l[i]).1] := h0
  have h1 : c1 = [.int .i64 (l[i]).2] := h1
  subst h0 h1
  have a0 := hat 0 _ rfl
  have a1 := hat 1 _ rfl
  have hsz : LK.sz = 2 := rfl
  rw [hsz] at a0 a1
  have e : ∀ j, (⟨g, 0, none⟩ : Addr).add j = ⟨g, j, none⟩ := fun j => by unfold Addr.add; split <;> simp_all
  rw [e] at a0 a1
  exact ⟨g, rfl, a0, a1⟩
end
set_option maxHeartbeats 2000000 in
theorem rgroup_calls (w : World) (r n : Nat) (A : Option Addr) (c : Nat) (l : List (Int × Int)) (a : Int) (x : Bool) (h : RvAt w r n A c l) (hx : okG n a = x) :
    Calls Tryd.prog 42 #[.pointer (some ⟨r, 0, none⟩), .int .i64 a] w fun e w' => e = .returned (.bool x) ∧ Drawn0 w w' := by
  have c0 := h.c0
  clear h
  subst hx
  unfold okG
  by_cases h0 : 0 ≤ a
  · by_cases h1 : a < (n : Int)
    · have e : decide (0 ≤ a ∧ a < (n : Int)) = true := decide_eq_true ⟨h0, h1⟩
      have d0 : decide (a ≥ 0) = true := decide_eq_true h0
      have d1 : decide (a < (n : Int)) = true := decide_eq_true h1
      rw [e]
      go_enter Tryd.func42, Tryd.ntmps42
      go_wp2
      go_ret
      exact ⟨rfl, Drawn0.refl _⟩
    · have e : decide (0 ≤ a ∧ a < (n : Int)) = false := decide_eq_false (fun h => h1 h.2)
      have d0 : decide (a ≥ 0) = true := decide_eq_true h0
      have d1 : decide (a < (n : Int)) = false := decide_eq_false h1
      rw [e]
      go_enter Tryd.func42, Tryd.ntmps42
      go_wp2
      go_ret
      exact ⟨rfl, Drawn0.refl _⟩
  · have e : decide (0 ≤ a ∧ a < (n : Int)) = false := decide_eq_false (fun h => h0 h.1)
    have d0 : decide (a ≥ 0) = false := decide_eq_false h0
    rw [e]
    go_enter Tryd.func42, Tryd.ntmps42
    go_wp2
    go_ret
    exact ⟨rfl, Drawn0.refl _⟩
theorem rgroup_nil (w : World) (a : Int) : Calls Tryd.prog 42 #[.pointer none, .int .i64 a] w fun e w' => e = .returned (.bool false) ∧ w' = w := by
  go_enter Tryd.func42, Tryd.ntmps42
  go_wp2
  go_ret
  exact ⟨rfl, rfl⟩
set_option maxHeartbeats 2000000 in
theorem rnew_calls (w : World) (a : Int) :
    Calls Tryd.prog 37 #[.int .i64 a] w fun e w' => ∃ v, e = .returned (.tuple #[v, .int .i64 (if most a = 0 then 2 else 0)]) ∧ ((most a = 0 ∧ v = .pointer none) ∨ ∃ r, v = .pointer (some ⟨r, 0, none⟩) ∧ w.heap.size ≤ r ∧ RvAt w' r (most a) none 0 []) ∧ Below w.heap.size w w' := by
  by_cases h : 1 ≤ a ∧ a ≤ 4096
  · obtain ⟨n, rfl⟩ : ∃ n : Nat, a = (n : Int) := ⟨a.toNat, by omega⟩
    have em : most (n : Int) = n := by unfold most; rw [if_pos h, Int.toNat_natCast]
    rw [em, if_neg (by omega)]
    have HN := Aside0.mk h
    have d1 : decide ((n : Int) < 1) = false := decide_eq_false (by omega)
    have d2 : decide ((n : Int) > 4096) = false := decide_eq_false (by omega)
    have d3 : decide (4096 < (n : Int)) = false := decide_eq_false (by omega)
    clear h em
    go_enter Tryd.func37, Tryd.ntmps37
    go_wp2
    go_ret2
    refine ⟨_, rfl, .inr ⟨_, rfl, Nat.le_refl _, ?_⟩, below_alloc (Below.refl _ _) _⟩
    exact { top := heap_alloc_new _ _, row := Kd.R_nil _ _ _ _ _, hz := fun p hp => (by cases hp), nd := List.nodup_nil, n1 := by have := HN.out; omega, n4 := by have := HN.out; omega }
  · have em : most a = 0 := by unfold most; rw [if_neg h]
    rw [em, if_pos rfl]
    rcases (show a < 1 ∨ 4096 < a by omega) with hn | hn
    · clear h em
      go_enter Tryd.func37, Tryd.ntmps37
      go_wp2
      go_ret2
      exact ⟨_, rfl, .inl ⟨by first | rfl | trivial, rfl⟩, Below.refl _ _⟩
    · have d1 : decide (a < 1) = false := decide_eq_false (by omega)
      clear h em
      go_enter Tryd.func37, Tryd.ntmps37
      go_wp2
      go_ret2
      exact ⟨_, rfl, .inl ⟨by first | rfl | trivial, rfl⟩, Below.refl _ _⟩
set_option maxHeartbeats 4000000 in
theorem rlinked_calls (w : World) (r n : Nat) (A : Option Addr) (c : Nat) (l : List (Int × Int)) (a b : Int) (h : RvAt w r n A c l) (hl : l.length ≤ 20000000) :
    Calls Tryd.prog 49 #[.pointer (some ⟨r, 0, none⟩), .int .i64 a, .int .i64 b] w fun e w' => ((∃ i : Nat, e = .returned (.int .i64 (i : Int)) ∧ i < l.length ∧ l[i]? = some (a, b)) ∨ (e = .returned (.int .i64 (-1)) ∧ (a, b) ∉ l)) ∧ Drawn0 w w' := by
  have c1 := h.c1
  have H := Aside0.mk h
  have HL := Aside0.mk hl
  obtain ⟨N, hN⟩ : ∃ N, N = l.length := ⟨_, rfl⟩
  rw [← hN] at c1
  have HN := Aside0.mk hN
  have HLN : Aside0 (N ≤ 20000000) := ⟨by omega⟩
  clear h hl hN
  go_enter Tryd.func49, Tryd.ntmps49
  go_wp2
  go_loopg [7] (N + 1) (fun kq v7 w' => ∃ (i m : Nat), v7 = .int .i64 (i : Int) ∧ Aside0 (kq + i = N + 1) ∧ Aside0 (i ≤ N) ∧ Aside0 (∀ j, j < i → l[j]? ≠ some (a, b)) ∧ w' = w.drewN m)
  case atStart => exact ⟨0, 0, rfl, ⟨rfl⟩, ⟨Nat.zero_le _⟩, ⟨fun j hj => absurd hj (by omega)⟩, rfl⟩
  case round =>
    obtain ⟨i, m, rfl, HK, HJ, HF, rfl⟩ := hrel
    cases gk with
    | zero => exact absurd HK.out (by have := HJ.out; omega)
    | succ k1 =>
      by_cases hlt : i < N
      · have hc0 : (0 : Int) ≤ (i : Int) := by omega
        have hcn : (i : Int) < (N : Int) := by omega
        have HW3 : Aside0 (wrap64 ((i : Int) + 1) = ((i + 1 : Nat) : Int)) := ⟨wrap_up i N (by omega) (by have := HLN.out; omega)⟩
        obtain ⟨g, hA, hx, hy⟩ := H.out.at_ (i := i) (by rw [← HN.out]; exact hlt)
        subst hA
        obtain ⟨p, hp⟩ : ∃ p, l[i]? = some p := ⟨_, List.getElem?_eq_getElem (by rw [← HN.out]; exact hlt)⟩
        have hp2 : l[i]'(by rw [← HN.out]; exact hlt) = p := by rw [List.getElem?_eq_getElem (by rw [← HN.out]; exact hlt)] at hp; exact Option.some.inj hp
        rw [hp2] at hx hy
        have HP := Aside0.mk hp
        obtain ⟨p1, p2⟩ := p
        have hx : w.cell? ⟨g, i * 2, none⟩ = some (.int .i64 p1) := hx
        have hy : w.cell? ⟨g, i * 2 + 1, none⟩ = some (.int .i64 p2) := hy
        clear hp hp2
        go_wp2
        all_goals (first
          | (go_ret
             exact ⟨.inl ⟨i, rfl, by rw [← HN.out]; exact hlt, by rw [HP.out]; congr 2⟩, ⟨⟨_, rfl⟩⟩⟩)
          | (have hne : ¬ (p1 = a ∧ p2 = b) := by rintro ⟨h1, h2⟩; contradiction
             go_roundg k1
             case measure => omega
             case rel => exact ⟨i + 1, _, by first | rfl | (rw [← HW3.out]), ⟨by have := HK.out; omega⟩, ⟨by omega⟩, ⟨fun j hj => by
               by_cases e : j = i
               · subst e
                 rw [HP.out]
                 intro hh
                 exact hne (Prod.mk.inj (Option.some.inj hh))
               · exact HF.out j (by omega)⟩, by first | rfl | exact World.drewN_drewN ..⟩))
      · have hjn : i = N := by have := HJ.out; omega
        subst hjn
        have hd : decide ((i : Int) < (i : Int)) = false := decide_eq_false (by omega)
        go_wp2
        go_ret
        refine ⟨.inr ⟨rfl, fun hm => ?_⟩, ⟨⟨_, rfl⟩⟩⟩
        obtain ⟨j, hj, e⟩ := List.getElem_of_mem hm
        exact HF.out j (by rw [HN.out]; exact hj) (by rw [List.getElem?_eq_getElem hj, e])
end Go.Proofs.YtmldefednihohaaDoor.Grp
