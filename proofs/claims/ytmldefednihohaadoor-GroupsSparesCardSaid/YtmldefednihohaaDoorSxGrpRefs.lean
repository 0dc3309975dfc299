/- The reference's index as a set of links: its answers, Add (plain walks). -/
import Derived.Test.YtmldefednihohaaDoorSxGrpFrom
namespace Go.Proofs.YtmldefednihohaaDoor.Grp
open Go.RowKit Go.Proofs.YtmldefednihohaaDoorW.PrintWords Go.Proofs.YtmldefednihohaaDoorW.PrintLast Go.Proofs.YtmldefednihohaaDoorW.PrintMore
set_option linter.unusedVariables false
set_option linter.unusedSimpArgs false
set_option maxRecDepth 100000
theorem lenL {w : World} {r n : Nat} {A : Option Addr} {c : Nat} {l : List (Int × Int)} (h : RvAt w r n A c l) : l.length ≤ 16777216 := by
  have h1 := nodup_le 16777216 (l.map fun p => p.1.toNat * 4096 + p.2.toNat) (by
    unfold List.Nodup
    rw [List.pairwise_map]
    refine List.Pairwise.imp_of_mem ?_ h.nd
    intro p q hp hq hne he
    have z1 := h.hz p hp
    have z2 := h.hz q hq
    have n4 := h.n4
    refine hne (Prod.ext ?_ ?_)
    · omega
    · omega) (fun x hx => by
    obtain ⟨p, hp, rfl⟩ := List.mem_map.1 hx
    have z1 := h.hz p hp
    have n4 := h.n4
    omega)
  simpa using h1
theorem says_lt {w : World} {r n : Nat} {A : Option Addr} {c : Nat} {l : List (Int × Int)} {L : Nat → Nat → Bool} (h : RvAt w r n A c l) (hs : Says l L) (k x : Nat) (hL : L k x = true) : k < n ∧ x < n := by
  have := h.hz _ ((hs k x).1 hL)
  simp only at this
  omega
/-- The reference's index of n groups (none: 0) of the links L, all its blocks in S. -/
def RX (S : Nat → Prop) (w : World) (v : Value) (n : Nat) (L : Nat → Nat → Bool) : Prop :=
  (n = 0 ∧ v = .pointer none) ∨ ∃ r A c l, v = .pointer (some ⟨r, 0, none⟩) ∧ RvAt w r n A c l ∧ Says l L ∧ S r ∧ ∀ b, (Value.slice A l.length c).ownBlock = some b → S b
section
variable {S T : Nat → Prop} {w w' : World} {v : Value} {n : Nat} {L : Nat → Nat → Bool}
theorem RX.kept (h : RX S w v n L) (hk : Kept w w' T) (hn : ∀ k, S k → ¬ T k) : RX S w' v n L := by
  rcases h with h | ⟨r, A, c, l, rfl, h, hs, s1, s2⟩
  · exact .inl h
  · exact .inr ⟨r, A, c, l, rfl, h.kept (S := S) hk (hn r s1) (fun b hb => hn b (s2 b hb)), hs, s1, s2⟩
theorem RX.below (h : RX S w v n L) (hb : Below w.heap.size w w') : RX S w' v n L := by
  rcases h with h | ⟨r, A, c, l, rfl, h, hs, s1, s2⟩
  · exact .inl h
  · exact .inr ⟨r, A, c, l, rfl, h.below hb, hs, s1, s2⟩
theorem RX.mono (h : RX S w v n L) (hs : ∀ k, S k → T k) : RX T w v n L := by
  rcases h with h | ⟨r, A, c, l, rfl, h, hy, s1, s2⟩
  · exact .inl h
  · exact .inr ⟨r, A, c, l, rfl, h, hy, hs _ s1, fun b hb => hs _ (s2 b hb)⟩
theorem RX.bound (h : RX S w v n L) : RX (fun k => S k ∧ k < w.heap.size) w v n L := by
  rcases h with h | ⟨r, A, c, l, rfl, h, hy, s1, s2⟩
  · exact .inl h
  · exact .inr ⟨r, A, c, l, rfl, h, hy, ⟨s1, h.lt_r⟩, fun b hb => ⟨s2 b hb, (h.own b hb).1⟩⟩
end
theorem listed_go (P : Nat → Bool) (n : Nat) (hn : n ≤ 4096) : ∀ k i, i + k = n → GrpRow.latchkeyref22_listed.l0 (k + 1) (bl P n) (elems P i) (i : Int) = some (elems P n) := by
  have hle : ∀ i, (elems P i).length ≤ i := fun i => by rw [elems_cntF]; exact cntF_le P 0 i
  intro k
  induction k with
  | zero =>
    intro i h
    obtain rfl : i = n := h
    unfold GrpRow.latchkeyref22_listed.l0
    rw [bl_len, if_neg (by omega)]
  | succ k ih =>
    intro i h
    unfold GrpRow.latchkeyref22_listed.l0
    rw [bl_len, if_pos (by omega), if_pos (by omega), bl_rd P (by omega)]
    have hw : wrap64 ((i : Int) + 1) = ((i + 1 : Nat) : Int) := wrap_up i n (by omega) (by omega)
    have ih := ih (i + 1) (by omega)
    cases hP : P i with
    | true =>
      have e : elems P (i + 1) = elems P i ++ [(i : Int)] := by simp only [elems, hP, if_true]
      rw [if_pos rfl, if_pos (by have := hle i; omega), hw, ← e]
      exact ih
    | false =>
      have e : elems P (i + 1) = elems P i := by simp [elems, hP]
      rw [if_neg (by simp), hw, ← e]
      exact ih
theorem rlisted_calls {w w1 : World} {n gb cb : Nat} {P : Nat → Bool} (h : BRel w n gb cb P w1) (hn : n ≤ 4096) :
    Calls Tryd.prog 43 #[.slice (some ⟨gb, 0, none⟩) n cb] w1 fun e w' => ∃ u, e = .returned u ∧ I64.R 3 w' w1.heap.size (fun _ => True) u (elems P n) ∧ Below w1.heap.size w1 w' := by
  have hs := h.row
  rw [show (Value.slice (some ⟨gb, 0, none⟩) n cb) = .slice (some ⟨gb, 0, none⟩) (bl P n).length cb by rw [bl_len]] at hs
  obtain ⟨_, hle, hC⟩ := Kd.R_reads' hs
  have := GrpRow.latchkeyref22_listed.calls (n + 1) (some ⟨gb, 0, none⟩) cb (bl P n) (elems P n) w1 hC hle (listed_go P n hn n 0 (by omega))
  rw [bl_len] at this
  exact this
theorem rgroup_any (S : Nat → Prop) (w : World) (v : Value) (n : Nat) (L : Nat → Nat → Bool) (a : Int) (x : Bool) (h : RX S w v n L) (hx : okG n a = x) :
    Calls Tryd.prog 42 #[v, .int .i64 a] w fun e w' => e = .returned (.bool x) ∧ Drawn0 w w' := by
  rcases h with ⟨rfl, rfl⟩ | ⟨r, A, c, l, rfl, h, hs, s1, s2⟩
  · refine (rgroup_nil w a).mono ?_
    rintro e w' ⟨rfl, rfl⟩
    rw [okG_none] at hx
    subst hx
    exact ⟨rfl, Drawn0.refl _⟩
  · exact rgroup_calls w r n A c l a x h hx
/-- What a set of links says of a number, by its list. -/
theorem says_lst {l : List (Int × Int)} {L : Nat → Nat → Bool} (hs : Says l L) (i j : Nat) : L i j = true ↔ ((i : Int), (j : Int)) ∈ l := hs i j
set_option maxHeartbeats 4000000 in
theorem rin_calls (S : Nat → Prop) (w : World) (v : Value) (n : Nat) (L R : Nat → Nat → Bool) (a b : Int) (h : RX S w v n L) (hr : IsR L R) :
    Calls Tryd.prog 40 #[v, .int .i64 a, .int .i64 b] w fun e w' => e = .returned (.bool (inS n R a b)) ∧ Below w.heap.size w w' := by
  obtain ⟨xa, hxa⟩ : ∃ xa, okG n a = xa := ⟨_, rfl⟩
  obtain ⟨xb, hxb⟩ : ∃ xb, okG n b = xb := ⟨_, rfl⟩
  have HXA := Aside0.mk hxa
  have HXB := Aside0.mk hxb
  have H := Aside0.mk h
  unfold inS
  rw [hxa, hxb]
  cases xa with
  | false =>
    clear h hr hxa hxb
    go_enter Tryd.func40, Tryd.ntmps40
    go_wp2_with (go_at_call 42; ((with_reducible refine (rgroup_any S w v n L a false H.out HXA.out).mono ?_); rintro e1 w1 ⟨rfl, d1⟩; have B1 := Aside0.mk d1.below; clear d1))
    go_ret
    exact ⟨rfl, B1.out⟩
  | true =>
    cases xb with
    | false =>
      clear h hr hxa hxb
      go_enter Tryd.func40, Tryd.ntmps40
      go_wp2_with (first
        | (go_at_call 42; ((with_reducible refine (rgroup_any S w v n L a true H.out HXA.out).mono ?_); rintro e1 w1 ⟨rfl, d1⟩; have B1 := Aside0.mk d1.below; clear d1))
        | (go_at_call 42; ((with_reducible refine (rgroup_any S w1 v n L b false (H.out.below B1.out) HXB.out).mono ?_); rintro e2 w2 ⟨rfl, d2⟩; have B2 := Aside0.mk (below_step B1.out d2.below); clear d2)))
      go_ret
      exact ⟨rfl, B2.out⟩
    | true =>
      obtain ⟨i, rfl, hi⟩ := okG_nat hxa
      obtain ⟨j, rfl, hj⟩ := okG_nat hxb
      rcases h with ⟨h0, _⟩ | ⟨r, A, c, l, rfl, h, hs, s1, s2⟩
      · omega
      · have HV := Aside0.mk h
        have HS := Aside0.mk hs
        have HL := Aside0.mk (lenL h)
        have HI := Aside0.mk hi
        have HJ := Aside0.mk hj
        have HR := Aside0.mk hr
        have hj0 : (0 : Int) ≤ (j : Int) := by omega
        have hjn : (j : Int) < (n : Int) := by omega
        clear h hs hr hxa hxb hi hj
        rw [Int.toNat_natCast, Int.toNat_natCast, Bool.and_self, Bool.true_and]
        go_enter Tryd.func40, Tryd.ntmps40
        go_wp2_with (first
          | (go_at_call 42; ((with_reducible refine (rgroup_any S w _ n L (i : Int) true H.out HXA.out).mono ?_); rintro e1 w1 ⟨rfl, d1⟩; have B1 := Aside0.mk d1.below; clear d1))
          | (go_at_call 42; ((with_reducible refine (rgroup_any S w1 _ n L (j : Int) true (H.out.below B1.out) HXB.out).mono ?_); rintro e2 w2 ⟨rfl, d2⟩; have B2 := Aside0.mk (below_step B1.out d2.below); clear d2))
          | (go_at_call 44; ((with_reducible refine (rfrom_calls w2 r n A c l L i (HV.out.below B2.out) HS.out HI.out (by have := HL.out; omega)).mono ?_); rintro e3 w3 ⟨gb, cb, P, rfl, hB, hP⟩; have B3 := Aside0.mk (below_step B2.out hB.low); obtain ⟨hc3, _⟩ := hB.cell HJ.out; have HP := Aside0.mk hP; clear hB hP)))
        go_ret
        exact ⟨by rw [show R i j = P j from bool_iff ((HR.out i j).trans (HP.out j).symm)]; rfl, B3.out⟩
end Go.Proofs.YtmldefednihohaaDoor.Grp
