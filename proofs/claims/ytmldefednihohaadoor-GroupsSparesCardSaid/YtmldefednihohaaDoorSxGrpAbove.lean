/- Above, Below on an index (plain walks). -/
import Derived.Test.YtmldefednihohaaDoorGrpPairs
import Derived.Test.YtmldefednihohaaDoorS1
namespace Go.Proofs.YtmldefednihohaaDoor.Grp
open Go.RowKit Go.Proofs.YtmldefednihohaaDoorW.PrintWords Go.Proofs.YtmldefednihohaaDoorW.PrintLast Go.Proofs.YtmldefednihohaaDoorW.PrintMore
set_option linter.unusedVariables false
set_option linter.unusedSimpArgs false
set_option maxRecDepth 100000
/-- What Above says. -/
def aboveE (n : Nat) (X : Nat → Nat → Bool) (a : Int) : List Int := if okG n a then elems (X (n + a.toNat)) (64 * wide n) else []
def belowE (n : Nat) (X : Nat → Nat → Bool) (b : Int) : List Int := if okG n b then elems (fun a => X (n + a) b.toNat) n else []
theorem group_ok (S : Nat → Prop) (w : World) (g n : Nat) (X : Nat → Nat → Bool) (a : Int) (x : Bool) (h : Ix S w g n X) (hx : okG n a = x) :
    Calls Tryd.prog 34 #[.pointer (some ⟨g, 0, none⟩), .int .i64 a] w fun e w' => e = .returned (.bool x) ∧ w' = w :=
  (group_calls S w g n X a h).mono fun e w' hh => ⟨by rw [hh.1, ← hx]; rfl, hh.2⟩
set_option maxHeartbeats 4000000 in
theorem above_calls (S : Nat → Prop) (w : World) (g n : Nat) (X : Nat → Nat → Bool) (a : Int) (h : Ix S w g n X) (hgl : GL w) :
    Calls Tryd.prog 14 #[.pointer (some ⟨g, 0, none⟩), .int .i64 a] w fun e w' => ∃ v, e = .returned v ∧ I64.R 3 w' w.heap.size (fun _ => True) v (aboveE n X a) ∧ Below w.heap.size w w' := by
  have H := Aside0.mk h
  by_cases hx : okG n a = true
  · have HX := Aside0.mk hx
    obtain ⟨k, rfl, hk⟩ := okG_nat hx
    obtain ⟨gl, gi, cl, ci, V, hv, _⟩ := h
    have c1 := hv.c1
    obtain ⟨r, rc, eR⟩ := hv.form (k := n + k) (by omega)
    have hi := hv.rowi hk eR
    have hw := hv.wide1
    have HL := Aside0.mk (list_calls w (some ⟨r, 0, none⟩) rc (wide n) (X (n + k)) (hv.at_ (by omega) eR) (by omega) (by omega) hgl)
    have hE : aboveE n X (k : Int) = elems (X (n + k)) (64 * wide n) := by unfold aboveE; rw [if_pos hx, Int.toNat_natCast]
    rw [hE]
    have hk0 : (0 : Int) ≤ (k : Int) := by omega
    have hkn : (k : Int) < (n : Int) := by omega
    clear hv hw eR hx hk hgl hE
    go_enter Tryd.func14, Tryd.ntmps14
    go_wp2_with (first
      | (go_at_call 34; ((with_reducible refine (group_ok S w g n X (k : Int) true H.out HX.out).mono ?_); rintro e1 w1 ⟨rfl, h1⟩; subst h1))
      | (go_at_call 36; ((with_reducible refine HL.out.mono ?_); rintro e2 w2 ⟨v2, rfl, r2, b2⟩; have R2 := Aside0.mk r2; have B2 := Aside0.mk b2; clear r2 b2)))
    go_ret
    exact ⟨_, rfl, R2.out, B2.out⟩
  · have hx' : okG n a = false := by simpa using hx
    have hE : aboveE n X a = [] := by unfold aboveE; rw [if_neg hx]
    rw [hE]
    have HX := Aside0.mk hx'
    clear hx hx' h hE hgl
    go_enter Tryd.func14, Tryd.ntmps14
    go_wp2_with (go_at_call 34; ((with_reducible refine (group_ok S w g n X a false H.out HX.out).mono ?_); rintro e1 w1 ⟨rfl, h1⟩; subst h1))
    go_ret
    exact ⟨_, rfl, Kd.R_nil _ _ _ _ _, Below.refl _ _⟩
set_option maxHeartbeats 4000000 in
theorem below_calls (S : Nat → Prop) (w : World) (g n : Nat) (X : Nat → Nat → Bool) (b : Int) (h : Ix S w g n X) :
    Calls Tryd.prog 15 #[.pointer (some ⟨g, 0, none⟩), .int .i64 b] w fun e w' => ∃ v, e = .returned v ∧ I64.R 3 w' w.heap.size (fun _ => True) v (belowE n X b) ∧ Below w.heap.size w w' := by
  have H := Aside0.mk h
  by_cases hx : okG n b = true
  · have HX := Aside0.mk hx
    obtain ⟨k, rfl, hk⟩ := okG_nat hx
    obtain ⟨gl, gi, cl, ci, V, hv, _⟩ := h
    have c1 := hv.c1
    have HV := Aside0.mk hv
    have HW := Aside0.mk hv.wide1
    have HN4 := Aside0.mk hv.n4
    have hE : belowE n X (k : Int) = elems (fun a => X (n + a) k) n := by unfold belowE; rw [if_pos hx, Int.toNat_natCast]
    rw [hE]
    have HKN := Aside0.mk hk
    clear hv hx hk hE
    go_enter Tryd.func15, Tryd.ntmps15
    go_wp2_with (go_at_call 34; ((with_reducible refine (group_ok S w g n X (k : Int) true H.out HX.out).mono ?_); rintro e1 w ⟨rfl, h1⟩; subst h1))
    go_loopg [5, 17] (n + 1) (fun kq v5 v17 w' => ∃ c : Nat, v17 = .int .i64 (c : Int) ∧ Aside0 (kq + c = n + 1) ∧ Aside0 (c ≤ n) ∧ Aside0 (I64.R 3 w' w.heap.size (fun _ => True) v5 (elems (fun a => X (n + a) k) c)) ∧ Aside0 (Below w.heap.size w w'))
    case atStart => exact ⟨0, rfl, ⟨rfl⟩, ⟨Nat.zero_le _⟩, ⟨Kd.R_nil _ _ _ _ _⟩, ⟨Below.refl _ _⟩⟩
    case round =>
      obtain ⟨c, rfl, HK, HJ, HR, HB⟩ := hrel
      cases gk with
      | zero => exact absurd HK.out (by have := HJ.out; omega)
      | succ k1 =>
        by_cases hlt : c < n
        · have hc0 : (0 : Int) ≤ (c : Int) := by omega
          have hcn : (c : Int) < (n : Int) := by omega
          have HW3 : Aside0 (wrap64 ((c : Int) + 1) = ((c + 1 : Nat) : Int)) := ⟨wrap_up c n (by omega) (by have := HN4.out; omega)⟩
          have hvr := HV.out.below HB.out
          obtain ⟨r, rc, eR⟩ := hvr.form (k := n + c) (by omega)
          have hi := hvr.rowi hlt eR
          have HH := Aside0.mk (has_calls wr (some ⟨r, 0, none⟩) rc (wide n) k _ (hvr.at_ (by omega) eR) (by have h1 := HW.out; have h2 := HKN.out; omega) (by have := HW.out; omega))
          clear hvr eR
          by_cases hxc : X (n + c) k = true
          · rw [hxc] at HH
            have HE : Aside0 (elems (fun a => X (n + a) k) (c + 1) = elems (fun a => X (n + a) k) c ++ [(c : Int)]) := ⟨by simp only [elems]; rw [if_pos hxc]⟩
            clear hxc
            go_wp2_with (first
              | (go_at_call 30; ((with_reducible refine HH.out.mono ?_); rintro e2 w2 ⟨rfl, d2⟩; have HR2 := Aside0.mk (Kd.R_below HR.out d2.below); have HB2 := Aside0.mk (below_step HB.out d2.below); clear d2))
              | ((with_reducible refine gate_builtin (b := .append) (xs := #[.tmp 25, .tmp 27]) rfl ?_); at_builtin; go_loud (refine Kd.R_append I64 (w0 := w) (W := w2) w.heap.size rfl (.tmp 25) (.tmp 27) 29 3 (.int .i64 0) 8 rfl Tryd.underlying29 infoI rfl (by decide) (by omega) u5 (elems (fun a => X (n + a) k) c) (c : Int) [.int .i64 (c : Int)] (fun _ => True) (fun _ => False) rfl rfl ?aP (fun _ hk => hk.elim) ?aF ?aO ?aB ?aS ?aL ?_); (case aP => exact rfl); (case aB => exact HB2.out); (case aF => exact (fun _ _ => trivial)); (case aO => exact HR2.out); (case aS => exact HB2.out.size); (case aL => have h1 := elems_len (fun a => X (n + a) k) c; have h2 := HN4.out; omega); intro v6 w6 ho hb hg hat; (rw [← HE.out] at ho); have HO := Aside0.mk ho; have HB6 := Aside0.mk hb; clear ho hb hg hat))
            go_roundg k1
            case measure => omega
            case rel => exact ⟨c + 1, by first | rfl | (rw [← HW3.out]) | (congr 1; omega), ⟨by have := HK.out; omega⟩, ⟨by omega⟩, HO, HB6⟩
          · have hxf : X (n + c) k = false := by simpa using hxc
            rw [hxf] at HH
            have HE : Aside0 (elems (fun a => X (n + a) k) (c + 1) = elems (fun a => X (n + a) k) c) := ⟨by simp only [elems]; rw [if_neg hxc]⟩
            clear hxc hxf
            go_wp2_with (go_at_call 30; ((with_reducible refine HH.out.mono ?_); rintro e2 w2 ⟨rfl, d2⟩; (have hr2 := Kd.R_below HR.out d2.below); (rw [← HE.out] at hr2); have HR2 := Aside0.mk hr2; have HB2 := Aside0.mk (below_step HB.out d2.below); clear d2 hr2))
            go_roundg k1
            case measure => omega
            case rel => exact ⟨c + 1, by first | rfl | (rw [← HW3.out]) | (congr 1; omega), ⟨by have := HK.out; omega⟩, ⟨by omega⟩, HR2, HB2⟩
        · have hjn : c = n := by have := HJ.out; omega
          subst hjn
          have hd : decide ((c : Int) < (c : Int)) = false := decide_eq_false (by omega)
          go_wp2
          go_ret
          exact ⟨_, rfl, HR.out, HB.out⟩
  · have hx' : okG n b = false := by simpa using hx
    have hE : belowE n X b = [] := by unfold belowE; rw [if_neg hx]
    rw [hE]
    have HX := Aside0.mk hx'
    clear hx hx' h hE
    go_enter Tryd.func15, Tryd.ntmps15
    go_wp2_with (go_at_call 34; ((with_reducible refine (group_ok S w g n X b false H.out HX.out).mono ?_); rintro e1 w1 ⟨rfl, h1⟩; subst h1))
    go_ret
    exact ⟨_, rfl, Kd.R_nil _ _ _ _ _, Below.refl _ _⟩
end Go.Proofs.YtmldefednihohaaDoor.Grp
