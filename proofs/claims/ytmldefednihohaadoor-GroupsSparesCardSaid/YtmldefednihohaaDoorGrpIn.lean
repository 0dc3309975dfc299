/- In, Add on an index (plain walks). -/
import Derived.Test.YtmldefednihohaaDoorGrpIx
namespace Go.Proofs.YtmldefednihohaaDoor.Grp
open Go.RowKit Go.Proofs.YtmldefednihohaaDoorW.PrintWords Go.Proofs.YtmldefednihohaaDoorW.PrintLast Go.Proofs.YtmldefednihohaaDoorW.PrintMore
set_option linter.unusedVariables false
set_option linter.unusedSimpArgs false
set_option maxRecDepth 100000
theorem quietK {P : Program} {f : FuncId} {args : Array Value} {w : World} {n : Nat} {v : Value} (h : ∀ W : World, Below w.heap.size w W → Calls P f args W fun e w' => e = .returned v ∧ Drawn0 W w') :
    Calls P f args (w.drewN n) fun e w1 => e = .returned v ∧ ∃ m, w1 = w.drewN m := (h _ (dnb w n)).mono fun _ _ hh => ⟨hh.1, by
      obtain ⟨m, rfl⟩ := hh.2
      exact ⟨n + m, World.drewN_drewN ..⟩⟩
theorem quietL {P : Program} {f : FuncId} {args : Array Value} {w : World} {a n : Nat} {v : Value} (h : ∀ W : World, Below w.heap.size w W → Calls P f args W fun e w' => e = .returned v ∧ Drawn0 W w') :
    Calls P f args (w.drewN (a + n)) fun e w1 => e = .returned v ∧ ∃ m, w1 = w.drewN (a + m) := (h _ (dnb w _)).mono fun _ _ hh => ⟨hh.1, by
      obtain ⟨m, rfl⟩ := hh.2
      exact ⟨n + m, by rw [World.drewN_drewN, Nat.add_assoc]⟩⟩
theorem group_q (S : Nat → Prop) (w : World) (g n : Nat) (X : Nat → Nat → Bool) (a : Int) (x : Bool) (h : Ix S w g n X) (hx : okG n a = x) :
    ∀ W : World, Below w.heap.size w W → Calls Tryd.prog 34 #[.pointer (some ⟨g, 0, none⟩), .int .i64 a] W fun e w' => e = .returned (.bool x) ∧ Drawn0 W w' := fun W hb =>
  (group_calls S W g n X a (h.below hb)).mono fun e w' hh => ⟨by rw [hh.1, ← hx]; rfl, by rw [hh.2]; exact Drawn0.refl _⟩
def inE (n : Nat) (X : Nat → Nat → Bool) (a b : Int) : Bool := okG n a && okG n b && X (n + a.toNat) b.toNat
set_option maxHeartbeats 4000000 in
theorem in_calls (S : Nat → Prop) (w : World) (g n : Nat) (X : Nat → Nat → Bool) (a b : Int) (h : Ix S w g n X) :
    Calls Tryd.prog 12 #[.pointer (some ⟨g, 0, none⟩), .int .i64 a, .int .i64 b] w fun e w' => e = .returned (.bool (inE n X a b)) ∧ Drawn0 w w' := by
  have H := Aside0.mk h
  clear h
  obtain ⟨x, hx⟩ : ∃ x, okG n a = x := ⟨_, rfl⟩
  obtain ⟨y, hy⟩ : ∃ y, okG n b = y := ⟨_, rfl⟩
  have HX := Aside0.mk hx
  have HY := Aside0.mk hy
  obtain ⟨z, hz⟩ : ∃ z, inE n X a b = z := ⟨_, rfl⟩
  have HZ := Aside0.mk hz
  rw [hz]
  clear hx hy hz
  cases x with
  | false =>
    obtain rfl : false = z := by rw [← HZ.out]; simp [inE, HX.out]
    go_enter Tryd.func12, Tryd.ntmps12
    go_wp2_with (go_at_call 34; ((with_reducible refine (group_q S w g n X a false H.out HX.out w (Below.refl _ _)).mono ?_); rintro e1 w1 ⟨rfl, ⟨m1, rfl⟩⟩))
    go_ret
    exact ⟨rfl, ⟨⟨_, rfl⟩⟩⟩
  | true =>
    cases y with
    | false =>
      obtain rfl : false = z := by rw [← HZ.out]; simp [inE, HX.out, HY.out]
      go_enter Tryd.func12, Tryd.ntmps12
      go_wp2_with (go_at_call 34; (first | ((with_reducible refine (group_q S w g n X a true H.out HX.out w (Below.refl _ _)).mono ?_); rintro e1 w1 ⟨rfl, ⟨m1, rfl⟩⟩) | ((with_reducible refine (group_q S w g n X b false H.out HY.out _ (dnb _ _)).mono ?_); rintro e1 w1 ⟨rfl, ⟨m2, rfl⟩⟩)))
      go_ret
      exact ⟨rfl, ⟨⟨_, rfl⟩⟩⟩
    | true =>
      obtain ⟨ka, rfl, hka⟩ := okG_nat HX.out
      obtain ⟨kb, rfl, hkb⟩ := okG_nat HY.out
      obtain rfl : X (n + ka) kb = z := by rw [← HZ.out]; simp [inE, HX.out, HY.out]
      obtain ⟨gl, gi, cl, ci, V, hv, _⟩ := id H.out
      have c1 := hv.c1
      have ch := hv.hi hka
      obtain ⟨rb, rc, hV⟩ := hv.form (k := n + ka) (by omega)
      unfold sv at ch
      rw [hV] at ch
      have hw := hv.wide1
      have hr := hv.row (n + ka) (by omega)
      unfold sv at hr
      rw [hV] at hr
      have HR : Aside0 (∀ W : World, Below w.heap.size w W → Calls Tryd.prog 30 #[.slice (some ⟨rb, 0, none⟩) (wide n) rc, .int .i64 (kb : Int)] W fun e w' => e = .returned (.bool (X (n + ka) kb)) ∧ Drawn0 W w') := ⟨fun W hb => has_calls W _ rc (wide n) kb (X (n + ka)) (hr.below hb) (by omega) (by omega)⟩
      have hk0 : (0 : Int) ≤ (ka : Int) := by omega
      have hkn : (ka : Int) < (n : Int) := by omega
      generalize hm : wide n = m at ch HR
      generalize hzz : X (n + ka) kb = z at HR ⊢
      clear hV hw hr hv hm hzz
      go_enter Tryd.func12, Tryd.ntmps12
      go_wp2_with (first | (go_at_call 34; (first | ((with_reducible refine (group_q S w g n X (ka : Int) true H.out HX.out w (Below.refl _ _)).mono ?_); rintro e1 w1 ⟨rfl, ⟨m1, rfl⟩⟩) | ((with_reducible refine (group_q S w g n X (kb : Int) true H.out HY.out _ (dnb _ _)).mono ?_); rintro e1 w1 ⟨rfl, ⟨m2, rfl⟩⟩))) | (go_at_call 30; (with_reducible refine (HR.out _ (dnb _ _)).mono ?_); rintro e1 w1 ⟨rfl, ⟨m3, rfl⟩⟩))
      go_ret
      exact ⟨rfl, ⟨⟨_, rfl⟩⟩⟩
set_option maxHeartbeats 4000000 in
theorem in_nil (w : World) (a b : Int) : Calls Tryd.prog 12 #[.pointer none, .int .i64 a, .int .i64 b] w fun e w' => e = .returned (.bool false) ∧ Drawn0 w w' := by
  go_enter Tryd.func12, Tryd.ntmps12
  go_wp2
  go_ret
  exact ⟨rfl, Drawn0.refl _⟩
end Go.Proofs.YtmldefednihohaaDoor.Grp
