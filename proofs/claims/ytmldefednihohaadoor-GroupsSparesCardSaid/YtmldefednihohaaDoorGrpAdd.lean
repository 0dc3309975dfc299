/- Add on an index (plain walk). -/
import Derived.Test.YtmldefednihohaaDoorGrpIn
namespace Go.Proofs.YtmldefednihohaaDoor.Grp
open Go.RowKit Go.Proofs.YtmldefednihohaaDoorW.PrintWords Go.Proofs.YtmldefednihohaaDoorW.PrintLast Go.Proofs.YtmldefednihohaaDoorW.PrintMore
set_option linter.unusedVariables false
set_option linter.unusedSimpArgs false
set_option maxRecDepth 100000
/-- What is joined to the rows that lead to a, so far (c of them looked at). -/
def addS (n : Nat) (X : Nat → Nat → Bool) (a : Nat) (G : Nat → Bool) (c : Nat) : Nat → Nat → Bool := fun k x => if n ≤ k ∧ k < n + c ∧ (k - n = a ∨ X k a = true) then X k x || G x else X k x
/-- The link itself. -/
def addL (X : Nat → Nat → Bool) (a b : Nat) : Nat → Nat → Bool := upX X a (fun x => X a x || x == b)
/-- What Add leaves of an index that has no such link yet. -/
def addX (n : Nat) (X : Nat → Nat → Bool) (a b : Nat) : Nat → Nat → Bool :=
  if X (n + a) b then addL X a b else addS n (addL X a b) a (fun x => X (n + b) x || x == b) n
theorem addS_zero (n : Nat) (X : Nat → Nat → Bool) (a : Nat) (G : Nat → Bool) : addS n X a G 0 = X := by
  funext k x
  unfold addS
  rw [if_neg (by omega)]
theorem addS_yes {n : Nat} {X : Nat → Nat → Bool} {a c : Nat} {G : Nat → Bool} (h : c = a ∨ X (n + c) a = true) : upX (addS n X a G c) (n + c) (fun x => X (n + c) x || G x) = addS n X a G (c + 1) := by
  funext k x
  unfold upX addS
  by_cases e : k = n + c
  · subst e
    rw [if_pos rfl, if_pos ⟨by omega, by omega, by rw [Nat.add_sub_cancel_left]; exact h⟩]
  · rw [if_neg e]
    have : (n ≤ k ∧ k < n + c ∧ (k - n = a ∨ X k a = true)) = (n ≤ k ∧ k < n + (c + 1) ∧ (k - n = a ∨ X k a = true)) := by
      apply propext
      constructor
      · rintro ⟨h1, h2, h3⟩; exact ⟨h1, by omega, h3⟩
      · rintro ⟨h1, h2, h3⟩; exact ⟨h1, by omega, h3⟩
    simp only [this]
theorem addS_no {n : Nat} {X : Nat → Nat → Bool} {a c : Nat} {G : Nat → Bool} (h : ¬ (c = a ∨ X (n + c) a = true)) : addS n X a G (c + 1) = addS n X a G c := by
  funext k x
  unfold addS
  by_cases e : k = n + c
  · subst e
    rw [if_neg (by rintro ⟨_, _, h3⟩; rw [Nat.add_sub_cancel_left] at h3; exact h h3), if_neg (by omega)]
  · have : (n ≤ k ∧ k < n + (c + 1) ∧ (k - n = a ∨ X k a = true)) = (n ≤ k ∧ k < n + c ∧ (k - n = a ∨ X k a = true)) := by
      apply propext
      constructor
      · rintro ⟨h1, h2, h3⟩; exact ⟨h1, by omega, h3⟩
      · rintro ⟨h1, h2, h3⟩; exact ⟨h1, by omega, h3⟩
    simp only [this]
theorem addS_at (n : Nat) (X : Nat → Nat → Bool) (a c : Nat) (G : Nat → Bool) : addS n X a G c (n + c) = X (n + c) := by
  funext x
  unfold addS
  rw [if_neg (by omega)]
set_option maxHeartbeats 4000000 in
theorem add_bad (S : Nat → Prop) (w : World) (g n : Nat) (X : Nat → Nat → Bool) (a b : Int) (h : Ix S w g n X) (hab : (okG n a && okG n b) = false) :
    Calls Tryd.prog 10 #[.pointer (some ⟨g, 0, none⟩), .int .i64 a, .int .i64 b] w fun e w' => e = .returned (.int .i64 2) ∧ w' = w := by
  have H := Aside0.mk h
  have HAB := Aside0.mk hab
  clear h hab
  go_enter Tryd.func10, Tryd.ntmps10
  go_wp2_with (go_at_call 29; ((with_reducible refine (asked_calls S w g n X a b H.out).mono ?_); rintro e1 w1 ⟨rfl, rfl⟩; rw [HAB.out]))
  go_ret
  exact ⟨rfl, rfl⟩
set_option maxHeartbeats 4000000 in
theorem add_nil (w : World) (a b : Int) : Calls Tryd.prog 10 #[.pointer none, .int .i64 a, .int .i64 b] w fun e w' => e = .returned (.int .i64 1) ∧ w' = w := by
  go_enter Tryd.func10, Tryd.ntmps10
  go_wp2_with (go_at_call 29; ((with_reducible refine (asked_nil w a b).mono ?_); rintro e1 w1 ⟨rfl, rfl⟩))
  go_ret
  exact ⟨rfl, rfl⟩
theorem okG_of {n k : Nat} (h : k < n) : okG n (k : Int) = true := decide_eq_true ⟨by omega, by omega⟩
theorem asked_ok (S : Nat → Prop) (w : World) (g n a b : Nat) (X : Nat → Nat → Bool) (h : Ix S w g n X) (ha : a < n) (hb : b < n) :
    Calls Tryd.prog 29 #[.pointer (some ⟨g, 0, none⟩), .int .i64 (a : Int), .int .i64 (b : Int)] w fun e w' => e = .returned (.int .i64 0) ∧ w' = w := by
  have := asked_calls S w g n X (a : Int) (b : Int) h
  rwa [okG_of ha, okG_of hb] at this
/-- The headers of row k, read. -/
theorem IxV.rowl {g gl gi cl ci n : Nat} {V : Nat → Sl} {w : World} {X : Nat → Nat → Bool} (h : IxV g gl gi cl ci n V w X) {k b c : Nat} (hk : k < n) (e : V k = (some ⟨b, 0, none⟩, wide n, c)) : w.cell? ⟨gl, k, none⟩ = some (.slice (some ⟨b, 0, none⟩) (wide n) c) := by
  have := h.hl hk
  unfold sv at this
  rw [e] at this
  exact this
theorem IxV.rowi {g gl gi cl ci n : Nat} {V : Nat → Sl} {w : World} {X : Nat → Nat → Bool} (h : IxV g gl gi cl ci n V w X) {k b c : Nat} (hk : k < n) (e : V (n + k) = (some ⟨b, 0, none⟩, wide n, c)) : w.cell? ⟨gi, k, none⟩ = some (.slice (some ⟨b, 0, none⟩) (wide n) c) := by
  have := h.hi hk
  unfold sv at this
  rw [e] at this
  exact this
theorem IxV.at_ {g gl gi cl ci n : Nat} {V : Nat → Sl} {w : World} {X : Nat → Nat → Bool} (h : IxV g gl gi cl ci n V w X) {k b c : Nat} (hk : k < 2 * n) (e : V k = (some ⟨b, 0, none⟩, wide n, c)) : RowAt w (.slice (some ⟨b, 0, none⟩) (wide n) c) (wide n) (X k) := by
  have := h.row k hk
  unfold sv at this
  rw [e] at this
  exact this
theorem IxV.turn' {g gl gi cl ci n : Nat} {V : Nat → Sl} {w w' : World} {X : Nat → Nat → Bool} (h : IxV g gl gi cl ci n V w X) {k b c : Nat} (hk : k < 2 * n) (e : V k = (some ⟨b, 0, none⟩, wide n, c)) {P : Nat → Bool} (hf : Fr w w' (fun j => j = b)) (hr : RowAt w' (.slice (some ⟨b, 0, none⟩) (wide n) c) (wide n) P) : IxV g gl gi cl ci n V w' (upX X k P) :=
  h.turn hk (b := b) (by unfold sv; rw [e]; rfl) hf (by unfold sv; rw [e]; exact hr)
set_option maxHeartbeats 4000000 in
theorem add_there (S : Nat → Prop) (w : World) (g n a b : Nat) (X : Nat → Nat → Bool) (h : Ix S w g n X) (ha : a < n) (hb : b < n) (hX : X a b = true) :
    Calls Tryd.prog 10 #[.pointer (some ⟨g, 0, none⟩), .int .i64 (a : Int), .int .i64 (b : Int)] w fun e w' => e = .returned (.int .i64 120) ∧ Drawn0 w w' := by
  have H := Aside0.mk h
  obtain ⟨gl, gi, cl, ci, V, hv, _⟩ := h
  obtain ⟨ra, ca, eA⟩ := hv.form (k := a) (by omega)
  have c0 := hv.c0
  have hl := hv.rowl ha eA
  have hw := hv.wide1
  have HA := Aside0.mk (has_calls w (some ⟨ra, 0, none⟩) ca (wide n) b (X a) (hv.at_ (by omega) eA) (by omega) (by omega))
  rw [hX] at HA
  have HAN := Aside0.mk ha
  have HBN := Aside0.mk hb
  have hk0 : (0 : Int) ≤ (a : Int) := by omega
  have hkn : (a : Int) < (n : Int) := by omega
  generalize wide n = m at hl HA
  clear hv hw eA hX ha hb
  go_enter Tryd.func10, Tryd.ntmps10
  go_wp2_with (first
    | (go_at_call 29; ((with_reducible refine (asked_ok S w g n a b X H.out HAN.out HBN.out).mono ?_); rintro e1 w1 ⟨rfl, rfl⟩))
    | (go_at_call 30; ((with_reducible refine HA.out.mono ?_); rintro e2 w2 ⟨rfl, ⟨m2, rfl⟩⟩)))
  go_ret
  exact ⟨rfl, ⟨⟨_, rfl⟩⟩⟩
set_option maxHeartbeats 8000000 in
theorem add_in (S : Nat → Prop) (w : World) (g n a b : Nat) (X : Nat → Nat → Bool) (h : Ix S w g n X) (ha : a < n) (hb : b < n) (hX : X a b = false) (hI : X (n + a) b = true) :
    Calls Tryd.prog 10 #[.pointer (some ⟨g, 0, none⟩), .int .i64 (a : Int), .int .i64 (b : Int)] w fun e w' => e = .returned (.int .i64 0) ∧ Ix S w' g n (addL X a b) ∧ Fr w w' S := by
  have H := Aside0.mk h
  obtain ⟨gl, gi, cl, ci, V, hv, sg, sl, si, sr⟩ := h
  obtain ⟨ra, ca, eA⟩ := hv.form (k := a) (by omega)
  obtain ⟨rn, cn, eN⟩ := hv.form (k := n + a) (by omega)
  have c0 := hv.c0
  have hl := hv.rowl ha eA
  have hw := hv.wide1
  have HV := Aside0.mk hv
  have HS : Aside0 (S ra) := ⟨sr a (by omega) ra (by unfold sv; rw [eA]; rfl)⟩
  have HSS := Aside0.mk (And.intro sg (And.intro sl (And.intro si sr)))
  have HW := Aside0.mk hw
  have HA := Aside0.mk (has_calls w (some ⟨ra, 0, none⟩) ca (wide n) b (X a) (hv.at_ (by omega) eA) (by omega) (by omega))
  rw [hX] at HA
  have EA := Aside0.mk eA
  have EN := Aside0.mk eN
  have HAN := Aside0.mk ha
  have HBN := Aside0.mk hb
  have HI := Aside0.mk hI
  have hk0 : (0 : Int) ≤ (a : Int) := by omega
  have hkn : (a : Int) < (n : Int) := by omega
  clear hv hw eA eN hX hI ha hb sg sl si sr
  go_enter Tryd.func10, Tryd.ntmps10
  go_wp2_with (first
    | (go_at_call 29; ((with_reducible refine (asked_ok S w g n a b X H.out HAN.out HBN.out).mono ?_); rintro e1 w1 ⟨rfl, rfl⟩))
    | (go_at_call 30; ((with_reducible refine HA.out.mono ?_); rintro e2 w2 ⟨rfl, d2⟩; have hv2 := HV.out.below d2.below; have F2 := Aside0.mk (Fr.of_below d2.below S); have c02 := hv2.c0; have hl2 := hv2.rowl HAN.out EA.out; have HV2 := Aside0.mk hv2; clear d2 hv2))
    | (go_at_call 31; ((with_reducible refine (add_calls w2 ra ca (wide n) b (X a) (HV2.out.at_ (by have := HAN.out; omega) EA.out) (by have := HW.out; have := HBN.out; omega) (by have := HW.out; omega)).mono ?_); rintro e3 w3 ⟨rfl, r3, f3⟩; have hv3 := HV2.out.turn' (by have := HAN.out; omega) EA.out f3 r3; have F3 := Aside0.mk (F2.out.then_ f3 (fun k hk => .inl (by rw [hk]; exact HS.out))); have c13 := hv3.c1; have hi3 := hv3.rowi HAN.out EN.out; have HV3 := Aside0.mk hv3; clear r3 f3 hv3))
    | (go_at_call 30; ((with_reducible refine (has_calls w3 (some ⟨rn, 0, none⟩) cn (wide n) b _ (HV3.out.at_ (by have := HAN.out; omega) EN.out) (by have := HW.out; have := HBN.out; omega) (by have := HW.out; omega)).mono ?_); rintro e4 w4 ⟨rfl, d4⟩; have HV4 := Aside0.mk (HV3.out.below d4.below); have F4 := Aside0.mk (F3.out.then_ (Fr.of_below d4.below (fun _ => False)) (fun _ h => h.elim)); clear d4; (rw [show upX X a (fun x => X a x || x == b) (n + a) b = true from by unfold upX; rw [if_neg (by have := HAN.out; omega)]; exact HI.out]))))
  go_ret
  exact ⟨rfl, ⟨gl, gi, cl, ci, V, HV4.out, HSS.out⟩, F4.out⟩
/-- The rows that lead to a are joined: c of them looked at; G lies at block gg. -/
structure AddRel (S : Nat → Prop) (w : World) (g gl gi cl ci n : Nat) (V : Nat → Sl) (X1 : Nat → Nat → Bool) (a : Nat) (G : Nat → Bool) (gg cg c : Nat) (W : World) : Prop where
  ix : IxV g gl gi cl ci n V W (addS n X1 a G c)
  gain : RowAt W (.slice (some ⟨gg, 0, none⟩) (wide n) cg) (wide n) G
  fr : Fr w W S
theorem gain_of {w w1 : World} {v1 : Value} {m : Nat} (hm : 1 ≤ m) (h : U64.R 67 w1 0 (fun _ => True) v1 (List.replicate m 0)) (hat : ∃ b, v1.ownBlock = some b ∧ w.heap.size ≤ b) : ∃ gg cg, v1 = .slice (some ⟨gg, 0, none⟩) m cg ∧ w.heap.size ≤ gg ∧ RowAt w1 (.slice (some ⟨gg, 0, none⟩) m cg) m (fun _ => false) := by
  have hr : RowAt w1 v1 m (fun _ => false) := by unfold RowAt; rw [rowL_none]; exact h
  obtain ⟨gg, cg, rfl⟩ := hr.form (by omega)
  obtain ⟨b, hb, hle⟩ := hat
  have : gg = b := by simpa [Value.ownBlock] using hb
  exact ⟨gg, cg, rfl, by omega, hr⟩
theorem own_head {g n c b : Nat} (h : (Value.slice (some ⟨g, 0, none⟩) n c).ownBlock = some b) : g = b := by simpa [Value.ownBlock] using h
theorem AddRel.yes {S : Nat → Prop} {w W W2 W3 : World} {g gl gi cl ci n a gg cg c r rc : Nat} {V : Nat → Sl} {X1 : Nat → Nat → Bool} {G : Nat → Bool} (h : AddRel S w g gl gi cl ci n V X1 a G gg cg c W) (hc : c < n) (hx : c = a ∨ X1 (n + c) a = true) (e : V (n + c) = (some ⟨r, 0, none⟩, wide n, rc)) (hS : S r) (hne : gg ≠ r)
    (hb : Below W.heap.size W W2) (hr : RowAt W3 (.slice (some ⟨r, 0, none⟩) (wide n) rc) (wide n) (fun x => addS n X1 a G c (n + c) x || G x)) (hf : Fr W2 W3 (fun k => k = r)) : AddRel S w g gl gi cl ci n V X1 a G gg cg (c + 1) W3 := by
  refine ⟨?_, (h.gain.below hb).other hf.2 (fun b hb' e' => hne ((own_head hb').trans e')), (h.fr.then_ (Fr.of_below hb (fun _ => False)) (fun _ h => h.elim)).then_ hf (fun k hk => .inl (by rw [hk]; exact hS))⟩
  have := (h.ix.below hb).turn' (by omega) e hf hr
  rw [addS_at] at this
  rw [addS_yes hx] at this
  exact this
theorem AddRel.no {S : Nat → Prop} {w W W2 : World} {g gl gi cl ci n a gg cg c : Nat} {V : Nat → Sl} {X1 : Nat → Nat → Bool} {G : Nat → Bool} (h : AddRel S w g gl gi cl ci n V X1 a G gg cg c W) (hx : ¬ (c = a ∨ X1 (n + c) a = true)) (hb : Below W.heap.size W W2) : AddRel S w g gl gi cl ci n V X1 a G gg cg (c + 1) W2 :=
  ⟨by rw [addS_no hx]; exact h.ix.below hb, h.gain.below hb, h.fr.then_ (Fr.of_below hb (fun _ => False)) (fun _ h => h.elim)⟩
set_option maxHeartbeats 8000000 in
theorem add_new (S : Nat → Prop) (w : World) (g n a b : Nat) (X : Nat → Nat → Bool) (h : Ix S w g n X) (ha : a < n) (hb : b < n) (hX : X a b = false) (hI : X (n + a) b = false) :
    Calls Tryd.prog 10 #[.pointer (some ⟨g, 0, none⟩), .int .i64 (a : Int), .int .i64 (b : Int)] w fun e w' => e = .returned (.int .i64 0) ∧ Ix S w' g n (addS n (addL X a b) a (fun x => X (n + b) x || x == b) n) ∧ Fr w w' S := by
  have H := Aside0.mk h
  obtain ⟨gl, gi, cl, ci, V, hv, sg, sl, si, sr⟩ := h
  obtain ⟨ra, ca, eA⟩ := hv.form (k := a) (by omega)
  obtain ⟨rn, cn, eN⟩ := hv.form (k := n + a) (by omega)
  obtain ⟨rb, cb, eB⟩ := hv.form (k := n + b) (by omega)
  have c0 := hv.c0
  have hl := hv.rowl ha eA
  have hw := hv.wide1
  have HV := Aside0.mk hv
  have HS : Aside0 (∀ k, k < 2 * n → ∀ r c, V k = (some ⟨r, 0, none⟩, wide n, c) → S r ∧ r < w.heap.size) := ⟨fun k hk r c e => ⟨sr k hk r (by unfold sv; rw [e]; rfl), hv.lt_r hk r (by unfold sv; rw [e]; rfl)⟩⟩
  have HSS := Aside0.mk (And.intro sg (And.intro sl (And.intro si sr)))
  have HLT := Aside0.mk (And.intro hv.lt_g (And.intro hv.lt_l hv.lt_i))
  have HW := Aside0.mk hw
  have HA := Aside0.mk (has_calls w (some ⟨ra, 0, none⟩) ca (wide n) b (X a) (hv.at_ (by omega) eA) (by omega) (by omega))
  rw [hX] at HA
  have EA := Aside0.mk eA
  have EN := Aside0.mk eN
  have EB := Aside0.mk eB
  have HAN := Aside0.mk ha
  have HBN := Aside0.mk hb
  have HI := Aside0.mk hI
  have hk0 : (0 : Int) ≤ (a : Int) := by omega
  have hkn : (a : Int) < (n : Int) := by omega
  have hb0 : (0 : Int) ≤ (b : Int) := by omega
  have hbn : (b : Int) < (n : Int) := by omega
  have hX1 : Aside0 (∀ k, n ≤ k → addL X a b k = X k) := ⟨fun k hk => by unfold addL upX; rw [if_neg (by omega)]⟩
  have HN4 := Aside0.mk hv.n4
  clear hv hw eA eN eB hX hI ha hb sg sl si sr
  obtain ⟨G, hG⟩ : ∃ G : Nat → Bool, G = fun x => X (n + b) x || x == b := ⟨_, rfl⟩
  rw [← hG]
  have HGG := Aside0.mk hG
  clear hG
  go_enter Tryd.func10, Tryd.ntmps10
  go_wp2_with (first
    | (go_at_call 29; ((with_reducible refine (asked_ok S w g n a b X H.out HAN.out HBN.out).mono ?_); rintro e1 w ⟨rfl, rfl⟩))
    | (go_at_call 30; ((with_reducible refine HA.out.mono ?_); rintro e2 w2 ⟨rfl, d2⟩; have hv2 := HV.out.below d2.below; have F2 := Aside0.mk (Fr.of_below d2.below S); have c02 := hv2.c0; have hl2 := hv2.rowl HAN.out EA.out; have HV2 := Aside0.mk hv2; clear d2 hv2))
    | (go_at_call 31; ((with_reducible refine (add_calls w2 ra ca (wide n) b (X a) (HV2.out.at_ (by have := HAN.out; omega) EA.out) (by have := HW.out; have := HBN.out; omega) (by have := HW.out; omega)).mono ?_); rintro e3 w3 ⟨rfl, r3, f3⟩; have hv3 : IxV g gl gi cl ci n V w3 (addL X a b) := HV2.out.turn' (by have := HAN.out; omega) EA.out f3 r3; have F3 := Aside0.mk (F2.out.then_ f3 (fun k hk => .inl (by rw [hk]; exact (HS.out a (by have := HAN.out; omega) ra ca EA.out).1))); have c13 := hv3.c1; have hi3 := hv3.rowi HAN.out EN.out; have HV3 := Aside0.mk hv3; clear r3 f3 hv3))
    | (go_at_call 30; ((with_reducible refine (has_calls w3 (some ⟨rn, 0, none⟩) cn (wide n) b _ (HV3.out.at_ (by have := HAN.out; omega) EN.out) (by have := HW.out; have := HBN.out; omega) (by have := HW.out; omega)).mono ?_); rintro e4 w4 ⟨rfl, d4⟩; have hv4 := HV3.out.below d4.below; have c14 := hv4.c1; have hi4 := hv4.rowi HAN.out EN.out; have HV4 := Aside0.mk hv4; have F4 := Aside0.mk (F3.out.then_ (Fr.of_below d4.below (fun _ => False)) (fun _ h => h.elim)); clear d4 hv4; (rw [hX1.out (n + a) (by omega), HI.out])))
    | ((with_reducible refine gate_dst (N := 52) rfl ?_); (refine Kd.R_make U64 (w0 := w4) 0 67 rfl (N := 52) rfl 63 _ _ rfl ((wide n : Nat) : Int) rfl rfl Tryd.underlying63 (.int .u64 0) 8 info64 rfl (by decide) (by omega) 0 (ok := fun _ => True) (okp := fun _ => True) rfl (fun _ hk => hk) trivial (by omega) ?hl ?hB (Nat.zero_le _) ?_); (case hl => have := HW.out; simp only [Int.toNat_natCast]; omega); (case hB => exact ⟨rfl, rfl, rfl, Nat.le_refl _, fun _ _ => rfl⟩); intro v5 w5 ho hb5 hg5 hat; (rw [Int.toNat_natCast] at ho); (obtain ⟨gg, cg, rfl, hgg, hgr⟩ := gain_of (w := w4) (by have := HW.out; omega) ho hat); (have b5 : Below w4.heap.size w4 w5 := ⟨hg5.os, hg5.tape, hg5.output, hg5.size, fun k hk => hg5.block k hk (by simp)⟩); have hv5 := HV4.out.below b5; have c15 := hv5.c1; have hi5 := hv5.rowi HBN.out EB.out; have HV5 := Aside0.mk hv5; have F5 := Aside0.mk (F4.out.then_ (Fr.of_below b5 (fun _ => False)) (fun _ h => h.elim)); have GR5 := Aside0.mk hgr; have GG := Aside0.mk (Nat.le_trans F4.out.1.size hgg); clear ho hb5 hg5 hat hgg hgr b5 hv5)
    | (go_at_call 32; ((with_reducible refine (join_calls w5 gg cg (wide n) (some ⟨rb, 0, none⟩) cb _ _ GR5.out rb rfl (HV5.out.at_ (by have := HBN.out; omega) EB.out) ?hne (by have := HW.out; omega)).mono ?_); (case hne => have h1 := (HS.out (n + b) (by have := HBN.out; omega) rb cb EB.out).2; have h2 := GG.out; omega); rintro e6 w6 ⟨rfl, r6, f6⟩; have hv6 := HV5.out.kept f6.2 (by have h1 := HLT.out; have h2 := GG.out; omega) (by have h1 := HLT.out; have h2 := GG.out; omega) (by have h1 := HLT.out; have h2 := GG.out; omega) (fun k hk r hr e => by have h1 := HV.out.lt_r hk r hr; have h2 := GG.out; omega); have HV6 := Aside0.mk hv6; have R6 := Aside0.mk r6; have F6 := Aside0.mk (F5.out.then_ f6 (fun k hk => .inr (by have h2 := GG.out; omega))); clear r6 f6 hv6))
    | (go_at_call 31; ((with_reducible refine (add_calls w6 gg cg (wide n) b _ R6.out (by have := HW.out; have := HBN.out; omega) (by have := HW.out; omega)).mono ?_); rintro e7 w7 ⟨rfl, r7, f7⟩; have hv7 := HV6.out.kept f7.2 (by have h1 := HLT.out; have h2 := GG.out; omega) (by have h1 := HLT.out; have h2 := GG.out; omega) (by have h1 := HLT.out; have h2 := GG.out; omega) (fun k hk r hr e => by have h1 := HV.out.lt_r hk r hr; have h2 := GG.out; omega); have c17 := hv7.c1; have HV7 := Aside0.mk hv7; have R7 := Aside0.mk r7; have F7 := Aside0.mk (F6.out.then_ f7 (fun k hk => .inr (by have h2 := GG.out; omega))); clear r7 f7 hv7)))
  have HR0 : Aside0 (AddRel S w g gl gi cl ci n V (addL X a b) a G gg cg 0 w7) := ⟨by rw [addS_zero]; exact HV7.out, R7.out.congr (fun x _ => by rw [HGG.out, hX1.out (n + b) (by omega)]; simp), F7.out⟩
  go_loopg [70] (n + 1) (fun kq v70 w' => ∃ c : Nat, v70 = .int .i64 (c : Int) ∧ Aside0 (kq + c = n + 1) ∧ Aside0 (c ≤ n) ∧ Aside0 (AddRel S w g gl gi cl ci n V (addL X a b) a G gg cg c w'))
  case atStart => exact ⟨0, rfl, ⟨rfl⟩, ⟨Nat.zero_le _⟩, HR0⟩
  case round =>
    obtain ⟨c, rfl, HK, HJ, HR⟩ := hrel
    cases gk with
    | zero => exact absurd HK.out (by have := HJ.out; omega)
    | succ k1 =>
      by_cases hlt : c < n
      · have hc0 : (0 : Int) ≤ (c : Int) := by omega
        have hcn : (c : Int) < (n : Int) := by omega
        have HW3 : Aside0 (wrap64 ((c : Int) + 1) = ((c + 1 : Nat) : Int)) := ⟨wrap_up c n (by omega) (by have := HN4.out; omega)⟩
        have c1 := HR.out.ix.c1
        obtain ⟨r, rc, eR⟩ := HR.out.ix.form (k := n + c) (by omega)
        have hi := HR.out.ix.rowi hlt eR
        have HRS := Aside0.mk (HS.out (n + c) (by omega) r rc eR)
        have HNE : Aside0 (gg ≠ r) := ⟨by have h1 := HRS.out.2; have h2 := GG.out; omega⟩
        have hrow := HR.out.ix.at_ (k := n + c) (by omega) eR
        have HROW := Aside0.mk hrow
        have ER := Aside0.mk eR
        clear hrow eR
        by_cases hca : c = a
        · have HCA : Aside0 (a = a) := ⟨rfl⟩
          have hac : a = c := hca.symm
          subst hac
          clear hca
          go_wp2_with (go_at_call 32; ((with_reducible refine (join_calls wr r rc (wide n) (some ⟨gg, 0, none⟩) cg _ _ HROW.out gg rfl HR.out.gain HNE.out (by have := HW.out; omega)).mono ?_); rintro e8 w8 ⟨rfl, r8, f8⟩; have HY := Aside0.mk (HR.out.yes hlt (.inl HCA.out) ER.out HRS.out.1 HNE.out (Below.refl _ _) r8 f8); clear r8 f8))
          go_roundg k1
          case measure => omega
          case rel => exact ⟨a + 1, by first | rfl | (rw [← HW3.out]) | (congr 1; omega), ⟨by have := HK.out; omega⟩, ⟨by omega⟩, HY⟩
        · have dca : decide ((c : Int) = (a : Int)) = false := decide_eq_false (by omega)
          have HCA := Aside0.mk hca
          have HH := Aside0.mk (has_calls wr (some ⟨r, 0, none⟩) rc (wide n) a _ HROW.out (by have h1 := HW.out; have h2 := HAN.out; omega) (by have := HW.out; omega))
          rw [addS_at] at HH
          by_cases hx : addL X a b (n + c) a = true
          · rw [hx] at HH
            have HXX := Aside0.mk hx
            clear hx
            go_wp2_with (first
              | (go_at_call 30; ((with_reducible refine HH.out.mono ?_); rintro e8 w8 ⟨rfl, d8⟩; have B8 := Aside0.mk d8.below; have c18 := (HR.out.ix.below B8.out).c1; have hi8 := (HR.out.ix.below B8.out).rowi hlt ER.out; clear d8))
              | (go_at_call 32; ((with_reducible refine (join_calls w8 r rc (wide n) (some ⟨gg, 0, none⟩) cg _ _ (HROW.out.below B8.out) gg rfl (HR.out.gain.below B8.out) HNE.out (by have := HW.out; omega)).mono ?_); rintro e9 w9 ⟨rfl, r9, f9⟩; have HY := Aside0.mk (HR.out.yes hlt (.inr HXX.out) ER.out HRS.out.1 HNE.out B8.out r9 f9); clear r9 f9)))
            go_roundg k1
            case measure => omega
            case rel => exact ⟨c + 1, by first | rfl | (rw [← HW3.out]) | (congr 1; omega), ⟨by have := HK.out; omega⟩, ⟨by omega⟩, HY⟩
          · have HXX := Aside0.mk hx
            rw [Bool.not_eq_true] at hx
            rw [hx] at HH
            clear hx
            go_wp2_with (go_at_call 30; ((with_reducible refine HH.out.mono ?_); rintro e8 w8 ⟨rfl, d8⟩; have HY := Aside0.mk (HR.out.no (fun h => h.elim HCA.out HXX.out) d8.below); clear d8))
            go_roundg k1
            case measure => omega
            case rel => exact ⟨c + 1, by first | rfl | (rw [← HW3.out]) | (congr 1; omega), ⟨by have := HK.out; omega⟩, ⟨by omega⟩, HY⟩
      · have hjn : c = n := by have := HJ.out; omega
        subst hjn
        have hd : decide ((c : Int) < (c : Int)) = false := decide_eq_false (by omega)
        go_wp2
        go_ret
        exact ⟨rfl, ⟨gl, gi, cl, ci, V, HR.out.ix, HSS.out⟩, HR.out.fr⟩
end Go.Proofs.YtmldefednihohaaDoor.Grp
