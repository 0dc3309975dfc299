/- The walks of get: one read of the program's Reader and of the reference's, held against one another. -/
import Derived.Test.YtkjkmaopifmghaaOctD
import Derived.Test.YtkjkmaopifmghaaOctCopyx1
import Derived.RegionTactic
import Derived.ChangeAlike
import Derived.Deep.RegionHeld3
import Derived.Deep.QuietTactic
import Derived.BigQuiet
namespace Go.Proofs.Ytkjkmaopifmghaa.Oct
open Go.RowKit Go.Proofs.YtkjkmaopifmghaaW.PrintWords Go.Proofs.YtkjkmaopifmghaaW.PrintLast Go.Proofs.YtkjkmaopifmghaaW.PrintMore Go.Proofs.Ytkjkmaopifmghaa.OctShort Go.Proofs.Ytkjkmaopifmghaa.OctCopy Go.Proofs.Ytkjkmaopifmghaa.OctNum
set_option linter.unusedVariables false
set_option linter.unusedSimpArgs false
set_option maxRecDepth 100000
/-- The two Readers, in the same state. -/
structure Two (w : World) (g gd : Nat) (S Sd : Nat → Prop) (l : List Int) (e : Int) : Prop where
  r : RdAt w g S l e
  d : DdAt w gd Sd l e
def GetPost (w : World) (g gd : Nat) (S Sd : Nat → Prop) (l : List Int) (r : Ending) (w' : World) : Prop :=
  r = .returned (.bool true) ∧ (∃ l' e', Two w' g gd S Sd l' e' ∧ l'.length ≤ l.length ∧ ∀ x ∈ l', x ∈ l) ∧ Fr w w' (fun k => k = g ∨ k = gd)
theorem bx_below (w : World) (o : Obj) (m : Nat) : Below w.heap.size w ((w.alloc o).drewN m) := below_step (below_alloc (Below.refl _ _) o) (dn_below _ m)
theorem cell_kept {W w1 : World} {T : Nat → Prop} {b o : Nat} {v : Value} (hc : W.cell? ⟨b, o, none⟩ = some v) (hk : Kept W w1 T) (hn : ¬ T b) : w1.cell? ⟨b, o, none⟩ = some v := by
  have hlt : b < W.heap.size := by
    rcases Nat.lt_or_ge b W.heap.size with hh | hh
    · exact hh
    · simp [World.cell?, hh] at hc
  rw [World.cell?_of_block (w := W) (w' := w1) (a := ⟨b, o, none⟩) (hk.2 b hlt hn)]
  exact hc
theorem box_cell (w : World) (cs : Array Value) (T m i : Nat) (v : Value) (h : cs[i]? = some v) : ((w.alloc (.cells cs T)).drewN m).cell? ⟨w.heap.size, i, none⟩ = some v := by
  have hn := heap_alloc_new w (.cells cs T)
  show (w.alloc (.cells cs T)).cell? ⟨w.heap.size, i, none⟩ = some v
  unfold World.cell?
  dsimp only
  rw [hn]
  simpa using h
theorem quietA {P : Program} {f : FuncId} {args : Array Value} {w : World} {a n : Nat} {v : Value} (h : Calls P f args (w.drewN (a + n)) fun e w' => e = .returned v ∧ w' = w.drewN (a + n)) :
    Calls P f args (w.drewN (a + n)) fun e w1 => e = .returned v ∧ ∃ m, w1 = w.drewN (a + m) := h.mono fun _ _ hh => ⟨hh.1, n, hh.2⟩
theorem mReal_lt (l : List Int) (e : Int) (hb : ∀ x ∈ l, 0 ≤ x ∧ x < 256) : (mReal l e).1 < 4294967296 := by
  unfold mReal
  split
  · exact (by decide : (0 : Nat) < 4294967296)
  · split
    · next a b c d t =>
      have ha := hb a (by simp)
      have hb' := hb b (by simp)
      have hc := hb c (by simp)
      have hd := hb d (by simp)
      split
      · exact realB_lt _ (by unfold four; omega) (by unfold four; omega)
      · exact (by decide : (0 : Nat) < 4294967296)
    · exact (by decide : (0 : Nat) < 4294967296)
theorem mByte_sub (l : List Int) (e : Int) : (mByte l e).2.1.length ≤ l.length ∧ ∀ x ∈ (mByte l e).2.1, x ∈ l := by
  unfold mByte
  split
  · exact ⟨Nat.le_refl _, fun _ h => h⟩
  · split
    · simp
    · simp; intro x h; exact .inr h
theorem drop_sub (l : List Int) (n : Nat) : (l.drop n).length ≤ l.length ∧ ∀ x ∈ l.drop n, x ∈ l := ⟨by rw [List.length_drop]; omega, fun x h => List.mem_of_mem_drop h⟩
theorem mUint_sub (q : Int × Int × Int) (l : List Int) (e : Int) : (mUint q l e).2.1.length ≤ l.length ∧ ∀ x ∈ (mUint q l e).2.1, x ∈ l := by
  unfold mUint
  split
  · exact ⟨Nat.le_refl _, fun _ h => h⟩
  · exact drop_sub l _
theorem mReal_sub (l : List Int) (e : Int) : (mReal l e).2.1.length ≤ l.length ∧ ∀ x ∈ (mReal l e).2.1, x ∈ l := by
  unfold mReal
  split
  · exact ⟨Nat.le_refl _, fun _ h => h⟩
  · split
    · split
      · simp; constructor
        · omega
        · intro x h; exact .inr (.inr (.inr (.inr h)))
      · exact ⟨Nat.le_refl _, fun _ h => h⟩
    · exact ⟨Nat.le_refl _, fun _ h => h⟩
theorem mText_sub (m : Int) (q : Int × Int × Int) (l : List Int) (e : Int) : (mText m q l e).2.1.length ≤ l.length ∧ ∀ x ∈ (mText m q l e).2.1, x ∈ l := by
  unfold mText
  repeat' split
  all_goals first | exact ⟨Nat.le_refl _, fun _ h => h⟩ | exact drop_sub l _
theorem mRaw_sub (n : Int) (l : List Int) (e : Int) : (mRaw n l e).2.1.length ≤ l.length ∧ ∀ x ∈ (mRaw n l e).2.1, x ∈ l := by
  unfold mRaw
  repeat' split
  all_goals first | exact ⟨Nat.le_refl _, fun _ h => h⟩ | exact drop_sub l _
set_option maxHeartbeats 4000000 in
theorem get_0 (k : Nat) (w : World) (g gd : Nat) (S Sd : Nat → Prop) (l : List Int) (e on kd N : Int) (h : Two w g gd S Sd l e) (hS : ∀ k, S k → ¬ Sd k) (hl : l.length ≤ 140737488351232) (hb : ∀ x ∈ l, 0 ≤ x ∧ x < 256) (hp : latchkeykit_Pick.f kd 8 = some 0) :
    Calls Try.prog 38 #[.pointer (some ⟨g, 0, none⟩), .pointer (some ⟨gd, 0, none⟩), .agg #[.int .i64 on, .int .i64 kd, .int .i64 N]] w (GetPost w g gd S Sd l) := by
  have H := Aside0.mk h
  have HS := Aside0.mk hS
  have HL := Aside0.mk hl
  have HB := Aside0.mk hb
  have HP := Aside0.mk hp
  have R0 := Aside0.mk h.r
  have D0 := Aside0.mk h.d
  have GS : Aside0 (S g) := ⟨by obtain ⟨_, _, _, _, _, h, _⟩ := h.r; exact h⟩
  have GD : Aside0 (Sd gd) := ⟨by obtain ⟨_, _, _, _, _, h, _⟩ := h.d; exact h⟩
  have GDL : Aside0 (gd < w.heap.size) := ⟨by obtain ⟨_, _, h, _⟩ := h.d; exact blk_lt h⟩
  have HSUB := Aside0.mk (mByte_sub l e)
  clear hS hl hb hp h
  go_enter Try.func38, Try.ntmps38
  go_wp2_with (first | (go_at_call 15; go_loud (refine (latchkeykit_Pick.calls kd 8 0 _ HP.out).mono ?_); rintro e4 w4 ⟨rfl, ⟨m0, rfl⟩⟩) | (go_at_call 41; go_loud (refine (Reader_Byte _ g l e (R0.out.below (bx_below _ _ m0))).mono ?_); rintro e1 w1 ⟨rfl, h1, h2⟩; have R1 := Aside0.mk h1; have F1 := Aside0.mk ((Fr.of_below (bx_below _ _ m0) (fun k => k = g ∨ k = gd)).then_ h2 (fun _ h => .inl (.inl h))); have D1 := Aside0.mk ((D0.out.below (bx_below _ _ m0)).fr h2.2 (fun k hk e_ => HS.out g GS.out (e_ ▸ hk))); clear h1 h2) | (go_at_call 61; go_loud (refine (ref_Byte _ gd l e D1.out (by have := HL.out; omega)).mono ?_); rintro e2 w2 ⟨rfl, h1, h2⟩; have D2 := Aside0.mk h1; have F2 := Aside0.mk (F1.out.then_ h2 (fun _ h => .inl (.inr h))); have R2 := Aside0.mk (R1.out.fr h2.2 (fun k hk e_ => HS.out k hk (e_ ▸ GD.out))); clear h1 h2))
  go_ret
  exact ⟨by first | rfl | (simp; done), ⟨_, _, ⟨R2.out, D2.out⟩, HSUB.out⟩, F2.out⟩
set_option maxHeartbeats 4000000 in
theorem get_1 (k : Nat) (w : World) (g gd : Nat) (S Sd : Nat → Prop) (l : List Int) (e on kd N : Int) (h : Two w g gd S Sd l e) (hS : ∀ k, S k → ¬ Sd k) (hl : l.length ≤ 140737488351232) (hb : ∀ x ∈ l, 0 ≤ x ∧ x < 256) (hp : latchkeykit_Pick.f kd 8 = some 1) (x s : Int) (n : Nat) (hq : octets_short.f 31 l = some (x, (n : Int), s)) (hq2 : latchkeyref02_number.f 201 l = some (x, (n : Int), s)) (hn : n ≤ l.length) (hx0 : 0 ≤ x) (hx1 : x < 18446744073709551616) (hz : s ≠ 0 → x = 0 ∧ n = 0) :
    Calls Try.prog 38 #[.pointer (some ⟨g, 0, none⟩), .pointer (some ⟨gd, 0, none⟩), .agg #[.int .i64 on, .int .i64 kd, .int .i64 N]] w (GetPost w g gd S Sd l) := by
  have H := Aside0.mk h
  have HS := Aside0.mk hS
  have HL := Aside0.mk hl
  have HB := Aside0.mk hb
  have HP := Aside0.mk hp
  have R0 := Aside0.mk h.r
  have D0 := Aside0.mk h.d
  have GS : Aside0 (S g) := ⟨by obtain ⟨_, _, _, _, _, h, _⟩ := h.r; exact h⟩
  have GD : Aside0 (Sd gd) := ⟨by obtain ⟨_, _, _, _, _, h, _⟩ := h.d; exact h⟩
  have GDL : Aside0 (gd < w.heap.size) := ⟨by obtain ⟨_, _, h, _⟩ := h.d; exact blk_lt h⟩
  have HQ := Aside0.mk hq
  have HQ2 := Aside0.mk hq2
  have HN := Aside0.mk hn
  have HX := Aside0.mk hx0
  have HX1 := Aside0.mk hx1
  have HZ := Aside0.mk hz
  have HSUB := Aside0.mk (mUint_sub (x, (n : Int), s) l e)
  clear hS hl hb hp hq hq2 hn hx0 hx1 hz h
  go_enter Try.func38, Try.ntmps38
  go_wp2_with (first | (go_at_call 15; go_loud (refine (latchkeykit_Pick.calls kd 8 1 _ HP.out).mono ?_); rintro e4 w4 ⟨rfl, ⟨m0, rfl⟩⟩) | (go_at_call 31; go_loud (refine (Reader_Uint 31 _ g l e (x, (n : Int), s) (R0.out.below (bx_below _ _ m0)) HQ.out (by simp) (by have := HN.out; simp only []; omega)).mono ?_); rintro e1 w1 ⟨rfl, h1, h2⟩; have R1 := Aside0.mk h1; have F1 := Aside0.mk ((Fr.of_below (bx_below _ _ m0) (fun k => k = g ∨ k = gd)).then_ h2 (fun _ h => .inl (.inl h))); have D1 := Aside0.mk ((D0.out.below (bx_below _ _ m0)).fr h2.2 (fun k hk e_ => HS.out g GS.out (e_ ▸ hk))); clear h1 h2) | (go_at_call 62; go_loud (refine (ref_Uint 201 _ gd l e x s n D1.out (by have := HL.out; omega) HQ2.out HN.out HZ.out).mono ?_); rintro e2 w2 ⟨rfl, h1, h2⟩; have D2 := Aside0.mk h1; have F2 := Aside0.mk (F1.out.then_ h2 (fun _ h => .inl (.inr h))); have R2 := Aside0.mk (R1.out.fr h2.2 (fun k hk e_ => HS.out k hk (e_ ▸ GD.out))); clear h1 h2))
  go_ret
  exact ⟨by first | rfl | (simp; done), ⟨_, _, ⟨R2.out, D2.out⟩, HSUB.out⟩, F2.out⟩
set_option maxHeartbeats 4000000 in
theorem get_2 (k : Nat) (w : World) (g gd : Nat) (S Sd : Nat → Prop) (l : List Int) (e on kd N : Int) (h : Two w g gd S Sd l e) (hS : ∀ k, S k → ¬ Sd k) (hl : l.length ≤ 140737488351232) (hb : ∀ x ∈ l, 0 ≤ x ∧ x < 256) (hp : latchkeykit_Pick.f kd 8 = some 2) (x s : Int) (n : Nat) (hq : octets_short.f 31 l = some (x, (n : Int), s)) (hq2 : latchkeyref02_number.f 201 l = some (x, (n : Int), s)) (hn : n ≤ l.length) (hx0 : 0 ≤ x) (hx1 : x < 18446744073709551616) (hz : s ≠ 0 → x = 0 ∧ n = 0) (hbk : ∀ u : Int, 0 ≤ u → u < 18446744073709551616 → latchkeyref02_Back.f u = some (back u)) :
    Calls Try.prog 38 #[.pointer (some ⟨g, 0, none⟩), .pointer (some ⟨gd, 0, none⟩), .agg #[.int .i64 on, .int .i64 kd, .int .i64 N]] w (GetPost w g gd S Sd l) := by
  have H := Aside0.mk h
  have HS := Aside0.mk hS
  have HL := Aside0.mk hl
  have HB := Aside0.mk hb
  have HP := Aside0.mk hp
  have R0 := Aside0.mk h.r
  have D0 := Aside0.mk h.d
  have GS : Aside0 (S g) := ⟨by obtain ⟨_, _, _, _, _, h, _⟩ := h.r; exact h⟩
  have GD : Aside0 (Sd gd) := ⟨by obtain ⟨_, _, _, _, _, h, _⟩ := h.d; exact h⟩
  have GDL : Aside0 (gd < w.heap.size) := ⟨by obtain ⟨_, _, h, _⟩ := h.d; exact blk_lt h⟩
  have HQ := Aside0.mk hq
  have HQ2 := Aside0.mk hq2
  have HN := Aside0.mk hn
  have HX := Aside0.mk hx0
  have HX1 := Aside0.mk hx1
  have HZ := Aside0.mk hz
  have HSUB := Aside0.mk (mUint_sub (x, (n : Int), s) l e)
  have hmu : 0 ≤ (mUint (x, (n : Int), s) l e).1 ∧ (mUint (x, (n : Int), s) l e).1 < 18446744073709551616 := by unfold mUint; split <;> simp only [] <;> omega
  have HBK := Aside0.mk (hbk _ hmu.1 hmu.2)
  clear hmu
  clear hS hl hb hp hq hq2 hn hx0 hx1 hz hbk h
  go_enter Try.func38, Try.ntmps38
  go_wp2_with (first | (go_at_call 15; go_loud (refine (latchkeykit_Pick.calls kd 8 2 _ HP.out).mono ?_); rintro e4 w4 ⟨rfl, ⟨m0, rfl⟩⟩) | (go_at_call 33; go_loud (refine (Reader_Int 31 _ g l e (x, (n : Int), s) (R0.out.below (bx_below _ _ m0)) HQ.out (by simp) (by have := HN.out; simp only []; omega)).mono ?_); rintro e1 w1 ⟨rfl, h1, h2⟩; have R1 := Aside0.mk h1; have F1 := Aside0.mk ((Fr.of_below (bx_below _ _ m0) (fun k => k = g ∨ k = gd)).then_ h2 (fun _ h => .inl (.inl h))); have D1 := Aside0.mk ((D0.out.below (bx_below _ _ m0)).fr h2.2 (fun k hk e_ => HS.out g GS.out (e_ ▸ hk))); clear h1 h2) | (go_at_call 63; go_loud (refine (ref_Int 201 _ gd l e x s _ n D1.out (by have := HL.out; omega) HQ2.out HN.out HZ.out HBK.out).mono ?_); rintro e2 w2 ⟨rfl, h1, h2⟩; have D2 := Aside0.mk h1; have F2 := Aside0.mk (F1.out.then_ h2 (fun _ h => .inl (.inr h))); have R2 := Aside0.mk (R1.out.fr h2.2 (fun k hk e_ => HS.out k hk (e_ ▸ GD.out))); clear h1 h2))
  go_ret
  exact ⟨by first | rfl | (simp; done), ⟨_, _, ⟨R2.out, D2.out⟩, HSUB.out⟩, F2.out⟩
set_option maxHeartbeats 4000000 in
theorem get_3 (k : Nat) (w : World) (g gd : Nat) (S Sd : Nat → Prop) (l : List Int) (e on kd N : Int) (h : Two w g gd S Sd l e) (hS : ∀ k, S k → ¬ Sd k) (hl : l.length ≤ 140737488351232) (hb : ∀ x ∈ l, 0 ≤ x ∧ x < 256) (hp : latchkeykit_Pick.f kd 8 = some 3) :
    Calls Try.prog 38 #[.pointer (some ⟨g, 0, none⟩), .pointer (some ⟨gd, 0, none⟩), .agg #[.int .i64 on, .int .i64 kd, .int .i64 N]] w (GetPost w g gd S Sd l) := by
  have H := Aside0.mk h
  have HS := Aside0.mk hS
  have HL := Aside0.mk hl
  have HB := Aside0.mk hb
  have HP := Aside0.mk hp
  have R0 := Aside0.mk h.r
  have D0 := Aside0.mk h.d
  have GS : Aside0 (S g) := ⟨by obtain ⟨_, _, _, _, _, h, _⟩ := h.r; exact h⟩
  have GD : Aside0 (Sd gd) := ⟨by obtain ⟨_, _, _, _, _, h, _⟩ := h.d; exact h⟩
  have GDL : Aside0 (gd < w.heap.size) := ⟨by obtain ⟨_, _, h, _⟩ := h.d; exact blk_lt h⟩
  have HSUB := Aside0.mk (mReal_sub l e)
  have HRL := Aside0.mk (mReal_lt l e hb)
  clear hS hl hb hp h
  go_enter Try.func38, Try.ntmps38
  go_wp2_with (first | (go_at_call 15; go_loud (refine (latchkeykit_Pick.calls kd 8 3 _ HP.out).mono ?_); rintro e4 w4 ⟨rfl, ⟨m0, rfl⟩⟩) | (go_at_call 35; go_loud (refine (Reader_Real _ g l e (R0.out.below (bx_below _ _ m0)) HB.out).mono ?_); rintro e1 w1 ⟨rfl, h1, h2⟩; have R1 := Aside0.mk h1; have F1 := Aside0.mk ((Fr.of_below (bx_below _ _ m0) (fun k => k = g ∨ k = gd)).then_ h2 (fun _ h => .inl (.inl h))); have D1 := Aside0.mk ((D0.out.below (bx_below _ _ m0)).fr h2.2 (fun k hk e_ => HS.out g GS.out (e_ ▸ hk))); clear h1 h2) | (go_at_call 64; go_loud (refine (ref_Real _ gd l e D1.out (by have := HL.out; omega) HB.out).mono ?_); rintro e2 w2 ⟨rfl, h1, h2⟩; have D2 := Aside0.mk h1; have F2 := Aside0.mk (F1.out.then_ h2 (fun _ h => .inl (.inr h))); have R2 := Aside0.mk (R1.out.fr h2.2 (fun k hk e_ => HS.out k hk (e_ ▸ GD.out))); clear h1 h2) | (go_at_call 53; go_loud (refine (ref_Key (mReal l e).1 _ HRL.out).mono ?_); rintro e3 w3 ⟨rfl, rfl⟩; skip))
  go_ret
  exact ⟨by first | rfl | (simp; done), ⟨_, _, ⟨R2.out, D2.out⟩, HSUB.out⟩, F2.out⟩
set_option maxHeartbeats 4000000 in
theorem get_4 (k : Nat) (w : World) (g gd : Nat) (S Sd : Nat → Prop) (l : List Int) (e on kd N : Int) (h : Two w g gd S Sd l e) (hS : ∀ k, S k → ¬ Sd k) (hl : l.length ≤ 140737488351232) (hb : ∀ x ∈ l, 0 ≤ x ∧ x < 256) (hp : latchkeykit_Pick.f kd 8 = some 4) (x s : Int) (n : Nat) (hq : octets_short.f 31 l = some (x, (n : Int), s)) (hq2 : latchkeyref02_number.f 201 l = some (x, (n : Int), s)) (hn : n ≤ l.length) (hx0 : 0 ≤ x) (hx1 : x < 18446744073709551616) (hz : s ≠ 0 → x = 0 ∧ n = 0) (hN : N < 9223372036854775808) :
    Calls Try.prog 38 #[.pointer (some ⟨g, 0, none⟩), .pointer (some ⟨gd, 0, none⟩), .agg #[.int .i64 on, .int .i64 kd, .int .i64 N]] w (GetPost w g gd S Sd l) := by
  have H := Aside0.mk h
  have HS := Aside0.mk hS
  have HL := Aside0.mk hl
  have HB := Aside0.mk hb
  have HP := Aside0.mk hp
  have R0 := Aside0.mk h.r
  have D0 := Aside0.mk h.d
  have GS : Aside0 (S g) := ⟨by obtain ⟨_, _, _, _, _, h, _⟩ := h.r; exact h⟩
  have GD : Aside0 (Sd gd) := ⟨by obtain ⟨_, _, _, _, _, h, _⟩ := h.d; exact h⟩
  have GDL : Aside0 (gd < w.heap.size) := ⟨by obtain ⟨_, _, h, _⟩ := h.d; exact blk_lt h⟩
  have HQ := Aside0.mk hq
  have HQ2 := Aside0.mk hq2
  have HN := Aside0.mk hn
  have HX := Aside0.mk hx0
  have HX1 := Aside0.mk hx1
  have HZ := Aside0.mk hz
  have HNN := Aside0.mk hN
  have HSUB := Aside0.mk (mText_sub N (x, (n : Int), s) l e)
  clear hS hl hb hp hq hq2 hn hx0 hx1 hz hN h
  have GL : Aside0 (g < w.heap.size) := ⟨by obtain ⟨_, _, h, _⟩ := R0.out; exact blk_lt h⟩
  go_enter Try.func38, Try.ntmps38
  go_wp2_with ((go_at_call 15; go_loud (refine (latchkeykit_Pick.calls kd 8 4 _ HP.out).mono ?_); rintro e4 w4 ⟨rfl, ⟨m0, rfl⟩⟩; have B0 := fun m => box_cell w #[.int .i64 on, .int .i64 kd, .int .i64 N] 70 m 2 (.int .i64 N) rfl))
  go_region_held3 (fun W => W.cell? ⟨w.heap.size, 2, none⟩ = some (.int .i64 N)) (first | go_keep | exact B0 _ | (simpa using B1) | (simpa using B2)) (first | (go_at_call 42; go_loud (refine (Reader_Text 31 _ g l e N (x, (n : Int), s) (R0.out.below (bx_below _ _ _)) (by have := HL.out; omega) HQ.out (by simp) (by have := HN.out; simp only []; omega) HX.out HNN.out).mono ?_); rintro e1 w1 ⟨rfl, h1, h2⟩; have R1 := Aside0.mk h1; have F1 := Aside0.mk ((Fr.of_below (bx_below _ _ _) (fun k => k = g ∨ k = gd)).then_ h2 (fun _ h => .inl (.inl h))); have D1 := Aside0.mk ((D0.out.below (bx_below _ _ _)).fr h2.2 (fun k hk e_ => HS.out g GS.out (e_ ▸ hk))); have B1 := cell_kept (B0 _) h2.2 (by have h3 := GL.out; show ¬ w.heap.size = g; omega); clear h1 h2) | (go_at_call 65; go_loud (refine (ref_Text 201 _ gd l e N x s n D1.out (by have := HL.out; omega) HQ2.out HN.out HX.out HNN.out).mono ?_); rintro e2 w2 ⟨rfl, h1, h2⟩; have D2 := Aside0.mk h1; have F2 := Aside0.mk (F1.out.then_ h2 (fun _ h => .inl (.inr h))); have R2 := Aside0.mk (R1.out.fr h2.2 (fun k hk e_ => HS.out k hk (e_ ▸ GD.out))); have B2 := cell_kept B1 h2.2 (by have h3 := GDL.out; show ¬ w.heap.size = gd; omega); clear h1 h2))
  go_wp2
  go_ret
  exact ⟨by first | rfl | (simp; done), ⟨_, _, ⟨R2.out, D2.out⟩, HSUB.out⟩, F2.out⟩
set_option maxHeartbeats 4000000 in
theorem get_5 (k : Nat) (w : World) (g gd : Nat) (S Sd : Nat → Prop) (l : List Int) (e on kd N : Int) (h : Two w g gd S Sd l e) (hS : ∀ k, S k → ¬ Sd k) (hl : l.length ≤ 140737488351232) (hb : ∀ x ∈ l, 0 ≤ x ∧ x < 256) (hp : latchkeykit_Pick.f kd 8 = some 5) (hsm : latchkeyref00_SameBytes.f k (mRaw N l e).1 (mRaw N l e).1 = some true) :
    Calls Try.prog 38 #[.pointer (some ⟨g, 0, none⟩), .pointer (some ⟨gd, 0, none⟩), .agg #[.int .i64 on, .int .i64 kd, .int .i64 N]] w (GetPost w g gd S Sd l) := by
  have H := Aside0.mk h
  have HS := Aside0.mk hS
  have HL := Aside0.mk hl
  have HB := Aside0.mk hb
  have HP := Aside0.mk hp
  have R0 := Aside0.mk h.r
  have D0 := Aside0.mk h.d
  have GS : Aside0 (S g) := ⟨by obtain ⟨_, _, _, _, _, h, _⟩ := h.r; exact h⟩
  have GD : Aside0 (Sd gd) := ⟨by obtain ⟨_, _, _, _, _, h, _⟩ := h.d; exact h⟩
  have GDL : Aside0 (gd < w.heap.size) := ⟨by obtain ⟨_, _, h, _⟩ := h.d; exact blk_lt h⟩
  have HSUB := Aside0.mk (mRaw_sub N l e)
  have HSM := Aside0.mk hsm
  clear hS hl hb hp hsm h
  have GL : Aside0 (g < w.heap.size) := ⟨by obtain ⟨_, _, h, _⟩ := R0.out; exact blk_lt h⟩
  go_enter Try.func38, Try.ntmps38
  go_wp2_with ((go_at_call 15; go_loud (refine (latchkeykit_Pick.calls kd 8 5 _ HP.out).mono ?_); rintro e4 w4 ⟨rfl, ⟨m0, rfl⟩⟩; have B0 := fun m => box_cell w #[.int .i64 on, .int .i64 kd, .int .i64 N] 70 m 2 (.int .i64 N) rfl))
  go_region_held3 (fun W => W.cell? ⟨w.heap.size, 2, none⟩ = some (.int .i64 N)) (first | go_keep | exact B0 _ | (simpa using B1) | (simpa using B2)) (first | (go_at_call 43; go_loud (refine (Reader_Raw _ g l e N (R0.out.below (bx_below _ _ _)) (by have := HL.out; omega)).mono ?_); rintro e1 w1 ⟨⟨v1, rfl, q1⟩, h1, h2⟩; (obtain ⟨A1, c1, rfl⟩ := Kd.R_slice q1); have Q1 := Aside0.mk q1; clear q1; have R1 := Aside0.mk h1; have F1 := Aside0.mk ((Fr.of_below (bx_below _ _ _) (fun k => k = g ∨ k = gd)).then_ h2 (fun _ h => .inl (.inl h))); have D1 := Aside0.mk ((D0.out.below (bx_below _ _ _)).fr h2.2 (fun k hk e_ => HS.out g GS.out (e_ ▸ hk))); have B1 := cell_kept (B0 _) h2.2 (by have h3 := GL.out; show ¬ w.heap.size = g; omega); clear h1 h2) | (go_at_call 66; go_loud (refine (ref_Raw _ gd l e N D1.out (by have := HL.out; omega)).mono ?_); rintro e2 w2 ⟨⟨v2, rfl, q2⟩, h1, h2⟩; (obtain ⟨A2, c2, rfl⟩ := Kd.R_slice q2); have Q2 := Aside0.mk (Kd.R_reads' q2).2; have Q3 := Aside0.mk (C_kept (Kd.R_reads' Q1.out).2.2 h2.2 (fun ad ha e_ => by have h3 := own_base (Kd.own_of_R Q1.out) ad.block (by rw [ha]; rfl); have h4 := GDL.out; have h6 := Nat.le_trans (bx_below w _ _).size h3; omega)); clear q2; have D2 := Aside0.mk h1; have F2 := Aside0.mk (F1.out.then_ h2 (fun _ h => .inl (.inr h))); have R2 := Aside0.mk (R1.out.fr h2.2 (fun k hk e_ => HS.out k hk (e_ ▸ GD.out))); have B2 := cell_kept B1 h2.2 (by have h3 := GDL.out; show ¬ w.heap.size = gd; omega); clear h1 h2) | (go_at_call 22; go_loud (refine (latchkeyref00_SameBytes.calls k A1 c1 _ A2 c2 _ true _ Q3.out (Kd.R_reads' Q1.out).2.1 Q2.out.2 Q2.out.1 HSM.out).mono ?_); rintro e3 w3 ⟨rfl, ⟨m3, rfl⟩⟩; skip))
  go_wp2
  go_ret
  exact ⟨rfl, ⟨_, _, ⟨R2.out.below (dn_below _ m3), D2.out.below (dn_below _ m3)⟩, HSUB.out⟩, F2.out.then_ (Fr.drewN _ m3 (fun _ => False)) (fun _ h => h.elim)⟩
set_option maxHeartbeats 4000000 in
theorem get_6 (k : Nat) (w : World) (g gd : Nat) (S Sd : Nat → Prop) (l : List Int) (e on kd N : Int) (h : Two w g gd S Sd l e) (hS : ∀ k, S k → ¬ Sd k) (hl : l.length ≤ 140737488351232) (hb : ∀ x ∈ l, 0 ≤ x ∧ x < 256) (hp : latchkeykit_Pick.f kd 8 = some 6) :
    Calls Try.prog 38 #[.pointer (some ⟨g, 0, none⟩), .pointer (some ⟨gd, 0, none⟩), .agg #[.int .i64 on, .int .i64 kd, .int .i64 N]] w (GetPost w g gd S Sd l) := by
  have H := Aside0.mk h
  have HS := Aside0.mk hS
  have HL := Aside0.mk hl
  have HB := Aside0.mk hb
  have HP := Aside0.mk hp
  have R0 := Aside0.mk h.r
  have D0 := Aside0.mk h.d
  have GS : Aside0 (S g) := ⟨by obtain ⟨_, _, _, _, _, h, _⟩ := h.r; exact h⟩
  have GD : Aside0 (Sd gd) := ⟨by obtain ⟨_, _, _, _, _, h, _⟩ := h.d; exact h⟩
  have GDL : Aside0 (gd < w.heap.size) := ⟨by obtain ⟨_, _, h, _⟩ := h.d; exact blk_lt h⟩
  clear hS hl hb hp
  obtain ⟨Ad, cd, hd⟩ := h.d
  obtain ⟨⟨hc0, hf0⟩, hc1, hf1⟩ := blk_two hd.1
  have hgd : gd < w.heap.size := GDL.out
  clear hd h
  go_enter Try.func38, Try.ntmps38
  go_wp2_with ((go_at_call 15; go_loud (refine (latchkeykit_Pick.calls kd 8 6 _ HP.out).mono ?_); rintro e4 w4 ⟨rfl, ⟨m0, rfl⟩⟩; have R1 := Aside0.mk (R0.out.below (bx_below _ (.cells #[.int .i64 on, .int .i64 kd, .int .i64 N] 70) m0))))
  go_quiet ((first | (go_at_call 37; exact quietA (Reader_Left _ g l e (R0.out.below (bx_below _ _ _)))) | (go_at_call 36; exact quietA (Reader_Err _ g l e (R0.out.below (bx_below _ _ _))))))
  go_wp2
  go_ret
  have B6 := below_step (bx_below w (.cells #[.int .i64 on, .int .i64 kd, .int .i64 N] 70) m0) (dn_below _ nq)
  exact ⟨by first | rfl | (simp; done), ⟨_, _, ⟨R0.out.below B6, D0.out.below B6⟩, Nat.le_refl _, fun _ h => h⟩, Fr.of_below B6 _⟩
set_option maxHeartbeats 4000000 in
theorem get_7 (k : Nat) (w : World) (g gd : Nat) (S Sd : Nat → Prop) (l : List Int) (e on kd N : Int) (h : Two w g gd S Sd l e) (hS : ∀ k, S k → ¬ Sd k) (hl : l.length ≤ 140737488351232) (hb : ∀ x ∈ l, 0 ≤ x ∧ x < 256) (hp : latchkeykit_Pick.f kd 8 = some 7) :
    Calls Try.prog 38 #[.pointer (some ⟨g, 0, none⟩), .pointer (some ⟨gd, 0, none⟩), .agg #[.int .i64 on, .int .i64 kd, .int .i64 N]] w (GetPost w g gd S Sd l) := by
  have H := Aside0.mk h
  have HS := Aside0.mk hS
  have HL := Aside0.mk hl
  have HB := Aside0.mk hb
  have HP := Aside0.mk hp
  have R0 := Aside0.mk h.r
  have D0 := Aside0.mk h.d
  have GS : Aside0 (S g) := ⟨by obtain ⟨_, _, _, _, _, h, _⟩ := h.r; exact h⟩
  have GD : Aside0 (Sd gd) := ⟨by obtain ⟨_, _, _, _, _, h, _⟩ := h.d; exact h⟩
  have GDL : Aside0 (gd < w.heap.size) := ⟨by obtain ⟨_, _, h, _⟩ := h.d; exact blk_lt h⟩
  clear hS hl hb hp h
  go_enter Try.func38, Try.ntmps38
  go_wp2_with (first | (go_at_call 15; go_loud (refine (latchkeykit_Pick.calls kd 8 7 _ HP.out).mono ?_); rintro e4 w4 ⟨rfl, ⟨m0, rfl⟩⟩) | (go_at_call 39; go_loud (refine (Reader_End _ g l e (R0.out.below (bx_below _ _ m0))).mono ?_); rintro e1 w1 ⟨rfl, rfl⟩; skip) | (go_at_call 40; go_loud (refine (ref_End _ gd l e (D0.out.below (bx_below _ _ m0))).mono ?_); rintro e1 w1 ⟨rfl, rfl⟩; skip))
  go_ret
  exact ⟨by first | rfl | (simp; done), ⟨_, _, ⟨R0.out.below (bx_below _ _ m0), D0.out.below (bx_below _ _ m0)⟩, Nat.le_refl _, fun _ h => h⟩, Fr.of_below (bx_below _ _ m0) _⟩
end Go.Proofs.Ytkjkmaopifmghaa.Oct
