/- write: a thing is written (plain walks). -/
import Derived.Test.YtkjkmaopifmghaaKxOctP
namespace Go.Proofs.Ytkjkmaopifmghaa.Oct
open Go.RowKit Go.Proofs.YtkjkmaopifmghaaW.PrintWords Go.Proofs.YtkjkmaopifmghaaW.PrintLast Go.Proofs.YtkjkmaopifmghaaW.PrintMore Go.Proofs.Ytkjkmaopifmghaa.OctShort Go.Proofs.Ytkjkmaopifmghaa.OctCopy Go.Proofs.Ytkjkmaopifmghaa.OctNum Go.Proofs.Ytkjkmaopifmghaa.PureShort
set_option linter.unusedVariables false
set_option linter.unusedSimpArgs false
set_option maxRecDepth 100000
abbrev PutD.val (d : PutD) : Value := .agg #[.int .i64 d.on, .int .i64 d.kind, .int .u64 d.u, .int .i64 d.i, .float .f32 d.r, .string d.t, .slice d.A d.raw.length d.c]
def enc (d : PutD) : Nat → List Int
  | 0 => [d.u % 256]
  | 1 => dg 10 d.u
  | 2 => dg 10 (turned d.i)
  | 3 => quad (keyB d.r)
  | 4 => dg 10 (d.t.size : Int) ++ bytesOf d.t
  | _ => d.raw
theorem wx_below (w : World) (o : Obj) (m : Nat) : Below w.heap.size w ((w.alloc o).drewN m) := below_step (below_alloc (Below.refl _ _) o) (dn_below _ m)
theorem size_bx (w : World) (o : Obj) (m : Nat) : w.heap.size ≤ ((w.alloc o).drewN m).heap.size := (wx_below w o m).size
theorem pow10 (u : Int) (h : u < 18446744073709551616) : u < 128 ^ 10 := by
  have : (128 : Int) ^ 10 = 1180591620717411303424 := by decide
  omega
def WritePost (w : World) (g : Nat) (S : Nat → Prop) (l : List Int) (e : Ending) (w' : World) : Prop := e = .returned (.tuple #[]) ∧ WrAt w' g (fun k => S k ∨ w.heap.size ≤ k) l ∧ Fr w w' S
set_option maxHeartbeats 4000000 in
theorem write_0 (w : World) (g : Nat) (S : Nat → Prop) (l : List Int) (d : PutD) (A : Option Addr) (c : Nat) (h : WrAt w g S l) (hd : PutOk w.heap.size d) (hl : l.length + 16 + d.t.size + d.raw.length ≤ 140737488351232) (hA : U8.C w A d.raw.length d.raw) (hp : latchkeykit_Pick.f d.kind 6 = some 0) :
    Calls Try.prog 18 #[.pointer (some ⟨g, 0, none⟩), d.val, .slice A d.raw.length c] w (WritePost w g S (l ++ enc d 0)) := by
  have H := Aside0.mk h
  have HL := Aside0.mk hl
  have HA := Aside0.mk hA
  have HP := Aside0.mk hp
  obtain ⟨on, kind, u, i, r, t, Ar, cr, raw⟩ := d
  have hu0 := hd.hu.1
  have hu1 := hd.hu.2
  have HU := Aside0.mk hd.hu
  have HI := Aside0.mk hd.hi
  have HR := Aside0.mk hd.hr
  have HT := Aside0.mk hd.ht
  have hm1 : u % 256 % 256 = u % 256 := by omega
  simp only [] at hu0 hu1
  clear h hl hA hp hd
  go_enter Try.func18, Try.ntmps18
  go_wp2_with (first | (go_at_call 15; go_loud (refine (latchkeykit_Pick.calls kind 6 0 _ HP.out).mono ?_); rintro e4 w4 ⟨rfl, ⟨m0, rfl⟩⟩) | (go_at_call 47; go_loud (refine (Writer_Byte _ g S l (u % 256) (H.out.below (wx_below _ _ _)) (by have := HL.out; omega)).mono ?_); rintro e5 w5 ⟨rfl, h1, h2⟩; have H1 := Aside0.mk (h1.mono (T := fun k => S k ∨ w.heap.size ≤ k) (fun k hk => hk.elim .inl (fun h => .inr (Nat.le_trans (size_bx _ _ _) h)))); have H2 := Aside0.mk ((Fr.of_below (wx_below _ _ _) S).then_ h2 (fun k hk => .inl hk)); clear h1 h2))
  (try simp only [Exit.inBlock, Exit.then])
  refine ⟨rfl, _, res0 rfl _ _ _, ?_⟩
  exact ⟨rfl, H1.out, H2.out⟩
set_option maxHeartbeats 4000000 in
theorem write_1 (w : World) (g : Nat) (S : Nat → Prop) (l : List Int) (d : PutD) (A : Option Addr) (c : Nat) (h : WrAt w g S l) (hd : PutOk w.heap.size d) (hl : l.length + 16 + d.t.size + d.raw.length ≤ 140737488351232) (hA : U8.C w A d.raw.length d.raw) (hp : latchkeykit_Pick.f d.kind 6 = some 1) :
    Calls Try.prog 18 #[.pointer (some ⟨g, 0, none⟩), d.val, .slice A d.raw.length c] w (WritePost w g S (l ++ enc d 1)) := by
  have H := Aside0.mk h
  have HL := Aside0.mk hl
  have HA := Aside0.mk hA
  have HP := Aside0.mk hp
  obtain ⟨on, kind, u, i, r, t, Ar, cr, raw⟩ := d
  have hu0 := hd.hu.1
  have hu1 := hd.hu.2
  have HU := Aside0.mk hd.hu
  have HI := Aside0.mk hd.hi
  have HR := Aside0.mk hd.hr
  have HT := Aside0.mk hd.ht
  skip
  simp only [] at hu0 hu1
  clear h hl hA hp hd
  go_enter Try.func18, Try.ntmps18
  go_wp2_with (first | (go_at_call 15; go_loud (refine (latchkeykit_Pick.calls kind 6 1 _ HP.out).mono ?_); rintro e4 w4 ⟨rfl, ⟨m0, rfl⟩⟩) | (go_at_call 30; go_loud (refine (Writer_Uint 10 _ g S l u _ (H.out.below (wx_below _ _ _)) (uint_dg 10 u l HU.out.1 (pow10 u HU.out.2) (by omega) (by have := HL.out; omega))).mono ?_); rintro e5 w5 ⟨rfl, h1, h2⟩; have H1 := Aside0.mk (h1.mono (T := fun k => S k ∨ w.heap.size ≤ k) (fun k hk => hk.elim .inl (fun h => .inr (Nat.le_trans (size_bx _ _ _) h)))); have H2 := Aside0.mk ((Fr.of_below (wx_below _ _ _) S).then_ h2 (fun k hk => .inl hk)); clear h1 h2))
  (try simp only [Exit.inBlock, Exit.then])
  refine ⟨rfl, _, res0 rfl _ _ _, ?_⟩
  exact ⟨rfl, H1.out, H2.out⟩
set_option maxHeartbeats 4000000 in
theorem write_2 (w : World) (g : Nat) (S : Nat → Prop) (l : List Int) (d : PutD) (A : Option Addr) (c : Nat) (h : WrAt w g S l) (hd : PutOk w.heap.size d) (hl : l.length + 16 + d.t.size + d.raw.length ≤ 140737488351232) (hA : U8.C w A d.raw.length d.raw) (hp : latchkeykit_Pick.f d.kind 6 = some 2) :
    Calls Try.prog 18 #[.pointer (some ⟨g, 0, none⟩), d.val, .slice A d.raw.length c] w (WritePost w g S (l ++ enc d 2)) := by
  have H := Aside0.mk h
  have HL := Aside0.mk hl
  have HA := Aside0.mk hA
  have HP := Aside0.mk hp
  obtain ⟨on, kind, u, i, r, t, Ar, cr, raw⟩ := d
  have hu0 := hd.hu.1
  have hu1 := hd.hu.2
  have HU := Aside0.mk hd.hu
  have HI := Aside0.mk hd.hi
  have HR := Aside0.mk hd.hr
  have HT := Aside0.mk hd.ht
  skip
  simp only [] at hu0 hu1
  clear h hl hA hp hd
  go_enter Try.func18, Try.ntmps18
  go_wp2_with (first | (go_at_call 15; go_loud (refine (latchkeykit_Pick.calls kind 6 2 _ HP.out).mono ?_); rintro e4 w4 ⟨rfl, ⟨m0, rfl⟩⟩) | (go_at_call 32; go_loud (refine (Writer_Int 10 _ g S l i _ (H.out.below (wx_below _ _ _)) (uint_dg 10 (turned i) l (PureForms.back_turned i HI.out.1 HI.out.2).2.1 (pow10 _ (PureForms.back_turned i HI.out.1 HI.out.2).2.2) (by omega) (by have := HL.out; omega))).mono ?_); rintro e5 w5 ⟨rfl, h1, h2⟩; have H1 := Aside0.mk (h1.mono (T := fun k => S k ∨ w.heap.size ≤ k) (fun k hk => hk.elim .inl (fun h => .inr (Nat.le_trans (size_bx _ _ _) h)))); have H2 := Aside0.mk ((Fr.of_below (wx_below _ _ _) S).then_ h2 (fun k hk => .inl hk)); clear h1 h2))
  (try simp only [Exit.inBlock, Exit.then])
  refine ⟨rfl, _, res0 rfl _ _ _, ?_⟩
  exact ⟨rfl, H1.out, H2.out⟩
set_option maxHeartbeats 4000000 in
theorem write_3 (w : World) (g : Nat) (S : Nat → Prop) (l : List Int) (d : PutD) (A : Option Addr) (c : Nat) (h : WrAt w g S l) (hd : PutOk w.heap.size d) (hl : l.length + 16 + d.t.size + d.raw.length ≤ 140737488351232) (hA : U8.C w A d.raw.length d.raw) (hp : latchkeykit_Pick.f d.kind 6 = some 3) :
    Calls Try.prog 18 #[.pointer (some ⟨g, 0, none⟩), d.val, .slice A d.raw.length c] w (WritePost w g S (l ++ enc d 3)) := by
  have H := Aside0.mk h
  have HL := Aside0.mk hl
  have HA := Aside0.mk hA
  have HP := Aside0.mk hp
  obtain ⟨on, kind, u, i, r, t, Ar, cr, raw⟩ := d
  have hu0 := hd.hu.1
  have hu1 := hd.hu.2
  have HU := Aside0.mk hd.hu
  have HI := Aside0.mk hd.hi
  have HR := Aside0.mk hd.hr
  have HT := Aside0.mk hd.ht
  skip
  simp only [] at hu0 hu1
  clear h hl hA hp hd
  go_enter Try.func18, Try.ntmps18
  go_wp2_with (first | (go_at_call 15; go_loud (refine (latchkeykit_Pick.calls kind 6 3 _ HP.out).mono ?_); rintro e4 w4 ⟨rfl, ⟨m0, rfl⟩⟩) | (go_at_call 34; go_loud (refine (Writer_Real _ g S l r HR.out (H.out.below (wx_below _ _ _)) (by have := HL.out; omega)).mono ?_); rintro e5 w5 ⟨rfl, h1, h2⟩; have H1 := Aside0.mk (h1.mono (T := fun k => S k ∨ w.heap.size ≤ k) (fun k hk => hk.elim .inl (fun h => .inr (Nat.le_trans (size_bx _ _ _) h)))); have H2 := Aside0.mk ((Fr.of_below (wx_below _ _ _) S).then_ h2 (fun k hk => .inl hk)); clear h1 h2))
  (try simp only [Exit.inBlock, Exit.then])
  refine ⟨rfl, _, res0 rfl _ _ _, ?_⟩
  exact ⟨rfl, H1.out, H2.out⟩
set_option maxHeartbeats 4000000 in
theorem write_4 (w : World) (g : Nat) (S : Nat → Prop) (l : List Int) (d : PutD) (A : Option Addr) (c : Nat) (h : WrAt w g S l) (hd : PutOk w.heap.size d) (hl : l.length + 16 + d.t.size + d.raw.length ≤ 140737488351232) (hA : U8.C w A d.raw.length d.raw) (hp : latchkeykit_Pick.f d.kind 6 = some 4) :
    Calls Try.prog 18 #[.pointer (some ⟨g, 0, none⟩), d.val, .slice A d.raw.length c] w (WritePost w g S (l ++ enc d 4)) := by
  have H := Aside0.mk h
  have HL := Aside0.mk hl
  have HA := Aside0.mk hA
  have HP := Aside0.mk hp
  obtain ⟨on, kind, u, i, r, t, Ar, cr, raw⟩ := d
  have hu0 := hd.hu.1
  have hu1 := hd.hu.2
  have HU := Aside0.mk hd.hu
  have HI := Aside0.mk hd.hi
  have HR := Aside0.mk hd.hr
  have HT := Aside0.mk hd.ht
  skip
  simp only [] at hu0 hu1
  clear h hl hA hp hd
  go_enter Try.func18, Try.ntmps18
  go_wp2_with (first | (go_at_call 15; go_loud (refine (latchkeykit_Pick.calls kind 6 4 _ HP.out).mono ?_); rintro e4 w4 ⟨rfl, ⟨m0, rfl⟩⟩) | (go_at_call 48; go_loud (refine (Writer_Text 10 _ g S l t _ (H.out.below (wx_below _ _ _)) (by have := HT.out; omega) (uint_dg 10 (t.size : Int) l (by omega) (pow10 _ (by have := HT.out; omega)) (by omega) (by have := HL.out; omega)) (by have := HL.out; have := dg_len 10 (t.size : Int); simp only [List.length_append]; omega)).mono ?_); rintro e5 w5 ⟨rfl, h1, h2⟩; have H1 := Aside0.mk (h1.mono (T := fun k => S k ∨ w.heap.size ≤ k) (fun k hk => hk.elim .inl (fun h => .inr (Nat.le_trans (size_bx _ _ _) h)))); have H2 := Aside0.mk ((Fr.of_below (wx_below _ _ _) S).then_ h2 (fun k hk => .inl hk)); clear h1 h2))
  (try simp only [Exit.inBlock, Exit.then])
  refine ⟨rfl, _, res0 rfl _ _ _, ?_⟩
  exact ⟨rfl, by have := H1.out; rw [List.append_assoc] at this; exact this, H2.out⟩
set_option maxHeartbeats 4000000 in
theorem write_5 (w : World) (g : Nat) (S : Nat → Prop) (l : List Int) (d : PutD) (A : Option Addr) (c : Nat) (h : WrAt w g S l) (hd : PutOk w.heap.size d) (hl : l.length + 16 + d.t.size + d.raw.length ≤ 140737488351232) (hA : U8.C w A d.raw.length d.raw) (hp : latchkeykit_Pick.f d.kind 6 = some 5) :
    Calls Try.prog 18 #[.pointer (some ⟨g, 0, none⟩), d.val, .slice A d.raw.length c] w (WritePost w g S (l ++ enc d 5)) := by
  have H := Aside0.mk h
  have HL := Aside0.mk hl
  have HA := Aside0.mk hA
  have HP := Aside0.mk hp
  obtain ⟨on, kind, u, i, r, t, Ar, cr, raw⟩ := d
  have hu0 := hd.hu.1
  have hu1 := hd.hu.2
  have HU := Aside0.mk hd.hu
  have HI := Aside0.mk hd.hi
  have HR := Aside0.mk hd.hr
  have HT := Aside0.mk hd.ht
  skip
  simp only [] at hu0 hu1
  clear h hl hA hp hd
  go_enter Try.func18, Try.ntmps18
  go_wp2_with (first | (go_at_call 15; go_loud (refine (latchkeykit_Pick.calls kind 6 5 _ HP.out).mono ?_); rintro e4 w4 ⟨rfl, ⟨m0, rfl⟩⟩) | (go_at_call 45; go_loud (refine (Writer_Raw _ g S l raw A raw.length c (H.out.below (wx_below _ _ _)) (Kd.C_below HA.out (wx_below _ _ _)) (by have := HL.out; omega)).mono ?_); rintro e5 w5 ⟨rfl, h1, h2⟩; have H1 := Aside0.mk (h1.mono (T := fun k => S k ∨ w.heap.size ≤ k) (fun k hk => hk.elim .inl (fun h => .inr (Nat.le_trans (size_bx _ _ _) h)))); have H2 := Aside0.mk ((Fr.of_below (wx_below _ _ _) S).then_ h2 (fun k hk => .inl hk)); clear h1 h2))
  (try simp only [Exit.inBlock, Exit.then])
  refine ⟨rfl, _, res0 rfl _ _ _, ?_⟩
  exact ⟨rfl, H1.out, H2.out⟩
theorem write_any (w : World) (g : Nat) (S : Nat → Prop) (l : List Int) (d : PutD) (A : Option Addr) (c : Nat) (j : Nat) (hj : j < 6) (h : WrAt w g S l) (hd : PutOk w.heap.size d) (hl : l.length + 16 + d.t.size + d.raw.length ≤ 140737488351232) (hA : U8.C w A d.raw.length d.raw) (hp : latchkeykit_Pick.f d.kind 6 = some (j : Int)) :
    Calls Try.prog 18 #[.pointer (some ⟨g, 0, none⟩), d.val, .slice A d.raw.length c] w (WritePost w g S (l ++ enc d j)) := by
  rcases (by omega : j = 0 ∨ j = 1 ∨ j = 2 ∨ j = 3 ∨ j = 4 ∨ j = 5) with rfl | rfl | rfl | rfl | rfl | rfl
  · exact write_0 w g S l d A c h hd hl hA hp
  · exact write_1 w g S l d A c h hd hl hA hp
  · exact write_2 w g S l d A c h hd hl hA hp
  · exact write_3 w g S l d A c h hd hl hA hp
  · exact write_4 w g S l d A c h hd hl hA hp
  · exact write_5 w g S l d A c h hd hl hA hp
theorem enc_len (d : PutD) (j : Nat) : (enc d j).length ≤ 16 + d.t.size + d.raw.length := by
  have h1 := dg_len 10 d.u
  have h2 := dg_len 10 (turned d.i)
  have h3 := dg_len 10 (d.t.size : Int)
  have h4 := bytesOf_length d.t
  unfold enc
  split <;> simp [quad, List.length_append] <;> omega

end Go.Proofs.Ytkjkmaopifmghaa.Oct
