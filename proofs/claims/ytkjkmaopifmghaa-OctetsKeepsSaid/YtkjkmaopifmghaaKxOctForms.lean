/- The walks of OctetsForms, by the contracts of what it calls. -/
import Derived.Test.YtkjkmaopifmghaaKxOctM
import Derived.Test.YtkjkmaopifmghaaK3
import Derived.Test.YtkjkmaopifmghaaOctCopyx1
import Derived.RegionTactic
import Derived.ChangeAlike
import Derived.Deep.RegionHeld3
namespace Go.Proofs.Ytkjkmaopifmghaa.Oct
open Go.RowKit Go.Proofs.YtkjkmaopifmghaaW.PrintWords Go.Proofs.YtkjkmaopifmghaaW.PrintLast Go.Proofs.YtkjkmaopifmghaaW.PrintMore Go.Proofs.Ytkjkmaopifmghaa.OctShort Go.Proofs.Ytkjkmaopifmghaa.OctCopy
set_option linter.unusedVariables false
set_option linter.unusedSimpArgs false
set_option maxRecDepth 100000
theorem d0_below {w w' : World} (h : Drawn0 w w') : Below w.heap.size w w' := by
  obtain ⟨n, rfl⟩ := h
  exact ⟨rfl, rfl, rfl, Nat.le_refl _, fun _ _ => rfl⟩
theorem same_m (k : Nat) (A8 : Option Addr) (c8 : Nat) (A : Option Addr) (c : Nat) (m : List Int) (N : Nat) (w : World) (hm : m.length = N) (h1 : U8.C w A8 m.length m) (h2 : m.length ≤ c8) (h3 : U8.C w A N m) (h4 : N ≤ c) (hs : latchkeyref00_SameBytes.f k m m = some true) :
    Calls Try.prog 22 #[.slice A8 N c8, .slice A N c] w fun e w' => e = .returned (.bool true) ∧ Drawn0 w w' := by
  subst hm
  exact latchkeyref00_SameBytes.calls k A8 c8 m A c m true w h1 h2 h3 h4 hs
theorem real_any (w : World) (g : Nat) (S : Nat → Prop) (l : List Int) (x : Nat) (m : List Int) (e : Int) (h : RdAt w g S l 0) (hb : ∀ x ∈ l, 0 ≤ x ∧ x < 256) (hm : mReal l 0 = (x, m, e)) :
    Calls Try.prog 35 #[.pointer (some ⟨g, 0, none⟩)] w fun r w' => r = .returned (.float .f32 x) ∧ RdAt w' g S m e ∧ Fr w w' (fun k => k = g) := by
  have := Reader_Real w g _ 0 h hb
  rw [hm] at this
  exact this
theorem uint_any (k : Nat) (w : World) (g : Nat) (S : Nat → Prop) (l : List Int) (x n e : Int) (h : RdAt w g S l 0) (hs : octets_short.f k l = some (x, n, e)) (hn : 0 ≤ n ∧ n ≤ (l.length : Int)) (m : List Int) (hm : m = l.drop n.toNat) :
    Calls Try.prog 31 #[.pointer (some ⟨g, 0, none⟩)] w fun r w' => r = .returned (.int .u64 x) ∧ RdAt w' g S m e ∧ Fr w w' (fun k => k = g) := by
  subst hm
  exact Reader_Uint_ok k w g l x n e h hs hn.1 hn.2
theorem int_any (k : Nat) (w : World) (g : Nat) (S : Nat → Prop) (l : List Int) (x n e : Int) (h : RdAt w g S l 0) (hs : octets_short.f k l = some (x, n, e)) (hn : 0 ≤ n ∧ n ≤ (l.length : Int)) (m : List Int) (hm : m = l.drop n.toNat) :
    Calls Try.prog 33 #[.pointer (some ⟨g, 0, none⟩)] w fun r w' => r = .returned (.int .i64 (back x)) ∧ RdAt w' g S m e ∧ Fr w w' (fun k => k = g) := by
  subst hm
  exact Reader_Int_ok k w g l x n e h hs hn.1 hn.2
set_option maxHeartbeats 4000000 in
theorem forms_ok0 (k : Nat) (A : Option Addr) (c : Nat) (l m l2 : List Int) (kd e : Int) (w : World) (hr : U8.C w A l.length l) (hc : l.length ≤ c) (hl : l.length ≤ 140737488351232) (hb : ∀ x ∈ l, 0 ≤ x ∧ x < 256) (hp : latchkeykit_Pick.f kd 3 = some 0) (hcp : latchkeyref00_CopyBytes.f k l = some l)
    (x n0 : Int) (hq : octets_short.f 31 l = some (x, n0, e)) (hn0 : 0 ≤ n0 ∧ n0 ≤ (l.length : Int)) (hl2 : l2 = l.drop n0.toNat) (hw : uintL 10 [] x = some m) (he : e = 0) (N : Nat) (hN0 : 0 < N) (hN : N ≤ l.length) (hlen : l2.length = l.length - N) (hm : m = l.take N) (hs : latchkeyref00_SameBytes.f k m m = some true) :
    Calls Try.prog 7 #[.slice A l.length c, .int .i64 kd] w fun e w' => e = .returned (.bool true) ∧ Below w.heap.size w w' := by
  have HR := Aside0.mk hr
  have HC := Aside0.mk hc
  have HL := Aside0.mk hl
  have HB := Aside0.mk hb
  have HP := Aside0.mk hp
  have HCP := Aside0.mk hcp
  have HQ := Aside0.mk hq
  have HW := Aside0.mk hw
  have HN0 := Aside0.mk hn0
  have HL2 := Aside0.mk hl2
  have HS := Aside0.mk hs
  subst he
  have HM : Aside0 (m.length = N) := ⟨by rw [hm, List.length_take]; omega⟩
  have HNC : Aside0 (N ≤ c) := ⟨by omega⟩
  have HT : Aside0 (∀ {W : World}, Fr w W (Own w) → U8.C W A N m) := ⟨fun h => Kd.C_below (by rw [hm]; exact Kd.C_of_reads (enc := Value.int .u8) (d := (0 : Int)) (ReadsInt.take_ (Kd.reads_of_C (d := (0 : Int)) hr) N hN)) h.low⟩
  obtain ⟨i, hi, _, hsz, _⟩ := info_parts info5
  have hcut : ∀ W : World, (Instr.slice 22 (.slice A l.length c) none (some (.int .i64 (N : Int))) none).run Try.prog W = .ok (.slice A N c) W := cut_to (P := Try.prog) 22 5 .i64 Try.underlying22 hi A l.length c (N : Int) (by omega) (by omega) hc
  have hsub : (l.length : Int) - (l2.length : Int) = (N : Int) := by omega
  have hsub2 : wrap64 (N : Int) = (N : Int) := by unfold wrap64; omega
  have hd1 : decide ((0 : Int) < (N : Int)) = true := decide_eq_true (by omega)
  have hd2 : decide ((N : Int) ≤ (l.length : Int)) = true := decide_eq_true (by omega)
  have hd3 : (0 : Int) < (N : Int) := by omega
  have hd4 : (N : Int) ≤ (l.length : Int) := by omega
  clear hr hc hl hb hp hcp hq hw hn0 hl2 hs hm hlen hi hsz
  go_enter Try.func7, Try.ntmps7
  go_wp2_with (first | (go_at_call 12; go_loud (refine (awake_calls w).mono ?_); rintro e1 w1 ⟨rfl, b1⟩; have B1 := Aside0.mk b1; clear b1) | (go_at_call 14; go_loud (refine (latchkeyref00_CopyBytes.calls k A c l l w1 (Kd.C_below HR.out B1.out) HC.out HCP.out).mono ?_); rintro e2 w2 ⟨v2, rfl, q2, b2⟩; (obtain ⟨A2, c2, rfl⟩ := Kd.R_slice q2); have R2 := Aside0.mk (Kd.R_reads' q2).2; have B2 := Aside0.mk (below_step B1.out b2); clear q2 b2) | (go_at_call 29; go_loud (refine (Reader_Read w2 A2 l c2 R2.out.2 (by have := HL.out; omega)).mono ?_); rintro e3 w3 ⟨g, rfl, h1, h2, h3⟩; have B3 := Aside0.mk (below_step B2.out h3); have D4 := Aside0.mk (h2.below (below_alloc (Below.refl w3.heap.size w3) (.cells #[.slice none 0 0] 36))); have GS := Aside0.mk (Nat.le_trans B2.out.size h1); (have GL : Aside0 (g < w3.heap.size) := ⟨by obtain ⟨_, _, _, _, _, h, _⟩ := h2; exact h.2⟩); (obtain ⟨gw, hgw⟩ : ∃ gw, gw = w3.heap.size := ⟨_, rfl⟩); have W4 := Aside0.mk (hgw ▸ WrAt.new w3 : WrAt (w3.alloc (.cells #[.slice none 0 0] 36)) gw (Own w3) []); have F4 := Aside0.mk ((Fr.of_below B3.out (Own w)).own (Fr.of_below (below_alloc (Below.refl w3.heap.size w3) (.cells #[.slice none 0 0] 36)) (fun _ => False)) (fun _ h => h.elim)); clear h1 h2 h3; have hgw' := hgw.symm; clear hgw) | (go_at_call 15; go_loud (refine (latchkeykit_Pick.calls kd 3 0 _ HP.out).mono ?_); rintro e4 w4 ⟨rfl, ⟨m4, rfl⟩⟩; have D4b := Aside0.mk (D4.out.below (dn_below _ m4)); have W4b := Aside0.mk (W4.out.below (dn_below _ m4)); have F4b := Aside0.mk (F4.out.own (Fr.drewN _ m4 (fun _ => False)) (fun _ h => h.elim))) | (go_at_call 31; go_loud (refine (uint_any 31 _ g _ l x n0 0 D4b.out HQ.out HN0.out l2 HL2.out).mono ?_); rintro e5 w5 ⟨rfl, h1, h2⟩; have F5 := Aside0.mk (F4b.out.own h2 (fun k hk => hk ▸ GS.out)); have D5 := Aside0.mk h1; have W5 := Aside0.mk (WrAt.fr W4b.out h2.2 (fun k hk e => by have := GL.out; simp only [Own] at hk; omega)); clear h1 h2) | (go_at_call 30; go_loud (refine (Writer_Uint 10 _ gw _ [] x m W5.out HW.out).mono ?_); rintro e6 w6 ⟨rfl, h1, h2⟩; have F6 := Aside0.mk (F5.out.own h2 (fun k hk => Nat.le_trans B3.out.size hk)); have W6 := Aside0.mk h1; have D6 := Aside0.mk (D5.out.fr h2.2 (fun k hk e => Nat.lt_irrefl _ (Nat.lt_of_lt_of_le hk.2 e))); clear h1 h2) | (go_at_call 36; ((with_reducible refine (Reader_Err _ g l2 0 D6.out).mono ?_); rintro e7 w7 ⟨rfl, rfl⟩)) | (go_at_call 37; ((with_reducible refine (Reader_Left _ g l2 0 D6.out).mono ?_); rintro e7 w7 ⟨rfl, rfl⟩)))
  go_region_held3 (fun _ => True) (trivial) (first | (go_at_call 23; go_loud (refine (Writer_Bytes _ gw _ m (by first | exact W6.out.below (dr_below _) | exact W6.out) (by have := HM.out; have := HL.out; omega)).mono ?_); rintro e8 w8 ⟨v8, rfl, q8, b8⟩; (obtain ⟨A8, c8, rfl⟩ := Kd.R_slice q8); have R8 := Aside0.mk (Kd.R_reads' q8).2; have F8 := Aside0.mk ((F6.out.own (Fr.of_below (dr_below _) (fun _ => False)) (fun _ h => h.elim)).own (Fr.of_below b8 (fun _ => False)) (fun _ h => h.elim)); clear q8 b8) | (go_at_call 22; (rw [HM.out]); go_loud (refine (same_m k A8 c8 A c m N _ HM.out R8.out.2 R8.out.1 (HT.out F8.out) HNC.out HS.out).mono ?_); rintro e9 w9 ⟨rfl, ⟨m9, rfl⟩⟩))
  go_wp2
  go_ret
  exact ⟨rfl, (F8.out.own (Fr.drewN _ m9 (fun _ => False)) (fun _ h => h.elim)).low⟩
set_option maxHeartbeats 4000000 in
theorem forms_no0 (k : Nat) (A : Option Addr) (c : Nat) (l m l2 : List Int) (kd e : Int) (w : World) (hr : U8.C w A l.length l) (hc : l.length ≤ c) (hl : l.length ≤ 140737488351232) (hb : ∀ x ∈ l, 0 ≤ x ∧ x < 256) (hp : latchkeykit_Pick.f kd 3 = some 0) (hcp : latchkeyref00_CopyBytes.f k l = some l)
    (x n0 : Int) (hq : octets_short.f 31 l = some (x, n0, e)) (hn0 : 0 ≤ n0 ∧ n0 ≤ (l.length : Int)) (hl2 : l2 = l.drop n0.toNat) (hw : uintL 10 [] x = some m) (he : e = 20 ∧ l.length < 10 ∨ e = 21) (hlen : l2.length = l.length) :
    Calls Try.prog 7 #[.slice A l.length c, .int .i64 kd] w fun e w' => e = .returned (.bool true) ∧ Below w.heap.size w w' := by
  have HR := Aside0.mk hr
  have HC := Aside0.mk hc
  have HL := Aside0.mk hl
  have HB := Aside0.mk hb
  have HP := Aside0.mk hp
  have HCP := Aside0.mk hcp
  have HQ := Aside0.mk hq
  have HW := Aside0.mk hw
  have HN0 := Aside0.mk hn0
  have HL2 := Aside0.mk hl2
  have hlen2 : (l2.length : Int) = (l.length : Int) := by omega
  clear hr hc hl hb hp hcp hq hw hn0 hl2 hlen
  rcases he with ⟨rfl, he⟩ | rfl
  · have hd : decide ((l.length : Int) < 10) = true := decide_eq_true (by omega)
    clear he
    go_enter Try.func7, Try.ntmps7
    go_wp2_with (first | (go_at_call 12; go_loud (refine (awake_calls w).mono ?_); rintro e1 w1 ⟨rfl, b1⟩; have B1 := Aside0.mk b1; clear b1) | (go_at_call 14; go_loud (refine (latchkeyref00_CopyBytes.calls k A c l l w1 (Kd.C_below HR.out B1.out) HC.out HCP.out).mono ?_); rintro e2 w2 ⟨v2, rfl, q2, b2⟩; (obtain ⟨A2, c2, rfl⟩ := Kd.R_slice q2); have R2 := Aside0.mk (Kd.R_reads' q2).2; have B2 := Aside0.mk (below_step B1.out b2); clear q2 b2) | (go_at_call 29; go_loud (refine (Reader_Read w2 A2 l c2 R2.out.2 (by have := HL.out; omega)).mono ?_); rintro e3 w3 ⟨g, rfl, h1, h2, h3⟩; have B3 := Aside0.mk (below_step B2.out h3); have D4 := Aside0.mk (h2.below (below_alloc (Below.refl w3.heap.size w3) (.cells #[.slice none 0 0] 36))); have GS := Aside0.mk (Nat.le_trans B2.out.size h1); (have GL : Aside0 (g < w3.heap.size) := ⟨by obtain ⟨_, _, _, _, _, h, _⟩ := h2; exact h.2⟩); (obtain ⟨gw, hgw⟩ : ∃ gw, gw = w3.heap.size := ⟨_, rfl⟩); have W4 := Aside0.mk (hgw ▸ WrAt.new w3 : WrAt (w3.alloc (.cells #[.slice none 0 0] 36)) gw (Own w3) []); have F4 := Aside0.mk ((Fr.of_below B3.out (Own w)).own (Fr.of_below (below_alloc (Below.refl w3.heap.size w3) (.cells #[.slice none 0 0] 36)) (fun _ => False)) (fun _ h => h.elim)); clear h1 h2 h3; have hgw' := hgw.symm; clear hgw) | (go_at_call 15; go_loud (refine (latchkeykit_Pick.calls kd 3 0 _ HP.out).mono ?_); rintro e4 w4 ⟨rfl, ⟨m4, rfl⟩⟩; have D4b := Aside0.mk (D4.out.below (dn_below _ m4)); have W4b := Aside0.mk (W4.out.below (dn_below _ m4)); have F4b := Aside0.mk (F4.out.own (Fr.drewN _ m4 (fun _ => False)) (fun _ h => h.elim))) | (go_at_call 31; go_loud (refine (uint_any 31 _ g _ l x n0 20 D4b.out HQ.out HN0.out l2 HL2.out).mono ?_); rintro e5 w5 ⟨rfl, h1, h2⟩; have F5 := Aside0.mk (F4b.out.own h2 (fun k hk => hk ▸ GS.out)); have D5 := Aside0.mk h1; have W5 := Aside0.mk (WrAt.fr W4b.out h2.2 (fun k hk e => by have := GL.out; simp only [Own] at hk; omega)); clear h1 h2) | (go_at_call 30; go_loud (refine (Writer_Uint 10 _ gw _ [] x m W5.out HW.out).mono ?_); rintro e6 w6 ⟨rfl, h1, h2⟩; have F6 := Aside0.mk (F5.out.own h2 (fun k hk => Nat.le_trans B3.out.size hk)); have W6 := Aside0.mk h1; have D6 := Aside0.mk (D5.out.fr h2.2 (fun k hk e => Nat.lt_irrefl _ (Nat.lt_of_lt_of_le hk.2 e))); clear h1 h2) | (go_at_call 36; ((with_reducible refine (Reader_Err _ g l2 20 D6.out).mono ?_); rintro e7 w7 ⟨rfl, rfl⟩)) | (go_at_call 37; ((with_reducible refine (Reader_Left _ g l2 20 D6.out).mono ?_); rintro e7 w7 ⟨rfl, rfl⟩)))
    go_ret
    exact ⟨by first | rfl | (simp [hlen2, hd]; done), F6.out.low⟩
  · skip
    go_enter Try.func7, Try.ntmps7
    go_wp2_with (first | (go_at_call 12; go_loud (refine (awake_calls w).mono ?_); rintro e1 w1 ⟨rfl, b1⟩; have B1 := Aside0.mk b1; clear b1) | (go_at_call 14; go_loud (refine (latchkeyref00_CopyBytes.calls k A c l l w1 (Kd.C_below HR.out B1.out) HC.out HCP.out).mono ?_); rintro e2 w2 ⟨v2, rfl, q2, b2⟩; (obtain ⟨A2, c2, rfl⟩ := Kd.R_slice q2); have R2 := Aside0.mk (Kd.R_reads' q2).2; have B2 := Aside0.mk (below_step B1.out b2); clear q2 b2) | (go_at_call 29; go_loud (refine (Reader_Read w2 A2 l c2 R2.out.2 (by have := HL.out; omega)).mono ?_); rintro e3 w3 ⟨g, rfl, h1, h2, h3⟩; have B3 := Aside0.mk (below_step B2.out h3); have D4 := Aside0.mk (h2.below (below_alloc (Below.refl w3.heap.size w3) (.cells #[.slice none 0 0] 36))); have GS := Aside0.mk (Nat.le_trans B2.out.size h1); (have GL : Aside0 (g < w3.heap.size) := ⟨by obtain ⟨_, _, _, _, _, h, _⟩ := h2; exact h.2⟩); (obtain ⟨gw, hgw⟩ : ∃ gw, gw = w3.heap.size := ⟨_, rfl⟩); have W4 := Aside0.mk (hgw ▸ WrAt.new w3 : WrAt (w3.alloc (.cells #[.slice none 0 0] 36)) gw (Own w3) []); have F4 := Aside0.mk ((Fr.of_below B3.out (Own w)).own (Fr.of_below (below_alloc (Below.refl w3.heap.size w3) (.cells #[.slice none 0 0] 36)) (fun _ => False)) (fun _ h => h.elim)); clear h1 h2 h3; have hgw' := hgw.symm; clear hgw) | (go_at_call 15; go_loud (refine (latchkeykit_Pick.calls kd 3 0 _ HP.out).mono ?_); rintro e4 w4 ⟨rfl, ⟨m4, rfl⟩⟩; have D4b := Aside0.mk (D4.out.below (dn_below _ m4)); have W4b := Aside0.mk (W4.out.below (dn_below _ m4)); have F4b := Aside0.mk (F4.out.own (Fr.drewN _ m4 (fun _ => False)) (fun _ h => h.elim))) | (go_at_call 31; go_loud (refine (uint_any 31 _ g _ l x n0 21 D4b.out HQ.out HN0.out l2 HL2.out).mono ?_); rintro e5 w5 ⟨rfl, h1, h2⟩; have F5 := Aside0.mk (F4b.out.own h2 (fun k hk => hk ▸ GS.out)); have D5 := Aside0.mk h1; have W5 := Aside0.mk (WrAt.fr W4b.out h2.2 (fun k hk e => by have := GL.out; simp only [Own] at hk; omega)); clear h1 h2) | (go_at_call 30; go_loud (refine (Writer_Uint 10 _ gw _ [] x m W5.out HW.out).mono ?_); rintro e6 w6 ⟨rfl, h1, h2⟩; have F6 := Aside0.mk (F5.out.own h2 (fun k hk => Nat.le_trans B3.out.size hk)); have W6 := Aside0.mk h1; have D6 := Aside0.mk (D5.out.fr h2.2 (fun k hk e => Nat.lt_irrefl _ (Nat.lt_of_lt_of_le hk.2 e))); clear h1 h2) | (go_at_call 36; ((with_reducible refine (Reader_Err _ g l2 21 D6.out).mono ?_); rintro e7 w7 ⟨rfl, rfl⟩)) | (go_at_call 37; ((with_reducible refine (Reader_Left _ g l2 21 D6.out).mono ?_); rintro e7 w7 ⟨rfl, rfl⟩)))
    go_ret
    exact ⟨by first | rfl | (simp [hlen2]; done), F6.out.low⟩
set_option maxHeartbeats 4000000 in
theorem forms_ok1 (k : Nat) (A : Option Addr) (c : Nat) (l m l2 : List Int) (kd e : Int) (w : World) (hr : U8.C w A l.length l) (hc : l.length ≤ c) (hl : l.length ≤ 140737488351232) (hb : ∀ x ∈ l, 0 ≤ x ∧ x < 256) (hp : latchkeykit_Pick.f kd 3 = some 1) (hcp : latchkeyref00_CopyBytes.f k l = some l)
    (x n0 : Int) (hq : octets_short.f 31 l = some (x, n0, e)) (hn0 : 0 ≤ n0 ∧ n0 ≤ (l.length : Int)) (hl2 : l2 = l.drop n0.toNat) (hw : uintL 10 [] (turned (back x)) = some m) (he : e = 0) (N : Nat) (hN0 : 0 < N) (hN : N ≤ l.length) (hlen : l2.length = l.length - N) (hm : m = l.take N) (hs : latchkeyref00_SameBytes.f k m m = some true) :
    Calls Try.prog 7 #[.slice A l.length c, .int .i64 kd] w fun e w' => e = .returned (.bool true) ∧ Below w.heap.size w w' := by
  have HR := Aside0.mk hr
  have HC := Aside0.mk hc
  have HL := Aside0.mk hl
  have HB := Aside0.mk hb
  have HP := Aside0.mk hp
  have HCP := Aside0.mk hcp
  have HQ := Aside0.mk hq
  have HW := Aside0.mk hw
  have HN0 := Aside0.mk hn0
  have HL2 := Aside0.mk hl2
  have HS := Aside0.mk hs
  subst he
  have HM : Aside0 (m.length = N) := ⟨by rw [hm, List.length_take]; omega⟩
  have HNC : Aside0 (N ≤ c) := ⟨by omega⟩
  have HT : Aside0 (∀ {W : World}, Fr w W (Own w) → U8.C W A N m) := ⟨fun h => Kd.C_below (by rw [hm]; exact Kd.C_of_reads (enc := Value.int .u8) (d := (0 : Int)) (ReadsInt.take_ (Kd.reads_of_C (d := (0 : Int)) hr) N hN)) h.low⟩
  obtain ⟨i, hi, _, hsz, _⟩ := info_parts info5
  have hcut : ∀ W : World, (Instr.slice 22 (.slice A l.length c) none (some (.int .i64 (N : Int))) none).run Try.prog W = .ok (.slice A N c) W := cut_to (P := Try.prog) 22 5 .i64 Try.underlying22 hi A l.length c (N : Int) (by omega) (by omega) hc
  have hsub : (l.length : Int) - (l2.length : Int) = (N : Int) := by omega
  have hsub2 : wrap64 (N : Int) = (N : Int) := by unfold wrap64; omega
  have hd1 : decide ((0 : Int) < (N : Int)) = true := decide_eq_true (by omega)
  have hd2 : decide ((N : Int) ≤ (l.length : Int)) = true := decide_eq_true (by omega)
  have hd3 : (0 : Int) < (N : Int) := by omega
  have hd4 : (N : Int) ≤ (l.length : Int) := by omega
  clear hr hc hl hb hp hcp hq hw hn0 hl2 hs hm hlen hi hsz
  go_enter Try.func7, Try.ntmps7
  go_wp2_with (first | (go_at_call 12; go_loud (refine (awake_calls w).mono ?_); rintro e1 w1 ⟨rfl, b1⟩; have B1 := Aside0.mk b1; clear b1) | (go_at_call 14; go_loud (refine (latchkeyref00_CopyBytes.calls k A c l l w1 (Kd.C_below HR.out B1.out) HC.out HCP.out).mono ?_); rintro e2 w2 ⟨v2, rfl, q2, b2⟩; (obtain ⟨A2, c2, rfl⟩ := Kd.R_slice q2); have R2 := Aside0.mk (Kd.R_reads' q2).2; have B2 := Aside0.mk (below_step B1.out b2); clear q2 b2) | (go_at_call 29; go_loud (refine (Reader_Read w2 A2 l c2 R2.out.2 (by have := HL.out; omega)).mono ?_); rintro e3 w3 ⟨g, rfl, h1, h2, h3⟩; have B3 := Aside0.mk (below_step B2.out h3); have D4 := Aside0.mk (h2.below (below_alloc (Below.refl w3.heap.size w3) (.cells #[.slice none 0 0] 36))); have GS := Aside0.mk (Nat.le_trans B2.out.size h1); (have GL : Aside0 (g < w3.heap.size) := ⟨by obtain ⟨_, _, _, _, _, h, _⟩ := h2; exact h.2⟩); (obtain ⟨gw, hgw⟩ : ∃ gw, gw = w3.heap.size := ⟨_, rfl⟩); have W4 := Aside0.mk (hgw ▸ WrAt.new w3 : WrAt (w3.alloc (.cells #[.slice none 0 0] 36)) gw (Own w3) []); have F4 := Aside0.mk ((Fr.of_below B3.out (Own w)).own (Fr.of_below (below_alloc (Below.refl w3.heap.size w3) (.cells #[.slice none 0 0] 36)) (fun _ => False)) (fun _ h => h.elim)); clear h1 h2 h3; have hgw' := hgw.symm; clear hgw) | (go_at_call 15; go_loud (refine (latchkeykit_Pick.calls kd 3 1 _ HP.out).mono ?_); rintro e4 w4 ⟨rfl, ⟨m4, rfl⟩⟩; have D4b := Aside0.mk (D4.out.below (dn_below _ m4)); have W4b := Aside0.mk (W4.out.below (dn_below _ m4)); have F4b := Aside0.mk (F4.out.own (Fr.drewN _ m4 (fun _ => False)) (fun _ h => h.elim))) | (go_at_call 33; go_loud (refine (int_any 31 _ g _ l x n0 0 D4b.out HQ.out HN0.out l2 HL2.out).mono ?_); rintro e5 w5 ⟨rfl, h1, h2⟩; have F5 := Aside0.mk (F4b.out.own h2 (fun k hk => hk ▸ GS.out)); have D5 := Aside0.mk h1; have W5 := Aside0.mk (WrAt.fr W4b.out h2.2 (fun k hk e => by have := GL.out; simp only [Own] at hk; omega)); clear h1 h2) | (go_at_call 32; go_loud (refine (Writer_Int 10 _ gw _ [] (back x) m W5.out HW.out).mono ?_); rintro e6 w6 ⟨rfl, h1, h2⟩; have F6 := Aside0.mk (F5.out.own h2 (fun k hk => Nat.le_trans B3.out.size hk)); have W6 := Aside0.mk h1; have D6 := Aside0.mk (D5.out.fr h2.2 (fun k hk e => Nat.lt_irrefl _ (Nat.lt_of_lt_of_le hk.2 e))); clear h1 h2) | (go_at_call 36; ((with_reducible refine (Reader_Err _ g l2 0 D6.out).mono ?_); rintro e7 w7 ⟨rfl, rfl⟩)) | (go_at_call 37; ((with_reducible refine (Reader_Left _ g l2 0 D6.out).mono ?_); rintro e7 w7 ⟨rfl, rfl⟩)))
  go_region_held3 (fun _ => True) (trivial) (first | (go_at_call 23; go_loud (refine (Writer_Bytes _ gw _ m (by first | exact W6.out.below (dr_below _) | exact W6.out) (by have := HM.out; have := HL.out; omega)).mono ?_); rintro e8 w8 ⟨v8, rfl, q8, b8⟩; (obtain ⟨A8, c8, rfl⟩ := Kd.R_slice q8); have R8 := Aside0.mk (Kd.R_reads' q8).2; have F8 := Aside0.mk ((F6.out.own (Fr.of_below (dr_below _) (fun _ => False)) (fun _ h => h.elim)).own (Fr.of_below b8 (fun _ => False)) (fun _ h => h.elim)); clear q8 b8) | (go_at_call 22; (rw [HM.out]); go_loud (refine (same_m k A8 c8 A c m N _ HM.out R8.out.2 R8.out.1 (HT.out F8.out) HNC.out HS.out).mono ?_); rintro e9 w9 ⟨rfl, ⟨m9, rfl⟩⟩))
  go_wp2
  go_ret
  exact ⟨rfl, (F8.out.own (Fr.drewN _ m9 (fun _ => False)) (fun _ h => h.elim)).low⟩
set_option maxHeartbeats 4000000 in
theorem forms_no1 (k : Nat) (A : Option Addr) (c : Nat) (l m l2 : List Int) (kd e : Int) (w : World) (hr : U8.C w A l.length l) (hc : l.length ≤ c) (hl : l.length ≤ 140737488351232) (hb : ∀ x ∈ l, 0 ≤ x ∧ x < 256) (hp : latchkeykit_Pick.f kd 3 = some 1) (hcp : latchkeyref00_CopyBytes.f k l = some l)
    (x n0 : Int) (hq : octets_short.f 31 l = some (x, n0, e)) (hn0 : 0 ≤ n0 ∧ n0 ≤ (l.length : Int)) (hl2 : l2 = l.drop n0.toNat) (hw : uintL 10 [] (turned (back x)) = some m) (he : e = 20 ∧ l.length < 10 ∨ e = 21) (hlen : l2.length = l.length) :
    Calls Try.prog 7 #[.slice A l.length c, .int .i64 kd] w fun e w' => e = .returned (.bool true) ∧ Below w.heap.size w w' := by
  have HR := Aside0.mk hr
  have HC := Aside0.mk hc
  have HL := Aside0.mk hl
  have HB := Aside0.mk hb
  have HP := Aside0.mk hp
  have HCP := Aside0.mk hcp
  have HQ := Aside0.mk hq
  have HW := Aside0.mk hw
  have HN0 := Aside0.mk hn0
  have HL2 := Aside0.mk hl2
  have hlen2 : (l2.length : Int) = (l.length : Int) := by omega
  clear hr hc hl hb hp hcp hq hw hn0 hl2 hlen
  rcases he with ⟨rfl, he⟩ | rfl
  · have hd : decide ((l.length : Int) < 10) = true := decide_eq_true (by omega)
    clear he
    go_enter Try.func7, Try.ntmps7
    go_wp2_with (first | (go_at_call 12; go_loud (refine (awake_calls w).mono ?_); rintro e1 w1 ⟨rfl, b1⟩; have B1 := Aside0.mk b1; clear b1) | (go_at_call 14; go_loud (refine (latchkeyref00_CopyBytes.calls k A c l l w1 (Kd.C_below HR.out B1.out) HC.out HCP.out).mono ?_); rintro e2 w2 ⟨v2, rfl, q2, b2⟩; (obtain ⟨A2, c2, rfl⟩ := Kd.R_slice q2); have R2 := Aside0.mk (Kd.R_reads' q2).2; have B2 := Aside0.mk (below_step B1.out b2); clear q2 b2) | (go_at_call 29; go_loud (refine (Reader_Read w2 A2 l c2 R2.out.2 (by have := HL.out; omega)).mono ?_); rintro e3 w3 ⟨g, rfl, h1, h2, h3⟩; have B3 := Aside0.mk (below_step B2.out h3); have D4 := Aside0.mk (h2.below (below_alloc (Below.refl w3.heap.size w3) (.cells #[.slice none 0 0] 36))); have GS := Aside0.mk (Nat.le_trans B2.out.size h1); (have GL : Aside0 (g < w3.heap.size) := ⟨by obtain ⟨_, _, _, _, _, h, _⟩ := h2; exact h.2⟩); (obtain ⟨gw, hgw⟩ : ∃ gw, gw = w3.heap.size := ⟨_, rfl⟩); have W4 := Aside0.mk (hgw ▸ WrAt.new w3 : WrAt (w3.alloc (.cells #[.slice none 0 0] 36)) gw (Own w3) []); have F4 := Aside0.mk ((Fr.of_below B3.out (Own w)).own (Fr.of_below (below_alloc (Below.refl w3.heap.size w3) (.cells #[.slice none 0 0] 36)) (fun _ => False)) (fun _ h => h.elim)); clear h1 h2 h3; have hgw' := hgw.symm; clear hgw) | (go_at_call 15; go_loud (refine (latchkeykit_Pick.calls kd 3 1 _ HP.out).mono ?_); rintro e4 w4 ⟨rfl, ⟨m4, rfl⟩⟩; have D4b := Aside0.mk (D4.out.below (dn_below _ m4)); have W4b := Aside0.mk (W4.out.below (dn_below _ m4)); have F4b := Aside0.mk (F4.out.own (Fr.drewN _ m4 (fun _ => False)) (fun _ h => h.elim))) | (go_at_call 33; go_loud (refine (int_any 31 _ g _ l x n0 20 D4b.out HQ.out HN0.out l2 HL2.out).mono ?_); rintro e5 w5 ⟨rfl, h1, h2⟩; have F5 := Aside0.mk (F4b.out.own h2 (fun k hk => hk ▸ GS.out)); have D5 := Aside0.mk h1; have W5 := Aside0.mk (WrAt.fr W4b.out h2.2 (fun k hk e => by have := GL.out; simp only [Own] at hk; omega)); clear h1 h2) | (go_at_call 32; go_loud (refine (Writer_Int 10 _ gw _ [] (back x) m W5.out HW.out).mono ?_); rintro e6 w6 ⟨rfl, h1, h2⟩; have F6 := Aside0.mk (F5.out.own h2 (fun k hk => Nat.le_trans B3.out.size hk)); have W6 := Aside0.mk h1; have D6 := Aside0.mk (D5.out.fr h2.2 (fun k hk e => Nat.lt_irrefl _ (Nat.lt_of_lt_of_le hk.2 e))); clear h1 h2) | (go_at_call 36; ((with_reducible refine (Reader_Err _ g l2 20 D6.out).mono ?_); rintro e7 w7 ⟨rfl, rfl⟩)) | (go_at_call 37; ((with_reducible refine (Reader_Left _ g l2 20 D6.out).mono ?_); rintro e7 w7 ⟨rfl, rfl⟩)))
    go_ret
    exact ⟨by first | rfl | (simp [hlen2, hd]; done), F6.out.low⟩
  · skip
    go_enter Try.func7, Try.ntmps7
    go_wp2_with (first | (go_at_call 12; go_loud (refine (awake_calls w).mono ?_); rintro e1 w1 ⟨rfl, b1⟩; have B1 := Aside0.mk b1; clear b1) | (go_at_call 14; go_loud (refine (latchkeyref00_CopyBytes.calls k A c l l w1 (Kd.C_below HR.out B1.out) HC.out HCP.out).mono ?_); rintro e2 w2 ⟨v2, rfl, q2, b2⟩; (obtain ⟨A2, c2, rfl⟩ := Kd.R_slice q2); have R2 := Aside0.mk (Kd.R_reads' q2).2; have B2 := Aside0.mk (below_step B1.out b2); clear q2 b2) | (go_at_call 29; go_loud (refine (Reader_Read w2 A2 l c2 R2.out.2 (by have := HL.out; omega)).mono ?_); rintro e3 w3 ⟨g, rfl, h1, h2, h3⟩; have B3 := Aside0.mk (below_step B2.out h3); have D4 := Aside0.mk (h2.below (below_alloc (Below.refl w3.heap.size w3) (.cells #[.slice none 0 0] 36))); have GS := Aside0.mk (Nat.le_trans B2.out.size h1); (have GL : Aside0 (g < w3.heap.size) := ⟨by obtain ⟨_, _, _, _, _, h, _⟩ := h2; exact h.2⟩); (obtain ⟨gw, hgw⟩ : ∃ gw, gw = w3.heap.size := ⟨_, rfl⟩); have W4 := Aside0.mk (hgw ▸ WrAt.new w3 : WrAt (w3.alloc (.cells #[.slice none 0 0] 36)) gw (Own w3) []); have F4 := Aside0.mk ((Fr.of_below B3.out (Own w)).own (Fr.of_below (below_alloc (Below.refl w3.heap.size w3) (.cells #[.slice none 0 0] 36)) (fun _ => False)) (fun _ h => h.elim)); clear h1 h2 h3; have hgw' := hgw.symm; clear hgw) | (go_at_call 15; go_loud (refine (latchkeykit_Pick.calls kd 3 1 _ HP.out).mono ?_); rintro e4 w4 ⟨rfl, ⟨m4, rfl⟩⟩; have D4b := Aside0.mk (D4.out.below (dn_below _ m4)); have W4b := Aside0.mk (W4.out.below (dn_below _ m4)); have F4b := Aside0.mk (F4.out.own (Fr.drewN _ m4 (fun _ => False)) (fun _ h => h.elim))) | (go_at_call 33; go_loud (refine (int_any 31 _ g _ l x n0 21 D4b.out HQ.out HN0.out l2 HL2.out).mono ?_); rintro e5 w5 ⟨rfl, h1, h2⟩; have F5 := Aside0.mk (F4b.out.own h2 (fun k hk => hk ▸ GS.out)); have D5 := Aside0.mk h1; have W5 := Aside0.mk (WrAt.fr W4b.out h2.2 (fun k hk e => by have := GL.out; simp only [Own] at hk; omega)); clear h1 h2) | (go_at_call 32; go_loud (refine (Writer_Int 10 _ gw _ [] (back x) m W5.out HW.out).mono ?_); rintro e6 w6 ⟨rfl, h1, h2⟩; have F6 := Aside0.mk (F5.out.own h2 (fun k hk => Nat.le_trans B3.out.size hk)); have W6 := Aside0.mk h1; have D6 := Aside0.mk (D5.out.fr h2.2 (fun k hk e => Nat.lt_irrefl _ (Nat.lt_of_lt_of_le hk.2 e))); clear h1 h2) | (go_at_call 36; ((with_reducible refine (Reader_Err _ g l2 21 D6.out).mono ?_); rintro e7 w7 ⟨rfl, rfl⟩)) | (go_at_call 37; ((with_reducible refine (Reader_Left _ g l2 21 D6.out).mono ?_); rintro e7 w7 ⟨rfl, rfl⟩)))
    go_ret
    exact ⟨by first | rfl | (simp [hlen2]; done), F6.out.low⟩
set_option maxHeartbeats 4000000 in
theorem forms_ok2 (k : Nat) (A : Option Addr) (c : Nat) (l m l2 : List Int) (kd e : Int) (w : World) (hr : U8.C w A l.length l) (hc : l.length ≤ c) (hl : l.length ≤ 140737488351232) (hb : ∀ x ∈ l, 0 ≤ x ∧ x < 256) (hp : latchkeykit_Pick.f kd 3 = some 2) (hcp : latchkeyref00_CopyBytes.f k l = some l)
    (x : Nat) (hx : x < 4294967296) (hq : mReal l 0 = (x, l2, e)) (hw : quad (keyB x) = m) (he : e = 0) (N : Nat) (hN0 : 0 < N) (hN : N ≤ l.length) (hlen : l2.length = l.length - N) (hm : m = l.take N) (hs : latchkeyref00_SameBytes.f k m m = some true) :
    Calls Try.prog 7 #[.slice A l.length c, .int .i64 kd] w fun e w' => e = .returned (.bool true) ∧ Below w.heap.size w w' := by
  have HR := Aside0.mk hr
  have HC := Aside0.mk hc
  have HL := Aside0.mk hl
  have HB := Aside0.mk hb
  have HP := Aside0.mk hp
  have HCP := Aside0.mk hcp
  have HQ := Aside0.mk hq
  have HW := Aside0.mk hw
  have HX := Aside0.mk hx
  have HS := Aside0.mk hs
  subst he
  have HM : Aside0 (m.length = N) := ⟨by rw [hm, List.length_take]; omega⟩
  have HNC : Aside0 (N ≤ c) := ⟨by omega⟩
  have HT : Aside0 (∀ {W : World}, Fr w W (Own w) → U8.C W A N m) := ⟨fun h => Kd.C_below (by rw [hm]; exact Kd.C_of_reads (enc := Value.int .u8) (d := (0 : Int)) (ReadsInt.take_ (Kd.reads_of_C (d := (0 : Int)) hr) N hN)) h.low⟩
  obtain ⟨i, hi, _, hsz, _⟩ := info_parts info5
  have hcut : ∀ W : World, (Instr.slice 22 (.slice A l.length c) none (some (.int .i64 (N : Int))) none).run Try.prog W = .ok (.slice A N c) W := cut_to (P := Try.prog) 22 5 .i64 Try.underlying22 hi A l.length c (N : Int) (by omega) (by omega) hc
  have hsub : (l.length : Int) - (l2.length : Int) = (N : Int) := by omega
  have hsub2 : wrap64 (N : Int) = (N : Int) := by unfold wrap64; omega
  have hd1 : decide ((0 : Int) < (N : Int)) = true := decide_eq_true (by omega)
  have hd2 : decide ((N : Int) ≤ (l.length : Int)) = true := decide_eq_true (by omega)
  have hd3 : (0 : Int) < (N : Int) := by omega
  have hd4 : (N : Int) ≤ (l.length : Int) := by omega
  clear hr hc hl hb hp hcp hq hw hx hs hm hlen hi hsz
  go_enter Try.func7, Try.ntmps7
  go_wp2_with (first | (go_at_call 12; go_loud (refine (awake_calls w).mono ?_); rintro e1 w1 ⟨rfl, b1⟩; have B1 := Aside0.mk b1; clear b1) | (go_at_call 14; go_loud (refine (latchkeyref00_CopyBytes.calls k A c l l w1 (Kd.C_below HR.out B1.out) HC.out HCP.out).mono ?_); rintro e2 w2 ⟨v2, rfl, q2, b2⟩; (obtain ⟨A2, c2, rfl⟩ := Kd.R_slice q2); have R2 := Aside0.mk (Kd.R_reads' q2).2; have B2 := Aside0.mk (below_step B1.out b2); clear q2 b2) | (go_at_call 29; go_loud (refine (Reader_Read w2 A2 l c2 R2.out.2 (by have := HL.out; omega)).mono ?_); rintro e3 w3 ⟨g, rfl, h1, h2, h3⟩; have B3 := Aside0.mk (below_step B2.out h3); have D4 := Aside0.mk (h2.below (below_alloc (Below.refl w3.heap.size w3) (.cells #[.slice none 0 0] 36))); have GS := Aside0.mk (Nat.le_trans B2.out.size h1); (have GL : Aside0 (g < w3.heap.size) := ⟨by obtain ⟨_, _, _, _, _, h, _⟩ := h2; exact h.2⟩); (obtain ⟨gw, hgw⟩ : ∃ gw, gw = w3.heap.size := ⟨_, rfl⟩); have W4 := Aside0.mk (hgw ▸ WrAt.new w3 : WrAt (w3.alloc (.cells #[.slice none 0 0] 36)) gw (Own w3) []); have F4 := Aside0.mk ((Fr.of_below B3.out (Own w)).own (Fr.of_below (below_alloc (Below.refl w3.heap.size w3) (.cells #[.slice none 0 0] 36)) (fun _ => False)) (fun _ h => h.elim)); clear h1 h2 h3; have hgw' := hgw.symm; clear hgw) | (go_at_call 15; go_loud (refine (latchkeykit_Pick.calls kd 3 2 _ HP.out).mono ?_); rintro e4 w4 ⟨rfl, ⟨m4, rfl⟩⟩; have D4b := Aside0.mk (D4.out.below (dn_below _ m4)); have W4b := Aside0.mk (W4.out.below (dn_below _ m4)); have F4b := Aside0.mk (F4.out.own (Fr.drewN _ m4 (fun _ => False)) (fun _ h => h.elim))) | (go_at_call 35; go_loud (refine (real_any _ g _ l x l2 0 D4b.out HB.out HQ.out).mono ?_); rintro e5 w5 ⟨rfl, h1, h2⟩; have F5 := Aside0.mk (F4b.out.own h2 (fun k hk => hk ▸ GS.out)); have D5 := Aside0.mk h1; have W5 := Aside0.mk (WrAt.fr W4b.out h2.2 (fun k hk e => by have := GL.out; simp only [Own] at hk; omega)); clear h1 h2) | (go_at_call 34; go_loud (refine (Writer_Real _ gw _ [] x HX.out W5.out (by decide)).mono ?_); rintro e6 w6 ⟨rfl, h1, h2⟩; (rw [List.nil_append, HW.out] at h1); have F6 := Aside0.mk (F5.out.own h2 (fun k hk => Nat.le_trans B3.out.size hk)); have W6 := Aside0.mk h1; have D6 := Aside0.mk (D5.out.fr h2.2 (fun k hk e => Nat.lt_irrefl _ (Nat.lt_of_lt_of_le hk.2 e))); clear h1 h2) | (go_at_call 36; ((with_reducible refine (Reader_Err _ g l2 0 D6.out).mono ?_); rintro e7 w7 ⟨rfl, rfl⟩)) | (go_at_call 37; ((with_reducible refine (Reader_Left _ g l2 0 D6.out).mono ?_); rintro e7 w7 ⟨rfl, rfl⟩)))
  go_region_held3 (fun _ => True) (trivial) (first | (go_at_call 23; go_loud (refine (Writer_Bytes _ gw _ m (by first | exact W6.out.below (dr_below _) | exact W6.out) (by have := HM.out; have := HL.out; omega)).mono ?_); rintro e8 w8 ⟨v8, rfl, q8, b8⟩; (obtain ⟨A8, c8, rfl⟩ := Kd.R_slice q8); have R8 := Aside0.mk (Kd.R_reads' q8).2; have F8 := Aside0.mk ((F6.out.own (Fr.of_below (dr_below _) (fun _ => False)) (fun _ h => h.elim)).own (Fr.of_below b8 (fun _ => False)) (fun _ h => h.elim)); clear q8 b8) | (go_at_call 22; (rw [HM.out]); go_loud (refine (same_m k A8 c8 A c m N _ HM.out R8.out.2 R8.out.1 (HT.out F8.out) HNC.out HS.out).mono ?_); rintro e9 w9 ⟨rfl, ⟨m9, rfl⟩⟩))
  go_wp2
  go_ret
  exact ⟨rfl, (F8.out.own (Fr.drewN _ m9 (fun _ => False)) (fun _ h => h.elim)).low⟩
set_option maxHeartbeats 4000000 in
theorem forms_no2 (k : Nat) (A : Option Addr) (c : Nat) (l m l2 : List Int) (kd e : Int) (w : World) (hr : U8.C w A l.length l) (hc : l.length ≤ c) (hl : l.length ≤ 140737488351232) (hb : ∀ x ∈ l, 0 ≤ x ∧ x < 256) (hp : latchkeykit_Pick.f kd 3 = some 2) (hcp : latchkeyref00_CopyBytes.f k l = some l)
    (x : Nat) (hx : x < 4294967296) (hq : mReal l 0 = (x, l2, e)) (hw : quad (keyB x) = m) (he : e = 20 ∧ l.length < 10 ∨ e = 21) (hlen : l2.length = l.length) :
    Calls Try.prog 7 #[.slice A l.length c, .int .i64 kd] w fun e w' => e = .returned (.bool true) ∧ Below w.heap.size w w' := by
  have HR := Aside0.mk hr
  have HC := Aside0.mk hc
  have HL := Aside0.mk hl
  have HB := Aside0.mk hb
  have HP := Aside0.mk hp
  have HCP := Aside0.mk hcp
  have HQ := Aside0.mk hq
  have HW := Aside0.mk hw
  have HX := Aside0.mk hx
  have hlen2 : (l2.length : Int) = (l.length : Int) := by omega
  clear hr hc hl hb hp hcp hq hw hx hlen
  rcases he with ⟨rfl, he⟩ | rfl
  · have hd : decide ((l.length : Int) < 10) = true := decide_eq_true (by omega)
    clear he
    go_enter Try.func7, Try.ntmps7
    go_wp2_with (first | (go_at_call 12; go_loud (refine (awake_calls w).mono ?_); rintro e1 w1 ⟨rfl, b1⟩; have B1 := Aside0.mk b1; clear b1) | (go_at_call 14; go_loud (refine (latchkeyref00_CopyBytes.calls k A c l l w1 (Kd.C_below HR.out B1.out) HC.out HCP.out).mono ?_); rintro e2 w2 ⟨v2, rfl, q2, b2⟩; (obtain ⟨A2, c2, rfl⟩ := Kd.R_slice q2); have R2 := Aside0.mk (Kd.R_reads' q2).2; have B2 := Aside0.mk (below_step B1.out b2); clear q2 b2) | (go_at_call 29; go_loud (refine (Reader_Read w2 A2 l c2 R2.out.2 (by have := HL.out; omega)).mono ?_); rintro e3 w3 ⟨g, rfl, h1, h2, h3⟩; have B3 := Aside0.mk (below_step B2.out h3); have D4 := Aside0.mk (h2.below (below_alloc (Below.refl w3.heap.size w3) (.cells #[.slice none 0 0] 36))); have GS := Aside0.mk (Nat.le_trans B2.out.size h1); (have GL : Aside0 (g < w3.heap.size) := ⟨by obtain ⟨_, _, _, _, _, h, _⟩ := h2; exact h.2⟩); (obtain ⟨gw, hgw⟩ : ∃ gw, gw = w3.heap.size := ⟨_, rfl⟩); have W4 := Aside0.mk (hgw ▸ WrAt.new w3 : WrAt (w3.alloc (.cells #[.slice none 0 0] 36)) gw (Own w3) []); have F4 := Aside0.mk ((Fr.of_below B3.out (Own w)).own (Fr.of_below (below_alloc (Below.refl w3.heap.size w3) (.cells #[.slice none 0 0] 36)) (fun _ => False)) (fun _ h => h.elim)); clear h1 h2 h3; have hgw' := hgw.symm; clear hgw) | (go_at_call 15; go_loud (refine (latchkeykit_Pick.calls kd 3 2 _ HP.out).mono ?_); rintro e4 w4 ⟨rfl, ⟨m4, rfl⟩⟩; have D4b := Aside0.mk (D4.out.below (dn_below _ m4)); have W4b := Aside0.mk (W4.out.below (dn_below _ m4)); have F4b := Aside0.mk (F4.out.own (Fr.drewN _ m4 (fun _ => False)) (fun _ h => h.elim))) | (go_at_call 35; go_loud (refine (real_any _ g _ l x l2 20 D4b.out HB.out HQ.out).mono ?_); rintro e5 w5 ⟨rfl, h1, h2⟩; have F5 := Aside0.mk (F4b.out.own h2 (fun k hk => hk ▸ GS.out)); have D5 := Aside0.mk h1; have W5 := Aside0.mk (WrAt.fr W4b.out h2.2 (fun k hk e => by have := GL.out; simp only [Own] at hk; omega)); clear h1 h2) | (go_at_call 34; go_loud (refine (Writer_Real _ gw _ [] x HX.out W5.out (by decide)).mono ?_); rintro e6 w6 ⟨rfl, h1, h2⟩; (rw [List.nil_append, HW.out] at h1); have F6 := Aside0.mk (F5.out.own h2 (fun k hk => Nat.le_trans B3.out.size hk)); have W6 := Aside0.mk h1; have D6 := Aside0.mk (D5.out.fr h2.2 (fun k hk e => Nat.lt_irrefl _ (Nat.lt_of_lt_of_le hk.2 e))); clear h1 h2) | (go_at_call 36; ((with_reducible refine (Reader_Err _ g l2 20 D6.out).mono ?_); rintro e7 w7 ⟨rfl, rfl⟩)) | (go_at_call 37; ((with_reducible refine (Reader_Left _ g l2 20 D6.out).mono ?_); rintro e7 w7 ⟨rfl, rfl⟩)))
    go_ret
    exact ⟨by first | rfl | (simp [hlen2, hd]; done), F6.out.low⟩
  · skip
    go_enter Try.func7, Try.ntmps7
    go_wp2_with (first | (go_at_call 12; go_loud (refine (awake_calls w).mono ?_); rintro e1 w1 ⟨rfl, b1⟩; have B1 := Aside0.mk b1; clear b1) | (go_at_call 14; go_loud (refine (latchkeyref00_CopyBytes.calls k A c l l w1 (Kd.C_below HR.out B1.out) HC.out HCP.out).mono ?_); rintro e2 w2 ⟨v2, rfl, q2, b2⟩; (obtain ⟨A2, c2, rfl⟩ := Kd.R_slice q2); have R2 := Aside0.mk (Kd.R_reads' q2).2; have B2 := Aside0.mk (below_step B1.out b2); clear q2 b2) | (go_at_call 29; go_loud (refine (Reader_Read w2 A2 l c2 R2.out.2 (by have := HL.out; omega)).mono ?_); rintro e3 w3 ⟨g, rfl, h1, h2, h3⟩; have B3 := Aside0.mk (below_step B2.out h3); have D4 := Aside0.mk (h2.below (below_alloc (Below.refl w3.heap.size w3) (.cells #[.slice none 0 0] 36))); have GS := Aside0.mk (Nat.le_trans B2.out.size h1); (have GL : Aside0 (g < w3.heap.size) := ⟨by obtain ⟨_, _, _, _, _, h, _⟩ := h2; exact h.2⟩); (obtain ⟨gw, hgw⟩ : ∃ gw, gw = w3.heap.size := ⟨_, rfl⟩); have W4 := Aside0.mk (hgw ▸ WrAt.new w3 : WrAt (w3.alloc (.cells #[.slice none 0 0] 36)) gw (Own w3) []); have F4 := Aside0.mk ((Fr.of_below B3.out (Own w)).own (Fr.of_below (below_alloc (Below.refl w3.heap.size w3) (.cells #[.slice none 0 0] 36)) (fun _ => False)) (fun _ h => h.elim)); clear h1 h2 h3; have hgw' := hgw.symm; clear hgw) | (go_at_call 15; go_loud (refine (latchkeykit_Pick.calls kd 3 2 _ HP.out).mono ?_); rintro e4 w4 ⟨rfl, ⟨m4, rfl⟩⟩; have D4b := Aside0.mk (D4.out.below (dn_below _ m4)); have W4b := Aside0.mk (W4.out.below (dn_below _ m4)); have F4b := Aside0.mk (F4.out.own (Fr.drewN _ m4 (fun _ => False)) (fun _ h => h.elim))) | (go_at_call 35; go_loud (refine (real_any _ g _ l x l2 21 D4b.out HB.out HQ.out).mono ?_); rintro e5 w5 ⟨rfl, h1, h2⟩; have F5 := Aside0.mk (F4b.out.own h2 (fun k hk => hk ▸ GS.out)); have D5 := Aside0.mk h1; have W5 := Aside0.mk (WrAt.fr W4b.out h2.2 (fun k hk e => by have := GL.out; simp only [Own] at hk; omega)); clear h1 h2) | (go_at_call 34; go_loud (refine (Writer_Real _ gw _ [] x HX.out W5.out (by decide)).mono ?_); rintro e6 w6 ⟨rfl, h1, h2⟩; (rw [List.nil_append, HW.out] at h1); have F6 := Aside0.mk (F5.out.own h2 (fun k hk => Nat.le_trans B3.out.size hk)); have W6 := Aside0.mk h1; have D6 := Aside0.mk (D5.out.fr h2.2 (fun k hk e => Nat.lt_irrefl _ (Nat.lt_of_lt_of_le hk.2 e))); clear h1 h2) | (go_at_call 36; ((with_reducible refine (Reader_Err _ g l2 21 D6.out).mono ?_); rintro e7 w7 ⟨rfl, rfl⟩)) | (go_at_call 37; ((with_reducible refine (Reader_Left _ g l2 21 D6.out).mono ?_); rintro e7 w7 ⟨rfl, rfl⟩)))
    go_ret
    exact ⟨by first | rfl | (simp [hlen2]; done), F6.out.low⟩
end Go.Proofs.Ytkjkmaopifmghaa.Oct
