/- Writers and Readers: contracts of their methods (plain walks). -/
import Derived.Test.YtkjkmaopifmghaaKxOctM
import Derived.Test.YtkjkmaopifmghaaOctNumx1
namespace Go.Proofs.Ytkjkmaopifmghaa.Oct
open Go.RowKit Go.Proofs.YtkjkmaopifmghaaW.PrintWords Go.Proofs.YtkjkmaopifmghaaW.PrintLast Go.Proofs.YtkjkmaopifmghaaW.PrintMore Go.Proofs.Ytkjkmaopifmghaa.OctNum
set_option linter.unusedVariables false
set_option linter.unusedSimpArgs false
set_option maxRecDepth 100000
variable {S : Nat → Prop}
/-- A Reader at block g, with the bytes l left (their block is not g) and the error e. -/
def DdV (w : World) (g : Nat) (S : Nat → Prop) (A : Option Addr) (c : Nat) (l : List Int) (e : Int) : Prop :=
  w.heap[g]? = some (.cells #[.slice A l.length c, .int .i64 e] 68 (0, 0)) ∧ l.length ≤ c ∧ U8.C w A l.length l ∧ S g ∧ ∀ ad, A = some ad → ad.block ≠ g ∧ S ad.block
/-- A Reader whose own block and whose bytes' block lie in S. -/
def DdAt (w : World) (g : Nat) (S : Nat → Prop) (l : List Int) (e : Int) : Prop := ∃ A c, DdV w g S A c l e
theorem DdV.set_err {w : World} {g : Nat} {A : Option Addr} {c : Nat} {l : List Int} {e : Int} (h : DdV w g S A c l e) (x : Int) : DdV (w.setCell ⟨g, 1, none⟩ (.int .i64 x)) g S A c l x := by
  obtain ⟨h1, h2, h3, h4⟩ := h
  exact ⟨set_snd h1, h2, C_move h3 (fun ad he => Below.heap_setCell w ⟨g, 1, none⟩ _ ad.block (h4.2 ad he).1), h4⟩
theorem DdV.set_row {w : World} {g : Nat} {A B : Option Addr} {c d : Nat} {l m : List Int} {e : Int} (h : DdV w g S A c l e) (hd : m.length ≤ d) (hm : U8.C w B m.length m) (hB : ∀ ad, B = some ad → ad.block ≠ g ∧ S ad.block) : DdV (w.setCell ⟨g, 0, none⟩ (.slice B m.length d)) g S B d m e := by
  obtain ⟨h1, h2, h3, h4⟩ := h
  exact ⟨set_fst h1, hd, C_move hm (fun ad he => Below.heap_setCell w ⟨g, 0, none⟩ _ ad.block (hB ad he).1), h4.1, hB⟩
/-- The row behind the first j bytes. -/
theorem DdV.drop {w : World} {g : Nat} {A : Option Addr} {c : Nat} {l : List Int} {e : Int} (h : DdV w g S A c l e) (j : Nat) (hj : j ≤ l.length) :
    (l.drop j).length ≤ c - j ∧ U8.C w (if c = j then A else A.map (·.add j)) (l.drop j).length (l.drop j) ∧ ∀ ad, (if c = j then A else A.map (·.add j)) = some ad → ad.block ≠ g ∧ S ad.block := by
  obtain ⟨h1, h2, h3, h4⟩ := h
  refine ⟨by rw [List.length_drop]; omega, ?_, ?_⟩
  · have := ReadsInt.drop_ (k := .u8) (Kd.reads_of_C (d := (0 : Int)) h3) j hj h2
    rw [List.length_drop]
    exact Kd.C_of_reads (enc := Value.int .u8) (d := (0 : Int)) this
  · intro ad he
    split at he
    · exact h4.2 ad he
    · rcases A with _ | a
      · cases he
      · obtain rfl := Option.some.inj he
        rw [block_addO]
        exact h4.2 a rfl
/-- The cut behind the first j bytes, as one row B. -/
theorem DdV.cut {w : World} {g : Nat} {A : Option Addr} {c : Nat} {l : List Int} {e : Int} (h : DdV w g S A c l e) (j : Int) (h0 : 0 ≤ j) (hj : j ≤ l.length) :
    ∃ B d, (∀ W : World, (Instr.slice 22 (.slice A l.length c) (some (.int .i64 j)) none none).run Try.prog W = .ok (.slice B (l.drop j.toNat).length d) W) ∧ (l.drop j.toNat).length ≤ d ∧ U8.C w B (l.drop j.toNat).length (l.drop j.toNat) ∧ ∀ ad, B = some ad → ad.block ≠ g ∧ S ad.block := by
  obtain ⟨i, hi, _, hsz, _⟩ := info_parts info5
  have hcut := cut_from (P := Try.prog) 22 5 .i64 Try.underlying22 hi 1 hsz A l.length c j h0 hj
  obtain ⟨h1, h2, h3⟩ := h.drop j.toNat (by omega)
  rw [Nat.mul_one] at hcut
  rw [← List.length_drop] at hcut
  exact ⟨_, _, hcut, h1, h2, h3⟩
theorem DdV.below {w w' : World} {g : Nat} {A : Option Addr} {c : Nat} {l : List Int} {e : Int} (h : DdV w g S A c l e) (hb : Below w.heap.size w w') : DdV w' g S A c l e :=
  ⟨(hb.block g (blk_lt h.1)).trans h.1, h.2.1, Kd.C_below h.2.2.1 hb, h.2.2.2⟩
theorem DdAt.below {w w' : World} {g : Nat} {l : List Int} {e : Int} (h : DdAt w g S l e) (hb : Below w.heap.size w w') : DdAt w' g S l e := by
  obtain ⟨A, c, h⟩ := h
  exact ⟨A, c, h.below hb⟩
theorem DdAt.fr {w w' : World} {g : Nat} {T : Nat → Prop} {l : List Int} {e : Int} (h : DdAt w g S l e) (hk : Kept w w' T) (hn : ∀ k, S k → ¬ T k) : DdAt w' g S l e := by
  obtain ⟨A, c, h1, h2, h3, h4, h5⟩ := h
  exact ⟨A, c, blk_kept h1 hk (hn g h4), h2, C_kept h3 hk (fun ad he => hn _ (h5 ad he).2), h4, h5⟩
theorem ref_refuse (w : World) (g : Nat) (l : List Int) (e0 e : Int) (h : DdAt w g S l e0) :
    Calls Try.prog 70 #[.pointer (some ⟨g, 0, none⟩), .int .i64 e] w fun r w' => r = .returned (.tuple #[]) ∧ DdAt w' g S l e ∧ Fr w w' (fun k => k = g) := by
  obtain ⟨A, c, h⟩ := h
  have H := Aside0.mk h
  obtain ⟨⟨hc0, hf0⟩, hc1, hf1⟩ := blk_two h.1
  clear h
  go_enter Try.func70, Try.ntmps70
  go_wp2
  (try simp only [Exit.inBlock, Exit.then])
  refine ⟨rfl, _, res0 rfl _ _ _, ?_⟩
  exact ⟨rfl, ⟨A, c, H.out.set_err e⟩, Fr.set 1 _⟩
theorem ref_End (w : World) (g : Nat) (l : List Int) (e : Int) (h : DdAt w g S l e) : Calls Try.prog 40 #[.pointer (some ⟨g, 0, none⟩)] w fun r w' => r = .returned (.int .i64 (endOf l e)) ∧ w' = w := by
  obtain ⟨A, c, h⟩ := h
  obtain ⟨⟨hc0, hf0⟩, hc1, hf1⟩ := blk_two h.1
  clear h
  by_cases he : e = 0
  · subst he
    by_cases hl : l = []
    · subst hl
      have E : endOf [] 0 = 0 := by decide
      rw [E]
      clear E
      go_enter Try.func40, Try.ntmps40
      go_wp2
      all_goals go_ret
      all_goals exact ⟨rfl, rfl⟩
    · have E : endOf l 0 = 23 := by unfold endOf; rw [if_pos ⟨rfl, hl⟩]
      rw [E]
      have hp : 0 < l.length := List.length_pos_iff.mpr hl
      clear hl E
      go_enter Try.func40, Try.ntmps40
      go_wp2
      all_goals go_ret
      all_goals exact ⟨rfl, rfl⟩
  · have E : endOf l e = e := by unfold endOf; rw [if_neg (fun h => he h.1)]
    rw [E]
    clear E
    go_enter Try.func40, Try.ntmps40
    go_wp2
    all_goals go_ret
    all_goals exact ⟨rfl, rfl⟩
set_option maxHeartbeats 4000000 in
theorem ref_take (w : World) (g : Nat) (l : List Int) (e : Int) (n : Nat) (h : DdAt w g S l e) (hn : n ≤ l.length) (hl : l.length ≤ 140737488355328) :
    Calls Try.prog 71 #[.pointer (some ⟨g, 0, none⟩), .int .i64 (n : Int)] w fun r w' => (∃ v, r = .returned v ∧ U8.R 5 w' w.heap.size (fun _ => True) v (l.take n)) ∧ DdAt w' g S (l.drop n) e ∧ Fr w w' (fun k => k = g) := by
  obtain ⟨A, c, h⟩ := h
  have H := Aside0.mk h
  obtain ⟨⟨hc0, hf0⟩, hc1, hf1⟩ := blk_two h.1
  have hg : g < w.heap.size := blk_lt h.1
  have hX : Aside0 (U8.C w A n (l.take n)) := ⟨Kd.C_of_reads (enc := Value.int .u8) (d := (0 : Int)) (ReadsInt.take_ (Kd.reads_of_C (d := (0 : Int)) h.2.2.1) n hn)⟩
  obtain ⟨B, d, hcut, hd⟩ := h.cut (n : Int) (by omega) (by omega)
  obtain ⟨i, hi, _, hsz, _⟩ := info_parts info5
  have hcut2 : ∀ W : World, (Instr.slice 22 (.slice A l.length c) none (some (.int .i64 (n : Int))) none).run Try.prog W = .ok (.slice A n c) W := cut_to (P := Try.prog) 22 5 .i64 Try.underlying22 hi A l.length c (n : Int) (by omega) (by omega) h.2.1
  have HD := Aside0.mk hd
  have HL := Aside0.mk hl
  have HN := Aside0.mk hn
  have HT : Aside0 ((l.take n).length = n) := ⟨by rw [List.length_take]; omega⟩
  clear h hd hl hn hi hsz
  go_enter Try.func71, Try.ntmps71
  go_wp2_with ((with_reducible refine gate_builtin (b := .append) (xs := #[.tmp 6, .tmp 12]) rfl ?_); at_builtin; go_loud (refine print_append_row_of (Value.int .u8) (0 : Int) (w0 := w) w.heap.size rfl (.tmp 6) (.tmp 12) 22 5 (.int .u8 0) 1 rfl Try.underlying22 info5 rfl (by decide) (fun _ => rfl) (.slice (some ⟨w.heap.size, 0, none⟩) 0 0) [] (l.take n) A n c rfl rfl ?aO ?aX ?aB ?aH ?aL ?_); (case aO => exact World.ownsRow_lit w #[] 0 (Nat.le_refl _) (by decide) rfl); (case aX => exact Kd.reads_of_C (d := (0 : Int)) (Kd.C_below hX.out (below_alloc (Below.refl _ _) _))); (case aB => exact below_alloc (Below.refl _ _) _); (case aH => show w.heap.size ≤ (Array.push _ _).size; rw [Array.size_push]; omega); (case aL => have := HL.out; have := HN.out; simp only [List.length_nil]; omega); intro v1 w1 ho hb hg1 hat; (have hr1 := Kd.R_of_own (enc := Value.int .u8) (h1 := fun _ => rfl) (ok := fun k => w.heap.size ≤ k) ho (fun k hk => own_base ho k hk)); (have hc2 := (hb.cell (p := ⟨g, 0, none⟩) hg).trans hc0); (have hf2 := (hb.frozen (p := ⟨g, 0, none⟩) hg).trans hf0); have HO1 := Aside0.mk hr1; have HBB := Aside0.mk hb; clear hat ho hb hg1 hr1)
  go_ret
  have hrow := (H.out.below HBB.out).set_row HD.out.1 (Kd.C_below HD.out.2.1 HBB.out) HD.out.2.2
  rw [List.length_drop] at hrow
  exact ⟨⟨_, rfl, Kd.R_mono (Kd.R_far (p := (⟨g, 0, none⟩ : Addr)) HO1.out (fun k hk => by show k ≠ g; omega) _) (fun _ _ => trivial)⟩, ⟨B, d, hrow⟩, (Fr.of_below HBB.out (fun k => k = g)).then_ (Fr.set 0 _) (fun _ h => .inl h)⟩
end Go.Proofs.Ytkjkmaopifmghaa.Oct
namespace Go.Proofs.Ytkjkmaopifmghaa.Oct
open Go.RowKit Go.Proofs.YtkjkmaopifmghaaW.PrintWords Go.Proofs.YtkjkmaopifmghaaW.PrintLast Go.Proofs.YtkjkmaopifmghaaW.PrintMore Go.Proofs.Ytkjkmaopifmghaa.OctNum
set_option linter.unusedVariables false
set_option linter.unusedSimpArgs false
set_option maxRecDepth 100000
variable {S : Nat → Prop}
theorem ref_Key (b : Nat) (w : World) (hb : b < 4294967296) : Calls Try.prog 53 #[.float .f32 b] w fun e w' => e = .returned (.int .u32 (keyB b)) ∧ w' = w := by
  have hc := bits_call b
  have ho := order_self b
  by_cases hn : nanB b = true
  · have E : keyB b = 4290772992 := by unfold keyB; rw [if_pos hn]
    rw [E]
    rw [hn] at ho
    clear E hn
    go_enter Try.func53, Try.ntmps53
    go_wp2
    go_ret
    exact ⟨by first | rfl | (simp; done), rfl⟩
  · have hn' : nanB b = false := by simpa using hn
    rw [hn'] at ho
    by_cases hs : b < 2147483648
    · have E : keyB b = (b : Int) + 2147483648 := by unfold keyB; rw [if_neg hn, if_pos hs]
      rw [E]
      have hd : decide ((2147483648 : Int) ≤ (b : Int)) = false := decide_eq_false (by omega)
      have hw : ((b : Int) + 2147483648) % 4294967296 = (b : Int) + 2147483648 := by omega
      clear E hn hn'
      go_enter Try.func53, Try.ntmps53
      go_wp2
      go_ret
      exact ⟨by first | rfl | (simp; done), rfl⟩
    · have E : keyB b = 4294967295 - (b : Int) := by unfold keyB; rw [if_neg hn, if_neg hs]
      rw [E]
      have hd : decide ((2147483648 : Int) ≤ (b : Int)) = true := decide_eq_true (by omega)
      have hw : (4294967295 - (b : Int)) % 4294967296 = 4294967295 - (b : Int) := by omega
      clear E hn hn'
      go_enter Try.func53, Try.ntmps53
      go_wp2
      go_ret
      exact ⟨by first | rfl | (simp; done), rfl⟩
theorem ref_RealOf (K : Int) (w : World) (h0 : 0 ≤ K) (h1 : K < 4294967296) : Calls Try.prog 74 #[.int .u32 K] w fun e w' => e = .returned (.tuple #[.float .f32 (realB K), .bool (keyB (realB K) == K)]) ∧ w' = w := by
  have hfb := frombits_call
  have HR := Aside0.mk (realB_lt K h0 h1)
  by_cases hlo : K < 2147483648
  · have hre : Aside0 ((4294967295 - K).toNat = realB K) := ⟨by unfold realB; rw [if_pos hlo]⟩
    have hd : decide (K < 2147483648) = true := decide_eq_true hlo
    have hw1 : (4294967295 - K) % 4294967296 = 4294967295 - K := by omega
    go_enter Try.func74, Try.ntmps74
    go_wp2_with (go_at_call 53; rw [hre.out]; go_loud (refine (ref_Key (realB K) _ HR.out).mono ?_); rintro e w1 ⟨rfl, rfl⟩)
    go_ret2
    exact ⟨by rw [← hre.out]; rfl, rfl⟩
  · have hre : Aside0 ((K - 2147483648).toNat = realB K) := ⟨by unfold realB; rw [if_neg hlo]⟩
    have hd : decide (K < 2147483648) = false := decide_eq_false hlo
    have hw1 : (K - 2147483648) % 4294967296 = K - 2147483648 := by omega
    go_enter Try.func74, Try.ntmps74
    go_wp2_with (go_at_call 53; rw [hre.out]; go_loud (refine (ref_Key (realB K) _ HR.out).mono ?_); rintro e w1 ⟨rfl, rfl⟩)
    go_ret2
    exact ⟨by rw [← hre.out]; rfl, rfl⟩
theorem ref_Byte (w : World) (g : Nat) (l : List Int) (e : Int) (h : DdAt w g S l e) (hl : l.length ≤ 140737488355328) :
    Calls Try.prog 61 #[.pointer (some ⟨g, 0, none⟩)] w fun r w' => r = .returned (.int .u8 (mByte l e).1) ∧ DdAt w' g S (mByte l e).2.1 (mByte l e).2.2 ∧ Fr w w' (fun k => k = g) := by
  have H := Aside0.mk h
  have HL := Aside0.mk hl
  obtain ⟨A, c, h⟩ := h
  obtain ⟨⟨hc0, hf0⟩, hc1, hf1⟩ := blk_two h.1
  clear h hl
  by_cases he : e = 0
  · subst he
    cases l with
    | cons x t =>
      show Calls _ _ _ _ fun r w' => r = .returned (.int .u8 x) ∧ DdAt w' g S t 0 ∧ Fr w w' (fun k => k = g)
      have hp : 0 < (x :: t).length := by simp
      generalize hn : (x :: t).length = n at *
      have HN := Aside0.mk hn
      clear hn
      go_enter Try.func61, Try.ntmps61
      go_wp2_with (go_at_call 71; go_loud (refine (ref_take _ g (x :: t) 0 1 H.out (by simp) (by rw [HN.out]; exact HL.out)).mono ?_); rintro e1 w1 ⟨⟨v, rfl, hv⟩, h1, h2⟩; (obtain ⟨B, d, rfl⟩ := Kd.R_slice hv); (obtain ⟨ad, hA, hx⟩ := Kd.at_int (Kd.R_reads' hv).2.2 0 (by omega) (by simp)); (have hx' : w1.cell? ad = some (.int .u8 x) := hx); subst hA; have H1 := Aside0.mk (show DdAt w1 g S t 0 from h1); have H2 := Aside0.mk h2; clear h1 h2 hv hx)
      go_ret
      exact ⟨rfl, H1.out, H2.out⟩
    | nil =>
      show Calls _ _ _ _ fun r w' => r = .returned (.int .u8 0) ∧ DdAt w' g S [] 20 ∧ Fr w w' (fun k => k = g)
      go_enter Try.func61, Try.ntmps61
      go_wp2_with (go_at_call 70; go_loud (refine (ref_refuse _ g [] 0 20 H.out).mono ?_); rintro e1 w1 ⟨rfl, h1, h2⟩; have H1 := Aside0.mk h1; have H2 := Aside0.mk h2; clear h1 h2)
      go_ret
      exact ⟨rfl, H1.out, H2.out⟩
  · have E : mByte l e = (0, l, e) := by unfold mByte; rw [if_pos he]
    rw [E]
    clear E
    go_enter Try.func61, Try.ntmps61
    go_wp2
    go_ret
    exact ⟨rfl, H.out, Fr.refl _ _⟩
theorem ref_Uint (k : Nat) (w : World) (g : Nat) (l : List Int) (e x s : Int) (n : Nat) (h : DdAt w g S l e) (hl : l.length ≤ 140737488355328) (hs : latchkeyref02_number.f k l = some (x, (n : Int), s)) (hn : n ≤ l.length) (hz : s ≠ 0 → x = 0 ∧ n = 0) :
    Calls Try.prog 62 #[.pointer (some ⟨g, 0, none⟩)] w fun r w' => r = .returned (.int .u64 (mUint (x, n, s) l e).1) ∧ DdAt w' g S (mUint (x, n, s) l e).2.1 (mUint (x, n, s) l e).2.2 ∧ Fr w w' (fun k => k = g) := by
  have H := Aside0.mk h
  have HL := Aside0.mk hl
  have HS := Aside0.mk hs
  have HN := Aside0.mk hn
  obtain ⟨A, c, h⟩ := h
  have h3' := Aside0.mk h.2.2.1
  have h2' := Aside0.mk h.2.1
  obtain ⟨⟨hc0, hf0⟩, hc1, hf1⟩ := blk_two h.1
  clear h hl hs hn
  by_cases he : e = 0
  · subst he
    by_cases hs0 : s = 0
    · subst hs0
      show Calls _ _ _ _ fun r w' => r = .returned (.int .u64 x) ∧ DdAt w' g S (l.drop n) 0 ∧ Fr w w' (fun k => k = g)
      clear hz
      go_enter Try.func62, Try.ntmps62
      go_wp2_with (first | (go_at_call 72; go_loud (refine (latchkeyref02_number.calls k A c l x (n : Int) 0 _ h3'.out h2'.out HS.out).mono ?_); (rintro e1 w2 ⟨rfl, ⟨m2, rfl⟩⟩)) | (go_at_call 71; go_loud (refine (ref_take _ g l 0 n (H.out.below (dn_below _ m2)) HN.out HL.out).mono ?_); rintro e1 w1 ⟨⟨v, rfl, hv⟩, h1, h2⟩; have H1 := Aside0.mk h1; have H2 := Aside0.mk ((Fr.of_below (dn_below _ m2) (fun k => k = g)).then_ h2 (fun _ h => .inl h)); clear h1 h2 hv))
      go_ret
      exact ⟨rfl, H1.out, H2.out⟩
    · obtain ⟨rfl, rfl⟩ := hz hs0
      show Calls _ _ _ _ fun r w' => r = .returned (.int .u64 0) ∧ DdAt w' g S l s ∧ Fr w w' (fun k => k = g)
      go_enter Try.func62, Try.ntmps62
      go_wp2_with (first | (go_at_call 72; go_loud (refine (latchkeyref02_number.calls k A c l 0 0 s _ h3'.out h2'.out HS.out).mono ?_); (rintro e1 w2 ⟨rfl, ⟨m2, rfl⟩⟩)) | (go_at_call 70; go_loud (refine (ref_refuse _ g l 0 s (H.out.below (dn_below _ m2))).mono ?_); rintro e1 w1 ⟨rfl, h1, h2⟩; have H1 := Aside0.mk h1; have H2 := Aside0.mk ((Fr.of_below (dn_below _ m2) (fun k => k = g)).then_ h2 (fun _ h => .inl h)); clear h1 h2))
      go_ret
      exact ⟨rfl, H1.out, H2.out⟩
  · have E : mUint (x, n, s) l e = (0, l, e) := by unfold mUint; rw [if_pos he]
    rw [E]
    clear E hz
    go_enter Try.func62, Try.ntmps62
    go_wp2
    go_ret
    exact ⟨rfl, H.out, Fr.refl _ _⟩
theorem ref_Int (k : Nat) (w : World) (g : Nat) (l : List Int) (e x s b : Int) (n : Nat) (h : DdAt w g S l e) (hl : l.length ≤ 140737488355328) (hs : latchkeyref02_number.f k l = some (x, (n : Int), s)) (hn : n ≤ l.length) (hz : s ≠ 0 → x = 0 ∧ n = 0) (hb : latchkeyref02_Back.f (mUint (x, n, s) l e).1 = some b) :
    Calls Try.prog 63 #[.pointer (some ⟨g, 0, none⟩)] w fun r w' => r = .returned (.int .i64 b) ∧ DdAt w' g S (mUint (x, n, s) l e).2.1 (mUint (x, n, s) l e).2.2 ∧ Fr w w' (fun k => k = g) := by
  have HB := Aside0.mk hb
  have HU := Aside0.mk (ref_Uint k w g l e x s n h hl hs hn hz)
  generalize mUint (x, n, s) l e = q at *
  clear h hl hs hn hz hb
  go_enter Try.func63, Try.ntmps63
  go_wp2_with (first | (go_at_call 62; go_loud (refine HU.out.mono ?_); (rintro e1 w2 ⟨rfl, h1, h2⟩); have H1 := Aside0.mk h1; have H2 := Aside0.mk h2; clear h1 h2) | (go_at_call 73; go_loud (refine (latchkeyref02_Back.calls q.1 b _ HB.out).mono ?_); rintro e3 w3 ⟨rfl, ⟨m3, rfl⟩⟩))
  go_ret
  exact ⟨rfl, H1.out.below (dn_below _ m3), H2.out.then_ (Fr.drewN _ m3 _) (fun _ h => .inl h)⟩
end Go.Proofs.Ytkjkmaopifmghaa.Oct
namespace Go.Proofs.Ytkjkmaopifmghaa.Oct
open Go.RowKit Go.Proofs.YtkjkmaopifmghaaW.PrintWords Go.Proofs.YtkjkmaopifmghaaW.PrintLast Go.Proofs.YtkjkmaopifmghaaW.PrintMore Go.Proofs.Ytkjkmaopifmghaa.OctNum
set_option linter.unusedVariables false
set_option linter.unusedSimpArgs false
set_option maxRecDepth 100000
variable {S : Nat → Prop}
theorem ref_Raw (w : World) (g : Nat) (l : List Int) (e n : Int) (h : DdAt w g S l e) (hl : l.length ≤ 140737488355328) :
    Calls Try.prog 66 #[.pointer (some ⟨g, 0, none⟩), .int .i64 n] w fun r w' => (∃ v, r = .returned v ∧ U8.R 5 w' w.heap.size (fun _ => True) v (mRaw n l e).1) ∧ DdAt w' g S (mRaw n l e).2.1 (mRaw n l e).2.2 ∧ Fr w w' (fun k => k = g) := by
  have H := Aside0.mk h
  have HL := Aside0.mk hl
  obtain ⟨A, c, h⟩ := h
  obtain ⟨⟨hc0, hf0⟩, hc1, hf1⟩ := blk_two h.1
  clear h hl
  by_cases he : e = 0
  · subst he
    by_cases h0 : n < 0
    · have E : mRaw n l 0 = ([], l, 2) := by unfold mRaw; rw [if_neg (by simp), if_pos h0]
      rw [E]
      clear E
      go_enter Try.func66, Try.ntmps66
      go_wp2_with (go_at_call 70; go_loud (refine (ref_refuse _ g l 0 2 H.out).mono ?_); rintro e1 w1 ⟨rfl, h1, h2⟩; have H1 := Aside0.mk h1; have H2 := Aside0.mk h2; clear h1 h2)
      go_ret
      exact ⟨⟨_, rfl, Kd.R_nil _ _ _ _ _⟩, H1.out, H2.out⟩
    · by_cases hn : (l.length : Int) < n
      · have E : mRaw n l 0 = ([], l, 20) := by unfold mRaw; rw [if_neg (by simp), if_neg h0, if_pos hn]
        rw [E]
        clear E
        go_enter Try.func66, Try.ntmps66
        go_wp2_with (go_at_call 70; go_loud (refine (ref_refuse _ g l 0 20 H.out).mono ?_); rintro e1 w1 ⟨rfl, h1, h2⟩; have H1 := Aside0.mk h1; have H2 := Aside0.mk h2; clear h1 h2)
        go_ret
        exact ⟨⟨_, rfl, Kd.R_nil _ _ _ _ _⟩, H1.out, H2.out⟩
      · have E : mRaw n l 0 = (l.take n.toNat, l.drop n.toNat, 0) := by unfold mRaw; rw [if_neg (by simp), if_neg h0, if_neg hn]
        rw [E]
        clear E
        obtain ⟨m, rfl⟩ := Int.eq_ofNat_of_zero_le (by omega : 0 ≤ n)
        have HN : Aside0 (m ≤ l.length) := ⟨by omega⟩
        have hd : decide (l.length < m) = false := decide_eq_false (by omega)
        have hd' : ¬ l.length < m := by omega
        have hd0 : decide ((m : Int) < 0) = false := decide_eq_false h0
        clear hn h0
        go_enter Try.func66, Try.ntmps66
        go_wp2_with (go_at_call 71; go_loud (refine (ref_take _ g l 0 m H.out HN.out HL.out).mono ?_); rintro e1 w1 ⟨⟨v, rfl, hv⟩, h1, h2⟩; have HV := Aside0.mk hv; have H1 := Aside0.mk h1; have H2 := Aside0.mk h2; clear h1 h2 hv)
        go_ret
        exact ⟨⟨_, rfl, HV.out⟩, H1.out, H2.out⟩
  · have E : mRaw n l e = ([], l, e) := by unfold mRaw; rw [if_pos he]
    rw [E]
    clear E
    go_enter Try.func66, Try.ntmps66
    go_wp2
    go_ret
    exact ⟨⟨_, rfl, Kd.R_nil _ _ _ _ _⟩, H.out, Fr.refl _ _⟩
theorem ref_Text_no (k : Nat) (w : World) (g : Nat) (l : List Int) (most x s : Int) (n : Nat) (h : DdAt w g S l 0) (hl : l.length ≤ 140737488355328) (hs : latchkeyref02_number.f k l = some (x, (n : Int), s)) (hn : n ≤ l.length) (hx0 : 0 ≤ x) (hm0 : 0 ≤ most) (hm : most < 9223372036854775808) (r : Int) (hr : (s ≠ 0 ∧ r = s) ∨ (s = 0 ∧ x > most ∧ r = 3) ∨ (s = 0 ∧ x ≤ most ∧ x > (l.length : Int) - n ∧ r = 20)) :
    Calls Try.prog 65 #[.pointer (some ⟨g, 0, none⟩), .int .i64 most] w fun e w' => e = .returned (.string .empty) ∧ DdAt w' g S l r ∧ Fr w w' (fun k => k = g) := by
  have H := Aside0.mk h
  have HL := Aside0.mk hl
  have HS := Aside0.mk hs
  obtain ⟨A, c, h⟩ := h
  have h3' := Aside0.mk h.2.2.1
  have h2' := Aside0.mk h.2.1
  obtain ⟨⟨hc0, hf0⟩, hc1, hf1⟩ := blk_two h.1
  have w1 : IntKind.u64.wrap most = most := by
    show most % 18446744073709551616 = most
    omega
  have w4 : wrap64 ((l.length : Int) - n) = (l.length : Int) - n := (by unfold wrap64; omega)
  have w5 : IntKind.u64.wrap ((l.length : Int) - n) = (l.length : Int) - n := by
    show ((l.length : Int) - n) % 18446744073709551616 = _
    omega
  have d1 : decide (most < 0) = false := decide_eq_false (by omega)
  rcases hr with ⟨hs0, rfl⟩ | ⟨rfl, hx, rfl⟩ | ⟨rfl, hxm, hx, rfl⟩
  · clear h hl hs hn hx0 hm0 hm w4 w5
    go_enter Try.func65, Try.ntmps65
    go_wp2_with (first | (go_at_call 72; go_loud (refine (latchkeyref02_number.calls k A c l x (n : Int) r _ h3'.out h2'.out HS.out).mono ?_); (rintro e1 w2 ⟨rfl, ⟨m2, rfl⟩⟩)) | (go_at_call 70; go_loud (refine (ref_refuse _ g l 0 r (H.out.below (dn_below _ m2))).mono ?_); rintro e1 w3 ⟨rfl, h1, h2⟩; have H1 := Aside0.mk h1; have H2 := Aside0.mk ((Fr.of_below (dn_below _ m2) (fun k => k = g)).then_ h2 (fun _ h => .inl h)); clear h1 h2))
    all_goals go_ret
    all_goals exact ⟨rfl, H1.out, H2.out⟩
  · have d2 : decide (most < x) = true := decide_eq_true (by omega)
    clear h hl hs hn hx0 hm0 hm w4 w5 hx
    go_enter Try.func65, Try.ntmps65
    go_wp2_with (first | (go_at_call 72; go_loud (refine (latchkeyref02_number.calls k A c l x (n : Int) 0 _ h3'.out h2'.out HS.out).mono ?_); (rintro e1 w2 ⟨rfl, ⟨m2, rfl⟩⟩)) | (go_at_call 70; go_loud (refine (ref_refuse _ g l 0 3 (H.out.below (dn_below _ m2))).mono ?_); rintro e1 w3 ⟨rfl, h1, h2⟩; have H1 := Aside0.mk h1; have H2 := Aside0.mk ((Fr.of_below (dn_below _ m2) (fun k => k = g)).then_ h2 (fun _ h => .inl h)); clear h1 h2))
    all_goals go_ret
    all_goals exact ⟨rfl, H1.out, H2.out⟩
  · have d2 : decide (most < x) = false := decide_eq_false (by omega)
    have d3 : decide ((l.length : Int) - n < x) = true := decide_eq_true (by omega)
    clear h hl hs hn hx0 hm0 hm hx hxm
    go_enter Try.func65, Try.ntmps65
    go_wp2_with (first | (go_at_call 72; go_loud (refine (latchkeyref02_number.calls k A c l x (n : Int) 0 _ h3'.out h2'.out HS.out).mono ?_); (rintro e1 w2 ⟨rfl, ⟨m2, rfl⟩⟩)) | (go_at_call 70; go_loud (refine (ref_refuse _ g l 0 20 (H.out.below (dn_below _ m2))).mono ?_); rintro e1 w3 ⟨rfl, h1, h2⟩; have H1 := Aside0.mk h1; have H2 := Aside0.mk ((Fr.of_below (dn_below _ m2) (fun k => k = g)).then_ h2 (fun _ h => .inl h)); clear h1 h2))
    all_goals go_ret
    all_goals exact ⟨rfl, H1.out, H2.out⟩
theorem ref_Text_ok (k : Nat) (w : World) (g : Nat) (l : List Int) (most : Int) (x n : Nat) (h : DdAt w g S l 0) (hl : l.length ≤ 140737488355328) (hs : latchkeyref02_number.f k l = some ((x : Int), (n : Int), 0)) (hx : (x : Int) ≤ most) (hm : most < 9223372036854775808) (hn : n + x ≤ l.length) :
    Calls Try.prog 65 #[.pointer (some ⟨g, 0, none⟩), .int .i64 most] w fun e w' => e = .returned (.string (strOfNums ((l.drop n).take x))) ∧ DdAt w' g S (l.drop (n + x)) 0 ∧ Fr w w' (fun k => k = g) := by
  have H := Aside0.mk h
  have HL := Aside0.mk hl
  have HS := Aside0.mk hs
  have HN := Aside0.mk hn
  obtain ⟨A, c, h⟩ := h
  have h3' := Aside0.mk h.2.2.1
  have h2' := Aside0.mk h.2.1
  obtain ⟨⟨hc0, hf0⟩, hc1, hf1⟩ := blk_two h.1
  have w1 : IntKind.u64.wrap most = most := by
    show most % 18446744073709551616 = most
    omega
  have w2 : wrap64 (x : Int) = (x : Int) := (by unfold wrap64; omega)
  have w4 : wrap64 ((l.length : Int) - n) = (l.length : Int) - n := (by unfold wrap64; omega)
  have w5 : IntKind.u64.wrap ((l.length : Int) - n) = (l.length : Int) - n := by
    show ((l.length : Int) - n) % 18446744073709551616 = _
    omega
  have d1 : decide (most < 0) = false := decide_eq_false (by omega)
  have d2 : decide (most < (x : Int)) = false := decide_eq_false (by omega)
  have d3 : decide ((l.length : Int) - n < (x : Int)) = false := decide_eq_false (by omega)
  have hcv : ∀ (W : World) (B : Option Addr) (d : Nat), U8.C W B ((l.drop n).take x).length ((l.drop n).take x) → (convert 22 9 (.slice B ((l.drop n).take x).length d)).run Try.prog W = .ok (.string (strOfNums ((l.drop n).take x))) W := fun W B d h => Kd.C_string Try.underlying22 Try.underlying5 Try.underlying9 h
  have HCV := Aside0.mk hcv
  have HLX : Aside0 (((l.drop n).take x).length = x) := ⟨by rw [List.length_take, List.length_drop]; omega⟩
  clear h hl hs hn hcv hx hm
  go_enter Try.func65, Try.ntmps65
  go_wp2_with (first | (go_at_call 72; go_loud (refine (latchkeyref02_number.calls k A c l (x : Int) (n : Int) 0 _ h3'.out h2'.out HS.out).mono ?_); (rintro e1 w2 ⟨rfl, ⟨m2, rfl⟩⟩)) | (go_at_call 71; ((with_reducible refine (ref_take _ g l 0 n (H.out.below (dn_below _ m2)) (by have := HN.out; omega) HL.out).mono ?_); rintro e1 w3 ⟨⟨v, rfl, hv⟩, h1, h2⟩; have H1 := Aside0.mk h1; have H2 := Aside0.mk ((Fr.of_below (dn_below _ m2) (fun k => k = g)).then_ h2 (fun _ h => .inl h)); clear h1 h2 hv)) | (go_at_call 71; go_loud (refine (ref_take _ g (l.drop n) 0 x H1.out (by have := HN.out; rw [List.length_drop]; omega) (by have := HL.out; rw [List.length_drop]; omega)).mono ?_); rintro e1 w4 ⟨⟨v, rfl, hv⟩, h1, h2⟩; (obtain ⟨B, d, rfl⟩ := Kd.R_slice hv); (have hcv := HCV.out w4 B d (Kd.R_reads' hv).2.2); rw [HLX.out] at hcv; rw [HLX.out]; have H3 := Aside0.mk h1; have H4 := Aside0.mk (H2.out.then_ h2 (fun _ h => .inl h)); clear h1 h2 hv))
  go_ret
  exact ⟨rfl, by have := H3.out; rw [List.drop_drop] at this; exact this, H4.out⟩
theorem ref_Text (k : Nat) (w : World) (g : Nat) (l : List Int) (e most x s : Int) (n : Nat) (h : DdAt w g S l e) (hl : l.length ≤ 140737488355328) (hs : latchkeyref02_number.f k l = some (x, (n : Int), s)) (hn : n ≤ l.length) (hx0 : 0 ≤ x) (hm : most < 9223372036854775808) :
    Calls Try.prog 65 #[.pointer (some ⟨g, 0, none⟩), .int .i64 most] w fun r w' => r = .returned (.string (mText most (x, n, s) l e).1) ∧ DdAt w' g S (mText most (x, n, s) l e).2.1 (mText most (x, n, s) l e).2.2 ∧ Fr w w' (fun k => k = g) := by
  by_cases he : e = 0
  · subst he
    by_cases hm0 : most < 0
    · have E : mText most (x, n, s) l 0 = (.empty, l, 2) := by unfold mText; rw [if_neg (by simp), if_pos hm0]
      rw [E]
      have H := Aside0.mk h
      obtain ⟨A, c, h⟩ := h
      obtain ⟨⟨hc0, hf0⟩, hc1, hf1⟩ := blk_two h.1
      clear h E hl hs hn hx0 hm
      go_enter Try.func65, Try.ntmps65
      go_wp2_with (go_at_call 70; go_loud (refine (ref_refuse _ g l 0 2 H.out).mono ?_); rintro e1 w1 ⟨rfl, h1, h2⟩; have H1 := Aside0.mk h1; have H2 := Aside0.mk h2; clear h1 h2)
      go_ret
      exact ⟨rfl, H1.out, H2.out⟩
    · by_cases hs0 : s = 0
      · subst hs0
        by_cases hxm : x > most
        · have E : mText most (x, n, 0) l 0 = (.empty, l, 3) := by unfold mText; rw [if_neg (by simp), if_neg hm0, if_neg (by simp), if_pos hxm]
          rw [E]
          exact ref_Text_no k w g l most x 0 n h hl hs hn hx0 (by omega) hm 3 (.inr (.inl ⟨rfl, hxm, rfl⟩))
        · by_cases hxl : x > (l.length : Int) - n
          · have E : mText most (x, n, 0) l 0 = (.empty, l, 20) := by unfold mText; rw [if_neg (by simp), if_neg hm0, if_neg (by simp), if_neg hxm, if_pos hxl]
            rw [E]
            exact ref_Text_no k w g l most x 0 n h hl hs hn hx0 (by omega) hm 20 (.inr (.inr ⟨rfl, by omega, hxl, rfl⟩))
          · obtain ⟨y, rfl⟩ := Int.eq_ofNat_of_zero_le hx0
            have E : mText most ((y : Int), n, 0) l 0 = (strOfNums ((l.drop n).take y), l.drop (n + y), 0) := by
              unfold mText
              rw [if_neg (by simp), if_neg hm0, if_neg (by simp), if_neg hxm, if_neg hxl]
              have e1 : ((n : Int) + (y : Int)).toNat = n + y := by omega
              simp only [e1, Int.toNat_natCast]
            rw [E]
            exact ref_Text_ok k w g l most y n h hl hs (by omega) hm (by omega)
      · have E : mText most (x, n, s) l 0 = (.empty, l, s) := by unfold mText; rw [if_neg (by simp), if_neg hm0, if_pos hs0]
        rw [E]
        exact ref_Text_no k w g l most x s n h hl hs hn hx0 (by omega) hm s (.inl ⟨hs0, rfl⟩)
  · have E : mText most (x, n, s) l e = (.empty, l, e) := by unfold mText; rw [if_pos he]
    rw [E]
    have H := Aside0.mk h
    obtain ⟨A, c, h⟩ := h
    obtain ⟨⟨hc0, hf0⟩, hc1, hf1⟩ := blk_two h.1
    clear h E hl hs hn hx0 hm
    go_enter Try.func65, Try.ntmps65
    go_wp2
    go_ret
    exact ⟨rfl, H.out, Fr.refl _ _⟩
end Go.Proofs.Ytkjkmaopifmghaa.Oct
namespace Go.Proofs.Ytkjkmaopifmghaa.Oct
open Go.RowKit Go.Proofs.YtkjkmaopifmghaaW.PrintWords Go.Proofs.YtkjkmaopifmghaaW.PrintLast Go.Proofs.YtkjkmaopifmghaaW.PrintMore Go.Proofs.Ytkjkmaopifmghaa.OctNum
set_option linter.unusedVariables false
set_option linter.unusedSimpArgs false
set_option maxRecDepth 100000
variable {S : Nat → Prop}
def preK (a b c d : Int) : Nat → Int
  | 0 => 0
  | 1 => a
  | 2 => a * 256 + b
  | 3 => (a * 256 + b) * 256 + c
  | _ => four a b c d
set_option maxHeartbeats 1000000 in
theorem ref_Real_any (w : World) (g : Nat) (a b c d : Int) (l : List Int) (h : DdAt w g S (a :: b :: c :: d :: l) 0) (hl : (a :: b :: c :: d :: l).length ≤ 140737488355328) (ha : 0 ≤ a ∧ a < 256) (hb : 0 ≤ b ∧ b < 256) (hc : 0 ≤ c ∧ c < 256) (hd : 0 ≤ d ∧ d < 256) :
    Calls Try.prog 64 #[.pointer (some ⟨g, 0, none⟩)] w fun e w' => ((keyB (realB (four a b c d)) = four a b c d → e = .returned (.float .f32 (realB (four a b c d))) ∧ DdAt w' g S l 0) ∧ (keyB (realB (four a b c d)) ≠ four a b c d → e = .returned (.float .f32 0) ∧ DdAt w' g S (a :: b :: c :: d :: l) 21)) ∧ Fr w w' (fun k => k = g) := by
  have H := Aside0.mk h
  have HL := Aside0.mk hl
  obtain ⟨A, cc, h⟩ := h
  obtain ⟨⟨hc0, hf0⟩, hc1, hf1⟩ := blk_two h.1
  obtain ⟨ad, rfl, hx0⟩ := Kd.at_int h.2.2.1 0 (by omega) (by simp only [List.length_cons]; omega)
  obtain ⟨ad1, e1, hx1⟩ := Kd.at_int h.2.2.1 1 (by omega) (by simp only [List.length_cons]; omega)
  obtain ⟨ad2, e2, hx2⟩ := Kd.at_int h.2.2.1 2 (by omega) (by simp only [List.length_cons]; omega)
  obtain ⟨ad3, e3, hx3⟩ := Kd.at_int h.2.2.1 3 (by omega) (by simp only [List.length_cons]; omega)
  obtain rfl := Option.some.inj e1
  obtain rfl := Option.some.inj e2
  obtain rfl := Option.some.inj e3
  have q0 : w.cell? ad = some (.int .u8 a) := hx0
  have q1 : w.cell? { block := ad.block, off := ad.off + 1 } = some (.int .u8 b) := hx1
  have q2 : w.cell? { block := ad.block, off := ad.off + 2 } = some (.int .u8 c) := hx2
  have q3 : w.cell? { block := ad.block, off := ad.off + 3 } = some (.int .u8 d) := hx3
  have K0 : Aside0 (0 ≤ four a b c d ∧ four a b c d < 4294967296) := ⟨by unfold four; omega⟩
  have hn4 : 4 ≤ (a :: b :: c :: d :: l).length := by simp only [List.length_cons]; omega
  have P1 : Aside0 ((preK a b c d 0 * 256 % 4294967296 + a % 4294967296) % 4294967296 = preK a b c d 1) := ⟨by simp only [preK]; omega⟩
  have P2 : Aside0 ((preK a b c d 1 * 256 % 4294967296 + b % 4294967296) % 4294967296 = preK a b c d 2) := ⟨by simp only [preK]; omega⟩
  have P3 : Aside0 ((preK a b c d 2 * 256 % 4294967296 + c % 4294967296) % 4294967296 = preK a b c d 3) := ⟨by simp only [preK]; omega⟩
  have P4 : Aside0 ((preK a b c d 3 * 256 % 4294967296 + d % 4294967296) % 4294967296 = preK a b c d 4) := ⟨by simp only [preK, four]; omega⟩
  have P0 : Aside0 (preK a b c d 0 = 0) := ⟨rfl⟩
  have P5 : Aside0 (preK a b c d 4 = four a b c d) := ⟨rfl⟩
  generalize hn : (a :: b :: c :: d :: l).length = n at *
  have HN := Aside0.mk hn
  clear h e1 e2 e3 hx0 hx1 hx2 hx3 ha hb hc hd hn hl
  go_enter Try.func64, Try.ntmps64
  go_wp2
  go_loop [3, 4] (fun k i => ∃ j : Nat, j ≤ 4 ∧ i = .int .i64 j ∧ k = .int .u32 (preK a b c d j)) (fun _ i => 4 - (intOf i).toNat)
  case atStart => exact ⟨0, by omega, rfl, by rw [P0.out]⟩
  case round =>
    obtain ⟨j, hj, rfl, rfl⟩ := hrel
    rcases (by omega : j = 0 ∨ j = 1 ∨ j = 2 ∨ j = 3 ∨ j = 4) with rfl | rfl | rfl | rfl | rfl
    · go_wp2
      go_round
      case rel => exact ⟨1, by omega, rfl, by rw [← P1.out]⟩
      case measure => simp [intOf]
    · go_wp2
      go_round
      case rel => exact ⟨2, by omega, rfl, by rw [← P2.out]⟩
      case measure => simp [intOf]
    · go_wp2
      go_round
      case rel => exact ⟨3, by omega, rfl, by rw [← P3.out]⟩
      case measure => simp [intOf]
    · go_wp2
      go_round
      case rel => exact ⟨4, by omega, rfl, by rw [← P4.out]⟩
      case measure => simp [intOf]
    · by_cases hk : keyB (realB (four a b c d)) = four a b c d
      · have HK := Aside0.mk hk
        have hb : (keyB (realB (four a b c d)) == four a b c d) = true := by rw [hk]; simp
        have HB := Aside0.mk hb
        clear hk hb
        go_wp2_with (first | (go_at_call 74; rw [P5.out]; go_loud (refine (ref_RealOf (four a b c d) _ K0.out.1 K0.out.2).mono ?_); rintro e1 w1 ⟨rfl, rfl⟩; rw [HB.out]) | (go_at_call 71; go_loud (refine (ref_take _ g (a :: b :: c :: d :: l) 0 4 H.out (by have := HN.out; omega) (by rw [HN.out]; exact HL.out)).mono ?_); rintro e2 w2 ⟨⟨v, rfl, hv⟩, h1, h2⟩; have H1 := Aside0.mk h1; have H2 := Aside0.mk h2; clear h1 h2 hv))
        go_ret
        exact ⟨⟨fun _ => ⟨rfl, H1.out⟩, fun h => absurd HK.out h⟩, H2.out⟩
      · have HK := Aside0.mk hk
        have HB := Aside0.mk (beq_eq_false_iff_ne.mpr hk)
        clear hk
        go_wp2_with (first | (go_at_call 74; rw [P5.out]; go_loud (refine (ref_RealOf (four a b c d) _ K0.out.1 K0.out.2).mono ?_); rintro e1 w1 ⟨rfl, rfl⟩; rw [HB.out]) | (go_at_call 70; go_loud (refine (ref_refuse _ g _ 0 21 H.out).mono ?_); rintro e2 w2 ⟨rfl, h1, h2⟩; have H1 := Aside0.mk h1; have H2 := Aside0.mk h2; clear h1 h2))
        go_ret
        exact ⟨⟨fun h => absurd h HK.out, fun _ => ⟨rfl, H1.out⟩⟩, H2.out⟩
theorem ref_Real (w : World) (g : Nat) (l : List Int) (e : Int) (h : DdAt w g S l e) (hl : l.length ≤ 140737488355328) (hb : ∀ x ∈ l, 0 ≤ x ∧ x < 256) :
    Calls Try.prog 64 #[.pointer (some ⟨g, 0, none⟩)] w fun r w' => r = .returned (.float .f32 (mReal l e).1) ∧ DdAt w' g S (mReal l e).2.1 (mReal l e).2.2 ∧ Fr w w' (fun k => k = g) := by
  by_cases he : e = 0
  · subst he
    by_cases hl4 : l.length < 4
    · have E : mReal l 0 = (0, l, 20) := by
        unfold mReal
        rw [if_neg (by simp)]
        rcases l with _ | ⟨a, _ | ⟨b, _ | ⟨c, _ | ⟨d, t⟩⟩⟩⟩ <;> first | rfl | (simp at hl4; omega)
      rw [E]
      have H := Aside0.mk h
      obtain ⟨A, c, h⟩ := h
      obtain ⟨⟨hc0, hf0⟩, hc1, hf1⟩ := blk_two h.1
      have hd : decide ((l.length : Int) < 4) = true := decide_eq_true (by omega)
      clear h hl hl4 E hb
      go_enter Try.func64, Try.ntmps64
      go_wp2_with (go_at_call 70; go_loud (refine (ref_refuse _ g l 0 20 H.out).mono ?_); rintro e1 w1 ⟨rfl, h1, h2⟩; have H1 := Aside0.mk h1; have H2 := Aside0.mk h2; clear h1 h2)
      go_ret
      exact ⟨rfl, H1.out, H2.out⟩
    · obtain ⟨a, b, c, d, t, rfl⟩ : ∃ a b c d t, l = a :: b :: c :: d :: t := by
        rcases l with _ | ⟨a, _ | ⟨b, _ | ⟨c, _ | ⟨d, t⟩⟩⟩⟩ <;> first | exact ⟨_, _, _, _, _, rfl⟩ | (simp at hl4)
      refine (ref_Real_any w g a b c d t h hl (hb a (by simp)) (hb b (by simp)) (hb c (by simp)) (hb d (by simp))).mono ?_
      rintro r w' ⟨⟨h1, h2⟩, h3⟩
      by_cases hk : keyB (realB (four a b c d)) = four a b c d
      · have E : mReal (a :: b :: c :: d :: t) 0 = (realB (four a b c d), t, 0) := by unfold mReal; rw [if_neg (by simp)]; simp only []; rw [if_pos hk]
        rw [E]
        exact ⟨(h1 hk).1, (h1 hk).2, h3⟩
      · have E : mReal (a :: b :: c :: d :: t) 0 = (0, a :: b :: c :: d :: t, 21) := by unfold mReal; rw [if_neg (by simp)]; simp only []; rw [if_neg hk]
        rw [E]
        exact ⟨(h2 hk).1, (h2 hk).2, h3⟩
  · have E : mReal l e = (0, l, e) := by unfold mReal; rw [if_pos he]
    rw [E]
    have H := Aside0.mk h
    obtain ⟨A, c, h⟩ := h
    obtain ⟨⟨hc0, hf0⟩, hc1, hf1⟩ := blk_two h.1
    clear h hl E hb
    go_enter Try.func64, Try.ntmps64
    go_wp2
    go_ret
    exact ⟨rfl, H.out, Fr.refl _ _⟩
end Go.Proofs.Ytkjkmaopifmghaa.Oct
