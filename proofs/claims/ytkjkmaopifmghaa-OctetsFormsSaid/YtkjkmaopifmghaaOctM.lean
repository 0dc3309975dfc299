/- A Reader in any state: every read (plain walks). -/
import Derived.Test.YtkjkmaopifmghaaOctG
namespace Go.Proofs.Ytkjkmaopifmghaa.Oct
open Go.RowKit Go.Proofs.YtkjkmaopifmghaaW.PrintWords Go.Proofs.YtkjkmaopifmghaaW.PrintLast Go.Proofs.YtkjkmaopifmghaaW.PrintMore Go.Proofs.Ytkjkmaopifmghaa.OctShort
set_option linter.unusedVariables false
set_option linter.unusedSimpArgs false
variable {S : Nat → Prop}
set_option maxRecDepth 100000
def mByte (l : List Int) (e : Int) : Int × List Int × Int := if e ≠ 0 then (0, l, e) else match l with
  | [] => (0, [], 20)
  | x :: t => (x, t, 0)
theorem Reader_Byte (w : World) (g : Nat) (l : List Int) (e : Int) (h : RdAt w g S l e) :
    Calls Try.prog 41 #[.pointer (some ⟨g, 0, none⟩)] w fun r w' => r = .returned (.int .u8 (mByte l e).1) ∧ RdAt w' g S (mByte l e).2.1 (mByte l e).2.2 ∧ Fr w w' (fun k => k = g) := by
  by_cases he : e = 0
  · subst he
    cases l with
    | cons x t => exact Reader_Byte_ok w g x t h
    | nil =>
      have H := Aside0.mk h
      clear h
      show Calls _ _ _ _ fun r w' => r = .returned (.int .u8 0) ∧ RdAt w' g S [] 20 ∧ Fr w w' (fun k => k = g)
      go_enter Try.func41, Try.ntmps41
      go_wp2_with (go_at_call 57; go_loud (refine (Reader_ask_short w g [] 1 H.out (by decide)).mono ?_); rintro e w1 ⟨rfl, h1, h2⟩; have H1 := Aside0.mk h1; have H2 := Aside0.mk h2; clear h1 h2)
      go_ret
      exact ⟨rfl, H1.out, H2.out⟩
  · have E : mByte l e = (0, l, e) := by unfold mByte; rw [if_pos he]
    rw [E]
    have H := Aside0.mk h
    have HE := Aside0.mk he
    clear h he E
    go_enter Try.func41, Try.ntmps41
    go_wp2_with (go_at_call 57; go_loud (refine (Reader_ask_err w g l e 1 H.out HE.out).mono ?_); rintro e1 w1 ⟨rfl, rfl⟩)
    go_ret
    exact ⟨rfl, H.out, Fr.refl _ _⟩
def mUint (q : Int × Int × Int) (l : List Int) (e : Int) : Int × List Int × Int := if e ≠ 0 then (0, l, e) else (q.1, l.drop q.2.1.toNat, q.2.2)
theorem Reader_Uint (k : Nat) (w : World) (g : Nat) (l : List Int) (e : Int) (q : Int × Int × Int) (h : RdAt w g S l e) (hs : octets_short.f k l = some q) (h0 : 0 ≤ q.2.1) (hn : q.2.1 ≤ (l.length : Int)) :
    Calls Try.prog 31 #[.pointer (some ⟨g, 0, none⟩)] w fun r w' => r = .returned (.int .u64 (mUint q l e).1) ∧ RdAt w' g S (mUint q l e).2.1 (mUint q l e).2.2 ∧ Fr w w' (fun k => k = g) := by
  obtain ⟨x, n, s⟩ := q
  by_cases he : e = 0
  · subst he
    exact Reader_Uint_ok k w g l x n s h hs h0 hn
  · have E : mUint (x, n, s) l e = (0, l, e) := by unfold mUint; rw [if_pos he]
    rw [E]
    have H := Aside0.mk h
    have HE := Aside0.mk he
    clear h he E hs h0 hn
    go_enter Try.func31, Try.ntmps31
    go_wp2_with (go_at_call 57; go_loud (refine (Reader_ask_err w g l e 0 H.out HE.out).mono ?_); rintro e1 w1 ⟨rfl, rfl⟩)
    go_ret
    exact ⟨rfl, H.out, Fr.refl _ _⟩
theorem Reader_Int (k : Nat) (w : World) (g : Nat) (l : List Int) (e : Int) (q : Int × Int × Int) (h : RdAt w g S l e) (hs : octets_short.f k l = some q) (h0 : 0 ≤ q.2.1) (hn : q.2.1 ≤ (l.length : Int)) :
    Calls Try.prog 33 #[.pointer (some ⟨g, 0, none⟩)] w fun r w' => r = .returned (.int .i64 (back (mUint q l e).1)) ∧ RdAt w' g S (mUint q l e).2.1 (mUint q l e).2.2 ∧ Fr w w' (fun k => k = g) := by
  have H := Aside0.mk h
  have HS := Aside0.mk hs
  have HN := Aside0.mk (And.intro h0 hn)
  clear h hs h0 hn
  go_enter Try.func33, Try.ntmps33
  go_wp2_with (go_at_call 31; go_loud (refine (Reader_Uint k w g l e q H.out HS.out HN.out.1 HN.out.2).mono ?_); (rintro e1 w2 ⟨rfl, h1, h2⟩); have H1 := Aside0.mk h1; have H2 := Aside0.mk h2; clear h1 h2)
  go_ret
  exact ⟨rfl, H1.out, H2.out⟩
def mReal (l : List Int) (e : Int) : Nat × List Int × Int := if e ≠ 0 then (0, l, e) else match l with
  | a :: b :: c :: d :: t => if keyB (realB (four a b c d)) = four a b c d then (realB (four a b c d), t, 0) else (0, l, 21)
  | _ => (0, l, 20)
theorem Reader_Real (w : World) (g : Nat) (l : List Int) (e : Int) (h : RdAt w g S l e) (hb : ∀ x ∈ l, 0 ≤ x ∧ x < 256) :
    Calls Try.prog 35 #[.pointer (some ⟨g, 0, none⟩)] w fun r w' => r = .returned (.float .f32 (mReal l e).1) ∧ RdAt w' g S (mReal l e).2.1 (mReal l e).2.2 ∧ Fr w w' (fun k => k = g) := by
  by_cases he : e = 0
  · subst he
    by_cases hl : l.length < 4
    · have E : mReal l 0 = (0, l, 20) := by
        unfold mReal
        rw [if_neg (by simp)]
        rcases l with _ | ⟨a, _ | ⟨b, _ | ⟨c, _ | ⟨d, t⟩⟩⟩⟩ <;> first | rfl | (simp at hl; omega)
      rw [E]
      have H := Aside0.mk h
      have HL := Aside0.mk hl
      clear h hl E hb
      go_enter Try.func35, Try.ntmps35
      go_wp2_with (go_at_call 57; go_loud (refine (Reader_ask_short w g l 4 H.out (by have := HL.out; omega)).mono ?_); rintro e w1 ⟨rfl, h1, h2⟩; have H1 := Aside0.mk h1; have H2 := Aside0.mk h2; clear h1 h2)
      go_ret
      exact ⟨rfl, H1.out, H2.out⟩
    · obtain ⟨a, b, c, d, t, rfl⟩ : ∃ a b c d t, l = a :: b :: c :: d :: t := by
        rcases l with _ | ⟨a, _ | ⟨b, _ | ⟨c, _ | ⟨d, t⟩⟩⟩⟩ <;> first | exact ⟨_, _, _, _, _, rfl⟩ | (simp at hl)
      refine (Reader_Real_any w g a b c d t h (hb a (by simp)) (hb b (by simp)) (hb c (by simp)) (hb d (by simp))).mono ?_
      rintro r w' ⟨⟨h1, h2⟩, h3⟩
      by_cases hk : keyB (realB (four a b c d)) = four a b c d
      · have E : mReal (a :: b :: c :: d :: t) 0 = (realB (four a b c d), t, 0) := by unfold mReal; rw [if_neg (by simp)]; simp only []; rw [if_pos hk]
        rw [E]
        exact ⟨(h1 hk).1, (h1 hk).2, h3⟩
      · have E : mReal (a :: b :: c :: d :: t) 0 = (0, a :: b :: c :: d :: t, 21) := by unfold mReal; rw [if_neg (by simp)]; simp only []; rw [if_neg hk]
        rw [E]
        exact ⟨(h2 hk).1, (h2 hk).2, h3⟩
  · have E : mReal l e = (0, l, e) := by unfold mReal; rw [if_pos he]
    rw [E]
    have H := Aside0.mk h
    have HE := Aside0.mk he
    clear h he E hb
    go_enter Try.func35, Try.ntmps35
    go_wp2_with (go_at_call 57; go_loud (refine (Reader_ask_err w g l e 4 H.out HE.out).mono ?_); rintro e1 w1 ⟨rfl, rfl⟩)
    go_ret
    exact ⟨rfl, H.out, Fr.refl _ _⟩
def mRaw (n : Int) (l : List Int) (e : Int) : List Int × List Int × Int := if e ≠ 0 then ([], l, e) else if n < 0 then ([], l, 2) else if (l.length : Int) < n then ([], l, 20) else (l.take n.toNat, l.drop n.toNat, 0)
theorem Reader_Raw (w : World) (g : Nat) (l : List Int) (e n : Int) (h : RdAt w g S l e) (hl : l.length ≤ 140737488355328) :
    Calls Try.prog 43 #[.pointer (some ⟨g, 0, none⟩), .int .i64 n] w fun r w' => (∃ v, r = .returned v ∧ U8.R 5 w' w.heap.size (fun _ => True) v (mRaw n l e).1) ∧ RdAt w' g S (mRaw n l e).2.1 (mRaw n l e).2.2 ∧ Fr w w' (fun k => k = g) := by
  by_cases he : e = 0
  · subst he
    by_cases h0 : n < 0
    · have E : mRaw n l 0 = ([], l, 2) := by unfold mRaw; rw [if_neg (by simp), if_pos h0]
      rw [E]
      obtain ⟨A, c, h⟩ := h
      have H := Aside0.mk h
      obtain ⟨⟨hc0, hf0⟩, hc1, hf1⟩ := blk_two h.1
      clear h E hl
      go_enter Try.func43, Try.ntmps43
      go_wp2_with (go_at_call 57; go_loud (refine (Reader_ask_ok w g A c l 0 H.out (by omega) (by omega)).mono ?_); rintro e w1 ⟨rfl, rfl⟩)
      go_ret
      exact ⟨⟨_, rfl, Kd.R_nil _ _ _ _ _⟩, ⟨A, c, H.out.set_err 2⟩, Fr.set 1 _⟩
    · by_cases hn : (l.length : Int) < n
      · have E : mRaw n l 0 = ([], l, 20) := by unfold mRaw; rw [if_neg (by simp), if_neg h0, if_pos hn]
        rw [E]
        obtain ⟨A, c, h⟩ := h
        have H := Aside0.mk h
        obtain ⟨⟨hc0, hf0⟩, hc1, hf1⟩ := blk_two h.1
        have HN := Aside0.mk hn
        clear h E hl hn
        go_enter Try.func43, Try.ntmps43
        go_wp2_with (first | (go_at_call 57; ((with_reducible refine (Reader_ask_ok w g A c l 0 H.out (by omega) (by omega)).mono ?_); rintro e w1 ⟨rfl, rfl⟩)) | (go_at_call 57; go_loud (refine (Reader_ask_short w1 g l n ⟨A, c, H.out⟩ HN.out).mono ?_); rintro e w2 ⟨rfl, h1, h2⟩; have H1 := Aside0.mk h1; have H2 := Aside0.mk h2; clear h1 h2))
        go_ret
        exact ⟨⟨_, rfl, Kd.R_nil _ _ _ _ _⟩, H1.out, H2.out⟩
      · have E : mRaw n l 0 = (l.take n.toNat, l.drop n.toNat, 0) := by unfold mRaw; rw [if_neg (by simp), if_neg h0, if_neg hn]
        rw [E]
        obtain ⟨A, c, h⟩ := h
        have H := Aside0.mk h
        obtain ⟨⟨hc0, hf0⟩, hc1, hf1⟩ := blk_two h.1
        have hX : Aside0 (∀ u, U8.C (w.setCell ⟨g, 0, none⟩ u) A n.toNat (l.take n.toNat)) := ⟨fun u => C_move (Kd.C_of_reads (enc := Value.int .u8) (d := (0 : Int)) (ReadsInt.take_ (Kd.reads_of_C (d := (0 : Int)) h.2.2.1) n.toNat (by omega))) (fun ad he => Below.heap_setCell w ⟨g, 0, none⟩ _ ad.block (h.2.2.2.2 ad he).1)⟩
        obtain ⟨B, d, hcut, hd⟩ := h.cut n (by omega) (by omega)
        have HD := Aside0.mk hd
        have HN := Aside0.mk hn
        have HL := Aside0.mk hl
        have HT : Aside0 ((l.take n.toNat).length = n.toNat) := ⟨by rw [List.length_take]; omega⟩
        have hne : ∀ k, w.heap.size ≤ k → k ≠ g := fun k hk e => by have := blk_lt h.1; omega
        have HNE := Aside0.mk hne
        have hg : g < w.heap.size := blk_lt h.1
        clear h E hl hn hd hne
        go_enter Try.func43, Try.ntmps43
        go_wp2_with (first | (go_at_call 57; ((with_reducible refine (Reader_ask_ok w g A c l 0 H.out (by omega) (by omega)).mono ?_); rintro e w1 ⟨rfl, rfl⟩)) | (go_at_call 57; go_loud (refine (Reader_ask_ok w1 g A c l n H.out (by omega) (by have := HN.out; omega)).mono ?_); rintro e w2 ⟨rfl, rfl⟩) | ((with_reducible refine gate_builtin (b := .append) (xs := #[.const (.slice none 0 0), .tmp 38]) rfl ?_); at_builtin; go_loud (refine print_append_row_of (Value.int .u8) (0 : Int) (w0 := w2.setCell ⟨g, 0, none⟩ (.slice B (l.length - n.toNat) d)) w2.heap.size rfl (.const (.slice none 0 0)) (.tmp 38) 22 5 (.int .u8 0) 1 rfl Try.underlying22 info5 rfl (by decide) (fun _ => rfl) (.slice none 0 0) [] (l.take n.toNat) A n.toNat c rfl rfl ?aO ?aX ?aB ?aH ?aL ?_); (case aO => exact World.ownsRow_nil _ _ _ _); (case aX => exact Kd.reads_of_C (d := (0 : Int)) (hX.out _)); (case aB => exact Below.refl _ _); (case aH => simp [World.setCell]); (case aL => have := HL.out; have := HN.out; simp only [List.length_nil]; omega); intro v1 w1 ho hb hg1 hat; (have hr1 := Kd.R_of_own (enc := Value.int .u8) (h1 := fun _ => rfl) (ok := fun _ => True) ho (fun _ _ => trivial)); have HO1 := Aside0.mk hr1; have HBB := Aside0.mk hb; clear hat ho hb hg1 hr1))
        go_ret
        have hsz : (w2.setCell ⟨g, 0, none⟩ (.slice B (l.length - n.toNat) d)).heap.size = w2.heap.size := by simp [World.setCell]
        have hb2 : Below (w2.setCell ⟨g, 0, none⟩ (.slice B (l.length - n.toNat) d)).heap.size (w2.setCell ⟨g, 0, none⟩ (.slice B (l.length - n.toNat) d)) w1 := by rw [hsz]; exact HBB.out
        have hrow := H.out.set_row HD.out.1 HD.out.2.1 HD.out.2.2
        rw [List.length_drop] at hrow
        refine ⟨⟨_, rfl, HO1.out⟩, ⟨B, d, hrow.below hb2⟩, (Fr.set 0 _).then_ (Fr.of_below hb2 (fun _ => False)) (fun _ h => h.elim)⟩
  · have E : mRaw n l e = ([], l, e) := by unfold mRaw; rw [if_pos he]
    rw [E]
    have H := Aside0.mk h
    have HE := Aside0.mk he
    clear h he E hl
    go_enter Try.func43, Try.ntmps43
    go_wp2_with (go_at_call 57; go_loud (refine (Reader_ask_err w g l e 0 H.out HE.out).mono ?_); rintro e1 w1 ⟨rfl, rfl⟩)
    go_ret
    exact ⟨⟨_, rfl, Kd.R_nil _ _ _ _ _⟩, H.out, Fr.refl _ _⟩
end Go.Proofs.Ytkjkmaopifmghaa.Oct
