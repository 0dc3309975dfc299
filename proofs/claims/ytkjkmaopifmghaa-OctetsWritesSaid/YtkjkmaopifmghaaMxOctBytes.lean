/- What the document has of a thing that is written: the reference's Uint, Text, and the law's bytes (plain walks). -/
import Derived.Test.YtkjkmaopifmghaaMxOctWrite
import Derived.Test.YtkjkmaopifmghaaMxPureForms
namespace Go.Proofs.Ytkjkmaopifmghaa.Oct
open Go.RowKit Go.Proofs.YtkjkmaopifmghaaW.PrintWords Go.Proofs.YtkjkmaopifmghaaW.PrintLast Go.Proofs.YtkjkmaopifmghaaW.PrintMore Go.Proofs.Ytkjkmaopifmghaa.OctShort Go.Proofs.Ytkjkmaopifmghaa.OctCopy Go.Proofs.Ytkjkmaopifmghaa.OctNum Go.Proofs.Ytkjkmaopifmghaa.PureShort
set_option linter.unusedVariables false
set_option linter.unusedSimpArgs false
set_option maxRecDepth 100000
theorem dg_step (k : Nat) (x : Int) (h : 128 ≤ x) : dg (k + 1) x = (x % 128 + 128) :: dg k (x / 128) := by
  simp only [dg]
  rw [if_pos (by omega)]
theorem dg_last (k : Nat) (x : Int) (h : x < 128) : dg (k + 1) x = [x] := by
  simp only [dg]
  rw [if_neg (by omega)]
def p7 (k : Nat) : Int := 128 ^ k
theorem p7_zero : p7 0 = 1 := rfl
theorem pow_step (k : Nat) (x : Int) (h : x < p7 (k + 1)) : x / 128 < p7 k := by
  have : p7 (k + 1) = p7 k * 128 := by unfold p7; rw [Int.pow_succ]
  omega
theorem pow_pos (k : Nat) (y : Int) (hy : 128 ≤ y) (h : y < p7 (k + 1)) : 1 ≤ k := by
  rcases Nat.eq_zero_or_pos k with rfl | h1
  · have : p7 (0 + 1) = 128 := rfl
    omega
  · exact h1
set_option maxHeartbeats 4000000 in
theorem doc_Uint (k : Nat) (w : World) (x : Int) (h0 : 0 ≤ x) (h1 : x < p7 k) (hk : 1 ≤ k) (hk2 : k ≤ 1000) (hu : x < 18446744073709551616) :
    Calls Try.prog 50 #[.int .u64 x] w fun e w' => ∃ v, e = .returned v ∧ U8.R 5 w' w.heap.size (fun _ => True) v (dg k x) ∧ Below w.heap.size w w' := by
  have H0 := Aside0.mk (And.intro h0 hu)
  have H1 := Aside0.mk h1
  have HK := Aside0.mk (And.intro hk hk2)
  clear h0 h1 hk hk2 hu
  go_enter Try.func50, Try.ntmps50
  go_wp2
  go_loopg [0, 3] k (fun kq v0 v3 w' => ∃ (y : Int) (l : List Int), v0 = .int .u64 y ∧ Aside0 (0 ≤ y ∧ y < 18446744073709551616) ∧ Aside0 (y < p7 kq) ∧ Aside0 (1 ≤ kq ∧ l.length + kq = k) ∧ Aside0 (l ++ dg kq y = dg k x) ∧ Aside0 (U8.R 5 w' w.heap.size (fun _ => True) v3 l) ∧ Aside0 (Below w.heap.size w w'))
  case atStart => exact ⟨x, [], rfl, H0, H1, ⟨HK.out.1, by simp⟩, ⟨rfl⟩, ⟨Kd.R_nil _ _ _ _ _⟩, ⟨Below.refl _ _⟩⟩
  case round =>
    obtain ⟨y, l, rfl, HY, HP, HQ, HE, HR, HB⟩ := hrel
    cases gk with
    | zero => exact absurd HQ.out.1 (by omega)
    | succ k1 =>
      by_cases hc : 128 ≤ y
      · have hcb : decide (128 ≤ y) = true := decide_eq_true hc
        have hy0 := HY.out.1
        have hy1 := HY.out.2
        have hk1 := pow_pos k1 y hc HP.out
        go_wp2_with ((with_reducible refine gate_builtin (b := .append) (xs := #[.tmp 6, .tmp 11]) rfl ?_); at_builtin; go_loud (refine Kd.R_append U8 (w0 := w) w.heap.size rfl (.tmp 6) (.tmp 11) 22 5 (.int .u8 0) 1 rfl Try.underlying22 info5 rfl (by decide) (by omega) u3 l (y % 128 + 128) [.int .u8 (y % 128 + 128)] (fun _ => True) (fun _ => False) rfl rfl ?aP (fun _ hk => hk.elim) ?aF ?aO ?aB ?aS ?aL ?_); (case aP => exact rfl); (case aB => exact HB.out); (case aF => exact (fun _ _ => trivial)); (case aO => exact HR.out); (case aS => exact HB.out.size); (case aL => have h1 := HQ.out; have h2 := HK.out; omega); intro v6 w6 ho hb hg hat; have HO := Aside0.mk ho; have HB6 := Aside0.mk hb; clear ho hb hg hat)
        go_roundg k1
        case measure => omega
        case rel => exact ⟨y / 128, l ++ [y % 128 + 128], rfl, ⟨by omega⟩, ⟨pow_step k1 y HP.out⟩, ⟨hk1, by have := HQ.out; simp only [List.length_append, List.length_singleton]; omega⟩, ⟨by rw [← HE.out, dg_step k1 y hc, List.append_assoc]; rfl⟩, HO, HB6⟩
      · have hcb : decide (128 ≤ y) = false := decide_eq_false hc
        have hy0 := HY.out.1
        have hy1 := HY.out.2
        have hy2 : y < 256 := by omega
        go_wp2_with ((with_reducible refine gate_builtin (b := .append) (xs := #[.tmp 15, .tmp 18]) rfl ?_); at_builtin; go_loud (refine Kd.R_append U8 (w0 := w) w.heap.size rfl (.tmp 15) (.tmp 18) 22 5 (.int .u8 0) 1 rfl Try.underlying22 info5 rfl (by decide) (by omega) u3 l (y) [.int .u8 (y)] (fun _ => True) (fun _ => False) rfl rfl ?aP (fun _ hk => hk.elim) ?aF ?aO ?aB ?aS ?aL ?_); (case aP => exact rfl); (case aB => exact HB.out); (case aF => exact (fun _ _ => trivial)); (case aO => exact HR.out); (case aS => exact HB.out.size); (case aL => have h1 := HQ.out; have h2 := HK.out; omega); intro v6 w6 ho hb hg hat; have HO := Aside0.mk ho; have HB6 := Aside0.mk hb; clear ho hb hg hat)
        go_ret
        exact ⟨_, rfl, by rw [← HE.out, dg_last k1 y (by omega)]; exact HO.out, HB6.out⟩
theorem bytes_take (s : ByteArray) (j : Nat) (h : j < s.size) : (bytesOf s).take (j + 1) = (bytesOf s).take j ++ [((s[j]).toNat : Int)] := by
  have hl : j < (bytesOf s).length := by rw [bytesOf_length]; exact h
  rw [List.take_add_one, List.getElem?_eq_getElem hl]
  have : (bytesOf s)[j] = ((s[j]).toNat : Int) := by
    simp [bytesOf]
    rfl
  rw [this]
  rfl
set_option maxHeartbeats 4000000 in
theorem doc_Text (w : World) (s : ByteArray) (hs : s.size ≤ 140737488351232) :
    Calls Try.prog 54 #[.string s] w fun e w' => ∃ v, e = .returned v ∧ U8.R 5 w' w.heap.size (fun _ => True) v (dg 10 (s.size : Int) ++ bytesOf s) ∧ Below w.heap.size w w' := by
  have HS := Aside0.mk hs
  have hw : IntKind.u64.wrap (s.size : Int) = (s.size : Int) := by
    rw [IntKind.wrap_u64]
    omega
  have HW := Aside0.mk hw
  have HD := Aside0.mk (dg_len 10 (s.size : Int))
  clear hs hw
  go_enter Try.func54, Try.ntmps54
  go_wp2_with (go_at_call 50; (try rw [HW.out]); go_loud (refine (doc_Uint 10 _ (s.size : Int) (by omega) (by have := HS.out; unfold p7; omega) (by omega) (by omega) (by have := HS.out; omega)).mono ?_); rintro e1 w1 ⟨v1, rfl, r1, b1⟩; have R1 := Aside0.mk r1; have B1 := Aside0.mk b1; clear r1 b1)
  go_loopg [3, 4] (s.size + 1) (fun kq v3 v4 w' => ∃ j : Nat, v4 = .int .i64 (j : Int) ∧ Aside0 (kq + j = s.size + 1) ∧ Aside0 (j ≤ s.size) ∧ Aside0 (U8.R 5 w' w.heap.size (fun _ => True) v3 (dg 10 (s.size : Int) ++ (bytesOf s).take j)) ∧ Aside0 (Below w.heap.size w w'))
  case atStart => exact ⟨0, rfl, ⟨rfl⟩, ⟨Nat.zero_le _⟩, ⟨by simpa using R1.out⟩, B1⟩
  case round =>
    clear R1 B1
    obtain ⟨j, rfl, HK, HJ, HR, HB⟩ := hrel
    cases gk with
    | zero => exact absurd HK.out (by have := HJ.out; omega)
    | succ k1 =>
      by_cases hlt : j < s.size
      · have hji : (0 : Int) ≤ (j : Int) := by omega
        have hjm : (j : Int) < (s.size : Int) := by omega
        have HW3 := Aside0.mk (wrap_next j s.size (by have := HS.out; omega) hlt)
        go_wp2_with ((with_reducible refine gate_builtin (b := .append) (xs := #[.tmp 15, .tmp 19]) rfl ?_); at_builtin; go_loud (refine Kd.R_append U8 (w0 := w) w.heap.size rfl (.tmp 15) (.tmp 19) 22 5 (.int .u8 0) 1 rfl Try.underlying22 info5 rfl (by decide) (by omega) u3 (dg 10 (s.size : Int) ++ (bytesOf s).take j) (((s[j]).toNat : Int)) [.int .u8 (((s[j]).toNat : Int))] (fun _ => True) (fun _ => False) rfl rfl ?aP (fun _ hk => hk.elim) ?aF ?aO ?aB ?aS ?aL ?_); (case aP => exact rfl); (case aB => exact HB.out); (case aF => exact (fun _ _ => trivial)); (case aO => exact HR.out); (case aS => exact HB.out.size); (case aL => have h1 := HD.out; have h2 := HS.out; have h3 := bytesOf_length s; simp only [List.length_append, List.length_take]; omega); intro v6 w6 ho hb hg hat; have HO := Aside0.mk ho; have HB6 := Aside0.mk hb; clear ho hb hg hat)
        go_roundg k1
        case measure => omega
        case rel => exact ⟨j + 1, by first | rfl | (rw [← HW3.out]), ⟨by have := HK.out; omega⟩, ⟨by omega⟩, ⟨by rw [bytes_take s j hlt, ← List.append_assoc]; exact HO.out⟩, HB6⟩
      · have hjn : j = s.size := by have := HJ.out; omega
        have hd : decide ((j : Int) < (s.size : Int)) = false := decide_eq_false (by omega)
        have HR2 : Aside0 (U8.R 5 wr w.heap.size (fun _ => True) u3 (dg 10 (s.size : Int) ++ bytesOf s)) := ⟨by have h := HR.out; rwa [List.take_of_length_le (by rw [bytesOf_length]; omega)] at h⟩
        subst hjn
        go_wp2
        go_ret
        exact ⟨_, rfl, HR2.out, HB.out⟩
theorem C_box (w : World) (o : Obj) (m : Nat) (x : Int) : U8.C (((w.alloc o).drewN m).alloc (.cells #[.int .u8 x] 5)) (some ⟨w.heap.size + 1, 0, none⟩) 1 [x] := by
  have hz : ((w.alloc o).drewN m).heap.size = w.heap.size + 1 := by
    show (w.heap.push _).size = _
    simp
  have h := C_new1 ((w.alloc o).drewN m) [x] (by simp)
  rw [hz] at h
  exact h
theorem turned_f (x : Int) (h0 : -9223372036854775808 ≤ x) (h1 : x < 9223372036854775808) : latchkeyref02_Turned.f x = some (turned x) := by
  rw [PureForms.turned_eq x h0 h1]
  unfold latchkeyref02_Turned.f
  by_cases h : 0 ≤ x
  · rw [if_pos h, if_pos h, IntKind.wrap_u64, IntKind.wrap_u64]
    congr 1
    omega
  · rw [if_neg h, if_neg h]
    simp only [IntKind.wrap_u64, wrap64]
    congr 1
    omega
def BytesPost (w : World) (d : PutD) (l : List Int) (e : Ending) (w' : World) : Prop := ∃ A c, e = .returned (.slice A l.length c) ∧ l.length ≤ c ∧ U8.C w' A l.length l ∧ Below w.heap.size w w' ∧ ∀ ad, A = some ad → 0 < l.length → (d.A = some ad ∧ 0 < d.raw.length) ∨ w.heap.size ≤ ad.block
theorem BytesPost.of {w w1 w' : World} {d : PutD} {v : Value} {l : List Int} {S : Nat → Prop} (h : U8.R 5 w' w1.heap.size S v l) (h1 : Below w.heap.size w w1) (h2 : Below w1.heap.size w1 w') : BytesPost w d l (.returned v) w' := by
  obtain ⟨A, c, rfl⟩ := Kd.R_slice h
  exact ⟨A, c, rfl, (Kd.R_reads' h).2.1, (Kd.R_reads' h).2.2, below_step h1 h2, fun ad ha _ => .inr (Nat.le_trans h1.size (own_base (Kd.own_of_R h) ad.block (by rw [ha]; rfl)))⟩
set_option maxHeartbeats 4000000 in
theorem bytes_0 (w : World) (d : PutD) (hd : PutOk w.heap.size d) (hA : U8.C w d.A d.raw.length d.raw) (hp : latchkeykit_Pick.f d.kind 6 = some 0) :
    Calls Try.prog 21 #[d.val] w (BytesPost w d (enc d 0)) := by
  have HP := Aside0.mk hp
  have HA := Aside0.mk hA
  have HD := Aside0.mk hd
  obtain ⟨on, kind, u, i, r, t, Ar, cr, raw⟩ := d
  have hu0 := hd.hu.1
  have hu1 := hd.hu.2
  have HU := Aside0.mk hd.hu
  have HI := Aside0.mk hd.hi
  have HR := Aside0.mk hd.hr
  have HT := Aside0.mk hd.ht
  have hm1 : u % 256 % 256 = u % 256 := by omega
  simp only [] at hu0 hu1
  clear hA hp hd
  go_enter Try.func21, Try.ntmps21
  go_wp2_with (first | (go_at_call 15; go_loud (refine (latchkeykit_Pick.calls kind 6 0 _ HP.out).mono ?_); rintro e4 w4 ⟨rfl, ⟨m0, rfl⟩⟩))
  go_ret
  exact ⟨_, _, rfl, Nat.le_refl _, C_box w _ _ (u % 256), below_step (wx_below w _ _) (below_alloc (Below.refl _ _) _), fun ad ha _ => .inr (by obtain rfl := Option.some.inj ha; show w.heap.size ≤ w.heap.size + 1; omega)⟩
set_option maxHeartbeats 4000000 in
theorem bytes_1 (w : World) (d : PutD) (hd : PutOk w.heap.size d) (hA : U8.C w d.A d.raw.length d.raw) (hp : latchkeykit_Pick.f d.kind 6 = some 1) :
    Calls Try.prog 21 #[d.val] w (BytesPost w d (enc d 1)) := by
  have HP := Aside0.mk hp
  have HA := Aside0.mk hA
  have HD := Aside0.mk hd
  obtain ⟨on, kind, u, i, r, t, Ar, cr, raw⟩ := d
  have hu0 := hd.hu.1
  have hu1 := hd.hu.2
  have HU := Aside0.mk hd.hu
  have HI := Aside0.mk hd.hi
  have HR := Aside0.mk hd.hr
  have HT := Aside0.mk hd.ht
  have hm1 : u % 256 % 256 = u % 256 := by omega
  simp only [] at hu0 hu1
  clear hA hp hd
  go_enter Try.func21, Try.ntmps21
  go_wp2_with (first | (go_at_call 15; go_loud (refine (latchkeykit_Pick.calls kind 6 1 _ HP.out).mono ?_); rintro e4 w4 ⟨rfl, ⟨m0, rfl⟩⟩) | (go_at_call 50; go_loud (refine (doc_Uint 10 _ u HU.out.1 (by unfold p7; exact pow10 _ HU.out.2) (by omega) (by omega) HU.out.2).mono ?_); rintro e5 w5 ⟨v5, rfl, r5, b5⟩; have R5 := Aside0.mk r5; have B5 := Aside0.mk b5; clear r5 b5))
  go_ret
  exact BytesPost.of R5.out (wx_below w _ _) B5.out
set_option maxHeartbeats 4000000 in
theorem bytes_2 (w : World) (d : PutD) (hd : PutOk w.heap.size d) (hA : U8.C w d.A d.raw.length d.raw) (hp : latchkeykit_Pick.f d.kind 6 = some 2) :
    Calls Try.prog 21 #[d.val] w (BytesPost w d (enc d 2)) := by
  have HP := Aside0.mk hp
  have HA := Aside0.mk hA
  have HD := Aside0.mk hd
  obtain ⟨on, kind, u, i, r, t, Ar, cr, raw⟩ := d
  have hu0 := hd.hu.1
  have hu1 := hd.hu.2
  have HU := Aside0.mk hd.hu
  have HI := Aside0.mk hd.hi
  have HR := Aside0.mk hd.hr
  have HT := Aside0.mk hd.ht
  have hm1 : u % 256 % 256 = u % 256 := by omega
  simp only [] at hu0 hu1
  clear hA hp hd
  have HTU : Aside0 (latchkeyref02_Turned.f i = some (turned i)) := ⟨turned_f i HI.out.1 HI.out.2⟩
  go_enter Try.func21, Try.ntmps21
  go_wp2_with (first | (go_at_call 15; go_loud (refine (latchkeykit_Pick.calls kind 6 2 _ HP.out).mono ?_); rintro e4 w4 ⟨rfl, ⟨m0, rfl⟩⟩) | (go_at_call 51; go_loud (refine (latchkeyref02_Turned.calls i (turned i) _ HTU.out).mono ?_); rintro e6 w6 ⟨rfl, ⟨m6, rfl⟩⟩) | (go_at_call 50; go_loud (refine (doc_Uint 10 _ (turned i) (PureForms.back_turned i HI.out.1 HI.out.2).2.1 (by unfold p7; exact pow10 _ (PureForms.back_turned i HI.out.1 HI.out.2).2.2) (by omega) (by omega) (PureForms.back_turned i HI.out.1 HI.out.2).2.2).mono ?_); rintro e5 w5 ⟨v5, rfl, r5, b5⟩; have R5 := Aside0.mk r5; have B5 := Aside0.mk b5; clear r5 b5))
  go_ret
  exact BytesPost.of R5.out (wx_below w _ _) B5.out
set_option maxHeartbeats 4000000 in
theorem bytes_3 (w : World) (d : PutD) (hd : PutOk w.heap.size d) (hA : U8.C w d.A d.raw.length d.raw) (hp : latchkeykit_Pick.f d.kind 6 = some 3) :
    Calls Try.prog 21 #[d.val] w (BytesPost w d (enc d 3)) := by
  have HP := Aside0.mk hp
  have HA := Aside0.mk hA
  have HD := Aside0.mk hd
  obtain ⟨on, kind, u, i, r, t, Ar, cr, raw⟩ := d
  have hu0 := hd.hu.1
  have hu1 := hd.hu.2
  have HU := Aside0.mk hd.hu
  have HI := Aside0.mk hd.hi
  have HR := Aside0.mk hd.hr
  have HT := Aside0.mk hd.ht
  have hm1 : u % 256 % 256 = u % 256 := by omega
  simp only [] at hu0 hu1
  clear hA hp hd
  go_enter Try.func21, Try.ntmps21
  go_wp2_with (first | (go_at_call 15; go_loud (refine (latchkeykit_Pick.calls kind 6 3 _ HP.out).mono ?_); rintro e4 w4 ⟨rfl, ⟨m0, rfl⟩⟩) | (go_at_call 53; go_loud (refine (ref_Key r _ HR.out).mono ?_); rintro e6 w6 ⟨rfl, rfl⟩) | (go_at_call 52; go_loud (refine (latchkeyref02_Four.calls (keyB r) (quad (keyB r)) _ rfl).mono ?_); rintro e5 w5 ⟨v5, rfl, r5, b5⟩; have R5 := Aside0.mk r5; have B5 := Aside0.mk b5; clear r5 b5))
  go_ret
  exact BytesPost.of R5.out (wx_below w _ _) B5.out
set_option maxHeartbeats 4000000 in
theorem bytes_4 (w : World) (d : PutD) (hd : PutOk w.heap.size d) (hA : U8.C w d.A d.raw.length d.raw) (hp : latchkeykit_Pick.f d.kind 6 = some 4) :
    Calls Try.prog 21 #[d.val] w (BytesPost w d (enc d 4)) := by
  have HP := Aside0.mk hp
  have HA := Aside0.mk hA
  have HD := Aside0.mk hd
  obtain ⟨on, kind, u, i, r, t, Ar, cr, raw⟩ := d
  have hu0 := hd.hu.1
  have hu1 := hd.hu.2
  have HU := Aside0.mk hd.hu
  have HI := Aside0.mk hd.hi
  have HR := Aside0.mk hd.hr
  have HT := Aside0.mk hd.ht
  have hm1 : u % 256 % 256 = u % 256 := by omega
  simp only [] at hu0 hu1
  clear hA hp hd
  go_enter Try.func21, Try.ntmps21
  go_wp2_with (first | (go_at_call 15; go_loud (refine (latchkeykit_Pick.calls kind 6 4 _ HP.out).mono ?_); rintro e4 w4 ⟨rfl, ⟨m0, rfl⟩⟩) | (go_at_call 54; go_loud (refine (doc_Text _ t HT.out).mono ?_); rintro e5 w5 ⟨v5, rfl, r5, b5⟩; have R5 := Aside0.mk r5; have B5 := Aside0.mk b5; clear r5 b5))
  go_ret
  exact BytesPost.of R5.out (wx_below w _ _) B5.out
set_option maxHeartbeats 4000000 in
theorem bytes_5 (w : World) (d : PutD) (hd : PutOk w.heap.size d) (hA : U8.C w d.A d.raw.length d.raw) (hp : latchkeykit_Pick.f d.kind 6 = some 5) :
    Calls Try.prog 21 #[d.val] w (BytesPost w d (enc d 5)) := by
  have HP := Aside0.mk hp
  have HA := Aside0.mk hA
  have HD := Aside0.mk hd
  obtain ⟨on, kind, u, i, r, t, Ar, cr, raw⟩ := d
  have hu0 := hd.hu.1
  have hu1 := hd.hu.2
  have HU := Aside0.mk hd.hu
  have HI := Aside0.mk hd.hi
  have HR := Aside0.mk hd.hr
  have HT := Aside0.mk hd.ht
  have hm1 : u % 256 % 256 = u % 256 := by omega
  simp only [] at hu0 hu1
  clear hA hp hd
  go_enter Try.func21, Try.ntmps21
  go_wp2_with (first | (go_at_call 15; go_loud (refine (latchkeykit_Pick.calls kind 6 5 _ HP.out).mono ?_); rintro e4 w4 ⟨rfl, ⟨m0, rfl⟩⟩))
  go_ret
  exact ⟨_, _, rfl, HD.out.hc, Kd.C_below HA.out (wx_below w _ _), wx_below w _ _, fun ad ha hl => .inl ⟨ha, hl⟩⟩
theorem bytes_any (w : World) (d : PutD) (j : Nat) (hj : j < 6) (hd : PutOk w.heap.size d) (hA : U8.C w d.A d.raw.length d.raw) (hp : latchkeykit_Pick.f d.kind 6 = some (j : Int)) :
    Calls Try.prog 21 #[.agg #[.int .i64 d.on, .int .i64 d.kind, .int .u64 d.u, .int .i64 d.i, .float .f32 d.r, .string d.t, .slice d.A d.raw.length d.c]] w (BytesPost w d (enc d j)) := by
  rcases (by omega : j = 0 ∨ j = 1 ∨ j = 2 ∨ j = 3 ∨ j = 4 ∨ j = 5) with rfl | rfl | rfl | rfl | rfl | rfl
  · exact bytes_0 w d hd hA hp
  · exact bytes_1 w d hd hA hp
  · exact bytes_2 w d hd hA hp
  · exact bytes_3 w d hd hA hp
  · exact bytes_4 w d hd hA hp
  · exact bytes_5 w d hd hA hp
end Go.Proofs.Ytkjkmaopifmghaa.Oct
