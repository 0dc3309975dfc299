/- back: what was written is read as it, or refused as short (plain walks). -/
import Derived.Test.YtkjkmaopifmghaaPureBack
import Derived.Test.YtkjkmaopifmghaaOctGet
namespace Go.Proofs.Ytkjkmaopifmghaa.Oct
open Go.RowKit Go.Proofs.YtkjkmaopifmghaaW.PrintWords Go.Proofs.YtkjkmaopifmghaaW.PrintLast Go.Proofs.YtkjkmaopifmghaaW.PrintMore Go.Proofs.Ytkjkmaopifmghaa.OctShort Go.Proofs.Ytkjkmaopifmghaa.OctCopy Go.Proofs.Ytkjkmaopifmghaa.OctNum Go.Proofs.Ytkjkmaopifmghaa.PureShort
set_option linter.unusedVariables false
set_option linter.unusedSimpArgs false
set_option maxRecDepth 100000
variable {S : Nat → Prop}
theorem C_kept0 {w w' : World} {A : Option Addr} {n : Nat} {l : List Int} {T : Nat → Prop} (h : U8.C w A n l) (hk : Kept w w' T) (hn : ∀ ad, A = some ad → 0 < n → ¬ T ad.block) : U8.C w' A n l := by
  cases n with
  | zero =>
    obtain ⟨h1, h2, h3⟩ := Kd.reads_of_C (d := (0 : Int)) h
    exact Kd.C_of_reads (enc := Value.int .u8) (d := (0 : Int)) ⟨h1, h2, fun hp => absurd hp (by omega)⟩
  | succ n => exact C_kept h hk (fun ad ha => hn ad ha (by omega))
def sr (a b : Nat) : Bool := (a == b) || (nanB a && nanB b)
theorem sr_key (b : Nat) (hb : b < 4294967296) : sr (realB (keyB b)) b = true := by
  rcases (PureBack.key_back b hb).2 with h | ⟨h, k⟩
  · rw [h]; simp [sr]
  · simp [sr, h, k]
theorem raw_short (raw l : List Int) (m : Nat) (hm : m < raw.length) (hl : l = raw.take m) : mRaw (raw.length : Int) l 0 = ([], l, 20) := by
  have e : l.length = m := by rw [hl, List.length_take]; omega
  unfold mRaw
  rw [if_neg (by simp), if_neg (by omega), if_pos (by omega)]
theorem byte_short (d : PutD) (m : Nat) (l : List Int) (hm : m < (enc d 0).length) (hl : l = (enc d 0).take m) : l = [] := by
  have h : m = 0 := by simp [enc] at hm; exact hm
  rw [hl, h]
  rfl
theorem sameReal_calls (a b : Nat) (w : World) : Calls Try.prog 67 #[.float .f32 a, .float .f32 b] w fun e w' => e = .returned (.bool (sr a b)) ∧ w' = w := by
  have hc := bits_call
  have o1 := order_self a
  have o2 := order_self b
  by_cases h : a = b
  · subst h
    have E : sr a a = true := by simp [sr]
    rw [E]
    clear E
    go_enter Try.func67, Try.ntmps67
    go_wp2
    go_ret
    exact ⟨by first | rfl | (simp; done), rfl⟩
  · have hd : ((a : Int) == (b : Int)) = false := by simp; omega
    have hd2 : decide ((a : Int) = (b : Int)) = false := decide_eq_false (by omega)
    have hd3 : (a == b) = false := by simpa using h
    have E : sr a b = (nanB a && nanB b) := by simp [sr, h]
    rw [E]
    clear E h
    cases hna : nanB a with
    | false =>
      rw [hna] at o1
      clear hna
      go_enter Try.func67, Try.ntmps67
      go_wp2
      go_ret
      exact ⟨by first | rfl | (simp; done), rfl⟩
    | true =>
      rw [hna] at o1
      clear hna
      cases hnb : nanB b with
      | false =>
        rw [hnb] at o2
        clear hnb
        go_enter Try.func67, Try.ntmps67
        go_wp2
        go_ret
        exact ⟨by first | rfl | (simp; done), rfl⟩
      | true =>
        rw [hnb] at o2
        clear hnb
        go_enter Try.func67, Try.ntmps67
        go_wp2
        go_ret
        exact ⟨by first | rfl | (simp; done), rfl⟩
set_option maxHeartbeats 4000000 in
theorem back_ok0 (w : World) (g : Nat) (d : PutD) (rest : List Int) (hrest : ∀ x ∈ rest, 0 ≤ x ∧ x < 256) (hlr : (enc d 0 ++ rest).length ≤ 140737488351232) (h : RdAt w g S (enc d 0 ++ rest) 0) (hd : PutOk w.heap.size d) (hA : U8.C w d.A d.raw.length d.raw) (hp : latchkeykit_Pick.f d.kind 6 = some 0) :
    Calls Try.prog 46 #[.pointer (some ⟨g, 0, none⟩), d.val] w fun e w' => e = .returned (.bool true) ∧ RdAt w' g S rest 0 ∧ Fr w w' (fun k => k = g) := by
  have H := Aside0.mk h
  have HA := Aside0.mk hA
  have HP := Aside0.mk hp
  have HD := Aside0.mk hd
  have hm1 : d.u % 256 % 256 = d.u % 256 := by omega
  have HTM : Aside0 (d.u % 256 = IntKind.u8.wrap (d.u.tmod 256)) := ⟨by rw [Int.tmod_eq_emod_of_nonneg hd.hu.1, IntKind.wrap_u8]; omega⟩
  have HQ := Aside0.mk (show RdAt w g S (d.u % 256 :: rest) 0 from h)
  have hu0 := hd.hu.1
  have hu1 := hd.hu.2
  obtain ⟨on, kind, d_u, d_i, d_r, d_t, d_A, d_c, d_raw⟩ := d
  simp only [] at hu0 hu1 hm1
  clear h hA hp hd hrest hlr
  have GL : Aside0 (g < w.heap.size) := ⟨by obtain ⟨_, _, h, _⟩ := H.out; exact blk_lt h⟩
  go_enter Try.func46, Try.ntmps46
  go_wp2_with ((go_at_call 15; go_loud (refine (latchkeykit_Pick.calls kind 6 0 _ HP.out).mono ?_); rintro e4 w4 ⟨rfl, ⟨m0, rfl⟩⟩; have B0 := fun m => box_cell w #[.int .i64 on, .int .i64 kind, .int .u64 d_u, .int .i64 d_i, .float .f32 d_r, .string d_t, .slice d_A d_raw.length d_c] 42 m 2 (.int .u64 d_u) rfl))
  go_region_held3 (fun W => W.cell? ⟨w.heap.size, 2, none⟩ = some (.int .u64 d_u)) (first | go_keep | exact B0 _ | (simpa using B1)) (first | (go_at_call 41; go_loud (refine (Reader_Byte_ok _ g (d_u % 256) rest (HQ.out.below (wx_below _ _ _))).mono ?_); rintro e5 w5 ⟨rfl, h1, h2⟩; have H1 := Aside0.mk h1; have H2 := Aside0.mk ((Fr.of_below (wx_below _ _ _) (fun k => k = g)).then_ h2 (fun k hk => .inl hk)); have B1 := cell_kept (B0 _) h2.2 (by have h3 := GL.out; show ¬ w.heap.size = g; omega); clear h1 h2))
  go_wp2
  go_ret
  exact ⟨by first | rfl | (simp; done) | (simp; exact HTM.out), H1.out, H2.out⟩
set_option maxHeartbeats 4000000 in
theorem back_no0 (w : World) (g : Nat) (d : PutD) (m : Nat) (l : List Int) (hm : m < (enc d 0).length) (hl : l = (enc d 0).take m) (h : RdAt w g S (l) 0) (hd : PutOk w.heap.size d) (hA : U8.C w d.A d.raw.length d.raw) (hp : latchkeykit_Pick.f d.kind 6 = some 0) :
    Calls Try.prog 46 #[.pointer (some ⟨g, 0, none⟩), d.val] w fun e w' => (∃ b, e = .returned (.bool b)) ∧ RdAt w' g S l 20 ∧ Fr w w' (fun k => k = g) := by
  have hlb : ∀ x ∈ l, 0 ≤ x ∧ x < 256 := fun x hx => PureBack.enc_in w.heap.size d hd 0 x (by rw [hl] at hx; exact List.mem_of_mem_take hx)
  have hll : l.length ≤ 140737488351300 := by have := enc_len d 0; have h2 := hd.ht; have h3 := hd.hl; rw [hl, List.length_take]; simp only [enc] at hm ⊢; have := dg_len 10 d.u; have := dg_len 10 (turned d.i); have h9 := dg_len 10 (d.t.size : Int); have := bytesOf_length d.t; (try simp only [List.length_append, List.length_singleton, PureBack.quad_len] at *); omega
  have H := Aside0.mk h
  have HA := Aside0.mk hA
  have HP := Aside0.mk hp
  have HD := Aside0.mk hd
  have hm1 : d.u % 256 % 256 = d.u % 256 := by omega
  have HTM : Aside0 (d.u % 256 = IntKind.u8.wrap (d.u.tmod 256)) := ⟨by rw [Int.tmod_eq_emod_of_nonneg hd.hu.1, IntKind.wrap_u8]; omega⟩
  have hl0 : l = [] := byte_short d m l hm hl
  subst hl0
  have hu0 := hd.hu.1
  have hu1 := hd.hu.2
  obtain ⟨on, kind, d_u, d_i, d_r, d_t, d_A, d_c, d_raw⟩ := d
  simp only [] at hu0 hu1 hm1
  clear h hA hp hd hl hm
  clear hlb hll
  have GL : Aside0 (g < w.heap.size) := ⟨by obtain ⟨_, _, h, _⟩ := H.out; exact blk_lt h⟩
  go_enter Try.func46, Try.ntmps46
  go_wp2_with ((go_at_call 15; go_loud (refine (latchkeykit_Pick.calls kind 6 0 _ HP.out).mono ?_); rintro e4 w4 ⟨rfl, ⟨m0, rfl⟩⟩; have B0 := fun m => box_cell w #[.int .i64 on, .int .i64 kind, .int .u64 d_u, .int .i64 d_i, .float .f32 d_r, .string d_t, .slice d_A d_raw.length d_c] 42 m 2 (.int .u64 d_u) rfl))
  go_region_held3 (fun W => W.cell? ⟨w.heap.size, 2, none⟩ = some (.int .u64 d_u)) (first | go_keep | exact B0 _ | (simpa using B1)) (first | (go_at_call 41; go_loud (refine (Reader_Byte _ g [] 0 (H.out.below (wx_below _ _ _))).mono ?_); rintro e5 w5 ⟨rfl, h1, h2⟩; (have h1 : RdAt w5 g S [] 20 := h1); have H1 := Aside0.mk h1; have H2 := Aside0.mk ((Fr.of_below (wx_below _ _ _) (fun k => k = g)).then_ h2 (fun k hk => .inl hk)); have B1 := cell_kept (B0 _) h2.2 (by have h3 := GL.out; show ¬ w.heap.size = g; omega); clear h1 h2))
  go_wp2
  go_ret
  exact ⟨⟨_, rfl⟩, H1.out, H2.out⟩
set_option maxHeartbeats 4000000 in
theorem back_ok1 (w : World) (g : Nat) (d : PutD) (rest : List Int) (hrest : ∀ x ∈ rest, 0 ≤ x ∧ x < 256) (hlr : (enc d 1 ++ rest).length ≤ 140737488351232) (h : RdAt w g S (enc d 1 ++ rest) 0) (hd : PutOk w.heap.size d) (hA : U8.C w d.A d.raw.length d.raw) (hp : latchkeykit_Pick.f d.kind 6 = some 1) :
    Calls Try.prog 46 #[.pointer (some ⟨g, 0, none⟩), d.val] w fun e w' => e = .returned (.bool true) ∧ RdAt w' g S rest 0 ∧ Fr w w' (fun k => k = g) := by
  have H := Aside0.mk h
  have HA := Aside0.mk hA
  have HP := Aside0.mk hp
  have HD := Aside0.mk hd
  have hs := short_f (dg 10 d.u ++ rest) (fun x hx => (List.mem_append.1 hx).elim (PureBack.enc_in w.heap.size d hd 1 x) (hrest x)) (by simp only [enc] at hlr; omega) (k := 31) (by omega)
  rw [PureBack.sh_full d.u rest hd.hu.1 hd.hu.2] at hs
  have HS := Aside0.mk hs
  have HN : Aside0 ((dg 10 d.u).length ≤ (dg 10 d.u ++ rest).length) := ⟨by rw [List.length_append]; omega⟩
  have HDR : Aside0 ((dg 10 d.u ++ rest).drop ((dg 10 d.u).length : Int).toNat = rest) := ⟨by simp⟩
  clear hs
  have hu0 := hd.hu.1
  have hu1 := hd.hu.2
  obtain ⟨on, kind, d_u, d_i, d_r, d_t, d_A, d_c, d_raw⟩ := d
  simp only [] at hu0 hu1
  clear h hA hp hd hrest hlr
  have GL : Aside0 (g < w.heap.size) := ⟨by obtain ⟨_, _, h, _⟩ := H.out; exact blk_lt h⟩
  go_enter Try.func46, Try.ntmps46
  go_wp2_with ((go_at_call 15; go_loud (refine (latchkeykit_Pick.calls kind 6 1 _ HP.out).mono ?_); rintro e4 w4 ⟨rfl, ⟨m0, rfl⟩⟩; have B0 := fun m => box_cell w #[.int .i64 on, .int .i64 kind, .int .u64 d_u, .int .i64 d_i, .float .f32 d_r, .string d_t, .slice d_A d_raw.length d_c] 42 m 2 (.int .u64 d_u) rfl))
  go_region_held3 (fun W => W.cell? ⟨w.heap.size, 2, none⟩ = some (.int .u64 d_u)) (first | go_keep | exact B0 _ | (simpa using B1)) (first | (go_at_call 31; go_loud (refine (Reader_Uint_ok 31 _ g (dg 10 d_u ++ rest) d_u ((dg 10 d_u).length : Int) 0 (H.out.below (wx_below _ _ _)) HS.out (by omega) (by have := HN.out; omega)).mono ?_); rintro e5 w5 ⟨rfl, h1, h2⟩; (rw [HDR.out] at h1); have H1 := Aside0.mk h1; have H2 := Aside0.mk ((Fr.of_below (wx_below _ _ _) (fun k => k = g)).then_ h2 (fun k hk => .inl hk)); have B1 := cell_kept (B0 _) h2.2 (by have h3 := GL.out; show ¬ w.heap.size = g; omega); clear h1 h2))
  go_wp2
  go_ret
  exact ⟨by first | rfl | (simp; done), H1.out, H2.out⟩
set_option maxHeartbeats 4000000 in
theorem back_no1 (w : World) (g : Nat) (d : PutD) (m : Nat) (l : List Int) (hm : m < (enc d 1).length) (hl : l = (enc d 1).take m) (h : RdAt w g S (l) 0) (hd : PutOk w.heap.size d) (hA : U8.C w d.A d.raw.length d.raw) (hp : latchkeykit_Pick.f d.kind 6 = some 1) :
    Calls Try.prog 46 #[.pointer (some ⟨g, 0, none⟩), d.val] w fun e w' => (∃ b, e = .returned (.bool b)) ∧ RdAt w' g S l 20 ∧ Fr w w' (fun k => k = g) := by
  have hlb : ∀ x ∈ l, 0 ≤ x ∧ x < 256 := fun x hx => PureBack.enc_in w.heap.size d hd 1 x (by rw [hl] at hx; exact List.mem_of_mem_take hx)
  have hll : l.length ≤ 140737488351300 := by have := enc_len d 1; have h2 := hd.ht; have h3 := hd.hl; rw [hl, List.length_take]; simp only [enc] at hm ⊢; have := dg_len 10 d.u; have := dg_len 10 (turned d.i); have h9 := dg_len 10 (d.t.size : Int); have := bytesOf_length d.t; (try simp only [List.length_append, List.length_singleton, PureBack.quad_len] at *); omega
  have H := Aside0.mk h
  have HA := Aside0.mk hA
  have HP := Aside0.mk hp
  have HD := Aside0.mk hd
  have hs := short_f l hlb (by omega) (k := 31) (by omega)
  have hs2 : sh 0 l = (0, 0, 20) := by rw [hl]; exact PureBack.sh_short d.u m hd.hu.1 hd.hu.2 hm
  rw [hs2] at hs
  have HS := Aside0.mk hs
  clear hs hs2
  have hu0 := hd.hu.1
  have hu1 := hd.hu.2
  obtain ⟨on, kind, d_u, d_i, d_r, d_t, d_A, d_c, d_raw⟩ := d
  simp only [] at hu0 hu1
  clear h hA hp hd hm hl
  clear hlb hll
  have GL : Aside0 (g < w.heap.size) := ⟨by obtain ⟨_, _, h, _⟩ := H.out; exact blk_lt h⟩
  go_enter Try.func46, Try.ntmps46
  go_wp2_with ((go_at_call 15; go_loud (refine (latchkeykit_Pick.calls kind 6 1 _ HP.out).mono ?_); rintro e4 w4 ⟨rfl, ⟨m0, rfl⟩⟩; have B0 := fun m => box_cell w #[.int .i64 on, .int .i64 kind, .int .u64 d_u, .int .i64 d_i, .float .f32 d_r, .string d_t, .slice d_A d_raw.length d_c] 42 m 2 (.int .u64 d_u) rfl))
  go_region_held3 (fun W => W.cell? ⟨w.heap.size, 2, none⟩ = some (.int .u64 d_u)) (first | go_keep | exact B0 _ | (simpa using B1)) (first | (go_at_call 31; go_loud (refine (Reader_Uint_ok 31 _ g l 0 0 20 (H.out.below (wx_below _ _ _)) HS.out (by omega) (by omega)).mono ?_); rintro e5 w5 ⟨rfl, h1, h2⟩; (have h1 : RdAt w5 g S l 20 := h1); have H1 := Aside0.mk h1; have H2 := Aside0.mk ((Fr.of_below (wx_below _ _ _) (fun k => k = g)).then_ h2 (fun k hk => .inl hk)); have B1 := cell_kept (B0 _) h2.2 (by have h3 := GL.out; show ¬ w.heap.size = g; omega); clear h1 h2))
  go_wp2
  go_ret
  exact ⟨⟨_, rfl⟩, H1.out, H2.out⟩
set_option maxHeartbeats 4000000 in
theorem back_ok2 (w : World) (g : Nat) (d : PutD) (rest : List Int) (hrest : ∀ x ∈ rest, 0 ≤ x ∧ x < 256) (hlr : (enc d 2 ++ rest).length ≤ 140737488351232) (h : RdAt w g S (enc d 2 ++ rest) 0) (hd : PutOk w.heap.size d) (hA : U8.C w d.A d.raw.length d.raw) (hp : latchkeykit_Pick.f d.kind 6 = some 2) :
    Calls Try.prog 46 #[.pointer (some ⟨g, 0, none⟩), d.val] w fun e w' => e = .returned (.bool true) ∧ RdAt w' g S rest 0 ∧ Fr w w' (fun k => k = g) := by
  have H := Aside0.mk h
  have HA := Aside0.mk hA
  have HP := Aside0.mk hp
  have HD := Aside0.mk hd
  have hs := short_f (dg 10 (turned d.i) ++ rest) (fun x hx => (List.mem_append.1 hx).elim (PureBack.enc_in w.heap.size d hd 2 x) (hrest x)) (by simp only [enc] at hlr; omega) (k := 31) (by omega)
  rw [PureBack.sh_full (turned d.i) rest (PureForms.back_turned d.i hd.hi.1 hd.hi.2).2.1 (PureForms.back_turned d.i hd.hi.1 hd.hi.2).2.2] at hs
  have HS := Aside0.mk hs
  have HN : Aside0 ((dg 10 (turned d.i)).length ≤ (dg 10 (turned d.i) ++ rest).length) := ⟨by rw [List.length_append]; omega⟩
  have HDR : Aside0 ((dg 10 (turned d.i) ++ rest).drop ((dg 10 (turned d.i)).length : Int).toNat = rest) := ⟨by simp⟩
  clear hs
  have HBK := Aside0.mk (PureForms.back_turned d.i hd.hi.1 hd.hi.2).1
  have hu0 := hd.hu.1
  have hu1 := hd.hu.2
  obtain ⟨on, kind, d_u, d_i, d_r, d_t, d_A, d_c, d_raw⟩ := d
  simp only [] at hu0 hu1
  clear h hA hp hd hrest hlr
  have GL : Aside0 (g < w.heap.size) := ⟨by obtain ⟨_, _, h, _⟩ := H.out; exact blk_lt h⟩
  go_enter Try.func46, Try.ntmps46
  go_wp2_with ((go_at_call 15; go_loud (refine (latchkeykit_Pick.calls kind 6 2 _ HP.out).mono ?_); rintro e4 w4 ⟨rfl, ⟨m0, rfl⟩⟩; have B0 := fun m => box_cell w #[.int .i64 on, .int .i64 kind, .int .u64 d_u, .int .i64 d_i, .float .f32 d_r, .string d_t, .slice d_A d_raw.length d_c] 42 m 3 (.int .i64 d_i) rfl))
  go_region_held3 (fun W => W.cell? ⟨w.heap.size, 3, none⟩ = some (.int .i64 d_i)) (first | go_keep | exact B0 _ | (simpa using B1)) (first | (go_at_call 33; go_loud (refine (Reader_Int_ok 31 _ g (dg 10 (turned d_i) ++ rest) (turned d_i) ((dg 10 (turned d_i)).length : Int) 0 (H.out.below (wx_below _ _ _)) HS.out (by omega) (by have := HN.out; omega)).mono ?_); rintro e5 w5 ⟨rfl, h1, h2⟩; (rw [HDR.out] at h1); (rw [HBK.out]); have H1 := Aside0.mk h1; have H2 := Aside0.mk ((Fr.of_below (wx_below _ _ _) (fun k => k = g)).then_ h2 (fun k hk => .inl hk)); have B1 := cell_kept (B0 _) h2.2 (by have h3 := GL.out; show ¬ w.heap.size = g; omega); clear h1 h2))
  go_wp2
  go_ret
  exact ⟨by first | rfl | (simp; done), H1.out, H2.out⟩
set_option maxHeartbeats 4000000 in
theorem back_no2 (w : World) (g : Nat) (d : PutD) (m : Nat) (l : List Int) (hm : m < (enc d 2).length) (hl : l = (enc d 2).take m) (h : RdAt w g S (l) 0) (hd : PutOk w.heap.size d) (hA : U8.C w d.A d.raw.length d.raw) (hp : latchkeykit_Pick.f d.kind 6 = some 2) :
    Calls Try.prog 46 #[.pointer (some ⟨g, 0, none⟩), d.val] w fun e w' => (∃ b, e = .returned (.bool b)) ∧ RdAt w' g S l 20 ∧ Fr w w' (fun k => k = g) := by
  have hlb : ∀ x ∈ l, 0 ≤ x ∧ x < 256 := fun x hx => PureBack.enc_in w.heap.size d hd 2 x (by rw [hl] at hx; exact List.mem_of_mem_take hx)
  have hll : l.length ≤ 140737488351300 := by have := enc_len d 2; have h2 := hd.ht; have h3 := hd.hl; rw [hl, List.length_take]; simp only [enc] at hm ⊢; have := dg_len 10 d.u; have := dg_len 10 (turned d.i); have h9 := dg_len 10 (d.t.size : Int); have := bytesOf_length d.t; (try simp only [List.length_append, List.length_singleton, PureBack.quad_len] at *); omega
  have H := Aside0.mk h
  have HA := Aside0.mk hA
  have HP := Aside0.mk hp
  have HD := Aside0.mk hd
  have hs := short_f l hlb (by omega) (k := 31) (by omega)
  have hs2 : sh 0 l = (0, 0, 20) := by rw [hl]; exact PureBack.sh_short (turned d.i) m (PureForms.back_turned d.i hd.hi.1 hd.hi.2).2.1 (PureForms.back_turned d.i hd.hi.1 hd.hi.2).2.2 hm
  rw [hs2] at hs
  have HS := Aside0.mk hs
  clear hs hs2
  have hu0 := hd.hu.1
  have hu1 := hd.hu.2
  obtain ⟨on, kind, d_u, d_i, d_r, d_t, d_A, d_c, d_raw⟩ := d
  simp only [] at hu0 hu1
  clear h hA hp hd hm hl
  clear hlb hll
  have GL : Aside0 (g < w.heap.size) := ⟨by obtain ⟨_, _, h, _⟩ := H.out; exact blk_lt h⟩
  go_enter Try.func46, Try.ntmps46
  go_wp2_with ((go_at_call 15; go_loud (refine (latchkeykit_Pick.calls kind 6 2 _ HP.out).mono ?_); rintro e4 w4 ⟨rfl, ⟨m0, rfl⟩⟩; have B0 := fun m => box_cell w #[.int .i64 on, .int .i64 kind, .int .u64 d_u, .int .i64 d_i, .float .f32 d_r, .string d_t, .slice d_A d_raw.length d_c] 42 m 3 (.int .i64 d_i) rfl))
  go_region_held3 (fun W => W.cell? ⟨w.heap.size, 3, none⟩ = some (.int .i64 d_i)) (first | go_keep | exact B0 _ | (simpa using B1)) (first | (go_at_call 33; go_loud (refine (Reader_Int_ok 31 _ g l 0 0 20 (H.out.below (wx_below _ _ _)) HS.out (by omega) (by omega)).mono ?_); rintro e5 w5 ⟨rfl, h1, h2⟩; (have h1 : RdAt w5 g S l 20 := h1); have H1 := Aside0.mk h1; have H2 := Aside0.mk ((Fr.of_below (wx_below _ _ _) (fun k => k = g)).then_ h2 (fun k hk => .inl hk)); have B1 := cell_kept (B0 _) h2.2 (by have h3 := GL.out; show ¬ w.heap.size = g; omega); clear h1 h2))
  go_wp2
  go_ret
  exact ⟨⟨_, rfl⟩, H1.out, H2.out⟩
set_option maxHeartbeats 4000000 in
theorem back_ok3 (w : World) (g : Nat) (d : PutD) (rest : List Int) (hrest : ∀ x ∈ rest, 0 ≤ x ∧ x < 256) (hlr : (enc d 3 ++ rest).length ≤ 140737488351232) (h : RdAt w g S (enc d 3 ++ rest) 0) (hd : PutOk w.heap.size d) (hA : U8.C w d.A d.raw.length d.raw) (hp : latchkeykit_Pick.f d.kind 6 = some 3) :
    Calls Try.prog 46 #[.pointer (some ⟨g, 0, none⟩), d.val] w fun e w' => e = .returned (.bool true) ∧ RdAt w' g S rest 0 ∧ Fr w w' (fun k => k = g) := by
  have H := Aside0.mk h
  have HA := Aside0.mk hA
  have HP := Aside0.mk hp
  have HD := Aside0.mk hd
  have HM := Aside0.mk (PureBack.real_full d.r rest hd.hr)
  have HBB : Aside0 (∀ x ∈ quad (keyB d.r) ++ rest, 0 ≤ x ∧ x < 256) := ⟨fun x hx => (List.mem_append.1 hx).elim (PureBack.quad_in _ x) (hrest x)⟩
  have HSR := Aside0.mk (sr_key d.r hd.hr)
  have hu0 := hd.hu.1
  have hu1 := hd.hu.2
  obtain ⟨on, kind, d_u, d_i, d_r, d_t, d_A, d_c, d_raw⟩ := d
  simp only [] at hu0 hu1
  clear h hA hp hd hrest hlr
  have GL : Aside0 (g < w.heap.size) := ⟨by obtain ⟨_, _, h, _⟩ := H.out; exact blk_lt h⟩
  go_enter Try.func46, Try.ntmps46
  go_wp2_with ((go_at_call 15; go_loud (refine (latchkeykit_Pick.calls kind 6 3 _ HP.out).mono ?_); rintro e4 w4 ⟨rfl, ⟨m0, rfl⟩⟩; have B0 := fun m => box_cell w #[.int .i64 on, .int .i64 kind, .int .u64 d_u, .int .i64 d_i, .float .f32 d_r, .string d_t, .slice d_A d_raw.length d_c] 42 m 4 (.float .f32 d_r) rfl))
  go_region_held3 (fun W => W.cell? ⟨w.heap.size, 4, none⟩ = some (.float .f32 d_r)) (first | go_keep | exact B0 _ | (simpa using B1)) (first | (go_at_call 35; go_loud (refine (Reader_Real _ g (quad (keyB d_r) ++ rest) 0 (H.out.below (wx_below _ _ _)) HBB.out).mono ?_); rintro e5 w5 ⟨rfl, h1, h2⟩; (rw [HM.out] at h1 ⊢); have H1 := Aside0.mk h1; have H2 := Aside0.mk ((Fr.of_below (wx_below _ _ _) (fun k => k = g)).then_ h2 (fun k hk => .inl hk)); have B1 := cell_kept (B0 _) h2.2 (by have h3 := GL.out; show ¬ w.heap.size = g; omega); clear h1 h2) | (go_at_call 67; go_loud (refine (sameReal_calls _ d_r _).mono ?_); rintro e6 w6 ⟨rfl, rfl⟩; rw [HSR.out]))
  go_wp2
  go_ret
  exact ⟨by first | rfl | (simp; done), H1.out, H2.out⟩
set_option maxHeartbeats 4000000 in
theorem back_no3 (w : World) (g : Nat) (d : PutD) (m : Nat) (l : List Int) (hm : m < (enc d 3).length) (hl : l = (enc d 3).take m) (h : RdAt w g S (l) 0) (hd : PutOk w.heap.size d) (hA : U8.C w d.A d.raw.length d.raw) (hp : latchkeykit_Pick.f d.kind 6 = some 3) :
    Calls Try.prog 46 #[.pointer (some ⟨g, 0, none⟩), d.val] w fun e w' => (∃ b, e = .returned (.bool b)) ∧ RdAt w' g S l 20 ∧ Fr w w' (fun k => k = g) := by
  have hlb : ∀ x ∈ l, 0 ≤ x ∧ x < 256 := fun x hx => PureBack.enc_in w.heap.size d hd 3 x (by rw [hl] at hx; exact List.mem_of_mem_take hx)
  have hll : l.length ≤ 140737488351300 := by have := enc_len d 3; have h2 := hd.ht; have h3 := hd.hl; rw [hl, List.length_take]; simp only [enc] at hm ⊢; have := dg_len 10 d.u; have := dg_len 10 (turned d.i); have h9 := dg_len 10 (d.t.size : Int); have := bytesOf_length d.t; (try simp only [List.length_append, List.length_singleton, PureBack.quad_len] at *); omega
  have H := Aside0.mk h
  have HA := Aside0.mk hA
  have HP := Aside0.mk hp
  have HD := Aside0.mk hd
  have HM := Aside0.mk (PureBack.real_short l (by rw [hl, List.length_take]; have : (enc d 3).length = 4 := rfl; omega))
  have HBB := Aside0.mk hlb
  have hu0 := hd.hu.1
  have hu1 := hd.hu.2
  obtain ⟨on, kind, d_u, d_i, d_r, d_t, d_A, d_c, d_raw⟩ := d
  simp only [] at hu0 hu1
  clear h hA hp hd hm hl
  clear hlb hll
  have GL : Aside0 (g < w.heap.size) := ⟨by obtain ⟨_, _, h, _⟩ := H.out; exact blk_lt h⟩
  go_enter Try.func46, Try.ntmps46
  go_wp2_with ((go_at_call 15; go_loud (refine (latchkeykit_Pick.calls kind 6 3 _ HP.out).mono ?_); rintro e4 w4 ⟨rfl, ⟨m0, rfl⟩⟩; have B0 := fun m => box_cell w #[.int .i64 on, .int .i64 kind, .int .u64 d_u, .int .i64 d_i, .float .f32 d_r, .string d_t, .slice d_A d_raw.length d_c] 42 m 4 (.float .f32 d_r) rfl))
  go_region_held3 (fun W => W.cell? ⟨w.heap.size, 4, none⟩ = some (.float .f32 d_r)) (first | go_keep | exact B0 _ | (simpa using B1)) (first | (go_at_call 35; go_loud (refine (Reader_Real _ g l 0 (H.out.below (wx_below _ _ _)) HBB.out).mono ?_); rintro e5 w5 ⟨rfl, h1, h2⟩; (rw [HM.out] at h1 ⊢); have H1 := Aside0.mk h1; have H2 := Aside0.mk ((Fr.of_below (wx_below _ _ _) (fun k => k = g)).then_ h2 (fun k hk => .inl hk)); have B1 := cell_kept (B0 _) h2.2 (by have h3 := GL.out; show ¬ w.heap.size = g; omega); clear h1 h2) | (go_at_call 67; go_loud (refine (sameReal_calls _ d_r _).mono ?_); rintro e6 w6 ⟨rfl, rfl⟩))
  go_wp2
  go_ret
  exact ⟨⟨_, rfl⟩, H1.out, H2.out⟩
set_option maxHeartbeats 4000000 in
theorem back_ok4 (w : World) (g : Nat) (d : PutD) (rest : List Int) (hrest : ∀ x ∈ rest, 0 ≤ x ∧ x < 256) (hlr : (enc d 4 ++ rest).length ≤ 140737488351232) (h : RdAt w g S (enc d 4 ++ rest) 0) (hd : PutOk w.heap.size d) (hA : U8.C w d.A d.raw.length d.raw) (hp : latchkeykit_Pick.f d.kind 6 = some 4) :
    Calls Try.prog 46 #[.pointer (some ⟨g, 0, none⟩), d.val] w fun e w' => e = .returned (.bool true) ∧ RdAt w' g S rest 0 ∧ Fr w w' (fun k => k = g) := by
  have H := Aside0.mk h
  have HA := Aside0.mk hA
  have HP := Aside0.mk hp
  have HD := Aside0.mk hd
  have hs := short_f (dg 10 (d.t.size : Int) ++ bytesOf d.t ++ rest) (fun x hx => (List.mem_append.1 hx).elim (PureBack.enc_in w.heap.size d hd 4 x) (hrest x)) (by simp only [enc] at hlr; omega) (k := 31) (by omega)
  rw [List.append_assoc, PureBack.sh_full (d.t.size : Int) (bytesOf d.t ++ rest) (by omega) (by have := hd.ht; omega), ← List.append_assoc] at hs
  have HS := Aside0.mk hs
  have HM := Aside0.mk (PureBack.text_full d.t rest)
  have HN : Aside0 ((dg 10 (d.t.size : Int)).length ≤ (dg 10 (d.t.size : Int) ++ bytesOf d.t ++ rest).length) := ⟨by rw [List.length_append, List.length_append]; omega⟩
  have HLR : Aside0 ((dg 10 (d.t.size : Int) ++ bytesOf d.t ++ rest).length ≤ 140737488355328) := ⟨by simp only [enc] at hlr; omega⟩
  clear hs
  have hu0 := hd.hu.1
  have hu1 := hd.hu.2
  obtain ⟨on, kind, d_u, d_i, d_r, d_t, d_A, d_c, d_raw⟩ := d
  simp only [] at hu0 hu1
  clear h hA hp hd hrest hlr
  have GL : Aside0 (g < w.heap.size) := ⟨by obtain ⟨_, _, h, _⟩ := H.out; exact blk_lt h⟩
  go_enter Try.func46, Try.ntmps46
  go_wp2_with ((go_at_call 15; go_loud (refine (latchkeykit_Pick.calls kind 6 4 _ HP.out).mono ?_); rintro e4 w4 ⟨rfl, ⟨m0, rfl⟩⟩; have B0 := fun m => box_cell w #[.int .i64 on, .int .i64 kind, .int .u64 d_u, .int .i64 d_i, .float .f32 d_r, .string d_t, .slice d_A d_raw.length d_c] 42 m 5 (.string d_t) rfl))
  go_region_held3 (fun W => W.cell? ⟨w.heap.size, 5, none⟩ = some (.string d_t)) (first | go_keep | exact B0 _ | (simpa using B1)) (first | (go_at_call 42; go_loud (refine (Reader_Text 31 _ g (dg 10 (d_t.size : Int) ++ bytesOf d_t ++ rest) 0 (d_t.size : Int) ((d_t.size : Int), ((dg 10 (d_t.size : Int)).length : Int), 0) (H.out.below (wx_below _ _ _)) HLR.out HS.out (by simp) (by have := HN.out; simp only []; omega) (by simp) (by have := HD.out.ht; simp only [] at this; omega)).mono ?_); rintro e5 w5 ⟨rfl, h1, h2⟩; (rw [HM.out] at h1 ⊢); have H1 := Aside0.mk h1; have H2 := Aside0.mk ((Fr.of_below (wx_below _ _ _) (fun k => k = g)).then_ h2 (fun k hk => .inl hk)); have B1 := cell_kept (B0 _) h2.2 (by have h3 := GL.out; show ¬ w.heap.size = g; omega); clear h1 h2))
  go_wp2
  go_ret
  exact ⟨by first | rfl | (simp; done), H1.out, H2.out⟩
set_option maxHeartbeats 4000000 in
theorem back_no4 (w : World) (g : Nat) (d : PutD) (m : Nat) (l : List Int) (hm : m < (enc d 4).length) (hl : l = (enc d 4).take m) (h : RdAt w g S (l) 0) (hd : PutOk w.heap.size d) (hA : U8.C w d.A d.raw.length d.raw) (hp : latchkeykit_Pick.f d.kind 6 = some 4) :
    Calls Try.prog 46 #[.pointer (some ⟨g, 0, none⟩), d.val] w fun e w' => (∃ b, e = .returned (.bool b)) ∧ RdAt w' g S l 20 ∧ Fr w w' (fun k => k = g) := by
  have hlb : ∀ x ∈ l, 0 ≤ x ∧ x < 256 := fun x hx => PureBack.enc_in w.heap.size d hd 4 x (by rw [hl] at hx; exact List.mem_of_mem_take hx)
  have hll : l.length ≤ 140737488351300 := by have := enc_len d 4; have h2 := hd.ht; have h3 := hd.hl; rw [hl, List.length_take]; simp only [enc] at hm ⊢; have := dg_len 10 d.u; have := dg_len 10 (turned d.i); have h9 := dg_len 10 (d.t.size : Int); have := bytesOf_length d.t; (try simp only [List.length_append, List.length_singleton, PureBack.quad_len] at *); omega
  have H := Aside0.mk h
  have HA := Aside0.mk hA
  have HP := Aside0.mk hp
  have HD := Aside0.mk hd
  have hs := short_f l hlb (by omega) (k := 31) (by omega)
  have HS := Aside0.mk hs
  have HM := Aside0.mk (PureBack.text_short d.t m hd.ht hm l hl)
  have hq := PureBack.sh_ok l hlb
  have HQ := Aside0.mk hq
  have HLL := Aside0.mk hll
  clear hs hq
  have hu0 := hd.hu.1
  have hu1 := hd.hu.2
  obtain ⟨on, kind, d_u, d_i, d_r, d_t, d_A, d_c, d_raw⟩ := d
  simp only [] at hu0 hu1
  clear h hA hp hd hm hl
  clear hlb hll
  have GL : Aside0 (g < w.heap.size) := ⟨by obtain ⟨_, _, h, _⟩ := H.out; exact blk_lt h⟩
  go_enter Try.func46, Try.ntmps46
  go_wp2_with ((go_at_call 15; go_loud (refine (latchkeykit_Pick.calls kind 6 4 _ HP.out).mono ?_); rintro e4 w4 ⟨rfl, ⟨m0, rfl⟩⟩; have B0 := fun m => box_cell w #[.int .i64 on, .int .i64 kind, .int .u64 d_u, .int .i64 d_i, .float .f32 d_r, .string d_t, .slice d_A d_raw.length d_c] 42 m 5 (.string d_t) rfl))
  go_region_held3 (fun W => W.cell? ⟨w.heap.size, 5, none⟩ = some (.string d_t)) (first | go_keep | exact B0 _ | (simpa using B1)) (first | (go_at_call 42; go_loud (refine (Reader_Text 31 _ g l 0 (d_t.size : Int) (sh 0 l) (H.out.below (wx_below _ _ _)) (by have := HLL.out; omega) HS.out HQ.out.1 HQ.out.2.1 HQ.out.2.2 (by have := HD.out.ht; simp only [] at this; omega)).mono ?_); rintro e5 w5 ⟨rfl, h1, h2⟩; (rw [HM.out] at h1 ⊢); have H1 := Aside0.mk h1; have H2 := Aside0.mk ((Fr.of_below (wx_below _ _ _) (fun k => k = g)).then_ h2 (fun k hk => .inl hk)); have B1 := cell_kept (B0 _) h2.2 (by have h3 := GL.out; show ¬ w.heap.size = g; omega); clear h1 h2))
  go_wp2
  go_ret
  exact ⟨⟨_, rfl⟩, H1.out, H2.out⟩
set_option maxHeartbeats 4000000 in
theorem back_ok5 (w : World) (g : Nat) (d : PutD) (rest : List Int) (hrest : ∀ x ∈ rest, 0 ≤ x ∧ x < 256) (hlr : (enc d 5 ++ rest).length ≤ 140737488351232) (h : RdAt w g S (enc d 5 ++ rest) 0) (hd : PutOk w.heap.size d) (hA : U8.C w d.A d.raw.length d.raw) (hgA : ∀ ad, d.A = some ad → 0 < d.raw.length → ad.block ≠ g) (hp : latchkeykit_Pick.f d.kind 6 = some 5) :
    Calls Try.prog 46 #[.pointer (some ⟨g, 0, none⟩), d.val] w fun e w' => e = .returned (.bool true) ∧ RdAt w' g S rest 0 ∧ Fr w w' (fun k => k = g) := by
  have H := Aside0.mk h
  have HA := Aside0.mk hA
  have HP := Aside0.mk hp
  have HD := Aside0.mk hd
  have HM : Aside0 (mRaw (d.raw.length : Int) (d.raw ++ rest) 0 = (d.raw, rest, 0)) := ⟨by unfold mRaw; rw [if_neg (by simp), if_neg (by omega), if_neg (by rw [List.length_append]; omega)]; simp⟩
  have HLR : Aside0 ((d.raw ++ rest).length ≤ 140737488355328) := ⟨by simp only [enc] at hlr; omega⟩
  have HSM := Aside0.mk (PureForms.same_self d.raw hd.hl (k := d.raw.length + 1) (by omega))
  have HGA := Aside0.mk hgA
  have hu0 := hd.hu.1
  have hu1 := hd.hu.2
  obtain ⟨on, kind, d_u, d_i, d_r, d_t, d_A, d_c, d_raw⟩ := d
  simp only [] at hu0 hu1
  clear h hA hp hd hgA hrest hlr
  have GL : Aside0 (g < w.heap.size) := ⟨by obtain ⟨_, _, h, _⟩ := H.out; exact blk_lt h⟩
  go_enter Try.func46, Try.ntmps46
  go_wp2_with ((go_at_call 15; go_loud (refine (latchkeykit_Pick.calls kind 6 5 _ HP.out).mono ?_); rintro e4 w4 ⟨rfl, ⟨m0, rfl⟩⟩; have B0 := fun m => box_cell w #[.int .i64 on, .int .i64 kind, .int .u64 d_u, .int .i64 d_i, .float .f32 d_r, .string d_t, .slice d_A d_raw.length d_c] 42 m 6 (.slice d_A d_raw.length d_c) rfl))
  go_region_held3 (fun W => W.cell? ⟨w.heap.size, 6, none⟩ = some (.slice d_A d_raw.length d_c)) (first | go_keep | exact B0 _ | (simpa using B1)) (first | (go_at_call 43; go_loud (refine (Reader_Raw _ g (d_raw ++ rest) 0 (d_raw.length : Int) (H.out.below (wx_below _ _ _)) HLR.out).mono ?_); rintro e5 w5 ⟨⟨v1, rfl, q1⟩, h1, h2⟩; (rw [HM.out] at h1 q1); (obtain ⟨A1, c1, rfl⟩ := Kd.R_slice q1); have Q1 := Aside0.mk (Kd.R_reads' q1).2; have XA := Aside0.mk (C_kept0 (Kd.C_below HA.out (wx_below _ _ _)) h2.2 (fun ad ha hl_ e_ => HGA.out ad ha hl_ e_)); clear q1; have H1 := Aside0.mk h1; have H2 := Aside0.mk ((Fr.of_below (wx_below _ _ _) (fun k => k = g)).then_ h2 (fun k hk => .inl hk)); have B1 := cell_kept (B0 _) h2.2 (by have h3 := GL.out; show ¬ w.heap.size = g; omega); clear h1 h2) | (go_at_call 22; go_loud (refine (latchkeyref00_SameBytes.calls _ A1 c1 d_raw d_A d_c d_raw true _ Q1.out.2 Q1.out.1 XA.out HD.out.hc HSM.out).mono ?_); rintro e6 w6 ⟨rfl, ⟨m6, rfl⟩⟩))
  go_wp2
  go_ret
  exact ⟨by first | rfl | (simp; done), H1.out.below (dn_below _ m6), H2.out.then_ (Fr.drewN _ m6 (fun _ => False)) (fun _ h => h.elim)⟩
set_option maxHeartbeats 4000000 in
theorem back_no5 (w : World) (g : Nat) (d : PutD) (m : Nat) (l : List Int) (hm : m < (enc d 5).length) (hl : l = (enc d 5).take m) (h : RdAt w g S (l) 0) (hd : PutOk w.heap.size d) (hA : U8.C w d.A d.raw.length d.raw) (hgA : ∀ ad, d.A = some ad → 0 < d.raw.length → ad.block ≠ g) (hp : latchkeykit_Pick.f d.kind 6 = some 5) :
    Calls Try.prog 46 #[.pointer (some ⟨g, 0, none⟩), d.val] w fun e w' => (∃ b, e = .returned (.bool b)) ∧ RdAt w' g S l 20 ∧ Fr w w' (fun k => k = g) := by
  have hlb : ∀ x ∈ l, 0 ≤ x ∧ x < 256 := fun x hx => PureBack.enc_in w.heap.size d hd 5 x (by rw [hl] at hx; exact List.mem_of_mem_take hx)
  have hll : l.length ≤ 140737488351300 := by have := enc_len d 5; have h2 := hd.ht; have h3 := hd.hl; rw [hl, List.length_take]; simp only [enc] at hm ⊢; have := dg_len 10 d.u; have := dg_len 10 (turned d.i); have h9 := dg_len 10 (d.t.size : Int); have := bytesOf_length d.t; (try simp only [List.length_append, List.length_singleton, PureBack.quad_len] at *); omega
  have H := Aside0.mk h
  have HA := Aside0.mk hA
  have HP := Aside0.mk hp
  have HD := Aside0.mk hd
  have HM := Aside0.mk (raw_short d.raw l m hm hl)
  have HLR := Aside0.mk hll
  have HSM : Aside0 (latchkeyref00_SameBytes.f 1 [] d.raw = some false) := ⟨by unfold latchkeyref00_SameBytes.f; rw [if_neg (by simp only [enc] at hm; simp; omega)]⟩
  have HGA := Aside0.mk hgA
  have hu0 := hd.hu.1
  have hu1 := hd.hu.2
  obtain ⟨on, kind, d_u, d_i, d_r, d_t, d_A, d_c, d_raw⟩ := d
  simp only [] at hu0 hu1
  clear h hA hp hd hgA hm hl
  clear hlb hll
  have GL : Aside0 (g < w.heap.size) := ⟨by obtain ⟨_, _, h, _⟩ := H.out; exact blk_lt h⟩
  go_enter Try.func46, Try.ntmps46
  go_wp2_with ((go_at_call 15; go_loud (refine (latchkeykit_Pick.calls kind 6 5 _ HP.out).mono ?_); rintro e4 w4 ⟨rfl, ⟨m0, rfl⟩⟩; have B0 := fun m => box_cell w #[.int .i64 on, .int .i64 kind, .int .u64 d_u, .int .i64 d_i, .float .f32 d_r, .string d_t, .slice d_A d_raw.length d_c] 42 m 6 (.slice d_A d_raw.length d_c) rfl))
  go_region_held3 (fun W => W.cell? ⟨w.heap.size, 6, none⟩ = some (.slice d_A d_raw.length d_c)) (first | go_keep | exact B0 _ | (simpa using B1)) (first | (go_at_call 43; go_loud (refine (Reader_Raw _ g l 0 (d_raw.length : Int) (H.out.below (wx_below _ _ _)) (by have := HLR.out; omega)).mono ?_); rintro e5 w5 ⟨⟨v1, rfl, q1⟩, h1, h2⟩; (rw [HM.out] at h1 q1); (obtain ⟨A1, c1, rfl⟩ := Kd.R_slice q1); have Q1 := Aside0.mk (Kd.R_reads' q1).2; have XA := Aside0.mk (C_kept0 (Kd.C_below HA.out (wx_below _ _ _)) h2.2 (fun ad ha hl_ e_ => HGA.out ad ha hl_ e_)); clear q1; have H1 := Aside0.mk h1; have H2 := Aside0.mk ((Fr.of_below (wx_below _ _ _) (fun k => k = g)).then_ h2 (fun k hk => .inl hk)); have B1 := cell_kept (B0 _) h2.2 (by have h3 := GL.out; show ¬ w.heap.size = g; omega); clear h1 h2) | (go_at_call 22; go_loud (refine (latchkeyref00_SameBytes.calls _ A1 c1 [] d_A d_c d_raw false _ Q1.out.2 Q1.out.1 XA.out HD.out.hc HSM.out).mono ?_); rintro e6 w6 ⟨rfl, ⟨m6, rfl⟩⟩))
  go_wp2
  go_ret
  exact ⟨⟨_, rfl⟩, H1.out.below (dn_below _ m6), H2.out.then_ (Fr.drewN _ m6 (fun _ => False)) (fun _ h => h.elim)⟩
end Go.Proofs.Ytkjkmaopifmghaa.Oct
