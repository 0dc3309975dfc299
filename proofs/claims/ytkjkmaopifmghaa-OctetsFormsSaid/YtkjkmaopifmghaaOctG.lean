/- Reader.Real (plain walk). -/
import Derived.Test.YtkjkmaopifmghaaOctF
namespace Go.Proofs.Ytkjkmaopifmghaa.Oct
open Go.RowKit Go.Proofs.YtkjkmaopifmghaaW.PrintWords Go.Proofs.YtkjkmaopifmghaaW.PrintLast Go.Proofs.YtkjkmaopifmghaaW.PrintMore Go.Proofs.Ytkjkmaopifmghaa.OctShort
set_option linter.unusedVariables false
set_option linter.unusedSimpArgs false
variable {S : Nat → Prop}
set_option maxRecDepth 100000
theorem run_arrayAt {P : Program} (t : TypeId) (n e : Nat) (ht : P.underlying t = some (.array n e)) (ad : Addr) (c : Nat) (W : World) : (Instr.arrayAt t (.slice (some ad) n c)).run P W = .ok (.pointer (some ad)) W := by
  simp [Instr.arrayAt, Sem.run_bind, run_underlying ht]
theorem run_loadArr {P : Program} (t : TypeId) (n e : Nat) (ht : P.underlying t = some (.array n e)) (cs : List Value) (hi : (P.info? t).map (·.size) = some cs.length) (w : World) (ad : Addr) (hc : ∀ j v, cs[j]? = some v → w.cell? (ad.add j) = some v) : (Instr.loadAt t (.pointer (some ad))).run P w = .ok (.agg cs.toArray) w := by
  have hl : (loadCells ad cs.length).run P w = .ok cs.toArray w := run_loadCells_list (P := P) w ad cs hc
  cases hq : P.info? t with
  | none => simp [hq] at hi
  | some i =>
    have hs : i.size = cs.length := by simpa [hq] using hi
    have hagg : (isAgg t).run P w = .ok true w := by
      unfold isAgg
      rw [Sem.run_bind, run_underlying ht w]
      rfl
    simp [Instr.loadAt, Instr.sureAddr, loadVar, Sem.run_bind, hagg, sizeOf, typeInfo, hq, hs, hl]
def four (a b c d : Int) : Int := a * 16777216 + b * 65536 + c * 256 + d
def realB (k : Int) : Nat := (if k < 2147483648 then 4294967295 - k else k - 2147483648).toNat
theorem four_or (a b c d : Int) (ha : 0 ≤ a ∧ a < 256) (hb : 0 ≤ b ∧ b < 256) (hc : 0 ≤ c ∧ c < 256) (hd : 0 ≤ d ∧ d < 256) :
    Go.bits .or .u32 (a * 16777216) (b * 65536) = a * 16777216 + b * 65536 ∧ Go.bits .or .u32 (a * 16777216 + b * 65536) (c * 256) = a * 16777216 + b * 65536 + c * 256 ∧ Go.bits .or .u32 (a * 16777216 + b * 65536 + c * 256) d = four a b c d := by
  have wr : ∀ n : Int, 0 ≤ n → n < 2 ^ 32 → IntKind.u32.wrap n = n := fun n h0 h1 => by rw [IntKind.wrap_u32]; omega
  refine ⟨bits_join .u32 32 (by decide) wr 24 _ _ (by omega) (by omega) (by omega) (by omega) (by omega) (by omega), bits_join .u32 32 (by decide) wr 16 _ _ (by omega) (by omega) (by omega) (by omega) (by omega) (by omega), ?_⟩
  exact bits_join .u32 32 (by decide) wr 8 _ _ (by omega) (by omega) (by omega) (by omega) (by omega) (by omega)
theorem RdV.below {w w' : World} {g : Nat} {A : Option Addr} {c : Nat} {l : List Int} {e : Int} (h : RdV w g S A c l e) (hb : Below w.heap.size w w') : RdV w' g S A c l e :=
  ⟨(hb.block g (blk_lt h.1)).trans h.1, h.2.1, Kd.C_below h.2.2.1 hb, h.2.2.2⟩
theorem realB_lt (K : Int) (h0 : 0 ≤ K) (h1 : K < 4294967296) : realB K < 4294967296 := by
  unfold realB
  split <;> omega
/-- What a Reader of at least four bytes does. -/
theorem Reader_Real_any (w : World) (g : Nat) (a b c d : Int) (l : List Int) (h : RdAt w g S (a :: b :: c :: d :: l) 0) (ha : 0 ≤ a ∧ a < 256) (hb : 0 ≤ b ∧ b < 256) (hc : 0 ≤ c ∧ c < 256) (hd : 0 ≤ d ∧ d < 256) :
    Calls Try.prog 35 #[.pointer (some ⟨g, 0, none⟩)] w fun e w' => ((keyB (realB (four a b c d)) = four a b c d → e = .returned (.float .f32 (realB (four a b c d))) ∧ RdAt w' g S l 0) ∧ (keyB (realB (four a b c d)) ≠ four a b c d → e = .returned (.float .f32 0) ∧ RdAt w' g S (a :: b :: c :: d :: l) 21)) ∧ Fr w w' (fun k => k = g) := by
  obtain ⟨A, cc, h⟩ := h
  have H := Aside0.mk h
  obtain ⟨h1, h2, h3, h4⟩ := h
  obtain ⟨⟨hc0, hf0⟩, hc1, hf1⟩ := blk_two h1
  have hl : (4 : Int) ≤ ((a :: b :: c :: d :: l).length : Int) := by simp only [List.length_cons]; omega
  obtain ⟨ad, rfl, hx0⟩ := Kd.at_int h3 0 (by omega) (by omega)
  obtain ⟨ad1, e1, hx1⟩ := Kd.at_int h3 1 (by omega) (by omega)
  obtain ⟨ad2, e2, hx2⟩ := Kd.at_int h3 2 (by omega) (by omega)
  obtain ⟨ad3, e3, hx3⟩ := Kd.at_int h3 3 (by omega) (by omega)
  obtain rfl := Option.some.inj e1
  obtain rfl := Option.some.inj e2
  obtain rfl := Option.some.inj e3
  obtain ⟨B, dd, hcut, hd1, hd2, hd3⟩ := H.out.cut 4 (by omega) hl
  have e5 : (a :: b :: c :: d :: l).drop (4 : Int).toNat = l := rfl
  rw [e5] at hd1 hd2 hcut
  have HB := Aside0.mk (And.intro hd1 (And.intro hd2 hd3))
  generalize hn : (a :: b :: c :: d :: l).length = n at *
  have HN := Aside0.mk hn
  have hg : g < w.heap.size := blk_lt h1
  have hAt := fun (W : World) => run_arrayAt (P := Try.prog) 100 4 5 Try.underlying100 ad cc W
  have q0 : w.cell? ad = some (.int .u8 a) := hx0
  have q1 : w.cell? { block := ad.block, off := ad.off + 1 } = some (.int .u8 b) := hx1
  have q2 : w.cell? { block := ad.block, off := ad.off + 2 } = some (.int .u8 c) := hx2
  have q3 : w.cell? { block := ad.block, off := ad.off + 3 } = some (.int .u8 d) := hx3
  obtain ⟨o1, o2, o3⟩ := four_or a b c d ha hb hc hd
  have K0 : 0 ≤ four a b c d ∧ four a b c d < 4294967296 := by unfold four; omega
  have ra : a % 4294967296 = a := by omega
  have rb : b % 4294967296 = b := by omega
  have rc : c % 4294967296 = c := by omega
  have rd_ : d % 4294967296 = d := by omega
  have sa : a * 16777216 % 4294967296 = a * 16777216 := by omega
  have sb : b * 65536 % 4294967296 = b * 65536 := by omega
  have sc : c * 256 % 4294967296 = c * 256 := by omega
  have hfb := frombits_call
  have hRE := realB_lt (four a b c d) K0.1 K0.2
  generalize hK : four a b c d = K at *
  have HR := Aside0.mk hRE
  clear h1 h2 h3 h4 e1 e2 e3 e5 hd1 hd2 hd3 hx0 hx1 hx2 hx3 hK ha hb hc hd hn hRE
  have hX1 : Aside0 (K < 2147483648 → Go.bits .xor .u32 IntKind.u32.max K = 4294967295 - K) := ⟨fun h => by
    obtain ⟨k, rfl⟩ := Int.eq_ofNat_of_zero_le K0.1
    exact not32 k (by omega)⟩
  have hX2 : Aside0 (2147483648 ≤ K → Go.bits .xor .u32 K 2147483648 = K - 2147483648) := ⟨fun h => by
    obtain ⟨k, rfl⟩ := Int.eq_ofNat_of_zero_le K0.1
    exact xor_lo k (by omega) (by omega)⟩
  by_cases hlo : K < 2147483648
  · have hx := hX1.out hlo
    have hdv : K / 2147483648 = 0 := by omega
    have hre : Aside0 ((4294967295 - K).toNat = realB K) := ⟨by unfold realB; rw [if_pos hlo]⟩
    clear hlo K0 hX1 hX2
    by_cases hk : keyB (realB K) = K
    · have HK := Aside0.mk hk
      clear hk
      go_enter Try.func35, Try.ntmps35
      go_wp2_with (first | (go_at_call 57; go_loud (refine (Reader_ask_ok w g (some ad) cc (a :: b :: c :: d :: l) 4 H.out (by omega) (by have := HN.out; omega)).mono ?_); rintro e w1 ⟨rfl, rfl⟩) | (go_at_call 59; rw [hre.out]; go_loud (refine (key_calls (realB K) _ HR.out).mono ?_); rintro e w1 ⟨rfl, rfl⟩; rw [HK.out]))
      go_ret
      exact ⟨⟨fun _ => ⟨by rw [← hre.out]; rfl, ⟨B, dd, (H.out.set_row HB.out.1 HB.out.2.1 HB.out.2.2).below (below_alloc (Below.refl _ _) _)⟩⟩, fun h => absurd HK.out h⟩, (Fr.set 0 _).then_ (Fr.of_below (below_alloc (Below.refl _ _) _) (fun _ => False)) (fun _ h => h.elim)⟩
    · have HK := Aside0.mk hk
      have hne : (keyB (realB K) == K) = false := by simpa using hk
      clear hk
      go_enter Try.func35, Try.ntmps35
      go_wp2_with (first | (go_at_call 57; go_loud (refine (Reader_ask_ok w g (some ad) cc (a :: b :: c :: d :: l) 4 H.out (by omega) (by have := HN.out; omega)).mono ?_); rintro e w1 ⟨rfl, rfl⟩) | (go_at_call 59; rw [hre.out]; go_loud (refine (key_calls (realB K) _ HR.out).mono ?_); rintro e w1 ⟨rfl, rfl⟩))
      go_ret
      exact ⟨⟨fun h => absurd h HK.out, fun _ => ⟨rfl, ⟨some ad, cc, (H.out.set_err 21).below (below_alloc (Below.refl _ _) _)⟩⟩⟩, (Fr.set 1 _).then_ (Fr.of_below (below_alloc (Below.refl _ _) _) (fun _ => False)) (fun _ h => h.elim)⟩
  · have hx := hX2.out (by omega)
    have hdv : K / 2147483648 = 1 := by omega
    have hre : Aside0 ((K - 2147483648).toNat = realB K) := ⟨by unfold realB; rw [if_neg hlo]⟩
    clear hlo K0 hX1 hX2
    by_cases hk : keyB (realB K) = K
    · have HK := Aside0.mk hk
      clear hk
      go_enter Try.func35, Try.ntmps35
      go_wp2_with (first | (go_at_call 57; go_loud (refine (Reader_ask_ok w g (some ad) cc (a :: b :: c :: d :: l) 4 H.out (by omega) (by have := HN.out; omega)).mono ?_); rintro e w1 ⟨rfl, rfl⟩) | (go_at_call 59; rw [hre.out]; go_loud (refine (key_calls (realB K) _ HR.out).mono ?_); rintro e w1 ⟨rfl, rfl⟩; rw [HK.out]))
      go_ret
      exact ⟨⟨fun _ => ⟨by rw [← hre.out]; rfl, ⟨B, dd, (H.out.set_row HB.out.1 HB.out.2.1 HB.out.2.2).below (below_alloc (Below.refl _ _) _)⟩⟩, fun h => absurd HK.out h⟩, (Fr.set 0 _).then_ (Fr.of_below (below_alloc (Below.refl _ _) _) (fun _ => False)) (fun _ h => h.elim)⟩
    · have HK := Aside0.mk hk
      have hne : (keyB (realB K) == K) = false := by simpa using hk
      clear hk
      go_enter Try.func35, Try.ntmps35
      go_wp2_with (first | (go_at_call 57; go_loud (refine (Reader_ask_ok w g (some ad) cc (a :: b :: c :: d :: l) 4 H.out (by omega) (by have := HN.out; omega)).mono ?_); rintro e w1 ⟨rfl, rfl⟩) | (go_at_call 59; rw [hre.out]; go_loud (refine (key_calls (realB K) _ HR.out).mono ?_); rintro e w1 ⟨rfl, rfl⟩))
      go_ret
      exact ⟨⟨fun h => absurd h HK.out, fun _ => ⟨rfl, ⟨some ad, cc, (H.out.set_err 21).below (below_alloc (Below.refl _ _) _)⟩⟩⟩, (Fr.set 1 _).then_ (Fr.of_below (below_alloc (Below.refl _ _) _) (fun _ => False)) (fun _ h => h.elim)⟩
end Go.Proofs.Ytkjkmaopifmghaa.Oct
