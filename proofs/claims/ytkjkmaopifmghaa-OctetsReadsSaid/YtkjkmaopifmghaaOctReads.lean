/- The walk of OctetsReads. -/
import Derived.Test.YtkjkmaopifmghaaOctGet
import Derived.Test.YtkjkmaopifmghaaOctOver
import Derived.Test.YtkjkmaopifmghaaOctLentx1
import Derived.Test.YtkjkmaopifmghaaOctKeptx2
import Derived.Test.YtkjkmaopifmghaaOctAwake
import Derived.Test.YtkjkmaopifmghaaPureNum
import Derived.Test.YtkjkmaopifmghaaPureLent
namespace Go.Proofs.Ytkjkmaopifmghaa.Oct
open Go.RowKit Go.Proofs.YtkjkmaopifmghaaW.PrintWords Go.Proofs.YtkjkmaopifmghaaW.PrintLast Go.Proofs.YtkjkmaopifmghaaW.PrintMore Go.Proofs.Ytkjkmaopifmghaa.OctShort Go.Proofs.Ytkjkmaopifmghaa.OctCopy Go.Proofs.Ytkjkmaopifmghaa.OctNum
set_option linter.unusedVariables false
set_option linter.unusedSimpArgs false
set_option maxRecDepth 100000
theorem pick_n (a : Int) (n : Nat) (hn : 0 < n) (hn' : n ≤ 100) : ∃ j : Nat, j < n ∧ latchkeykit_Pick.f a (n : Int) = some (j : Int) := by
  unfold latchkeykit_Pick.f
  rw [if_neg (by omega), if_neg (by omega)]
  have h1 : Int.tmod a n < n := Int.tmod_lt_of_pos a (by omega)
  have h2 : -(n : Int) < Int.tmod a n := by
    have := Int.lt_tmod_of_pos a (b := (n : Int)) (by omega)
    omega
  by_cases h : Int.tmod a n < 0
  · rw [if_pos h]
    have : wrap64 (Int.tmod a n + n) = Int.tmod a n + n := by unfold wrap64; omega
    rw [this]
    exact ⟨(Int.tmod a n + n).toNat, by omega, by congr 1; omega⟩
  · rw [if_neg h]
    exact ⟨(Int.tmod a n).toNat, by omega, by congr 1; omega⟩
theorem get_any (w : World) (g gd : Nat) (S Sd : Nat → Prop) (l : List Int) (e on kd N : Int) (h : Two w g gd S Sd l e) (hS : ∀ k, S k → ¬ Sd k) (hl : l.length ≤ 140737488351232) (hb : ∀ x ∈ l, 0 ≤ x ∧ x < 256) (hN : N < 9223372036854775808) :
    Calls Try.prog 38 #[.pointer (some ⟨g, 0, none⟩), .pointer (some ⟨gd, 0, none⟩), .agg #[.int .i64 on, .int .i64 kd, .int .i64 N]] w (GetPost w g gd S Sd l) := by
  obtain ⟨j, hj, hp⟩ := pick_n kd 8 (by omega) (by omega)
  have hsf := PureShort.short_f l hb (by omega) (k := 31) (by omega)
  have hnf := PureNum.num_f l hb (by omega) (k := 201) (by omega)
  have herr := PureShort.sh_err l 0 (by omega) hb
  have hback := PureShort.sh_back 10 l 0 (by omega) (by omega) hb
  have key : ∃ (x s : Int) (n : Nat), octets_short.f 31 l = some (x, (n : Int), s) ∧ latchkeyref02_number.f 201 l = some (x, (n : Int), s) ∧ n ≤ l.length ∧ 0 ≤ x ∧ x < 18446744073709551616 ∧ (s ≠ 0 → x = 0 ∧ n = 0) := by
    generalize PureShort.sh 0 l = q at *
    obtain ⟨x, n, s⟩ := q
    by_cases hs : s = 0
    · subst hs
      obtain ⟨a1, a2, a3, _, a5, a6, a7⟩ := hback rfl
      simp only [] at a1 a2 a3 a5 a6 a7
      subst a5
      exact ⟨x, 0, _, hsf, hnf, a7, a1, by simpa using a3, fun h => absurd rfl h⟩
    · obtain ⟨b1, b2, b3, b4⟩ := herr hs
      simp only [] at b1 b2 b3 b4
      subst b1 b2
      exact ⟨0, s, 0, hsf, hnf, by omega, by omega, by omega, fun _ => ⟨rfl, rfl⟩⟩
  obtain ⟨x, s, n, k1, k2, k3, k4, k5, k6⟩ := key
  rcases (by omega : j = 0 ∨ j = 1 ∨ j = 2 ∨ j = 3 ∨ j = 4 ∨ j = 5 ∨ j = 6 ∨ j = 7) with rfl | rfl | rfl | rfl | rfl | rfl | rfl | rfl
  · exact get_0 0 w g gd S Sd l e on kd N h hS hl hb hp
  · exact get_1 0 w g gd S Sd l e on kd N h hS hl hb hp x s n k1 k2 k3 k4 k5 k6
  · exact get_2 0 w g gd S Sd l e on kd N h hS hl hb hp x s n k1 k2 k3 k4 k5 k6 PureNum.back_f
  · exact get_3 0 w g gd S Sd l e on kd N h hS hl hb hp
  · exact get_4 0 w g gd S Sd l e on kd N h hS hl hb hp x s n k1 k2 k3 k4 k5 k6 hN
  · refine get_5 (l.length + 1) w g gd S Sd l e on kd N h hS hl hb hp (PureForms.same_self _ ?_ ?_)
    · unfold mRaw; repeat' split
      all_goals first | (simp; done) | (simp only [List.length_take]; omega)
    · unfold mRaw; repeat' split
      all_goals first | (simp; done) | (simp only [List.length_take]; omega)
  · exact get_6 0 w g gd S Sd l e on kd N h hS hl hb hp
  · exact get_7 0 w g gd S Sd l e on kd N h hS hl hb hp
theorem C_pre {w : World} {A : Option Addr} {F l : List Int} (h : U8.C w A F.length F) (hl : F.take l.length = l) (hle : l.length ≤ F.length) : U8.C w A l.length l := by
  have := ReadsInt.take_ (k := .u8) (Kd.reads_of_C (d := (0 : Int)) h) l.length hle
  rw [hl] at this
  exact Kd.C_of_reads (enc := Value.int .u8) (d := (0 : Int)) this
/-- The reads, as they lie in memory. -/
def GetsAt (w : World) (A : Option Addr) (n : Nat) (G : Nat → Int × Int × Int) : Prop :=
  ∀ i, i < n → ∃ ad, A = some ad ∧ w.cell? (ad.add (i * 3)) = some (.int .i64 (G i).1) ∧ w.cell? { block := (ad.add (i * 3)).block, off := (ad.add (i * 3)).off + 1 } = some (.int .i64 (G i).2.1) ∧ w.cell? { block := (ad.add (i * 3)).block, off := (ad.add (i * 3)).off + 2 } = some (.int .i64 (G i).2.2)
/-- A row of one's own that isn't empty, by its block. -/
theorem row_block {w : World} {base : Nat} {v : Value} {l : List Int} (h : U8.R 5 w base (fun _ => True) v l) (hl : 0 < l.length) : ∃ g cap cur, v = .slice (some ⟨g, 0, none⟩) l.length cap ∧ base ≤ g ∧ g < w.heap.size ∧ w.heap[g]? = some (.cells cur 5 (0, 0)) ∧ cur.size = cap ∧ l.length ≤ cap ∧ cap ≤ 9223372036854775807 := by
  have ho := Kd.own_of_R h
  rcases ho.2 with ⟨_, hn⟩ | ⟨g, cap, cur, hv, hb, hg, hnc, hcm, hcs, _⟩
  · omega
  · exact ⟨g, cap, cur, hv, hb, blk_lt hg, hg, by omega, hnc, by simpa [maxLen] using hcm⟩
theorem dd_new (W : World) (A : Option Addr) (c : Nat) (l : List Int) (hC : U8.C W A l.length l) (hc : l.length ≤ c) (hA : ∀ ad, A = some ad → ad.block < W.heap.size) :
    DdAt (W.alloc (.cells #[.slice A l.length c, .int .i64 0] 68)) W.heap.size (fun k => k = W.heap.size ∨ ∃ ad, A = some ad ∧ k = ad.block) l 0 := by
  refine ⟨A, c, heap_alloc_new W _, hc, Kd.C_below hC (below_alloc (Below.refl _ _) _), .inl rfl, fun ad he => ⟨by have := hA ad he; omega, .inr ⟨ad, he, rfl⟩⟩⟩
theorem GetsAt.below {w w' : World} {A : Option Addr} {n : Nat} {G : Nat → Int × Int × Int} (h : GetsAt w A n G) (hb : Below w.heap.size w w') : GetsAt w' A n G := by
  intro i hi
  obtain ⟨ad, ha, c0, c1, c2⟩ := h i hi
  exact ⟨ad, ha, (hb.cell (World.block_lt_of_cell? w _ c0)).trans c0, (hb.cell (World.block_lt_of_cell? w _ c1)).trans c1, (hb.cell (World.block_lt_of_cell? w _ c2)).trans c2⟩
theorem Two.fr {w w' : World} {g gd : Nat} {S Sd T : Nat → Prop} {l : List Int} {e : Int} (h : Two w g gd S Sd l e) (hk : Kept w w' T) (h1 : ∀ k, S k → ¬ T k) (h2 : ∀ k, Sd k → ¬ T k) : Two w' g gd S Sd l e := ⟨h.r.fr hk h1, h.d.fr hk h2⟩
theorem Two.below {w w' : World} {g gd : Nat} {S Sd : Nat → Prop} {l : List Int} {e : Int} (h : Two w g gd S Sd l e) (hb : Below w.heap.size w w') : Two w' g gd S Sd l e := ⟨h.r.below hb, h.d.below hb⟩
theorem Two.cells {w : World} {g gd : Nat} {S Sd : Nat → Prop} {l : List Int} {e : Int} (h : Two w g gd S Sd l e) : (∃ A c, w.cell? ⟨gd, 0, none⟩ = some (.slice A l.length c)) ∧ w.cell? ⟨gd, 1, none⟩ = some (.int .i64 e) := by
  obtain ⟨A, c, hd⟩ := h.d
  obtain ⟨⟨hc0, hf0⟩, hc1, hf1⟩ := blk_two hd.1
  exact ⟨⟨A, c, hc0⟩, hc1⟩
/-- Which blocks are whose. -/
structure Parted (w : World) (gr gd gq ge : Nat) (S1 Sd1 S2 Sd2 : Nat → Prop) : Prop where
  a1 : ∀ k, S1 k → ¬ Sd1 k
  a2 : ∀ k, S2 k → ¬ Sd2 k
  b1 : ∀ k, S2 k → ¬ (k = gr ∨ k = gd)
  b2 : ∀ k, Sd2 k → ¬ (k = gr ∨ k = gd)
  c1 : ∀ k, S1 k → ¬ (k = gq ∨ k = ge)
  c2 : ∀ k, Sd1 k → ¬ (k = gq ∨ k = ge)
  o1 : ∀ k, (k = gr ∨ k = gd) → Own w k
  o2 : ∀ k, (k = gq ∨ k = ge) → Own w k
structure ReadsRel (w : World) (gr gd gq ge : Nat) (S1 Sd1 S2 Sd2 : Nat → Prop) (a b : List Int) (w' : World) : Prop where
  one : ∃ la ea, Two w' gr gd S1 Sd1 la ea ∧ la.length ≤ a.length ∧ ∀ x ∈ la, x ∈ a
  two : ∃ lb eb, Two w' gq ge S2 Sd2 lb eb ∧ lb.length ≤ b.length ∧ ∀ x ∈ lb, x ∈ b
  fr : Fr w w' (Own w)
set_option maxHeartbeats 4000000 in
theorem reads_walk (k : Nat) (Aa Ab Al : Option Addr) (ca cb cl n : Nat) (G : Nat → Int × Int × Int) (a b Fa Fb : List Int) (w : World)
    (hra : U8.C w Aa a.length a) (hca : a.length ≤ ca) (hla : a.length ≤ 140737488351232) (hba : ∀ x ∈ a, 0 ≤ x ∧ x < 256) (hAa : ∀ ad, Aa = some ad → ad.block < w.heap.size)
    (hrb : U8.C w Ab b.length b) (hcb : b.length ≤ cb) (hlb : b.length ≤ 140737488351232) (hbb : ∀ x ∈ b, 0 ≤ x ∧ x < 256) (hAb : ∀ ad, Ab = some ad → ad.block < w.heap.size)
    (hG : GetsAt w Al n G) (hGn : n ≤ 9223372036854775807) (hGb : ∀ i, i < n → (G i).2.2 < 9223372036854775808)
    (h1 : OctLent.latchkeykit_LentBytes.f k a = some Fa) (h1' : Fa.take a.length = a ∧ Fa.length = a.length + 24) (h2 : OctLent.latchkeykit_LentBytes.f k b = some Fb) (h2' : Fb.take b.length = b ∧ Fb.length = b.length + 24)
    (h3 : OctKept.latchkeykit_KeptBytes.f k Fa a = some true) (h4 : OctKept.latchkeykit_KeptBytes.f k Fb b = some true) :
    Calls Try.prog 8 #[.slice Aa a.length ca, .slice Ab b.length cb, .slice Al n cl] w fun e w' => e = .returned (.bool true) ∧ Below w.heap.size w w' := by
  have HRA := Aside0.mk hra
  have HCA := Aside0.mk hca
  have HLA := Aside0.mk hla
  have HBA := Aside0.mk hba
  have HAA := Aside0.mk hAa
  have HRB := Aside0.mk hrb
  have HCB := Aside0.mk hcb
  have HLB := Aside0.mk hlb
  have HBB := Aside0.mk hbb
  have HAB := Aside0.mk hAb
  have HG := Aside0.mk hG
  have HGN := Aside0.mk hGn
  have HGB := Aside0.mk hGb
  have H1 := Aside0.mk h1
  have H1' := Aside0.mk h1'
  have H2 := Aside0.mk h2
  have H2' := Aside0.mk h2'
  have H3 := Aside0.mk h3
  have H4 := Aside0.mk h4
  clear hra hca hla hba hAa hrb hcb hlb hbb hAb hG hGn hGb h1 h1' h2 h2' h3 h4
  go_enter Try.func8, Try.ntmps8
  go_wp2_with (first
    | (go_at_call 17; ((with_reducible refine (OctLent.latchkeykit_LentBytes.calls k Aa ca a Fa w HRA.out HCA.out H1.out).mono ?_); rintro e1 w1 ⟨A1, c1, rfl, q1, b1⟩; (obtain ⟨g1, cap1, cur1, hv1, gb1, gl1, hg1, hs1, hc1, hm1⟩ := row_block q1 (by have := H1'.out.2; omega)); (obtain ⟨hA1, hlen1, hcc1⟩ := Value.slice.inj hv1); subst hA1; subst hcc1; have Q1 := Aside0.mk q1; have B1 := Aside0.mk b1; have GB1 := Aside0.mk (And.intro gb1 gl1); have HG1 := Aside0.mk hg1; have HS1 := Aside0.mk (And.intro hs1 (And.intro hc1 hm1)); clear q1 b1 hv1 gb1 gl1 hg1 hs1 hc1 hm1 hlen1))
    | (go_at_call 17; (go_loud (refine (OctLent.latchkeykit_LentBytes.calls k Ab cb b Fb w1 (Kd.C_below HRB.out B1.out) HCB.out H2.out).mono ?_); rintro e2 w2 ⟨A2, c2, rfl, q2, b2⟩; (obtain ⟨g2, cap2, cur2, hv2, gb2, gl2, hg2, hs2, hc2, hm2⟩ := row_block q2 (by have := H2'.out.2; omega)); (obtain ⟨hA2, hlen2, hcc2⟩ := Value.slice.inj hv2); subst hA2; subst hcc2; have Q2 := Aside0.mk q2; have B2 := Aside0.mk b2; have GB2 := Aside0.mk (And.intro gb2 gl2); have HG2 := Aside0.mk hg2; have HS2 := Aside0.mk (And.intro hs2 (And.intro hc2 hm2)); have X1 := Aside0.mk (Kd.C_below (C_pre (Kd.R_reads' Q1.out).2.2 H1'.out.1 (by have := H1'.out.2; omega)) B2.out); have X2 := Aside0.mk (C_pre (Kd.R_reads' Q2.out).2.2 H2'.out.1 (by have := H2'.out.2; omega)); have L1 : a.length ≤ 140737488355328 := (by have := HLA.out; omega); have L2 : b.length ≤ 140737488355328 := (by have := HLB.out; omega); clear q2 b2 hv2 gb2 gl2 hg2 hs2 hc2 hm2 hlen2))
    | (go_at_call 29; ((with_reducible refine (Reader_Read w2 (some ⟨g1, 0, none⟩) a c1 X1.out L1).mono ?_); rintro e3 w3 ⟨gr, rfl, i1, i2, i3⟩; have R3 := Aside0.mk i2; have GR := Aside0.mk i1; have B3 := Aside0.mk i3; clear i1 i2 i3))
    | (go_at_call 29; (go_loud (refine (Reader_Read w3 (some ⟨g2, 0, none⟩) b c2 (Kd.C_below X2.out B3.out) L2).mono ?_); rintro e4 w4 ⟨gq, rfl, i1, i2, i3⟩; have Y1 := Aside0.mk (Kd.C_below (Kd.C_below (Kd.C_below (Kd.R_reads' Q1.out).2.2 B2.out) B3.out) i3); have Y2 := Aside0.mk (Kd.C_below (Kd.C_below (Kd.C_below (Kd.C_below HRA.out B1.out) B2.out) B3.out) i3); have R4 := Aside0.mk i2; have GQ := Aside0.mk i1; have B4 := Aside0.mk i3; clear i1 i2 i3))
    | (go_at_call 19; ((with_reducible refine (OctKept.latchkeykit_KeptBytes.calls k (some ⟨g1, 0, none⟩) c1 Fa Aa ca a true w4 Y1.out (Kd.R_reads' Q1.out).2.1 Y2.out HCA.out H3.out).mono ?_); rintro e5 w5 ⟨rfl, b5⟩; have B5 := Aside0.mk b5; clear b5))
    | (go_at_call 19; (go_loud (refine (OctKept.latchkeykit_KeptBytes.calls k (some ⟨g2, 0, none⟩) c2 Fb Ab cb b true w5 (Kd.C_below (Kd.C_below (Kd.C_below (Kd.R_reads' Q2.out).2.2 B3.out) B4.out) B5.out) (Kd.R_reads' Q2.out).2.1 (Kd.C_below (Kd.C_below (Kd.C_below (Kd.C_below (Kd.C_below HRB.out B1.out) B2.out) B3.out) B4.out) B5.out) HCB.out H4.out).mono ?_); rintro e6 w6 ⟨rfl, b6⟩; have B6 := Aside0.mk b6; (have BB1 := below_step (below_step (below_step (below_step B2.out B3.out) B4.out) B5.out) b6); (have BB2 := below_step (below_step (below_step B3.out B4.out) B5.out) b6); have K1 := Aside0.mk ((BB1.block g1 GB1.out.2).trans HG1.out); have K2 := Aside0.mk ((BB2.block g2 GB2.out.2).trans HG2.out); have R3b := Aside0.mk (R3.out.below (below_step (below_step B4.out B5.out) b6)); have R4b := Aside0.mk (R4.out.below (below_step B5.out b6)); have BW := Aside0.mk (below_step B1.out BB1); have Z6 : Aside0 (g2 < w6.heap.size ∧ g2 ≠ g1) := ⟨Nat.lt_of_lt_of_le GB2.out.2 BB2.size, by have := GB1.out.2; have := GB2.out.1; omega⟩; have N1 : Aside0 (a.length + 24 ≤ c1) := ⟨by have := HS1.out.2.1; have := H1'.out.2; omega⟩; have N2 : Aside0 (b.length + 24 ≤ c2) := ⟨by have := HS2.out.2.1; have := H2'.out.2; omega⟩; clear b6 BB1 BB2))
    | (go_at_call 20; ((with_reducible refine (Over_calls w6 g1 c1 a.length cur1 K1.out HS1.out.1 N1.out HS1.out.2.2).mono ?_); rintro e7 w7 ⟨rfl, f7⟩; have F7 := Aside0.mk f7; have K3 := Aside0.mk ((f7.2.2 g2 Z6.out.1 Z6.out.2).trans K2.out); clear f7))
    | (go_at_call 20; (go_loud (refine (Over_calls w7 g2 c2 b.length cur2 K3.out HS2.out.1 N2.out HS2.out.2.2).mono ?_); rintro e8 w8 ⟨rfl, f8⟩; (have FT : Fr w6 w8 (fun k => k = g1 ∨ k = g2) := ⟨⟨f8.1.os.trans F7.out.1.os, f8.1.tape.trans F7.out.1.tape, f8.1.output.trans F7.out.1.output, Nat.le_trans F7.out.1.size f8.1.size, fun k hk => absurd hk (by omega)⟩, (F7.out.2.mono (fun k hk => .inl hk)).then_ f8.2 (fun k hk => .inl (.inr hk))⟩); have Z8 : Aside0 (w6.heap.size ≤ w8.heap.size) := ⟨FT.1.size⟩; have R3c := Aside0.mk (R3b.out.fr FT.2 (fun k hk e_ => by have u1 := GB1.out.2; have u2 := GB2.out.2; have u3 := B2.out.size; have u4 := hk.1; omega)); have R4c := Aside0.mk (R4b.out.fr FT.2 (fun k hk e_ => by have u1 := GB1.out.2; have u2 := GB2.out.2; have u3 := B2.out.size; have u5 := B3.out.size; have u4 := hk.1; omega)); have XA := Aside0.mk (C_kept (Kd.C_below HRA.out BW.out) FT.2 (fun ad ha e_ => by have u1 := HAA.out ad ha; have u2 := GB1.out.1; have u3 := GB2.out.1; have u4 := B1.out.size; omega)); have XB := Aside0.mk (C_kept (Kd.C_below HRB.out BW.out) FT.2 (fun ad ha e_ => by have u1 := HAB.out ad ha; have u2 := GB1.out.1; have u3 := GB2.out.1; have u4 := B1.out.size; omega)); have F8 := Aside0.mk ((Fr.of_below BW.out (Own w)).own FT (fun k hk => by have u2 := GB1.out.1; have u3 := GB2.out.1; have u4 := B1.out.size; show w.heap.size ≤ k; omega)); clear f8 FT)))
  have key : ∃ S1 Sd1 S2 Sd2 : Nat → Prop, Parted w gr w8.heap.size gq (w8.heap.size + 1) S1 Sd1 S2 Sd2 ∧ ReadsRel w gr w8.heap.size gq (w8.heap.size + 1) S1 Sd1 S2 Sd2 a b ((w8.alloc (.cells #[.slice Aa a.length ca, .int .i64 0] 68)).alloc (.cells #[.slice Ab b.length cb, .int .i64 0] 68)) := by
    have z1 := B1.out.size
    have z2 := B2.out.size
    have z3 := B3.out.size
    have z4 := B4.out.size
    have z5 := B5.out.size
    have z6 : w4.heap.size ≤ w8.heap.size := by
      have h := Z8.out
      have h3 := B6.out.size
      omega
    have gr1 : w2.heap.size ≤ gr ∧ gr < w3.heap.size := by obtain ⟨_, _, _, _, _, h, _⟩ := R3c.out; exact h
    have gq1 : w3.heap.size ≤ gq ∧ gq < w4.heap.size := by obtain ⟨_, _, _, _, _, h, _⟩ := R4c.out; exact h
    have hal : Below w8.heap.size w8 (w8.alloc (.cells #[.slice Aa a.length ca, .int .i64 0] 68)) := below_alloc (Below.refl _ _) _
    have hsz : (w8.alloc (.cells #[.slice Aa a.length ca, .int .i64 0] 68)).heap.size = w8.heap.size + 1 := by show (Array.push _ _).size = _; rw [Array.size_push]
    have hal2 := below_step hal (below_alloc (Below.refl _ _) (.cells #[.slice Ab b.length cb, .int .i64 0] 68))
    have d1 := (dd_new w8 Aa ca a XA.out HCA.out (fun ad ha => by have := HAA.out ad ha; omega)).below (below_alloc (Below.refl _ _) (.cells #[.slice Ab b.length cb, .int .i64 0] 68))
    have d2 := dd_new (w8.alloc (.cells #[.slice Aa a.length ca, .int .i64 0] 68)) Ab cb b (Kd.C_below XB.out hal) HCB.out (fun ad ha => by have := HAB.out ad ha; omega)
    rw [hsz] at d2
    refine ⟨_, _, _, _, ⟨?_, ?_, ?_, ?_, ?_, ?_, ?_, ?_⟩, ⟨⟨a, 0, ⟨R3c.out.below hal2, d1⟩, Nat.le_refl _, fun _ h => h⟩, ⟨b, 0, ⟨R4c.out.below hal2, d2⟩, Nat.le_refl _, fun _ h => h⟩, F8.out.own (Fr.of_below hal2 (fun _ => False)) (fun _ h => h.elim)⟩⟩
    · rintro k ⟨k1, k2⟩ (k3 | ⟨ad, ha, k3⟩)
      · omega
      · have := HAA.out ad ha; omega
    · rintro k ⟨k1, k2⟩ (k3 | ⟨ad, ha, k3⟩)
      · omega
      · have := HAB.out ad ha; omega
    · rintro k ⟨k1, k2⟩ (k3 | k3) <;> omega
    · rintro k (k3 | ⟨ad, ha, k3⟩) (k4 | k4)
      · omega
      · omega
      · have := HAB.out ad ha; omega
      · have := HAB.out ad ha; omega
    · rintro k ⟨k1, k2⟩ (k3 | k3) <;> omega
    · rintro k (k3 | ⟨ad, ha, k3⟩) (k4 | k4)
      · omega
      · omega
      · have := HAA.out ad ha; omega
      · have := HAA.out ad ha; omega
    · rintro k (k3 | k3) <;> (show w.heap.size ≤ k; omega)
    · rintro k (k3 | k3) <;> (show w.heap.size ≤ k; omega)
  obtain ⟨S1, Sd1, S2, Sd2, hpart, hrel0⟩ := key
  obtain ⟨ge, hge⟩ : ∃ ge, ge = w8.heap.size + 1 := ⟨_, rfl⟩
  rw [← hge] at hpart hrel0 ⊢
  clear hge
  obtain ⟨gd, hgd⟩ : ∃ gd, gd = w8.heap.size := ⟨_, rfl⟩
  rw [← hgd] at hpart hrel0 ⊢
  clear hgd
  have HP := Aside0.mk hpart
  have HR0 := Aside0.mk hrel0
  clear hpart hrel0
  go_loopg [13] (n + 1) (fun kq v13 w' => ∃ j : Nat, v13 = .int .i64 (j : Int) ∧ Aside0 (kq + j = n + 1) ∧ Aside0 (j ≤ n) ∧ Aside0 (ReadsRel w gr gd gq ge S1 Sd1 S2 Sd2 a b w'))
  case atStart => exact ⟨0, rfl, ⟨rfl⟩, ⟨Nat.zero_le _⟩, HR0⟩
  case round =>
    clear HR0
    obtain ⟨j, rfl, HK, HJ, HR⟩ := hrel
    cases gk with
    | zero => exact absurd HK.out (by have := HJ.out; omega)
    | succ k1 =>
      by_cases hlt : j < n
      · obtain ⟨ad, rfl, c0, c1, c2⟩ := HG.out j hlt
        obtain ⟨⟨la, ea, T1, t1, t2⟩, ⟨lb, eb, T2, t3, t4⟩, hfr⟩ := HR.out
        have q0 := (hfr.low.cell (World.block_lt_of_cell? w _ c0)).trans c0
        have q1 := (hfr.low.cell (World.block_lt_of_cell? w _ c1)).trans c1
        have q2 := (hfr.low.cell (World.block_lt_of_cell? w _ c2)).trans c2
        obtain ⟨jp, hjp, hpk⟩ := pick_n (G j).1 2 (by omega) (by omega)
        have HPK := Aside0.mk hpk
        have HT1 := Aside0.mk T1
        have HT2 := Aside0.mk T2
        have HF := Aside0.mk hfr
        have HS1 := Aside0.mk (And.intro t1 t2)
        have HS2 := Aside0.mk (And.intro t3 t4)
        have C0 := Aside0.mk c0
        have C1 := Aside0.mk c1
        have C2 := Aside0.mk c2
        have hji : (0 : Int) ≤ (j : Int) := by omega
        have hjm : (j : Int) < (n : Int) := by omega
        have hw3 : wrap64 ((j : Int) + 1) = ((j + 1 : Nat) : Int) := by have := HGN.out; unfold wrap64; omega
        have HW3 := Aside0.mk hw3
        clear hpk T1 T2 hfr t1 t2 t3 t4 hw3 c0 c1 c2
        rcases (by omega : jp = 0 ∨ jp = 1) with rfl | rfl
        · go_wp2_with (go_at_call 15; go_loud (refine (latchkeykit_Pick.calls (G j).1 2 0 _ HPK.out).mono ?_); rintro e4 w4 ⟨rfl, ⟨m0, rfl⟩⟩)
          go_region_with (first | (go_at_call 38; go_loud (refine (get_any _ gr gd S1 Sd1 la ea (G j).1 (G j).2.1 (G j).2.2 (HT1.out.below (dn_below _ _)) HP.out.a1 (by have := HS1.out.1; have := HLA.out; omega) (fun x hx => HBA.out x (HS1.out.2 x hx)) (HGB.out j hlt)).mono ?_); rintro e5 w5 ⟨rfl, ⟨l2, e2, T5, t5, t6⟩, f5⟩; have F6 := Aside0.mk ((HF.out.own (Fr.drewN _ _ (fun _ => False)) (fun _ h => h.elim)).own f5 HP.out.o1); have U6 := Aside0.mk ((HT2.out.below (dn_below _ _)).fr f5.2 HP.out.b1 HP.out.b2); have T6 := Aside0.mk T5; have S6 := Aside0.mk (And.intro t5 t6); (have z0 := (F6.out.low.cell (World.block_lt_of_cell? w _ C0.out)).trans C0.out); (have z1 := (F6.out.low.cell (World.block_lt_of_cell? w _ C1.out)).trans C1.out); (have z2 := (F6.out.low.cell (World.block_lt_of_cell? w _ C2.out)).trans C2.out); (have zE := T5.cells.2); clear T5 t5 t6 f5) | (go_at_call 36; go_loud (refine (Reader_Err _ gr l2 e2 (by first | exact T6.out.r | exact T6.out.r.below (dr_below _) | exact T6.out.r.below (dn_below _ _))).mono ?_); rintro e7 w7 ⟨rfl, rfl⟩))
          all_goals (go_wp2; go_roundg k1; (case measure => omega); (case rel => exact ⟨j + 1, by first | rfl | (rw [← HW3.out]), ⟨by have := HK.out; omega⟩, ⟨by omega⟩, ⟨by first | exact ⟨⟨_, _, T6.out, Nat.le_trans S6.out.1 HS1.out.1, fun x h => HS1.out.2 x (S6.out.2 x h)⟩, ⟨_, _, U6.out, HS2.out⟩, F6.out⟩ | exact ⟨⟨_, _, T6.out.below (dr_below _), Nat.le_trans S6.out.1 HS1.out.1, fun x h => HS1.out.2 x (S6.out.2 x h)⟩, ⟨_, _, U6.out.below (dr_below _), HS2.out⟩, (F6.out.own (Fr.of_below (dr_below _) (fun _ => False)) (fun _ h => h.elim))⟩⟩⟩))
        · go_wp2_with (go_at_call 15; go_loud (refine (latchkeykit_Pick.calls (G j).1 2 1 _ HPK.out).mono ?_); rintro e4 w4 ⟨rfl, ⟨m0, rfl⟩⟩)
          go_region_with (first | (go_at_call 38; go_loud (refine (get_any _ gq ge S2 Sd2 lb eb (G j).1 (G j).2.1 (G j).2.2 (HT2.out.below (dn_below _ _)) HP.out.a2 (by have := HS2.out.1; have := HLB.out; omega) (fun x hx => HBB.out x (HS2.out.2 x hx)) (HGB.out j hlt)).mono ?_); rintro e5 w5 ⟨rfl, ⟨l2, e2, T5, t5, t6⟩, f5⟩; have F6 := Aside0.mk ((HF.out.own (Fr.drewN _ _ (fun _ => False)) (fun _ h => h.elim)).own f5 HP.out.o2); have U6 := Aside0.mk ((HT1.out.below (dn_below _ _)).fr f5.2 HP.out.c1 HP.out.c2); have T6 := Aside0.mk T5; have S6 := Aside0.mk (And.intro t5 t6); (have z0 := (F6.out.low.cell (World.block_lt_of_cell? w _ C0.out)).trans C0.out); (have z1 := (F6.out.low.cell (World.block_lt_of_cell? w _ C1.out)).trans C1.out); (have z2 := (F6.out.low.cell (World.block_lt_of_cell? w _ C2.out)).trans C2.out); (have zE := T5.cells.2); clear T5 t5 t6 f5) | (go_at_call 36; go_loud (refine (Reader_Err _ gq l2 e2 (by first | exact T6.out.r | exact T6.out.r.below (dr_below _) | exact T6.out.r.below (dn_below _ _))).mono ?_); rintro e7 w7 ⟨rfl, rfl⟩))
          all_goals (go_wp2; go_roundg k1; (case measure => omega); (case rel => exact ⟨j + 1, by first | rfl | (rw [← HW3.out]), ⟨by have := HK.out; omega⟩, ⟨by omega⟩, ⟨by first | exact ⟨⟨_, _, U6.out, HS1.out⟩, ⟨_, _, T6.out, Nat.le_trans S6.out.1 HS2.out.1, fun x h => HS2.out.2 x (S6.out.2 x h)⟩, F6.out⟩ | exact ⟨⟨_, _, U6.out.below (dr_below _), HS1.out⟩, ⟨_, _, T6.out.below (dr_below _), Nat.le_trans S6.out.1 HS2.out.1, fun x h => HS2.out.2 x (S6.out.2 x h)⟩, (F6.out.own (Fr.of_below (dr_below _) (fun _ => False)) (fun _ h => h.elim))⟩⟩⟩))
      · obtain ⟨⟨la, ea, T1, t1, t2⟩, ⟨lb, eb, T2, t3, t4⟩, hfr⟩ := HR.out
        obtain ⟨⟨Ad, cd, y0⟩, y1⟩ := T1.cells
        obtain ⟨⟨Ae, ce, y2⟩, y3⟩ := T2.cells
        have HT1 := Aside0.mk T1
        have HT2 := Aside0.mk T2
        have HF := Aside0.mk hfr
        have hjn : j = n := by have := HJ.out; omega
        have hd : decide ((j : Int) < (n : Int)) = false := decide_eq_false (by omega)
        clear T1 T2 hfr t1 t2 t3 t4 hjn
        go_wp2
        go_region_held3 (fun W => W.cell? ⟨gd, 0, none⟩ = some (.slice Ad la.length cd) ∧ W.cell? ⟨ge, 0, none⟩ = some (.slice Ae lb.length ce)) (first | go_keep | exact ⟨y0, y2⟩ | exact ⟨u0, u2⟩) (first | (go_at_call 37; ((with_reducible refine (Reader_Left _ gr la ea (by first | exact HT1.out.r | exact HT1.out.r.below (dr_below _) | exact HT1.out.r.below (dn_below _ _))).mono ?_); rintro e7 w7 ⟨rfl, rfl⟩)) | (go_at_call 37; ((with_reducible refine (Reader_Left _ gq lb eb (by first | exact HT2.out.r | exact HT2.out.r.below (dr_below _) | exact HT2.out.r.below (dn_below _ _))).mono ?_); rintro e7 w7 ⟨rfl, rfl⟩)) | (go_at_call 39; ((with_reducible refine (Reader_End _ gr la ea (by first | exact HT1.out.r | exact HT1.out.r.below (dr_below _) | exact HT1.out.r.below (dn_below _ _))).mono ?_); rintro e7 w7 ⟨rfl, rfl⟩)) | (go_at_call 39; ((with_reducible refine (Reader_End _ gq lb eb (by first | exact HT2.out.r | exact HT2.out.r.below (dr_below _) | exact HT2.out.r.below (dn_below _ _))).mono ?_); rintro e7 w7 ⟨rfl, rfl⟩)) | (go_at_call 40; ((with_reducible refine (ref_End _ gd la ea (by first | exact HT1.out.d | exact HT1.out.d.below (dr_below _) | exact HT1.out.d.below (dn_below _ _))).mono ?_); rintro e7 w7 ⟨rfl, rfl⟩)) | (go_at_call 40; ((with_reducible refine (ref_End _ ge lb eb (by first | exact HT2.out.d | exact HT2.out.d.below (dr_below _) | exact HT2.out.d.below (dn_below _ _))).mono ?_); rintro e7 w7 ⟨rfl, rfl⟩)) | (go_at_call 12; go_loud (refine (awake_calls _).mono ?_); rintro e10 w10 ⟨rfl, b10⟩; have B10 := Aside0.mk b10; (have u0 := (b10.cell (p := ⟨gd, 0, none⟩) (World.block_lt_of_cell? _ _ y0)).trans y0); (have u2 := (b10.cell (p := ⟨ge, 0, none⟩) (World.block_lt_of_cell? _ _ y2)).trans y2); clear b10))
        go_wp2
        all_goals go_ret
        all_goals exact ⟨by first | rfl | (simp; done), (by first | exact (HF.out.own (Fr.of_below B10.out (fun _ => False)) (fun _ h => h.elim)).low | exact ((HF.out.own (Fr.of_below (dr_below _) (fun _ => False)) (fun _ h => h.elim)).own (Fr.of_below B10.out (fun _ => False)) (fun _ h => h.elim)).low)⟩
end Go.Proofs.Ytkjkmaopifmghaa.Oct
