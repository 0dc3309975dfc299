/- Writer.Real; a Reader where other blocks turn. -/
import Derived.Test.YtkjkmaopifmghaaOctN
namespace Go.Proofs.Ytkjkmaopifmghaa.Oct
open Go.RowKit Go.Proofs.YtkjkmaopifmghaaW.PrintWords Go.Proofs.YtkjkmaopifmghaaW.PrintLast Go.Proofs.YtkjkmaopifmghaaW.PrintMore Go.Proofs.Ytkjkmaopifmghaa.OctShort
set_option linter.unusedVariables false
set_option linter.unusedSimpArgs false
set_option maxRecDepth 100000
theorem C_kept {w w' : World} {A : Option Addr} {n : Nat} {l : List Int} {T : Nat → Prop} (h : U8.C w A n l) (hk : Kept w w' T) (hn : ∀ ad, A = some ad → ¬ T ad.block) : U8.C w' A n l := by
  obtain ⟨h1, h2, h3⟩ := Kd.reads_of_C (d := (0 : Int)) h
  refine Kd.C_of_reads (enc := Value.int .u8) (d := (0 : Int)) ⟨h1, h2, fun hp => ?_⟩
  obtain ⟨ad, rfl, hc⟩ := h3 hp
  refine ⟨ad, rfl, fun j hj => ?_⟩
  have hlt : ad.block < w.heap.size := by
    have h := hc j hj
    rcases Nat.lt_or_ge ad.block w.heap.size with hh | hh
    · exact hh
    · simp [World.cell?, block_addO, hh] at h
  rw [World.cell?_of_block (w := w) (w' := w') (by rw [block_addO]; exact hk.2 ad.block hlt (hn ad rfl))]
  exact hc j hj
theorem RdAt.fr {w w' : World} {g : Nat} {S T : Nat → Prop} {l : List Int} {e : Int} (h : RdAt w g S l e) (hk : Kept w w' T) (hn : ∀ k, S k → ¬ T k) : RdAt w' g S l e := by
  obtain ⟨A, c, h1, h2, h3, h4, h5⟩ := h
  exact ⟨A, c, blk_kept h1 hk (hn g h4), h2, C_kept h3 hk (fun ad he => hn _ (h5 ad he).2), h4, h5⟩
theorem RdAt.below {w w' : World} {g : Nat} {S : Nat → Prop} {l : List Int} {e : Int} (h : RdAt w g S l e) (hb : Below w.heap.size w w') : RdAt w' g S l e := by
  obtain ⟨A, c, h⟩ := h
  exact ⟨A, c, h.below hb⟩
theorem RdAt.mono {w : World} {g : Nat} {S T : Nat → Prop} {l : List Int} {e : Int} (h : RdAt w g S l e) (hs : ∀ k, S k → T k) : RdAt w g T l e := by
  obtain ⟨A, c, h1, h2, h3, h4, h5⟩ := h
  exact ⟨A, c, h1, h2, h3, hs _ h4, fun ad he => ⟨(h5 ad he).1, hs _ (h5 ad he).2⟩⟩
def quad (k : Int) : List Int := [k / 16777216 % 256, k / 65536 % 256, k / 256 % 256, k % 256]
set_option maxHeartbeats 4000000 in
theorem Writer_Real (w : World) (g : Nat) (S : Nat → Prop) (l : List Int) (b : Nat) (hb : b < 4294967296) (h : WrAt w g S l) (hm : l.length + 4 ≤ 140737488355328) :
    Calls Try.prog 34 #[.pointer (some ⟨g, 0, none⟩), .float .f32 b] w fun e w' => e = .returned (.tuple #[]) ∧ WrAt w' g (fun k => S k ∨ w.heap.size ≤ k) (l ++ quad (keyB b)) ∧ Fr w w' S := by
  have H := Aside0.mk h
  have HM := Aside0.mk hm
  have HB := Aside0.mk hb
  clear h hm hb
  go_enter Try.func34, Try.ntmps34
  go_wp2_with (first | (go_at_call 59; go_loud (refine (key_calls b _ HB.out).mono ?_); rintro e w1 ⟨rfl, rfl⟩) | (go_at_call 56; go_loud (refine (put_new w1 g S l (quad (keyB b)) H.out (by have := HM.out; simp only [quad, List.length_cons, List.length_nil]; omega)).mono ?_); rintro e w2 ⟨rfl, h1, h2⟩; have H1 := Aside0.mk h1; have H2 := Aside0.mk h2; clear h1 h2))
  (try simp only [Exit.inBlock, Exit.then])
  refine ⟨rfl, _, res0 rfl _ _ _, ?_⟩
  exact ⟨rfl, H1.out, H2.out⟩
end Go.Proofs.Ytkjkmaopifmghaa.Oct
