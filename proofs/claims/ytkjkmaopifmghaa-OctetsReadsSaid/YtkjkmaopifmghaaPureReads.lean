/- OctetsReads: the walk with what the lent rows are. -/
import Derived.Test.YtkjkmaopifmghaaOctReads
namespace Go.Proofs.Ytkjkmaopifmghaa.PureReads
open Go.RowKit Go.Proofs.YtkjkmaopifmghaaW.PrintWords Go.Proofs.YtkjkmaopifmghaaW.PrintLast Go.Proofs.YtkjkmaopifmghaaW.PrintMore Go.Proofs.Ytkjkmaopifmghaa.Oct
theorem reads_all (Aa Ab Al : Option Addr) (ca cb cl n : Nat) (G : Nat → Int × Int × Int) (a b : List Int) (w : World)
    (hra : U8.C w Aa a.length a) (hca : a.length ≤ ca) (hla : a.length ≤ 140737488351232) (hba : ∀ x ∈ a, 0 ≤ x ∧ x < 256) (hAa : ∀ ad, Aa = some ad → ad.block < w.heap.size)
    (hrb : U8.C w Ab b.length b) (hcb : b.length ≤ cb) (hlb : b.length ≤ 140737488351232) (hbb : ∀ x ∈ b, 0 ≤ x ∧ x < 256) (hAb : ∀ ad, Ab = some ad → ad.block < w.heap.size)
    (hG : GetsAt w Al n G) (hGn : n ≤ 9223372036854775807) (hGb : ∀ i, i < n → (G i).2.2 < 9223372036854775808) :
    Calls Try.prog 8 #[.slice Aa a.length ca, .slice Ab b.length cb, .slice Al n cl] w fun e w' => e = .returned (.bool true) ∧ Below w.heap.size w w' :=
  have hm := PureLent.marks_len 24
  reads_walk (a.length + b.length + 60) Aa Ab Al ca cb cl n G a b (a ++ PureLent.marksTo 24) (b ++ PureLent.marksTo 24) w hra hca hla hba hAa hrb hcb hlb hbb hAb hG hGn hGb
    (PureLent.lent_f a hla (by omega)) ⟨by simp, by rw [List.length_append, hm]⟩ (PureLent.lent_f b hlb (by omega)) ⟨by simp, by rw [List.length_append, hm]⟩ (PureLent.kept_f a hla (by omega)) (PureLent.kept_f b hlb (by omega))
end Go.Proofs.Ytkjkmaopifmghaa.PureReads
