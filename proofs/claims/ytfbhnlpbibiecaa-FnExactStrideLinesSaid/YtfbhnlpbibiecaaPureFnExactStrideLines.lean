/- The program's StrideLines answers what the reference's answers, for all arguments. -/
import Derived.Test.YtfbhnlpbibiecaaGxPFnExactStrideLines
import Derived.Test.YtfbhnlpbibiecaaPureLinesOf
namespace Go.Proofs.Ytfbhnlpbibiecaa.Pure
open Go.RowKit Go.Proofs.Ytfbhnlpbibiecaa.P Go.Proofs.YtfbhnlpbibiecaaW.PrintWords Go.Proofs.YtfbhnlpbibiecaaW.PrintLast

theorem FnExactStrideLines : laws_FnExactStrideLines.Pure := by
  intro a0 a1 _ _
  obtain ⟨k0, hk0⟩ : ∃ k0 : Nat, 60 ≤ k0 := ⟨60, by omega⟩
  refine ⟨k0, ?_⟩
  obtain ⟨r, h1, h2⟩ := strideLines_is a0 a1 k0 hk0
  unfold laws_FnExactStrideLines.f
  rw [h2]
  simp only [Option.bind_some]
  rw [h1]
  simp only [Option.bind_some, if_true]

end Go.Proofs.Ytfbhnlpbibiecaa.Pure
