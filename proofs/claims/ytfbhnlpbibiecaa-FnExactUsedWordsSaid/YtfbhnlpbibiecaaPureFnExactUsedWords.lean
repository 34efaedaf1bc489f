/- The program's UsedWords answers what the reference's answers, for all arguments. -/
import Derived.Test.YtfbhnlpbibiecaaGxPFnExactUsedWords
import Derived.Test.YtfbhnlpbibiecaaPureLinesOf
namespace Go.Proofs.Ytfbhnlpbibiecaa.Pure
open Go.RowKit Go.Proofs.Ytfbhnlpbibiecaa.P Go.Proofs.YtfbhnlpbibiecaaW.PrintWords Go.Proofs.YtfbhnlpbibiecaaW.PrintLast

theorem FnExactUsedWords : laws_FnExactUsedWords.Pure := by
  intro l m _ _ _ _
  refine ⟨l.length + 60, ?_⟩
  unfold laws_FnExactUsedWords.f
  by_cases hb : (l.length : Int) > 1048576
  · rw [if_pos hb]
  · rw [if_neg hb]
    have hl : l.length ≤ 1048576 := by omega
    simp only [toIntS_eq l hl (l.length + 60) (by omega), Option.bind_some, spec_UsedWords_is l m hl (l.length + 60) (by omega), impl_UsedWords_is l m (l.length + 60) (by omega), eqIntS_refl l (by omega) (l.length + 60) (by omega), if_true]

end Go.Proofs.Ytfbhnlpbibiecaa.Pure
