/- The program's LineUse answers what the reference's answers, for all arguments. -/
import Derived.Test.YtfeadincafegcaaGxPFnExactLineUse
import Derived.Test.YtfeadincafegcaaPureLineUse
namespace Go.Proofs.Ytfeadincafegcaa.Pure
open Go.RowKit Go.Proofs.Ytfeadincafegcaa.P Go.Proofs.YtfeadincafegcaaW.PrintWords Go.Proofs.YtfeadincafegcaaW.PrintLast

theorem FnExactLineUse : laws_FnExactLineUse.Pure := by
  intro l m _ _ _ _
  refine ⟨l.length + 60, ?_⟩
  unfold laws_FnExactLineUse.f
  by_cases hb : (l.length : Int) > 1048576
  · rw [if_pos hb]
  · rw [if_neg hb]
    have hl : l.length ≤ 1048576 := by omega
    simp only [toIntS_eq l hl (l.length + 60) (by omega), Option.bind_some, spec_LineUse_is l m hl (l.length + 60) (by omega), impl_LineUse_is l m (l.length + 60) (by omega), eqIntS_refl l (by omega) (l.length + 60) (by omega), if_true]

end Go.Proofs.Ytfeadincafegcaa.Pure
