/- The program's SortStage answers what the reference's answers, for all numbers. -/
import Derived.Test.YtfeadincafegcaaGxPFnExactSortStage
namespace Go.Proofs.Ytfeadincafegcaa.Pure
open Go.RowKit Go.Proofs.Ytfeadincafegcaa.P Go.Proofs.YtfeadincafegcaaW.PrintWords Go.Proofs.YtfeadincafegcaaW.PrintLast

theorem FnExactSortStage : laws_FnExactSortStage.Pure := by
  intro s _
  refine ⟨20, ?_⟩
  by_cases hs : 0 ≤ s ∧ s ≤ 5
  · have h1 : s = 0 ∨ s = 1 ∨ s = 2 ∨ s = 3 ∨ s = 4 ∨ s = 5 := by omega
    rcases h1 with e | e | e | e | e | e <;> subst e <;> decide +kernel
  · have e1 : spec_l01In.f s 0 5 = some false := by
      unfold spec_l01In.f
      by_cases h0 : s ≥ 0
      · rw [if_pos h0, show decide (s ≤ 5) = false from decide_eq_false (by omega)]
      · rw [if_neg h0]
    have e2 : spec_SortStage.f 20 s = some [] := by
      unfold spec_SortStage.f
      rw [Option.bind_some, e1, Option.bind_some]
      rfl
    have e3 : impl_SortStage.f s = some [] := by
      unfold impl_SortStage.f stageL
      simp only [show ¬ s = 0 by omega, show ¬ s = 1 by omega, show ¬ s = 2 by omega, show ¬ s = 3 by omega, show ¬ s = 4 by omega, show ¬ s = 5 by omega, if_false]
    unfold laws_FnExactSortStage.f
    rw [e2, e3]
    decide +kernel

end Go.Proofs.Ytfeadincafegcaa.Pure
