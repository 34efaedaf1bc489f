/- All six stages. -/
import Derived.Test.YtfeadincafegcaaGxImpl24
import Derived.Test.YtfeadincafegcaaPureNet
namespace Go.Proofs.Ytfeadincafegcaa.Pure
open Go.RowKit Go.Proofs.Ytfeadincafegcaa.P Go.Proofs.YtfeadincafegcaaW.PrintWords Go.Proofs.YtfeadincafegcaaW.PrintLast Go.Proofs.YtfeadincafegcaaW.PrintMore

theorem impl_SortValues_is (l : List Int) : impl_SortValues.f l = some (sortL l) := by
  unfold impl_SortValues.f
  rw [← sort_six]
  simp only [restS, impl_ApplyStage_is, Option.bind_some]
  rfl

end Go.Proofs.Ytfeadincafegcaa.Pure
