/- The program's IsSorted answers what the reference's answers, for all lists. -/
import Derived.Test.YtoihdhhecchjbaaGxPFnExactIsSorted
import Derived.Test.YtoihdhhecchjbaaPureSorted
namespace Go.Proofs.Ytoihdhhecchjbaa.Pure
open Go.RowKit Go.Proofs.Ytoihdhhecchjbaa.P Go.Proofs.YtoihdhhecchjbaaW.PrintWords Go.Proofs.YtoihdhhecchjbaaW.PrintLast

theorem FnExactIsSorted : laws_FnExactIsSorted.Pure := by
  intro l _ _ _
  refine ⟨l.length + 2, ?_⟩
  unfold laws_FnExactIsSorted.f
  by_cases hb : (l.length : Int) > 1048576
  · rw [if_pos hb]
  · rw [if_neg hb]
    have hl : l.length ≤ 1048576 := by omega
    rw [toIntS_eq l hl _ (by omega)]
    simp only [Option.bind_some]
    by_cases hs : Ascends l
    · rw [spec_IsSorted_yes l hl hs _ (by omega), impl_IsSorted_yes l hl hs _ (by omega)]
      simp only [Option.bind_some]
      rw [eqIntS_refl l (by omega) _ (by omega)]
      rfl
    · rw [spec_IsSorted_no l hl hs _ (by omega), impl_IsSorted_no l hl hs _ (by omega)]
      simp only [Option.bind_some]
      rw [eqIntS_refl l (by omega) _ (by omega)]
      rfl

end Go.Proofs.Ytoihdhhecchjbaa.Pure
