/- The program's BroadcastMask answers what the reference's answers, for all arguments. -/
import Derived.Test.YtoihdhhecchjbaaGxPFnExactBroadcastMask
import Derived.Test.YtoihdhhecchjbaaPureBroadcast
namespace Go.Proofs.Ytoihdhhecchjbaa.Pure
open Go.RowKit Go.Proofs.Ytoihdhhecchjbaa.P Go.Proofs.YtoihdhhecchjbaaW.PrintWords Go.Proofs.YtoihdhhecchjbaaW.PrintLast

theorem FnExactBroadcastMask : laws_FnExactBroadcastMask.Pure := by
  intro l m lane _ _ _ _ _
  refine ⟨l.length + 60, ?_⟩
  unfold laws_FnExactBroadcastMask.f
  by_cases hb : (l.length : Int) > 1048576
  · rw [if_pos hb]
  · rw [if_neg hb]
    have hl : l.length ≤ 1048576 := by omega
    simp only [toIntS_eq l hl (l.length + 60) (by omega), Option.bind_some, spec_BroadcastMask_is l m lane hl (l.length + 60) (by omega), impl_BroadcastMask_is l m lane (l.length + 60) (by omega), eqIntS_refl l (by omega) (l.length + 60) (by omega), if_true]

end Go.Proofs.Ytoihdhhecchjbaa.Pure
