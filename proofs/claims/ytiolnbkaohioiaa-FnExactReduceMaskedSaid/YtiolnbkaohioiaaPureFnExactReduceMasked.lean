/- The program's ReduceMasked answers what the reference's answers, for all arguments. -/
import Derived.Test.YtiolnbkaohioiaaGxPFnExactReduceMasked
import Derived.Test.YtiolnbkaohioiaaPureReduceMasked
namespace Go.Proofs.Ytiolnbkaohioiaa.Pure
open Go.RowKit Go.Proofs.Ytiolnbkaohioiaa.P Go.Proofs.YtiolnbkaohioiaaW.PrintWords Go.Proofs.YtiolnbkaohioiaaW.PrintLast

theorem FnExactReduceMasked : laws_FnExactReduceMasked.Pure := by
  intro op l m _ _ _ _ _
  refine ⟨l.length + 60, ?_⟩
  unfold laws_FnExactReduceMasked.f
  by_cases hb : (l.length : Int) > 1048576
  · rw [if_pos hb]
  · rw [if_neg hb]
    have hl : l.length ≤ 1048576 := by omega
    simp only [toIntS_eq l hl (l.length + 60) (by omega), Option.bind_some, spec_ReduceMasked_is op l m (l.length + 60) (by omega), impl_ReduceMasked_is op l m (l.length + 60) (by omega), eqIntS_refl l (by omega) (l.length + 60) (by omega), if_true]

end Go.Proofs.Ytiolnbkaohioiaa.Pure
