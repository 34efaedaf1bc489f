/- The program's Combine answers what the reference's answers, for all numbers. -/
import Derived.Test.YtiolnbkaohioiaaGxPFnExactCombine
import Derived.Test.YtiolnbkaohioiaaPureCombine
namespace Go.Proofs.Ytiolnbkaohioiaa.Pure
open Go.RowKit Go.Proofs.Ytiolnbkaohioiaa.P Go.Proofs.YtiolnbkaohioiaaW.PrintWords Go.Proofs.YtiolnbkaohioiaaW.PrintLast

theorem FnExactCombine : laws_FnExactCombine.Pure := by
  intro op a b _ _ _
  refine ⟨3, ?_⟩
  unfold laws_FnExactCombine.f
  rw [spec_Combine_is op a b 3 (by omega), impl_Combine_is]
  simp

end Go.Proofs.Ytiolnbkaohioiaa.Pure
