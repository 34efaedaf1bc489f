/- The program's SwizzledAt answers what the reference's answers, for all numbers. -/
import Derived.Test.YtoihdhhecchjbaaGxPFnExactSwizzledAt
namespace Go.Proofs.Ytoihdhhecchjbaa.Pure
open Go.RowKit Go.Proofs.Ytoihdhhecchjbaa.P Go.Proofs.YtoihdhhecchjbaaW.PrintWords Go.Proofs.YtoihdhhecchjbaaW.PrintLast

theorem xor_comm_i64 (a b : Int) : Go.bits .xor .i64 a b = Go.bits .xor .i64 b a := by
  simp only [Go.bits]
  rw [BitVec.xor_comm]

theorem FnExactSwizzledAt : laws_FnExactSwizzledAt.Pure := by
  intro a0 a1 _ _
  have e : spec_SwizzledAt.f a0 a1 = impl_SwizzledAt.f a0 a1 := by
    unfold spec_SwizzledAt.f impl_SwizzledAt.f impl_isLane.f spec_l01In.f impl_within.f
    rw [xor_comm_i64 a0 a1]
    by_cases h0 : a0 ≥ 0 <;> by_cases h1 : a1 ≥ 0 <;> simp [h0, h1]
  unfold laws_FnExactSwizzledAt.f
  rw [e, impl_SwizzledAt.is]
  simp

end Go.Proofs.Ytoihdhhecchjbaa.Pure
