/- The reference's test of a tile answers what the program's does. -/
import Derived.Test.YtoihdhhecchjbaaGxImpl26
import Derived.Test.YtoihdhhecchjbaaGxSpec26
import Derived.Test.YtoihdhhecchjbaaPureMark
namespace Go.Proofs.Ytoihdhhecchjbaa.Pure
open Go.RowKit Go.Proofs.Ytoihdhhecchjbaa.P Go.Proofs.YtoihdhhecchjbaaW.PrintWords Go.Proofs.YtoihdhhecchjbaaW.PrintLast

theorem spec_l26Ok_is (a0 a1 : Int) : spec_l26Ok.f a0 a1 = some (isWidthB a0 && isLaneB a1) := by
  unfold spec_l26Ok.f spec_l01In.f isWidthB isLaneB
  by_cases h0 : a0 ≥ 8 <;> by_cases h1 : a1 ≥ 0 <;> by_cases h2 : a0 ≤ 64 <;> simp [h0, h1, h2] <;> omega

theorem l01In_lane (x : Int) : spec_l01In.f x 0 7 = some (isLaneB x) := by
  unfold spec_l01In.f isLaneB
  by_cases h : x ≥ 0
  · simp [h]
  · have h' : ¬ 0 ≤ x := h
    simp [h']
theorem xor_comm_i64 (a b : Int) : Go.bits .xor .i64 a b = Go.bits .xor .i64 b a := by
  simp only [Go.bits]
  rw [BitVec.xor_comm]
theorem spec_SwizzledAt_is (a0 a1 : Int) : spec_SwizzledAt.f a0 a1 = some (swz a0 a1) := by
  unfold spec_SwizzledAt.f swz
  rw [l01In_lane, l01In_lane, xor_comm_i64 a0 a1]
  cases isLaneB a0 <;> cases isLaneB a1 <;> simp

end Go.Proofs.Ytoihdhhecchjbaa.Pure
