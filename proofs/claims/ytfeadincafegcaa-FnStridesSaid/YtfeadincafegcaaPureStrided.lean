/- Addresses with a stride: the program's and the reference's, told by one plain list. -/
import Derived.Test.YtfeadincafegcaaGxSpec01
import Derived.Test.YtfeadincafegcaaGxImpl25
import Derived.Test.YtfeadincafegcaaGxImpl03
import Derived.Test.YtfeadincafegcaaGxImpl27
import Derived.Test.YtfeadincafegcaaGxSpec27
import Derived.Test.YtfeadincafegcaaPureAddresses
import Derived.Test.YtfeadincafegcaaPureMark
namespace Go.Proofs.Ytfeadincafegcaa.Pure
open Go.RowKit Go.Proofs.Ytfeadincafegcaa.P Go.Proofs.YtfeadincafegcaaW.PrintWords Go.Proofs.YtfeadincafegcaaW.PrintLast Go.Proofs.YtfeadincafegcaaW.PrintMore

theorem l01In_stride (x : Int) : spec_l01In.f x 0 512 = some (isStrideB x) := by
  unfold spec_l01In.f isStrideB
  by_cases h : x ≥ 0
  · simp [h]
  · have h' : ¬ 0 ≤ x := h
    simp [h']
theorem strides_plain (a0 a1 : Int) (h0 : isAddr a0 = true) (h1 : isStrideB a1 = true) : strides a0 a1 = [a0, a0 + a1, a0 + 2 * a1, a0 + 3 * a1, a0 + 4 * a1, a0 + 5 * a1, a0 + 6 * a1, a0 + 7 * a1] := by
  unfold isAddr at h0
  unfold isStrideB at h1
  simp only [Bool.and_eq_true, decide_eq_true_eq] at h0 h1
  unfold strides lanes8
  dsimp only
  rw [w64 (x := 0 * a1) (by omega) (by omega), w64 (x := 1 * a1) (by omega) (by omega), w64 (x := 2 * a1) (by omega) (by omega), w64 (x := 3 * a1) (by omega) (by omega), w64 (x := 4 * a1) (by omega) (by omega), w64 (x := 5 * a1) (by omega) (by omega), w64 (x := 6 * a1) (by omega) (by omega), w64 (x := 7 * a1) (by omega) (by omega)]
  rw [w64 (by omega) (by omega), w64 (by omega) (by omega), w64 (by omega) (by omega), w64 (by omega) (by omega), w64 (by omega) (by omega), w64 (by omega) (by omega), w64 (by omega) (by omega), w64 (by omega) (by omega)]
  simp
theorem strides_all (a0 a1 : Int) (h0 : isAddr a0 = true) (h1 : isStrideB a1 = true) : (strides a0 a1).all isAddr = decide (a0 + 7 * a1 ≤ 4095) := by
  rw [strides_plain a0 a1 h0 h1]
  unfold isAddr at h0
  unfold isStrideB at h1
  simp only [Bool.and_eq_true, decide_eq_true_eq] at h0 h1
  unfold isAddr
  rw [Bool.eq_iff_iff]
  simp only [List.all_cons, List.all_nil, Bool.and_true, Bool.and_eq_true, decide_eq_true_eq]
  omega
def stridesL (a0 a1 : Int) : List Int := if (isAddr a0 && isStrideB a1 && decide (a0 + 7 * a1 ≤ 4095)) = true then strides a0 a1 else []
theorem stridesL_len (a0 a1 : Int) : (stridesL a0 a1).length ≤ 8 := by
  unfold stridesL
  split
  · exact Nat.le_refl _
  · simp
theorem impl_Strided_is (a0 a1 : Int) : impl_Strided.f a0 a1 = some (stridesL a0 a1) := by
  unfold impl_Strided.f stridesL
  cases h0 : isAddr a0 with
  | false => simp
  | true =>
    cases h1 : isStrideB a1 with
    | false => simp
    | true => rw [strides_all a0 a1 h0 h1]
end Go.Proofs.Ytfeadincafegcaa.Pure
