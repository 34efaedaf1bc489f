/- How many lanes a mask has. -/
import Derived.Test.YtpaoajlangbceaaGxImpl03
import Derived.Test.YtpaoajlangbceaaPureMasks
namespace Go.Proofs.Ytpaoajlangbceaa.Pure
open Go.RowKit Go.Proofs.Ytpaoajlangbceaa.P Go.Proofs.YtpaoajlangbceaaW.PrintWords Go.Proofs.YtpaoajlangbceaaW.PrintLast Go.Proofs.YtpaoajlangbceaaW.PrintMore

def below (m : Int) (n : Nat) : Nat := ((List.range n).filter fun (j : Nat) => hasB m (j : Int)).length
theorem below_succ (m : Int) (n : Nat) : below m (n + 1) = below m n + (if hasB m (n : Int) = true then 1 else 0) := by
  unfold below
  rw [List.range_succ, List.filter_append, List.length_append]
  by_cases h : hasB m (n : Int) = true
  · simp [h]
  · simp [h]
theorem below_le (m : Int) (n : Nat) : below m n ≤ n := by
  unfold below
  exact Nat.le_trans (List.length_filter_le _ _) (by simp)
theorem count_all : ∀ m : Fin 256, bits_OnesCount.f (IntKind.u64.wrap ((m : Nat) : Int)) = some ((((List.range 8).filter fun (j : Nat) => hasB ((m : Nat) : Int) (j : Int)).length : Nat) : Int) := by decide +kernel
def countB (m : Int) : Int := if isMaskB m = true then ((below m 8 : Nat) : Int) else -1
theorem impl_CountLanes_is (m : Int) : impl_CountLanes.f m = some (countB m) := by
  unfold impl_CountLanes.f countB
  rw [impl_IsMask_is]
  cases hm : isMaskB m with
  | false => simp
  | true =>
    have h := hm
    unfold isMaskB at h
    simp only [Bool.and_eq_true, decide_eq_true_eq] at h
    have hc := count_all ⟨m.toNat, by omega⟩
    simp only [Int.toNat_of_nonneg h.1] at hc
    simp [hc, below]
theorem lanesL_count (m : Int) : (lanesL m).length = below m 8 := by
  unfold lanesL lanesFrom below
  rw [List.length_map, List.range_eq_range']

end Go.Proofs.Ytpaoajlangbceaa.Pure
