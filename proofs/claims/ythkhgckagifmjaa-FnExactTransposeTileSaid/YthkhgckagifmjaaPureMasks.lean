/- Masks and lanes: the program's tests and the reference's, told by plain Bools and lists. -/
import Derived.Test.YthkhgckagifmjaaGxSpec01
import Derived.Test.YthkhgckagifmjaaGxImpl01
import Derived.Test.YthkhgckagifmjaaPureBase
namespace Go.Proofs.Ythkhgckagifmjaa.Pure
open Go.RowKit Go.Proofs.Ythkhgckagifmjaa.P Go.Proofs.YthkhgckagifmjaaW.PrintWords Go.Proofs.YthkhgckagifmjaaW.PrintLast Go.Proofs.YthkhgckagifmjaaW.PrintMore

def isMaskB (m : Int) : Bool := decide (0 ≤ m) && decide (m ≤ 255)
theorem l01In_lane7 (x : Int) : spec_l01In.f x 0 7 = some (isLaneB x) := by
  unfold spec_l01In.f isLaneB
  by_cases h : x ≥ 0
  · simp [h]
  · have h' : ¬ 0 ≤ x := h
    simp [h']
def hasB (m i : Int) : Bool := isMaskB m && isLaneB i && (Go.bits .and .i64 (shr .i64 m i) 1 == 1)
theorem hasB_mask {m i : Int} (h : hasB m i = true) : isMaskB m = true := by
  unfold hasB at h
  simp only [Bool.and_eq_true] at h
  exact h.1.1
def lanesFrom (m : Int) (i d : Nat) : List Int := ((List.range' i d).filter fun (j : Nat) => hasB m (j : Int)).map fun (j : Nat) => (j : Int)
def lanesL (m : Int) : List Int := lanesFrom m 0 8
theorem lanesFrom_succ (m : Int) (i d : Nat) : lanesFrom m i (d + 1) = (if hasB m (i : Int) = true then [(i : Int)] else []) ++ lanesFrom m (i + 1) d := by
  unfold lanesFrom
  rw [List.range'_succ, List.filter_cons]
  by_cases h : hasB m (i : Int) = true
  · simp [h]
  · simp [h]
theorem lanesFrom_len (m : Int) (i d : Nat) : (lanesFrom m i d).length ≤ d := by
  unfold lanesFrom
  rw [List.length_map]
  exact Nat.le_trans (List.length_filter_le _ _) (by simp)
theorem lanesL_len (m : Int) : (lanesL m).length ≤ 8 := lanesFrom_len m 0 8
theorem lanesL_mem {m x : Int} (h : x ∈ lanesL m) : 0 ≤ x ∧ x < 8 ∧ hasB m x = true := by
  unfold lanesL lanesFrom at h
  simp only [List.mem_map, List.mem_filter] at h
  obtain ⟨j, ⟨h1, h2⟩, rfl⟩ := h
  have := List.mem_range'_1.mp h1
  exact ⟨by omega, by omega, h2⟩
theorem rd_mem' (l : List Int) (i : Nat) (h : i < l.length) : rd l (i : Int) ∈ l := by
  have := rd_nat l i h
  exact List.mem_of_getElem? this
end Go.Proofs.Ythkhgckagifmjaa.Pure
