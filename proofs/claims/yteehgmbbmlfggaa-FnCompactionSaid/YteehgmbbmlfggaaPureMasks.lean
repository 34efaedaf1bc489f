/- Masks and lanes: the program's tests and the reference's, told by plain Bools and lists. -/
import Derived.Test.YteehgmbbmlfggaaGxImpl01
import Derived.Test.YteehgmbbmlfggaaGxImpl03
import Derived.Test.YteehgmbbmlfggaaPureBase
namespace Go.Proofs.Yteehgmbbmlfggaa.Pure
open Go.RowKit Go.Proofs.Yteehgmbbmlfggaa.P Go.Proofs.YteehgmbbmlfggaaW.PrintWords Go.Proofs.YteehgmbbmlfggaaW.PrintLast Go.Proofs.YteehgmbbmlfggaaW.PrintMore

def isMaskB (m : Int) : Bool := decide (0 ≤ m) && decide (m ≤ 255)
theorem impl_IsMask_is (m : Int) : impl_IsMask.f m = some (isMaskB m) := by
  unfold impl_IsMask.f impl_within.f isMaskB
  by_cases h : m ≥ 0
  · simp [h]
  · have h' : ¬ 0 ≤ m := h
    simp [h']
def hasB (m i : Int) : Bool := isMaskB m && isLaneB i && (Go.bits .and .i64 (shr .i64 m i) 1 == 1)
theorem impl_HasLane_is (m i : Int) : impl_HasLane.f m i = some (hasB m i) := by
  unfold impl_HasLane.f hasB
  rw [impl_IsMask_is, impl_isLane.is]
  simp only [Option.bind_some]
  cases isMaskB m with
  | false => simp
  | true =>
    cases h : isLaneB i with
    | false => simp
    | true =>
      unfold isLaneB at h
      simp only [Bool.and_eq_true, decide_eq_true_eq] at h
      simp [h.1]
theorem hasB_mask {m i : Int} (h : hasB m i = true) : isMaskB m = true := by
  unfold hasB at h
  simp only [Bool.and_eq_true] at h
  exact h.1.1
def lanesFrom (m : Int) (i d : Nat) : List Int := ((List.range' i d).filter fun (j : Nat) => hasB m (j : Int)).map fun (j : Nat) => (j : Int)
def lanesL (m : Int) : List Int := lanesFrom m 0 8
theorem lanesFrom_succ (m : Int) (i d : Nat) : lanesFrom m i (d + 1) = (if hasB m (i : Int) = true then [(i : Int)] else []) ++ lanesFrom m (i + 1) d := by
  unfold lanesFrom
  rw [List.range'_succ, List.filter_cons]
  by_cases h : hasB m (i : Int) = true
  · simp [h]
  · simp [h]
theorem lanesFrom_len (m : Int) (i d : Nat) : (lanesFrom m i d).length ≤ d := by
  unfold lanesFrom
  rw [List.length_map]
  exact Nat.le_trans (List.length_filter_le _ _) (by simp)
theorem lanesL_len (m : Int) : (lanesL m).length ≤ 8 := lanesFrom_len m 0 8
theorem lanesL_mem {m x : Int} (h : x ∈ lanesL m) : 0 ≤ x ∧ x < 8 ∧ hasB m x = true := by
  unfold lanesL lanesFrom at h
  simp only [List.mem_map, List.mem_filter] at h
  obtain ⟨j, ⟨h1, h2⟩, rfl⟩ := h
  have := List.mem_range'_1.mp h1
  exact ⟨by omega, by omega, h2⟩
theorem rd_mem' (l : List Int) (i : Nat) (h : i < l.length) : rd l (i : Int) ∈ l := by
  have := rd_nat l i h
  exact List.mem_of_getElem? this
theorem impl_LanesOf_go (m : Int) : ∀ (d k i : Nat) (x : List Int), i + d = 8 → d < k → x.length ≤ i → impl_LanesOf.l0 k m x (i : Int) = some (x ++ lanesFrom m i d) := by
  intro d
  induction d with
  | zero =>
    intro k i x hi hk hx
    obtain ⟨k, rfl⟩ : ∃ m, k = m + 1 := ⟨k - 1, by omega⟩
    simp only [impl_LanesOf.l0]
    rw [if_neg (by omega)]
    simp [lanesFrom]
  | succ d ih =>
    intro k i x hi hk hx
    obtain ⟨k, rfl⟩ : ∃ m, k = m + 1 := ⟨k - 1, by omega⟩
    simp only [impl_LanesOf.l0]
    rw [if_pos (by omega), impl_HasLane_is, lanesFrom_succ]
    simp only [Option.bind_some]
    by_cases h : hasB m (i : Int) = true
    · rw [if_pos h, if_pos h, if_pos (by omega), w64s i (by omega), ih k (i + 1) _ (by omega) (by omega) (by simp; omega)]
      simp
    · rw [if_neg h, if_neg h, w64s i (by omega), ih k (i + 1) x (by omega) (by omega) (by omega)]
      simp
theorem impl_LanesOf_is (m : Int) (k : Nat) (hk : 9 ≤ k) : impl_LanesOf.f k m = some (lanesL m) := by
  have h := impl_LanesOf_go m 8 k 0 [] (by omega) (by omega) (by simp)
  unfold impl_LanesOf.f
  simpa [lanesL] using h

end Go.Proofs.Yteehgmbbmlfggaa.Pure
