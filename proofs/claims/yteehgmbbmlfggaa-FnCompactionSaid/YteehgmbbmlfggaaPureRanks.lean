/- Ranks of lanes, and how many lanes a mask has. -/
import Derived.Test.YteehgmbbmlfggaaGxLib
import Derived.Test.YteehgmbbmlfggaaGxImpl03
import Derived.Test.YteehgmbbmlfggaaGxImpl23
import Derived.Test.YteehgmbbmlfggaaPureMark
import Derived.Test.YteehgmbbmlfggaaPureMasks
namespace Go.Proofs.Yteehgmbbmlfggaa.Pure
open Go.RowKit Go.Proofs.Yteehgmbbmlfggaa.P Go.Proofs.YteehgmbbmlfggaaW.PrintWords Go.Proofs.YteehgmbbmlfggaaW.PrintLast Go.Proofs.YteehgmbbmlfggaaW.PrintMore

/-- How many lanes of a mask lie below lane n. -/
def below (m : Int) (n : Nat) : Nat := ((List.range n).filter fun (j : Nat) => hasB m (j : Int)).length
def ranksL (m : Int) : List Int := if isMaskB m = true then (List.range 8).map (fun (i : Nat) => ((below m i : Nat) : Int)) else []
theorem ranksL_len (m : Int) : (ranksL m).length ≤ 8 := by
  unfold ranksL
  split <;> simp
theorem below_succ (m : Int) (n : Nat) : below m (n + 1) = below m n + (if hasB m (n : Int) = true then 1 else 0) := by
  unfold below
  rw [List.range_succ, List.filter_append, List.length_append]
  by_cases h : hasB m (n : Int) = true
  · simp [h]
  · simp [h]
theorem below_le (m : Int) (n : Nat) : below m n ≤ n := by
  unfold below
  exact Nat.le_trans (List.length_filter_le _ _) (by simp)
theorem count_all : ∀ m : Fin 256, bits_OnesCount.f (IntKind.u64.wrap ((m : Nat) : Int)) = some ((((List.range 8).filter fun (j : Nat) => hasB ((m : Nat) : Int) (j : Int)).length : Nat) : Int) := by decide +kernel
def countB (m : Int) : Int := if isMaskB m = true then ((below m 8 : Nat) : Int) else -1
theorem impl_CountLanes_is (m : Int) : impl_CountLanes.f m = some (countB m) := by
  unfold impl_CountLanes.f countB
  rw [impl_IsMask_is]
  cases hm : isMaskB m with
  | false => simp
  | true =>
    have h := hm
    unfold isMaskB at h
    simp only [Bool.and_eq_true, decide_eq_true_eq] at h
    have hc := count_all ⟨m.toNat, by omega⟩
    simp only [Int.toNat_of_nonneg h.1] at hc
    simp [hc, below]
theorem cut_all : ∀ m : Fin 256, ∀ i : Fin 8, isMaskB (Go.bits .and .i64 ((m : Nat) : Int) (wrap64 ((shl .i64 1 ((i : Nat) : Int)) - 1))) = true ∧ below (Go.bits .and .i64 ((m : Nat) : Int) (wrap64 ((shl .i64 1 ((i : Nat) : Int)) - 1))) 8 = below ((m : Nat) : Int) i := by decide +kernel
theorem impl_RanksOf_go (m : Int) (hm : isMaskB m = true) : ∀ (d k i : Nat) (x : List Int), i + d = 8 → d < k → x.length = i → impl_RanksOf.l0 k m x (i : Int) = some (x ++ (List.range' i d).map (fun (j : Nat) => ((below m j : Nat) : Int))) := by
  have h := hm
  unfold isMaskB at h
  simp only [Bool.and_eq_true, decide_eq_true_eq] at h
  intro d
  induction d with
  | zero =>
    intro k i x hi hk hx
    obtain ⟨k, rfl⟩ : ∃ m, k = m + 1 := ⟨k - 1, by omega⟩
    simp only [impl_RanksOf.l0]
    rw [if_neg (by omega)]
    simp
  | succ d ih =>
    intro k i x hi hk hx
    obtain ⟨k, rfl⟩ : ∃ m, k = m + 1 := ⟨k - 1, by omega⟩
    have hc := cut_all ⟨m.toNat, by omega⟩ ⟨i, by omega⟩
    simp only [Int.toNat_of_nonneg h.1] at hc
    simp only [impl_RanksOf.l0]
    rw [if_pos (by omega), if_pos (by omega), impl_CountLanes_is]
    simp only [countB, hc.1, hc.2, if_true, Option.bind_some]
    rw [if_pos (by omega), w64s i (by omega), ih k (i + 1) _ (by omega) (by omega) (by simp [hx])]
    simp [List.range'_succ]
theorem impl_RanksOf_is (m : Int) (k : Nat) (hk : 12 ≤ k) : impl_RanksOf.f k m = some (ranksL m) := by
  unfold impl_RanksOf.f ranksL
  rw [impl_IsMask_is]
  cases hm : isMaskB m with
  | true =>
    have h := impl_RanksOf_go m hm 8 k 0 [] (by omega) (by omega) rfl
    simpa [List.range_eq_range'] using h
  | false => simp

end Go.Proofs.Yteehgmbbmlfggaa.Pure
