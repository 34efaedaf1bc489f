/- The words of a compact list laid back at the lanes of a mask. -/
import Derived.Test.YteehgmbbmlfggaaGxImpl23
import Derived.Test.YteehgmbbmlfggaaGxImpl02
import Derived.Test.YteehgmbbmlfggaaPureMark
import Derived.Test.YteehgmbbmlfggaaPureMasks
import Derived.Test.YteehgmbbmlfggaaPureWords
import Derived.Test.YteehgmbbmlfggaaPureRanks
namespace Go.Proofs.Yteehgmbbmlfggaa.Pure
open Go.RowKit Go.Proofs.Yteehgmbbmlfggaa.P Go.Proofs.YteehgmbbmlfggaaW.PrintWords Go.Proofs.YteehgmbbmlfggaaW.PrintLast Go.Proofs.YteehgmbbmlfggaaW.PrintMore

theorem bit_all : ∀ m : Fin 256, ∀ i : Fin 8, Go.bits .and .i64 (shr .i64 ((m : Nat) : Int) ((i : Nat) : Int)) 1 = (if hasB ((m : Nat) : Int) ((i : Nat) : Int) = true then 1 else 0) := by decide +kernel
theorem below_mono (m : Int) {i j : Nat} (h : i ≤ j) : below m i ≤ below m j := by
  induction j with
  | zero =>
    have : i = 0 := by omega
    subst this
    exact Nat.le_refl _
  | succ j ih =>
    have := below_succ m j
    by_cases hj : i ≤ j
    · have := ih hj
      split at * <;> omega
    · have : i = j + 1 := by omega
      subst this
      exact Nat.le_refl _
def expV (l : List Int) (m x : Int) (i : Nat) : Int := if hasB m (i : Int) = true then rd l ((below m i : Nat) : Int) else x
def expL (l : List Int) (m x : Int) : List Int := if (isMaskB m && ((l.length : Int) == countB m) && l.all isWordB && isWordB x) = true then (List.range 8).map (expV l m x) else []
theorem expL_len (l : List Int) (m x : Int) : (expL l m x).length ≤ 8 := by
  unfold expL
  split <;> simp
theorem below_lt (l : List Int) (m : Int) (hl : l.length = below m 8) (i : Nat) (hi : i < 8) (hh : hasB m (i : Int) = true) : below m i < l.length := by
  have h1 := below_succ m i
  rw [if_pos hh] at h1
  have h2 := below_mono m (show i + 1 ≤ 8 by omega)
  omega
theorem rd_ranks (m : Int) (hm : isMaskB m = true) (i : Nat) (hi : i < 8) : rd (ranksL m) (i : Int) = ((below m i : Nat) : Int) := by
  have hl : i < (ranksL m).length := by unfold ranksL; rw [if_pos hm]; simpa using hi
  have h1 := rd_nat (ranksL m) i hl
  have h2 : (ranksL m)[i]? = some ((below m i : Nat) : Int) := by
    unfold ranksL
    rw [if_pos hm]
    simp [hi]
  rw [h2] at h1
  exact (Option.some.inj h1).symm
theorem impl_Expand_go (l : List Int) (m x : Int) (hm : isMaskB m = true) (hl : l.length = below m 8) : ∀ (d k i : Nat) (y : List Int), i + d = 8 → d < k → y.length = i → impl_Expand.l0 k l m x y (ranksL m) 8 (i : Int) = some (y ++ (List.range' i d).map (expV l m x)) := by
  have hlen : (ranksL m).length = 8 := by unfold ranksL; rw [if_pos hm]; simp
  intro d
  induction d with
  | zero =>
    intro k i y hi hk hy
    obtain ⟨k, rfl⟩ : ∃ m, k = m + 1 := ⟨k - 1, by omega⟩
    simp only [impl_Expand.l0]
    rw [if_neg (by omega)]
    simp
  | succ d ih =>
    intro k i y hi hk hy
    obtain ⟨k, rfl⟩ : ∃ m, k = m + 1 := ⟨k - 1, by omega⟩
    have hb := below_le m i
    simp only [impl_Expand.l0]
    rw [if_pos (by omega), if_pos (by omega), if_pos (by omega), impl_HasLane_is, rd_ranks m hm i (by omega)]
    simp only [Option.bind_some]
    by_cases hh : hasB m (i : Int) = true
    · have hlt := below_lt l m hl i (by omega) hh
      rw [if_pos hh, if_pos (by omega), if_pos (by omega), if_pos (by omega), w64s i (by omega), ih k (i + 1) _ (by omega) (by omega) (by simp [hy])]
      simp [List.range'_succ, expV, hh]
    · rw [if_neg hh, if_pos (by omega), w64s i (by omega), ih k (i + 1) _ (by omega) (by omega) (by simp [hy])]
      simp [List.range'_succ, expV, hh]
theorem impl_Expand_is (l : List Int) (m x : Int) (k : Nat) (hk : 40 ≤ k) : impl_Expand.f k l m x = some (expL l m x) := by
  obtain ⟨k, rfl⟩ : ∃ m, k = m + 1 := ⟨k - 1, by omega⟩
  unfold impl_Expand.f expL
  rw [impl_IsMask_is]
  cases hm : isMaskB m with
  | false => simp [impl_Expand.j0]
  | true =>
    simp only [Option.bind_some, if_true, impl_CountLanes_is]
    by_cases hc : (l.length : Int) = countB m
    · have hb := below_le m 8
      have hcm : countB m = ((below m 8 : Nat) : Int) := by unfold countB; rw [if_pos hm]
      have hl : l.length = below m 8 := by omega
      rw [if_pos hc]
      cases ha : l.all isWordB with
      | false => simp [impl_Expand.j0, impl_AreWords.f, ha]
      | true =>
        simp only [impl_AreWords.f, ha, Option.bind_some, if_true, impl_IsWord.is]
        cases hx : isWordB x with
        | false => simp [impl_Expand.j0]
        | true =>
          have hlen : (ranksL m).length = 8 := by unfold ranksL; rw [if_pos hm]; simp
          have h := impl_Expand_go l m x hm hl 8 k 0 [] (by omega) (by omega) rfl
          simp only [impl_Expand.j0, Bool.not_true, Bool.false_eq_true, if_false, impl_RanksOf_is m k (by omega), Option.bind_some, hlen]
          rw [List.range_eq_range', if_pos (by simp [hc])]
          simpa using h
    · rw [if_neg hc]
      simp [impl_Expand.j0, hc]

end Go.Proofs.Yteehgmbbmlfggaa.Pure
