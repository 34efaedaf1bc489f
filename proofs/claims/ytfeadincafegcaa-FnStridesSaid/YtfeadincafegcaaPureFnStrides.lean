/- Neighboring words need one line if they are aligned, and two otherwise; a stride of a line or more needs eight, for every setting. -/
import Derived.Test.YtfeadincafegcaaGxPFnStrides
import Derived.Test.YtfeadincafegcaaPureStrideCount
import Derived.Test.YtfeadincafegcaaPureDrawPlace
namespace Go.Proofs.Ytfeadincafegcaa.Pure
open Go.RowKit Go.Proofs.Ytfeadincafegcaa.P Go.Proofs.YtfeadincafegcaaW.PrintWords Go.Proofs.YtfeadincafegcaaW.PrintLast Go.Proofs.YtfeadincafegcaaW.PrintMore

theorem FnStrides : laws_FnStrides.Pure := by
  intro l _ _ _
  obtain ⟨k0, hk0⟩ : ∃ k0 : Nat, 4100 ≤ k0 := ⟨4100, by omega⟩
  refine ⟨k0, ?_⟩
  unfold laws_FnStrides.f
  simp only [laws_big.f, Option.bind_some, decide_eq_true_eq]
  by_cases hb : (l.length : Int) > 1048576
  · rw [if_pos hb]
  · rw [if_neg hb]
    have hl : l.length ≤ 1048576 := by omega
    obtain ⟨p, ep, hp12, hp⟩ := DrawPlaces_is l hl k0 (by omega)
    have g0 : 0 ≤ rd p 0 := (hp _ (List.mem_of_getElem? (rd_nat p 0 (by omega)))).1
    have g1 : 0 ≤ rd p 1 := (hp _ (List.mem_of_getElem? (rd_nat p 1 (by omega)))).1
    have a0 : 0 ≤ Int.tmod (rd p 0) 400 := Int.tmod_nonneg _ g0
    have a1 : Int.tmod (rd p 0) 400 < 400 := Int.tmod_lt_of_pos _ (by omega)
    have b0 : 0 ≤ Int.tmod (rd p 1) 300 := Int.tmod_nonneg _ g1
    have b1 : Int.tmod (rd p 1) 300 < 300 := Int.tmod_lt_of_pos _ (by omega)
    rw [ep]
    simp only [Option.bind_some]
    rw [if_pos (by omega), if_pos (by omega)]
    generalize Int.tmod (rd p 0) 400 = b at a0 a1
    generalize Int.tmod (rd p 1) 300 = s at b0 b1
    rw [impl_StrideLines_is a0 b0 (by omega) (by omega) k0 (by omega)]
    simp only [Option.bind_some]
    rw [impl_StrideLines_is a0 (by omega) (by omega) (by omega) k0 (by omega)]
    simp only [Option.bind_some]
    have h1 := lines_stride_pos a0 b0 (by omega) (by omega)
    have h8 := linesL_len (strides b s) 255
    have hone := lines_stride1 a0 (by omega)
    have hmn : mn 1 (Int.tmod b 8) = (if b % 8 = 0 then 0 else 1) := by
      rw [Int.tmod_eq_emod_of_nonneg a0]
      unfold mn
      split <;> split <;> omega
    have hst : impl_Strided.f b s = some (strides b s) := by
      rw [impl_Strided_is]
      obtain ⟨c1, c2, c3⟩ := strideOk_in a0 b0 (by omega) (show b + 7 * s ≤ 4095 by omega)
      unfold stridesL
      rw [c1, c2, decide_eq_true (show b + 7 * s ≤ 4095 by omega)]
      rfl
    have hlen : ((strides b s).length : Int) = 8 := rfl
    have htail : (if ((linesL (strides b 1) 255).length : Int) = wrap64 (1 + mn 1 (Int.tmod b 8)) then ((impl_Strided.f b s).bind fun t => some ((t.length : Int) == 8)) else some false) = some true := by
      have hw : wrap64 (1 + mn 1 (Int.tmod b 8)) = 1 + mn 1 (Int.tmod b 8) := by
        rw [hmn]
        exact w64 (by split <;> omega) (by split <;> omega)
      rw [hw, hmn, if_pos hone, hst, Option.bind_some, hlen]
      rfl
    rw [if_pos (by omega), if_pos (by omega)]
    by_cases c8 : s < 8
    · rw [if_pos c8]
      by_cases c0 : s > 0
      · rw [if_pos c0]
        exact htail
      · obtain rfl : s = 0 := by omega
        rw [if_neg c0, if_pos (by have := lines_stride0 a0 (by omega : b ≤ 4095); omega)]
        exact htail
    · rw [if_neg c8, if_pos (by have := lines_stride8 a0 (by omega : 8 ≤ s) (by omega) (show b + 7 * s ≤ 4095 by omega); omega), if_pos (by omega)]
      exact htail

end Go.Proofs.Ytfeadincafegcaa.Pure
