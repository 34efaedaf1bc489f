/- The reductions over the two parts of a split mask combine to the reduction over the mask, for every setting. -/
import Derived.Test.YtiolnbkaohioiaaGxPFnSplitReductions
import Derived.Test.YtiolnbkaohioiaaPureSplit
import Derived.Test.YtiolnbkaohioiaaPureDrawPlaces
namespace Go.Proofs.Ytiolnbkaohioiaa.Pure
open Go.RowKit Go.Proofs.Ytiolnbkaohioiaa.P Go.Proofs.YtiolnbkaohioiaaW.PrintWords Go.Proofs.YtiolnbkaohioiaaW.PrintLast

theorem impl_SplitMask_is (m c : Int) (hm : isMaskB m = true) (hc : isMaskB c = true) : impl_SplitMask.f m c = some (Go.bits .and .i64 m c, Go.bits .andNot .i64 m c) := by
  unfold impl_SplitMask.f
  rw [impl_IsMask_is, impl_IsMask_is, hm, hc]
  rfl
theorem FnSplitReductions : laws_FnSplitReductions.Pure := by
  intro l _ _ _
  obtain ⟨k0, hk0⟩ : ∃ k0 : Nat, 4100 ≤ k0 := ⟨4100, by omega⟩
  refine ⟨k0, ?_⟩
  unfold laws_FnSplitReductions.f
  simp only [laws_big.f, Option.bind_some, decide_eq_true_eq]
  by_cases hb : (l.length : Int) > 1048576
  · rw [if_pos hb]
  · rw [if_neg hb]
    have hl : l.length ≤ 1048576 := by omega
    obtain ⟨v, hv, hv'⟩ := DrawValues_is l hl k0 (by omega)
    obtain ⟨op, ho, ho'⟩ := DrawReduction_is l hl k0 (by omega)
    obtain ⟨m, hm, hm'⟩ := DrawMask_is l hl k0 (by omega)
    obtain ⟨p, hp, hp12, hp'⟩ := DrawPlaces_is l hl k0 (by omega)
    have h0 := hp' (rd p ((0 : Nat) : Int)) (rd_mem' p 0 (by omega))
    rw [show ((0 : Nat) : Int) = 0 from rfl] at h0
    have hc : isMaskB (Int.tmod (rd p 0) 256) = true := by
      have h1 := Int.tmod_nonneg 256 h0.1
      have h2 := Int.tmod_lt_of_pos (rd p 0) (show (0 : Int) < 256 by omega)
      unfold isMaskB
      simp only [Bool.and_eq_true, decide_eq_true_eq]
      omega
    obtain ⟨q1, q2, _⟩ := split_bits m (Int.tmod (rd p 0) 256) hm' hc
    have w1 := redM_isword op ho' v hv' _ q1
    have w2 := redM_isword op ho' v hv' _ q2
    have e := redM_split op ho' v hv' m (Int.tmod (rd p 0) 256) hm' hc
    rw [← combB_comb w1 w2 ho'] at e
    have n0 : 0 < (p.length : Int) := by omega
    have i1 := fun m => impl_ReduceMasked_is op v m k0 (by omega)
    have i2 := fun m => spec_ReduceMasked_is op v m k0 (by omega)
    simp only [hv, ho, hm, hp, Option.bind_some, n0, if_true, impl_SplitMask_is m (Int.tmod (rd p 0) 256) hm' hc, i1, i2, impl_Combine_is, e, beq_self_eq_true]

end Go.Proofs.Ytiolnbkaohioiaa.Pure
