/- The program's ApplyStage answers what the reference's answers, for all arguments. -/
import Derived.Test.YtfeadincafegcaaGxPFnExactApplyStage
import Derived.Test.YtfeadincafegcaaPureSpecSort
import Derived.Test.YtfeadincafegcaaPureMark
namespace Go.Proofs.Ytfeadincafegcaa.Pure
open Go.RowKit Go.Proofs.Ytfeadincafegcaa.P Go.Proofs.YtfeadincafegcaaW.PrintWords Go.Proofs.YtfeadincafegcaaW.PrintLast

theorem FnExactApplyStage : laws_FnExactApplyStage.Pure := by
  intro l s _ _ _ _
  refine ⟨l.length + 300 + 1, ?_⟩
  unfold laws_FnExactApplyStage.f
  by_cases hb : (l.length : Int) > 1048576
  · rw [if_pos hb]
  · rw [if_neg hb]
    have hl : l.length ≤ 1048576 := by omega
    obtain ⟨m0, hm0⟩ : ∃ m0, m0 = l.length + 300 := ⟨_, rfl⟩
    rw [← hm0]
    have hr : (applyL l s).length ≤ 8 := applyL_len l s
    have hs : ∀ k, m0 ≤ k → spec_ApplyStage.f k l s = some (applyL l s) := fun k hk => spec_ApplyStage_is l s k (by omega)
    have hi : impl_ApplyStage.f l s = some (applyL l s) := impl_ApplyStage_is l s
    generalize applyL l s = r at hr hs hi
    have t1 := fun k (hk : m0 ≤ k) => toIntS_eq l hl k (by omega)
    have e1 := fun k (hk : m0 ≤ k) => eqIntS_refl l (by omega) k (by omega)
    have e2 := fun k (hk : m0 ≤ k) => eqIntS_refl r (by omega) k (by omega)
    have q1 := fun k (hk : m0 ≤ k) => markIntS_eq l 1 (by omega) (by omega) (by omega) k (by omega)
    have q2 := fun k (hk : m0 ≤ k) => markIntS_eq r 1 (by omega) (by omega) (by omega) k (by omega)
    have q3 := fun k (hk : m0 ≤ k) => heldIntS_eq 1 r.length (by omega) (by omega) (by omega) k (by omega)
    have n1 : ¬ ((1 : Int) + (l.length : Int) < 0) := by omega
    have n2 : ¬ ((1 : Int) + (r.length : Int) < 0) := by omega
    simp only [t1 (m0 + 1) (by omega), t1 m0 (by omega), e1 (m0 + 1) (by omega), e1 m0 (by omega), e2 (m0 + 1) (by omega), e2 m0 (by omega), q1 (m0 + 1) (by omega), q2 m0 (by omega), q3 m0 (by omega), hs (m0 + 1) (by omega), hs m0 (by omega), hi, Option.bind_some, if_true, if_false, n1, n2, laws_FnExactApplyStage.j0, Bool.not_true, Bool.false_eq_true]

end Go.Proofs.Ytfeadincafegcaa.Pure
