/- The program's SortValues answers what the reference's answers, for all lists. -/
import Derived.Test.YtfeadincafegcaaGxPFnExactSortValues
import Derived.Test.YtfeadincafegcaaPureSpecSort
import Derived.Test.YtfeadincafegcaaPureSortValues
import Derived.Test.YtfeadincafegcaaPureMark
namespace Go.Proofs.Ytfeadincafegcaa.Pure
open Go.RowKit Go.Proofs.Ytfeadincafegcaa.P Go.Proofs.YtfeadincafegcaaW.PrintWords Go.Proofs.YtfeadincafegcaaW.PrintLast

theorem spec_SortValues_is (l : List Int) (hl : l.length ≤ 1048576) (k : Nat) (hk : 60 ≤ k) : spec_SortValues.f k l = some (sortL l) := by
  obtain ⟨m, rfl⟩ : ∃ m, k = m + 50 + 1 + 1 + 1 + 1 + 1 + 1 + 1 := ⟨k - 57, by omega⟩
  have st : ∀ m x (i : Int), 40 ≤ m → i < 6 → spec_SortValues.l0 (m + 1) x i = spec_SortValues.l0 m (applyL x i) (wrap64 (i + 1)) := by
    intro m x i hm h
    simp only [spec_SortValues.l0]
    rw [if_pos h, spec_ApplyStage_is _ _ _ hm, Option.bind_some]
  unfold spec_SortValues.f
  rw [Option.bind_some, if_pos (by simp only [List.length_nil]; omega), List.nil_append]
  rw [st _ _ 0 (by omega) (by decide), show wrap64 (0 + 1) = 1 by unfold wrap64; omega, st _ _ 1 (by omega) (by decide), show wrap64 (1 + 1) = 2 by unfold wrap64; omega, st _ _ 2 (by omega) (by decide), show wrap64 (2 + 1) = 3 by unfold wrap64; omega, st _ _ 3 (by omega) (by decide), show wrap64 (3 + 1) = 4 by unfold wrap64; omega, st _ _ 4 (by omega) (by decide), show wrap64 (4 + 1) = 5 by unfold wrap64; omega, st _ _ 5 (by omega) (by decide), show wrap64 (5 + 1) = 6 by unfold wrap64; omega, sort_six]
  simp only [spec_SortValues.l0]
  rw [if_neg (by decide)]
theorem sortL_len (l : List Int) : (sortL l).length ≤ 8 := by
  unfold sortL
  split
  · rename_i h
    exact Nat.le_of_eq (net_len mn mx (valsB_len h))
  · exact Nat.zero_le _

theorem FnExactSortValues : laws_FnExactSortValues.Pure := by
  intro l _ _ _
  refine ⟨l.length + 300 + 1, ?_⟩
  unfold laws_FnExactSortValues.f
  by_cases hb : (l.length : Int) > 1048576
  · rw [if_pos hb]
  · rw [if_neg hb]
    have hl : l.length ≤ 1048576 := by omega
    obtain ⟨m0, hm0⟩ : ∃ m0, m0 = l.length + 300 := ⟨_, rfl⟩
    rw [← hm0]
    have hr : (sortL l).length ≤ 8 := sortL_len l
    have hs : ∀ k, m0 ≤ k → spec_SortValues.f k l = some (sortL l) := fun k hk => spec_SortValues_is l hl k (by omega)
    have hi : impl_SortValues.f l = some (sortL l) := impl_SortValues_is l
    generalize sortL l = r at hr hs hi
    have t1 := fun k (hk : m0 ≤ k) => toIntS_eq l hl k (by omega)
    have e1 := fun k (hk : m0 ≤ k) => eqIntS_refl l (by omega) k (by omega)
    have e2 := fun k (hk : m0 ≤ k) => eqIntS_refl r (by omega) k (by omega)
    have q1 := fun k (hk : m0 ≤ k) => markIntS_eq l 1 (by omega) (by omega) (by omega) k (by omega)
    have q2 := fun k (hk : m0 ≤ k) => markIntS_eq r 1 (by omega) (by omega) (by omega) k (by omega)
    have q3 := fun k (hk : m0 ≤ k) => heldIntS_eq 1 r.length (by omega) (by omega) (by omega) k (by omega)
    have n1 : ¬ ((1 : Int) + (l.length : Int) < 0) := by omega
    have n2 : ¬ ((1 : Int) + (r.length : Int) < 0) := by omega
    simp only [t1 (m0 + 1) (by omega), t1 m0 (by omega), e1 (m0 + 1) (by omega), e1 m0 (by omega), e2 (m0 + 1) (by omega), e2 m0 (by omega), q1 (m0 + 1) (by omega), q2 m0 (by omega), q3 m0 (by omega), hs (m0 + 1) (by omega), hs m0 (by omega), hi, Option.bind_some, if_true, if_false, n1, n2, laws_FnExactSortValues.j0, Bool.not_true, Bool.false_eq_true]

end Go.Proofs.Ytfeadincafegcaa.Pure
