/- Whether a list holds a number: the laws' own test, told by membership. -/
import Derived.Test.YtfeadincafegcaaGxLaws
import Derived.Test.YtfeadincafegcaaPureBase
namespace Go.Proofs.Ytfeadincafegcaa.Pure
open Go.RowKit Go.Proofs.Ytfeadincafegcaa.P Go.Proofs.YtfeadincafegcaaW.PrintWords Go.Proofs.YtfeadincafegcaaW.PrintLast Go.Proofs.YtfeadincafegcaaW.PrintMore

theorem has_drop (l : List Int) (i : Nat) (h : i < l.length) : l.drop i = rd l (i : Int) :: l.drop (i + 1) := by
  rw [List.drop_eq_getElem_cons h]
  congr 1
  have := rd_nat l i h
  rw [List.getElem?_eq_getElem h] at this
  exact Option.some.inj this
theorem has_go (l : List Int) (x : Int) (hl : l.length ≤ 1073741824) : ∀ (d k i : Nat), i + d = l.length → d < k → laws_has.l0 k l x (i : Int) = some (decide (x ∈ l.drop i)) := by
  intro d
  induction d with
  | zero =>
    intro k i hi hk
    obtain ⟨k, rfl⟩ : ∃ m, k = m + 1 := ⟨k - 1, by omega⟩
    simp only [laws_has.l0]
    rw [if_neg (by omega), List.drop_of_length_le (by omega)]
    simp
  | succ d ih =>
    intro k i hi hk
    obtain ⟨k, rfl⟩ : ∃ m, k = m + 1 := ⟨k - 1, by omega⟩
    simp only [laws_has.l0]
    rw [if_pos (by omega), if_pos (by omega), has_drop l i (by omega)]
    by_cases c : rd l (i : Int) = x
    · rw [if_pos c, c]
      simp
    · rw [if_neg c, w64s i (by omega), ih k (i + 1) (by omega) (by omega)]
      congr 1
      rw [Bool.eq_iff_iff]
      simp only [decide_eq_true_eq, List.mem_cons]
      exact ⟨Or.inr, fun h => h.elim (fun e => absurd e.symm c) id⟩
theorem has_is (l : List Int) (x : Int) (hl : l.length ≤ 1073741824) (k : Nat) (hk : l.length < k) : laws_has.f k l x = some (decide (x ∈ l)) := by
  have h := has_go l x hl l.length k 0 (by omega) hk
  rw [show ((0 : Nat) : Int) = 0 from rfl, List.drop_zero] at h
  unfold laws_has.f
  exact h

end Go.Proofs.Ytfeadincafegcaa.Pure
