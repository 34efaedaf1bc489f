/- When a list counts as sorted: the program's test and the reference's. -/
import Derived.Test.YtfeadincafegcaaGxLib
import Derived.Test.YtfeadincafegcaaGxImpl24b
import Derived.Test.YtfeadincafegcaaGxImpl24
import Derived.Test.YtfeadincafegcaaGxSpec24
import Derived.Test.YtfeadincafegcaaPureBase
namespace Go.Proofs.Ytfeadincafegcaa.Pure
open Go.RowKit Go.Proofs.Ytfeadincafegcaa.P Go.Proofs.YtfeadincafegcaaW.PrintWords Go.Proofs.YtfeadincafegcaaW.PrintLast

def Ascends (l : List Int) : Prop := ∀ j : Nat, 1 ≤ j → j < l.length → ¬ rd l (j : Int) < rd l ((j : Int) - 1)

theorem cmp_Less_is (a b : Int) : cmp_Less_int.f a b = some (decide (a < b)) := by
  simp [cmp_Less_int.f, cmp_isNaN_int.f]
theorem w64p (i : Nat) (h : i ≤ 1099511627776) : wrap64 ((i : Int) - 1) = (i : Int) - 1 := by unfold wrap64; omega

theorem impl_sorted_go (l : List Int) (hl : l.length ≤ 1048576) : ∀ (i k : Nat), i < l.length ∨ i = 0 → i < k → ((∀ j : Nat, 1 ≤ j → j ≤ i → ¬ rd l (j : Int) < rd l ((j : Int) - 1)) → slices_IsSorted_int_int.l0 k l (i : Int) = some true) ∧ ((∃ j : Nat, 1 ≤ j ∧ j ≤ i ∧ rd l (j : Int) < rd l ((j : Int) - 1)) → slices_IsSorted_int_int.l0 k l (i : Int) = some false) := by
  intro i
  induction i with
  | zero =>
    intro k _ hk
    obtain ⟨k, rfl⟩ : ∃ m, k = m + 1 := ⟨k - 1, by omega⟩
    simp only [slices_IsSorted_int_int.l0]
    rw [if_neg (by omega)]
    exact ⟨fun _ => rfl, fun ⟨j, h2, h3, _⟩ => by omega⟩
  | succ i ih =>
    intro k hi hk
    obtain ⟨k, rfl⟩ : ∃ m, k = m + 1 := ⟨k - 1, by omega⟩
    have hi' : i + 1 < l.length := by omega
    simp only [slices_IsSorted_int_int.l0]
    rw [if_pos (by omega), if_pos (by omega), if_pos (by omega), w64p (i + 1) (by omega), if_pos (by omega), if_pos (by omega), cmp_Less_is]
    simp only [Option.bind_some, decide_eq_true_eq]
    have := ih k (by omega) (by omega)
    constructor
    · intro h
      rw [if_neg (h (i + 1) (by omega) (Nat.le_refl _)), show (((i + 1 : Nat) : Int) - 1) = (i : Int) by omega]
      exact this.1 (fun j h2 h3 => h j h2 (by omega))
    · rintro ⟨j, h2, h3, h4⟩
      by_cases e : rd l ((i + 1 : Nat) : Int) < rd l (((i + 1 : Nat) : Int) - 1)
      · rw [if_pos e]
      · rw [if_neg e, show (((i + 1 : Nat) : Int) - 1) = (i : Int) by omega]
        refine this.2 ⟨j, h2, ?_, h4⟩
        by_cases e2 : j = i + 1
        · subst e2; exact absurd h4 e
        · omega
theorem not_ascends {l : List Int} (h : ¬ Ascends l) : ∃ j : Nat, 1 ≤ j ∧ j < l.length ∧ rd l (j : Int) < rd l ((j : Int) - 1) := by
  refine Classical.byContradiction fun hn => h fun j h1 h2 h3 => hn ⟨j, h1, h2, h3⟩
theorem impl_sorted_start (l : List Int) (hl : l.length ≤ 1048576) (k : Nat) : impl_IsSorted.f (k + 1) l = slices_IsSorted_int_int.l0 (k + 1) l ((l.length - 1 : Nat) : Int) := by
  unfold impl_IsSorted.f slices_IsSorted_int_int.f
  rw [w64p l.length (by omega)]
  by_cases h0 : l.length = 0
  · rw [h0]
    simp [slices_IsSorted_int_int.l0]
  · rw [show ((l.length : Int) - 1) = ((l.length - 1 : Nat) : Int) by omega]
    cases slices_IsSorted_int_int.l0 (k + 1) l ((l.length - 1 : Nat) : Int) <;> rfl
theorem impl_IsSorted_yes (l : List Int) (hl : l.length ≤ 1048576) (h : Ascends l) (k : Nat) (hk : l.length < k) : impl_IsSorted.f k l = some true := by
  obtain ⟨k, rfl⟩ : ∃ m, k = m + 1 := ⟨k - 1, by omega⟩
  rw [impl_sorted_start l hl]
  exact (impl_sorted_go l hl (l.length - 1) (k + 1) (by omega) (by omega)).1 (fun j h1 h2 => h j h1 (by omega))
theorem impl_IsSorted_no (l : List Int) (hl : l.length ≤ 1048576) (h : ¬ Ascends l) (k : Nat) (hk : l.length < k) : impl_IsSorted.f k l = some false := by
  obtain ⟨k, rfl⟩ : ∃ m, k = m + 1 := ⟨k - 1, by omega⟩
  rw [impl_sorted_start l hl]
  obtain ⟨j, h1, h2, h3⟩ := not_ascends h
  exact (impl_sorted_go l hl (l.length - 1) (k + 1) (by omega) (by omega)).2 ⟨j, h1, by omega, h3⟩

end Go.Proofs.Ytfeadincafegcaa.Pure
