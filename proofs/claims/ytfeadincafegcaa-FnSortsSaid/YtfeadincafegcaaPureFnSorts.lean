/- Six stages sort every list, keep all values, and leave a sorted list as it is. -/
import Derived.Test.YtfeadincafegcaaGxPFnSorts
import Derived.Test.YtfeadincafegcaaPureNet
import Derived.Test.YtfeadincafegcaaPureBase
import Derived.Test.YtfeadincafegcaaPureSorted
import Derived.Test.YtfeadincafegcaaPureDrawValues
namespace Go.Proofs.Ytfeadincafegcaa.Pure
open Go.RowKit Go.Proofs.Ytfeadincafegcaa.P Go.Proofs.YtfeadincafegcaaW.PrintWords Go.Proofs.YtfeadincafegcaaW.PrintLast

theorem sameInts_go (l : List Int) (hl : l.length ≤ 1073741824) : ∀ (d k i : Nat), i + d = l.length → d < k → laws_sameInts.l0 k l l (i : Int) = some true := by
  intro d
  induction d with
  | zero =>
    intro k i hi hk
    obtain ⟨k, rfl⟩ : ∃ m, k = m + 1 := ⟨k - 1, by omega⟩
    simp only [laws_sameInts.l0]
    rw [if_neg (by omega)]
  | succ d ih =>
    intro k i hi hk
    obtain ⟨k, rfl⟩ : ∃ m, k = m + 1 := ⟨k - 1, by omega⟩
    simp only [laws_sameInts.l0]
    rw [if_pos (by omega), if_pos (by omega), if_pos (by omega), if_pos trivial, w64s i (by omega)]
    exact ih k (i + 1) (by omega) (by omega)
theorem sameInts_refl (l : List Int) (hl : l.length ≤ 1073741824) (k : Nat) (hk : l.length < k) : laws_sameInts.f k l l = some true := by
  unfold laws_sameInts.f
  rw [if_pos rfl]
  exact sameInts_go l hl l.length k 0 (by omega) hk
theorem impl_SortValues_is (l : List Int) (k : Nat) (hk : 10 ≤ k) : impl_SortValues.f k l = some (sortL l) := by
  obtain ⟨m, rfl⟩ : ∃ m, k = m + 1 + 1 + 1 + 1 + 1 + 1 + 1 := ⟨k - 7, by omega⟩
  have st : ∀ m x (i : Int), i < 6 → impl_SortValues.l0 (m + 1) x i = impl_SortValues.l0 m (applyL x i) (wrap64 (i + 1)) := by
    intro m x i h
    simp only [impl_SortValues.l0]
    rw [if_pos h, impl_ApplyStage_is, Option.bind_some]
  unfold impl_SortValues.f
  rw [st _ _ 0 (by decide), show wrap64 (0 + 1) = 1 by unfold wrap64; omega, st _ _ 1 (by decide), show wrap64 (1 + 1) = 2 by unfold wrap64; omega, st _ _ 2 (by decide), show wrap64 (2 + 1) = 3 by unfold wrap64; omega, st _ _ 3 (by decide), show wrap64 (3 + 1) = 4 by unfold wrap64; omega, st _ _ 4 (by decide), show wrap64 (4 + 1) = 5 by unfold wrap64; omega, st _ _ 5 (by decide), show wrap64 (5 + 1) = 6 by unfold wrap64; omega, sort_six]
  simp only [impl_SortValues.l0]
  rw [if_neg (by decide)]
theorem cnt_drop (l : List Int) (n : Int) (i : Nat) (h : i < l.length) : cnt (l.drop i) n = c1 n (rd l (i : Int)) + cnt (l.drop (i + 1)) n := by
  rw [drop_cons_rd l i h]
  simp only [cnt, List.map, List.sum_cons]
theorem impl_CountValue_go (l : List Int) (n : Int) (hl : l.length ≤ 1048576) : ∀ (d k i c : Nat), i + d = l.length → d < k → c ≤ i → impl_CountValue.l0 k n (c : Int) l (l.length : Int) (i : Int) = some ((c + cnt (l.drop i) n : Nat) : Int) := by
  intro d
  induction d with
  | zero =>
    intro k i c hi hk hc
    obtain ⟨k, rfl⟩ : ∃ m, k = m + 1 := ⟨k - 1, by omega⟩
    simp only [impl_CountValue.l0]
    rw [if_neg (by omega), List.drop_of_length_le (by omega)]
    rfl
  | succ d ih =>
    intro k i c hi hk hc
    obtain ⟨k, rfl⟩ : ∃ m, k = m + 1 := ⟨k - 1, by omega⟩
    simp only [impl_CountValue.l0]
    rw [if_pos (by omega), if_pos (by omega), if_pos (by omega), cnt_drop l n i (by omega)]
    by_cases h : rd l (i : Int) = n
    · rw [if_pos h, w64s i (by omega), w64s c (by omega), ih k (i + 1) (c + 1) (by omega) (by omega) (by omega)]
      unfold c1
      rw [if_pos h, Nat.add_assoc]
    · rw [if_neg h, w64s i (by omega), ih k (i + 1) c (by omega) (by omega) (by omega)]
      unfold c1
      rw [if_neg h, Nat.zero_add]
theorem impl_CountValue_is (l : List Int) (n : Int) (hl : l.length ≤ 1048576) (k : Nat) (hk : l.length < k) : impl_CountValue.f k l n = some (cnt l n : Int) := by
  have h := impl_CountValue_go l n hl l.length k 0 0 (by omega) hk (by omega)
  rw [List.drop_zero, Nat.zero_add] at h
  exact h
theorem sortL_again {v : List Int} (hv : valsB v = true) : sortL (sortL v) = sortL v := by
  have h := sortL_vals hv
  unfold sortL at h ⊢
  rw [if_pos hv] at h ⊢
  rw [if_pos h, net_twice v (valsB_len hv)]
theorem sortL_asc {v : List Int} (hv : valsB v = true) : Ascends (sortL v) := by
  have h := asc_step (net_asc v (valsB_len hv))
  intro j h1 h2
  unfold sortL at h2 ⊢
  rw [if_pos hv] at h2 ⊢
  obtain ⟨i, rfl⟩ : ∃ i, j = i + 1 := ⟨j - 1, by omega⟩
  have h3 := h i h2
  rw [show (((i + 1 : Nat) : Int) - 1) = (i : Int) by omega]
  omega
theorem FnSorts_go (v : List Int) (hv : valsB v = true) : ∀ (d k i : Nat), i + d = 8 → d + 40 < k → laws_FnSorts.l0 k v (sortL v) (i : Int) = some true := by
  have h8 := valsB_len hv
  have hs := sortL_vals hv
  have s8 := valsB_len hs
  have hc : ∀ n, cnt (sortL v) n = cnt v n := fun n => by unfold sortL; rw [if_pos hv]; exact net_cnt n h8
  have ha := sortL_asc hv
  have hq := sortL_again hv
  generalize sortL v = s at hs s8 hc ha hq ⊢
  intro d
  induction d with
  | zero =>
    intro k i hi hk
    obtain ⟨k, rfl⟩ : ∃ m, k = m + 1 := ⟨k - 1, by omega⟩
    simp only [laws_FnSorts.l0]
    rw [if_neg (by omega), if_pos (by omega), impl_IsSorted_yes s (by omega) ha k (by omega), Option.bind_some, if_pos rfl, impl_SortValues_is s k (by omega), Option.bind_some, hq, sameInts_refl s (by omega) k (by omega)]
    rfl
  | succ d ih =>
    intro k i hi hk
    obtain ⟨k, rfl⟩ : ∃ m, k = m + 1 := ⟨k - 1, by omega⟩
    simp only [laws_FnSorts.l0]
    rw [if_pos (by omega), if_pos (by omega), if_pos (by omega), impl_CountValue_is s _ (by omega) k (by omega), Option.bind_some, impl_CountValue_is v _ (by omega) k (by omega), Option.bind_some, if_pos (by rw [hc]), w64s i (by omega)]
    exact ih k (i + 1) (by omega) (by omega)
theorem FnSorts : laws_FnSorts.Pure := by
  intro l _ _ _
  obtain ⟨k0, hk0⟩ : ∃ k0 : Nat, 4100 ≤ k0 := ⟨4100, by omega⟩
  refine ⟨k0, ?_⟩
  unfold laws_FnSorts.f
  simp only [laws_big.f, Option.bind_some, decide_eq_true_eq]
  by_cases hb : (l.length : Int) > 1048576
  · rw [if_pos hb]
  · rw [if_neg hb]
    obtain ⟨v, e, hv⟩ := DrawValues_is l (by omega) k0 hk0
    rw [e, Option.bind_some, impl_SortValues_is v k0 (by omega), Option.bind_some]
    exact FnSorts_go v hv 8 k0 0 (by omega) (by omega)

end Go.Proofs.Ytfeadincafegcaa.Pure
