/- Compaction keeps the lanes of a mask in order, expansion brings them back, and a partition is both parts, for every setting. -/
import Derived.Test.YteehgmbbmlfggaaGxPFnCompaction
import Derived.Test.YteehgmbbmlfggaaPureCompact
import Derived.Test.YteehgmbbmlfggaaPureExpand
import Derived.Test.YteehgmbbmlfggaaPureDrawValues
import Derived.Test.YteehgmbbmlfggaaPureDrawMask
namespace Go.Proofs.Yteehgmbbmlfggaa.Pure
open Go.RowKit Go.Proofs.Yteehgmbbmlfggaa.P Go.Proofs.YteehgmbbmlfggaaW.PrintWords Go.Proofs.YteehgmbbmlfggaaW.PrintLast

theorem sameInts_go (l : List Int) (hl : l.length ≤ 1073741824) : ∀ (d k i : Nat), i + d = l.length → d < k → laws_sameInts.l0 k l l (i : Int) = some true := by
  intro d
  induction d with
  | zero =>
    intro k i hi hk
    obtain ⟨k, rfl⟩ : ∃ m, k = m + 1 := ⟨k - 1, by omega⟩
    simp only [laws_sameInts.l0]
    rw [if_neg (by omega)]
  | succ d ih =>
    intro k i hi hk
    obtain ⟨k, rfl⟩ : ∃ m, k = m + 1 := ⟨k - 1, by omega⟩
    simp only [laws_sameInts.l0]
    rw [if_pos (by omega), if_pos (by omega), if_pos (by omega), if_pos trivial, w64s i (by omega)]
    exact ih k (i + 1) (by omega) (by omega)
theorem sameInts_refl (l : List Int) (hl : l.length ≤ 1073741824) (k : Nat) (hk : l.length < k) : laws_sameInts.f k l l = some true := by
  unfold laws_sameInts.f
  rw [if_pos rfl]
  exact sameInts_go l hl l.length k 0 (by omega) hk
theorem lanes_count_all : ∀ m : Fin 256, (lanesL ((m : Nat) : Int)).length = below ((m : Nat) : Int) 8 := by decide +kernel
theorem below_both_all : ∀ m : Fin 256, below ((m : Nat) : Int) 8 + below (255 - ((m : Nat) : Int)) 8 = 8 := by decide +kernel
theorem lane_at_all : ∀ m : Fin 256, ∀ i : Fin 8, hasB ((m : Nat) : Int) ((i : Nat) : Int) = true → (lanesL ((m : Nat) : Int))[below ((m : Nat) : Int) (i : Nat)]? = some ((i : Nat) : Int) := by decide +kernel
theorem mask_fin {m : Int} (h : isMaskB m = true) : ∃ n : Fin 256, m = ((n : Nat) : Int) := by
  unfold isMaskB at h
  simp only [Bool.and_eq_true, decide_eq_true_eq] at h
  exact ⟨⟨m.toNat, by omega⟩, by show m = ((m.toNat : Nat) : Int); omega⟩
theorem compL_count {v : List Int} {m : Int} (hv : valsB v = true) (hm : isMaskB m = true) : (compL v m).length = below m 8 := by
  obtain ⟨n, rfl⟩ := mask_fin hm
  unfold compL
  rw [if_pos hv, List.length_map, lanes_count_all]
theorem compL_rd {v : List Int} {m : Int} (hv : valsB v = true) (hm : isMaskB m = true) (i : Nat) (hi : i < 8) (hh : hasB m (i : Int) = true) : rd (compL v m) ((below m i : Nat) : Int) = rd v (i : Int) := by
  obtain ⟨n, rfl⟩ := mask_fin hm
  have h := lane_at_all n ⟨i, hi⟩ hh
  unfold compL
  rw [if_pos hv]
  show ((lanesL ((n : Nat) : Int)).map (rd v)).getD _ 0 = _
  rw [Int.toNat_natCast, List.getD_eq_getElem?_getD, List.getElem?_map, h]
  rfl
theorem compL_words {v : List Int} {m : Int} (hv : valsB v = true) : (compL v m).all isWordB = true := by
  unfold compL
  rw [if_pos hv, List.all_eq_true]
  intro x hx
  obtain ⟨y, hy, rfl⟩ := List.mem_map.mp hx
  exact valsB_word hv y (lanesL_mem hy).1 (lanesL_mem hy).2.1
theorem FnCompaction_go (v : List Int) (m : Int) (hv : valsB v = true) (hm : isMaskB m = true) : ∀ (d k i : Nat), i + d = 8 → d + 60 < k → laws_FnCompaction.l0 k v m (compL v m) ((List.range 8).map (expV (compL v m) m 9)) (ranksL m) (compL v m ++ compL v (255 - m)) (i : Int) = some true := by
  have h8 := valsB_len hv
  have hc := compL_count hv hm
  have hc8 := compL_len v m
  have hd8 := compL_len v (255 - m)
  have hr8 : (ranksL m).length = 8 := by unfold ranksL; rw [if_pos hm]; simp
  have hrr := rd_ranks m hm
  have hlt := below_lt (compL v m) m hc
  have hcr := fun i hi hh => compL_rd hv hm i hi hh
  have hm2 := hm
  unfold isMaskB at hm2
  simp only [Bool.and_eq_true, decide_eq_true_eq] at hm2
  have he : ∀ i : Nat, i < 8 → rd ((List.range 8).map (expV (compL v m) m 9)) (i : Int) = expV (compL v m) m 9 i := by
    intro i hi
    unfold rd
    rw [Int.toNat_natCast, List.getD_eq_getElem?_getD, List.getElem?_map, List.getElem?_range hi]
    rfl
  have he8 : ((List.range 8).map (expV (compL v m) m 9)).length = 8 := by simp
  have hcomp := fun k hk => impl_Compact_is v (255 - m) k hk
  generalize hE : (List.range 8).map (expV (compL v m) m 9) = e at he he8
  intro d
  induction d with
  | zero =>
    intro k i hi hk
    obtain ⟨k, rfl⟩ : ∃ j, k = j + 1 := ⟨k - 1, by omega⟩
    simp only [laws_FnCompaction.l0]
    rw [if_neg (by omega), if_pos (by omega), if_pos (by rw [List.length_append]; omega), Int.toNat_natCast, List.take_left' rfl, List.drop_left' rfl, sameInts_refl _ (by omega) k (by omega), Option.bind_some, if_pos rfl, show wrap64 (255 - m) = 255 - m by unfold wrap64; omega, hcomp k (by omega), Option.bind_some, sameInts_refl _ (by omega) k (by omega)]
    rfl
  | succ d ih =>
    intro k i hi hk
    obtain ⟨k, rfl⟩ : ∃ j, k = j + 1 := ⟨k - 1, by omega⟩
    have hnext := ih k (i + 1) (by omega) (by omega)
    have hi8 : i < 8 := by omega
    simp only [laws_FnCompaction.l0]
    rw [if_pos (by omega), impl_HasLane_is]
    simp only [Option.bind_some]
    rw [he i hi8, hrr i hi8, w64s i (by omega)]
    unfold expV
    cases hh : hasB m (i : Int) with
    | true =>
      have h1 := hlt i hi8 hh
      rw [if_pos rfl, if_pos (by omega), if_pos (by omega), if_pos (by omega), if_pos rfl, hcr i hi8 hh, if_pos rfl, if_pos (by omega), if_neg (by omega), if_neg (by omega), if_pos (by omega), if_pos (by omega), if_pos rfl, if_pos rfl]
      exact hnext
    | false =>
      rw [if_neg (by decide), if_neg (by decide), if_pos (by omega), if_pos (by omega), if_pos (by rw [if_neg (by decide)])]
      exact hnext
theorem FnCompaction : laws_FnCompaction.Pure := by
  intro l _ _ _
  obtain ⟨k0, hk0⟩ : ∃ k0 : Nat, 4100 ≤ k0 := ⟨4100, by omega⟩
  refine ⟨k0 + 1, ?_⟩
  unfold laws_FnCompaction.f
  simp only [laws_big.f, Option.bind_some, decide_eq_true_eq]
  by_cases hb : (l.length : Int) > 1048576
  · rw [if_pos hb]
  · rw [if_neg hb]
    obtain ⟨v, ev, hv⟩ := DrawValues_is l (by omega) (k0 + 1) (by omega)
    obtain ⟨m, em, hm⟩ := DrawMask_is l (by omega) (k0 + 1) (by omega)
    have h8 := valsB_len hv
    have hc := compL_count hv hm
    have hm2 := hm
    unfold isMaskB at hm2
    simp only [Bool.and_eq_true, decide_eq_true_eq] at hm2
    have hm' : isMaskB (255 - m) = true := by unfold isMaskB; simp only [Bool.and_eq_true, decide_eq_true_eq]; omega
    have hd := compL_count hv hm'
    have hcd : below m 8 + below (255 - m) 8 = 8 := by obtain ⟨n, rfl⟩ := mask_fin hm; exact below_both_all n
    have hcB : countB m = ((below m 8 : Nat) : Int) := by unfold countB; rw [if_pos hm]
    have hE : expL (compL v m) m 9 = (List.range 8).map (expV (compL v m) m 9) := by
      unfold expL
      rw [if_pos (by rw [hm, compL_words hv, hcB, hc]; simp; decide)]
    have hR : (ranksL m).length = 8 := by unfold ranksL; rw [if_pos hm]; simp
    have hP : partL v m = compL v m ++ compL v (255 - m) := by unfold partL; rw [if_pos hm]
    have hP8 : (compL v m ++ compL v (255 - m)).length = 8 := by rw [List.length_append]; omega
    have hgo := FnCompaction_go v m hv hm 8 k0 0 (by omega) (by omega)
    rw [ev, Option.bind_some, em, Option.bind_some, impl_Compact_is v m (k0 + 1) (by omega), Option.bind_some, impl_Expand_is _ m 9 (k0 + 1) (by omega), Option.bind_some, impl_RanksOf_is m (k0 + 1) (by omega), Option.bind_some, impl_Partition_is v m (k0 + 1) (by omega), Option.bind_some, impl_CountLanes_is m, Option.bind_some, hE, hP, if_pos (by rw [hcB, hc]), if_pos (by simp), if_pos (by omega)]
    simp only [laws_FnCompaction.j0]
    rw [if_neg (by rw [hP8]; decide)]
    exact hgo

end Go.Proofs.Yteehgmbbmlfggaa.Pure
