/- Compacting and partitioning: the program's and the reference's, told by one plain list. -/
import Derived.Test.YteehgmbbmlfggaaGxImpl23
import Derived.Test.YteehgmbbmlfggaaPureWords
namespace Go.Proofs.Yteehgmbbmlfggaa.Pure
open Go.RowKit Go.Proofs.Yteehgmbbmlfggaa.P Go.Proofs.YteehgmbbmlfggaaW.PrintWords Go.Proofs.YteehgmbbmlfggaaW.PrintLast Go.Proofs.YteehgmbbmlfggaaW.PrintMore

def compL (l : List Int) (m : Int) : List Int := if valsB l = true then (lanesL m).map (rd l) else []
theorem compL_len (l : List Int) (m : Int) : (compL l m).length ≤ 8 := by
  unfold compL
  split
  · rw [List.length_map]; exact lanesL_len m
  · simp
theorem impl_Compact_go (l : List Int) (h8 : l.length = 8) (t : List Int) (ht : ∀ x ∈ t, 0 ≤ x ∧ x < 8) (hl : t.length ≤ 8) : ∀ (d k i : Nat) (x : List Int), i + d = t.length → d < k → x.length ≤ i → impl_Compact.l0 k l x t (t.length : Int) (i : Int) = some (x ++ (t.drop i).map (rd l)) := by
  intro d
  induction d with
  | zero =>
    intro k i x hi hk hx
    obtain ⟨k, rfl⟩ : ∃ m, k = m + 1 := ⟨k - 1, by omega⟩
    simp only [impl_Compact.l0]
    rw [if_neg (by omega), List.drop_of_length_le (by omega)]
    simp
  | succ d ih =>
    intro k i x hi hk hx
    obtain ⟨k, rfl⟩ : ∃ m, k = m + 1 := ⟨k - 1, by omega⟩
    have hm := ht _ (rd_mem' t i (by omega))
    simp only [impl_Compact.l0]
    rw [if_pos (by omega), if_pos (by omega), if_pos (by omega), if_pos (by omega), if_pos (by omega), if_pos (by omega), w64s i (by omega), ih k (i + 1) _ (by omega) (by omega) (by simp; omega), drop_cons_rd t i (by omega)]
    simp
theorem lanesL_none {m : Int} (h : isMaskB m = false) : lanesL m = [] := by
  have : ∀ i : Int, hasB m i = false := fun i => by unfold hasB; rw [h]; rfl
  unfold lanesL lanesFrom
  simp [this]
theorem impl_Compact_is (l : List Int) (m : Int) (k : Nat) (hk : 12 ≤ k) : impl_Compact.f k l m = some (compL l m) := by
  unfold impl_Compact.f compL
  rw [impl_areVotes_is]
  simp only [Option.bind_some]
  cases hv : valsB l with
  | false => simp
  | true =>
    cases hm : isMaskB m with
    | false => simp [lanesL_none hm]
    | true =>
      rw [impl_LanesOf_is m k (by omega)]
      have h := impl_Compact_go l (valsB_len hv) (lanesL m) (fun x hx => ⟨(lanesL_mem hx).1, (lanesL_mem hx).2.1⟩) (lanesL_len m) (lanesL m).length k 0 [] (by omega) (by have := lanesL_len m; omega) (by simp)
      simpa using h

theorem andNot_all : ∀ m : Fin 256, Go.bits .andNot .i64 255 ((m : Nat) : Int) = 255 - ((m : Nat) : Int) := by decide +kernel
theorem andNot_mask (m : Int) (h : isMaskB m = true) : Go.bits .andNot .i64 255 m = 255 - m := by
  unfold isMaskB at h
  simp only [Bool.and_eq_true, decide_eq_true_eq] at h
  have := andNot_all ⟨m.toNat, by omega⟩
  simpa [Int.toNat_of_nonneg h.1] using this
def partL (l : List Int) (m : Int) : List Int := if isMaskB m = true then compL l m ++ compL l (255 - m) else []
theorem partL_len (l : List Int) (m : Int) : (partL l m).length ≤ 16 := by
  unfold partL
  split
  · rw [List.length_append]; have := compL_len l m; have := compL_len l (255 - m); omega
  · simp
theorem compL_nil {l : List Int} (m : Int) (h : valsB l = false) : compL l m = [] := by
  unfold compL
  rw [h]
  rfl
theorem impl_Partition_is (l : List Int) (m : Int) (k : Nat) (hk : 12 ≤ k) : impl_Partition.f k l m = some (partL l m) := by
  unfold impl_Partition.f partL
  rw [impl_areVotes_is]
  cases hv : valsB l with
  | false => simp [compL_nil _ hv]
  | true =>
    cases hm : isMaskB m with
    | false => simp
    | true =>
      simp only [Bool.and_self, Option.bind_some, if_true]
      rw [andNot_mask m hm, impl_Compact_is l m k hk, impl_Compact_is l (255 - m) k hk]
      simp only [Option.bind_some]
      rw [if_pos (by have := compL_len l m; have := compL_len l (255 - m); omega)]

end Go.Proofs.Yteehgmbbmlfggaa.Pure
