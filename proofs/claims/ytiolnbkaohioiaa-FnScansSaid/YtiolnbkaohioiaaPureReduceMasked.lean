/- The result of the lanes of a mask: the program's and the reference's, told by one fold over the lanes. -/
import Derived.Test.YtiolnbkaohioiaaPureCombine
namespace Go.Proofs.Ytiolnbkaohioiaa.Pure
open Go.RowKit Go.Proofs.Ytiolnbkaohioiaa.P Go.Proofs.YtiolnbkaohioiaaW.PrintWords Go.Proofs.YtiolnbkaohioiaaW.PrintLast Go.Proofs.YtiolnbkaohioiaaW.PrintMore

def neutB (op : Int) : Int := if isOpB op = true then (if op = 2 then 65535 else 0) else -1
theorem impl_NeutralOf_is (op : Int) : impl_NeutralOf.f op = some (neutB op) := by
  unfold impl_NeutralOf.f neutB
  rw [impl_isReduction_is]
  simp only [Option.bind_some]
  cases isOpB op with
  | false => simp
  | true =>
    by_cases h2 : op = 2
    · simp [h2]
    · simp [h2]
theorem spec_NeutralOf_is (op : Int) : spec_NeutralOf.f op = some (neutB op) := by
  unfold spec_NeutralOf.f neutB
  rw [spec_l21Op_is]
  simp only [Option.bind_some]
  cases isOpB op with
  | false => simp
  | true =>
    by_cases h2 : op = 2
    · simp [h2]
    · simp [h2]
theorem neutB_word {op : Int} (h : isOpB op = true) : isWordB (neutB op) = true := by
  unfold neutB
  rw [if_pos h]
  split <;> decide
/-- The result of a list of lanes, from a number on. -/
def foldL (op : Int) (l : List Int) (t : List Int) (acc : Int) : Int := t.foldl (fun x i => comb op x (rd l i)) acc
def redM (op : Int) (l : List Int) (m : Int) : Int := if (valsB l && isMaskB m && isOpB op) = true then foldL op l (lanesL m) (neutB op) else 0
theorem impl_ReduceMasked_go (op : Int) (l : List Int) (h8 : l.length = 8) (t : List Int) (ht : ∀ x ∈ t, 0 ≤ x ∧ x < 8) (hl : t.length ≤ 8) : ∀ (d k i : Nat) (x : Int), i + d = t.length → d < k → impl_ReduceMasked.l0 k op l x t (t.length : Int) (i : Int) = some (foldL op l (t.drop i) x) := by
  intro d
  induction d with
  | zero =>
    intro k i x hi hk
    obtain ⟨k, rfl⟩ : ∃ m, k = m + 1 := ⟨k - 1, by omega⟩
    simp only [impl_ReduceMasked.l0]
    rw [if_neg (by omega), List.drop_of_length_le (by omega)]
    rfl
  | succ d ih =>
    intro k i x hi hk
    obtain ⟨k, rfl⟩ : ∃ m, k = m + 1 := ⟨k - 1, by omega⟩
    have hm := ht _ (rd_mem' t i (by omega))
    simp only [impl_ReduceMasked.l0]
    rw [if_pos (by omega), if_pos (by omega), if_pos (by omega), if_pos (by omega), if_pos (by omega), impl_combine_is]
    simp only [Option.bind_some]
    rw [w64s i (by omega), ih k (i + 1) _ (by omega) (by omega), drop_cons_rd t i (by omega)]
    rfl
theorem impl_ReduceMasked_is (op : Int) (l : List Int) (m : Int) (k : Nat) (hk : 12 ≤ k) : impl_ReduceMasked.f k op l m = some (redM op l m) := by
  obtain ⟨k, rfl⟩ : ∃ m, k = m + 1 := ⟨k - 1, by omega⟩
  unfold impl_ReduceMasked.f redM
  rw [impl_areVotes_is, impl_isReduction_is]
  simp only [Option.bind_some, impl_ReduceMasked.j0, impl_NeutralOf_is, impl_LanesOf_is m k (by omega)]
  cases hv : valsB l with
  | false => simp
  | true =>
    cases hm : isMaskB m with
    | false => simp
    | true =>
      cases ho : isOpB op with
      | false => simp
      | true =>
        have h := impl_ReduceMasked_go op l (valsB_len hv) (lanesL m) (fun x hx => ⟨(lanesL_mem hx).1, (lanesL_mem hx).2.1⟩) (lanesL_len m) (lanesL m).length k 0 (neutB op) (by omega) (by have := lanesL_len m; omega)
        simpa using h
theorem spec_ReduceMasked_go (op : Int) (l : List Int) (m : Int) (hv : valsB l = true) (ho : isOpB op = true) : ∀ (d k i : Nat) (x : Int), i + d = 8 → d + 1 < k → isWordB x = true → spec_ReduceMasked.l0 k op l m x (i : Int) = some (foldL op l (lanesFrom m i d) x) := by
  have h8 := valsB_len hv
  intro d
  induction d with
  | zero =>
    intro k i x hi hk hx
    obtain ⟨k, rfl⟩ : ∃ m, k = m + 1 := ⟨k - 1, by omega⟩
    simp only [spec_ReduceMasked.l0]
    rw [if_neg (by omega)]
    simp [lanesFrom, foldL]
  | succ d ih =>
    intro k i x hi hk hx
    obtain ⟨k, rfl⟩ : ∃ m, k = m + 1 := ⟨k - 1, by omega⟩
    simp only [spec_ReduceMasked.l0]
    rw [if_pos (by omega), spec_HasLane_is, lanesFrom_succ]
    simp only [Option.bind_some]
    have hw := valsB_word hv (i : Int) (by omega) (by omega)
    by_cases h : hasB m (i : Int) = true
    · rw [if_pos h, if_pos h, if_pos (by omega), if_pos (by omega), spec_Combine_is _ _ _ k (by omega), combB_comb hx hw ho]
      simp only [Option.bind_some]
      rw [w64s i (by omega), ih k (i + 1) _ (by omega) (by omega) (comb_word op x _ hx hw)]
      rfl
    · rw [if_neg h, if_neg h, w64s i (by omega), ih k (i + 1) x (by omega) (by omega) hx]
      rfl
theorem spec_ReduceMasked_is (op : Int) (l : List Int) (m : Int) (k : Nat) (hk : 12 ≤ k) : spec_ReduceMasked.f k op l m = some (redM op l m) := by
  obtain ⟨k, rfl⟩ : ∃ m, k = m + 1 := ⟨k - 1, by omega⟩
  unfold spec_ReduceMasked.f redM
  rw [spec_ValuesOk_is l (k + 1) (by omega), spec_IsMask_is, spec_l21Op_is]
  simp only [Option.bind_some, spec_ReduceMasked.j0, spec_NeutralOf_is]
  cases hv : valsB l with
  | false => simp
  | true =>
    cases hm : isMaskB m with
    | false => simp
    | true =>
      cases ho : isOpB op with
      | false => simp
      | true =>
        have h := spec_ReduceMasked_go op l m hv ho 8 k 0 (neutB op) (by omega) (by omega) (neutB_word ho)
        simpa [lanesL] using h

end Go.Proofs.Ytiolnbkaohioiaa.Pure
