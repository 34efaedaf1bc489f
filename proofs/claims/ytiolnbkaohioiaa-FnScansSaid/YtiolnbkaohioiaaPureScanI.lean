/- Scans: the program's, told by plain lists. -/
import Derived.Test.YtiolnbkaohioiaaGxImpl22
import Derived.Test.YtiolnbkaohioiaaPureCombine
import Derived.Test.YtiolnbkaohioiaaPureShuffle
namespace Go.Proofs.Ytiolnbkaohioiaa.Pure
open Go.RowKit Go.Proofs.Ytiolnbkaohioiaa.P Go.Proofs.YtiolnbkaohioiaaW.PrintWords Go.Proofs.YtiolnbkaohioiaaW.PrintLast Go.Proofs.YtiolnbkaohioiaaW.PrintMore

/-- What lane i of a segmented scan has, if lane i - 1 has p. -/
def segV (op : Int) (l : List Int) (m : Int) (i : Nat) (p : Int) : Int := if i = 0 then rd l 0 else if hasB m (i : Int) = true then rd l (i : Int) else comb op p (rd l (i : Int))
def segAt (op : Int) (l : List Int) (m : Int) : Nat → Int
  | 0 => rd l 0
  | i + 1 => segV op l m (i + 1) (segAt op l m i)
def segPre (op : Int) (l : List Int) (m : Int) (n : Nat) : List Int := (List.range n).map (segAt op l m)
def segsL (op : Int) (l : List Int) (m : Int) : List Int := if (valsB l && isMaskB m && isOpB op) = true then segPre op l m 8 else []
theorem segPre_len (op : Int) (l : List Int) (m : Int) (n : Nat) : (segPre op l m n).length = n := by simp [segPre]
theorem segsL_len (op : Int) (l : List Int) (m : Int) : (segsL op l m).length ≤ 8 := by
  unfold segsL
  split
  · rw [segPre_len]; omega
  · simp
theorem segPre_succ (op : Int) (l : List Int) (m : Int) (n : Nat) : segPre op l m n ++ [segAt op l m n] = segPre op l m (n + 1) := by simp [segPre, List.range_succ]
theorem rd_segPre (op : Int) (l : List Int) (m : Int) (n i : Nat) (h : i < n) : rd (segPre op l m n) (i : Int) = segAt op l m i := by
  have h1 := rd_nat (segPre op l m n) i (by rw [segPre_len]; exact h)
  simp [segPre, h] at h1
  exact h1.symm
theorem segAt_word (op : Int) (l : List Int) (m : Int) (hv : valsB l = true) : ∀ i, i < 8 → isWordB (segAt op l m i) = true := by
  intro i
  induction i with
  | zero => intro _; exact valsB_word hv 0 (by omega) (by omega)
  | succ i ih =>
    intro h
    have hw := valsB_word hv ((i + 1 : Nat) : Int) (by omega) (by omega)
    unfold segAt segV
    rw [if_neg (by omega)]
    split
    · exact hw
    · exact comb_word op _ _ (ih (by omega)) hw
theorem impl_ScanSegments_go (op : Int) (l : List Int) (m : Int) (hv : valsB l = true) : ∀ (d k i : Nat), i + d = 8 → d < k → impl_ScanSegments.l0 k op m (segPre op l m i) l (l.length : Int) (i : Int) = some (segPre op l m 8) := by
  have h8 := valsB_len hv
  intro d
  induction d with
  | zero =>
    intro k i hi hk
    obtain ⟨k, rfl⟩ : ∃ m, k = m + 1 := ⟨k - 1, by omega⟩
    simp only [impl_ScanSegments.l0]
    rw [if_neg (by omega)]
    obtain rfl : i = 8 := by omega
    rfl
  | succ d ih =>
    intro k i hi hk
    obtain ⟨k, rfl⟩ : ∃ m, k = m + 1 := ⟨k - 1, by omega⟩
    have hlen := segPre_len op l m i
    have hnext := ih k (i + 1) (by omega) (by omega)
    rw [← segPre_succ] at hnext
    simp only [impl_ScanSegments.l0]
    rw [if_pos (by omega), if_pos (by omega), if_pos (by omega)]
    cases i with
    | zero =>
      rw [if_neg (by omega), if_pos (by omega), w64s 0 (by omega)]
      exact hnext
    | succ j =>
      rw [if_pos (by omega), impl_HasLane_is]
      simp only [Option.bind_some]
      rw [w64s (j + 1) (by omega)]
      by_cases h : hasB m ((j + 1 : Nat) : Int) = true
      · rw [if_pos h, if_pos (by omega)]
        rw [show segAt op l m (j + 1) = rd l ((j + 1 : Nat) : Int) by unfold segAt segV; rw [if_neg (by omega), if_pos h]] at hnext
        exact hnext
      · rw [if_neg h, w64 (x := ((j + 1 : Nat) : Int) - 1) (by omega) (by omega), if_pos (by omega), if_pos (by omega), impl_combine_is, show ((j + 1 : Nat) : Int) - 1 = (j : Int) by omega, rd_segPre op l m (j + 1) j (by omega)]
        simp only [Option.bind_some]
        rw [if_pos (by omega)]
        rw [show segAt op l m (j + 1) = comb op (segAt op l m j) (rd l ((j + 1 : Nat) : Int)) by rw [segAt, segV, if_neg (by omega), if_neg h]] at hnext
        exact hnext
theorem impl_ScanSegments_is (op : Int) (l : List Int) (m : Int) (k : Nat) (hk : 12 ≤ k) : impl_ScanSegments.f k op l m = some (segsL op l m) := by
  obtain ⟨k, rfl⟩ : ∃ m, k = m + 1 := ⟨k - 1, by omega⟩
  unfold impl_ScanSegments.f segsL
  rw [impl_areVotes_is, impl_isReduction_is]
  simp only [Option.bind_some, impl_ScanSegments.j0]
  cases hv : valsB l with
  | false => simp
  | true =>
    cases hm : isMaskB m with
    | false => simp
    | true =>
      cases ho : isOpB op with
      | false => simp
      | true =>
        have h := impl_ScanSegments_go op l m hv 8 k 0 (by omega) (by omega)
        simpa [segPre] using h
/-- What lane i has behind a round of a scan. -/
def scanV (op : Int) (l : List Int) (d : Int) (i : Int) : Int := if d ≤ i then comb op (rd l (i - d)) (rd l i) else rd l i
def scanR (op : Int) (l : List Int) (d : Int) : List Int := if (valsB l && isOpB op && (decide (1 ≤ d) && decide (d ≤ 7))) = true then map8 (scanV op l d) else []
theorem scanR_len (op : Int) (l : List Int) (d : Int) : (scanR op l d).length ≤ 8 := by
  unfold scanR
  split
  · rw [map8_len]; omega
  · simp
theorem within_17 (x : Int) : impl_within.f x 1 7 = some (decide (1 ≤ x) && decide (x ≤ 7)) := by
  unfold impl_within.f
  by_cases h : x ≥ 1
  · simp [h]
  · have h' : ¬ 1 ≤ x := h
    simp [h']
theorem impl_ScanRound_go (op : Int) (l : List Int) (dd : Int) (h1 : 1 ≤ dd) (h7 : dd ≤ 7) (hv : valsB l = true) : ∀ (d k i : Nat) (x : List Int), i + d = 8 → d < k → x.length = 8 → (∀ j : Nat, i ≤ j → j < 8 → rd x (j : Int) = (if dd ≤ (j : Int) then rd l ((j : Int) - dd) else rd l (j : Int))) → impl_ScanRound.l0 k op l dd x 8 (i : Int) = some (x.take i ++ (List.range' i d).map (fun (j : Nat) => scanV op l dd (j : Int))) := by
  have h8 := valsB_len hv
  intro d
  induction d with
  | zero =>
    intro k i x hi hk hx hj
    obtain ⟨k, rfl⟩ : ∃ m, k = m + 1 := ⟨k - 1, by omega⟩
    simp only [impl_ScanRound.l0]
    rw [if_neg (by omega), List.take_of_length_le (by omega)]
    simp
  | succ d ih =>
    intro k i x hi hk hx hj
    obtain ⟨k, rfl⟩ : ∃ m, k = m + 1 := ⟨k - 1, by omega⟩
    have hi1 := hj i (Nat.le_refl _) (by omega)
    simp only [impl_ScanRound.l0]
    rw [if_pos (by omega), w64s i (by omega), List.range'_succ, List.map_cons]
    by_cases h : dd ≤ (i : Int)
    · rw [if_pos (show (i : Int) ≥ dd from h), if_pos (by omega), if_pos (by omega), if_pos (by omega), impl_combine_is, hi1, if_pos h]
      simp only [Option.bind_some]
      rw [ih k (i + 1) _ (by omega) (by omega) (by simpa using hx) (fun j h2 h3 => by rw [rd_set_ne _ _ _ _ (by omega)]; exact hj j (by omega) h3)]
      rw [show ((i : Int)).toNat = i from by omega, take_set_succ x i _ (by omega)]
      simp [scanV, h]
    · rw [if_neg (show ¬ (i : Int) ≥ dd from h), ih k (i + 1) _ (by omega) (by omega) hx (fun j h2 h3 => hj j (by omega) h3)]
      rw [take_succ_rd x i (by omega), hi1, if_neg h]
      simp [scanV, h]
theorem impl_ScanRound_is (op : Int) (l : List Int) (d : Int) (k : Nat) (hk : 14 ≤ k) : impl_ScanRound.f k op l d = some (scanR op l d) := by
  obtain ⟨k, rfl⟩ : ∃ m, k = m + 1 := ⟨k - 1, by omega⟩
  unfold impl_ScanRound.f scanR
  rw [impl_ValuesOk_is, impl_isReduction_is, within_17]
  simp only [Option.bind_some, impl_ScanRound.j0]
  cases hv : valsB l with
  | false => simp
  | true =>
    cases ho : isOpB op with
    | false => simp
    | true =>
      by_cases hd : 1 ≤ d ∧ d ≤ 7
      · have hu := impl_ShuffleUp_is l d hv (by omega) hd.2 k (by omega)
        have h := impl_ScanRound_go op l d hd.1 hd.2 hv 8 k 0 (map8 fun i => if d ≤ i then rd l (i - d) else rd l i) (by omega) (by omega) (map8_len _) (fun j _ hj => rd_map8 _ j hj)
        rw [hu]
        simp only [Option.bind_some, map8_len]
        simpa [hd.1, hd.2, map8] using h
      · have hd' : (decide (1 ≤ d) && decide (d ≤ 7)) = false := by simpa using fun h => by omega
        simp [hd']
theorem scanR_vals {op : Int} {l : List Int} {d : Int} (hv : valsB l = true) (ho : isOpB op = true) (h1 : 1 ≤ d) (h7 : d ≤ 7) : valsB (scanR op l d) = true := by
  unfold scanR
  rw [if_pos (by simp [hv, ho, h1, h7])]
  refine map8_vals _ fun i h0 h8 => ?_
  unfold scanV
  split
  · exact comb_word op _ _ (valsB_word hv _ (by omega) (by omega)) (valsB_word hv _ (by omega) (by omega))
  · exact valsB_word hv _ (by omega) (by omega)
def scanA (op : Int) (l : List Int) : List Int := scanR op (scanR op (scanR op l 1) 2) 4
theorem scanA_len (op : Int) (l : List Int) : (scanA op l).length ≤ 8 := scanR_len _ _ _
theorem impl_ScanAll_is (op : Int) (l : List Int) (k : Nat) (hk : 14 ≤ k) : impl_ScanAll.f k op l = some (scanA op l) := by
  unfold impl_ScanAll.f scanA
  rw [impl_ScanRound_is op l 1 k (by omega)]
  simp only [Option.bind_some]
  rw [impl_ScanRound_is op _ 2 k (by omega)]
  simp only [Option.bind_some]
  rw [impl_ScanRound_is op _ 4 k (by omega)]

end Go.Proofs.Ytiolnbkaohioiaa.Pure
