/- Scans: the reference's, told by plain lists. -/
import Derived.Test.YtiolnbkaohioiaaGxSpec22
import Derived.Test.YtiolnbkaohioiaaPureScanI
namespace Go.Proofs.Ytiolnbkaohioiaa.Pure
open Go.RowKit Go.Proofs.Ytiolnbkaohioiaa.P Go.Proofs.YtiolnbkaohioiaaW.PrintWords Go.Proofs.YtiolnbkaohioiaaW.PrintLast Go.Proofs.YtiolnbkaohioiaaW.PrintMore

theorem spec_ScanSegments_go (op : Int) (l : List Int) (m : Int) (hv : valsB l = true) (ho : isOpB op = true) : ∀ (d k i : Nat), i + d = 8 → d + 1 < k → spec_ScanSegments.l0 k op l m (segPre op l m i) (i : Int) = some (segPre op l m 8) := by
  have h8 := valsB_len hv
  intro d
  induction d with
  | zero =>
    intro k i hi hk
    obtain ⟨k, rfl⟩ : ∃ m, k = m + 1 := ⟨k - 1, by omega⟩
    simp only [spec_ScanSegments.l0]
    rw [if_neg (by omega)]
    obtain rfl : i = 8 := by omega
    rfl
  | succ d ih =>
    intro k i hi hk
    obtain ⟨k, rfl⟩ : ∃ m, k = m + 1 := ⟨k - 1, by omega⟩
    have hlen := segPre_len op l m i
    have hnext := ih k (i + 1) (by omega) (by omega)
    rw [← segPre_succ] at hnext
    simp only [spec_ScanSegments.l0]
    rw [if_pos (by omega), if_pos (by omega), if_pos (by omega)]
    cases i with
    | zero =>
      rw [if_neg (by omega), if_pos (by omega), w64s 0 (by omega)]
      exact hnext
    | succ j =>
      rw [if_pos (by omega), spec_HasLane_is]
      simp only [Option.bind_some]
      rw [w64s (j + 1) (by omega)]
      by_cases h : hasB m ((j + 1 : Nat) : Int) = true
      · rw [if_pos h, if_pos (by omega)]
        rw [show segAt op l m (j + 1) = rd l ((j + 1 : Nat) : Int) by unfold segAt segV; rw [if_neg (by omega), if_pos h]] at hnext
        exact hnext
      · rw [if_neg h, w64 (x := ((j + 1 : Nat) : Int) - 1) (by omega) (by omega), if_pos (by omega), if_pos (by omega), spec_Combine_is _ _ _ k (by omega), show ((j + 1 : Nat) : Int) - 1 = (j : Int) by omega, rd_segPre op l m (j + 1) j (by omega), combB_comb (segAt_word op l m hv j (by omega)) (valsB_word hv _ (by omega) (by omega)) ho]
        simp only [Option.bind_some]
        rw [if_pos (by omega)]
        rw [show segAt op l m (j + 1) = comb op (segAt op l m j) (rd l ((j + 1 : Nat) : Int)) by rw [segAt, segV, if_neg (by omega), if_neg h]] at hnext
        exact hnext
theorem spec_ScanSegments_is (op : Int) (l : List Int) (m : Int) (k : Nat) (hk : 12 ≤ k) : spec_ScanSegments.f k op l m = some (segsL op l m) := by
  obtain ⟨k, rfl⟩ : ∃ m, k = m + 1 := ⟨k - 1, by omega⟩
  unfold spec_ScanSegments.f segsL
  rw [spec_ValuesOk_is l (k + 1) (by omega), spec_IsMask_is, spec_l21Op_is]
  simp only [Option.bind_some, spec_ScanSegments.j0]
  cases hv : valsB l with
  | false => simp
  | true =>
    cases ho : isOpB op with
    | false => simp
    | true =>
      cases hm : isMaskB m with
      | false => simp
      | true =>
        have h := spec_ScanSegments_go op l m hv ho 8 k 0 (by omega) (by omega)
        simpa [segPre] using h

theorem l01In_17 (x : Int) : spec_l01In.f x 1 7 = some (decide (1 ≤ x) && decide (x ≤ 7)) := by
  unfold spec_l01In.f
  by_cases h : x ≥ 1
  · simp [h]
  · have h' : ¬ 1 ≤ x := h
    simp [h']
theorem spec_ScanRound_go (op : Int) (l : List Int) (dd : Int) (h1 : 1 ≤ dd) (h7 : dd ≤ 7) (hv : valsB l = true) (ho : isOpB op = true) : ∀ (d k i : Nat) (x : List Int), i + d = 8 → d + 1 < k → x.length = i → spec_ScanRound.l0 k op l dd x (i : Int) = some (x ++ (List.range' i d).map (fun (j : Nat) => scanV op l dd (j : Int))) := by
  have h8 := valsB_len hv
  intro d
  induction d with
  | zero =>
    intro k i x hi hk hx
    obtain ⟨k, rfl⟩ : ∃ m, k = m + 1 := ⟨k - 1, by omega⟩
    simp only [spec_ScanRound.l0]
    rw [if_neg (by omega)]
    simp
  | succ d ih =>
    intro k i x hi hk hx
    obtain ⟨k, rfl⟩ : ∃ m, k = m + 1 := ⟨k - 1, by omega⟩
    simp only [spec_ScanRound.l0]
    rw [if_pos (by omega), if_pos (by omega), if_pos (by omega), w64s i (by omega), List.range'_succ, List.map_cons]
    by_cases h : dd ≤ (i : Int)
    · rw [if_pos (show (i : Int) ≥ dd from h), w64 (x := (i : Int) - dd) (by omega) (by omega), if_pos (by omega), if_pos (by omega), spec_Combine_is _ _ _ k (by omega), combB_comb (valsB_word hv _ (by omega) (by omega)) (valsB_word hv _ (by omega) (by omega)) ho]
      simp only [Option.bind_some]
      rw [if_pos (by omega), ih k (i + 1) _ (by omega) (by omega) (by simp [hx])]
      simp [scanV, h]
    · rw [if_neg (show ¬ (i : Int) ≥ dd from h), if_pos (by omega), ih k (i + 1) _ (by omega) (by omega) (by simp [hx])]
      simp [scanV, h]
theorem spec_ScanRound_is (op : Int) (l : List Int) (d : Int) (k : Nat) (hk : 12 ≤ k) : spec_ScanRound.f k op l d = some (scanR op l d) := by
  obtain ⟨k, rfl⟩ : ∃ m, k = m + 1 := ⟨k - 1, by omega⟩
  unfold spec_ScanRound.f scanR
  rw [spec_ValuesOk_is l (k + 1) (by omega), spec_l21Op_is, l01In_17]
  simp only [Option.bind_some, spec_ScanRound.j0]
  cases hv : valsB l with
  | false => simp
  | true =>
    cases ho : isOpB op with
    | false => simp
    | true =>
      by_cases hd : 1 ≤ d ∧ d ≤ 7
      · have h := spec_ScanRound_go op l d hd.1 hd.2 hv ho 8 k 0 [] (by omega) (by omega) rfl
        simpa [hd.1, hd.2, map8] using h
      · have hd' : (decide (1 ≤ d) && decide (d ≤ 7)) = false := by simpa using fun h => by omega
        simp [hd']
theorem spec_ScanAll_is (op : Int) (l : List Int) (k : Nat) (hk : 14 ≤ k) : spec_ScanAll.f k op l = some (scanA op l) := by
  unfold spec_ScanAll.f scanA
  rw [spec_ScanRound_is op l 1 k (by omega)]
  simp only [Option.bind_some]
  rw [spec_ScanRound_is op _ 2 k (by omega)]
  simp only [Option.bind_some]
  rw [spec_ScanRound_is op _ 4 k (by omega)]
  rfl

end Go.Proofs.Ytiolnbkaohioiaa.Pure
