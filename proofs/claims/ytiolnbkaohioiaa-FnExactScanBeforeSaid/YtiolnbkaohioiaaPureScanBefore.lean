/- Scans of the lanes before: the program's and the reference's, told by plain lists. -/
import Derived.Test.YtiolnbkaohioiaaGxImpl22b
import Derived.Test.YtiolnbkaohioiaaGxSpec22
import Derived.Test.YtiolnbkaohioiaaPureScan
import Derived.Test.YtiolnbkaohioiaaPureReduceMasked
namespace Go.Proofs.Ytiolnbkaohioiaa.Pure
open Go.RowKit Go.Proofs.Ytiolnbkaohioiaa.P Go.Proofs.YtiolnbkaohioiaaW.PrintWords Go.Proofs.YtiolnbkaohioiaaW.PrintLast Go.Proofs.YtiolnbkaohioiaaW.PrintMore

theorem scanR_none (op : Int) (l : List Int) (d : Int) (h : (valsB l && isOpB op) = false) : scanR op l d = [] := by
  unfold scanR
  rw [h]
  rfl
theorem scanA_none (op : Int) (l : List Int) (h : (valsB l && isOpB op) = false) : scanA op l = [] := by
  unfold scanA
  rw [scanR_none op l 1 h, scanR_none op [] 2 (by rfl), scanR_none op [] 4 (by rfl)]
theorem scanR_len8 (op : Int) (l : List Int) (d : Int) (hd : d = 4 ∨ d = 2 ∨ d = 1) (h : (valsB l && isOpB op) = true) : scanR op l d = map8 (scanV op l d) := by
  unfold scanR
  rw [h]
  rcases hd with rfl | rfl | rfl <;> rfl
theorem scanV_valid (op : Int) (l : List Int) (d : Int) (hd : d = 4 ∨ d = 2 ∨ d = 1) (hv : valsB l = true) : valsB (map8 (scanV op l d)) = true := by
  apply map8_vals
  intro i h0 h1
  unfold scanV
  split
  · exact comb_word op _ _ (valsB_word hv _ (by omega) (by omega)) (valsB_word hv i h0 h1)
  · exact valsB_word hv i h0 h1
theorem scanA_len8 (op : Int) (l : List Int) (h : (valsB l && isOpB op) = true) : (scanA op l).length = 8 := by
  have hh := h
  simp only [Bool.and_eq_true] at hh
  unfold scanA
  have v1 := scanV_valid op l 1 (by omega) hh.1
  have v2 := scanV_valid op _ 2 (by omega) v1
  rw [scanR_len8 op l 1 (by omega) h, scanR_len8 op _ 2 (by omega) (by rw [v1, hh.2]; rfl), scanR_len8 op _ 4 (by omega) (by rw [v2, hh.2]; rfl), map8_len]
def scanBf (op : Int) (l : List Int) : List Int := if (valsB l && isOpB op) = true then neutB op :: (scanA op l).take 7 else []
theorem scanBf_len (op : Int) (l : List Int) : (scanBf op l).length ≤ 8 := by
  unfold scanBf
  split
  · simp
    omega
  · simp
theorem impl_ScanBefore_is (op : Int) (l : List Int) (k : Nat) (hk : 14 ≤ k) : impl_ScanBefore.f k op l = some (scanBf op l) := by
  unfold impl_ScanBefore.f scanBf
  rw [impl_ValuesOk_is, impl_isReduction_is]
  simp only [Option.bind_some]
  cases h : valsB l && isOpB op with
  | false => rfl
  | true =>
    rw [if_pos rfl, if_pos rfl, impl_ScanAll_is op l k hk]
    simp only [Option.bind_some]
    rw [if_pos (scanA_len8 op l h), impl_NeutralOf_is]
    rfl
theorem spec_ScanBefore_is (op : Int) (l : List Int) (k : Nat) (hk : 14 ≤ k) : spec_ScanBefore.f k op l = some (scanBf op l) := by
  unfold spec_ScanBefore.f scanBf
  rw [spec_ScanAll_is op l k hk]
  simp only [Option.bind_some]
  cases h : valsB l && isOpB op with
  | false =>
    rw [scanA_none op l h]
    rfl
  | true =>
    have h8 := scanA_len8 op l h
    rw [if_neg (by omega), spec_NeutralOf_is]
    simp only [Option.bind_some]
    rw [if_pos (by omega), if_pos (by simp; omega)]
    rfl

end Go.Proofs.Ytiolnbkaohioiaa.Pure
