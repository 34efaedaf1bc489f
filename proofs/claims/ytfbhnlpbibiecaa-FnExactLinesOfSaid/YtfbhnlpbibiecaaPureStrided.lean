/- Addresses with a stride: the program's and the reference's, told by one plain list. -/
import Derived.Test.YtfbhnlpbibiecaaGxImpl27
import Derived.Test.YtfbhnlpbibiecaaGxSpec27
import Derived.Test.YtfbhnlpbibiecaaPureAddresses
import Derived.Test.YtfbhnlpbibiecaaPureMark
namespace Go.Proofs.Ytfbhnlpbibiecaa.Pure
open Go.RowKit Go.Proofs.Ytfbhnlpbibiecaa.P Go.Proofs.YtfbhnlpbibiecaaW.PrintWords Go.Proofs.YtfbhnlpbibiecaaW.PrintLast Go.Proofs.YtfbhnlpbibiecaaW.PrintMore

theorem l01In_stride (x : Int) : spec_l01In.f x 0 512 = some (isStrideB x) := by
  unfold spec_l01In.f isStrideB
  by_cases h : x ≥ 0
  · simp [h]
  · have h' : ¬ 0 ≤ x := h
    simp [h']
theorem strides_plain (a0 a1 : Int) (h0 : isAddr a0 = true) (h1 : isStrideB a1 = true) : strides a0 a1 = [a0, a0 + a1, a0 + 2 * a1, a0 + 3 * a1, a0 + 4 * a1, a0 + 5 * a1, a0 + 6 * a1, a0 + 7 * a1] := by
  unfold isAddr at h0
  unfold isStrideB at h1
  simp only [Bool.and_eq_true, decide_eq_true_eq] at h0 h1
  unfold strides lanes8
  dsimp only
  rw [w64 (x := 0 * a1) (by omega) (by omega), w64 (x := 1 * a1) (by omega) (by omega), w64 (x := 2 * a1) (by omega) (by omega), w64 (x := 3 * a1) (by omega) (by omega), w64 (x := 4 * a1) (by omega) (by omega), w64 (x := 5 * a1) (by omega) (by omega), w64 (x := 6 * a1) (by omega) (by omega), w64 (x := 7 * a1) (by omega) (by omega)]
  rw [w64 (by omega) (by omega), w64 (by omega) (by omega), w64 (by omega) (by omega), w64 (by omega) (by omega), w64 (by omega) (by omega), w64 (by omega) (by omega), w64 (by omega) (by omega), w64 (by omega) (by omega)]
  simp
theorem strides_all (a0 a1 : Int) (h0 : isAddr a0 = true) (h1 : isStrideB a1 = true) : (strides a0 a1).all isAddr = decide (a0 + 7 * a1 ≤ 4095) := by
  rw [strides_plain a0 a1 h0 h1]
  unfold isAddr at h0
  unfold isStrideB at h1
  simp only [Bool.and_eq_true, decide_eq_true_eq] at h0 h1
  unfold isAddr
  rw [Bool.eq_iff_iff]
  simp only [List.all_cons, List.all_nil, Bool.and_true, Bool.and_eq_true, decide_eq_true_eq]
  omega
def stridesL (a0 a1 : Int) : List Int := if (isAddr a0 && isStrideB a1 && decide (a0 + 7 * a1 ≤ 4095)) = true then strides a0 a1 else []
theorem stridesL_len (a0 a1 : Int) : (stridesL a0 a1).length ≤ 8 := by
  unfold stridesL
  split
  · exact Nat.le_refl _
  · simp
theorem impl_Strided_is (a0 a1 : Int) : impl_Strided.f a0 a1 = some (stridesL a0 a1) := by
  unfold impl_Strided.f stridesL
  cases h0 : isAddr a0 with
  | false => simp
  | true =>
    cases h1 : isStrideB a1 with
    | false => simp
    | true => rw [strides_all a0 a1 h0 h1]
theorem spec_Strided_go (a0 a1 : Int) : ∀ (d k i : Nat) (x : List Int), i + d = 8 → d < k → x.length = i → spec_Strided.l0 k a0 a1 x (i : Int) = some (x ++ (List.range' i d).map fun (j : Nat) => wrap64 (a0 + wrap64 ((j : Int) * a1))) := by
  intro d
  induction d with
  | zero =>
    intro k i x hi hk hx
    obtain ⟨k, rfl⟩ : ∃ m, k = m + 1 := ⟨k - 1, by omega⟩
    simp only [spec_Strided.l0]
    rw [if_neg (by omega)]
    simp
  | succ d ih =>
    intro k i x hi hk hx
    obtain ⟨k, rfl⟩ : ∃ m, k = m + 1 := ⟨k - 1, by omega⟩
    simp only [spec_Strided.l0]
    rw [if_pos (by omega), if_pos (by omega), w64s i (by omega), ih k (i + 1) _ (by omega) (by omega) (by simp [hx])]
    simp [List.range'_succ]
theorem spec_Strided_is (a0 a1 : Int) (k : Nat) (hk : 12 ≤ k) : spec_Strided.f k a0 a1 = some (stridesL a0 a1) := by
  obtain ⟨k, rfl⟩ : ∃ m, k = m + 1 := ⟨k - 1, by omega⟩
  unfold spec_Strided.f stridesL
  rw [l01In_addr, l01In_stride]
  simp only [Option.bind_some, spec_Strided.j0]
  cases h0 : isAddr a0 with
  | false => simp
  | true =>
    cases h1 : isStrideB a1 with
    | false => simp
    | true =>
      have g0 := h0
      have g1 := h1
      unfold isAddr at g0
      unfold isStrideB at g1
      simp only [Bool.and_eq_true, decide_eq_true_eq] at g0 g1
      rw [w64 (x := 7 * a1) (by omega) (by omega), w64 (x := a0 + 7 * a1) (by omega) (by omega)]
      have h := spec_Strided_go a0 a1 8 k 0 [] (by omega) (by omega) rfl
      by_cases hh : a0 + 7 * a1 ≤ 4095
      · have hn : ¬ (a0 + 7 * a1 > 4095) := by omega
        simpa [hh, hn, strides, lanes8, List.range'_succ] using h
      · have hn : a0 + 7 * a1 > 4095 := by omega
        simp [hh, hn]

end Go.Proofs.Ytfbhnlpbibiecaa.Pure
