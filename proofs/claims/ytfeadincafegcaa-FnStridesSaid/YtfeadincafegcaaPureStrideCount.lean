/- How many lines addresses with a stride need. -/
import Derived.Test.YtfeadincafegcaaPureLineCount
namespace Go.Proofs.Ytfeadincafegcaa.Pure
open Go.RowKit Go.Proofs.Ytfeadincafegcaa.P Go.Proofs.YtfeadincafegcaaW.PrintWords Go.Proofs.YtfeadincafegcaaW.PrintLast Go.Proofs.YtfeadincafegcaaW.PrintMore

theorem lt8 {j : Nat} (h : j < 8) : j = 0 ∨ j = 1 ∨ j = 2 ∨ j = 3 ∨ j = 4 ∨ j = 5 ∨ j = 6 ∨ j = 7 := by omega
theorem strideOk_in {b s : Int} (h0 : 0 ≤ b) (h1 : 0 ≤ s) (h2 : s ≤ 512) (h3 : b + 7 * s ≤ 4095) : isAddr b = true ∧ isStrideB s = true ∧ strideOk b s = true := by
  have a : isAddr b = true := by unfold isAddr; simp only [Bool.and_eq_true, decide_eq_true_eq]; omega
  have c : isStrideB s = true := by unfold isStrideB; simp only [Bool.and_eq_true, decide_eq_true_eq]; omega
  refine ⟨a, c, ?_⟩
  unfold strideOk
  rw [strides_all b s a c, a, c]
  simp only [Bool.true_and, decide_eq_true_eq]
  exact h3
theorem stride_rd {b s : Int} (a : isAddr b = true) (c : isStrideB s = true) {j : Nat} (hj : j < 8) : rd (strides b s) (j : Int) = b + (j : Int) * s := by
  rw [strides_plain b s a c]
  rcases lt8 hj with rfl | rfl | rfl | rfl | rfl | rfl | rfl | rfl
  all_goals simp [rd]
theorem asked_strides {b s : Int} (h : strideOk b s = true) : askedB (strides b s) 255 = true := by
  unfold strideOk at h
  simp only [Bool.and_eq_true] at h
  unfold askedB
  rw [h.2]
  rfl
theorem has255 : ∀ j : Fin 8, hasB 255 ((j.val : Nat) : Int) = true := by decide +kernel
theorem mem_strideLines {b s : Int} (h0 : 0 ≤ b) (h1 : 0 ≤ s) (h2 : s ≤ 512) (h3 : b + 7 * s ≤ 4095) (y : Int) : y ∈ linesL (strides b s) 255 ↔ y = b / 8 ∨ y = (b + s) / 8 ∨ y = (b + 2 * s) / 8 ∨ y = (b + 3 * s) / 8 ∨ y = (b + 4 * s) / 8 ∨ y = (b + 5 * s) / 8 ∨ y = (b + 6 * s) / 8 ∨ y = (b + 7 * s) / 8 := by
  obtain ⟨a, c, ok⟩ := strideOk_in h0 h1 h2 h3
  rw [mem_linesL (asked_strides ok)]
  constructor
  · rintro ⟨j, hj, _, e⟩
    rw [stride_rd a c hj] at e
    rcases lt8 hj with rfl | rfl | rfl | rfl | rfl | rfl | rfl | rfl
    all_goals omega
  · intro h
    have g : ∀ j : Nat, j < 8 → y = (b + (j : Int) * s) / 8 → ∃ j : Nat, j < 8 ∧ hasB 255 (j : Int) = true ∧ y = rd (strides b s) (j : Int) / 8 := fun j hj e => ⟨j, hj, has255 ⟨j, hj⟩, by rw [stride_rd a c hj]; exact e⟩
    rcases h with h | h | h | h | h | h | h | h
    · exact g 0 (by omega) (by omega)
    · exact g 1 (by omega) (by omega)
    · exact g 2 (by omega) (by omega)
    · exact g 3 (by omega) (by omega)
    · exact g 4 (by omega) (by omega)
    · exact g 5 (by omega) (by omega)
    · exact g 6 (by omega) (by omega)
    · exact g 7 (by omega) (by omega)
theorem lines_stride0 {b : Int} (h0 : 0 ≤ b) (h3 : b ≤ 4095) : (linesL (strides b 0) 255).length = 1 := by
  rw [sa_ext (linesL (strides b 0) 255) [b / 8] (sa_linesL _ _) (List.pairwise_singleton _ _) (fun y => by
    rw [mem_strideLines h0 (by omega) (by omega) (by omega), List.mem_singleton]
    omega)]
  rfl
theorem lines_stride8 {b s : Int} (h0 : 0 ≤ b) (h1 : 8 ≤ s) (h2 : s ≤ 512) (h3 : b + 7 * s ≤ 4095) : (linesL (strides b s) 255).length = 8 := by
  rw [sa_ext (linesL (strides b s) 255) [b / 8, (b + s) / 8, (b + 2 * s) / 8, (b + 3 * s) / 8, (b + 4 * s) / 8, (b + 5 * s) / 8, (b + 6 * s) / 8, (b + 7 * s) / 8] (sa_linesL _ _) (by
    unfold SA
    simp only [List.pairwise_cons, List.mem_cons, List.not_mem_nil, or_false, List.Pairwise.nil, and_true]
    refine ⟨?_, ?_, ?_, ?_, ?_, ?_, ?_, ?_⟩
    all_goals (intro z hz; first | omega | cases hz)) (fun y => by
    rw [mem_strideLines h0 (by omega) h2 h3]
    simp only [List.mem_cons, List.not_mem_nil, or_false])]
  rfl
theorem lines_stride1 {b : Int} (h0 : 0 ≤ b) (h3 : b ≤ 4088) : ((linesL (strides b 1) 255).length : Int) = 1 + (if b % 8 = 0 then 0 else 1) := by
  by_cases h : b % 8 = 0
  · rw [if_pos h, sa_ext (linesL (strides b 1) 255) [b / 8] (sa_linesL _ _) (List.pairwise_singleton _ _) (fun y => by
      rw [mem_strideLines h0 (by omega) (by omega) (by omega), List.mem_singleton]
      omega)]
    rfl
  · rw [if_neg h, sa_ext (linesL (strides b 1) 255) [b / 8, b / 8 + 1] (sa_linesL _ _) (by
      unfold SA
      simp only [List.pairwise_cons, List.mem_cons, List.not_mem_nil, or_false, List.Pairwise.nil, and_true]
      refine ⟨?_, ?_⟩
      all_goals (intro z hz; first | omega | cases hz)) (fun y => by
      rw [mem_strideLines h0 (by omega) (by omega) (by omega)]
      simp only [List.mem_cons, List.not_mem_nil, or_false]
      omega)]
    rfl
theorem lines_stride_pos {b s : Int} (h0 : 0 ≤ b) (h1 : 0 ≤ s) (h2 : s ≤ 512) (h3 : b + 7 * s ≤ 4095) : 1 ≤ (linesL (strides b s) 255).length :=
  List.length_pos_of_mem ((mem_strideLines h0 h1 h2 h3 (b / 8)).2 (Or.inl rfl))
theorem impl_StrideLines_is {b s : Int} (h0 : 0 ≤ b) (h1 : 0 ≤ s) (h2 : s ≤ 512) (h3 : b + 7 * s ≤ 4095) (k : Nat) (hk : 60 ≤ k) : impl_StrideLines.f k b s = some ((linesL (strides b s) 255).length : Int) := by
  obtain ⟨a, c, ok⟩ := strideOk_in h0 h1 h2 h3
  unfold impl_StrideLines.f
  rw [if_pos ok, impl_LinesOf_is _ 255 k (by omega)]
  rfl

end Go.Proofs.Ytfeadincafegcaa.Pure
