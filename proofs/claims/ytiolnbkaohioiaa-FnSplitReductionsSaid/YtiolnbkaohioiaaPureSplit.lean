/- A mask split by another one, and what reductions over the two parts answer. -/
import Derived.Test.YtiolnbkaohioiaaGxImpl03
import Derived.Test.YtiolnbkaohioiaaPureComb
namespace Go.Proofs.Ytiolnbkaohioiaa.Pure
open Go.RowKit Go.Proofs.Ytiolnbkaohioiaa.P Go.Proofs.YtiolnbkaohioiaaW.PrintWords Go.Proofs.YtiolnbkaohioiaaW.PrintLast Go.Proofs.YtiolnbkaohioiaaW.PrintMore

theorem hasB_bit : ∀ m : Fin 256, ∀ i : Fin 8, hasB ((m : Nat) : Int) ((i : Nat) : Int) = (m : Nat).testBit i := by decide +kernel
theorem and_nat (x y : Nat) (hx : x < 256) (hy : y < 256) : Go.bits .and .i64 (x : Int) (y : Int) = ((x &&& y : Nat) : Int) ∧ x &&& y < 256 := by
  have h : x &&& y ≤ x := Nat.and_le_left
  refine ⟨?_, by omega⟩
  simp only [Go.bits, BitVec.ofInt_natCast, BitVec.toNat_and, BitVec.toNat_ofNat]
  rw [show IntKind.i64.bits = 64 from rfl, Nat.mod_eq_of_lt (a := x) (by omega), Nat.mod_eq_of_lt (a := y) (by omega), IntKind.wrap_i64]
  omega
theorem andNot_nat (x y : Nat) (hx : x < 256) : ∃ z : Nat, Go.bits .andNot .i64 (x : Int) (y : Int) = (z : Int) ∧ z < 256 ∧ ∀ i, i < 8 → z.testBit i = (x.testBit i && !y.testBit i) := by
  refine ⟨(BitVec.ofNat 64 x &&& ~~~ BitVec.ofNat 64 y).toNat, ?_, ?_, ?_⟩
  · have h : (BitVec.ofNat 64 x &&& ~~~ BitVec.ofNat 64 y).toNat ≤ x := by
      rw [BitVec.toNat_and]
      exact Nat.le_trans Nat.and_le_left (by rw [BitVec.toNat_ofNat]; exact Nat.mod_le _ _)
    simp only [Go.bits, BitVec.ofInt_natCast]
    rw [show IntKind.i64.bits = 64 from rfl, IntKind.wrap_i64]
    omega
  · have h : (BitVec.ofNat 64 x &&& ~~~ BitVec.ofNat 64 y).toNat ≤ x := by
      rw [BitVec.toNat_and]
      exact Nat.le_trans Nat.and_le_left (by rw [BitVec.toNat_ofNat]; exact Nat.mod_le _ _)
    omega
  · intro i hi
    rw [BitVec.testBit_toNat, BitVec.getLsbD_and, BitVec.getLsbD_not, BitVec.getLsbD_ofNat, BitVec.getLsbD_ofNat]
    have : i < 64 := by omega
    simp [this]
theorem split_bits (m c : Int) (hm : isMaskB m = true) (hc : isMaskB c = true) : isMaskB (Go.bits .and .i64 m c) = true ∧ isMaskB (Go.bits .andNot .i64 m c) = true ∧ ∀ i : Nat, i < 8 → hasB (Go.bits .and .i64 m c) (i : Int) = (hasB m (i : Int) && hasB c (i : Int)) ∧ hasB (Go.bits .andNot .i64 m c) (i : Int) = (hasB m (i : Int) && !hasB c (i : Int)) := by
  unfold isMaskB at hm hc
  simp only [Bool.and_eq_true, decide_eq_true_eq] at hm hc
  obtain ⟨x, rfl⟩ := Int.eq_ofNat_of_zero_le hm.1
  obtain ⟨y, rfl⟩ := Int.eq_ofNat_of_zero_le hc.1
  obtain ⟨e1, l1⟩ := and_nat x y (by omega) (by omega)
  obtain ⟨z, e2, l2, b2⟩ := andNot_nat x y (by omega)
  rw [e1, e2]
  refine ⟨?_, ?_, fun i hi => ?_⟩
  · unfold isMaskB
    simp only [Bool.and_eq_true, decide_eq_true_eq]
    omega
  · unfold isMaskB
    simp only [Bool.and_eq_true, decide_eq_true_eq]
    omega
  · have h1 := hasB_bit ⟨x &&& y, l1⟩ ⟨i, hi⟩
    have h2 := hasB_bit ⟨z, l2⟩ ⟨i, hi⟩
    have h3 := hasB_bit ⟨x, by omega⟩ ⟨i, hi⟩
    have h4 := hasB_bit ⟨y, by omega⟩ ⟨i, hi⟩
    simp only at h1 h2 h3 h4
    rw [h1, h2, h3, h4, Nat.testBit_and]
    exact ⟨rfl, b2 i hi⟩
/-- What lane i gives to a reduction over the lanes of a mask. -/
def ew (op : Int) (ho : isOpB op = true) (l : List Int) (hv : valsB l = true) (m : Int) (i : Nat) (hi : i < 8) : Wd := if hasB m (i : Int) = true then wd l hv (i : Int) (by omega) (by omega) else nw op ho
theorem foldL_step (op : Int) (ho : isOpB op = true) (l : List Int) (hv : valsB l = true) (m : Int) (i d : Nat) (hi : i < 8) (a : Wd) : foldL op l (lanesFrom m i (d + 1)) a.1 = foldL op l (lanesFrom m (i + 1) d) (cw op a (ew op ho l hv m i hi)).1 := by
  rw [lanesFrom_succ]
  unfold ew
  by_cases h : hasB m (i : Int) = true
  · rw [if_pos h, if_pos h]
    rfl
  · rw [if_neg h, if_neg h, cw_nw]
    rfl
theorem redM_ew (op : Int) (ho : isOpB op = true) (l : List Int) (hv : valsB l = true) (m : Int) (hm : isMaskB m = true) : redM op l m = (cw op (cw op (cw op (cw op (cw op (cw op (cw op (ew op ho l hv m 0 (by omega)) (ew op ho l hv m 1 (by omega))) (ew op ho l hv m 2 (by omega))) (ew op ho l hv m 3 (by omega))) (ew op ho l hv m 4 (by omega))) (ew op ho l hv m 5 (by omega))) (ew op ho l hv m 6 (by omega))) (ew op ho l hv m 7 (by omega))).1 := by
  unfold redM
  rw [hv, hm, ho]
  show foldL op l (lanesFrom m 0 8) (nw op ho).1 = _
  rw [foldL_step op ho l hv m 0 7 (by omega), foldL_step op ho l hv m 1 6 (by omega), foldL_step op ho l hv m 2 5 (by omega), foldL_step op ho l hv m 3 4 (by omega), foldL_step op ho l hv m 4 3 (by omega), foldL_step op ho l hv m 5 2 (by omega), foldL_step op ho l hv m 6 1 (by omega), foldL_step op ho l hv m 7 0 (by omega), nw_cw]
  rfl
theorem ew_split (op : Int) (ho : isOpB op = true) (l : List Int) (hv : valsB l = true) (m m1 m2 c : Int) (i : Nat) (hi : i < 8) (h1 : hasB m1 (i : Int) = (hasB m (i : Int) && hasB c (i : Int))) (h2 : hasB m2 (i : Int) = (hasB m (i : Int) && !hasB c (i : Int))) : ew op ho l hv m i hi = cw op (ew op ho l hv m1 i hi) (ew op ho l hv m2 i hi) := by
  unfold ew
  rw [h1, h2]
  cases hasB m (i : Int) <;> cases hasB c (i : Int)
  · exact (nw_cw op ho _).symm
  · exact (nw_cw op ho _).symm
  · exact (nw_cw op ho _).symm
  · exact (cw_nw op ho _).symm
theorem cw_pair (op : Int) (a b c d : Wd) : cw op (cw op a b) (cw op c d) = cw op (cw op a c) (cw op b d) := by ac_rfl
theorem cw_eight (op : Int) (a0 a1 a2 a3 a4 a5 a6 a7 b0 b1 b2 b3 b4 b5 b6 b7 : Wd) : cw op (cw op (cw op (cw op (cw op (cw op (cw op (cw op a0 a1) a2) a3) a4) a5) a6) a7) (cw op (cw op (cw op (cw op (cw op (cw op (cw op b0 b1) b2) b3) b4) b5) b6) b7) = (cw op (cw op (cw op (cw op (cw op (cw op (cw op (cw op a0 b0) (cw op a1 b1)) (cw op a2 b2)) (cw op a3 b3)) (cw op a4 b4)) (cw op a5 b5)) (cw op a6 b6)) (cw op a7 b7)) := by
  rw [cw_pair op (cw op (cw op (cw op (cw op (cw op (cw op a0 a1) a2) a3) a4) a5) a6) a7 (cw op (cw op (cw op (cw op (cw op (cw op b0 b1) b2) b3) b4) b5) b6) b7, cw_pair op (cw op (cw op (cw op (cw op (cw op a0 a1) a2) a3) a4) a5) a6 (cw op (cw op (cw op (cw op (cw op b0 b1) b2) b3) b4) b5) b6, cw_pair op (cw op (cw op (cw op (cw op a0 a1) a2) a3) a4) a5 (cw op (cw op (cw op (cw op b0 b1) b2) b3) b4) b5, cw_pair op (cw op (cw op (cw op a0 a1) a2) a3) a4 (cw op (cw op (cw op b0 b1) b2) b3) b4, cw_pair op (cw op (cw op a0 a1) a2) a3 (cw op (cw op b0 b1) b2) b3, cw_pair op (cw op a0 a1) a2 (cw op b0 b1) b2, cw_pair op a0 a1 b0 b1]
theorem redM_split (op : Int) (ho : isOpB op = true) (l : List Int) (hv : valsB l = true) (m c : Int) (hm : isMaskB m = true) (hc : isMaskB c = true) : comb op (redM op l (Go.bits .and .i64 m c)) (redM op l (Go.bits .andNot .i64 m c)) = redM op l m := by
  obtain ⟨q1, q2, q3⟩ := split_bits m c hm hc
  rw [redM_ew op ho l hv m hm, redM_ew op ho l hv _ q1, redM_ew op ho l hv _ q2, cw_val]
  generalize hm1 : Go.bits .and .i64 m c = m1 at *
  generalize hm2 : Go.bits .andNot .i64 m c = m2 at *
  have e := fun i hi => ew_split op ho l hv m m1 m2 c i hi (q3 i hi).1 (q3 i hi).2
  rw [e 0, e 1, e 2, e 3, e 4, e 5, e 6, e 7]
  apply congrArg Subtype.val
  exact cw_eight op _ _ _ _ _ _ _ _ _ _ _ _ _ _ _ _
theorem redM_isword (op : Int) (ho : isOpB op = true) (l : List Int) (hv : valsB l = true) (m : Int) (hm : isMaskB m = true) : isWordB (redM op l m) = true := by
  rw [redM_ew op ho l hv m hm]
  exact (cw op _ _).2

end Go.Proofs.Ytiolnbkaohioiaa.Pure
