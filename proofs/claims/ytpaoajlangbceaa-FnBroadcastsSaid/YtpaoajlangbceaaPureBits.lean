/- Masks by their lanes: two masks with the same lanes are one; what and, or do to the lanes; the mask of the lanes that a test lets. -/
import Derived.Test.YtpaoajlangbceaaGxImpl25
import Derived.Test.YtpaoajlangbceaaPurePut
namespace Go.Proofs.Ytpaoajlangbceaa.Pure
open Go.RowKit Go.Proofs.Ytpaoajlangbceaa.P Go.Proofs.YtpaoajlangbceaaW.PrintWords Go.Proofs.YtpaoajlangbceaaW.PrintLast Go.Proofs.YtpaoajlangbceaaW.PrintMore

theorem hasB_bit : ∀ m : Fin 256, ∀ i : Fin 8, hasB ((m : Nat) : Int) ((i : Nat) : Int) = (m : Nat).testBit i := by decide +kernel
theorem mask_nat {m : Int} (h : isMaskB m = true) : ∃ n : Nat, m = (n : Int) ∧ n < 256 := by
  unfold isMaskB at h
  simp only [Bool.and_eq_true, decide_eq_true_eq] at h
  exact ⟨m.toNat, by omega, by omega⟩
theorem nat_mask {n : Nat} (h : n < 256) : isMaskB (n : Int) = true := by
  unfold isMaskB
  simp only [Bool.and_eq_true, decide_eq_true_eq]
  omega
theorem hasB_nat (n i : Nat) (hn : n < 256) (hi : i < 8) : hasB (n : Int) (i : Int) = n.testBit i := hasB_bit ⟨n, hn⟩ ⟨i, hi⟩
theorem bit_high (n i : Nat) (hn : n < 256) (hi : ¬ i < 8) : n.testBit i = false := Nat.testBit_lt_two_pow (Nat.lt_of_lt_of_le hn (show 2 ^ 8 ≤ 2 ^ i from Nat.pow_le_pow_right (by omega) (by omega)))
theorem mask_ext {u v : Int} (hu : isMaskB u = true) (hv : isMaskB v = true) (h : ∀ i : Nat, i < 8 → hasB u (i : Int) = hasB v (i : Int)) : u = v := by
  obtain ⟨x, rfl, hx⟩ := mask_nat hu
  obtain ⟨y, rfl, hy⟩ := mask_nat hv
  congr 1
  apply Nat.eq_of_testBit_eq
  intro i
  by_cases hi : i < 8
  · rw [← hasB_nat x i hx hi, ← hasB_nat y i hy hi]
    exact h i hi
  · rw [bit_high x i hx hi, bit_high y i hy hi]
theorem and_nat (x y : Nat) (hx : x < 256) (hy : y < 256) : Go.bits .and .i64 (x : Int) (y : Int) = ((x &&& y : Nat) : Int) ∧ x &&& y < 256 := by
  have h : x &&& y ≤ x := Nat.and_le_left
  refine ⟨?_, by omega⟩
  simp only [Go.bits, BitVec.ofInt_natCast, BitVec.toNat_and, BitVec.toNat_ofNat]
  rw [show IntKind.i64.bits = 64 from rfl, Nat.mod_eq_of_lt (a := x) (by omega), Nat.mod_eq_of_lt (a := y) (by omega), IntKind.wrap_i64]
  omega
theorem mask_and {u v : Int} (hu : isMaskB u = true) (hv : isMaskB v = true) : isMaskB (Go.bits .and .i64 u v) = true ∧ ∀ i : Nat, i < 8 → hasB (Go.bits .and .i64 u v) (i : Int) = (hasB u (i : Int) && hasB v (i : Int)) := by
  obtain ⟨x, rfl, hx⟩ := mask_nat hu
  obtain ⟨y, rfl, hy⟩ := mask_nat hv
  obtain ⟨e, hl⟩ := and_nat x y hx hy
  rw [e]
  refine ⟨nat_mask hl, fun i hi => ?_⟩
  rw [hasB_nat _ i hl hi, hasB_nat x i hx hi, hasB_nat y i hy hi, Nat.testBit_and]
theorem mask_or {u v : Int} (hu : isMaskB u = true) (hv : isMaskB v = true) : isMaskB (Go.bits .or .i64 u v) = true ∧ ∀ i : Nat, i < 8 → hasB (Go.bits .or .i64 u v) (i : Int) = (hasB u (i : Int) || hasB v (i : Int)) := by
  obtain ⟨x, rfl, hx⟩ := mask_nat hu
  obtain ⟨y, rfl, hy⟩ := mask_nat hv
  have hl : x ||| y < 256 := by have : x ||| y < 2 ^ 8 := Nat.or_lt_two_pow (by omega) (by omega); omega
  rw [or_nat x y hx hy]
  refine ⟨nat_mask hl, fun i hi => ?_⟩
  rw [hasB_nat _ i hl hi, hasB_nat x i hx hi, hasB_nat y i hy hi, Nat.testBit_or]
theorem hasB_zero : ∀ i : Fin 8, hasB 0 ((i.val : Nat) : Int) = false := by decide +kernel
theorem and_zero {u v : Int} (hu : isMaskB u = true) (hv : isMaskB v = true) (h : ∀ i : Nat, i < 8 → hasB u (i : Int) = true → hasB v (i : Int) = false) : Go.bits .and .i64 u v = 0 := by
  obtain ⟨h1, h2⟩ := mask_and hu hv
  refine mask_ext h1 (by decide) (fun i hi => ?_)
  rw [h2 i hi, hasB_zero ⟨i, hi⟩]
  cases c : hasB u (i : Int) with
  | false => rfl
  | true => rw [h i hi c]; rfl
theorem and_self {u v : Int} (hu : isMaskB u = true) (hv : isMaskB v = true) (h : ∀ i : Nat, i < 8 → hasB u (i : Int) = true → hasB v (i : Int) = true) : Go.bits .and .i64 u v = u := by
  obtain ⟨h1, h2⟩ := mask_and hu hv
  refine mask_ext h1 hu (fun i hi => ?_)
  rw [h2 i hi]
  cases c : hasB u (i : Int) with
  | false => rfl
  | true => rw [h i hi c]; rfl
theorem and_self' {u v : Int} (hu : isMaskB u = true) (hv : isMaskB v = true) (h : ∀ i : Nat, i < 8 → hasB u (i : Int) = true → hasB v (i : Int) = true) : Go.bits .and .i64 v u = u := by
  obtain ⟨h1, h2⟩ := mask_and hv hu
  refine mask_ext h1 hu (fun i hi => ?_)
  rw [h2 i hi]
  cases c : hasB u (i : Int) with
  | false => cases hasB v (i : Int) <;> rfl
  | true => rw [h i hi c]; rfl
theorem lanesL_in (m : Int) (x : Int) (hx : x ∈ lanesL m) : 0 ≤ x ∧ x < 8 := ⟨(lanesL_mem hx).1, (lanesL_mem hx).2.1⟩
theorem orL_mask (p : Int → Bool) (m : Int) : isMaskB (orL p (lanesL m)) = true := by
  obtain ⟨e, h⟩ := orL_nat p (lanesL m) (lanesL_in m)
  rw [e]
  exact nat_mask h
theorem hasB_orL (p : Int → Bool) (m : Int) (i : Nat) (hi : i < 8) : hasB (orL p (lanesL m)) (i : Int) = (hasB m (i : Int) && p (i : Int)) := by
  obtain ⟨e, h⟩ := orL_nat p (lanesL m) (lanesL_in m)
  rw [e, hasB_nat _ i h hi, natOr_bit, Nat.zero_testBit, Bool.false_or, Bool.eq_iff_iff]
  simp only [List.any_eq_true, Bool.and_eq_true, decide_eq_true_eq]
  constructor
  · rintro ⟨y, hy, h3, h4⟩
    obtain ⟨j, hj, hb, rfl⟩ := (lanesL_iff m y).1 hy
    rw [Int.toNat_natCast] at h4
    subst h4
    exact ⟨hb, h3⟩
  · rintro ⟨hb, h3⟩
    exact ⟨(i : Int), (lanesL_iff m _).2 ⟨i, hi, hb, rfl⟩, h3, Int.toNat_natCast i⟩
theorem mask_pos {u : Int} (hu : isMaskB u = true) (i : Nat) (hi : i < 8) (h : hasB u (i : Int) = true) : ¬ u ≤ 0 := by
  intro c
  have : u = 0 := by
    unfold isMaskB at hu
    simp only [Bool.and_eq_true, decide_eq_true_eq] at hu
    omega
  subst this
  rw [hasB_zero ⟨i, hi⟩] at h
  cases h

end Go.Proofs.Ytpaoajlangbceaa.Pure
