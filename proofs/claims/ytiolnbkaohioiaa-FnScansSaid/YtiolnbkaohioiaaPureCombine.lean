/- Combining two words: the program's and the reference's, told by one plain function. -/
import Derived.Test.YtiolnbkaohioiaaGxImpl21
import Derived.Test.YtiolnbkaohioiaaGxSpec21
import Derived.Test.YtiolnbkaohioiaaPureWords
namespace Go.Proofs.Ytiolnbkaohioiaa.Pure
open Go.RowKit Go.Proofs.Ytiolnbkaohioiaa.P Go.Proofs.YtiolnbkaohioiaaW.PrintWords Go.Proofs.YtiolnbkaohioiaaW.PrintLast Go.Proofs.YtiolnbkaohioiaaW.PrintMore

def isOpB (op : Int) : Bool := decide (0 ≤ op) && decide (op ≤ 3)
theorem impl_isReduction_is (op : Int) : impl_isReduction.f op = some (isOpB op) := by
  unfold impl_isReduction.f impl_within.f isOpB
  by_cases h : op ≥ 0
  · simp [h]
  · have h' : ¬ 0 ≤ op := h
    simp [h']
theorem spec_l21Op_is (op : Int) : spec_l21Op.f op = some (isOpB op) := by
  unfold spec_l21Op.f spec_l01In.f isOpB
  by_cases h : op ≥ 0
  · simp [h]
  · have h' : ¬ 0 ≤ op := h
    simp [h']
def comb (op a b : Int) : Int := if op = 0 then addW a b else if op = 1 then Go.bits .xor .i64 a b else if op = 2 then mn a b else mx a b
theorem impl_combine_is (op a b : Int) : impl_combine.f op a b = some (comb op a b) := by
  unfold impl_combine.f comb
  rw [impl_AddWords_is]
  by_cases h0 : op = 0
  · simp [h0]
  · by_cases h1 : op = 1
    · simp [h1]
    · by_cases h2 : op = 2
      · simp [h2]
      · simp [h0, h1, h2]
def combB (op a b : Int) : Int := if (isWordB a && isWordB b && isOpB op) = true then comb op a b else 0
theorem impl_Combine_is (op a b : Int) : impl_Combine.f op a b = some (combB op a b) := by
  unfold impl_Combine.f combB
  rw [impl_IsWord.is, impl_IsWord.is, impl_isReduction_is, impl_combine_is]
  cases isWordB a <;> cases isWordB b <;> cases isOpB op <;> simp
theorem spec_Combine_is (op a b : Int) (k : Nat) (hk : 1 ≤ k) : spec_Combine.f k op a b = some (combB op a b) := by
  obtain ⟨k, rfl⟩ : ∃ m, k = m + 1 := ⟨k - 1, by omega⟩
  unfold spec_Combine.f combB
  rw [spec_IsWord_is, spec_IsWord_is]
  simp only [Option.bind_some, spec_Combine.j0, spec_AddWords_is]
  cases isWordB a with
  | false => simp
  | true =>
    cases isWordB b with
    | false => simp
    | true =>
      unfold isOpB comb
      by_cases h0 : op = 0
      · simp [h0]
      · by_cases h1 : op = 1
        · simp [h1]
        · by_cases h2 : op = 2
          · simp [h2]
          · by_cases h3 : op = 3
            · simp [h3]
            · have : ¬ (0 ≤ op ∧ op ≤ 3) := by omega
              simp [h0, h1, h2, h3]
              omega
theorem combB_comb {op a b : Int} (ha : isWordB a = true) (hb : isWordB b = true) (ho : isOpB op = true) : combB op a b = comb op a b := by
  unfold combB
  simp [ha, hb, ho]
theorem xor_word (a b : Int) (ha : isWordB a = true) (hb : isWordB b = true) : isWordB (Go.bits .xor .i64 a b) = true := by
  unfold isWordB at ha hb ⊢
  simp only [Bool.and_eq_true, decide_eq_true_eq] at ha hb ⊢
  obtain ⟨x, rfl⟩ := Int.eq_ofNat_of_zero_le ha.1
  obtain ⟨y, rfl⟩ := Int.eq_ofNat_of_zero_le hb.1
  have hx : x < 2 ^ 16 := by omega
  have hy : y < 2 ^ 16 := by omega
  have hxy : x ^^^ y < 2 ^ 16 := Nat.xor_lt_two_pow hx hy
  have e : Go.bits .xor .i64 (x : Int) (y : Int) = ((x ^^^ y : Nat) : Int) := by
    simp only [Go.bits, BitVec.ofInt_natCast, BitVec.toNat_xor, BitVec.toNat_ofNat]
    rw [show IntKind.i64.bits = 64 from rfl, Nat.mod_eq_of_lt (a := x) (by omega), Nat.mod_eq_of_lt (a := y) (by omega), IntKind.wrap_i64]
    omega
  rw [e]
  omega
theorem comb_word (op a b : Int) (ha : isWordB a = true) (hb : isWordB b = true) : isWordB (comb op a b) = true := by
  unfold comb
  split
  · exact addW_word a b
  · split
    · exact xor_word a b ha hb
    · split
      · unfold mn; split <;> assumption
      · unfold mx; split <;> assumption
theorem combB_word (op a b : Int) : isWordB (combB op a b) = true := by
  unfold combB
  split
  · rename_i h
    simp only [Bool.and_eq_true] at h
    exact comb_word op a b h.1.1 h.1.2
  · decide

end Go.Proofs.Ytiolnbkaohioiaa.Pure
