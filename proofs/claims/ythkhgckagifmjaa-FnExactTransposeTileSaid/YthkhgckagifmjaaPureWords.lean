/- Words, lists of words, masks: the program's tests and the reference's, told by plain Bools. -/
import Derived.Test.YthkhgckagifmjaaGxSpec01
import Derived.Test.YthkhgckagifmjaaGxLibContains
import Derived.Test.YthkhgckagifmjaaGxImpl02
import Derived.Test.YthkhgckagifmjaaGxSpec02
import Derived.Test.YthkhgckagifmjaaGxImpl19
import Derived.Test.YthkhgckagifmjaaGxSpec19
import Derived.Test.YthkhgckagifmjaaPureMark
import Derived.Test.YthkhgckagifmjaaPureMasks
namespace Go.Proofs.Ythkhgckagifmjaa.Pure
open Go.RowKit Go.Proofs.Ythkhgckagifmjaa.P Go.Proofs.YthkhgckagifmjaaW.PrintWords Go.Proofs.YthkhgckagifmjaaW.PrintLast Go.Proofs.YthkhgckagifmjaaW.PrintMore

theorem l01In_word (x : Int) : spec_l01In.f x 0 65535 = some (isWordB x) := by
  unfold spec_l01In.f isWordB
  by_cases h : x ≥ 0
  · simp [h]
  · have h' : ¬ 0 ≤ x := h
    simp [h']
theorem spec_IsWord_is (x : Int) : spec_IsWord.f x = some (isWordB x) := by
  unfold spec_IsWord.f
  rw [l01In_word]
  rfl
theorem drop_cons_rd (l : List Int) (i : Nat) (h : i < l.length) : l.drop i = rd l (i : Int) :: l.drop (i + 1) := by
  rw [List.drop_eq_getElem_cons h]
  congr 1
  have := rd_nat l i h
  rw [List.getElem?_eq_getElem h] at this
  exact Option.some.inj this
theorem spec_AreWords_go (l : List Int) (hl : l.length ≤ 1048576) : ∀ (d k i : Nat), i + d = l.length → d < k → spec_AreWords.l0 k l (i : Int) = some ((l.drop i).all isWordB) := by
  intro d
  induction d with
  | zero =>
    intro k i hi hk
    obtain ⟨k, rfl⟩ : ∃ m, k = m + 1 := ⟨k - 1, by omega⟩
    simp only [spec_AreWords.l0]
    rw [if_neg (by omega), List.drop_of_length_le (by omega)]
    simp
  | succ d ih =>
    intro k i hi hk
    obtain ⟨k, rfl⟩ : ∃ m, k = m + 1 := ⟨k - 1, by omega⟩
    simp only [spec_AreWords.l0]
    rw [if_pos (by omega), if_pos (by omega), spec_IsWord_is, drop_cons_rd l i (by omega)]
    simp only [Option.bind_some]
    cases h : isWordB (rd l (i : Int)) with
    | true =>
      rw [if_pos rfl, w64s i (by omega), ih k (i + 1) (by omega) (by omega)]
      simp [h]
    | false =>
      simp [h]
theorem spec_AreWords_is (l : List Int) (hl : l.length ≤ 1048576) (k : Nat) (hk : l.length < k) : spec_AreWords.f k l = some (l.all isWordB) := by
  have h := spec_AreWords_go l hl l.length k 0 (by omega) hk
  unfold spec_AreWords.f
  simpa using h
def valsB (l : List Int) : Bool := decide (l.length = 8) && l.all isWordB
theorem spec_ValuesOk_is (l : List Int) (k : Nat) (hk : 9 ≤ k) : spec_ValuesOk.f k l = some (valsB l) := by
  unfold spec_ValuesOk.f valsB
  by_cases h : l.length = 8
  · rw [if_pos (by omega), spec_AreWords_is l (by omega) k (by omega)]
    simp [h]
  · rw [if_neg (by omega)]
    simp [h]
theorem impl_ValuesOk_is (l : List Int) : impl_ValuesOk.f l = some (valsB l) := by
  unfold impl_ValuesOk.f valsB impl_AreWords.f
  by_cases h : l.length = 8
  · rw [if_pos (by omega)]
    simp [h]
  · rw [if_neg (by omega)]
    simp [h]
theorem valsB_len {l : List Int} (h : valsB l = true) : l.length = 8 := by
  unfold valsB at h
  simp at h
  exact h.1
theorem valsB_word {l : List Int} (h : valsB l = true) (i : Int) (h0 : 0 ≤ i) (h1 : i < 8) : isWordB (rd l i) = true := by
  have hl := valsB_len h
  unfold valsB at h
  simp only [Bool.and_eq_true, List.all_eq_true] at h
  exact h.2 _ (rd_mem l i h0 (by omega))

theorem and_word (x : Int) (h0 : 0 ≤ x) (h1 : x < 9223372036854775808) : Go.bits .and .i64 x 65535 = x % 65536 := by
  have h := bits_mask .i64 63 (by decide) (fun n a b => by rw [IntKind.wrap_i64]; omega) 16 (by decide) x h0 (by simpa using h1)
  simpa using h
def addW (a b : Int) : Int := if (isWordB a && isWordB b) = true then (a + b) % 65536 else 0
theorem addW_word (a b : Int) : isWordB (addW a b) = true := by
  unfold addW
  split
  · unfold isWordB
    simp only [Bool.and_eq_true, decide_eq_true_eq]
    omega
  · decide

end Go.Proofs.Ythkhgckagifmjaa.Pure
