/- Words, lists of words, masks: the program's tests and the reference's, told by plain Bools. -/
import Derived.Test.YteehgmbbmlfggaaGxLibContains
import Derived.Test.YteehgmbbmlfggaaGxImpl02
import Derived.Test.YteehgmbbmlfggaaGxImpl19
import Derived.Test.YteehgmbbmlfggaaPureMark
import Derived.Test.YteehgmbbmlfggaaPureMasks
namespace Go.Proofs.Yteehgmbbmlfggaa.Pure
open Go.RowKit Go.Proofs.Yteehgmbbmlfggaa.P Go.Proofs.YteehgmbbmlfggaaW.PrintWords Go.Proofs.YteehgmbbmlfggaaW.PrintLast Go.Proofs.YteehgmbbmlfggaaW.PrintMore

theorem drop_cons_rd (l : List Int) (i : Nat) (h : i < l.length) : l.drop i = rd l (i : Int) :: l.drop (i + 1) := by
  rw [List.drop_eq_getElem_cons h]
  congr 1
  have := rd_nat l i h
  rw [List.getElem?_eq_getElem h] at this
  exact Option.some.inj this
def valsB (l : List Int) : Bool := decide (l.length = 8) && l.all isWordB
theorem impl_ValuesOk_is (l : List Int) : impl_ValuesOk.f l = some (valsB l) := by
  unfold impl_ValuesOk.f valsB impl_AreWords.f
  by_cases h : l.length = 8
  · rw [if_pos (by omega)]
    simp [h]
  · rw [if_neg (by omega)]
    simp [h]
theorem impl_areVotes_is (l : List Int) (m : Int) : impl_areVotes.f l m = some (valsB l && isMaskB m) := by
  unfold impl_areVotes.f
  rw [impl_ValuesOk_is]
  simp only [Option.bind_some]
  cases valsB l with
  | true => simp [impl_IsMask_is]
  | false => simp
theorem valsB_len {l : List Int} (h : valsB l = true) : l.length = 8 := by
  unfold valsB at h
  simp at h
  exact h.1
theorem valsB_word {l : List Int} (h : valsB l = true) (i : Int) (h0 : 0 ≤ i) (h1 : i < 8) : isWordB (rd l i) = true := by
  have hl := valsB_len h
  unfold valsB at h
  simp only [Bool.and_eq_true, List.all_eq_true] at h
  exact h.2 _ (rd_mem l i h0 (by omega))

theorem and_word (x : Int) (h0 : 0 ≤ x) (h1 : x < 9223372036854775808) : Go.bits .and .i64 x 65535 = x % 65536 := by
  have h := bits_mask .i64 63 (by decide) (fun n a b => by rw [IntKind.wrap_i64]; omega) 16 (by decide) x h0 (by simpa using h1)
  simpa using h
def addW (a b : Int) : Int := if (isWordB a && isWordB b) = true then (a + b) % 65536 else 0
theorem impl_AddWords_is (a b : Int) : impl_AddWords.f a b = some (addW a b) := by
  unfold impl_AddWords.f impl_wrapped.f addW
  rw [impl_IsWord.is, impl_IsWord.is]
  simp only [Option.bind_some]
  cases ha : isWordB a with
  | false => simp
  | true =>
    cases hb : isWordB b with
    | false => simp
    | true =>
      unfold isWordB at ha hb
      simp only [Bool.and_eq_true, decide_eq_true_eq] at ha hb
      unfold impl_WrapWord.f
      rw [w64 (by omega) (by omega), and_word (a + b) (by omega) (by omega)]
      simp
theorem addW_word (a b : Int) : isWordB (addW a b) = true := by
  unfold addW
  split
  · unfold isWordB
    simp only [Bool.and_eq_true, decide_eq_true_eq]
    omega
  · decide

end Go.Proofs.Yteehgmbbmlfggaa.Pure
