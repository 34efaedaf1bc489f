/- When a list counts as eight addresses: the reference's test answers what the program's does. -/
import Derived.Test.YtfeadincafegcaaGxImpl25
import Derived.Test.YtfeadincafegcaaGxSpec25
import Derived.Test.YtfeadincafegcaaPureBase
namespace Go.Proofs.Ytfeadincafegcaa.Pure
open Go.RowKit Go.Proofs.Ytfeadincafegcaa.P Go.Proofs.YtfeadincafegcaaW.PrintWords Go.Proofs.YtfeadincafegcaaW.PrintLast

theorem drop_cons_rd (l : List Int) (i : Nat) (h : i < l.length) : l.drop i = rd l (i : Int) :: l.drop (i + 1) := by
  rw [List.drop_eq_getElem_cons h]
  congr 1
  have := rd_nat l i h
  rw [List.getElem?_eq_getElem h] at this
  exact Option.some.inj this
theorem l01In_addr (x : Int) : spec_l01In.f x 0 4095 = some (isAddr x) := by
  unfold spec_l01In.f isAddr
  by_cases h : x ≥ 0
  · simp [h]
  · have h' : ¬ 0 ≤ x := h
    simp [h']
theorem spec_AddressesOk_go (l : List Int) (hl : l.length ≤ 1048576) : ∀ (d k i : Nat), i + d = l.length → d < k → spec_AddressesOk.l0 k l (i : Int) = some (decide (l.length = 8) && (l.drop i).all isAddr || (!(l.drop i).all isAddr && false)) := by
  intro d
  induction d with
  | zero =>
    intro k i hi hk
    obtain ⟨k, rfl⟩ : ∃ m, k = m + 1 := ⟨k - 1, by omega⟩
    simp only [spec_AddressesOk.l0]
    rw [if_neg (by omega), List.drop_of_length_le (by omega)]
    by_cases h8 : l.length = 8
    · simp [h8]
    · simp [h8]; omega
  | succ d ih =>
    intro k i hi hk
    obtain ⟨k, rfl⟩ : ∃ m, k = m + 1 := ⟨k - 1, by omega⟩
    simp only [spec_AddressesOk.l0]
    rw [if_pos (by omega), if_pos (by omega), l01In_addr, drop_cons_rd l i (by omega)]
    simp only [Option.bind_some]
    cases h : isAddr (rd l (i : Int)) with
    | true =>
      rw [if_pos rfl, w64s i (by omega), ih k (i + 1) (by omega) (by omega)]
      simp [h]
    | false =>
      simp [h]
theorem spec_AddressesOk_is (l : List Int) (hl : l.length ≤ 1048576) (k : Nat) (hk : l.length < k) : spec_AddressesOk.f k l = some (decide (l.length = 8) && l.all isAddr) := by
  have h := spec_AddressesOk_go l hl l.length k 0 (by omega) hk
  unfold spec_AddressesOk.f
  rw [show ((0 : Nat) : Int) = 0 from rfl] at h
  rw [h]
  simp

end Go.Proofs.Ytfeadincafegcaa.Pure
