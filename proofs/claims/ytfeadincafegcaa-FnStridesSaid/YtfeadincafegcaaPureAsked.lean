/- When addresses and a mask count as asked for. -/
import Derived.Test.YtfeadincafegcaaGxImpl25
import Derived.Test.YtfeadincafegcaaPureAddresses
import Derived.Test.YtfeadincafegcaaPureMasks
namespace Go.Proofs.Ytfeadincafegcaa.Pure
open Go.RowKit Go.Proofs.Ytfeadincafegcaa.P Go.Proofs.YtfeadincafegcaaW.PrintWords Go.Proofs.YtfeadincafegcaaW.PrintLast Go.Proofs.YtfeadincafegcaaW.PrintMore

def askedB (l : List Int) (m : Int) : Bool := (decide (l.length = 8) && l.all isAddr) && isMaskB m
theorem impl_areAsked_is (l : List Int) (m : Int) : impl_areAsked.f l m = some (askedB l m) := by
  unfold impl_areAsked.f askedB impl_AddressesOk.f
  rw [impl_IsMask_is]
  cases decide (l.length = 8) && l.all isAddr <;> rfl
theorem askedB_len {l : List Int} {m : Int} (h : askedB l m = true) : l.length = 8 := by
  unfold askedB at h
  simp only [Bool.and_eq_true, decide_eq_true_eq] at h
  exact h.1.1
theorem rd_small {l : List Int} {m : Int} (h : askedB l m = true) (i : Int) : 0 ≤ rd l i ∧ rd l i ≤ 4095 := by
  unfold askedB at h
  simp only [Bool.and_eq_true, decide_eq_true_eq, List.all_eq_true] at h
  unfold rd
  by_cases c : i.toNat < l.length
  · have hm : l.getD i.toNat 0 ∈ l := by
      rw [List.getD_eq_getElem?_getD, List.getElem?_eq_getElem c]
      exact List.getElem_mem c
    have := h.1.2 _ hm
    unfold isAddr at this
    simp only [Bool.and_eq_true, decide_eq_true_eq] at this
    omega
  · rw [List.getD_eq_getElem?_getD, List.getElem?_eq_none (by omega)]
    simp
theorem lanes_ok (m : Int) : (lanesL m).length ≤ 8 ∧ ∀ j : Nat, j < (lanesL m).length → 0 ≤ rd (lanesL m) (j : Int) ∧ rd (lanesL m) (j : Int) < 8 := by
  refine ⟨lanesL_len m, fun j hj => ?_⟩
  have := lanesL_mem (rd_mem' (lanesL m) j hj)
  exact ⟨this.1, this.2.1⟩

end Go.Proofs.Ytfeadincafegcaa.Pure
