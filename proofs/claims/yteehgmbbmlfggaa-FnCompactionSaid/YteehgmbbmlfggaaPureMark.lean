/- Plain laws about marking a list of whole numbers and finding the marks again. -/
import Derived.Test.YteehgmbbmlfggaaPureBase
namespace Go.Proofs.Yteehgmbbmlfggaa.Pure
open Go.RowKit Go.Proofs.Yteehgmbbmlfggaa.P Go.Proofs.YteehgmbbmlfggaaW.PrintWords Go.Proofs.YteehgmbbmlfggaaW.PrintLast Go.Proofs.YteehgmbbmlfggaaW.PrintMore

def marks (s : Int) (n : Nat) : List Int := (List.range n).map fun (i : Nat) => s + (i : Int)
theorem marks_len (s : Int) (n : Nat) : (marks s n).length = n := by simp [marks]
theorem marks_get (s : Int) (n j : Nat) (h : j < n) : (marks s n)[j]? = some (s + (j : Int)) := by simp [marks, h]
theorem rd_marks (s : Int) (n j : Nat) (h : j < n) : rd (marks s n) (j : Int) = s + (j : Int) := by
  have h1 := rd_nat (marks s n) j (by rw [marks_len]; exact h)
  rw [marks_get s n j h] at h1
  exact (Option.some.inj h1).symm

end Go.Proofs.Yteehgmbbmlfggaa.Pure
