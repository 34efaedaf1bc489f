/- The draw of eight words. -/
import Derived.Test.YteehgmbbmlfggaaGxDraws
import Derived.Test.YteehgmbbmlfggaaPureDrawVal
namespace Go.Proofs.Yteehgmbbmlfggaa.Pure
open Go.RowKit Go.Proofs.Yteehgmbbmlfggaa.P Go.Proofs.YteehgmbbmlfggaaW.PrintWords Go.Proofs.YteehgmbbmlfggaaW.PrintLast Go.Proofs.YteehgmbbmlfggaaW.PrintMore

theorem DrawValues_is (l : List Int) (hl : l.length ≤ 1048576) (k : Nat) (hk : 4100 ≤ k) : ∃ v, spec_DrawValues.f k l = some v ∧ valsB v = true := by
  unfold spec_DrawValues.f
  obtain ⟨q, e⟩ := new_is l k hk
  obtain ⟨v, p', q', e2, h, _⟩ := values_go l hl 8 k 0 [] 0 q (by omega) (by omega) rfl rfl (by omega)
  rw [e]
  simp only [Option.bind_some, spec_l19Values.f]
  rw [show ((0 : Nat) : Int) = 0 from rfl] at e2
  rw [e2]
  exact ⟨v, rfl, h⟩

end Go.Proofs.Yteehgmbbmlfggaa.Pure
