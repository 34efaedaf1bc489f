/- The draw of a word. -/
import Derived.Test.YteehgmbbmlfggaaGxDraws
import Derived.Test.YteehgmbbmlfggaaPureDrawVal
namespace Go.Proofs.Yteehgmbbmlfggaa.Pure
open Go.RowKit Go.Proofs.Yteehgmbbmlfggaa.P Go.Proofs.YteehgmbbmlfggaaW.PrintWords Go.Proofs.YteehgmbbmlfggaaW.PrintLast Go.Proofs.YteehgmbbmlfggaaW.PrintMore

theorem DrawWord_is (l : List Int) (hl : l.length ≤ 1048576) (k : Nat) (hk : 4100 ≤ k) : ∃ v, spec_DrawWord.f k l = some v ∧ isWordB v = true := by
  unfold spec_DrawWord.f
  obtain ⟨q, e⟩ := new_is l k hk
  obtain ⟨v, p', q', e2, h, _⟩ := word_is l hl 0 q (by omega)
  rw [e]
  simp only [Option.bind_some]
  rw [e2]
  exact ⟨v, rfl, h⟩

end Go.Proofs.Yteehgmbbmlfggaa.Pure
