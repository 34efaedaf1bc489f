/- The draw of one element of a list. -/
import Derived.Test.YteehgmbbmlfggaaGxDraws
import Derived.Test.YteehgmbbmlfggaaPureDrawNew
import Derived.Test.YteehgmbbmlfggaaPureMasks
namespace Go.Proofs.Yteehgmbbmlfggaa.Pure
open Go.RowKit Go.Proofs.Yteehgmbbmlfggaa.P Go.Proofs.YteehgmbbmlfggaaW.PrintWords Go.Proofs.YteehgmbbmlfggaaW.PrintLast Go.Proofs.YteehgmbbmlfggaaW.PrintMore

theorem pick_is (l : List Int) (hl : l.length ≤ 1048576) (p q : Int) (hp : 0 ≤ p) (t : List Int) (ht : 1 ≤ t.length) : ∃ b p' q', spec_l01PickInt.f l p q t = some (b, p', q') ∧ b ∈ t ∧ 0 ≤ p' := by
  unfold spec_l01PickInt.f
  obtain ⟨b, p', q', e, h0, h1, h2⟩ := below_is l hl p q (t.length : Int) hp (by omega)
  rw [e]
  simp only [Option.bind_some]
  rw [if_pos h0, if_pos h1]
  refine ⟨_, _, _, rfl, ?_, h2⟩
  have := rd_mem' t b.toNat (by omega)
  rw [Int.toNat_of_nonneg h0] at this
  exact this

end Go.Proofs.Yteehgmbbmlfggaa.Pure
