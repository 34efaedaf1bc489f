/- The draw of a mask. -/
import Derived.Test.YteehgmbbmlfggaaGxDraws
import Derived.Test.YteehgmbbmlfggaaPureDrawPick
namespace Go.Proofs.Yteehgmbbmlfggaa.Pure
open Go.RowKit Go.Proofs.Yteehgmbbmlfggaa.P Go.Proofs.YteehgmbbmlfggaaW.PrintWords Go.Proofs.YteehgmbbmlfggaaW.PrintLast Go.Proofs.YteehgmbbmlfggaaW.PrintMore

theorem DrawMask_is (l : List Int) (hl : l.length ≤ 1048576) (k : Nat) (hk : 4100 ≤ k) : ∃ v, spec_DrawMask.f k l = some v ∧ isMaskB v = true := by
  unfold spec_DrawMask.f spec_l03Mask.f
  obtain ⟨q, e⟩ := new_is l k hk
  obtain ⟨b1, p1, q1, e1, a1, c1, d1⟩ := below_is l hl 0 q 256 (by omega) (by omega)
  obtain ⟨b2, p2, q2, e2, a2, c2, d2⟩ := below_is l hl p1 q1 256 d1 (by omega)
  obtain ⟨b3, p3, q3, e3, a3, d3⟩ := pick_is l hl p2 q2 d2 [255, 0, 1, 15, 170, b1, b2] (by simp)
  rw [e]
  simp only [Option.bind_some]
  rw [e1]
  simp only [Option.bind_some]
  rw [e2]
  simp only [Option.bind_some]
  rw [e3]
  refine ⟨b3, rfl, ?_⟩
  unfold isMaskB
  simp only [Bool.and_eq_true, decide_eq_true_eq]
  simp only [List.mem_cons, List.not_mem_nil, or_false] at a3
  omega

end Go.Proofs.Yteehgmbbmlfggaa.Pure
