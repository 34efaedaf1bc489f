/- The program's ConflictDegree answers what the reference's answers, for all arguments. -/
import Derived.Test.YtpaoajlangbceaaGxPFnExactConflictDegree
import Derived.Test.YtpaoajlangbceaaPureBanks
namespace Go.Proofs.Ytpaoajlangbceaa.Pure
open Go.RowKit Go.Proofs.Ytpaoajlangbceaa.P Go.Proofs.YtpaoajlangbceaaW.PrintWords Go.Proofs.YtpaoajlangbceaaW.PrintLast

theorem FnExactConflictDegree : laws_FnExactConflictDegree.Pure := by
  intro l m _ _ _ _
  refine ⟨l.length + 100, ?_⟩
  unfold laws_FnExactConflictDegree.f
  by_cases hb : (l.length : Int) > 1048576
  · rw [if_pos hb]
  · rw [if_neg hb]
    have hl : l.length ≤ 1048576 := by omega
    simp only [toIntS_eq l hl (l.length + 100) (by omega), Option.bind_some, spec_ConflictDegree_is l m hl (l.length + 100) (by omega), impl_ConflictDegree_is l m (l.length + 100) (by omega), eqIntS_refl l (by omega) (l.length + 100) (by omega), if_true]

end Go.Proofs.Ytpaoajlangbceaa.Pure
