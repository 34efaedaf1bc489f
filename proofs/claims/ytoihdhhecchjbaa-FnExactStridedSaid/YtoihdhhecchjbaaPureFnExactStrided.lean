/- The program's Strided answers what the reference's answers, for all numbers. -/
import Derived.Test.YtoihdhhecchjbaaGxPFnExactStrided
import Derived.Test.YtoihdhhecchjbaaPureStrided
namespace Go.Proofs.Ytoihdhhecchjbaa.Pure
open Go.RowKit Go.Proofs.Ytoihdhhecchjbaa.P Go.Proofs.YtoihdhhecchjbaaW.PrintWords Go.Proofs.YtoihdhhecchjbaaW.PrintLast

theorem FnExactStrided : laws_FnExactStrided.Pure := by
  intro a0 a1 _ _
  refine ⟨20, ?_⟩
  have hl := stridesL_len a0 a1
  have hs := spec_Strided_is a0 a1 20 (by omega)
  have hr := impl_Strided_is a0 a1
  generalize stridesL a0 a1 = r at hl hs hr
  unfold laws_FnExactStrided.f
  rw [hs, hr]
  simp only [Option.bind_some, eqIntS_refl r (by omega) 20 (by omega), markIntS_eq r 1 (by omega) (by omega) (by omega) 20 (by omega), heldIntS_eq 1 r.length (by omega) (by omega) (by omega) 20 (by omega), if_true]
  have hn : ¬ ((1 : Int) + (r.length : Int) < 0) := by omega
  simp only [hn, if_false]

end Go.Proofs.Ytoihdhhecchjbaa.Pure
