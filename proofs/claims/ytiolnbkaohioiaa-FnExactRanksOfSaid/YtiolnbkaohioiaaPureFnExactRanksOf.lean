/- The program's RanksOf answers what the reference's answers, for all numbers. -/
import Derived.Test.YtiolnbkaohioiaaGxPFnExactRanksOf
import Derived.Test.YtiolnbkaohioiaaPureRanks
namespace Go.Proofs.Ytiolnbkaohioiaa.Pure
open Go.RowKit Go.Proofs.Ytiolnbkaohioiaa.P Go.Proofs.YtiolnbkaohioiaaW.PrintWords Go.Proofs.YtiolnbkaohioiaaW.PrintLast

theorem FnExactRanksOf : laws_FnExactRanksOf.Pure := by
  intro a0 _
  refine ⟨40, ?_⟩
  have hr := ranksL_len a0
  have hs := spec_RanksOf_is a0 40 (by omega)
  have hi := impl_RanksOf_is a0 40 (by omega)
  generalize ranksL a0 = r at hr hs hi
  unfold laws_FnExactRanksOf.f
  rw [hs, hi]
  simp only [Option.bind_some, eqIntS_refl r (by omega) 40 (by omega), markIntS_eq r 1 (by omega) (by omega) (by omega) 40 (by omega), heldIntS_eq 1 r.length (by omega) (by omega) (by omega) 40 (by omega), if_true]
  have hn : ¬ ((1 : Int) + (r.length : Int) < 0) := by omega
  simp only [hn, if_false]

end Go.Proofs.Ytiolnbkaohioiaa.Pure
