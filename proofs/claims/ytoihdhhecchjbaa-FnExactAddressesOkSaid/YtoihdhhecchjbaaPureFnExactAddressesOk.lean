/- The program's AddressesOk answers what the reference's answers, for all lists. -/
import Derived.Test.YtoihdhhecchjbaaGxPFnExactAddressesOk
import Derived.Test.YtoihdhhecchjbaaPureAddresses
namespace Go.Proofs.Ytoihdhhecchjbaa.Pure
open Go.RowKit Go.Proofs.Ytoihdhhecchjbaa.P Go.Proofs.YtoihdhhecchjbaaW.PrintWords Go.Proofs.YtoihdhhecchjbaaW.PrintLast

theorem FnExactAddressesOk : laws_FnExactAddressesOk.Pure := by
  intro l _ _ _
  refine ⟨l.length + 2, ?_⟩
  unfold laws_FnExactAddressesOk.f
  by_cases hb : (l.length : Int) > 1048576
  · rw [if_pos hb]
  · rw [if_neg hb]
    have hl : l.length ≤ 1048576 := by omega
    rw [toIntS_eq l hl _ (by omega)]
    simp only [Option.bind_some]
    rw [spec_AddressesOk_is l hl _ (by omega)]
    unfold impl_AddressesOk.f
    simp only [Option.bind_some, bne_self_eq_false]
    rw [eqIntS_refl l (by omega) _ (by omega)]
    rfl

end Go.Proofs.Ytoihdhhecchjbaa.Pure
