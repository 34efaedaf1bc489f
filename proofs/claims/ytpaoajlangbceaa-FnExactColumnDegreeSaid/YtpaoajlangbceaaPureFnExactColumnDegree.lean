/- The program's ColumnDegree answers what the reference's answers, for all numbers. -/
import Derived.Test.YtpaoajlangbceaaGxPFnExactColumnDegree
import Derived.Test.YtpaoajlangbceaaPureBanks
import Derived.Test.YtpaoajlangbceaaPureTileC
namespace Go.Proofs.Ytpaoajlangbceaa.Pure
open Go.RowKit Go.Proofs.Ytpaoajlangbceaa.P Go.Proofs.YtpaoajlangbceaaW.PrintWords Go.Proofs.YtpaoajlangbceaaW.PrintLast

theorem FnExactColumnDegree : laws_FnExactColumnDegree.Pure := by
  intro a0 _
  obtain ⟨k0, hk0⟩ : ∃ k0 : Nat, 200 ≤ k0 := ⟨200, by omega⟩
  refine ⟨k0, ?_⟩
  obtain ⟨r, hr, hl⟩ : ∃ r, impl_TileColumn.f a0 0 = some r ∧ r.length ≤ 8 := by
    unfold impl_TileColumn.f
    refine ⟨_, rfl, ?_⟩
    split <;> simp [lanes8]
  unfold laws_FnExactColumnDegree.f spec_ColumnDegree.f impl_ColumnDegree.f
  rw [spec_TileColumn_is a0 0 k0 (by omega), hr]
  simp only [Option.bind_some, spec_ConflictDegree_is r 255 (by omega) k0 (by omega), impl_ConflictDegree_is r 255 k0 (by omega), if_true]

end Go.Proofs.Ytpaoajlangbceaa.Pure
