/- The program's TileColumn answers what the reference's answers, for all numbers. -/
import Derived.Test.YtoihdhhecchjbaaGxPFnExactTileColumn
import Derived.Test.YtoihdhhecchjbaaPureTile
namespace Go.Proofs.Ytoihdhhecchjbaa.Pure
open Go.RowKit Go.Proofs.Ytoihdhhecchjbaa.P Go.Proofs.YtoihdhhecchjbaaW.PrintWords Go.Proofs.YtoihdhhecchjbaaW.PrintLast

theorem spec_TileColumn_go (a0 a1 : Int) (h : spec_l26Ok.f a0 a1 = some true) : ∀ (d k i : Nat) (x : List Int), i + d = 8 → d < k → x.length = i → spec_TileColumn.l0 k a0 a1 x (i : Int) = some (x ++ (List.range' i d).map fun (j : Nat) => wrap64 (wrap64 ((j : Int) * a0) + a1)) := by
  intro d
  induction d with
  | zero =>
    intro k i x hi hk hx
    obtain ⟨k, rfl⟩ : ∃ m, k = m + 1 := ⟨k - 1, by omega⟩
    simp only [spec_TileColumn.l0]
    rw [if_neg (by omega)]
    simp
  | succ d ih =>
    intro k i x hi hk hx
    obtain ⟨k, rfl⟩ : ∃ m, k = m + 1 := ⟨k - 1, by omega⟩
    simp only [spec_TileColumn.l0]
    rw [if_pos (by omega), h]
    simp only [Option.bind_some, if_true]
    rw [if_pos (by omega), w64s i (by omega), ih k (i + 1) _ (by omega) (by omega) (by simp [hx])]
    simp [List.range'_succ]

theorem spec_TileColumn_is (a0 a1 : Int) (k : Nat) (hk : 9 ≤ k) : spec_TileColumn.f k a0 a1 = impl_TileColumn.f a0 a1 := by
  unfold spec_TileColumn.f impl_TileColumn.f
  cases h : (isWidthB a0 && isLaneB a1) with
  | true =>
    have := spec_TileColumn_go a0 a1 (by rw [spec_l26Ok_is, h]) 8 k 0 [] (by omega) (by omega) rfl
    simpa [lanes8, List.range'_succ] using this
  | false =>
    obtain ⟨k, rfl⟩ : ∃ m, k = m + 1 := ⟨k - 1, by omega⟩
    simp only [spec_TileColumn.l0]
    rw [spec_l26Ok_is, h]
    simp

theorem FnExactTileColumn : laws_FnExactTileColumn.Pure := by
  intro a0 a1 _ _
  refine ⟨20, ?_⟩
  obtain ⟨r, hr, hl⟩ : ∃ r, impl_TileColumn.f a0 a1 = some r ∧ r.length ≤ 8 := by
    unfold impl_TileColumn.f
    refine ⟨_, rfl, ?_⟩
    split <;> simp [lanes8]
  unfold laws_FnExactTileColumn.f
  rw [spec_TileColumn_is a0 a1 20 (by omega), hr]
  simp only [Option.bind_some, eqIntS_refl r (by omega) 20 (by omega), markIntS_eq r 1 (by omega) (by omega) (by omega) 20 (by omega), heldIntS_eq 1 r.length (by omega) (by omega) (by omega) 20 (by omega), if_true]
  have hn : ¬ ((1 : Int) + (r.length : Int) < 0) := by omega
  simp only [hn, if_false]

end Go.Proofs.Ytoihdhhecchjbaa.Pure
