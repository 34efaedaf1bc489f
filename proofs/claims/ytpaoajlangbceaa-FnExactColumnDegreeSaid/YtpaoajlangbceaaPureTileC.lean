/- The reference's columns of a tile are the program's. -/
import Derived.Test.YtpaoajlangbceaaGxSpec26
import Derived.Test.YtpaoajlangbceaaGxImpl26
import Derived.Test.YtpaoajlangbceaaPureBase
namespace Go.Proofs.Ytpaoajlangbceaa.Pure
open Go.RowKit Go.Proofs.Ytpaoajlangbceaa.P Go.Proofs.YtpaoajlangbceaaW.PrintWords Go.Proofs.YtpaoajlangbceaaW.PrintLast

theorem spec_l26Ok_is (a0 a1 : Int) : spec_l26Ok.f a0 a1 = some (isWidthB a0 && isLaneB a1) := by
  unfold spec_l26Ok.f spec_l01In.f isWidthB isLaneB
  by_cases h0 : a0 ≥ 8 <;> by_cases h1 : a1 ≥ 0 <;> by_cases h2 : a0 ≤ 64 <;> simp [h0, h1, h2] <;> omega

theorem spec_TileColumn_go (a0 a1 : Int) (h : spec_l26Ok.f a0 a1 = some true) : ∀ (d k i : Nat) (x : List Int), i + d = 8 → d < k → x.length = i → spec_TileColumn.l0 k a0 a1 x (i : Int) = some (x ++ (List.range' i d).map fun (j : Nat) => wrap64 (wrap64 ((j : Int) * a0) + a1)) := by
  intro d
  induction d with
  | zero =>
    intro k i x hi hk hx
    obtain ⟨k, rfl⟩ : ∃ m, k = m + 1 := ⟨k - 1, by omega⟩
    simp only [spec_TileColumn.l0]
    rw [if_neg (by omega)]
    simp
  | succ d ih =>
    intro k i x hi hk hx
    obtain ⟨k, rfl⟩ : ∃ m, k = m + 1 := ⟨k - 1, by omega⟩
    simp only [spec_TileColumn.l0]
    rw [if_pos (by omega), h]
    simp only [Option.bind_some, if_true]
    rw [if_pos (by omega), w64s i (by omega), ih k (i + 1) _ (by omega) (by omega) (by simp [hx])]
    simp [List.range'_succ]

theorem spec_TileColumn_is (a0 a1 : Int) (k : Nat) (hk : 9 ≤ k) : spec_TileColumn.f k a0 a1 = impl_TileColumn.f a0 a1 := by
  unfold spec_TileColumn.f impl_TileColumn.f
  cases h : (isWidthB a0 && isLaneB a1) with
  | true =>
    have := spec_TileColumn_go a0 a1 (by rw [spec_l26Ok_is, h]) 8 k 0 [] (by omega) (by omega) rfl
    simpa [lanes8, List.range'_succ] using this
  | false =>
    obtain ⟨k, rfl⟩ : ∃ m, k = m + 1 := ⟨k - 1, by omega⟩
    simp only [spec_TileColumn.l0]
    rw [spec_l26Ok_is, h]
    simp


end Go.Proofs.Ytpaoajlangbceaa.Pure
