/- The degree of a column is the greatest common divisor of the width and the number of banks, and rows have no conflicts, for every setting. -/
import Derived.Test.YtpaoajlangbceaaGxPFnColumns
import Derived.Test.YtpaoajlangbceaaPureBanks
import Derived.Test.YtpaoajlangbceaaPureDrawPlace
namespace Go.Proofs.Ytpaoajlangbceaa.Pure
open Go.RowKit Go.Proofs.Ytpaoajlangbceaa.P Go.Proofs.YtpaoajlangbceaaW.PrintWords Go.Proofs.YtpaoajlangbceaaW.PrintLast Go.Proofs.YtpaoajlangbceaaW.PrintMore

/-- The greatest common divisor of 8 and a rest. -/
def gcd8 (r : Int) : Int := if r = 0 then 8 else if r = 4 then 4 else if r = 2 then 2 else if r = 6 then 2 else 1
theorem col_deg : ∀ w : Fin 57, ∀ k : Fin 8, degL (lanes8 fun i => wrap64 (wrap64 (i * ((8 + w.val : Nat) : Int)) + ((k.val : Nat) : Int))) 255 = gcd8 (Int.tmod ((8 + w.val : Nat) : Int) 8) ∧ degL (lanes8 fun i => wrap64 (wrap64 (((k.val : Nat) : Int) * ((8 + w.val : Nat) : Int)) + i)) 255 = 1 := by decide +kernel
theorem co_ne (k : Nat) (x3 : List Int) (x4 x5 x6 : Int) (h : ¬ x6 = 0) : laws_FnColumns.l0 (k + 1) x3 x4 x5 x6 = laws_FnColumns.l0 k x3 x4 x6 (Int.tmod x5 x6) := by
  simp only [laws_FnColumns.l0]
  rw [if_neg h]
theorem co_loop (k : Nat) (x3 : List Int) (w : Int) (hw : 0 ≤ w) : ∃ k', k ≤ k' ∧ laws_FnColumns.l0 (k + 10) x3 w w 8 = laws_FnColumns.l0 k' x3 w (gcd8 (Int.tmod w 8)) 0 := by
  rw [co_ne (k + 9) x3 w w 8 (by decide)]
  obtain ⟨r, hr⟩ : ∃ r, r = Int.tmod w 8 := ⟨_, rfl⟩
  have h0 : 0 ≤ r := by rw [hr]; exact Int.tmod_nonneg _ hw
  have h1 : r < 8 := by rw [hr]; exact Int.tmod_lt_of_pos _ (by omega)
  rw [← hr]
  have hc : r = 0 ∨ r = 1 ∨ r = 2 ∨ r = 3 ∨ r = 4 ∨ r = 5 ∨ r = 6 ∨ r = 7 := by omega
  rcases hc with rfl | rfl | rfl | rfl | rfl | rfl | rfl | rfl
  · exact ⟨k + 9, by omega, rfl⟩
  · rw [co_ne (k + 8) x3 w 8 1 (by decide), show Int.tmod 8 1 = 0 by decide]
    exact ⟨k + 8, by omega, rfl⟩
  · rw [co_ne (k + 8) x3 w 8 2 (by decide), show Int.tmod 8 2 = 0 by decide]
    exact ⟨k + 8, by omega, rfl⟩
  · rw [co_ne (k + 8) x3 w 8 3 (by decide), show Int.tmod 8 3 = 2 by decide]
    rw [co_ne (k + 7) x3 w 3 2 (by decide), show Int.tmod 3 2 = 1 by decide]
    rw [co_ne (k + 6) x3 w 2 1 (by decide), show Int.tmod 2 1 = 0 by decide]
    exact ⟨k + 6, by omega, rfl⟩
  · rw [co_ne (k + 8) x3 w 8 4 (by decide), show Int.tmod 8 4 = 0 by decide]
    exact ⟨k + 8, by omega, rfl⟩
  · rw [co_ne (k + 8) x3 w 8 5 (by decide), show Int.tmod 8 5 = 3 by decide]
    rw [co_ne (k + 7) x3 w 5 3 (by decide), show Int.tmod 5 3 = 2 by decide]
    rw [co_ne (k + 6) x3 w 3 2 (by decide), show Int.tmod 3 2 = 1 by decide]
    rw [co_ne (k + 5) x3 w 2 1 (by decide), show Int.tmod 2 1 = 0 by decide]
    exact ⟨k + 5, by omega, rfl⟩
  · rw [co_ne (k + 8) x3 w 8 6 (by decide), show Int.tmod 8 6 = 2 by decide]
    rw [co_ne (k + 7) x3 w 6 2 (by decide), show Int.tmod 6 2 = 0 by decide]
    exact ⟨k + 7, by omega, rfl⟩
  · rw [co_ne (k + 8) x3 w 8 7 (by decide), show Int.tmod 8 7 = 1 by decide]
    rw [co_ne (k + 7) x3 w 7 1 (by decide), show Int.tmod 7 1 = 0 by decide]
    exact ⟨k + 7, by omega, rfl⟩
theorem col_deg' (w k : Nat) (hw : w < 57) (hk : k < 8) : degL (lanes8 fun i => wrap64 (wrap64 (i * ((8 + w : Nat) : Int)) + (k : Int))) 255 = gcd8 (Int.tmod ((8 + w : Nat) : Int) 8) ∧ degL (lanes8 fun i => wrap64 (wrap64 ((k : Int) * ((8 + w : Nat) : Int)) + i)) 255 = 1 := col_deg ⟨w, hw⟩ ⟨k, hk⟩
theorem tile_col (a b : Int) (h0 : isWidthB a = true) (h1 : isLaneB b = true) : impl_TileColumn.f a b = some (lanes8 fun i => wrap64 (wrap64 (i * a) + b)) := by
  unfold impl_TileColumn.f
  rw [h0, h1, Bool.and_self, if_pos rfl]
theorem tile_row (a b : Int) (h0 : isWidthB a = true) (h1 : isLaneB b = true) : impl_TileRow.f a b = some (lanes8 fun i => wrap64 (wrap64 (b * a) + i)) := by
  unfold impl_TileRow.f
  rw [h0, h1, Bool.and_self, if_pos rfl]
theorem co_fin (k : Nat) (hk : 40 ≤ k) (p : List Int) (hp : 1 < (p.length : Int)) (W q g : Int) (hW : isWidthB W = true) (hL : isLaneB q = true) (hq : Int.tmod (rd p 1) 8 = q) (h1 : degL (lanes8 fun i => wrap64 (wrap64 (i * W) + 0)) 255 = g) (h2 : degL (lanes8 fun i => wrap64 (wrap64 (i * W) + q)) 255 = g) (h3 : degL (lanes8 fun i => wrap64 (wrap64 (q * W) + i)) 255 = 1) : laws_FnColumns.l0 (k + 1) p W g 0 = some true := by
  have c1 : impl_ColumnDegree.f k W = some g := by
    unfold impl_ColumnDegree.f
    rw [tile_col W 0 hW (by decide)]
    simp only [Option.bind_some]
    rw [impl_ConflictDegree_is _ 255 k hk, h1]
    rfl
  simp only [laws_FnColumns.l0]
  rw [if_pos trivial, if_pos hp, c1, hq, tile_col W q hW hL, tile_row W q hW hL]
  simp only [Option.bind_some]
  rw [if_pos trivial, impl_ConflictDegree_is _ 255 k hk, h2]
  simp only [Option.bind_some]
  rw [if_pos trivial, impl_ConflictDegree_is _ 255 k hk, h3]
  rfl
theorem FnColumns : laws_FnColumns.Pure := by
  intro l _ _ _
  obtain ⟨k0, hk0⟩ : ∃ k0 : Nat, 4100 ≤ k0 := ⟨4100, by omega⟩
  refine ⟨k0 + 10, ?_⟩
  unfold laws_FnColumns.f
  simp only [laws_big.f, Option.bind_some, decide_eq_true_eq]
  by_cases hb : (l.length : Int) > 1048576
  · rw [if_pos hb]
  · rw [if_neg hb]
    have hl : l.length ≤ 1048576 := by omega
    obtain ⟨p, ep, hp12, hp⟩ := DrawPlaces_is l hl (k0 + 10) (by omega)
    rw [ep]
    simp only [Option.bind_some]
    rw [if_pos (by omega)]
    have g0 : 0 ≤ rd p 0 := (hp _ (List.mem_of_getElem? (rd_nat p 0 (by omega)))).1
    have g1 : 0 ≤ rd p 1 := (hp _ (List.mem_of_getElem? (rd_nat p 1 (by omega)))).1
    have a0 : 0 ≤ Int.tmod (rd p 0) 57 := Int.tmod_nonneg _ g0
    have a1 : Int.tmod (rd p 0) 57 < 57 := Int.tmod_lt_of_pos _ (by omega)
    have b0 : 0 ≤ Int.tmod (rd p 1) 8 := Int.tmod_nonneg _ g1
    have b1 : Int.tmod (rd p 1) 8 < 8 := Int.tmod_lt_of_pos _ (by omega)
    rw [w64 (by omega) (by omega)]
    obtain ⟨k', hk', e⟩ := co_loop k0 p (8 + Int.tmod (rd p 0) 57) (by omega)
    rw [e]
    obtain ⟨w, hw⟩ := Int.eq_ofNat_of_zero_le a0
    obtain ⟨q, hq⟩ := Int.eq_ofNat_of_zero_le b0
    rw [hw, show (8 : Int) + (w : Int) = ((8 + w : Nat) : Int) by omega]
    obtain ⟨k'', hk''⟩ : ∃ m, k' = m + 1 := ⟨k' - 1, by omega⟩
    rw [hk'']
    have hd := col_deg' w q (by omega) (by omega)
    have hd0 := (col_deg' w 0 (by omega) (by omega)).1
    exact co_fin k'' (by omega) p (by omega) _ _ _ (by unfold isWidthB; simp only [Bool.and_eq_true, decide_eq_true_eq]; omega) (by unfold isLaneB; simp only [Bool.and_eq_true, decide_eq_true_eq]; omega) hq hd0 hd.1 hd.2

end Go.Proofs.Ytpaoajlangbceaa.Pure
