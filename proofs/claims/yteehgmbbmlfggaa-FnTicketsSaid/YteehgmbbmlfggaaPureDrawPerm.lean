/- The draw of an order of the lanes. -/
import Derived.Test.YteehgmbbmlfggaaGxDraws
import Derived.Test.YteehgmbbmlfggaaPureDrawNew
import Derived.Test.YteehgmbbmlfggaaPureMasks
namespace Go.Proofs.Yteehgmbbmlfggaa.Pure
open Go.RowKit Go.Proofs.Yteehgmbbmlfggaa.P Go.Proofs.YteehgmbbmlfggaaW.PrintWords Go.Proofs.YteehgmbbmlfggaaW.PrintLast Go.Proofs.YteehgmbbmlfggaaW.PrintMore

theorem perm_go (l : List Int) (hl : l.length ≤ 1048576) (t : List Int) (ht : t.length = 8) : ∀ (i k : Nat) (x : List Int) (p q : Int), i ≤ 7 → i < k → x.Perm t → 0 ≤ p → ∃ y p' q', spec_l20Perm.l0 k x (i : Int) l p q = some (y, p', q') ∧ y.Perm t ∧ 0 ≤ p' := by
  intro i
  induction i with
  | zero =>
    intro k x p q hi hk hx hp
    obtain ⟨k, rfl⟩ : ∃ m, k = m + 1 := ⟨k - 1, by omega⟩
    simp only [spec_l20Perm.l0]
    rw [if_neg (by omega)]
    exact ⟨_, _, _, rfl, hx, hp⟩
  | succ i ih =>
    intro k x p q hi hk hx hp
    obtain ⟨k, rfl⟩ : ∃ m, k = m + 1 := ⟨k - 1, by omega⟩
    have h8 : x.length = 8 := by rw [hx.length_eq, ht]
    simp only [spec_l20Perm.l0]
    rw [if_pos (by omega), w64s (i + 1) (by omega)]
    obtain ⟨b, p1, q1, e1, a1, c1, d1⟩ := below_is l hl p q ((i + 1 + 1 : Nat) : Int) hp (by omega)
    rw [e1]
    simp only [Option.bind_some]
    rw [if_pos (by omega), if_pos (by omega), if_pos (by omega), if_pos (by omega), w64 (x := ((i + 1 : Nat) : Int) - 1) (by omega) (by omega), show ((i + 1 : Nat) : Int) - 1 = (i : Int) by omega]
    refine ih k _ p1 q1 (by omega) (by omega) (List.Perm.trans ?_ hx) d1
    obtain ⟨n, rfl⟩ := Int.eq_ofNat_of_zero_le a1
    have h1 := rd_nat x n (by omega)
    have h2 := rd_nat x (i + 1) (by omega)
    rw [List.getElem?_eq_getElem (by omega)] at h1 h2
    rw [← Option.some.inj h1, ← Option.some.inj h2]
    simp only [Int.toNat_natCast]
    exact List.set_set_perm (by omega) (by omega)
theorem DrawPermutation_is (l : List Int) (hl : l.length ≤ 1048576) (k : Nat) (hk : 4100 ≤ k) : ∃ v, spec_DrawPermutation.f k l = some v ∧ v.Perm [0, 1, 2, 3, 4, 5, 6, 7] := by
  unfold spec_DrawPermutation.f
  obtain ⟨q, e⟩ := new_is l k hk
  obtain ⟨v, p', q', e2, h, _⟩ := perm_go l hl [0, 1, 2, 3, 4, 5, 6, 7] rfl 7 k [0, 1, 2, 3, 4, 5, 6, 7] 0 q (by omega) (by omega) (List.Perm.refl _) (by omega)
  rw [e]
  simp only [Option.bind_some, spec_l20Perm.f]
  rw [show ((7 : Nat) : Int) = 7 from rfl] at e2
  rw [e2]
  exact ⟨v, rfl, h⟩


end Go.Proofs.Yteehgmbbmlfggaa.Pure
