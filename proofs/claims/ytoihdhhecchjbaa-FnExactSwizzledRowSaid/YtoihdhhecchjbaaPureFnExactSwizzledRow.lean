/- The program's SwizzledRow answers what the reference's answers, for all numbers. -/
import Derived.Test.YtoihdhhecchjbaaGxPFnExactSwizzledRow
import Derived.Test.YtoihdhhecchjbaaPureTile
namespace Go.Proofs.Ytoihdhhecchjbaa.Pure
open Go.RowKit Go.Proofs.Ytoihdhhecchjbaa.P Go.Proofs.YtoihdhhecchjbaaW.PrintWords Go.Proofs.YtoihdhhecchjbaaW.PrintLast

theorem spec_SwizzledRow_go (a0 : Int) (h : spec_l01In.f a0 0 7 = some true) : ∀ (d k i : Nat) (x : List Int), i + d = 8 → d < k → x.length = i → spec_SwizzledRow.l0 k a0 x (i : Int) = some (x ++ (List.range' i d).map fun (j : Nat) => swz a0 (j : Int)) := by
  intro d
  induction d with
  | zero =>
    intro k i x hi hk hx
    obtain ⟨k, rfl⟩ : ∃ m, k = m + 1 := ⟨k - 1, by omega⟩
    simp only [spec_SwizzledRow.l0]
    rw [if_neg (by omega)]
    simp
  | succ d ih =>
    intro k i x hi hk hx
    obtain ⟨k, rfl⟩ : ∃ m, k = m + 1 := ⟨k - 1, by omega⟩
    simp only [spec_SwizzledRow.l0]
    rw [if_pos (by omega), h]
    simp only [Option.bind_some, if_true]
    rw [spec_SwizzledAt_is]
    simp only [Option.bind_some]
    rw [if_pos (by omega), w64s i (by omega), ih k (i + 1) _ (by omega) (by omega) (by simp [hx])]
    simp [List.range'_succ]
theorem spec_SwizzledRow_is (a0 : Int) (k : Nat) (hk : 9 ≤ k) : spec_SwizzledRow.f k a0 = impl_SwizzledRow.f a0 := by
  unfold spec_SwizzledRow.f impl_SwizzledRow.f
  cases h : isLaneB a0 with
  | true =>
    have := spec_SwizzledRow_go a0 (by rw [l01In_lane, h]) 8 k 0 [] (by omega) (by omega) rfl
    simpa [lanes8, List.range'_succ] using this
  | false =>
    obtain ⟨k, rfl⟩ : ∃ m, k = m + 1 := ⟨k - 1, by omega⟩
    simp only [spec_SwizzledRow.l0]
    rw [l01In_lane, h]
    simp

theorem FnExactSwizzledRow : laws_FnExactSwizzledRow.Pure := by
  intro a0 _
  refine ⟨20, ?_⟩
  obtain ⟨r, hr, hl⟩ : ∃ r, impl_SwizzledRow.f a0 = some r ∧ r.length ≤ 8 := by
    unfold impl_SwizzledRow.f
    refine ⟨_, rfl, ?_⟩
    split <;> simp [lanes8]
  unfold laws_FnExactSwizzledRow.f
  rw [spec_SwizzledRow_is a0 20 (by omega), hr]
  simp only [Option.bind_some, eqIntS_refl r (by omega) 20 (by omega), markIntS_eq r 1 (by omega) (by omega) (by omega) 20 (by omega), heldIntS_eq 1 r.length (by omega) (by omega) (by omega) 20 (by omega), if_true]
  have hn : ¬ ((1 : Int) + (r.length : Int) < 0) := by omega
  simp only [hn, if_false]

end Go.Proofs.Ytoihdhhecchjbaa.Pure
