/- The program's CountValue answers what the reference's answers, for all lists and numbers. -/
import Derived.Test.YtoihdhhecchjbaaGxPFnExactCountValue
import Derived.Test.YtoihdhhecchjbaaPureBase
namespace Go.Proofs.Ytoihdhhecchjbaa.Pure
open Go.RowKit Go.Proofs.Ytoihdhhecchjbaa.P Go.Proofs.YtoihdhhecchjbaaW.PrintWords Go.Proofs.YtoihdhhecchjbaaW.PrintLast

def cntFrom (l : List Int) (n : Int) (i d : Nat) : Nat := ((List.range' i d).filter fun (j : Nat) => decide (rd l (j : Int) = n)).length
theorem cntFrom_succ (l : List Int) (n : Int) (i d : Nat) : cntFrom l n i (d + 1) = (if rd l (i : Int) = n then 1 else 0) + cntFrom l n (i + 1) d := by
  unfold cntFrom
  rw [List.range'_succ, List.filter_cons]
  by_cases h : rd l (i : Int) = n
  · simp [h]; omega
  · simp [h]

theorem spec_CountValue_go (l : List Int) (n : Int) (hl : l.length ≤ 1048576) : ∀ (d k i c : Nat), i + d = l.length → d < k → c ≤ i → spec_CountValue.l0 k l n (c : Int) (i : Int) = some ((c + cntFrom l n i d : Nat) : Int) := by
  intro d
  induction d with
  | zero =>
    intro k i c hi hk hc
    obtain ⟨k, rfl⟩ : ∃ m, k = m + 1 := ⟨k - 1, by omega⟩
    simp only [spec_CountValue.l0]
    rw [if_neg (by omega)]
    simp [cntFrom]
  | succ d ih =>
    intro k i c hi hk hc
    obtain ⟨k, rfl⟩ : ∃ m, k = m + 1 := ⟨k - 1, by omega⟩
    simp only [spec_CountValue.l0]
    rw [if_pos (by omega), if_pos (by omega), w64s i (by omega), w64s c (by omega), cntFrom_succ]
    by_cases h : rd l (i : Int) = n
    · rw [if_pos h, if_pos h, ih k (i + 1) (c + 1) (by omega) (by omega) (by omega)]
      congr 2; omega
    · rw [if_neg h, if_neg h, ih k (i + 1) c (by omega) (by omega) (by omega)]
      congr 2; omega
theorem impl_CountValue_go (l : List Int) (n : Int) (hl : l.length ≤ 1048576) : ∀ (d k i c : Nat), i + d = l.length → d < k → c ≤ i → impl_CountValue.l0 k n (c : Int) l (l.length : Int) (i : Int) = some ((c + cntFrom l n i d : Nat) : Int) := by
  intro d
  induction d with
  | zero =>
    intro k i c hi hk hc
    obtain ⟨k, rfl⟩ : ∃ m, k = m + 1 := ⟨k - 1, by omega⟩
    simp only [impl_CountValue.l0]
    rw [if_neg (by omega)]
    simp [cntFrom]
  | succ d ih =>
    intro k i c hi hk hc
    obtain ⟨k, rfl⟩ : ∃ m, k = m + 1 := ⟨k - 1, by omega⟩
    simp only [impl_CountValue.l0]
    rw [if_pos (by omega), if_pos (by omega), if_pos (by omega), w64s i (by omega), w64s c (by omega), cntFrom_succ]
    by_cases h : rd l (i : Int) = n
    · rw [if_pos h, if_pos h, ih k (i + 1) (c + 1) (by omega) (by omega) (by omega)]
      congr 2; omega
    · rw [if_neg h, if_neg h, ih k (i + 1) c (by omega) (by omega) (by omega)]
      congr 2; omega

theorem FnExactCountValue : laws_FnExactCountValue.Pure := by
  intro l n _ _ _ _
  refine ⟨l.length + 1, ?_⟩
  unfold laws_FnExactCountValue.f
  by_cases hb : (l.length : Int) > 1048576
  · rw [if_pos hb]
  · rw [if_neg hb]
    have hl : l.length ≤ 1048576 := by omega
    have e1 := spec_CountValue_go l n hl l.length (l.length + 1) 0 0 (by omega) (by omega) (by omega)
    have e2 := impl_CountValue_go l n hl l.length (l.length + 1) 0 0 (by omega) (by omega) (by omega)
    rw [toIntS_eq l hl _ (by omega)]
    simp only [Option.bind_some]
    unfold spec_CountValue.f impl_CountValue.f
    simp only [Int.natCast_zero] at e1 e2
    rw [e1, e2]
    simp only [Option.bind_some, if_true]
    rw [eqIntS_refl l (by omega) _ (by omega)]
    rfl

end Go.Proofs.Ytoihdhhecchjbaa.Pure
