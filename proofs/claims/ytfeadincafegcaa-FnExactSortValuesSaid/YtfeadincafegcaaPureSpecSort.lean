/- The reference's stages: the same pairs, the same exchange. -/
import Derived.Test.YtfeadincafegcaaGxSpec24
import Derived.Test.YtfeadincafegcaaPureNet
import Derived.Test.YtfeadincafegcaaPureBase
namespace Go.Proofs.Ytfeadincafegcaa.Pure
open Go.RowKit Go.Proofs.Ytfeadincafegcaa.P Go.Proofs.YtfeadincafegcaaW.PrintWords Go.Proofs.YtfeadincafegcaaW.PrintLast Go.Proofs.YtfeadincafegcaaW.PrintMore

theorem l01In_05 (x : Int) : spec_l01In.f x 0 5 = some (decide (0 ≤ x ∧ x ≤ 5)) := by
  unfold spec_l01In.f
  by_cases h : x ≥ 0
  · rw [if_pos h]
    have h' : 0 ≤ x := h
    simp [h']
  · have h' : ¬ 0 ≤ x := h
    simp [h']
theorem spec_SortStage_is (s : Int) (hs : 0 ≤ s ∧ s ≤ 5) (k : Nat) (hk : 10 ≤ k) : spec_SortStage.f k s = some (stageL s) := by
  obtain ⟨m, rfl⟩ : ∃ m, k = m + 10 := ⟨k - 10, by omega⟩
  have up : ∀ r, spec_SortStage.f 10 s = some r → ∀ m, spec_SortStage.f (m + 10) s = some r := fun r h m => by
    induction m with
    | zero => rw [Nat.zero_add]; exact h
    | succ m ih => rw [show m + 1 + 10 = (m + 10) + 1 by omega]; exact spec_SortStage.mono _ _ _ ih
  have h1 : s = 0 ∨ s = 1 ∨ s = 2 ∨ s = 3 ∨ s = 4 ∨ s = 5 := by omega
  rcases h1 with e | e | e | e | e | e <;> subst e <;> exact up _ (by decide +kernel) m
theorem spec_ap_go (l : List Int) (h8 : l.length = 8) (ps : List S43) (hp : ∀ p ∈ ps, (0 ≤ p.f0 ∧ p.f0 < 8) ∧ (0 ≤ p.f1 ∧ p.f1 < 8) ∧ p.f0 ≠ p.f1) (h4 : ps.length ≤ 4) : ∀ (d k i : Nat) (o : List Int), i + d = ps.length → o.length = 8 → d < k → spec_ApplyStage.l0 k l o ps (i : Int) = some ((ps.drop i).foldl (stepP l) o) := by
  intro d
  induction d with
  | zero =>
    intro k i o hi ho hk
    obtain ⟨k, rfl⟩ : ∃ m, k = m + 1 := ⟨k - 1, by omega⟩
    simp only [spec_ApplyStage.l0]
    rw [if_neg (by omega), List.drop_of_length_le (by omega)]
    rfl
  | succ d ih =>
    intro k i o hi ho hk
    obtain ⟨k, rfl⟩ : ∃ m, k = m + 1 := ⟨k - 1, by omega⟩
    simp only [spec_ApplyStage.l0]
    have hlt : i < ps.length := by omega
    have e : rd_T43 ps (i : Int) = ps[i] := by
      unfold rd_T43
      rw [Int.toNat_natCast, List.getD_eq_getElem?_getD, List.getElem?_eq_getElem hlt]
      rfl
    have hm := hp ps[i] (List.getElem_mem hlt)
    rw [e]
    rw [List.drop_eq_getElem_cons hlt, List.foldl_cons]
    generalize ps[i] = p at hm
    obtain ⟨⟨h1, h2⟩, ⟨h3, h4'⟩, _⟩ := hm
    rw [if_pos (by omega), if_pos (by omega), if_pos h1, if_pos (by omega), if_pos h3, if_pos (by omega), if_pos (by omega), if_pos (by omega), w64s i (by omega)]
    exact ih k (i + 1) _ (by omega) (by simp [ho]) (by omega)
theorem applyL_len (l : List Int) (s : Int) : (applyL l s).length ≤ 8 := by
  unfold applyL
  split
  · rename_i h
    rw [applyP_len, valsB_len h.1]
    exact Nat.le_refl _
  · exact Nat.zero_le _
theorem spec_ApplyStage_is (l : List Int) (s : Int) (k : Nat) (hk : 40 ≤ k) : spec_ApplyStage.f k l s = some (applyL l s) := by
  obtain ⟨k, rfl⟩ : ∃ m, k = m + 1 := ⟨k - 1, by omega⟩
  unfold spec_ApplyStage.f applyL
  rw [spec_ValuesOk_is l (k + 1) (by omega), l01In_05]
  simp only [Option.bind_some, spec_ApplyStage.j0]
  cases hv : valsB l with
  | false => simp
  | true =>
    by_cases hs : 0 ≤ s ∧ s ≤ 5
    · have h8 := valsB_len hv
      have hp := pairs_in s
      have h4 := stageL_four s (fun e => stageL_nil s e hs)
      have e := spec_ap_go l h8 (stageL s) hp (by omega) 4 k 0 l (by omega) h8 (by omega)
      rw [List.drop_zero] at e
      simp only [decide_eq_true hs, Bool.not_true, if_true, Bool.false_eq_true, if_false, List.length_nil, List.nil_append, spec_SortStage_is s hs k (by omega), Option.bind_some]
      rw [if_pos (by omega), if_pos ⟨trivial, hs⟩]
      exact e
    · simp [hs]

end Go.Proofs.Ytfeadincafegcaa.Pure
