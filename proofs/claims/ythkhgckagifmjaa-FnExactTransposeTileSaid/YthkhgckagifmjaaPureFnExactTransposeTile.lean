/- The program's TransposeTile answers what the reference's answers, for all arguments: the numbers that the law's walk asks for. -/
import Derived.Test.YthkhgckagifmjaaGxPFnExactTransposeTile
import Derived.Test.YthkhgckagifmjaaPureTransSpec
import Derived.Test.YthkhgckagifmjaaPureRows
namespace Go.Proofs.Ythkhgckagifmjaa.Pure
open Go.RowKit Go.Proofs.Ythkhgckagifmjaa.P Go.Proofs.YthkhgckagifmjaaW.PrintWords Go.Proofs.YthkhgckagifmjaaW.PrintLast

theorem lanes8_len (fv : Int → Int) : (lanes8 fv).length = 8 := rfl
theorem colsTo_rows (t : List (List Int)) (c : Nat) : ∀ r ∈ colsTo t c, r.length = 8 := by
  intro r hr
  simp only [colsTo, List.mem_map] at hr
  obtain ⟨c, _, rfl⟩ := hr
  rfl
theorem cnt_eights : ∀ (t : List (List Int)), (∀ r ∈ t, r.length = 8) → cnt t = 8 * t.length := by
  intro t
  induction t with
  | nil => intro _; rfl
  | cons r t ih =>
    intro h
    simp only [cnt, List.length_cons]
    have h1 := h r (by simp)
    have h2 := ih (fun x hx => h x (by simp [hx]))
    omega
theorem tt_small (t : List (List Int)) : ∃ V b, impl_TransposeTile.f t = some (V, b) ∧ V.length ≤ 8 ∧ (∀ r ∈ V, r.length = 8) := by
  unfold impl_TransposeTile.f
  by_cases h : t.length = 8 ∧ t.any (fun l => !(okRow l)) = false
  · rw [if_pos h]
    exact ⟨_, _, rfl, by rw [colsTo_len]; exact Nat.le_refl _, colsTo_rows t 8⟩
  · rw [if_neg h]
    exact ⟨_, _, rfl, by simp, by simp⟩
theorem FnExactTransposeTile : laws_FnExactTransposeTile.Pure := by
  intro t hl hm
  obtain ⟨k, hk⟩ : ∃ k, 1048576 + 1048577 < k := ⟨_, Nat.lt_succ_self _⟩
  obtain ⟨s, hs, h⟩ := szIntSS_is t hl hm k (by omega)
  refine ⟨k, s, hs, ?_⟩
  rcases h with h | ⟨h0, h1, h2⟩
  · exact .inl h
  · obtain ⟨V, b, hV, hVl, hVr⟩ := tt_small t
    have hr : ∀ r ∈ t, r.length ≤ 1048576 := fun r hr => Nat.le_trans (cnt_mem t r hr) h2
    have hVr' : ∀ r ∈ V, r.length ≤ 1048576 := fun r hr => by rw [hVr r hr]; omega
    have hc := cnt_eights V hVr
    refine .inr ⟨h0, h1, V, marksR V 1, marksR t 1, b, 1 + (cnt t : Int), 1 + (cnt V : Int), by omega, toIntSS_eq t h1 hr k (by omega), by rw [spec_TransposeTile_is t k (by omega)]; exact hV, hV, eqIntSS_refl V (by omega) hVr' k (by omega), eqIntSS_refl t h1 hr k (by omega), markIntSS_eq t 1 hr k (by omega) (by omega) (by omega), by omega, markIntSS_eq V 1 hVr' k (by omega) (by omega) (by omega), by omega, heldIntSS_eq V 1 hVr' (by omega) k (by omega) (by omega) (by omega)⟩

end Go.Proofs.Ythkhgckagifmjaa.Pure
