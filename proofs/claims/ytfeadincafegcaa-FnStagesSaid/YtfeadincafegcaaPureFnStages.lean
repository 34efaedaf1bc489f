/- Each stage consists of four pairs without common lanes, and orders each pair. -/
import Derived.Test.YtfeadincafegcaaGxPFnStages
import Derived.Test.YtfeadincafegcaaPureNet
import Derived.Test.YtfeadincafegcaaPureHas
import Derived.Test.YtfeadincafegcaaPureDrawValues
namespace Go.Proofs.Ytfeadincafegcaa.Pure
open Go.RowKit Go.Proofs.Ytfeadincafegcaa.P Go.Proofs.YtfeadincafegcaaW.PrintWords Go.Proofs.YtfeadincafegcaaW.PrintLast

theorem mn_mx (a b : Int) : mn a b ≤ mx a b := by
  unfold mn mx
  split <;> split <;> omega
theorem st_ord {v : List Int} (h8 : v.length = 8) (s : Int) (hs : 0 ≤ s ∧ s ≤ 5) : ∀ p ∈ stageL s, rd (applyP v (stageL s)) p.f0 ≤ rd (applyP v (stageL s)) p.f1 := by
  have h1 : s = 0 ∨ s = 1 ∨ s = 2 ∨ s = 3 ∨ s = 4 ∨ s = 5 := by omega
  obtain ⟨a, b, c, d, e, x, y, z, rfl⟩ := eight h8
  rcases h1 with q | q | q | q | q | q <;> subst q
  · rw [ap0 h8]
    show ∀ p ∈ [_, _, _, _], _
    simp only [List.forall_mem_cons, st0]
    exact ⟨mn_mx a b, mn_mx d c, mn_mx e x, mn_mx z y, fun _ h => by cases h⟩
  · rw [ap1 h8]
    show ∀ p ∈ [_, _, _, _], _
    simp only [List.forall_mem_cons, st1]
    exact ⟨mn_mx a c, mn_mx b d, mn_mx y e, mn_mx z x, fun _ h => by cases h⟩
  · rw [ap2 h8]
    show ∀ p ∈ [_, _, _, _], _
    simp only [List.forall_mem_cons, st2]
    exact ⟨mn_mx a b, mn_mx c d, mn_mx x e, mn_mx z y, fun _ h => by cases h⟩
  · rw [ap3 h8]
    show ∀ p ∈ [_, _, _, _], _
    simp only [List.forall_mem_cons, st3]
    exact ⟨mn_mx a e, mn_mx b x, mn_mx c y, mn_mx d z, fun _ h => by cases h⟩
  · rw [ap4 h8]
    show ∀ p ∈ [_, _, _, _], _
    simp only [List.forall_mem_cons, st4]
    exact ⟨mn_mx a c, mn_mx b d, mn_mx e y, mn_mx x z, fun _ h => by cases h⟩
  · rw [ap5 h8]
    show ∀ p ∈ [_, _, _, _], _
    simp only [List.forall_mem_cons, st5]
    exact ⟨mn_mx a b, mn_mx c d, mn_mx e x, mn_mx y z, fun _ h => by cases h⟩
theorem stage_step (k : Nat) (v : List Int) (s : Int) (ps : List S43) (seen w : List Int) (i : Nat) (h : i < ps.length ∧ 0 ≤ (rd_T43 ps (i : Int)).f0 ∧ (rd_T43 ps (i : Int)).f0 < 8 ∧ 0 ≤ (rd_T43 ps (i : Int)).f1 ∧ (rd_T43 ps (i : Int)).f1 < 8 ∧ (rd_T43 ps (i : Int)).f0 ≠ (rd_T43 ps (i : Int)).f1 ∧ ¬ (rd_T43 ps (i : Int)).f0 ∈ seen ∧ ¬ (rd_T43 ps (i : Int)).f1 ∈ seen ∧ seen.length ≤ 8 ∧ i < 4)
    (ho : rd w (rd_T43 ps (i : Int)).f0 ≤ rd w (rd_T43 ps (i : Int)).f1) (h8 : w.length = 8) (hk : 12 ≤ k) :
    laws_FnStages.l1 (k + 1) v s ps seen w (i : Int) = laws_FnStages.l1 k v s ps (seen ++ [(rd_T43 ps (i : Int)).f0, (rd_T43 ps (i : Int)).f1]) w ((i + 1 : Nat) : Int) := by
  simp only [laws_FnStages.l1]
  generalize rd_T43 ps (i : Int) = p at h ho
  obtain ⟨h0, h1, h2, h3, h4, h5, h6, h7, h9, h10⟩ := h
  rw [if_pos (by omega), if_pos (by omega), if_neg (by omega), if_neg (by omega), if_neg (by omega), if_neg (by omega), if_neg h5, has_is seen _ (by omega) k (by omega), has_is seen _ (by omega) k (by omega), decide_eq_false h6, decide_eq_false h7]
  simp only [Option.bind_some, Bool.false_eq_true, if_false]
  rw [if_pos h1, if_pos (by omega), if_pos h3, if_pos (by omega), if_neg (by omega), if_pos (by simp only [List.length_cons, List.length_nil]; omega), show wrap64 ((i : Int) + 1) = ((i + 1 : Nat) : Int) by unfold wrap64; omega]
theorem stage_all (k : Nat) (hk : 20 ≤ k) (v : List Int) (s : Int) (hs : 0 ≤ s ∧ s ≤ 5) (w : List Int) (h8 : w.length = 8) (ho : ∀ p ∈ stageL s, rd w p.f0 ≤ rd w p.f1) :
    laws_FnStages.l1 (k + 1 + 1 + 1 + 1 + 1) v s (stageL s) [] w 0 = laws_FnStages.l0 (k) v (wrap64 (s + 1)) := by
  have h1 : s = 0 ∨ s = 1 ∨ s = 2 ∨ s = 3 ∨ s = 4 ∨ s = 5 := by omega
  have e0 : (0 : Int) = ((0 : Nat) : Int) := rfl
  rcases h1 with q | q | q | q | q | q <;> subst q <;>
    (rw [show laws_FnStages.l1 (k + 1 + 1 + 1 + 1 + 1) v _ (stageL _) [] w 0 = laws_FnStages.l1 (k + 1 + 1 + 1 + 1 + 1) v _ (stageL _) [] w ((0 : Nat) : Int) from rfl, stage_step _ v _ _ [] w 0 (by decide) (ho _ (by decide)) h8 (by omega), stage_step _ v _ _ _ w (0 + 1) (by decide) (ho _ (by decide)) h8 (by omega), stage_step _ v _ _ _ w (0 + 1 + 1) (by decide) (ho _ (by decide)) h8 (by omega), stage_step _ v _ _ _ w (0 + 1 + 1 + 1) (by decide) (ho _ (by decide)) h8 (by omega)]
     simp only [laws_FnStages.l1]
     rw [if_neg (by decide)])
theorem FnStages_go (v : List Int) (hv : valsB v = true) : ∀ (d k : Nat) (s : Int), s + (d : Int) = 6 → 0 ≤ s → 30 * d + 40 ≤ k → laws_FnStages.l0 k v s = some true := by
  intro d
  induction d with
  | zero =>
    intro k s hs h0 hk
    obtain ⟨k, rfl⟩ : ∃ m, k = m + 1 := ⟨k - 1, by omega⟩
    simp only [laws_FnStages.l0]
    rw [if_neg (by omega)]
  | succ d ih =>
    intro k s hs h0 hk
    obtain ⟨k, hk2, rfl⟩ : ∃ m, 30 * d + 60 ≤ m ∧ k = m + 1 + 1 + 1 + 1 + 1 + 1 + 1 := ⟨k - 7, by omega, by omega⟩
    have hr : 0 ≤ s ∧ s ≤ 5 := by omega
    have h8 := valsB_len hv
    have hl := stageL_four s (fun e => stageL_nil s e hr)
    have ha : applyL v s = applyP v (stageL s) := by unfold applyL; rw [if_pos ⟨hv, hr⟩]
    have w8 : (applyP v (stageL s)).length = 8 := by rw [applyP_len, h8]
    simp only [laws_FnStages.l0]
    rw [if_pos (by omega), show impl_SortStage.f s = some (stageL s) from rfl, Option.bind_some, Option.bind_some, impl_ApplyStage_is, Option.bind_some, ha, if_pos (by omega), show (((applyP v (stageL s)).length : Int) != 8) = false by rw [w8]; rfl]
    simp only [laws_FnStages.j1]
    rw [if_neg (by decide), stage_all _ (by omega) v s hr _ w8 (st_ord h8 s hr), show wrap64 (s + 1) = s + 1 by unfold wrap64; omega]
    exact ih _ (s + 1) (by omega) (by omega) (by omega)
theorem FnStages : laws_FnStages.Pure := by
  intro l _ _ _
  obtain ⟨k0, hk0⟩ : ∃ k0 : Nat, 4100 ≤ k0 := ⟨4100, by omega⟩
  refine ⟨k0, ?_⟩
  unfold laws_FnStages.f
  simp only [laws_big.f, Option.bind_some, decide_eq_true_eq]
  by_cases hb : (l.length : Int) > 1048576
  · rw [if_pos hb]
  · rw [if_neg hb]
    obtain ⟨v, e, hv⟩ := DrawValues_is l (by omega) k0 hk0
    rw [e, Option.bind_some]
    exact FnStages_go v hv 6 k0 0 (by omega) (by omega) (by omega)

end Go.Proofs.Ytfeadincafegcaa.Pure
