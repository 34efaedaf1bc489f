/- How many lines and how many words: no more lines than words, no more words than eight a line. -/
import Derived.Test.YtfeadincafegcaaPureLinesOf
namespace Go.Proofs.Ytfeadincafegcaa.Pure
open Go.RowKit Go.Proofs.Ytfeadincafegcaa.P Go.Proofs.YtfeadincafegcaaW.PrintWords Go.Proofs.YtfeadincafegcaaW.PrintLast Go.Proofs.YtfeadincafegcaaW.PrintMore

/-- The eight words of each of some lines. -/
def eights : List Int → List Int
  | [] => []
  | y :: l => 8 * y :: (8 * y + 1) :: (8 * y + 2) :: (8 * y + 3) :: (8 * y + 4) :: (8 * y + 5) :: (8 * y + 6) :: (8 * y + 7) :: eights l
theorem eights_len : ∀ l : List Int, (eights l).length = 8 * l.length := by
  intro l
  induction l with
  | nil => rfl
  | cons y l ih => simp only [eights, List.length_cons, ih]; omega
theorem mem_eights {z y : Int} (h0 : 8 * y ≤ z) (h1 : z < 8 * y + 8) : ∀ l : List Int, y ∈ l → z ∈ eights l := by
  intro l
  induction l with
  | nil => intro h; cases h
  | cons x l ih =>
    intro h
    rw [List.mem_cons] at h
    simp only [eights, List.mem_cons]
    rcases h with rfl | h
    · have : z = 8 * y ∨ z = 8 * y + 1 ∨ z = 8 * y + 2 ∨ z = 8 * y + 3 ∨ z = 8 * y + 4 ∨ z = 8 * y + 5 ∨ z = 8 * y + 6 ∨ z = 8 * y + 7 := by omega
      simp only [← or_assoc] at this ⊢
      exact Or.inl this
    · simp only [ih h, or_true]
theorem line_of (x : Int) (h0 : 0 ≤ x) (h1 : x ≤ 4095) : wrap64 (Int.tdiv x 8) = x / 8 := by
  rw [Int.tdiv_eq_ediv_of_nonneg h0, w64 (by omega) (by omega)]
theorem mem_linesL {l : List Int} {m : Int} (h : askedB l m = true) (y : Int) : y ∈ linesL l m ↔ ∃ j : Nat, j < 8 ∧ hasB m (j : Int) = true ∧ y = rd l (j : Int) / 8 := by
  unfold linesL
  rw [if_pos h, (difL_is _).2, List.mem_map]
  constructor
  · rintro ⟨x, hx, rfl⟩
    obtain ⟨j, a, b, rfl⟩ := (lanesL_iff m x).1 hx
    have hs := rd_small h (j : Int)
    exact ⟨j, a, b, line_of _ hs.1 hs.2⟩
  · rintro ⟨j, a, b, rfl⟩
    have hs := rd_small h (j : Int)
    exact ⟨(j : Int), (lanesL_iff m _).2 ⟨j, a, b, rfl⟩, line_of _ hs.1 hs.2⟩
theorem mem_wordsL (l : List Int) (m : Int) (y : Int) : y ∈ wordsL l m ↔ ∃ j : Nat, j < 8 ∧ hasB m (j : Int) = true ∧ y = rd l (j : Int) := by
  unfold wordsL
  rw [(difL_is _).2, List.mem_map]
  constructor
  · rintro ⟨x, hx, rfl⟩
    obtain ⟨j, a, b, rfl⟩ := (lanesL_iff m x).1 hx
    exact ⟨j, a, b, rfl⟩
  · rintro ⟨j, a, b, rfl⟩
    exact ⟨(j : Int), (lanesL_iff m _).2 ⟨j, a, b, rfl⟩, rfl⟩
theorem sa_linesL (l : List Int) (m : Int) : SA (linesL l m) := by
  unfold linesL
  split
  · exact (difL_is _).1
  · exact List.Pairwise.nil
theorem lines_le_words {l : List Int} {m : Int} (h : askedB l m = true) : (linesL l m).length ≤ (wordsL l m).length := by
  rw [show (wordsL l m).length = ((wordsL l m).map fun x : Int => x / 8).length from (List.length_map _).symm]
  refine sa_sub_len _ _ (sa_linesL l m) (fun y hy => ?_)
  obtain ⟨j, a, b, rfl⟩ := (mem_linesL h y).1 hy
  exact List.mem_map.2 ⟨_, (mem_wordsL l m _).2 ⟨j, a, b, rfl⟩, rfl⟩
theorem words_le_lines {l : List Int} {m : Int} (h : askedB l m = true) : (wordsL l m).length ≤ 8 * (linesL l m).length := by
  rw [← eights_len]
  refine sa_sub_len _ _ (difL_is _).1 (fun y hy => ?_)
  obtain ⟨j, a, b, rfl⟩ := (mem_wordsL l m y).1 hy
  have hs := rd_small h (j : Int)
  exact mem_eights (y := rd l (j : Int) / 8) (by omega) (by omega) _ ((mem_linesL h _).2 ⟨j, a, b, rfl⟩)
theorem words_le_lanes (l : List Int) (m : Int) : (wordsL l m).length ≤ (lanesL m).length := by
  have := difL_len ((lanesL m).map fun i => rd l i)
  rw [List.length_map] at this
  exact this
theorem use_tab : ∀ u n : Fin 9, n.val ≤ u.val → u.val ≤ 8 * n.val → 125 ≤ useN ((u.val : Nat) : Int) ((n.val : Nat) : Int) ∧ useN ((u.val : Nat) : Int) ((n.val : Nat) : Int) ≤ 1000 := by decide +kernel
theorem use_in (u n : Nat) (hu : u ≤ 8) (h1 : n ≤ u) (h2 : u ≤ 8 * n) : 125 ≤ useN (u : Int) (n : Int) ∧ useN (u : Int) (n : Int) ≤ 1000 :=
  use_tab ⟨u, by omega⟩ ⟨n, by omega⟩ h1 h2

end Go.Proofs.Ytfeadincafegcaa.Pure
