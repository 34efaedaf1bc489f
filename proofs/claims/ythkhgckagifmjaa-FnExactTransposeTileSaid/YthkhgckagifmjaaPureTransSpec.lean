/- The reference's TransposeTile answers what the program's answers. -/
import Derived.Test.YthkhgckagifmjaaGxSpec26
import Derived.Test.YthkhgckagifmjaaGxImpl26
import Derived.Test.YthkhgckagifmjaaPureWords
import Derived.Test.YthkhgckagifmjaaPureBase
namespace Go.Proofs.Ythkhgckagifmjaa.Pure
open Go.RowKit Go.Proofs.Ythkhgckagifmjaa.P Go.Proofs.YthkhgckagifmjaaW.PrintWords Go.Proofs.YthkhgckagifmjaaW.PrintLast Go.Proofs.YthkhgckagifmjaaW.PrintMore

/-- The first i entries of a column. -/
def colTo (t : List (List Int)) (c i : Nat) : List Int := (List.range i).map fun (j : Nat) => rd (rd_L1 t (j : Int)) (c : Int)
theorem colTo_snoc (t : List (List Int)) (c i : Nat) : colTo t c i ++ [rd (rd_L1 t (i : Int)) (c : Int)] = colTo t c (i + 1) := by simp [colTo, List.range_succ]
theorem colTo_all (t : List (List Int)) (c : Nat) : colTo t c 8 = lanes8 (fun i => rd (rd_L1 t i) (c : Int)) := rfl
theorem tsp_l2 (t : List (List Int)) (h8 : t.length = 8) (hv : ∀ r ∈ t, valsB r = true) (c N : Nat) (hc : c < 8) (res : List (List Int) × Bool) (hn : ∀ k, N ≤ k → spec_TransposeTile.l1 k t (colsTo t (c + 1)) ((c + 1 : Nat) : Int) = some res) : ∀ (d k i : Nat), i + d = 8 → N + d + 1 ≤ k → spec_TransposeTile.l2 k t (colsTo t c) (c : Int) (colTo t c i) (i : Int) = some res := by
  intro d
  induction d with
  | zero =>
    intro k i hi hk
    obtain ⟨k, rfl⟩ : ∃ m, k = m + 1 := ⟨k - 1, by omega⟩
    obtain rfl : i = 8 := by omega
    simp only [spec_TransposeTile.l2]
    rw [if_neg (by decide), if_pos (by rw [colsTo_len]; omega), w64s c (by omega), colTo_all, colsTo_snoc]
    exact hn k (by omega)
  | succ d ih =>
    intro k i hi hk
    obtain ⟨k, rfl⟩ : ∃ m, k = m + 1 := ⟨k - 1, by omega⟩
    have hr := valsB_len (hv _ (rowL_mem t (i : Int) (by omega) (by omega)))
    simp only [spec_TransposeTile.l2]
    rw [if_pos (by omega), if_pos (by omega), if_pos (by omega), if_pos (by omega), if_pos (by omega), if_pos (by unfold colTo; rw [List.length_map, List.length_range]; omega), colTo_snoc, w64s i (by omega)]
    exact ih k (i + 1) (by omega) (by omega)
theorem tsp_l1 (t : List (List Int)) (h8 : t.length = 8) (hv : ∀ r ∈ t, valsB r = true) : ∀ (d k c : Nat), c + d = 8 → 20 * d + 1 ≤ k → spec_TransposeTile.l1 k t (colsTo t c) (c : Int) = some (colsTo t 8, true) := by
  intro d
  induction d with
  | zero =>
    intro k c hi hk
    obtain ⟨k, rfl⟩ : ∃ m, k = m + 1 := ⟨k - 1, by omega⟩
    obtain rfl : c = 8 := by omega
    simp only [spec_TransposeTile.l1]
    rw [if_neg (by decide)]
  | succ d ih =>
    intro k c hi hk
    obtain ⟨k, rfl⟩ : ∃ m, k = m + 1 := ⟨k - 1, by omega⟩
    simp only [spec_TransposeTile.l1]
    rw [if_pos (by omega)]
    exact tsp_l2 t h8 hv c (20 * d + 1) (by omega) _ (fun k hk => ih k (c + 1) (by omega) hk) 8 k 0 (by omega) (by omega)
theorem tsp_l0 (t : List (List Int)) (h8 : t.length = 8) : ∀ (d k i : Nat), i + d = 8 → 200 + d ≤ k → (∀ j : Nat, j < i → valsB (rd_L1 t (j : Int)) = true) → spec_TransposeTile.l0 k t [] (i : Int) = some (if t.all valsB = true then (colsTo t 8, true) else ([], false)) := by
  intro d
  induction d with
  | zero =>
    intro k i hi hk hb
    obtain ⟨k, rfl⟩ : ∃ m, k = m + 1 := ⟨k - 1, by omega⟩
    obtain rfl : i = 8 := by omega
    have hall : ∀ r ∈ t, valsB r = true := by
      intro r hr
      obtain ⟨n, hn, rfl⟩ := List.getElem_of_mem hr
      have h1 := hb n (by omega)
      unfold rd_L1 at h1
      rw [Int.toNat_natCast, List.getD_eq_getElem?_getD, List.getElem?_eq_getElem hn] at h1
      exact h1
    simp only [spec_TransposeTile.l0]
    rw [if_neg (by decide), if_pos (List.all_eq_true.mpr hall)]
    exact tsp_l1 t h8 hall 8 k 0 (by omega) (by omega)
  | succ d ih =>
    intro k i hi hk hb
    obtain ⟨k, rfl⟩ : ∃ m, k = m + 1 := ⟨k - 1, by omega⟩
    simp only [spec_TransposeTile.l0]
    rw [if_pos (by omega), if_pos (by omega), if_pos (by omega), spec_ValuesOk_is _ k (by omega), Option.bind_some]
    cases hv : valsB (rd_L1 t (i : Int)) with
    | true =>
      rw [if_pos rfl, w64s i (by omega)]
      exact ih k (i + 1) (by omega) (by omega) (fun j hj => by
        by_cases e : j = i
        · subst e; exact hv
        · exact hb j (by omega))
    | false =>
      have hn : ¬ t.all valsB = true := fun h => by
        have h1 := (List.all_eq_true.mp h) _ (rowL_mem t (i : Int) (by omega) (by omega))
        rw [hv] at h1
        cases h1
      rw [if_neg (by decide), if_neg hn]
theorem spec_TransposeTile_is (t : List (List Int)) (k : Nat) (hk : 220 ≤ k) : spec_TransposeTile.f k t = impl_TransposeTile.f t := by
  unfold spec_TransposeTile.f impl_TransposeTile.f
  rw [Option.bind_some]
  by_cases h8 : t.length = 8
  · rw [if_pos (by omega), show (0 : Int) = ((0 : Nat) : Int) from rfl, tsp_l0 t h8 8 k 0 (by omega) (by omega) (fun j hj => by omega)]
    have e : (t.any fun l => !(okRow l)) = !(t.all valsB) := by
      rw [List.all_eq_not_any_not, Bool.not_not]
      rfl
    rw [e]
    cases t.all valsB <;> simp [h8]
  · rw [if_neg (by omega), if_neg (fun h => h8 h.1)]

end Go.Proofs.Ythkhgckagifmjaa.Pure
