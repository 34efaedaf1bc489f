/- Plain laws about marking a list of whole numbers and finding the marks again. -/
import Derived.Test.YthkhgckagifmjaaPureBase
namespace Go.Proofs.Ythkhgckagifmjaa.Pure
open Go.RowKit Go.Proofs.Ythkhgckagifmjaa.P Go.Proofs.YthkhgckagifmjaaW.PrintWords Go.Proofs.YthkhgckagifmjaaW.PrintLast Go.Proofs.YthkhgckagifmjaaW.PrintMore

def marks (s : Int) (n : Nat) : List Int := (List.range n).map fun (i : Nat) => s + (i : Int)
theorem marks_len (s : Int) (n : Nat) : (marks s n).length = n := by simp [marks]
theorem marks_get (s : Int) (n j : Nat) (h : j < n) : (marks s n)[j]? = some (s + (j : Int)) := by simp [marks, h]
theorem rd_marks (s : Int) (n j : Nat) (h : j < n) : rd (marks s n) (j : Int) = s + (j : Int) := by
  have h1 := rd_nat (marks s n) j (by rw [marks_len]; exact h)
  rw [marks_get s n j h] at h1
  exact (Option.some.inj h1).symm

theorem markIntS_go (s : Int) (n : Nat) (h0 : 0 ≤ s) (h1 : s ≤ 1073741824) (hn : n ≤ 1073741824) : ∀ (d k i : Nat) (x : List Int), i + d = n → d < k → x.length = n → (∀ j, j < i → x[j]? = some (s + (j : Int))) → laws_markIntS.l0 k x (s + (i : Int)) (i : Int) = some (s + (n : Int), marks s n) := by
  intro d
  induction d with
  | zero =>
    intro k i x hi hk hx hj
    obtain ⟨k, rfl⟩ : ∃ m, k = m + 1 := ⟨k - 1, by omega⟩
    simp only [laws_markIntS.l0]
    rw [if_neg (by omega)]
    obtain rfl : i = n := by omega
    congr 2
    apply List.ext_getElem?
    intro j
    by_cases h : j < i
    · rw [hj j h, marks_get s i j h]
    · rw [List.getElem?_eq_none (by omega), List.getElem?_eq_none (by rw [marks_len]; omega)]
  | succ d ih =>
    intro k i x hi hk hx hj
    obtain ⟨k, rfl⟩ : ∃ m, k = m + 1 := ⟨k - 1, by omega⟩
    simp only [laws_markIntS.l0]
    rw [if_pos (by omega), if_pos (by omega), w64s i (by omega), show wrap64 (s + (i : Int) + 1) = s + ((i + 1 : Nat) : Int) from by unfold wrap64; omega]
    refine ih k (i + 1) _ (by omega) (by omega) (by simpa using hx) ?_
    intro j hj'
    rw [show ((i : Int)).toNat = i from by omega, List.getElem?_set]
    by_cases e : i = j
    · subst e
      rw [if_pos rfl, if_pos (by omega)]
    · rw [if_neg e]
      exact hj j (by omega)
theorem markIntS_eq (l : List Int) (s : Int) (h0 : 0 ≤ s) (h1 : s ≤ 1073741824) (hl : l.length ≤ 1073741824) (k : Nat) (hk : l.length < k) : laws_markIntS.f k l s = some (s + (l.length : Int), marks s l.length) := by
  have h := markIntS_go s l.length h0 h1 hl l.length k 0 l (by omega) hk rfl (fun j hj => by omega)
  unfold laws_markIntS.f
  simpa using h

theorem heldIntS_go (s : Int) (n : Nat) (h0 : 0 ≤ s) (h1 : s ≤ 1073741824) (hn : n ≤ 1073741824) : ∀ (d k i : Nat), i + d = n → d < k → laws_heldIntS.l0 k (marks s n) (s + (i : Int)) (i : Int) = some (s + (n : Int)) := by
  intro d
  induction d with
  | zero =>
    intro k i hi hk
    obtain ⟨k, rfl⟩ : ∃ m, k = m + 1 := ⟨k - 1, by omega⟩
    simp only [laws_heldIntS.l0]
    rw [marks_len, if_neg (by omega)]
    obtain rfl : i = n := by omega
    rfl
  | succ d ih =>
    intro k i hi hk
    obtain ⟨k, rfl⟩ : ∃ m, k = m + 1 := ⟨k - 1, by omega⟩
    simp only [laws_heldIntS.l0]
    rw [marks_len, if_pos (by omega), if_pos (by omega), rd_marks s n i (by omega), if_pos rfl, w64s i (by omega), show wrap64 (s + (i : Int) + 1) = s + ((i + 1 : Nat) : Int) from by unfold wrap64; omega]
    exact ih k (i + 1) (by omega) (by omega)
theorem heldIntS_eq (s : Int) (n : Nat) (h0 : 0 ≤ s) (h1 : s ≤ 1073741824) (hn : n ≤ 1073741824) (k : Nat) (hk : n < k) : laws_heldIntS.f k (marks s n) s = some (s + (n : Int)) := by
  have h := heldIntS_go s n h0 h1 hn n k 0 (by omega) hk
  unfold laws_heldIntS.f
  simpa using h

end Go.Proofs.Ythkhgckagifmjaa.Pure
