/- The number of a lane's address in its bank: the reference's is the program's. -/
import Derived.Test.YtpaoajlangbceaaGxDraws
import Derived.Test.YtpaoajlangbceaaGxImpl25
import Derived.Test.YtpaoajlangbceaaPurePut
import Derived.Test.YtpaoajlangbceaaPureAddresses
namespace Go.Proofs.Ytpaoajlangbceaa.Pure
open Go.RowKit Go.Proofs.Ytpaoajlangbceaa.P Go.Proofs.YtpaoajlangbceaaW.PrintWords Go.Proofs.YtpaoajlangbceaaW.PrintLast Go.Proofs.YtpaoajlangbceaaW.PrintMore

theorem lanesFrom_add (m : Int) (i d e : Nat) : lanesFrom m i (d + e) = lanesFrom m i d ++ lanesFrom m (i + d) e := by
  unfold lanesFrom
  rw [← List.map_append, ← List.filter_append, List.range'_append_1]
theorem lanesFrom_snoc (m : Int) (i : Nat) : lanesFrom m 0 (i + 1) = lanesFrom m 0 i ++ (if hasB m (i : Int) = true then [(i : Int)] else []) := by
  rw [lanesFrom_add, Nat.zero_add, lanesFrom_succ]
  congr 1
  have : lanesFrom m (i + 1) 0 = [] := rfl
  rw [this, List.append_nil]
theorem mem_lanesFrom {m : Int} {i d : Nat} {x : Int} (h : x ∈ lanesFrom m i d) : (i : Int) ≤ x ∧ x < ((i + d : Nat) : Int) ∧ hasB m x = true := by
  unfold lanesFrom at h
  simp only [List.mem_map, List.mem_filter] at h
  obtain ⟨j, ⟨h1, h2⟩, rfl⟩ := h
  have := List.mem_range'_1.mp h1
  exact ⟨by omega, by omega, h2⟩
theorem lanes_before (m : Int) (x : Nat) (hx : x ≤ 8) : ((lanesL m).filter fun y => decide (y < (x : Int))) = lanesFrom m 0 x := by
  have e : lanesL m = lanesFrom m 0 x ++ lanesFrom m x (8 - x) := by
    unfold lanesL
    rw [show (8 : Nat) = x + (8 - x) by omega, lanesFrom_add, Nat.zero_add]
    congr 2
    omega
  rw [e, List.filter_append, List.filter_eq_self.2, List.filter_eq_nil_iff.2, List.append_nil]
  · intro y hy
    have := mem_lanesFrom hy
    rw [decide_eq_true_eq]
    omega
  · intro y hy
    have := mem_lanesFrom hy
    rw [decide_eq_true_eq]
    omega
theorem bankIn_more (l : List Int) (b : Int) (t s : List Int) : ∃ r, bankIn l b (t ++ s) = bankIn l b t ++ r := by
  induction s generalizing t with
  | nil => exact ⟨[], by simp⟩
  | cons a s ih =>
    rw [show t ++ a :: s = (t ++ [a]) ++ s by simp]
    obtain ⟨r, e⟩ := ih (t ++ [a])
    rw [e, bankIn_snoc]
    split
    · exact ⟨rd l a :: r, by simp⟩
    · exact ⟨r, rfl⟩
theorem bankIn_nodup (l : List Int) (b : Int) (t : List Int) : (bankIn l b t).Nodup := by
  rw [← List.reverse_reverse t]
  induction t.reverse with
  | nil => exact List.Pairwise.nil
  | cons a t ih =>
    rw [List.reverse_cons, bankIn_snoc]
    split
    · rename_i h
      rw [List.nodup_append]
      refine ⟨ih, by simp, fun x hx y hy => ?_⟩
      rw [List.mem_singleton] at hy
      subst hy
      intro e
      subst e
      exact h.2 hx
    · exact ih
theorem same_len {P S : List Int} (hP : SA P) (hS : S.Nodup) (h : ∀ y, y ∈ P ↔ y ∈ S) : P.length = S.length :=
  Nat.le_antisymm (sa_sub_len P S hP (fun y hy => (h y).1 hy)) (nodup_sub_len S P hS (fun y hy => (h y).2 hy))
theorem l25_go (l : List Int) (m : Int) (h8 : l.length = 8) (x : Nat) (hx : x < 8) (hh : hasB m (x : Int) = true) : ∀ (d k i : Nat) (P : List Int), i + d = x → 2 * d + 20 ≤ k → SA P → P.length ≤ i → (∀ y, y ∈ P ↔ y ∈ bankIn l (Int.tmod (rd l (x : Int)) 8) (lanesFrom m 0 i)) → ¬ rd l (x : Int) ∈ bankIn l (Int.tmod (rd l (x : Int)) 8) (lanesFrom m 0 i) → spec_l25Number.l0 k l m (x : Int) P (i : Int) = some (((bankIn l (Int.tmod (rd l (x : Int)) 8) (lanesFrom m 0 x)).idxOf (rd l (x : Int)) : Nat) : Int) := by
  intro d
  induction d with
  | zero =>
    intro k i P hi hk hs hl hm hn
    obtain rfl : i = x := by omega
    obtain ⟨k, rfl⟩ : ∃ m, k = m + 2 := ⟨k - 2, by omega⟩
    simp only [spec_l25Number.l0]
    rw [if_pos (by omega), spec_HasLane_is, hh]
    simp only [Option.bind_some, if_true]
    rw [if_pos (by omega), if_pos (by omega), if_pos (by omega), if_pos (by omega), bne_self_eq_false]
    simp only [spec_l25Number.j1, Bool.false_eq_true, if_false]
    rw [if_pos (by omega), if_pos (by omega), if_pos (by omega), if_pos (by omega), if_pos trivial, same_len hs (bankIn_nodup _ _ _) hm, List.idxOf_eq_length hn]
  | succ d ih =>
    intro k i P hi hk hs hl hm hn
    obtain ⟨k, rfl⟩ : ∃ m, k = m + 2 := ⟨k - 2, by omega⟩
    simp only [spec_l25Number.l0]
    rw [if_pos (by omega), spec_HasLane_is]
    simp only [Option.bind_some]
    have hsn := lanesFrom_snoc m i
    by_cases hb : hasB m (i : Int) = true
    · rw [if_pos hb] at hsn
      rw [if_pos hb, if_pos (by omega), if_pos (by omega), if_pos (by omega), if_pos (by omega)]
      have hbs := bankIn_snoc l (Int.tmod (rd l (x : Int)) 8) (lanesFrom m 0 i) (i : Int)
      rw [← hsn] at hbs
      by_cases hq : Int.tmod (rd l (i : Int)) 8 = Int.tmod (rd l (x : Int)) 8
      · rw [hq, bne_self_eq_false]
        simp only [spec_l25Number.j1, Bool.false_eq_true, if_false]
        rw [if_pos (by omega), if_pos (by omega), if_pos (by omega), if_pos (by omega)]
        by_cases ha : rd l (i : Int) = rd l (x : Int)
        · rw [if_pos ha, same_len hs (bankIn_nodup _ _ _) hm]
          rw [ha, if_pos ⟨rfl, hn⟩] at hbs
          obtain ⟨r, e⟩ := bankIn_more l (Int.tmod (rd l (x : Int)) 8) (lanesFrom m 0 (i + 1)) (lanesFrom m (i + 1) d)
          have ex : lanesFrom m 0 (i + 1) ++ lanesFrom m (i + 1) d = lanesFrom m 0 x := by
            have h := lanesFrom_add m 0 (i + 1) d
            rw [Nat.zero_add] at h
            rw [← h]
            congr 1
            omega
          rw [ex, hbs] at e
          rw [e, List.append_assoc, List.idxOf_append, if_neg hn, List.singleton_append, List.idxOf_cons_self, Nat.zero_add]
        · rw [if_neg ha]
          obtain ⟨r, e, h1, h2, h3⟩ := put_is P (rd l (i : Int)) (by omega) hs k (by omega)
          rw [e]
          simp only [Option.bind_some]
          rw [w64s i (by omega)]
          have hmem : ∀ y, y ∈ bankIn l (Int.tmod (rd l (x : Int)) 8) (lanesFrom m 0 (i + 1)) ↔ y ∈ bankIn l (Int.tmod (rd l (x : Int)) 8) (lanesFrom m 0 i) ∨ y = rd l (i : Int) := by
            intro y
            rw [hbs]
            by_cases c : rd l (i : Int) ∈ bankIn l (Int.tmod (rd l (x : Int)) 8) (lanesFrom m 0 i)
            · rw [if_neg (fun h => h.2 c)]
              exact ⟨Or.inl, fun h => h.elim id (fun e => e ▸ c)⟩
            · rw [if_pos ⟨hq, c⟩]
              simp
          refine ih k (i + 1) r (by omega) (by omega) h1 (by omega) (fun y => ?_) (fun h => ?_)
          · rw [h3 y, hm y, hmem y]
          · rcases (hmem _).1 h with h | h
            · exact hn h
            · exact ha h.symm
      · rw [if_neg (fun h => hq h.1)] at hbs
        rw [bne_iff_ne.2 hq]
        simp only [spec_l25Number.j1, if_true]
        rw [w64s i (by omega)]
        exact ih k (i + 1) P (by omega) (by omega) hs (by omega) (fun y => by rw [hm y, hbs]) (by rw [hbs]; exact hn)
    · rw [if_neg hb, List.append_nil] at hsn
      rw [if_neg hb]
      simp only [spec_l25Number.j1, if_true]
      rw [w64s i (by omega)]
      exact ih k (i + 1) P (by omega) (by omega) hs (by omega) (fun y => by rw [hm y, hsn]) (by rw [hsn]; exact hn)
theorem spec_l25Number_is (l : List Int) (m : Int) (h8 : l.length = 8) (x : Nat) (hx : x < 8) (hh : hasB m (x : Int) = true) (k : Nat) (hk : 40 ≤ k) : spec_l25Number.f k l m (x : Int) = some ((numIn l (lanesL m) (x : Int) : Nat) : Int) := by
  unfold spec_l25Number.f numIn
  rw [lanes_before m x (by omega)]
  exact l25_go l m h8 x hx hh x k 0 [] (by omega) (by omega) List.Pairwise.nil (by simp) (fun y => by simp [bankIn, lanesFrom]) (by simp [bankIn, lanesFrom])

end Go.Proofs.Ytpaoajlangbceaa.Pure
