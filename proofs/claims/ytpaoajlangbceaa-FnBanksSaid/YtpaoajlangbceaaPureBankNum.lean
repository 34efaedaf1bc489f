/- The numbers of addresses in their banks: one address has one number, one number of a bank one address, each number below the degree is some lane's. -/
import Derived.Test.YtpaoajlangbceaaPureBits
import Derived.Test.YtpaoajlangbceaaPureBanks
namespace Go.Proofs.Ytpaoajlangbceaa.Pure
open Go.RowKit Go.Proofs.Ytpaoajlangbceaa.P Go.Proofs.YtpaoajlangbceaaW.PrintWords Go.Proofs.YtpaoajlangbceaaW.PrintLast Go.Proofs.YtpaoajlangbceaaW.PrintMore

theorem mem_bankIn (l : List Int) (b : Int) (z : Int) (t : List Int) : z ∈ bankIn l b t → ∃ y ∈ t, Int.tmod (rd l y) 8 = b ∧ z = rd l y := by
  rw [← List.reverse_reverse t]
  induction t.reverse with
  | nil => intro h; cases h
  | cons a t ih =>
    rw [List.reverse_cons, bankIn_snoc]
    split
    · rename_i h
      intro hz
      rw [List.mem_append, List.mem_singleton] at hz
      rcases hz with hz | rfl
      · obtain ⟨y, hy, h1, h2⟩ := ih hz
        exact ⟨y, by simp only [List.mem_append]; exact Or.inl hy, h1, h2⟩
      · exact ⟨a, by simp, h.1, rfl⟩
    · intro hz
      obtain ⟨y, hy, h1, h2⟩ := ih hz
      exact ⟨y, by simp only [List.mem_append]; exact Or.inl hy, h1, h2⟩
theorem num_at (l : List Int) (m : Int) (x : Nat) (hx : x ≤ 8) : numIn l (lanesL m) (x : Int) = (bankIn l (Int.tmod (rd l (x : Int)) 8) (lanesFrom m 0 x)).idxOf (rd l (x : Int)) := by
  unfold numIn
  rw [lanes_before m x hx]
theorem idx_bank (l : List Int) (m : Int) (x y : Nat) (hx : x ≤ 8) (hy : y < x) (hh : hasB m (y : Int) = true) : rd l (y : Int) ∈ bankIn l (Int.tmod (rd l (y : Int)) 8) (lanesFrom m 0 x) ∧ (bankIn l (Int.tmod (rd l (y : Int)) 8) (lanesFrom m 0 x)).idxOf (rd l (y : Int)) = numIn l (lanesL m) (y : Int) := by
  have hsn := lanesFrom_snoc m y
  rw [if_pos hh] at hsn
  have hbs := bankIn_snoc l (Int.tmod (rd l (y : Int)) 8) (lanesFrom m 0 y) (y : Int)
  rw [← hsn] at hbs
  obtain ⟨r, e⟩ := bankIn_more l (Int.tmod (rd l (y : Int)) 8) (lanesFrom m 0 (y + 1)) (lanesFrom m (y + 1) (x - (y + 1)))
  have ex : lanesFrom m 0 (y + 1) ++ lanesFrom m (y + 1) (x - (y + 1)) = lanesFrom m 0 x := by
    have h := lanesFrom_add m 0 (y + 1) (x - (y + 1))
    rw [Nat.zero_add] at h
    rw [← h]
    congr 1
    omega
  rw [ex, hbs] at e
  rw [e, num_at l m y (by omega)]
  by_cases c : rd l (y : Int) ∈ bankIn l (Int.tmod (rd l (y : Int)) 8) (lanesFrom m 0 y)
  · rw [if_neg (fun h => h.2 c)]
    refine ⟨List.mem_append_left _ c, ?_⟩
    rw [List.idxOf_append, if_pos c]
  · rw [if_pos ⟨rfl, c⟩]
    refine ⟨by simp, ?_⟩
    rw [List.append_assoc, List.idxOf_append, if_neg c, List.singleton_append, List.idxOf_cons_self, Nat.zero_add, List.idxOf_eq_length c]
theorem num_same (l : List Int) (m : Int) (x y : Nat) (hx : x < 8) (hy : y < 8) (hhx : hasB m (x : Int) = true) (hhy : hasB m (y : Int) = true) (e : rd l (x : Int) = rd l (y : Int)) : numIn l (lanesL m) (x : Int) = numIn l (lanesL m) (y : Int) := by
  rcases Nat.lt_trichotomy x y with h | h | h
  · have := (idx_bank l m y x (by omega) h hhx).2
    rw [num_at l m y (by omega), ← e]
    exact this.symm
  · rw [h]
  · have := (idx_bank l m x y (by omega) h hhy).2
    rw [num_at l m x (by omega), e]
    exact this
theorem addr_lt (l : List Int) (m : Int) (x y : Nat) (hx : x < 8) (h : y < x) (hhy : hasB m (y : Int) = true) (hb : Int.tmod (rd l (x : Int)) 8 = Int.tmod (rd l (y : Int)) 8) (e : numIn l (lanesL m) (x : Int) = numIn l (lanesL m) (y : Int)) : rd l (x : Int) = rd l (y : Int) := by
  obtain ⟨h1, h2⟩ := idx_bank l m x y (by omega) h hhy
  rw [num_at l m x (by omega), hb] at e
  rw [← h2] at e
  have hlt := List.idxOf_lt_length_of_mem h1
  by_cases c : rd l (x : Int) ∈ bankIn l (Int.tmod (rd l (y : Int)) 8) (lanesFrom m 0 x)
  · have hlc := List.idxOf_lt_length_of_mem c
    have g1 := List.getElem_idxOf hlt
    have g2 := List.getElem_idxOf hlc
    rw [← g1, ← g2]
    congr 1
  · rw [List.idxOf_eq_length c] at e
    omega
theorem addr_same (l : List Int) (m : Int) (x y : Nat) (hx : x < 8) (hy : y < 8) (hhx : hasB m (x : Int) = true) (hhy : hasB m (y : Int) = true) (hb : Int.tmod (rd l (x : Int)) 8 = Int.tmod (rd l (y : Int)) 8) (e : numIn l (lanesL m) (x : Int) = numIn l (lanesL m) (y : Int)) : rd l (x : Int) = rd l (y : Int) := by
  rcases Nat.lt_trichotomy x y with h | h | h
  · exact (addr_lt l m y x hy h hhx hb.symm e.symm).symm
  · rw [h]
  · exact addr_lt l m x y hx h hhy hb e
theorem num_down (l : List Int) (m : Int) (x : Nat) (hx : x < 8) (hhx : hasB m (x : Int) = true) (r : Nat) (hr : r ≤ numIn l (lanesL m) (x : Int)) : ∃ y : Nat, y < 8 ∧ hasB m (y : Int) = true ∧ numIn l (lanesL m) (y : Int) = r := by
  by_cases c : r = numIn l (lanesL m) (x : Int)
  · exact ⟨x, hx, hhx, c.symm⟩
  · have hn := num_at l m x (by omega)
    have hlen : r < (bankIn l (Int.tmod (rd l (x : Int)) 8) (lanesFrom m 0 x)).length := by
      have := List.idxOf_le_length (a := rd l (x : Int)) (l := bankIn l (Int.tmod (rd l (x : Int)) 8) (lanesFrom m 0 x))
      omega
    obtain ⟨y, hy, h1, h2⟩ := mem_bankIn l _ _ _ (List.getElem_mem hlen)
    have hm := mem_lanesFrom hy
    obtain ⟨j, rfl⟩ := Int.eq_ofNat_of_zero_le (by omega : 0 ≤ y)
    refine ⟨j, by omega, hm.2.2, ?_⟩
    have h3 := (idx_bank l m x j (by omega) (by omega) hm.2.2).2
    rw [h1, ← h2, (bankIn_nodup _ _ _).idxOf_getElem] at h3
    exact h3.symm
theorem num_lt (l : List Int) (m : Int) (x : Nat) (hx : x < 8) (hhx : hasB m (x : Int) = true) : (numIn l (lanesL m) (x : Int) : Int) < degOf l (lanesL m) := by
  have := num_lt_deg l (lanesL m) ((lanesL_iff m (x : Int)).2 ⟨x, hx, hhx, rfl⟩)
  omega
theorem num_has (l : List Int) (m : Int) (r : Nat) (hr : (r : Int) < degOf l (lanesL m)) : ∃ y : Nat, y < 8 ∧ hasB m (y : Int) = true ∧ numIn l (lanesL m) (y : Int) = r := by
  obtain ⟨g1, g2, g3⟩ := fold_max (fun x => (numIn l (lanesL m) x : Int) + 1) (lanesL m) 0
  unfold degOf at hr
  rcases g1 with g1 | ⟨x, hx, g1⟩
  · rw [g1] at hr; omega
  · rw [g1] at hr
    obtain ⟨j, hj, hb, rfl⟩ := (lanesL_iff m x).1 hx
    exact num_down l m j hj hb r (by omega)
theorem num_le_before (l : List Int) (m : Int) (x : Nat) (hx : x < 8) (hhx : hasB m (x : Int) = true) : numIn l (lanesL m) (x : Int) + 1 ≤ (lanesL m).length := by
  rw [num_at l m x (by omega)]
  have h1 := List.idxOf_le_length (a := rd l (x : Int)) (l := bankIn l (Int.tmod (rd l (x : Int)) 8) (lanesFrom m 0 x))
  have h2 := bankIn_len l (Int.tmod (rd l (x : Int)) 8) (lanesFrom m 0 x)
  have h3 : lanesL m = lanesFrom m 0 x ++ ((x : Int) :: lanesFrom m (x + 1) (8 - x - 1)) := by
    have e := lanesFrom_succ m x (8 - x - 1)
    rw [if_pos hhx, List.singleton_append] at e
    rw [← e]
    have h := lanesFrom_add m 0 x (8 - x - 1 + 1)
    rw [Nat.zero_add] at h
    rw [← h]
    unfold lanesL
    congr 1
    omega
  rw [h3, List.length_append, List.length_cons]
  omega
theorem deg_le_lanes (l : List Int) (m : Int) : degOf l (lanesL m) ≤ ((lanesL m).length : Int) := by
  obtain ⟨g1, g2, g3⟩ := fold_max (fun x => (numIn l (lanesL m) x : Int) + 1) (lanesL m) 0
  unfold degOf
  rcases g1 with g1 | ⟨x, hx, g1⟩
  · rw [g1]; omega
  · rw [g1]
    obtain ⟨j, hj, hb, rfl⟩ := (lanesL_iff m x).1 hx
    have := num_le_before l m j hj hb
    omega
/-- The lanes of one round. -/
def roundM (l : List Int) (m : Int) (r : Nat) : Int := orL (fun x => decide (numIn l (lanesL m) x = r)) (lanesL m)
theorem roundM_has (l : List Int) (m : Int) (r i : Nat) (hi : i < 8) : hasB (roundM l m r) (i : Int) = (hasB m (i : Int) && decide (numIn l (lanesL m) (i : Int) = r)) := hasB_orL _ m i hi
theorem roundM_mask (l : List Int) (m : Int) (r : Nat) : isMaskB (roundM l m r) = true := orL_mask _ m
theorem rd_roundsL (l : List Int) (m : Int) (d r : Nat) (h : r < d) : rd (roundsL l (lanesL m) d) (r : Int) = roundM l m r := by
  rw [← ro_rd _ r (by rw [roundsL_len]; exact h)]
  unfold roundsL
  rw [List.getElem_map, List.getElem_range]
  rfl
theorem round_deg (l : List Int) (m : Int) (ha : askedB l m = true) (r : Nat) (hr : (r : Int) < degOf l (lanesL m)) : degL l (roundM l m r) = 1 := by
  have hk : askedB l (roundM l m r) = true := by
    unfold askedB at ha ⊢
    simp only [Bool.and_eq_true] at ha ⊢
    exact ⟨ha.1, roundM_mask l m r⟩
  unfold degL
  rw [if_pos hk]
  have hz : ∀ x : Nat, x < 8 → hasB (roundM l m r) (x : Int) = true → numIn l (lanesL (roundM l m r)) (x : Int) = 0 := by
    intro x hx hh
    rw [num_at l _ x (by omega)]
    cases c : bankIn l (Int.tmod (rd l (x : Int)) 8) (lanesFrom (roundM l m r) 0 x) with
    | nil => rfl
    | cons z s =>
      obtain ⟨y, hy, h1, h2⟩ := mem_bankIn l _ z _ (by rw [c]; simp)
      have hm := mem_lanesFrom hy
      obtain ⟨j, rfl⟩ := Int.eq_ofNat_of_zero_le (by omega : 0 ≤ y)
      have q1 := hm.2.2
      rw [roundM_has l m r j (by omega)] at q1
      rw [roundM_has l m r x hx] at hh
      simp only [Bool.and_eq_true, decide_eq_true_eq] at q1 hh
      have := addr_same l m x j hx (by omega) hh.1 q1.1 h1.symm (by rw [hh.2, q1.2])
      rw [h2, ← this, List.idxOf_cons_self]
  obtain ⟨y, hy, hb, hn⟩ := num_has l m r hr
  have hyr : hasB (roundM l m r) (y : Int) = true := by
    rw [roundM_has l m r y hy, hb, hn]
    simp
  obtain ⟨g1, g2, g3⟩ := fold_max (fun x => (numIn l (lanesL (roundM l m r)) x : Int) + 1) (lanesL (roundM l m r)) 0
  have h1 := num_lt l (roundM l m r) y hy hyr
  unfold degOf at h1 ⊢
  rcases g1 with g1 | ⟨x, hx, g1⟩
  · rw [g1] at h1; omega
  · obtain ⟨j, hj, hbj, rfl⟩ := (lanesL_iff _ x).1 hx
    rw [g1, hz j hj hbj]
    rfl

end Go.Proofs.Ytpaoajlangbceaa.Pure
