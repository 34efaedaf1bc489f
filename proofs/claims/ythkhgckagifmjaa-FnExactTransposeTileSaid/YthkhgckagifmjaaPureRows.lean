/- Plain laws about rows of rows: the laws' own helpers (count, copy, compare, mark, held). No condition beyond the lengths that each row names. -/
import Derived.Test.YthkhgckagifmjaaGxLawsSS
import Derived.Test.YthkhgckagifmjaaPureMark
namespace Go.Proofs.Ythkhgckagifmjaa.Pure
open Go.RowKit Go.Proofs.Ythkhgckagifmjaa.P Go.Proofs.YthkhgckagifmjaaW.PrintWords Go.Proofs.YthkhgckagifmjaaW.PrintLast Go.Proofs.YthkhgckagifmjaaW.PrintMore

/-- How many entries all rows hold. -/
def cnt : List (List Int) → Nat
  | [] => 0
  | r :: t => r.length + cnt t
theorem cnt_mem (t : List (List Int)) : ∀ r ∈ t, r.length ≤ cnt t := by
  induction t with
  | nil => intro r hr; cases hr
  | cons a t ih =>
    intro r hr
    simp only [cnt]
    rcases List.mem_cons.1 hr with rfl | hr
    · omega
    · have := ih r hr; omega
theorem rowL_app (p t : List (List Int)) (r : List Int) : rd_L1 (p ++ r :: t) ((p.length : Nat) : Int) = r := by
  unfold rd_L1
  simp
theorem szIntSS_go : ∀ (t p : List (List Int)) (k : Nat) (left : Int), (∀ r ∈ t, r.length ≤ maxLen) → (p ++ t).length ≤ 1048576 → t.length < k → 0 ≤ left → left ≤ 1048576 →
    laws_szIntSS.l0 k (p ++ t) left ((p.length : Nat) : Int) = some (if left < (cnt t : Int) then -1 else left - (cnt t : Int)) := by
  intro t
  induction t with
  | nil =>
    intro p k left hm hl hk h0 h1
    obtain ⟨k, rfl⟩ : ∃ m, k = m + 1 := ⟨k - 1, by omega⟩
    have ec : cnt [] = 0 := rfl
    simp only [laws_szIntSS.l0]
    rw [if_neg (by simp), if_neg (by omega), ec]
    simp
  | cons r t ih =>
    intro p k left hm hl hk h0 h1
    obtain ⟨k, rfl⟩ : ∃ m, k = m + 1 := ⟨k - 1, by omega⟩
    have hr : r.length ≤ maxLen := hm r (by simp)
    have hml : maxLen = 9223372036854775807 := rfl
    have hpl : p.length + (t.length + 1) ≤ 1048576 := by simpa using hl
    have ec : cnt (r :: t) = r.length + cnt t := rfl
    simp only [laws_szIntSS.l0, rowL_app]
    rw [if_pos (by simp; omega), if_pos (by omega)]
    unfold laws_szIntS.f
    rw [w64 (x := left - (r.length : Int)) (by omega) (by omega)]
    by_cases hlt : left - (r.length : Int) < 0
    · rw [if_pos hlt, Option.bind_some, if_pos (by omega), if_pos (by omega)]
    · rw [if_neg hlt, Option.bind_some, if_neg hlt, w64s p.length (by omega)]
      have h := ih (p ++ [r]) k (left - (r.length : Int)) (fun x hx => hm x (by simp [hx])) (by simpa using hl) (by simp at hk; omega) (by omega) (by omega)
      rw [List.append_assoc, List.singleton_append, List.length_append, List.length_singleton] at h
      rw [h]
      congr 1
      by_cases h2 : left - (r.length : Int) < (cnt t : Int)
      · rw [if_pos h2, if_pos (by omega)]
      · rw [if_neg h2, if_neg (by omega)]; omega
/-- What is left of the budget: too long, or all lengths are small. -/
theorem szIntSS_is (t : List (List Int)) (hl : t.length ≤ maxLen) (hm : ∀ r ∈ t, r.length ≤ maxLen) (k : Nat) (hk : 1048577 ≤ k) :
    ∃ s, laws_szIntSS.f k t 1048576 = some s ∧ (s < 0 ∨ (0 ≤ s ∧ t.length ≤ 1048576 ∧ cnt t ≤ 1048576)) := by
  have hml : maxLen = 9223372036854775807 := rfl
  unfold laws_szIntSS.f
  rw [w64 (x := 1048576 - (t.length : Int)) (by omega) (by omega)]
  by_cases h : 1048576 - (t.length : Int) < 0
  · rw [if_pos h]
    exact ⟨-1, rfl, .inl (by omega)⟩
  · rw [if_neg h]
    have h2 := szIntSS_go t [] k (1048576 - (t.length : Int)) hm (by simp; omega) (by omega) (by omega) (by omega)
    refine ⟨_, h2, ?_⟩
    by_cases h3 : 1048576 - (t.length : Int) < (cnt t : Int)
    · rw [if_pos h3]
      exact .inl (by omega)
    · rw [if_neg h3]
      exact .inr ⟨by omega, by omega, by omega⟩
theorem toIntSS_go : ∀ (t p z : List (List Int)) (k : Nat), (∀ r ∈ t, r.length ≤ 1048576) → (p ++ t).length ≤ 1048576 → t.length + 1048577 < k → z.length = t.length →
    laws_toIntSS.l0 k (p ++ t) (p ++ z) ((p.length : Nat) : Int) = some (p ++ t) := by
  intro t
  induction t with
  | nil =>
    intro p z k hm hl hk hz
    obtain ⟨k, rfl⟩ : ∃ m, k = m + 1 := ⟨k - 1, by omega⟩
    have hz0 : z = [] := List.length_eq_zero_iff.1 (by simpa using hz)
    subst hz0
    simp only [laws_toIntSS.l0]
    rw [if_neg (by simp)]
  | cons r t ih =>
    intro p z k hm hl hk hz
    obtain ⟨k, rfl⟩ : ∃ m, k = m + 1 := ⟨k - 1, by omega⟩
    have hr : r.length ≤ 1048576 := hm r (by simp)
    have hpl : p.length + (t.length + 1) ≤ 1048576 := by simpa using hl
    have hk' : t.length + 1 + 1048577 < k + 1 := by simpa using hk
    obtain ⟨y, z', rfl⟩ : ∃ y z', z = y :: z' := by
      cases z with
      | nil => simp at hz
      | cons y z' => exact ⟨y, z', rfl⟩
    simp only [laws_toIntSS.l0, rowL_app]
    rw [if_pos (by simp; omega), if_pos (by omega), toIntS_eq r hr k (by omega), Option.bind_some, if_pos (by simp; omega), w64s p.length (by omega)]
    have h := ih (p ++ [r]) z' k (fun x hx => hm x (by simp [hx])) (by simpa using hl) (by omega) (by simpa using hz)
    rw [List.append_assoc, List.singleton_append, List.length_append, List.length_singleton, List.append_assoc, List.singleton_append] at h
    rw [Int.toNat_natCast, List.set_append_right _ _ (Nat.le_refl _), Nat.sub_self, List.set_cons_zero]
    exact h
theorem toIntSS_eq (t : List (List Int)) (hl : t.length ≤ 1048576) (hm : ∀ r ∈ t, r.length ≤ 1048576) (k : Nat) (hk : t.length + 1048577 < k) : laws_toIntSS.f k t = some t := by
  unfold laws_toIntSS.f
  rw [if_pos (by omega), if_pos (by omega)]
  exact toIntSS_go t [] _ k hm (by simpa using hl) hk (by simp)
theorem eqIntSS_go : ∀ (t p : List (List Int)) (k : Nat), (∀ r ∈ t, r.length ≤ 1048576) → (p ++ t).length ≤ 1048576 → t.length + 1048577 < k → laws_eqIntSS.l0 k (p ++ t) (p ++ t) ((p.length : Nat) : Int) = some true := by
  intro t
  induction t with
  | nil =>
    intro p k hm hl hk
    obtain ⟨k, rfl⟩ : ∃ m, k = m + 1 := ⟨k - 1, by omega⟩
    simp only [laws_eqIntSS.l0]
    rw [if_neg (by simp)]
  | cons r t ih =>
    intro p k hm hl hk
    obtain ⟨k, rfl⟩ : ∃ m, k = m + 1 := ⟨k - 1, by omega⟩
    have hr : r.length ≤ 1048576 := hm r (by simp)
    have hpl : p.length + (t.length + 1) ≤ 1048576 := by simpa using hl
    have hk' : t.length + 1 + 1048577 < k + 1 := by simpa using hk
    simp only [laws_eqIntSS.l0, rowL_app]
    rw [if_pos (by simp; omega), if_pos (by omega), if_pos (by simp; omega), eqIntS_refl r (by omega) k (by omega), Option.bind_some, if_pos rfl, w64s p.length (by omega)]
    have h := ih (p ++ [r]) k (fun x hx => hm x (by simp [hx])) (by simpa using hl) (by omega)
    rw [List.append_assoc, List.singleton_append, List.length_append, List.length_singleton] at h
    exact h
theorem eqIntSS_refl (t : List (List Int)) (hl : t.length ≤ 1048576) (hm : ∀ r ∈ t, r.length ≤ 1048576) (k : Nat) (hk : t.length + 1048577 < k) : laws_eqIntSS.f k t t = some true := by
  unfold laws_eqIntSS.f
  rw [if_pos rfl]
  exact eqIntSS_go t [] k hm (by simpa using hl) hk
/-- Rows of these lengths, their entries numbered from s on. -/
def marksR : List (List Int) → Int → List (List Int)
  | [], _ => []
  | r :: t, s => marks s r.length :: marksR t (s + (r.length : Int))
theorem marksR_len (t : List (List Int)) : ∀ s, (marksR t s).length = t.length := by
  induction t with
  | nil => intro s; rfl
  | cons r t ih => intro s; simp [marksR, ih]
theorem markR_go : ∀ (t p : List (List Int)) (k : Nat) (a : Int), (∀ r ∈ t, r.length ≤ 1048576) → 1048577 < k → 0 ≤ a → a + (cnt t : Int) ≤ 1073741824 →
    markR k t.length (p ++ t) a p.length = some (a + (cnt t : Int), p ++ marksR t a) := by
  intro t
  induction t with
  | nil =>
    intro p k a hm hk h0 h1
    simp [markR, cnt, marksR]
  | cons r t ih =>
    intro p k a hm hk h0 h1
    have hr : r.length ≤ 1048576 := hm r (by simp)
    simp only [cnt] at h1
    simp only [List.length_cons, markR, rowL_app]
    rw [markIntS_eq r a h0 (by omega) (by omega) k (by omega), Option.bind_some, List.set_append_right _ _ (Nat.le_refl _), Nat.sub_self, List.set_cons_zero]
    have h := ih (p ++ [marks a r.length]) k (a + (r.length : Int)) (fun x hx => hm x (by simp [hx])) hk (by omega) (by omega)
    rw [List.append_assoc, List.singleton_append, List.length_append, List.length_singleton, List.append_assoc, List.singleton_append] at h
    rw [h]
    simp only [cnt, marksR]
    congr 2
    omega
theorem markIntSS_eq (t : List (List Int)) (a : Int) (hm : ∀ r ∈ t, r.length ≤ 1048576) (k : Nat) (hk : 1048577 < k) (h0 : 0 ≤ a) (h1 : a + (cnt t : Int) ≤ 1073741824) : laws_markIntSS.f k t a = some (a + (cnt t : Int), marksR t a) := by
  unfold laws_markIntSS.f
  exact markR_go t [] k a hm hk h0 h1
theorem heldIntSS_go : ∀ (t p : List (List Int)) (k : Nat) (a : Int), (∀ r ∈ t, r.length ≤ 1048576) → p.length + t.length ≤ 1048576 → t.length + 1048577 < k → 0 ≤ a → a + (cnt t : Int) ≤ 1073741824 →
    laws_heldIntSS.l0 k (p ++ marksR t a) a ((p.length : Nat) : Int) = some (a + (cnt t : Int)) := by
  intro t
  induction t with
  | nil =>
    intro p k a hm hl hk h0 h1
    obtain ⟨k, rfl⟩ : ∃ m, k = m + 1 := ⟨k - 1, by omega⟩
    have ec : cnt [] = 0 := rfl
    rw [show marksR [] a = [] from rfl]
    simp only [laws_heldIntSS.l0]
    rw [if_neg (show ¬ ((p.length : Nat) : Int) < (((p ++ ([] : List (List Int))).length : Nat) : Int) by simp), ec]
    simp
  | cons r t ih =>
    intro p k a hm hl hk h0 h1
    obtain ⟨k, rfl⟩ : ∃ m, k = m + 1 := ⟨k - 1, by omega⟩
    have hr : r.length ≤ 1048576 := hm r (by simp)
    simp only [cnt] at h1
    have hl' : p.length + (t.length + 1) ≤ 1048576 := by simpa using hl
    have hk' : t.length + 1 + 1048577 < k + 1 := by simpa using hk
    rw [show marksR (r :: t) a = marks a r.length :: marksR t (a + (r.length : Int)) from rfl]
    simp only [laws_heldIntSS.l0, rowL_app]
    rw [if_pos (by simp; omega), if_pos (by omega), heldIntS_eq a r.length h0 (by omega) (by omega) k (by omega), Option.bind_some, if_neg (by omega), w64s p.length (by omega)]
    have h := ih (p ++ [marks a r.length]) k (a + (r.length : Int)) (fun x hx => hm x (by simp [hx])) (by rw [List.length_append, List.length_singleton]; omega) (by omega) (by omega) (by omega)
    rw [List.append_assoc, List.singleton_append, List.length_append, List.length_singleton] at h
    rw [h]
    simp only [cnt]
    congr 1
    omega
theorem heldIntSS_eq (t : List (List Int)) (a : Int) (hm : ∀ r ∈ t, r.length ≤ 1048576) (hl : t.length ≤ 1048576) (k : Nat) (hk : t.length + 1048577 < k) (h0 : 0 ≤ a) (h1 : a + (cnt t : Int) ≤ 1073741824) : laws_heldIntSS.f k (marksR t a) a = some (a + (cnt t : Int)) := by
  unfold laws_heldIntSS.f
  exact heldIntSS_go t [] k a hm (by simpa using hl) hk h0 h1

end Go.Proofs.Ythkhgckagifmjaa.Pure
