/- Ascending lists of different numbers: one number put into such a list; lists with the same members are one. -/
import Derived.Test.YtfeadincafegcaaGxSpec04
import Derived.Test.YtfeadincafegcaaPureMasks
namespace Go.Proofs.Ytfeadincafegcaa.Pure
open Go.RowKit Go.Proofs.Ytfeadincafegcaa.P Go.Proofs.YtfeadincafegcaaW.PrintWords Go.Proofs.YtfeadincafegcaaW.PrintLast Go.Proofs.YtfeadincafegcaaW.PrintMore

def SA (l : List Int) : Prop := l.Pairwise (· < ·)
theorem sa_ext : ∀ (a b : List Int), SA a → SA b → (∀ y, y ∈ a ↔ y ∈ b) → a = b := by
  intro a
  induction a with
  | nil =>
    intro b _ _ h
    cases b with
    | nil => rfl
    | cons z b => exact absurd ((h z).2 (by simp)) (by simp)
  | cons x a ih =>
    intro b ha hb h
    cases b with
    | nil => exact absurd ((h x).1 (by simp)) (by simp)
    | cons z b =>
      unfold SA at ha hb
      rw [List.pairwise_cons] at ha hb
      have hxz : x = z := by
        have h1 := (h x).1 (by simp)
        have h2 := (h z).2 (by simp)
        rw [List.mem_cons] at h1 h2
        rcases h1 with h1 | h1
        · exact h1
        · rcases h2 with h2 | h2
          · exact h2.symm
          · have := hb.1 x h1
            have := ha.1 z h2
            omega
      subst hxz
      rw [ih b ha.2 hb.2 (fun y => ?_)]
      constructor
      · intro hy
        have h1 := (h y).1 (by simp [hy])
        rw [List.mem_cons] at h1
        rcases h1 with h1 | h1
        · have := ha.1 y hy
          omega
        · exact h1
      · intro hy
        have h1 := (h y).2 (by simp [hy])
        rw [List.mem_cons] at h1
        rcases h1 with h1 | h1
        · have := hb.1 y hy
          omega
        · exact h1
theorem rd_get (l : List Int) (i : Nat) (h : i < l.length) : l[i] = rd l (i : Int) := by
  have h1 := rd_nat l i h
  rw [List.getElem?_eq_getElem h] at h1
  exact Option.some.inj h1
theorem sa_rd {l : List Int} (h : SA l) {i j : Nat} (hij : i < j) (hj : j < l.length) : rd l (i : Int) < rd l (j : Int) := by
  have := (List.pairwise_iff_getElem.1 h) i j (by omega) hj hij
  rw [rd_get l i (by omega), rd_get l j hj] at this
  exact this
theorem ins_ok {l : List Int} (x : Int) (hs : SA l) (i : Nat) (hi : i ≤ l.length) (h1 : ∀ j : Nat, j < i → rd l (j : Int) < x) (h2 : ∀ j : Nat, i ≤ j → j < l.length → x < rd l (j : Int)) : SA (l.take i ++ [x] ++ l.drop i) ∧ (l.take i ++ [x] ++ l.drop i).length ≤ l.length + 1 ∧ ∀ y, y ∈ l.take i ++ [x] ++ l.drop i ↔ y ∈ l ∨ y = x := by
  have ht : ∀ y ∈ l.take i, y < x := by
    intro y hy
    obtain ⟨j, hj, rfl⟩ := List.mem_iff_getElem.1 hy
    rw [List.length_take] at hj
    rw [List.getElem_take, rd_get l j (by omega)]
    exact h1 j (by omega)
  have hd : ∀ y ∈ l.drop i, x < y := by
    intro y hy
    obtain ⟨j, hj, rfl⟩ := List.mem_iff_getElem.1 hy
    rw [List.length_drop] at hj
    rw [List.getElem_drop, rd_get l (i + j) (by omega)]
    exact h2 (i + j) (by omega) (by omega)
  refine ⟨?_, by simp; omega, fun y => ?_⟩
  · unfold SA at hs ⊢
    rw [List.append_assoc, List.pairwise_append]
    refine ⟨hs.sublist (List.take_sublist _ _), ?_, ?_⟩
    · rw [List.singleton_append, List.pairwise_cons]
      exact ⟨hd, hs.sublist (List.drop_sublist _ _)⟩
    · intro a ha b hb
      rw [List.singleton_append, List.mem_cons] at hb
      have := ht a ha
      rcases hb with hb | hb
      · omega
      · have := hd b hb
        omega
  · have e : y ∈ l ↔ y ∈ l.take i ∨ y ∈ l.drop i := by rw [← List.mem_append, List.take_append_drop]
    rw [e]
    simp only [List.mem_append, List.mem_cons, List.not_mem_nil, or_false]
    constructor
    · rintro ((h | h) | h)
      · exact Or.inl (Or.inl h)
      · exact Or.inr h
      · exact Or.inl (Or.inr h)
    · rintro ((h | h) | h)
      · exact Or.inl (Or.inl h)
      · exact Or.inr h
      · exact Or.inl (Or.inr h)
theorem put_go (l : List Int) (x : Int) (hl : l.length ≤ 1000) (hs : SA l) : ∀ (i k : Nat), i ≤ l.length → i < k → (∀ j : Nat, i ≤ j → j < l.length → x < rd l (j : Int)) → ∃ r, spec_l04Put.l0 k l x (i : Int) = some r ∧ SA r ∧ r.length ≤ l.length + 1 ∧ ∀ y, y ∈ r ↔ y ∈ l ∨ y = x := by
  intro i
  induction i with
  | zero =>
    intro k hi hk h2
    obtain ⟨k, rfl⟩ : ∃ m, k = m + 1 := ⟨k - 1, by omega⟩
    have h := ins_ok x hs 0 hi (fun j hj => by omega) h2
    refine ⟨_, ?_, h⟩
    simp only [spec_l04Put.l0, Option.bind_some]
    rw [if_neg (by omega), if_pos (by omega), if_pos (by omega), if_pos (by simp), if_pos (by simp), if_pos (by simp; omega)]
    simp
  | succ i ih =>
    intro k hi hk h2
    obtain ⟨k, rfl⟩ : ∃ m, k = m + 1 := ⟨k - 1, by omega⟩
    have hw : wrap64 (((i + 1 : Nat) : Int) - 1) = (i : Int) := by rw [w64 (by omega) (by omega)]; omega
    simp only [spec_l04Put.l0, Option.bind_some]
    rw [if_pos (by omega), hw, if_pos (by omega), if_pos (by omega)]
    by_cases c : rd l (i : Int) > x
    · rw [if_pos c]
      refine ih k (by omega) (by omega) (fun j h1 hj => ?_)
      by_cases e : j = i
      · subst e; exact c
      · exact h2 j (by omega) hj
    · rw [if_neg c]
      by_cases e : rd l (i : Int) = x
      · rw [if_pos e]
        refine ⟨l, rfl, hs, by omega, fun y => ⟨Or.inl, ?_⟩⟩
        rintro (h | rfl)
        · exact h
        · rw [← e]; exact rd_mem' l i (by omega)
      · have h := ins_ok x hs (i + 1) hi (fun j hj => by
          by_cases e2 : j = i
          · subst e2; omega
          · have := sa_rd hs (show j < i by omega) (by omega)
            omega) h2
        refine ⟨_, ?_, h⟩
        rw [if_neg e, if_pos (by omega), if_pos (by omega), if_pos (by simp; omega), if_pos (by simp; omega), if_pos (by simp; omega)]
        simp
theorem put_is (l : List Int) (x : Int) (hl : l.length ≤ 1000) (hs : SA l) (k : Nat) (hk : l.length < k) : ∃ r, spec_l04Put.f k l x = some r ∧ SA r ∧ r.length ≤ l.length + 1 ∧ ∀ y, y ∈ r ↔ y ∈ l ∨ y = x := by
  unfold spec_l04Put.f
  exact put_go l x hl hs l.length k (Nat.le_refl _) hk (fun j h1 hj => by omega)
theorem lanesL_iff (m : Int) (x : Int) : x ∈ lanesL m ↔ ∃ j : Nat, j < 8 ∧ hasB m (j : Int) = true ∧ x = (j : Int) := by
  unfold lanesL lanesFrom
  simp only [List.mem_map, List.mem_filter, List.mem_range'_1]
  constructor
  · rintro ⟨j, ⟨h1, h2⟩, rfl⟩
    exact ⟨j, by omega, h2, rfl⟩
  · rintro ⟨j, h1, h2, rfl⟩
    exact ⟨j, ⟨by omega, h2⟩, rfl⟩
theorem sa_sub_len : ∀ (a b : List Int), SA a → (∀ y ∈ a, y ∈ b) → a.length ≤ b.length := by
  intro a
  induction a with
  | nil => intro b _ _; simp
  | cons x a ih =>
    intro b hs h
    unfold SA at hs
    rw [List.pairwise_cons] at hs
    have hx : x ∈ b := h x (by simp)
    have h1 := ih (b.erase x) hs.2 (fun y hy => (List.mem_erase_of_ne (by have := hs.1 y hy; omega)).2 (h y (by simp [hy])))
    rw [List.length_erase_of_mem hx] at h1
    have h2 := List.length_pos_of_mem hx
    rw [List.length_cons]
    omega
theorem nodup_sub_len : ∀ (a b : List Int), a.Nodup → (∀ y ∈ a, y ∈ b) → a.length ≤ b.length := by
  intro a
  induction a with
  | nil => intro b _ _; simp
  | cons x a ih =>
    intro b hs h
    rw [List.nodup_cons] at hs
    have hx : x ∈ b := h x (by simp)
    have h1 := ih (b.erase x) hs.2 (fun y hy => (List.mem_erase_of_ne (fun e => hs.1 (by subst e; exact hy))).2 (h y (by simp [hy])))
    rw [List.length_erase_of_mem hx] at h1
    have h2 := List.length_pos_of_mem hx
    rw [List.length_cons]
    omega
theorem sa_nodup {l : List Int} (h : SA l) : l.Nodup := by
  unfold SA at h
  exact h.imp (fun {a b} hab => by omega)

end Go.Proofs.Ytfeadincafegcaa.Pure
