/- An access needs at most one line for each different address, and uses at most all words of its lines, for every setting. -/
import Derived.Test.YtfeadincafegcaaGxPFnLines
import Derived.Test.YtfeadincafegcaaGxSpec27
import Derived.Test.YtfeadincafegcaaGxImpl27
import Derived.Test.YtfeadincafegcaaGxImpl25
import Derived.Test.YtfeadincafegcaaGxSpec04
import Derived.Test.YtfeadincafegcaaGxImpl03
import Derived.Test.YtfeadincafegcaaGxSpec03
import Derived.Test.YtfeadincafegcaaGxLaws
import Derived.Test.YtfeadincafegcaaGxSpec25
import Derived.Test.YtfeadincafegcaaGxSpec01
import Derived.Test.YtfeadincafegcaaGxDraws
namespace Go.Proofs.Ytfeadincafegcaa.Pure
open Go.RowKit Go.Proofs.Ytfeadincafegcaa.P Go.Proofs.YtfeadincafegcaaW.PrintWords Go.Proofs.YtfeadincafegcaaW.PrintLast Go.Proofs.YtfeadincafegcaaW.PrintMore

theorem w64 {x : Int} (h0 : -9223372036854775808 ≤ x) (h1 : x ≤ 9223372036854775807) : wrap64 x = x := by unfold wrap64; omega
theorem w64s (i : Nat) (h : i ≤ 1099511627776) : wrap64 ((i : Int) + 1) = ((i + 1 : Nat) : Int) := by unfold wrap64; omega

theorem rd_nat (l : List Int) (i : Nat) (h : i < l.length) : l[i]? = some (rd l (i : Int)) := by
  unfold rd
  rw [show ((i : Int)).toNat = i from by omega, List.getD_eq_getElem?_getD, List.getElem?_eq_getElem h]
  rfl

theorem toIntS_go (l : List Int) (hl : l.length ≤ 1048576) : ∀ (d k i : Nat) (x : List Int), i + d = l.length → d < k → x.length = l.length → (∀ j, j < i → x[j]? = l[j]?) → laws_toIntS.l0 k l x (i : Int) = some l := by
  intro d
  induction d with
  | zero =>
    intro k i x hi hk hx hj
    obtain ⟨k, rfl⟩ : ∃ m, k = m + 1 := ⟨k - 1, by omega⟩
    simp only [laws_toIntS.l0]
    rw [if_neg (by omega)]
    congr 1
    apply List.ext_getElem?
    intro j
    by_cases h : j < i
    · exact hj j h
    · rw [List.getElem?_eq_none (by omega), List.getElem?_eq_none (by omega)]
  | succ d ih =>
    intro k i x hi hk hx hj
    obtain ⟨k, rfl⟩ : ∃ m, k = m + 1 := ⟨k - 1, by omega⟩
    simp only [laws_toIntS.l0]
    rw [if_pos (by omega), if_pos (by omega), if_pos (by omega), w64s i (by omega)]
    refine ih k (i + 1) _ (by omega) (by omega) (by simpa using hx) ?_
    intro j hj'
    rw [show ((i : Int)).toNat = i from by omega, List.getElem?_set]
    by_cases e : i = j
    · subst e
      rw [if_pos rfl, if_pos (by omega), rd_nat l i (by omega)]
    · rw [if_neg e]
      exact hj j (by omega)
theorem toIntS_eq (l : List Int) (hl : l.length ≤ 1048576) (k : Nat) (hk : l.length < k) : laws_toIntS.f k l = some l := by
  unfold laws_toIntS.f
  rw [if_pos (by omega), if_pos (by omega)]
  exact toIntS_go l hl l.length k 0 _ (by omega) hk (by simp) (fun j hj => by omega)

theorem eqIntS_go (l : List Int) (hl : l.length ≤ 1073741824) : ∀ (d k i : Nat), i + d = l.length → d < k → laws_eqIntS.l0 k l l (i : Int) = some true := by
  intro d
  induction d with
  | zero =>
    intro k i hi hk
    obtain ⟨k, rfl⟩ : ∃ m, k = m + 1 := ⟨k - 1, by omega⟩
    simp only [laws_eqIntS.l0]
    rw [if_neg (by omega)]
  | succ d ih =>
    intro k i hi hk
    obtain ⟨k, rfl⟩ : ∃ m, k = m + 1 := ⟨k - 1, by omega⟩
    simp only [laws_eqIntS.l0]
    rw [if_pos (by omega), if_pos (by omega), if_pos (by omega), if_pos trivial, w64s i (by omega)]
    exact ih k (i + 1) (by omega) (by omega)
theorem eqIntS_refl (l : List Int) (hl : l.length ≤ 1073741824) (k : Nat) (hk : l.length < k) : laws_eqIntS.f k l l = some true := by
  unfold laws_eqIntS.f
  rw [if_pos rfl]
  exact eqIntS_go l hl l.length k 0 (by omega) hk
def isMaskB (m : Int) : Bool := decide (0 ≤ m) && decide (m ≤ 255)
theorem impl_IsMask_is (m : Int) : impl_IsMask.f m = some (isMaskB m) := by
  unfold impl_IsMask.f impl_within.f isMaskB
  by_cases h : m ≥ 0
  · simp [h]
  · have h' : ¬ 0 ≤ m := h
    simp [h']
theorem spec_IsMask_is (m : Int) : spec_IsMask.f m = some (isMaskB m) := by
  unfold spec_IsMask.f spec_l01In.f isMaskB
  by_cases h : m ≥ 0
  · simp [h]
  · have h' : ¬ 0 ≤ m := h
    simp [h']
theorem l01In_lane7 (x : Int) : spec_l01In.f x 0 7 = some (isLaneB x) := by
  unfold spec_l01In.f isLaneB
  by_cases h : x ≥ 0
  · simp [h]
  · have h' : ¬ 0 ≤ x := h
    simp [h']
def hasB (m i : Int) : Bool := isMaskB m && isLaneB i && (Go.bits .and .i64 (shr .i64 m i) 1 == 1)
theorem impl_HasLane_is (m i : Int) : impl_HasLane.f m i = some (hasB m i) := by
  unfold impl_HasLane.f hasB
  rw [impl_IsMask_is, impl_isLane.is]
  simp only [Option.bind_some]
  cases isMaskB m with
  | false => simp
  | true =>
    cases h : isLaneB i with
    | false => simp
    | true =>
      unfold isLaneB at h
      simp only [Bool.and_eq_true, decide_eq_true_eq] at h
      simp [h.1]
theorem spec_HasLane_is (m i : Int) : spec_HasLane.f m i = some (hasB m i) := by
  unfold spec_HasLane.f hasB
  rw [spec_IsMask_is, l01In_lane7]
  simp only [Option.bind_some]
  cases isMaskB m with
  | false => simp
  | true =>
    cases h : isLaneB i with
    | false => simp
    | true =>
      unfold isLaneB at h
      simp only [Bool.and_eq_true, decide_eq_true_eq] at h
      simp [h.1]
theorem hasB_mask {m i : Int} (h : hasB m i = true) : isMaskB m = true := by
  unfold hasB at h
  simp only [Bool.and_eq_true] at h
  exact h.1.1
def lanesFrom (m : Int) (i d : Nat) : List Int := ((List.range' i d).filter fun (j : Nat) => hasB m (j : Int)).map fun (j : Nat) => (j : Int)
def lanesL (m : Int) : List Int := lanesFrom m 0 8
theorem lanesFrom_succ (m : Int) (i d : Nat) : lanesFrom m i (d + 1) = (if hasB m (i : Int) = true then [(i : Int)] else []) ++ lanesFrom m (i + 1) d := by
  unfold lanesFrom
  rw [List.range'_succ, List.filter_cons]
  by_cases h : hasB m (i : Int) = true
  · simp [h]
  · simp [h]
theorem lanesFrom_len (m : Int) (i d : Nat) : (lanesFrom m i d).length ≤ d := by
  unfold lanesFrom
  rw [List.length_map]
  exact Nat.le_trans (List.length_filter_le _ _) (by simp)
theorem lanesL_len (m : Int) : (lanesL m).length ≤ 8 := lanesFrom_len m 0 8
theorem lanesL_mem {m x : Int} (h : x ∈ lanesL m) : 0 ≤ x ∧ x < 8 ∧ hasB m x = true := by
  unfold lanesL lanesFrom at h
  simp only [List.mem_map, List.mem_filter] at h
  obtain ⟨j, ⟨h1, h2⟩, rfl⟩ := h
  have := List.mem_range'_1.mp h1
  exact ⟨by omega, by omega, h2⟩
theorem rd_mem' (l : List Int) (i : Nat) (h : i < l.length) : rd l (i : Int) ∈ l := by
  have := rd_nat l i h
  exact List.mem_of_getElem? this
theorem impl_LanesOf_go (m : Int) : ∀ (d k i : Nat) (x : List Int), i + d = 8 → d < k → x.length ≤ i → impl_LanesOf.l0 k m x (i : Int) = some (x ++ lanesFrom m i d) := by
  intro d
  induction d with
  | zero =>
    intro k i x hi hk hx
    obtain ⟨k, rfl⟩ : ∃ m, k = m + 1 := ⟨k - 1, by omega⟩
    simp only [impl_LanesOf.l0]
    rw [if_neg (by omega)]
    simp [lanesFrom]
  | succ d ih =>
    intro k i x hi hk hx
    obtain ⟨k, rfl⟩ : ∃ m, k = m + 1 := ⟨k - 1, by omega⟩
    simp only [impl_LanesOf.l0]
    rw [if_pos (by omega), impl_HasLane_is, lanesFrom_succ]
    simp only [Option.bind_some]
    by_cases h : hasB m (i : Int) = true
    · rw [if_pos h, if_pos h, if_pos (by omega), w64s i (by omega), ih k (i + 1) _ (by omega) (by omega) (by simp; omega)]
      simp
    · rw [if_neg h, if_neg h, w64s i (by omega), ih k (i + 1) x (by omega) (by omega) (by omega)]
      simp
theorem impl_LanesOf_is (m : Int) (k : Nat) (hk : 9 ≤ k) : impl_LanesOf.f k m = some (lanesL m) := by
  have h := impl_LanesOf_go m 8 k 0 [] (by omega) (by omega) (by simp)
  unfold impl_LanesOf.f
  simpa [lanesL] using h
def SA (l : List Int) : Prop := l.Pairwise (· < ·)
theorem sa_ext : ∀ (a b : List Int), SA a → SA b → (∀ y, y ∈ a ↔ y ∈ b) → a = b := by
  intro a
  induction a with
  | nil =>
    intro b _ _ h
    cases b with
    | nil => rfl
    | cons z b => exact absurd ((h z).2 (by simp)) (by simp)
  | cons x a ih =>
    intro b ha hb h
    cases b with
    | nil => exact absurd ((h x).1 (by simp)) (by simp)
    | cons z b =>
      unfold SA at ha hb
      rw [List.pairwise_cons] at ha hb
      have hxz : x = z := by
        have h1 := (h x).1 (by simp)
        have h2 := (h z).2 (by simp)
        rw [List.mem_cons] at h1 h2
        rcases h1 with h1 | h1
        · exact h1
        · rcases h2 with h2 | h2
          · exact h2.symm
          · have := hb.1 x h1
            have := ha.1 z h2
            omega
      subst hxz
      rw [ih b ha.2 hb.2 (fun y => ?_)]
      constructor
      · intro hy
        have h1 := (h y).1 (by simp [hy])
        rw [List.mem_cons] at h1
        rcases h1 with h1 | h1
        · have := ha.1 y hy
          omega
        · exact h1
      · intro hy
        have h1 := (h y).2 (by simp [hy])
        rw [List.mem_cons] at h1
        rcases h1 with h1 | h1
        · have := hb.1 y hy
          omega
        · exact h1
theorem rd_get (l : List Int) (i : Nat) (h : i < l.length) : l[i] = rd l (i : Int) := by
  have h1 := rd_nat l i h
  rw [List.getElem?_eq_getElem h] at h1
  exact Option.some.inj h1
theorem sa_rd {l : List Int} (h : SA l) {i j : Nat} (hij : i < j) (hj : j < l.length) : rd l (i : Int) < rd l (j : Int) := by
  have := (List.pairwise_iff_getElem.1 h) i j (by omega) hj hij
  rw [rd_get l i (by omega), rd_get l j hj] at this
  exact this
theorem ins_ok {l : List Int} (x : Int) (hs : SA l) (i : Nat) (hi : i ≤ l.length) (h1 : ∀ j : Nat, j < i → rd l (j : Int) < x) (h2 : ∀ j : Nat, i ≤ j → j < l.length → x < rd l (j : Int)) : SA (l.take i ++ [x] ++ l.drop i) ∧ (l.take i ++ [x] ++ l.drop i).length ≤ l.length + 1 ∧ ∀ y, y ∈ l.take i ++ [x] ++ l.drop i ↔ y ∈ l ∨ y = x := by
  have ht : ∀ y ∈ l.take i, y < x := by
    intro y hy
    obtain ⟨j, hj, rfl⟩ := List.mem_iff_getElem.1 hy
    rw [List.length_take] at hj
    rw [List.getElem_take, rd_get l j (by omega)]
    exact h1 j (by omega)
  have hd : ∀ y ∈ l.drop i, x < y := by
    intro y hy
    obtain ⟨j, hj, rfl⟩ := List.mem_iff_getElem.1 hy
    rw [List.length_drop] at hj
    rw [List.getElem_drop, rd_get l (i + j) (by omega)]
    exact h2 (i + j) (by omega) (by omega)
  refine ⟨?_, by simp; omega, fun y => ?_⟩
  · unfold SA at hs ⊢
    rw [List.append_assoc, List.pairwise_append]
    refine ⟨hs.sublist (List.take_sublist _ _), ?_, ?_⟩
    · rw [List.singleton_append, List.pairwise_cons]
      exact ⟨hd, hs.sublist (List.drop_sublist _ _)⟩
    · intro a ha b hb
      rw [List.singleton_append, List.mem_cons] at hb
      have := ht a ha
      rcases hb with hb | hb
      · omega
      · have := hd b hb
        omega
  · have e : y ∈ l ↔ y ∈ l.take i ∨ y ∈ l.drop i := by rw [← List.mem_append, List.take_append_drop]
    rw [e]
    simp only [List.mem_append, List.mem_cons, List.not_mem_nil, or_false]
    constructor
    · rintro ((h | h) | h)
      · exact Or.inl (Or.inl h)
      · exact Or.inr h
      · exact Or.inl (Or.inr h)
    · rintro ((h | h) | h)
      · exact Or.inl (Or.inl h)
      · exact Or.inr h
      · exact Or.inl (Or.inr h)
theorem put_go (l : List Int) (x : Int) (hl : l.length ≤ 1000) (hs : SA l) : ∀ (i k : Nat), i ≤ l.length → i < k → (∀ j : Nat, i ≤ j → j < l.length → x < rd l (j : Int)) → ∃ r, spec_l04Put.l0 k l x (i : Int) = some r ∧ SA r ∧ r.length ≤ l.length + 1 ∧ ∀ y, y ∈ r ↔ y ∈ l ∨ y = x := by
  intro i
  induction i with
  | zero =>
    intro k hi hk h2
    obtain ⟨k, rfl⟩ : ∃ m, k = m + 1 := ⟨k - 1, by omega⟩
    have h := ins_ok x hs 0 hi (fun j hj => by omega) h2
    refine ⟨_, ?_, h⟩
    simp only [spec_l04Put.l0, Option.bind_some]
    rw [if_neg (by omega), if_pos (by omega), if_pos (by omega), if_pos (by simp), if_pos (by simp), if_pos (by simp; omega)]
    simp
  | succ i ih =>
    intro k hi hk h2
    obtain ⟨k, rfl⟩ : ∃ m, k = m + 1 := ⟨k - 1, by omega⟩
    have hw : wrap64 (((i + 1 : Nat) : Int) - 1) = (i : Int) := by rw [w64 (by omega) (by omega)]; omega
    simp only [spec_l04Put.l0, Option.bind_some]
    rw [if_pos (by omega), hw, if_pos (by omega), if_pos (by omega)]
    by_cases c : rd l (i : Int) > x
    · rw [if_pos c]
      refine ih k (by omega) (by omega) (fun j h1 hj => ?_)
      by_cases e : j = i
      · subst e; exact c
      · exact h2 j (by omega) hj
    · rw [if_neg c]
      by_cases e : rd l (i : Int) = x
      · rw [if_pos e]
        refine ⟨l, rfl, hs, by omega, fun y => ⟨Or.inl, ?_⟩⟩
        rintro (h | rfl)
        · exact h
        · rw [← e]; exact rd_mem' l i (by omega)
      · have h := ins_ok x hs (i + 1) hi (fun j hj => by
          by_cases e2 : j = i
          · subst e2; omega
          · have := sa_rd hs (show j < i by omega) (by omega)
            omega) h2
        refine ⟨_, ?_, h⟩
        rw [if_neg e, if_pos (by omega), if_pos (by omega), if_pos (by simp; omega), if_pos (by simp; omega), if_pos (by simp; omega)]
        simp
theorem put_is (l : List Int) (x : Int) (hl : l.length ≤ 1000) (hs : SA l) (k : Nat) (hk : l.length < k) : ∃ r, spec_l04Put.f k l x = some r ∧ SA r ∧ r.length ≤ l.length + 1 ∧ ∀ y, y ∈ r ↔ y ∈ l ∨ y = x := by
  unfold spec_l04Put.f
  exact put_go l x hl hs l.length k (Nat.le_refl _) hk (fun j h1 hj => by omega)
theorem lanesL_iff (m : Int) (x : Int) : x ∈ lanesL m ↔ ∃ j : Nat, j < 8 ∧ hasB m (j : Int) = true ∧ x = (j : Int) := by
  unfold lanesL lanesFrom
  simp only [List.mem_map, List.mem_filter, List.mem_range'_1]
  constructor
  · rintro ⟨j, ⟨h1, h2⟩, rfl⟩
    exact ⟨j, by omega, h2, rfl⟩
  · rintro ⟨j, h1, h2, rfl⟩
    exact ⟨j, ⟨by omega, h2⟩, rfl⟩
theorem sa_sub_len : ∀ (a b : List Int), SA a → (∀ y ∈ a, y ∈ b) → a.length ≤ b.length := by
  intro a
  induction a with
  | nil => intro b _ _; simp
  | cons x a ih =>
    intro b hs h
    unfold SA at hs
    rw [List.pairwise_cons] at hs
    have hx : x ∈ b := h x (by simp)
    have h1 := ih (b.erase x) hs.2 (fun y hy => (List.mem_erase_of_ne (by have := hs.1 y hy; omega)).2 (h y (by simp [hy])))
    rw [List.length_erase_of_mem hx] at h1
    have h2 := List.length_pos_of_mem hx
    rw [List.length_cons]
    omega
theorem nodup_sub_len : ∀ (a b : List Int), a.Nodup → (∀ y ∈ a, y ∈ b) → a.length ≤ b.length := by
  intro a
  induction a with
  | nil => intro b _ _; simp
  | cons x a ih =>
    intro b hs h
    rw [List.nodup_cons] at hs
    have hx : x ∈ b := h x (by simp)
    have h1 := ih (b.erase x) hs.2 (fun y hy => (List.mem_erase_of_ne (fun e => hs.1 (by subst e; exact hy))).2 (h y (by simp [hy])))
    rw [List.length_erase_of_mem hx] at h1
    have h2 := List.length_pos_of_mem hx
    rw [List.length_cons]
    omega
theorem sa_nodup {l : List Int} (h : SA l) : l.Nodup := by
  unfold SA at h
  exact h.imp (fun {a b} hab => by omega)
theorem drop_cons_rd (l : List Int) (i : Nat) (h : i < l.length) : l.drop i = rd l (i : Int) :: l.drop (i + 1) := by
  rw [List.drop_eq_getElem_cons h]
  congr 1
  have := rd_nat l i h
  rw [List.getElem?_eq_getElem h] at this
  exact Option.some.inj this
theorem l01In_addr (x : Int) : spec_l01In.f x 0 4095 = some (isAddr x) := by
  unfold spec_l01In.f isAddr
  by_cases h : x ≥ 0
  · simp [h]
  · have h' : ¬ 0 ≤ x := h
    simp [h']
theorem spec_AddressesOk_go (l : List Int) (hl : l.length ≤ 1048576) : ∀ (d k i : Nat), i + d = l.length → d < k → spec_AddressesOk.l0 k l (i : Int) = some (decide (l.length = 8) && (l.drop i).all isAddr || (!(l.drop i).all isAddr && false)) := by
  intro d
  induction d with
  | zero =>
    intro k i hi hk
    obtain ⟨k, rfl⟩ : ∃ m, k = m + 1 := ⟨k - 1, by omega⟩
    simp only [spec_AddressesOk.l0]
    rw [if_neg (by omega), List.drop_of_length_le (by omega)]
    by_cases h8 : l.length = 8
    · simp [h8]
    · simp [h8]; omega
  | succ d ih =>
    intro k i hi hk
    obtain ⟨k, rfl⟩ : ∃ m, k = m + 1 := ⟨k - 1, by omega⟩
    simp only [spec_AddressesOk.l0]
    rw [if_pos (by omega), if_pos (by omega), l01In_addr, drop_cons_rd l i (by omega)]
    simp only [Option.bind_some]
    cases h : isAddr (rd l (i : Int)) with
    | true =>
      rw [if_pos rfl, w64s i (by omega), ih k (i + 1) (by omega) (by omega)]
      simp [h]
    | false =>
      simp [h]
theorem spec_AddressesOk_is (l : List Int) (hl : l.length ≤ 1048576) (k : Nat) (hk : l.length < k) : spec_AddressesOk.f k l = some (decide (l.length = 8) && l.all isAddr) := by
  have h := spec_AddressesOk_go l hl l.length k 0 (by omega) hk
  unfold spec_AddressesOk.f
  rw [show ((0 : Nat) : Int) = 0 from rfl] at h
  rw [h]
  simp
theorem l27_go (l : List Int) (m n : Int) (h8 : l.length = 8) (hn : n ≠ 0) : ∀ (d k i : Nat) (x : List Int), i + d = 8 → d + 30 < k → SA x → x.length ≤ i → (∀ y, y ∈ x ↔ ∃ j : Nat, j < i ∧ hasB m (j : Int) = true ∧ y = wrap64 (Int.tdiv (rd l (j : Int)) n)) → ∃ r, spec_l27Put.l0 k l m n x (i : Int) = some r ∧ SA r ∧ ∀ y, y ∈ r ↔ ∃ j : Nat, j < 8 ∧ hasB m (j : Int) = true ∧ y = wrap64 (Int.tdiv (rd l (j : Int)) n) := by
  intro d
  induction d with
  | zero =>
    intro k i x hi hk hs hx hm
    obtain ⟨k, rfl⟩ : ∃ m, k = m + 1 := ⟨k - 1, by omega⟩
    obtain rfl : i = 8 := by omega
    simp only [spec_l27Put.l0]
    rw [if_neg (by omega)]
    exact ⟨x, rfl, hs, hm⟩
  | succ d ih =>
    intro k i x hi hk hs hx hm
    obtain ⟨k, rfl⟩ : ∃ m, k = m + 1 := ⟨k - 1, by omega⟩
    simp only [spec_l27Put.l0]
    rw [if_pos (by omega), spec_HasLane_is]
    simp only [Option.bind_some]
    by_cases hh : hasB m (i : Int) = true
    · obtain ⟨r, e, h1, h2, h3⟩ := put_is x (wrap64 (Int.tdiv (rd l (i : Int)) n)) (by omega) hs k (by omega)
      rw [if_pos hh, if_pos (by omega), if_neg hn, e]
      simp only [Option.bind_some]
      rw [w64s i (by omega)]
      refine ih k (i + 1) r (by omega) (by omega) h1 (by omega) (fun y => ?_)
      rw [h3 y, hm y]
      constructor
      · rintro (⟨j, a, b, c⟩ | c)
        · exact ⟨j, by omega, b, c⟩
        · exact ⟨i, by omega, hh, c⟩
      · rintro ⟨j, a, b, c⟩
        by_cases e2 : j = i
        · subst e2; exact Or.inr c
        · exact Or.inl ⟨j, by omega, b, c⟩
    · rw [if_neg hh, w64s i (by omega)]
      refine ih k (i + 1) x (by omega) (by omega) hs (by omega) (fun y => ?_)
      rw [hm y]
      constructor
      · rintro ⟨j, a, b, c⟩
        exact ⟨j, by omega, b, c⟩
      · rintro ⟨j, a, b, c⟩
        by_cases e2 : j = i
        · subst e2; exact absurd b hh
        · exact ⟨j, by omega, b, c⟩
theorem l27_is (l : List Int) (m n : Int) (h8 : l.length = 8) (hn : n ≠ 0) (k : Nat) (hk : 40 ≤ k) : ∃ r, spec_l27Put.f k l m n = some r ∧ SA r ∧ ∀ y, y ∈ r ↔ ∃ j : Nat, j < 8 ∧ hasB m (j : Int) = true ∧ y = wrap64 (Int.tdiv (rd l (j : Int)) n) := by
  unfold spec_l27Put.f
  exact l27_go l m n h8 hn 8 k 0 [] (by omega) (by omega) List.Pairwise.nil (by simp) (fun y => by simp)
theorem compact_go (d : Array Int) (hd : ∀ i j : Nat, i ≤ j → j < d.size → d[i]! ≤ d[j]!) : ∀ m : Nat, m ≤ d.size → SA (Go.Lib.compactUpTo d m) ∧ ∀ y, y ∈ Go.Lib.compactUpTo d m ↔ ∃ j : Nat, j < m ∧ y = d[j]! := by
  intro m
  induction m with
  | zero =>
    intro _
    have e : Go.Lib.compactUpTo d 0 = [] := rfl
    rw [e]
    exact ⟨List.Pairwise.nil, fun y => by simp⟩
  | succ m ih =>
    intro hm
    obtain ⟨h1, h2⟩ := ih (by omega)
    rw [Go.Lib.compactUpTo_succ]
    by_cases hk : Go.Lib.keeps d m = true
    · rw [if_pos hk]
      have hlt : ∀ y ∈ Go.Lib.compactUpTo d m, y < d[m]! := by
        intro y hy
        obtain ⟨j, hj, rfl⟩ := (h2 y).1 hy
        have hne : d[m]! ≠ d[m - 1]! := by
          intro e
          rw [Go.Lib.keeps_neg (by omega) e] at hk
          cases hk
        have a1 := hd j (m - 1) (by omega) (by omega)
        have a2 := hd (m - 1) m (by omega) (by omega)
        omega
      refine ⟨?_, fun y => ?_⟩
      · unfold SA at h1 ⊢
        rw [List.pairwise_append]
        refine ⟨h1, List.pairwise_singleton _ _, fun a ha b hb => ?_⟩
        rw [List.mem_singleton] at hb
        subst hb
        exact hlt a ha
      · rw [List.mem_append, h2 y, List.mem_singleton]
        constructor
        · rintro (⟨j, a, b⟩ | b)
          · exact ⟨j, by omega, b⟩
          · exact ⟨m, by omega, b⟩
        · rintro ⟨j, a, b⟩
          by_cases e : j = m
          · subst e; exact Or.inr b
          · exact Or.inl ⟨j, by omega, b⟩
    · rw [if_neg hk, List.append_nil]
      refine ⟨h1, fun y => ?_⟩
      rw [h2 y]
      constructor
      · rintro ⟨j, a, b⟩
        exact ⟨j, by omega, b⟩
      · rintro ⟨j, a, b⟩
        by_cases e : j = m
        · subst e
          have hm0 : 0 < j := by
            by_cases h0 : 0 < j
            · exact h0
            · have : j = 0 := by omega
              subst this
              rw [Go.Lib.keeps_lt_one d 0 (by omega)] at hk
              exact absurd rfl hk
          have he : d[j]! = d[j - 1]! := Classical.byContradiction fun hne => hk (Go.Lib.keeps_pos hne)
          exact ⟨j - 1, by omega, by rw [b, he]⟩
        · exact ⟨j, by omega, b⟩
theorem difL_is (zs : List Int) : SA (difL zs) ∧ ∀ y, y ∈ difL zs ↔ y ∈ zs := by
  have hp : (zs.mergeSort fun x y => decide (x ≤ y)).Pairwise fun x y => decide (x ≤ y) = true := List.pairwise_mergeSort (fun a b c h1 h2 => by simp at *; omega) (fun a b => by simp; omega) zs
  have hperm := List.mergeSort_perm zs fun x y => decide (x ≤ y)
  unfold difL Go.Lib.compact
  generalize (zs.mergeSort fun x y => decide (x ≤ y)) = s at hp hperm
  have hd : ∀ i j : Nat, i ≤ j → j < s.toArray.size → s.toArray[i]! ≤ s.toArray[j]! := by
    intro i j hij hj
    have hj' : j < s.length := by simpa using hj
    have e1 : s.toArray[i]! = s[i] := by simp [show i < s.length by omega]
    have e2 : s.toArray[j]! = s[j] := by simp [hj']
    rw [e1, e2]
    by_cases e : i = j
    · subst e; exact Int.le_refl _
    · have := (List.pairwise_iff_getElem.1 hp) i j (by omega) hj' (by omega)
      simpa using this
  obtain ⟨h1, h2⟩ := compact_go s.toArray hd s.length (by simp)
  refine ⟨h1, fun y => ?_⟩
  rw [h2 y, ← hperm.mem_iff]
  constructor
  · rintro ⟨j, hj, rfl⟩
    have e : s.toArray[j]! = s[j] := by simp [hj]
    rw [e]
    exact List.getElem_mem hj
  · intro hy
    obtain ⟨j, hj, rfl⟩ := List.mem_iff_getElem.1 hy
    exact ⟨j, hj, by simp [hj]⟩
theorem dif_lines (l : List Int) (m n : Int) (fv : Int → Int) (hfv : ∀ i : Int, fv i = wrap64 (Int.tdiv (rd l i) n)) (r : List Int) (hs : SA r) (hr : ∀ y, y ∈ r ↔ ∃ j : Nat, j < 8 ∧ hasB m (j : Int) = true ∧ y = wrap64 (Int.tdiv (rd l (j : Int)) n)) : r = difL ((lanesL m).map fv) := by
  obtain ⟨h1, h2⟩ := difL_is ((lanesL m).map fv)
  refine sa_ext _ _ hs h1 (fun y => ?_)
  rw [hr y, h2 y, List.mem_map]
  constructor
  · rintro ⟨j, a, b, c⟩
    exact ⟨(j : Int), (lanesL_iff m _).2 ⟨j, a, b, rfl⟩, by rw [hfv, c]⟩
  · rintro ⟨x, hx, rfl⟩
    obtain ⟨j, a, b, rfl⟩ := (lanesL_iff m x).1 hx
    exact ⟨j, a, b, hfv _⟩
def marks (s : Int) (n : Nat) : List Int := (List.range n).map fun (i : Nat) => s + (i : Int)
theorem marks_len (s : Int) (n : Nat) : (marks s n).length = n := by simp [marks]
theorem marks_get (s : Int) (n j : Nat) (h : j < n) : (marks s n)[j]? = some (s + (j : Int)) := by simp [marks, h]
theorem rd_marks (s : Int) (n j : Nat) (h : j < n) : rd (marks s n) (j : Int) = s + (j : Int) := by
  have h1 := rd_nat (marks s n) j (by rw [marks_len]; exact h)
  rw [marks_get s n j h] at h1
  exact (Option.some.inj h1).symm

theorem markIntS_go (s : Int) (n : Nat) (h0 : 0 ≤ s) (h1 : s ≤ 1073741824) (hn : n ≤ 1073741824) : ∀ (d k i : Nat) (x : List Int), i + d = n → d < k → x.length = n → (∀ j, j < i → x[j]? = some (s + (j : Int))) → laws_markIntS.l0 k x (s + (i : Int)) (i : Int) = some (s + (n : Int), marks s n) := by
  intro d
  induction d with
  | zero =>
    intro k i x hi hk hx hj
    obtain ⟨k, rfl⟩ : ∃ m, k = m + 1 := ⟨k - 1, by omega⟩
    simp only [laws_markIntS.l0]
    rw [if_neg (by omega)]
    obtain rfl : i = n := by omega
    congr 2
    apply List.ext_getElem?
    intro j
    by_cases h : j < i
    · rw [hj j h, marks_get s i j h]
    · rw [List.getElem?_eq_none (by omega), List.getElem?_eq_none (by rw [marks_len]; omega)]
  | succ d ih =>
    intro k i x hi hk hx hj
    obtain ⟨k, rfl⟩ : ∃ m, k = m + 1 := ⟨k - 1, by omega⟩
    simp only [laws_markIntS.l0]
    rw [if_pos (by omega), if_pos (by omega), w64s i (by omega), show wrap64 (s + (i : Int) + 1) = s + ((i + 1 : Nat) : Int) from by unfold wrap64; omega]
    refine ih k (i + 1) _ (by omega) (by omega) (by simpa using hx) ?_
    intro j hj'
    rw [show ((i : Int)).toNat = i from by omega, List.getElem?_set]
    by_cases e : i = j
    · subst e
      rw [if_pos rfl, if_pos (by omega)]
    · rw [if_neg e]
      exact hj j (by omega)
theorem markIntS_eq (l : List Int) (s : Int) (h0 : 0 ≤ s) (h1 : s ≤ 1073741824) (hl : l.length ≤ 1073741824) (k : Nat) (hk : l.length < k) : laws_markIntS.f k l s = some (s + (l.length : Int), marks s l.length) := by
  have h := markIntS_go s l.length h0 h1 hl l.length k 0 l (by omega) hk rfl (fun j hj => by omega)
  unfold laws_markIntS.f
  simpa using h

theorem heldIntS_go (s : Int) (n : Nat) (h0 : 0 ≤ s) (h1 : s ≤ 1073741824) (hn : n ≤ 1073741824) : ∀ (d k i : Nat), i + d = n → d < k → laws_heldIntS.l0 k (marks s n) (s + (i : Int)) (i : Int) = some (s + (n : Int)) := by
  intro d
  induction d with
  | zero =>
    intro k i hi hk
    obtain ⟨k, rfl⟩ : ∃ m, k = m + 1 := ⟨k - 1, by omega⟩
    simp only [laws_heldIntS.l0]
    rw [marks_len, if_neg (by omega)]
    obtain rfl : i = n := by omega
    rfl
  | succ d ih =>
    intro k i hi hk
    obtain ⟨k, rfl⟩ : ∃ m, k = m + 1 := ⟨k - 1, by omega⟩
    simp only [laws_heldIntS.l0]
    rw [marks_len, if_pos (by omega), if_pos (by omega), rd_marks s n i (by omega), if_pos rfl, w64s i (by omega), show wrap64 (s + (i : Int) + 1) = s + ((i + 1 : Nat) : Int) from by unfold wrap64; omega]
    exact ih k (i + 1) (by omega) (by omega)
theorem heldIntS_eq (s : Int) (n : Nat) (h0 : 0 ≤ s) (h1 : s ≤ 1073741824) (hn : n ≤ 1073741824) (k : Nat) (hk : n < k) : laws_heldIntS.f k (marks s n) s = some (s + (n : Int)) := by
  have h := heldIntS_go s n h0 h1 hn n k 0 (by omega) hk
  unfold laws_heldIntS.f
  simpa using h
theorem l01In_stride (x : Int) : spec_l01In.f x 0 512 = some (isStrideB x) := by
  unfold spec_l01In.f isStrideB
  by_cases h : x ≥ 0
  · simp [h]
  · have h' : ¬ 0 ≤ x := h
    simp [h']
theorem strides_plain (a0 a1 : Int) (h0 : isAddr a0 = true) (h1 : isStrideB a1 = true) : strides a0 a1 = [a0, a0 + a1, a0 + 2 * a1, a0 + 3 * a1, a0 + 4 * a1, a0 + 5 * a1, a0 + 6 * a1, a0 + 7 * a1] := by
  unfold isAddr at h0
  unfold isStrideB at h1
  simp only [Bool.and_eq_true, decide_eq_true_eq] at h0 h1
  unfold strides lanes8
  dsimp only
  rw [w64 (x := 0 * a1) (by omega) (by omega), w64 (x := 1 * a1) (by omega) (by omega), w64 (x := 2 * a1) (by omega) (by omega), w64 (x := 3 * a1) (by omega) (by omega), w64 (x := 4 * a1) (by omega) (by omega), w64 (x := 5 * a1) (by omega) (by omega), w64 (x := 6 * a1) (by omega) (by omega), w64 (x := 7 * a1) (by omega) (by omega)]
  rw [w64 (by omega) (by omega), w64 (by omega) (by omega), w64 (by omega) (by omega), w64 (by omega) (by omega), w64 (by omega) (by omega), w64 (by omega) (by omega), w64 (by omega) (by omega), w64 (by omega) (by omega)]
  simp
theorem strides_all (a0 a1 : Int) (h0 : isAddr a0 = true) (h1 : isStrideB a1 = true) : (strides a0 a1).all isAddr = decide (a0 + 7 * a1 ≤ 4095) := by
  rw [strides_plain a0 a1 h0 h1]
  unfold isAddr at h0
  unfold isStrideB at h1
  simp only [Bool.and_eq_true, decide_eq_true_eq] at h0 h1
  unfold isAddr
  rw [Bool.eq_iff_iff]
  simp only [List.all_cons, List.all_nil, Bool.and_true, Bool.and_eq_true, decide_eq_true_eq]
  omega
def stridesL (a0 a1 : Int) : List Int := if (isAddr a0 && isStrideB a1 && decide (a0 + 7 * a1 ≤ 4095)) = true then strides a0 a1 else []
theorem stridesL_len (a0 a1 : Int) : (stridesL a0 a1).length ≤ 8 := by
  unfold stridesL
  split
  · exact Nat.le_refl _
  · simp
theorem impl_Strided_is (a0 a1 : Int) : impl_Strided.f a0 a1 = some (stridesL a0 a1) := by
  unfold impl_Strided.f stridesL
  cases h0 : isAddr a0 with
  | false => simp
  | true =>
    cases h1 : isStrideB a1 with
    | false => simp
    | true => rw [strides_all a0 a1 h0 h1]
def askedB (l : List Int) (m : Int) : Bool := (decide (l.length = 8) && l.all isAddr) && isMaskB m
theorem impl_areAsked_is (l : List Int) (m : Int) : impl_areAsked.f l m = some (askedB l m) := by
  unfold impl_areAsked.f askedB impl_AddressesOk.f
  rw [impl_IsMask_is]
  cases decide (l.length = 8) && l.all isAddr <;> rfl
theorem askedB_len {l : List Int} {m : Int} (h : askedB l m = true) : l.length = 8 := by
  unfold askedB at h
  simp only [Bool.and_eq_true, decide_eq_true_eq] at h
  exact h.1.1
theorem rd_small {l : List Int} {m : Int} (h : askedB l m = true) (i : Int) : 0 ≤ rd l i ∧ rd l i ≤ 4095 := by
  unfold askedB at h
  simp only [Bool.and_eq_true, decide_eq_true_eq, List.all_eq_true] at h
  unfold rd
  by_cases c : i.toNat < l.length
  · have hm : l.getD i.toNat 0 ∈ l := by
      rw [List.getD_eq_getElem?_getD, List.getElem?_eq_getElem c]
      exact List.getElem_mem c
    have := h.1.2 _ hm
    unfold isAddr at this
    simp only [Bool.and_eq_true, decide_eq_true_eq] at this
    omega
  · rw [List.getD_eq_getElem?_getD, List.getElem?_eq_none (by omega)]
    simp
theorem lanes_ok (m : Int) : (lanesL m).length ≤ 8 ∧ ∀ j : Nat, j < (lanesL m).length → 0 ≤ rd (lanesL m) (j : Int) ∧ rd (lanesL m) (j : Int) < 8 := by
  refine ⟨lanesL_len m, fun j hj => ?_⟩
  have := lanesL_mem (rd_mem' (lanesL m) j hj)
  exact ⟨this.1, this.2.1⟩
def linesL (l : List Int) (m : Int) : List Int := if askedB l m = true then difL ((lanesL m).map fun i => wrap64 (Int.tdiv (rd l i) 8)) else []
def wordsL (l : List Int) (m : Int) : List Int := difL ((lanesL m).map fun i => rd l i)
def usedW (l : List Int) (m : Int) : Int := if askedB l m = true then ((wordsL l m).length : Int) else -1
theorem difL_len (zs : List Int) : (difL zs).length ≤ zs.length := by
  unfold difL
  exact Nat.le_trans (compact_le _) (by rw [List.length_mergeSort]; exact Nat.le_refl _)
theorem linesL_len (l : List Int) (m : Int) : (linesL l m).length ≤ 8 := by
  unfold linesL
  split
  · exact Nat.le_trans (difL_len _) (by rw [List.length_map]; exact lanesL_len m)
  · simp
theorem wordsL_len (l : List Int) (m : Int) : (wordsL l m).length ≤ 8 := Nat.le_trans (difL_len _) (by rw [List.length_map]; exact lanesL_len m)
theorem difL_pos {zs : List Int} (h : 0 < zs.length) : 0 < (difL zs).length := by
  obtain ⟨a, ha⟩ := List.exists_mem_of_length_pos h
  exact List.length_pos_of_mem ((difL_is zs).2 a |>.2 ha)
theorem lines_pos {l : List Int} {m : Int} (h : askedB l m = true) (hw : 0 < (wordsL l m).length) : 0 < (linesL l m).length := by
  unfold linesL
  rw [if_pos h]
  apply difL_pos
  have h1 := difL_len ((lanesL m).map fun i => rd l i)
  unfold wordsL at hw
  rw [List.length_map] at h1 ⊢
  omega
theorem impl_LinesOf_is (l : List Int) (m : Int) (k : Nat) (hk : 40 ≤ k) : impl_LinesOf.f k l m = some (linesL l m) := by
  unfold impl_LinesOf.f linesL
  rw [impl_areAsked_is]
  simp only [Option.bind_some]
  cases h : askedB l m with
  | false => rfl
  | true =>
    have h8 := askedB_len h
    have ho := lanes_ok m
    rw [if_pos rfl, if_pos rfl, impl_LanesOf_is m k (by omega)]
    simp only [Option.bind_some]
    rw [if_pos ⟨by omega, ho.1, ho.2⟩]
theorem impl_UsedWords_is (l : List Int) (m : Int) (k : Nat) (hk : 40 ≤ k) : impl_UsedWords.f k l m = some (usedW l m) := by
  unfold impl_UsedWords.f usedW wordsL
  rw [impl_areAsked_is]
  simp only [Option.bind_some]
  cases h : askedB l m with
  | false => rfl
  | true =>
    have h8 := askedB_len h
    have ho := lanes_ok m
    rw [if_pos rfl, if_pos rfl, impl_LanesOf_is m k (by omega)]
    simp only [Option.bind_some]
    rw [if_pos ⟨by omega, ho.1, ho.2⟩]
theorem spec_LinesOf_is (l : List Int) (m : Int) (hl : l.length ≤ 1048576) (k : Nat) (hk : l.length + 40 < k) : spec_LinesOf.f k l m = some (linesL l m) := by
  unfold spec_LinesOf.f linesL
  rw [spec_AddressesOk_is l hl k (by omega)]
  simp only [Option.bind_some]
  have e : askedB l m = ((decide (l.length = 8) && l.all isAddr) && isMaskB m) := rfl
  cases ha : decide (l.length = 8) && l.all isAddr with
  | false =>
    rw [e, ha]
    simp
  | true =>
    rw [if_pos rfl, spec_IsMask_is]
    simp only [Option.bind_some]
    cases hm : isMaskB m with
    | false =>
      rw [e, ha, hm]
      simp
    | true =>
      have h : askedB l m = true := by rw [e, ha, hm]; rfl
      obtain ⟨r, e1, h1, h2⟩ := l27_is l m 8 (askedB_len h) (by omega) k (by omega)
      rw [if_pos rfl, if_pos h, e1, dif_lines l m 8 (fun i => wrap64 (Int.tdiv (rd l i) 8)) (fun _ => rfl) r h1 h2]
      rfl
theorem spec_UsedWords_is (l : List Int) (m : Int) (hl : l.length ≤ 1048576) (k : Nat) (hk : l.length + 40 < k) : spec_UsedWords.f k l m = some (usedW l m) := by
  unfold spec_UsedWords.f usedW wordsL
  rw [spec_AddressesOk_is l hl k (by omega)]
  simp only [Option.bind_some]
  have e : askedB l m = ((decide (l.length = 8) && l.all isAddr) && isMaskB m) := rfl
  cases ha : decide (l.length = 8) && l.all isAddr with
  | false =>
    rw [e, ha]
    simp
  | true =>
    rw [if_pos rfl, spec_IsMask_is]
    simp only [Option.bind_some]
    cases hm : isMaskB m with
    | false =>
      rw [e, ha, hm]
      simp
    | true =>
      have h : askedB l m = true := by rw [e, ha, hm]; rfl
      obtain ⟨r, e1, h1, h2⟩ := l27_is l m 1 (askedB_len h) (by omega) k (by omega)
      rw [if_pos rfl, if_pos h, e1, dif_lines l m 1 (fun i => rd l i) (fun i => by
        have hr := rd_small h i
        rw [Int.tdiv_one, w64 (by omega) (by omega)]) r h1 h2]
      rfl
def useN (u n : Int) : Int := if u < 0 then -1 else if u = 0 then 1000 else wrap64 (Int.tdiv (wrap64 (1000 * u)) (wrap64 (8 * n)))
theorem use_fin (u n : Int) (h : ¬ u < 0 → ¬ u = 0 → ¬ wrap64 (8 * n) = 0) : (if u < 0 then (some (-1)) else (if u = 0 then (some 1000) else (if wrap64 (8 * n) = 0 then none else some (wrap64 (Int.tdiv (wrap64 (1000 * u)) (wrap64 (8 * n))))))) = some (useN u n) := by
  unfold useN
  by_cases h0 : u < 0
  · rw [if_pos h0, if_pos h0]
  · rw [if_neg h0, if_neg h0]
    by_cases h1 : u = 0
    · rw [if_pos h1, if_pos h1]
    · rw [if_neg h1, if_neg h1, if_neg (h h0 h1)]
def useL (l : List Int) (m : Int) : Int := useN (usedW l m) ((linesL l m).length : Int)
theorem use_ne (l : List Int) (m : Int) (h0 : ¬ usedW l m < 0) (h1 : ¬ usedW l m = 0) : ¬ wrap64 (8 * ((linesL l m).length : Int)) = 0 := by
  have ha : askedB l m = true := by
    cases h : askedB l m with
    | true => rfl
    | false =>
      exfalso
      apply h0
      unfold usedW
      rw [h]
      simp
  have hw : 0 < (wordsL l m).length := by
    unfold usedW at h1
    rw [if_pos ha] at h1
    omega
  have h2 := lines_pos ha hw
  have h3 := linesL_len l m
  rw [w64 (by omega) (by omega)]
  omega
/-- The eight words of each of some lines. -/
def eights : List Int → List Int
  | [] => []
  | y :: l => 8 * y :: (8 * y + 1) :: (8 * y + 2) :: (8 * y + 3) :: (8 * y + 4) :: (8 * y + 5) :: (8 * y + 6) :: (8 * y + 7) :: eights l
theorem eights_len : ∀ l : List Int, (eights l).length = 8 * l.length := by
  intro l
  induction l with
  | nil => rfl
  | cons y l ih => simp only [eights, List.length_cons, ih]; omega
theorem mem_eights {z y : Int} (h0 : 8 * y ≤ z) (h1 : z < 8 * y + 8) : ∀ l : List Int, y ∈ l → z ∈ eights l := by
  intro l
  induction l with
  | nil => intro h; cases h
  | cons x l ih =>
    intro h
    rw [List.mem_cons] at h
    simp only [eights, List.mem_cons]
    rcases h with rfl | h
    · have : z = 8 * y ∨ z = 8 * y + 1 ∨ z = 8 * y + 2 ∨ z = 8 * y + 3 ∨ z = 8 * y + 4 ∨ z = 8 * y + 5 ∨ z = 8 * y + 6 ∨ z = 8 * y + 7 := by omega
      simp only [← or_assoc] at this ⊢
      exact Or.inl this
    · simp only [ih h, or_true]
theorem line_of (x : Int) (h0 : 0 ≤ x) (h1 : x ≤ 4095) : wrap64 (Int.tdiv x 8) = x / 8 := by
  rw [Int.tdiv_eq_ediv_of_nonneg h0, w64 (by omega) (by omega)]
theorem mem_linesL {l : List Int} {m : Int} (h : askedB l m = true) (y : Int) : y ∈ linesL l m ↔ ∃ j : Nat, j < 8 ∧ hasB m (j : Int) = true ∧ y = rd l (j : Int) / 8 := by
  unfold linesL
  rw [if_pos h, (difL_is _).2, List.mem_map]
  constructor
  · rintro ⟨x, hx, rfl⟩
    obtain ⟨j, a, b, rfl⟩ := (lanesL_iff m x).1 hx
    have hs := rd_small h (j : Int)
    exact ⟨j, a, b, line_of _ hs.1 hs.2⟩
  · rintro ⟨j, a, b, rfl⟩
    have hs := rd_small h (j : Int)
    exact ⟨(j : Int), (lanesL_iff m _).2 ⟨j, a, b, rfl⟩, line_of _ hs.1 hs.2⟩
theorem mem_wordsL (l : List Int) (m : Int) (y : Int) : y ∈ wordsL l m ↔ ∃ j : Nat, j < 8 ∧ hasB m (j : Int) = true ∧ y = rd l (j : Int) := by
  unfold wordsL
  rw [(difL_is _).2, List.mem_map]
  constructor
  · rintro ⟨x, hx, rfl⟩
    obtain ⟨j, a, b, rfl⟩ := (lanesL_iff m x).1 hx
    exact ⟨j, a, b, rfl⟩
  · rintro ⟨j, a, b, rfl⟩
    exact ⟨(j : Int), (lanesL_iff m _).2 ⟨j, a, b, rfl⟩, rfl⟩
theorem sa_linesL (l : List Int) (m : Int) : SA (linesL l m) := by
  unfold linesL
  split
  · exact (difL_is _).1
  · exact List.Pairwise.nil
theorem lines_le_words {l : List Int} {m : Int} (h : askedB l m = true) : (linesL l m).length ≤ (wordsL l m).length := by
  rw [show (wordsL l m).length = ((wordsL l m).map fun x : Int => x / 8).length from (List.length_map _).symm]
  refine sa_sub_len _ _ (sa_linesL l m) (fun y hy => ?_)
  obtain ⟨j, a, b, rfl⟩ := (mem_linesL h y).1 hy
  exact List.mem_map.2 ⟨_, (mem_wordsL l m _).2 ⟨j, a, b, rfl⟩, rfl⟩
theorem words_le_lines {l : List Int} {m : Int} (h : askedB l m = true) : (wordsL l m).length ≤ 8 * (linesL l m).length := by
  rw [← eights_len]
  refine sa_sub_len _ _ (difL_is _).1 (fun y hy => ?_)
  obtain ⟨j, a, b, rfl⟩ := (mem_wordsL l m y).1 hy
  have hs := rd_small h (j : Int)
  exact mem_eights (y := rd l (j : Int) / 8) (by omega) (by omega) _ ((mem_linesL h _).2 ⟨j, a, b, rfl⟩)
theorem words_le_lanes (l : List Int) (m : Int) : (wordsL l m).length ≤ (lanesL m).length := by
  have := difL_len ((lanesL m).map fun i => rd l i)
  rw [List.length_map] at this
  exact this
theorem use_tab : ∀ u n : Fin 9, n.val ≤ u.val → u.val ≤ 8 * n.val → 125 ≤ useN ((u.val : Nat) : Int) ((n.val : Nat) : Int) ∧ useN ((u.val : Nat) : Int) ((n.val : Nat) : Int) ≤ 1000 := by decide +kernel
theorem use_in (u n : Nat) (hu : u ≤ 8) (h1 : n ≤ u) (h2 : u ≤ 8 * n) : 125 ≤ useN (u : Int) (n : Int) ∧ useN (u : Int) (n : Int) ≤ 1000 :=
  use_tab ⟨u, by omega⟩ ⟨n, by omega⟩ h1 h2
theorem impl_LineUse_open (k : Nat) (l : List Int) (m u : Int) (ls : List Int) (h1 : impl_UsedWords.f k l m = some u) (h2 : impl_LinesOf.f k l m = some ls) (h : ¬ u < 0 → ¬ u = 0 → ¬ wrap64 (8 * (ls.length : Int)) = 0) : impl_LineUse.f k l m = some (useN u (ls.length : Int)) := by
  unfold impl_LineUse.f useN
  rw [h1, Option.bind_some]
  by_cases c0 : u < 0
  · rw [if_pos c0, if_pos c0]
  · rw [if_neg c0, if_neg c0]
    by_cases c1 : u = 0
    · rw [if_pos c1, if_pos c1]
    · rw [if_neg c1, if_neg c1, h2, Option.bind_some, if_neg (h c0 c1)]
theorem spec_LineUse_open (k : Nat) (l : List Int) (m u : Int) (ls : List Int) (h1 : spec_UsedWords.f k l m = some u) (h2 : spec_LinesOf.f k l m = some ls) (h : ¬ u < 0 → ¬ u = 0 → ¬ wrap64 (8 * (ls.length : Int)) = 0) : spec_LineUse.f k l m = some (useN u (ls.length : Int)) := by
  unfold spec_LineUse.f useN
  rw [h1, Option.bind_some]
  by_cases c0 : u < 0
  · rw [if_pos c0, if_pos c0]
  · rw [if_neg c0, if_neg c0]
    by_cases c1 : u = 0
    · rw [if_pos c1, if_pos c1]
    · rw [if_neg c1, if_neg c1, h2, Option.bind_some, if_neg (h c0 c1)]
theorem impl_LineUse_is (l : List Int) (m : Int) (k : Nat) (hk : 40 ≤ k) : impl_LineUse.f k l m = some (useL l m) :=
  impl_LineUse_open k l m (usedW l m) (linesL l m) (impl_UsedWords_is l m k hk) (impl_LinesOf_is l m k hk) (use_ne l m)
theorem spec_LineUse_is (l : List Int) (m : Int) (hl : l.length ≤ 1048576) (k : Nat) (hk : l.length + 40 < k) : spec_LineUse.f k l m = some (useL l m) :=
  spec_LineUse_open k l m (usedW l m) (linesL l m) (spec_UsedWords_is l m hl k hk) (spec_LinesOf_is l m hl k hk) (use_ne l m)
def below (m : Int) (n : Nat) : Nat := ((List.range n).filter fun (j : Nat) => hasB m (j : Int)).length
theorem below_succ (m : Int) (n : Nat) : below m (n + 1) = below m n + (if hasB m (n : Int) = true then 1 else 0) := by
  unfold below
  rw [List.range_succ, List.filter_append, List.length_append]
  by_cases h : hasB m (n : Int) = true
  · simp [h]
  · simp [h]
theorem below_le (m : Int) (n : Nat) : below m n ≤ n := by
  unfold below
  exact Nat.le_trans (List.length_filter_le _ _) (by simp)
theorem count_all : ∀ m : Fin 256, bits_OnesCount.f (IntKind.u64.wrap ((m : Nat) : Int)) = some ((((List.range 8).filter fun (j : Nat) => hasB ((m : Nat) : Int) (j : Int)).length : Nat) : Int) := by decide +kernel
def countB (m : Int) : Int := if isMaskB m = true then ((below m 8 : Nat) : Int) else -1
theorem impl_CountLanes_is (m : Int) : impl_CountLanes.f m = some (countB m) := by
  unfold impl_CountLanes.f countB
  rw [impl_IsMask_is]
  cases hm : isMaskB m with
  | false => simp
  | true =>
    have h := hm
    unfold isMaskB at h
    simp only [Bool.and_eq_true, decide_eq_true_eq] at h
    have hc := count_all ⟨m.toNat, by omega⟩
    simp only [Int.toNat_of_nonneg h.1] at hc
    simp [hc, below]
theorem lanesL_count (m : Int) : (lanesL m).length = below m 8 := by
  unfold lanesL lanesFrom below
  rw [List.length_map, List.range_eq_range']
theorem and255 (x : Int) : 0 ≤ Go.bits .and .i64 x 255 ∧ Go.bits .and .i64 x 255 ≤ 255 := by
  have h : ((BitVec.ofInt 64 x).toNat &&& (BitVec.ofInt 64 255).toNat) ≤ 255 := Nat.le_trans Nat.and_le_right (by decide)
  have e : Go.bits .and .i64 x 255 = (((BitVec.ofInt 64 x).toNat &&& (BitVec.ofInt 64 255).toNat : Nat) : Int) := by
    simp only [Go.bits, BitVec.toNat_and]
    rw [show IntKind.i64.bits = 64 from rfl, IntKind.wrap_i64]
    omega
  rw [e]
  omega
theorem byte_is (l : List Int) (hl : l.length ≤ 1048576) (p q : Int) (hp : 0 ≤ p) : ∃ b p' q', spec_l01Byte.f l p q = some (b, p', q') ∧ 0 ≤ b ∧ b ≤ 255 ∧ 0 ≤ p' := by
  unfold spec_l01Byte.f
  by_cases h : p < (l.length : Int)
  · rw [if_pos h, if_pos hp]
    refine ⟨_, _, _, rfl, (and255 _).1, (and255 _).2, ?_⟩
    rw [w64 (by omega) (by omega)]
    omega
  · rw [if_neg h]
    exact ⟨_, _, _, rfl, (and255 _).1, (and255 _).2, hp⟩
theorem below_is (l : List Int) (hl : l.length ≤ 1048576) (p q n : Int) (hp : 0 ≤ p) (hn : 1 ≤ n) : ∃ b p' q', spec_l01Below.f l p q n = some (b, p', q') ∧ 0 ≤ b ∧ b < n ∧ 0 ≤ p' := by
  unfold spec_l01Below.f
  rw [if_neg (by omega)]
  by_cases h : n ≤ 256
  · obtain ⟨b, p', q', e, h0, h1, h2⟩ := byte_is l hl p q hp
    rw [if_pos h, e]
    simp only [Option.bind_some]
    rw [if_neg (by omega)]
    exact ⟨_, _, _, rfl, Int.tmod_nonneg _ h0, Int.tmod_lt_of_pos _ (by omega), h2⟩
  · rw [if_neg h]
    obtain ⟨b1, p1, q1, e1, a1, c1, d1⟩ := byte_is l hl p q hp
    obtain ⟨b2, p2, q2, e2, a2, c2, d2⟩ := byte_is l hl p1 q1 d1
    obtain ⟨b3, p3, q3, e3, a3, c3, d3⟩ := byte_is l hl p2 q2 d2
    obtain ⟨b4, p4, q4, e4, a4, c4, d4⟩ := byte_is l hl p3 q3 d3
    rw [e1]
    simp only [Option.bind_some]
    rw [e2]
    simp only [Option.bind_some]
    rw [e3]
    simp only [Option.bind_some]
    rw [e4]
    simp only [Option.bind_some]
    rw [if_neg (by omega), w64 (x := b1 * 16777216) (by omega) (by omega), w64 (x := b2 * 65536) (by omega) (by omega), w64 (x := b3 * 256) (by omega) (by omega), w64 (x := b1 * 16777216 + b2 * 65536) (by omega) (by omega), w64 (x := b1 * 16777216 + b2 * 65536 + b3 * 256) (by omega) (by omega), w64 (by omega) (by omega)]
    exact ⟨_, _, _, rfl, Int.tmod_nonneg _ (by omega), Int.tmod_lt_of_pos _ (by omega), d4⟩
theorem new_go (l : List Int) : ∀ (d k i : Nat) (x : Int), i + d = 4000 → d < k → ∃ q, spec_l01New.l0 k l x (i : Int) = some (l, 0, q) := by
  intro d
  induction d with
  | zero =>
    intro k i x hi hk
    obtain ⟨k, rfl⟩ : ∃ m, k = m + 1 := ⟨k - 1, by omega⟩
    simp only [spec_l01New.l0]
    by_cases h : (i : Int) < (l.length : Int)
    · rw [if_pos h, if_neg (by omega)]
      exact ⟨_, rfl⟩
    · rw [if_neg h]
      exact ⟨_, rfl⟩
  | succ d ih =>
    intro k i x hi hk
    obtain ⟨k, rfl⟩ : ∃ m, k = m + 1 := ⟨k - 1, by omega⟩
    simp only [spec_l01New.l0]
    by_cases h : (i : Int) < (l.length : Int)
    · rw [if_pos h, if_pos (by omega), if_pos (by omega), w64s i (by omega)]
      exact ih k (i + 1) _ (by omega) (by omega)
    · rw [if_neg h]
      exact ⟨_, rfl⟩
theorem new_is (l : List Int) (k : Nat) (hk : 4100 ≤ k) : ∃ q, spec_l01New.f k l = some (l, 0, q) := by
  unfold spec_l01New.f
  exact new_go l 4000 k 0 _ (by omega) (by omega)
theorem pick_is (l : List Int) (hl : l.length ≤ 1048576) (p q : Int) (hp : 0 ≤ p) (t : List Int) (ht : 1 ≤ t.length) : ∃ b p' q', spec_l01PickInt.f l p q t = some (b, p', q') ∧ b ∈ t ∧ 0 ≤ p' := by
  unfold spec_l01PickInt.f
  obtain ⟨b, p', q', e, h0, h1, h2⟩ := below_is l hl p q (t.length : Int) hp (by omega)
  rw [e]
  simp only [Option.bind_some]
  rw [if_pos h0, if_pos h1]
  refine ⟨_, _, _, rfl, ?_, h2⟩
  have := rd_mem' t b.toNat (by omega)
  rw [Int.toNat_of_nonneg h0] at this
  exact this
theorem addr_in {x : Int} (h0 : 0 ≤ x) (h1 : x ≤ 4095) : isAddr x = true := by
  unfold isAddr
  simp only [Bool.and_eq_true, decide_eq_true_eq]
  exact ⟨h0, h1⟩
theorem once_is (l : List Int) (hl : l.length ≤ 1048576) (p q n : Int) (hp : 0 ≤ p) (hn : 1 ≤ n) : ∃ b p' q', spec_l01Once.f l p q n = some (b, p', q') ∧ 0 ≤ p' := by
  unfold spec_l01Once.f
  obtain ⟨b, p', q', e, _, _, h⟩ := below_is l hl p q n hp hn
  rw [e]
  simp only [Option.bind_some]
  exact ⟨_, _, _, rfl, h⟩
theorem addrs_go (l : List Int) (hl : l.length ≤ 1048576) (base stride : Int) (b0 : 0 ≤ base) (b1 : base < 50) (s0 : 0 ≤ stride) (s1 : stride ≤ 9) : ∀ (d k i : Nat) (x : List Int) (p q : Int), i + d = 8 → d < k → x.length = i → x.all isAddr = true → 0 ≤ p → ∃ y p' q', spec_l25Addresses.l0 k x base stride (i : Int) l p q = some (y, p', q') ∧ y.length = 8 ∧ y.all isAddr = true := by
  intro d
  induction d with
  | zero =>
    intro k i x p q hi hk hx hw hp
    obtain ⟨k, rfl⟩ : ∃ m, k = m + 1 := ⟨k - 1, by omega⟩
    simp only [spec_l25Addresses.l0]
    rw [if_neg (by omega)]
    exact ⟨_, _, _, rfl, by omega, hw⟩
  | succ d ih =>
    intro k i x p q hi hk hx hw hp
    obtain ⟨k, rfl⟩ : ∃ m, k = m + 1 := ⟨k - 1, by omega⟩
    simp only [spec_l25Addresses.l0]
    obtain ⟨b, p1, q1, e1, h1⟩ := once_is l hl p q 4 hp (by omega)
    rw [if_pos (by omega), e1]
    simp only [Option.bind_some]
    cases b with
    | true =>
      obtain ⟨b2, p2, q2, e2, a2, c2, h2⟩ := below_is l hl p1 q1 40 h1 (by omega)
      rw [if_pos rfl, e2]
      simp only [Option.bind_some]
      rw [if_pos (by omega), w64s i (by omega)]
      exact ih k (i + 1) _ p2 q2 (by omega) (by omega) (by simp [hx]) (by simp only [List.all_append, List.all_cons, List.all_nil, hw, addr_in a2 (by omega : b2 ≤ 4095), Bool.and_self]) h2
    | false =>
      have hi8 : (i : Int) ≤ 7 := by omega
      have hm0 : 0 ≤ (i : Int) * stride := Int.mul_nonneg (by omega) s0
      have hm1 : (i : Int) * stride ≤ 7 * 9 := Int.mul_le_mul hi8 s1 s0 (by omega)
      rw [if_neg (by decide), if_pos (by omega), w64s i (by omega), w64 (x := (i : Int) * stride) (by omega) (by omega), w64 (by omega) (by omega)]
      exact ih k (i + 1) _ p1 q1 (by omega) (by omega) (by simp [hx]) (by simp only [List.all_append, List.all_cons, List.all_nil, hw, addr_in (show 0 ≤ base + (i : Int) * stride by omega) (by omega), Bool.and_self]) h1
theorem DrawAddresses_is (l : List Int) (hl : l.length ≤ 1048576) (k : Nat) (hk : 4100 ≤ k) : ∃ v, spec_DrawAddresses.f k l = some v ∧ v.length = 8 ∧ v.all isAddr = true := by
  unfold spec_DrawAddresses.f spec_l25Addresses.f
  obtain ⟨q, e⟩ := new_is l k hk
  obtain ⟨b1, p1, q1, e1, a1, c1, d1⟩ := below_is l hl 0 q 50 (by omega) (by omega)
  obtain ⟨b3, p3, q3, e3, a3, d3⟩ := pick_is l hl p1 q1 d1 [1, 1, 2, 8, 9, 0] (by simp)
  rw [e]
  simp only [Option.bind_some]
  rw [e1]
  simp only [Option.bind_some]
  rw [e3]
  simp only [Option.bind_some]
  simp only [List.mem_cons, List.not_mem_nil, or_false] at a3
  obtain ⟨y, p', q', e4, h1, h2⟩ := addrs_go l hl b1 b3 a1 c1 (by omega) (by omega) 8 k 0 [] p3 q3 (by omega) (by omega) rfl rfl d3
  rw [show ((0 : Nat) : Int) = 0 from rfl] at e4
  rw [e4]
  exact ⟨y, rfl, h1, h2⟩
theorem asked_of {v : List Int} {m : Int} (h8 : v.length = 8) (hv : v.all isAddr = true) (hm : isMaskB m = true) : askedB v m = true := by
  unfold askedB
  rw [hv, hm, h8]
  rfl
theorem DrawMask_is (l : List Int) (hl : l.length ≤ 1048576) (k : Nat) (hk : 4100 ≤ k) : ∃ v, spec_DrawMask.f k l = some v ∧ isMaskB v = true := by
  unfold spec_DrawMask.f spec_l03Mask.f
  obtain ⟨q, e⟩ := new_is l k hk
  obtain ⟨b1, p1, q1, e1, a1, c1, d1⟩ := below_is l hl 0 q 256 (by omega) (by omega)
  obtain ⟨b2, p2, q2, e2, a2, c2, d2⟩ := below_is l hl p1 q1 256 d1 (by omega)
  obtain ⟨b3, p3, q3, e3, a3, d3⟩ := pick_is l hl p2 q2 d2 [255, 0, 1, 15, 170, b1, b2] (by simp)
  rw [e]
  simp only [Option.bind_some]
  rw [e1]
  simp only [Option.bind_some]
  rw [e2]
  simp only [Option.bind_some]
  rw [e3]
  refine ⟨b3, rfl, ?_⟩
  unfold isMaskB
  simp only [Bool.and_eq_true, decide_eq_true_eq]
  simp only [List.mem_cons, List.not_mem_nil, or_false] at a3
  omega
theorem has_drop (l : List Int) (i : Nat) (h : i < l.length) : l.drop i = rd l (i : Int) :: l.drop (i + 1) := by
  rw [List.drop_eq_getElem_cons h]
  congr 1
  have := rd_nat l i h
  rw [List.getElem?_eq_getElem h] at this
  exact Option.some.inj this
theorem has_go (l : List Int) (x : Int) (hl : l.length ≤ 1073741824) : ∀ (d k i : Nat), i + d = l.length → d < k → laws_has.l0 k l x (i : Int) = some (decide (x ∈ l.drop i)) := by
  intro d
  induction d with
  | zero =>
    intro k i hi hk
    obtain ⟨k, rfl⟩ : ∃ m, k = m + 1 := ⟨k - 1, by omega⟩
    simp only [laws_has.l0]
    rw [if_neg (by omega), List.drop_of_length_le (by omega)]
    simp
  | succ d ih =>
    intro k i hi hk
    obtain ⟨k, rfl⟩ : ∃ m, k = m + 1 := ⟨k - 1, by omega⟩
    simp only [laws_has.l0]
    rw [if_pos (by omega), if_pos (by omega), has_drop l i (by omega)]
    by_cases c : rd l (i : Int) = x
    · rw [if_pos c, c]
      simp
    · rw [if_neg c, w64s i (by omega), ih k (i + 1) (by omega) (by omega)]
      congr 1
      rw [Bool.eq_iff_iff]
      simp only [decide_eq_true_eq, List.mem_cons]
      exact ⟨Or.inr, fun h => h.elim (fun e => absurd e.symm c) id⟩
theorem has_is (l : List Int) (x : Int) (hl : l.length ≤ 1073741824) (k : Nat) (hk : l.length < k) : laws_has.f k l x = some (decide (x ∈ l)) := by
  have h := has_go l x hl l.length k 0 (by omega) hk
  rw [show ((0 : Nat) : Int) = 0 from rfl, List.drop_zero] at h
  unfold laws_has.f
  exact h
theorem lines_go (a : List Int) (m : Int) (ha : askedB a m = true) : ∀ (d k i : Nat), i + d = 8 → d + 40 ≤ k → laws_FnLines.l0 k a m (linesL a m) (usedW a m) (useL a m) (i : Int) = some true := by
  have h8 := askedB_len ha
  have hm : isMaskB m = true := by
    unfold askedB at ha
    simp only [Bool.and_eq_true] at ha
    exact ha.2
  have hll := linesL_len a m
  intro d
  induction d with
  | zero =>
    intro k i hi hk
    obtain ⟨k, rfl⟩ : ∃ m, k = m + 1 := ⟨k - 1, by omega⟩
    have h1 := lines_le_words ha
    have h2 := words_le_lines ha
    have h3 := words_le_lanes a m
    have h4 := wordsL_len a m
    rw [lanesL_count] at h3
    have hu : usedW a m = ((wordsL a m).length : Int) := by
      unfold usedW
      rw [if_pos ha]
    have hi2 := use_in (wordsL a m).length (linesL a m).length h4 h1 h2
    have hL : useL a m = useN ((wordsL a m).length : Int) ((linesL a m).length : Int) := by
      unfold useL
      rw [hu]
    simp only [laws_FnLines.l0]
    rw [if_neg (by omega), hL, hu, w64 (by omega) (by omega), if_pos (by omega), if_pos (by omega), impl_CountLanes_is]
    simp only [Option.bind_some]
    unfold countB
    rw [if_pos hm, if_pos (by omega), if_pos hi2.1, decide_eq_true hi2.2]
  | succ d ih =>
    intro k i hi hk
    obtain ⟨k, rfl⟩ : ∃ m, k = m + 1 := ⟨k - 1, by omega⟩
    simp only [laws_FnLines.l0]
    rw [if_pos (by omega), impl_HasLane_is]
    simp only [Option.bind_some]
    rw [w64s i (by omega)]
    by_cases c : hasB m (i : Int) = true
    · have hs := rd_small ha (i : Int)
      have hmem : wrap64 (Int.tdiv (rd a (i : Int)) 8) ∈ linesL a m := by
        rw [mem_linesL ha, line_of _ hs.1 hs.2]
        exact ⟨i, by omega, c, rfl⟩
      rw [if_pos c, if_pos (by omega), if_pos (by omega), has_is _ _ (by omega) k (by omega), decide_eq_true hmem]
      simp only [Option.bind_some, if_true]
      exact ih k (i + 1) (by omega) (by omega)
    · rw [if_neg c]
      exact ih k (i + 1) (by omega) (by omega)
theorem FnLines : laws_FnLines.Pure := by
  intro l _ _ _
  obtain ⟨k0, hk0⟩ : ∃ k0 : Nat, 4100 ≤ k0 := ⟨4100, by omega⟩
  refine ⟨k0, ?_⟩
  unfold laws_FnLines.f
  simp only [laws_big.f, Option.bind_some, decide_eq_true_eq]
  by_cases hb : (l.length : Int) > 1048576
  · rw [if_pos hb]
  · rw [if_neg hb]
    have hl : l.length ≤ 1048576 := by omega
    obtain ⟨a, ea, ha8, ha⟩ := DrawAddresses_is l hl k0 (by omega)
    obtain ⟨m, em, hm⟩ := DrawMask_is l hl k0 (by omega)
    have hask := asked_of ha8 ha hm
    rw [ea]
    simp only [Option.bind_some]
    rw [em]
    simp only [Option.bind_some]
    rw [impl_LinesOf_is a m k0 (by omega)]
    simp only [Option.bind_some]
    rw [impl_UsedWords_is a m k0 (by omega)]
    simp only [Option.bind_some]
    rw [impl_LineUse_is a m k0 (by omega)]
    simp only [Option.bind_some]
    have h := lines_go a m hask 8 k0 0 (by omega) (by omega)
    rw [show ((0 : Nat) : Int) = 0 from rfl] at h
    exact h

end Go.Proofs.Ytfeadincafegcaa.Pure
