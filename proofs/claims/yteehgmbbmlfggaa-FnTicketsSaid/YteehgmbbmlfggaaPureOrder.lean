/- A list of lanes as a mask, a permutation of the lanes, and what additions in an order answer. -/
import Derived.Test.YteehgmbbmlfggaaGxImpl20
import Derived.Test.YteehgmbbmlfggaaGxImpl03
import Derived.Test.YteehgmbbmlfggaaGxImpl02
import Derived.Test.YteehgmbbmlfggaaGxImpl28
import Derived.Test.YteehgmbbmlfggaaPureMark
import Derived.Test.YteehgmbbmlfggaaPureMasks
import Derived.Test.YteehgmbbmlfggaaPureWords
namespace Go.Proofs.Yteehgmbbmlfggaa.Pure
open Go.RowKit Go.Proofs.Yteehgmbbmlfggaa.P Go.Proofs.YteehgmbbmlfggaaW.PrintWords Go.Proofs.YteehgmbbmlfggaaW.PrintLast Go.Proofs.YteehgmbbmlfggaaW.PrintMore

/-- The mask of a list of lanes, and whether all of them are lanes. -/
def maskF : List Int → Int → Int × Bool
  | [], m => (m, true)
  | a :: t, m => if isLaneB a = true then maskF t (Go.bits .or .i64 m (shl .i64 1 a)) else (0, false)
theorem isLaneB_iff (a : Int) : isLaneB a = true ↔ 0 ≤ a ∧ a ≤ 7 := by
  unfold isLaneB
  simp
theorem impl_MaskOf_go (l : List Int) (hl : l.length ≤ 1048576) : ∀ (d k i : Nat) (m : Int), i + d = l.length → d < k → impl_MaskOf.l0 k m l (l.length : Int) (i : Int) = some (maskF (l.drop i) m) := by
  intro d
  induction d with
  | zero =>
    intro k i m hi hk
    obtain ⟨k, rfl⟩ : ∃ m, k = m + 1 := ⟨k - 1, by omega⟩
    simp only [impl_MaskOf.l0]
    rw [if_neg (by omega), List.drop_eq_nil_of_le (by omega)]
    rfl
  | succ d ih =>
    intro k i m hi hk
    obtain ⟨k, rfl⟩ : ∃ m, k = m + 1 := ⟨k - 1, by omega⟩
    simp only [impl_MaskOf.l0]
    rw [if_pos (by omega), if_pos (by omega), if_pos (by omega), impl_isLane.is, drop_cons_rd l i (by omega)]
    simp only [Option.bind_some, maskF]
    cases h : isLaneB (rd l (i : Int)) with
    | false => simp
    | true =>
      have := (isLaneB_iff _).1 h
      rw [if_pos rfl, if_pos this.1, w64s i (by omega), ih k (i + 1) _ (by omega) (by omega)]
      simp
theorem impl_MaskOf_is (l : List Int) (hl : l.length ≤ 1048576) (k : Nat) (hk : l.length < k) : impl_MaskOf.f k l = some (maskF l 0) := by
  unfold impl_MaskOf.f
  simpa using impl_MaskOf_go l hl l.length k 0 0 (by omega) hk
def permB (l : List Int) : Bool := (maskF l 0).2 && decide (l.length = 8) && ((maskF l 0).1 == 255)
theorem impl_IsPermutation_is (l : List Int) (hl : l.length ≤ 1048576) (k : Nat) (hk : l.length < k) : impl_IsPermutation.f k l = some (permB l) := by
  unfold impl_IsPermutation.f permB
  rw [impl_MaskOf_is l hl k hk]
  by_cases h8 : l.length = 8
  · cases h : (maskF l 0).2 <;> simp [h, h8]
  · have : ¬ (l.length : Int) = 8 := by omega
    cases h : (maskF l 0).2 <;> simp [h, h8, this]
theorem maskF_lane : ∀ (l : List Int) (m : Int), (maskF l m).2 = true → ∀ a ∈ l, 0 ≤ a ∧ a ≤ 7 := by
  intro l
  induction l with
  | nil => intro m _ a ha; simp at ha
  | cons x t ih =>
    intro m h a ha
    simp only [maskF] at h
    by_cases hx : isLaneB x = true
    · rw [if_pos hx] at h
      cases List.mem_cons.1 ha with
      | inl e => subst e; exact (isLaneB_iff _).1 hx
      | inr e => exact ih _ h a e
    · rw [if_neg hx] at h
      simp at h
theorem permB_len {l : List Int} (h : permB l = true) : l.length = 8 := by
  unfold permB at h
  simp only [Bool.and_eq_true, decide_eq_true_eq] at h
  exact h.1.2
theorem permB_lane {l : List Int} (h : permB l = true) : ∀ a ∈ l, 0 ≤ a ∧ a ≤ 7 := by
  unfold permB at h
  simp only [Bool.and_eq_true, decide_eq_true_eq] at h
  exact maskF_lane l 0 h.1.1
theorem permB_rd {l : List Int} (h : permB l = true) (i : Nat) (hi : i < 8) : 0 ≤ rd l (i : Int) ∧ rd l (i : Int) ≤ 7 := permB_lane h _ (rd_mem' l i (by rw [permB_len h]; omega))
/-- Additions in the order of the lanes of a list. -/
def addO (v : List Int) : List Int → List Int → Int → List Int × Int × Bool
  | [], o, x => (o, x, true)
  | a :: t, o, x => addO v t (o.set a.toNat x) (addW x (rd v a))
theorem impl_AddInOrder_go (v p : List Int) (hv : v.length = 8) (hp : permB p = true) : ∀ (d k i : Nat) (o : List Int) (x : Int), i + d = 8 → d < k → o.length = 8 → impl_AddInOrder.l0 k x v o p 8 (i : Int) = some (addO v (p.drop i) o x) := by
  have h8 := permB_len hp
  intro d
  induction d with
  | zero =>
    intro k i o x hi hk ho
    obtain ⟨k, rfl⟩ : ∃ m, k = m + 1 := ⟨k - 1, by omega⟩
    simp only [impl_AddInOrder.l0]
    rw [if_neg (by omega), List.drop_eq_nil_of_le (by omega)]
    rfl
  | succ d ih =>
    intro k i o x hi hk ho
    obtain ⟨k, rfl⟩ : ∃ m, k = m + 1 := ⟨k - 1, by omega⟩
    have hr := permB_rd hp i (by omega)
    simp only [impl_AddInOrder.l0]
    rw [if_pos (by omega), if_pos (by omega), if_pos (by omega), if_pos hr.1, if_pos (by omega), if_pos (by omega), impl_AddWords_is, drop_cons_rd p i (by omega)]
    simp only [Option.bind_some, addO]
    rw [w64s i (by omega), ih k (i + 1) _ _ (by omega) (by omega) (by simp [ho])]
def addIn (x : Int) (v p : List Int) : List Int × Int × Bool := if (isWordB x && valsB v && permB p) = true then addO v p (List.replicate 8 0) x else ([], 0, false)
theorem addO_len (v : List Int) : ∀ (t o : List Int) (x : Int), (addO v t o x).1.length = o.length := by
  intro t
  induction t with
  | nil => intro o x; rfl
  | cons a t ih => intro o x; simp only [addO]; rw [ih]; simp
theorem addIn_len (x : Int) (v p : List Int) : (addIn x v p).1.length ≤ 8 := by
  unfold addIn
  split
  · rw [addO_len]; simp
  · simp
theorem impl_AddInOrder_is (x : Int) (v p : List Int) (hp : p.length ≤ 1048576) (k : Nat) (hk : p.length + 12 < k) : impl_AddInOrder.f k x v p = some (addIn x v p) := by
  obtain ⟨k, rfl⟩ : ∃ m, k = m + 1 := ⟨k - 1, by omega⟩
  unfold impl_AddInOrder.f addIn
  rw [impl_IsWord.is]
  cases hx : isWordB x with
  | false => simp [impl_AddInOrder.j0]
  | true =>
    simp only [Option.bind_some, if_true, impl_ValuesOk_is]
    cases hv : valsB v with
    | false => simp [impl_AddInOrder.j0]
    | true =>
      simp only [Option.bind_some, if_true, impl_IsPermutation_is p hp (k + 1) (by omega)]
      cases hq : permB p with
      | false => simp [impl_AddInOrder.j0]
      | true =>
        have h := impl_AddInOrder_go v p (valsB_len hv) hq 8 k 0 (List.replicate 8 0) x (by omega) (by omega) rfl
        simp only [impl_AddInOrder.j0, Bool.not_true, Bool.false_eq_true, if_false]
        rw [if_pos (by omega), permB_len hq]
        simpa using h
end Go.Proofs.Yteehgmbbmlfggaa.Pure
