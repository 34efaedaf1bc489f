/- Permutations of the lanes are the shuffles of the lanes. -/
import Derived.Test.YteehgmbbmlfggaaPureOrder
namespace Go.Proofs.Yteehgmbbmlfggaa.Pure
open Go.RowKit Go.Proofs.Yteehgmbbmlfggaa.P Go.Proofs.YteehgmbbmlfggaaW.PrintWords Go.Proofs.YteehgmbbmlfggaaW.PrintLast Go.Proofs.YteehgmbbmlfggaaW.PrintMore

/-- A list that holds all of another list of as many numbers, told once each, is its shuffle. -/
theorem perm_of_all : ∀ (t s : List Int), t.Nodup → (∀ a ∈ t, a ∈ s) → s.length = t.length → s.Perm t := by
  intro t
  induction t with
  | nil =>
    intro s _ _ h
    have e : s = [] := List.eq_nil_of_length_eq_zero (by simpa using h)
    subst e
    exact List.Perm.refl _
  | cons a t ih =>
    intro s hd ha hl
    rw [List.nodup_cons] at hd
    have hm : a ∈ s := ha a (by simp)
    have hp := List.perm_cons_erase hm
    have := ih (s.erase a) hd.2 (fun b hb => by
      have hne : b ≠ a := fun e => hd.1 (e ▸ hb)
      exact (List.mem_erase_of_ne hne).2 (ha b (by simp [hb]))) (by rw [List.length_erase_of_mem hm, hl]; simp)
    exact hp.trans (this.cons a)
def lanes8' : List Int := [0, 1, 2, 3, 4, 5, 6, 7]
theorem or_bit : ∀ m : Fin 256, ∀ a j : Fin 8, isMaskB (Go.bits .or .i64 ((m : Nat) : Int) (shl .i64 1 ((a : Nat) : Int))) = true ∧ hasB (Go.bits .or .i64 ((m : Nat) : Int) (shl .i64 1 ((a : Nat) : Int))) ((j : Nat) : Int) = (hasB ((m : Nat) : Int) ((j : Nat) : Int) || decide (j = a)) := by decide +kernel
theorem all_bits : ∀ m : Fin 256, (∀ j : Fin 8, hasB ((m : Nat) : Int) ((j : Nat) : Int) = true) ↔ m = 255 := by decide +kernel
theorem maskF_all : ∀ (l : List Int) (m : Int), isMaskB m = true → (∀ a ∈ l, 0 ≤ a ∧ a ≤ 7) → (maskF l m).2 = true ∧ isMaskB (maskF l m).1 = true ∧ ∀ j : Nat, j < 8 → (hasB (maskF l m).1 (j : Int) = true ↔ (hasB m (j : Int) = true ∨ (j : Int) ∈ l)) := by
  intro l
  induction l with
  | nil => intro m hm _; exact ⟨rfl, hm, fun j _ => by simp [maskF]⟩
  | cons a t ih =>
    intro m hm ha
    have h := hm
    unfold isMaskB at h
    simp only [Bool.and_eq_true, decide_eq_true_eq] at h
    have ha0 := ha a (by simp)
    simp only [maskF]
    rw [if_pos ((isLaneB_iff a).2 ha0)]
    have ho := fun j => or_bit ⟨m.toNat, by omega⟩ ⟨a.toNat, by omega⟩ j
    simp only [Int.toNat_of_nonneg h.1, Int.toNat_of_nonneg ha0.1] at ho
    obtain ⟨i1, i2, i3⟩ := ih _ (ho 0).1 (fun b hb => ha b (by simp [hb]))
    refine ⟨i1, i2, fun j hj => ?_⟩
    rw [i3 j hj, (ho ⟨j, hj⟩).2]
    simp only [Bool.or_eq_true, decide_eq_true_eq, List.mem_cons, Fin.mk.injEq]
    constructor
    · rintro ((h1 | h1) | h1)
      · exact Or.inl h1
      · exact Or.inr (Or.inl (by omega))
      · exact Or.inr (Or.inr h1)
    · rintro (h1 | h1 | h1)
      · exact Or.inl (Or.inl h1)
      · exact Or.inl (Or.inr (by omega))
      · exact Or.inr h1
theorem hasB_zero : ∀ j : Fin 8, hasB 0 ((j : Nat) : Int) = false := by decide +kernel
theorem permB_iff (l : List Int) : permB l = true ↔ l.Perm lanes8' := by
  constructor
  · intro h
    have hlen := permB_len h
    have hlane := permB_lane h
    obtain ⟨_, hm, hb⟩ := maskF_all l 0 (by rfl) hlane
    unfold permB at h
    simp only [Bool.and_eq_true, decide_eq_true_eq, beq_iff_eq] at h
    refine perm_of_all lanes8' l (by decide) (fun a ha => ?_) (by rw [hlen]; rfl)
    have ha' : 0 ≤ a ∧ a ≤ 7 := by
      simp only [lanes8', List.mem_cons, List.not_mem_nil, or_false] at ha
      omega
    have h1 := (hb a.toNat (by omega)).1 (by
      rw [h.2]
      exact (all_bits 255).2 rfl ⟨a.toNat, by omega⟩)
    rw [Int.toNat_of_nonneg ha'.1] at h1
    cases h1 with
    | inl e =>
      have := hasB_zero ⟨a.toNat, by omega⟩
      simp only [Int.toNat_of_nonneg ha'.1] at this
      rw [this] at e
      cases e
    | inr e => exact e
  · intro h
    have hlen : l.length = 8 := by rw [h.length_eq]; rfl
    have hlane : ∀ a ∈ l, 0 ≤ a ∧ a ≤ 7 := fun a ha => by
      have := h.mem_iff.1 ha
      simp only [lanes8', List.mem_cons, List.not_mem_nil, or_false] at this
      omega
    obtain ⟨h2, hm, hb⟩ := maskF_all l 0 (by rfl) hlane
    unfold permB
    simp only [Bool.and_eq_true, decide_eq_true_eq, beq_iff_eq]
    refine ⟨⟨h2, hlen⟩, ?_⟩
    have hm' := hm
    unfold isMaskB at hm'
    simp only [Bool.and_eq_true, decide_eq_true_eq] at hm'
    have := (all_bits ⟨(maskF l 0).1.toNat, by omega⟩).1 (fun j => by
      simp only [Int.toNat_of_nonneg hm'.1]
      refine (hb j j.2).2 (Or.inr (h.mem_iff.2 ?_))
      have := j.2
      simp only [lanes8', List.mem_cons, List.not_mem_nil, or_false]
      omega)
    have e := congrArg Fin.val this
    simp only at e
    change (maskF l 0).1.toNat = 255 at e
    omega
theorem mem_lanes (a : Int) : a ∈ lanes8' ↔ 0 ≤ a ∧ a ≤ 7 := by
  simp only [lanes8', List.mem_cons, List.not_mem_nil, or_false]
  omega

end Go.Proofs.Yteehgmbbmlfggaa.Pure
