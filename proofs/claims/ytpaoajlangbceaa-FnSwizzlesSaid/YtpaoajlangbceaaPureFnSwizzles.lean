/- Swizzled rows and columns have no conflicts, and every address is used once, for every setting. -/
import Derived.Test.YtpaoajlangbceaaGxPFnSwizzles
import Derived.Test.YtpaoajlangbceaaPureBanks
import Derived.Test.YtpaoajlangbceaaPureDrawPlace
import Derived.Test.YtpaoajlangbceaaPureHas
namespace Go.Proofs.Ytpaoajlangbceaa.Pure
open Go.RowKit Go.Proofs.Ytpaoajlangbceaa.P Go.Proofs.YtpaoajlangbceaaW.PrintWords Go.Proofs.YtpaoajlangbceaaW.PrintLast Go.Proofs.YtpaoajlangbceaaW.PrintMore

theorem impl_SwizzledAt_is (a b : Int) : impl_SwizzledAt.f a b = some (swz a b) := by
  unfold impl_SwizzledAt.f swz
  rw [impl_isLane.is, impl_isLane.is]
  simp only [Option.bind_some]
  cases isLaneB a <;> cases isLaneB b <;> simp
/-- The first n addresses, row by row. -/
def swzL (n : Nat) : List Int := (List.range n).map fun (q : Nat) => swz ((q / 8 : Nat) : Int) ((q % 8 : Nat) : Int)
theorem swzL_succ (n : Nat) : swzL (n + 1) = swzL n ++ [swz ((n / 8 : Nat) : Int) ((n % 8 : Nat) : Int)] := by
  unfold swzL
  rw [List.range_succ, List.map_append]
  rfl
theorem swzL_len (n : Nat) : (swzL n).length = n := by simp [swzL]
theorem swz_new : ∀ q : Fin 64, 0 ≤ swz ((q.val / 8 : Nat) : Int) ((q.val % 8 : Nat) : Int) ∧ swz ((q.val / 8 : Nat) : Int) ((q.val % 8 : Nat) : Int) < 64 ∧ ¬ swz ((q.val / 8 : Nat) : Int) ((q.val % 8 : Nat) : Int) ∈ swzL q.val := by decide +kernel
theorem swz_deg : ∀ x : Fin 8, degL (lanes8 fun i => swz ((x.val : Nat) : Int) i) 255 = 1 ∧ degL (lanes8 fun i => swz i ((x.val : Nat) : Int)) 255 = 1 := by decide +kernel
theorem sw_inner (x4 : Int) (i : Nat) (hi : i < 8) : ∀ (d k j : Nat), j + d = 8 → d + 100 ≤ k → ∃ k', k = k' + d + 1 ∧ laws_FnSwizzles.l1 k x4 (swzL (8 * i + j)) (i : Int) (j : Int) = laws_FnSwizzles.l0 k' x4 (swzL (8 * i + 8)) (wrap64 ((i : Int) + 1)) := by
  intro d
  induction d with
  | zero =>
    intro k j hj hk
    obtain rfl : j = 8 := by omega
    obtain ⟨k, rfl⟩ : ∃ m, k = m + 1 := ⟨k - 1, by omega⟩
    refine ⟨k, by omega, ?_⟩
    simp only [laws_FnSwizzles.l1]
    rw [if_neg (by omega)]
  | succ d ih =>
    intro k j hj hk
    obtain ⟨k, rfl⟩ : ∃ m, k = m + 1 := ⟨k - 1, by omega⟩
    obtain ⟨k', e1, e2⟩ := ih k (j + 1) (by omega) (by omega)
    refine ⟨k', by omega, ?_⟩
    have hn := swz_new ⟨8 * i + j, by omega⟩
    have hs := swzL_succ (8 * i + j)
    simp only [show (8 * i + j) / 8 = i by omega, show (8 * i + j) % 8 = j by omega] at hn hs
    simp only [laws_FnSwizzles.l1]
    rw [if_pos (by omega), impl_SwizzledAt_is]
    simp only [Option.bind_some]
    rw [if_neg (by omega), if_neg (by omega), has_is _ _ (by rw [swzL_len]; omega) k (by rw [swzL_len]; omega), decide_eq_false hn.2.2]
    simp only [Option.bind_some, Bool.false_eq_true, if_false]
    rw [if_pos (by rw [swzL_len]; omega), w64s j (by omega), ← hs]
    exact e2
theorem sw_go (x : Nat) (hx : x < 8) : ∀ (d k i : Nat), i + d = 8 → 10 * d + 150 ≤ k → laws_FnSwizzles.l0 k (x : Int) (swzL (8 * i)) (i : Int) = some true := by
  intro d
  induction d with
  | zero =>
    intro k i hi hk
    obtain ⟨k, rfl⟩ : ∃ m, k = m + 1 := ⟨k - 1, by omega⟩
    have hd := swz_deg ⟨x, hx⟩
    have hlane : isLaneB (x : Int) = true := by unfold isLaneB; simp only [Bool.and_eq_true, decide_eq_true_eq]; omega
    simp only [laws_FnSwizzles.l0]
    rw [if_neg (by omega)]
    unfold impl_SwizzledRow.f impl_SwizzledColumn.f
    rw [if_pos hlane]
    simp only [Option.bind_some]
    rw [impl_ConflictDegree_is _ 255 k (by omega), hd.1]
    simp only [Option.bind_some, if_true, hlane]
    rw [impl_ConflictDegree_is _ 255 k (by omega), hd.2]
    rfl
  | succ d ih =>
    intro k i hi hk
    obtain ⟨k, rfl⟩ : ∃ m, k = m + 1 := ⟨k - 1, by omega⟩
    obtain ⟨k', e1, e2⟩ := sw_inner (x : Int) i (by omega) 8 k 0 (by omega) (by omega)
    rw [show ((0 : Nat) : Int) = 0 from rfl, Nat.add_zero] at e2
    simp only [laws_FnSwizzles.l0]
    rw [if_pos (by omega), e2, w64s i (by omega)]
    exact ih k' (i + 1) (by omega) (by omega)
theorem FnSwizzles : laws_FnSwizzles.Pure := by
  intro l _ _ _
  obtain ⟨k0, hk0⟩ : ∃ k0 : Nat, 4100 ≤ k0 := ⟨4100, by omega⟩
  refine ⟨k0, ?_⟩
  unfold laws_FnSwizzles.f
  simp only [laws_big.f, Option.bind_some, decide_eq_true_eq]
  by_cases hb : (l.length : Int) > 1048576
  · rw [if_pos hb]
  · rw [if_neg hb]
    have hl : l.length ≤ 1048576 := by omega
    obtain ⟨p, ep, hp12, hp⟩ := DrawPlaces_is l hl k0 (by omega)
    rw [ep]
    simp only [Option.bind_some]
    rw [if_pos (by omega)]
    have h0 : 0 ≤ Int.tmod (rd p 0) 8 ∧ Int.tmod (rd p 0) 8 < 8 := by
      have hm : rd p 0 ∈ p := by
        have e := rd_nat p 0 (by omega)
        exact List.mem_of_getElem? e
      exact ⟨Int.tmod_nonneg _ (hp _ hm).1, Int.tmod_lt_of_pos _ (by omega)⟩
    obtain ⟨x, hx⟩ := Int.eq_ofNat_of_zero_le h0.1
    rw [hx] at h0 ⊢
    have h := sw_go x (by omega) 8 k0 0 (by omega) (by omega)
    exact h

end Go.Proofs.Ytpaoajlangbceaa.Pure
