/- The rounds serve each lane once, and in each round no bank serves two addresses, for every setting. -/
import Derived.Test.YtpaoajlangbceaaGxPFnBanks
import Derived.Test.YtpaoajlangbceaaPureBankNum
import Derived.Test.YtpaoajlangbceaaPureDrawAddr
import Derived.Test.YtpaoajlangbceaaPureDrawMask
import Derived.Test.YtpaoajlangbceaaPureCount
namespace Go.Proofs.Ytpaoajlangbceaa.Pure
open Go.RowKit Go.Proofs.Ytpaoajlangbceaa.P Go.Proofs.YtpaoajlangbceaaW.PrintWords Go.Proofs.YtpaoajlangbceaaW.PrintLast Go.Proofs.YtpaoajlangbceaaW.PrintMore

theorem banks_go (a : List Int) (m : Int) (ha : askedB a m = true) (hm : isMaskB m = true) (n : Nat) (hn : degOf a (lanesL m) = (n : Int)) (hn9 : n ≤ 9) : ∀ (d k r : Nat) (all : Int), r + d = n → d + 50 ≤ k → isMaskB all = true → (∀ i : Nat, i < 8 → hasB all (i : Int) = (hasB m (i : Int) && decide (numIn a (lanesL m) (i : Int) < r))) → laws_FnBanks.l0 k a m (n : Int) (roundsL a (lanesL m) n) all (r : Int) = some true := by
  intro d
  induction d with
  | zero =>
    intro k r all hr hk hall h
    obtain ⟨k, rfl⟩ : ∃ m, k = m + 1 := ⟨k - 1, by omega⟩
    have e : all = m := by
      refine mask_ext hall hm (fun i hi => ?_)
      rw [h i hi]
      cases c : hasB m (i : Int) with
      | false => rfl
      | true =>
        have := num_lt a m i hi c
        rw [hn] at this
        simp only [Bool.true_and, decide_eq_true_eq]
        omega
    simp only [laws_FnBanks.l0]
    rw [roundsL_len, if_neg (by omega), if_pos rfl, if_pos e, impl_CountLanes_is]
    simp only [Option.bind_some]
    unfold countB
    have h1 := deg_le_lanes a m
    rw [lanesL_count, hn] at h1
    rw [if_pos hm, decide_eq_true h1]
  | succ d ih =>
    intro k r all hr hk hall h
    obtain ⟨k, rfl⟩ : ∃ m, k = m + 1 := ⟨k - 1, by omega⟩
    simp only [laws_FnBanks.l0]
    have hrm := roundM_mask a m r
    obtain ⟨y, hy, hb, hny⟩ := num_has a m r (by rw [hn]; omega)
    have hyr : hasB (roundM a m r) (y : Int) = true := by
      rw [roundM_has a m r y hy, hb, hny]
      simp
    have hz : Go.bits .and .i64 (roundM a m r) all = 0 := by
      refine and_zero hrm hall (fun i hi c => ?_)
      rw [roundM_has a m r i hi] at c
      simp only [Bool.and_eq_true, decide_eq_true_eq] at c
      rw [h i hi, c.1, c.2]
      simp
    rw [roundsL_len, if_pos (by omega), if_pos (by omega), rd_roundsL a m n r (by omega), if_neg (mask_pos hrm y hy hyr), if_pos hz, impl_ConflictDegree_is a _ k (by omega), round_deg a m ha r (by rw [hn]; omega)]
    simp only [Option.bind_some, if_true]
    rw [w64s r (by omega)]
    obtain ⟨o1, o2⟩ := mask_or hall hrm
    refine ih k (r + 1) _ (by omega) (by omega) o1 (fun i hi => ?_)
    rw [o2 i hi, h i hi, roundM_has a m r i hi]
    cases hasB m (i : Int) with
    | false => rfl
    | true =>
      simp only [Bool.true_and]
      rw [Bool.eq_iff_iff]
      simp only [Bool.or_eq_true, decide_eq_true_eq]
      omega
theorem FnBanks : laws_FnBanks.Pure := by
  intro l _ _ _
  obtain ⟨k0, hk0⟩ : ∃ k0 : Nat, 4100 ≤ k0 := ⟨4100, by omega⟩
  refine ⟨k0, ?_⟩
  unfold laws_FnBanks.f
  simp only [laws_big.f, Option.bind_some, decide_eq_true_eq]
  by_cases hb : (l.length : Int) > 1048576
  · rw [if_pos hb]
  · rw [if_neg hb]
    have hl : l.length ≤ 1048576 := by omega
    obtain ⟨a, ea, ha8, ha⟩ := DrawAddresses_is l hl k0 (by omega)
    obtain ⟨m, em, hm⟩ := DrawMask_is l hl k0 (by omega)
    have hask := asked_of ha8 ha hm
    rw [ea]
    simp only [Option.bind_some]
    rw [em]
    simp only [Option.bind_some]
    rw [impl_ConflictDegree_is a m k0 (by omega)]
    simp only [Option.bind_some]
    rw [impl_BankRounds_is a m k0 (by omega)]
    simp only [Option.bind_some]
    unfold degL bankL
    rw [if_pos hask, if_pos hask]
    have hs := deg_small a (lanesL m) (lanesL_len m)
    obtain ⟨n, hn⟩ := Int.eq_ofNat_of_zero_le hs.1
    rw [hn, Int.toNat_natCast]
    have h := banks_go a m hask hm n hn (by omega) n k0 0 0 (by omega) (by omega) (by decide) (fun i hi => by rw [hasB_zero ⟨i, hi⟩]; simp)
    rw [show ((0 : Nat) : Int) = 0 from rfl] at h
    exact h

end Go.Proofs.Ytpaoajlangbceaa.Pure
