/- Lanes with the same address are served together, for every setting. -/
import Derived.Test.YtpaoajlangbceaaGxPFnBroadcasts
import Derived.Test.YtpaoajlangbceaaPureBankNum
import Derived.Test.YtpaoajlangbceaaPureDrawAddr
import Derived.Test.YtpaoajlangbceaaPureDrawMask
import Derived.Test.YtpaoajlangbceaaPureBcast
namespace Go.Proofs.Ytpaoajlangbceaa.Pure
open Go.RowKit Go.Proofs.Ytpaoajlangbceaa.P Go.Proofs.YtpaoajlangbceaaW.PrintWords Go.Proofs.YtpaoajlangbceaaW.PrintLast Go.Proofs.YtpaoajlangbceaaW.PrintMore

theorem bcast_or (a : List Int) (m : Int) (ha : addrB a = true) (i : Nat) (hh : hasB m (i : Int) = true) : bcast a m (i : Int) = orL (fun x => rd a x == rd a (i : Int)) (lanesL m) := by
  unfold bcast
  rw [ha, hh]
  rfl
theorem bcast_no (a : List Int) (m : Int) (i : Nat) (hh : hasB m (i : Int) = false) : bcast a m (i : Int) = 0 := by
  unfold bcast
  rw [hh]
  simp
theorem bcast_mask (a : List Int) (m : Int) (ha : addrB a = true) (i : Nat) : isMaskB (bcast a m (i : Int)) = true := by
  cases c : hasB m (i : Int) with
  | false => rw [bcast_no a m i c]; decide
  | true => rw [bcast_or a m ha i c]; exact orL_mask _ m
theorem bc_inner (a : List Int) (m : Int) (ha : addrB a = true) (n : Nat) (hn : n ≤ 9) (i : Nat) (hi : i < 8) : ∀ (d k r : Nat), r + d = n → d + 30 ≤ k → ∃ k', k = k' + d + 1 ∧ laws_FnBroadcasts.l1 k a m (roundsL a (lanesL m) n) (i : Int) (bcast a m (i : Int)) (r : Int) = laws_FnBroadcasts.l0 k' a m (roundsL a (lanesL m) n) (wrap64 ((i : Int) + 1)) := by
  intro d
  induction d with
  | zero =>
    intro k r hr hk
    obtain ⟨k, rfl⟩ : ∃ m, k = m + 1 := ⟨k - 1, by omega⟩
    refine ⟨k, by omega, ?_⟩
    simp only [laws_FnBroadcasts.l1]
    rw [roundsL_len, if_neg (by omega)]
  | succ d ih =>
    intro k r hr hk
    obtain ⟨k, rfl⟩ : ∃ m, k = m + 1 := ⟨k - 1, by omega⟩
    obtain ⟨k', e1, e2⟩ := ih k (r + 1) (by omega) (by omega)
    refine ⟨k', by omega, ?_⟩
    simp only [laws_FnBroadcasts.l1]
    rw [roundsL_len, if_pos (by omega), if_pos (by omega), rd_roundsL a m n r (by omega), impl_HasLane_is]
    simp only [Option.bind_some]
    rw [w64s r (by omega), e2]
    by_cases c : hasB (roundM a m r) (i : Int) = true
    · rw [if_pos c, if_pos]
      refine and_self' (bcast_mask a m ha i) (roundM_mask a m r) (fun j hj hb => ?_)
      rw [roundM_has a m r i hi] at c
      simp only [Bool.and_eq_true, decide_eq_true_eq] at c
      rw [bcast_or a m ha i c.1, hasB_orL _ m j hj] at hb
      simp only [Bool.and_eq_true, beq_iff_eq] at hb
      rw [roundM_has a m r j hj, hb.1, num_same a m j i hj hi hb.1 c.1 hb.2, c.2]
      simp
    · rw [if_neg c]
theorem bc_go (a : List Int) (m : Int) (ha : addrB a = true) (hm : isMaskB m = true) (n : Nat) (hn : n ≤ 9) : ∀ (d k i : Nat), i + d = 8 → 20 * d + 50 ≤ k → laws_FnBroadcasts.l0 k a m (roundsL a (lanesL m) n) (i : Int) = some true := by
  intro d
  induction d with
  | zero =>
    intro k i hi hk
    obtain ⟨k, rfl⟩ : ∃ m, k = m + 1 := ⟨k - 1, by omega⟩
    simp only [laws_FnBroadcasts.l0]
    rw [if_neg (by omega)]
  | succ d ih =>
    intro k i hi hk
    obtain ⟨k, rfl⟩ : ∃ m, k = m + 2 := ⟨k - 2, by omega⟩
    obtain ⟨k', e1, e2⟩ := bc_inner a m ha n hn i (by omega) n k 0 (by omega) (by omega)
    rw [show ((0 : Nat) : Int) = 0 from rfl] at e2
    have h1 : hasB (bcast a m (i : Int)) (i : Int) = hasB m (i : Int) := by
      cases c : hasB m (i : Int) with
      | false => rw [bcast_no a m i c, hasB_zero ⟨i, by omega⟩]
      | true => rw [bcast_or a m ha i c, hasB_orL _ m i (by omega), c]; simp
    have h2 : Go.bits .and .i64 (bcast a m (i : Int)) m = bcast a m (i : Int) := by
      refine and_self (bcast_mask a m ha i) hm (fun j hj hb => ?_)
      cases c : hasB m (i : Int) with
      | false => rw [bcast_no a m i c, hasB_zero ⟨j, hj⟩] at hb; cases hb
      | true =>
        rw [bcast_or a m ha i c, hasB_orL _ m j hj] at hb
        simp only [Bool.and_eq_true] at hb
        exact hb.1
    simp only [laws_FnBroadcasts.l0]
    rw [if_pos (by omega), impl_BroadcastMask_is a m (i : Int) (k + 1) (by omega)]
    simp only [Option.bind_some]
    rw [impl_HasLane_is, impl_HasLane_is]
    simp only [Option.bind_some]
    rw [h1, bne_self_eq_false, h2, bne_self_eq_false]
    simp only [Bool.false_eq_true, if_false, laws_FnBroadcasts.j1]
    rw [e2, w64s i (by omega)]
    exact ih k' (i + 1) (by omega) (by omega)
theorem FnBroadcasts : laws_FnBroadcasts.Pure := by
  intro l _ _ _
  obtain ⟨k0, hk0⟩ : ∃ k0 : Nat, 4100 ≤ k0 := ⟨4100, by omega⟩
  refine ⟨k0, ?_⟩
  unfold laws_FnBroadcasts.f
  simp only [laws_big.f, Option.bind_some, decide_eq_true_eq]
  by_cases hb : (l.length : Int) > 1048576
  · rw [if_pos hb]
  · rw [if_neg hb]
    have hl : l.length ≤ 1048576 := by omega
    obtain ⟨a, ea, ha8, ha⟩ := DrawAddresses_is l hl k0 (by omega)
    obtain ⟨m, em, hm⟩ := DrawMask_is l hl k0 (by omega)
    have hask := asked_of ha8 ha hm
    have hab : addrB a = true := by
      unfold addrB
      rw [ha, ha8]
      rfl
    rw [ea]
    simp only [Option.bind_some]
    rw [em]
    simp only [Option.bind_some]
    rw [impl_BankRounds_is a m k0 (by omega)]
    simp only [Option.bind_some]
    rw [spec_BankRounds_is a m (by omega) k0 (by omega)]
    simp only [Option.bind_some, if_true]
    unfold bankL
    rw [if_pos hask]
    have hs := deg_small a (lanesL m) (lanesL_len m)
    have h := bc_go a m hab hm (degOf a (lanesL m)).toNat (by omega) 8 k0 0 (by omega) (by omega)
    rw [show ((0 : Nat) : Int) = 0 from rfl] at h
    exact h

end Go.Proofs.Ytpaoajlangbceaa.Pure
