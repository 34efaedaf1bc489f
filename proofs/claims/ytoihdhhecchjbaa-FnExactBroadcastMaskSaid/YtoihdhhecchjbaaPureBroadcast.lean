/- The lanes with the same address: the program's and the reference's, told by one plain number. -/
import Derived.Test.YtoihdhhecchjbaaPureAddresses
import Derived.Test.YtoihdhhecchjbaaPureMasks
import Derived.Test.YtoihdhhecchjbaaGxImpl19
namespace Go.Proofs.Ytoihdhhecchjbaa.Pure
open Go.RowKit Go.Proofs.Ytoihdhhecchjbaa.P Go.Proofs.YtoihdhhecchjbaaW.PrintWords Go.Proofs.YtoihdhhecchjbaaW.PrintLast Go.Proofs.YtoihdhhecchjbaaW.PrintMore

def addrB (l : List Int) : Bool := decide (l.length = 8) && l.all isAddr
theorem addrB_len {l : List Int} (h : addrB l = true) : l.length = 8 := by
  unfold addrB at h
  simp at h
  exact h.1
def bcast (l : List Int) (m lane : Int) : Int := if (addrB l && hasB m lane) = true then laneBits (fun i => rd l i == rd l lane) (lanesL m) 0 else 0
theorem hasB_lane {m i : Int} (h : hasB m i = true) : 0 ≤ i ∧ i < 8 := by
  unfold hasB isLaneB at h
  simp only [Bool.and_eq_true, decide_eq_true_eq] at h
  omega
theorem impl_BroadcastMask_is (l : List Int) (m lane : Int) (k : Nat) (hk : 9 ≤ k) : impl_BroadcastMask.f k l m lane = some (bcast l m lane) := by
  unfold impl_BroadcastMask.f bcast
  rw [show impl_AddressesOk.f l = some (addrB l) from rfl, impl_HasLane_is, impl_LanesOf_is m k hk]
  simp only [Option.bind_some]
  cases ha : addrB l with
  | false => simp
  | true =>
    cases hh : hasB m lane with
    | false => simp
    | true =>
      have hl := hasB_lane hh
      have hm : ∀ x ∈ lanesL m, 0 ≤ x ∧ x < 8 := fun x hx => ⟨(lanesL_mem hx).1, (lanesL_mem hx).2.1⟩
      simp only [Bool.and_self, if_true]
      rw [if_pos hl, if_pos hm]
theorem laneBits_append (p : Int → Bool) (s t : List Int) (acc : Int) : laneBits p (s ++ t) acc = laneBits p t (laneBits p s acc) := by
  unfold laneBits
  rw [List.foldl_append]
theorem spec_BroadcastMask_go (l : List Int) (m lane : Int) (h8 : l.length = 8) (hl0 : 0 ≤ lane) (hl8 : lane < 8) : ∀ (d k i : Nat) (x : Int), i + d = 8 → d < k → spec_BroadcastMask.l0 k l m lane x (i : Int) = some (laneBits (fun i => rd l i == rd l lane) (lanesFrom m i d) x) := by
  intro d
  induction d with
  | zero =>
    intro k i x hi hk
    obtain ⟨k, rfl⟩ : ∃ m, k = m + 1 := ⟨k - 1, by omega⟩
    simp only [spec_BroadcastMask.l0]
    rw [if_neg (by omega)]
    simp [lanesFrom, laneBits]
  | succ d ih =>
    intro k i x hi hk
    obtain ⟨k, rfl⟩ : ∃ m, k = m + 1 := ⟨k - 1, by omega⟩
    simp only [spec_BroadcastMask.l0]
    rw [if_pos (by omega), spec_HasLane_is, lanesFrom_succ, laneBits_append, w64s i (by omega)]
    simp only [Option.bind_some]
    by_cases h : hasB m (i : Int) = true
    · rw [if_pos h, if_pos h, if_pos (by omega), if_pos (by omega), if_pos (by omega), if_pos (by omega)]
      by_cases e : rd l (i : Int) = rd l lane
      · rw [if_pos e, ih k (i + 1) _ (by omega) (by omega)]
        simp [laneBits, e]
      · rw [if_neg e, ih k (i + 1) _ (by omega) (by omega)]
        simp [laneBits, e]
    · rw [if_neg h, if_neg h, ih k (i + 1) _ (by omega) (by omega)]
      simp [laneBits]
theorem spec_BroadcastMask_is (l : List Int) (m lane : Int) (hll : l.length ≤ 1048576) (k : Nat) (hk : l.length + 12 ≤ k) : spec_BroadcastMask.f k l m lane = some (bcast l m lane) := by
  obtain ⟨k, rfl⟩ : ∃ m, k = m + 1 := ⟨k - 1, by omega⟩
  unfold spec_BroadcastMask.f bcast
  rw [spec_AddressesOk_is l hll (k + 1) (by omega), spec_HasLane_is]
  change (some (addrB l)).bind _ = _
  simp only [Option.bind_some, spec_BroadcastMask.j0]
  cases ha : addrB l with
  | false => simp
  | true =>
    cases hh : hasB m lane with
    | false => simp
    | true =>
      have hl := hasB_lane hh
      have h8 := addrB_len ha
      have h := spec_BroadcastMask_go l m lane h8 hl.1 hl.2 8 k 0 0 (by omega) (by omega)
      simpa [lanesL] using h

end Go.Proofs.Ytoihdhhecchjbaa.Pure
