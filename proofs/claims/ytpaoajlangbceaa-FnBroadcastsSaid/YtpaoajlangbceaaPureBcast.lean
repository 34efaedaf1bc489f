/- The lanes with the same address, told by one plain number. -/
import Derived.Test.YtpaoajlangbceaaGxImpl25b
import Derived.Test.YtpaoajlangbceaaPureMasks
namespace Go.Proofs.Ytpaoajlangbceaa.Pure
open Go.RowKit Go.Proofs.Ytpaoajlangbceaa.P Go.Proofs.YtpaoajlangbceaaW.PrintWords Go.Proofs.YtpaoajlangbceaaW.PrintLast Go.Proofs.YtpaoajlangbceaaW.PrintMore

def addrB (l : List Int) : Bool := decide (l.length = 8) && l.all isAddr
theorem addrB_len {l : List Int} (h : addrB l = true) : l.length = 8 := by
  unfold addrB at h
  simp at h
  exact h.1
def bcast (l : List Int) (m lane : Int) : Int := if (addrB l && hasB m lane) = true then laneBits (fun i => rd l i == rd l lane) (lanesL m) 0 else 0
theorem hasB_lane {m i : Int} (h : hasB m i = true) : 0 ≤ i ∧ i < 8 := by
  unfold hasB isLaneB at h
  simp only [Bool.and_eq_true, decide_eq_true_eq] at h
  omega
theorem impl_BroadcastMask_is (l : List Int) (m lane : Int) (k : Nat) (hk : 9 ≤ k) : impl_BroadcastMask.f k l m lane = some (bcast l m lane) := by
  unfold impl_BroadcastMask.f bcast
  rw [show impl_AddressesOk.f l = some (addrB l) from rfl, impl_HasLane_is, impl_LanesOf_is m k hk]
  simp only [Option.bind_some]
  cases ha : addrB l with
  | false => simp
  | true =>
    cases hh : hasB m lane with
    | false => simp
    | true =>
      have hl := hasB_lane hh
      have hm : ∀ x ∈ lanesL m, 0 ≤ x ∧ x < 8 := fun x hx => ⟨(lanesL_mem hx).1, (lanesL_mem hx).2.1⟩
      simp only [Bool.and_self, if_true]
      rw [if_pos hl, if_pos hm]

end Go.Proofs.Ytpaoajlangbceaa.Pure
