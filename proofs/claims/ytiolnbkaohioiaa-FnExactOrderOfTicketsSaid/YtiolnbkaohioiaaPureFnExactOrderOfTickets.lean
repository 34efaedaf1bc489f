/- The program's OrderOfTickets answers what the reference's answers, for all arguments. -/
import Derived.Test.YtiolnbkaohioiaaGxPFnExactOrderOfTickets
import Derived.Test.YtiolnbkaohioiaaPureTicketOrder
namespace Go.Proofs.Ytiolnbkaohioiaa.Pure
open Go.RowKit Go.Proofs.Ytiolnbkaohioiaa.P Go.Proofs.YtiolnbkaohioiaaW.PrintWords Go.Proofs.YtiolnbkaohioiaaW.PrintLast

theorem FnExactOrderOfTickets : laws_FnExactOrderOfTickets.Pure := by
  intro x v _ _ _ _
  refine ⟨v.length + 60 + 1 + 1 + 1, ?_⟩
  unfold laws_FnExactOrderOfTickets.f
  by_cases hb : (v.length : Int) > 1048576
  · rw [if_pos hb]
  · rw [if_neg hb]
    have hl : v.length ≤ 1048576 := by omega
    obtain ⟨m0, hm0⟩ : ∃ m0, m0 = v.length + 60 := ⟨_, rfl⟩
    rw [← hm0]
    have hs : ∀ k, m0 ≤ k → spec_OrderOfTickets.f k x v = some (tickO x v) := fun k hk => spec_Order_is x v k (by omega)
    have hi : ∀ k, m0 ≤ k → impl_OrderOfTickets.f k x v = some (tickO x v) := fun k hk => impl_Order_is x v k (by omega)
    have hr : (tickO x v).1.length ≤ 8 := tickO_len x v
    generalize tickO x v = r at hr hs hi
    obtain ⟨r, ok⟩ := r
    simp only at hr
    have t1 := fun k (hk : m0 ≤ k) => toIntS_eq v hl k (by omega)
    have e1 := fun k (hk : m0 ≤ k) => eqIntS_refl v (by omega) k (by omega)
    have e2 := fun k (hk : m0 ≤ k) => eqIntS_refl r (by omega) k (by omega)
    have q1 := fun k (hk : m0 ≤ k) => markIntS_eq v 1 (by omega) (by omega) (by omega) k (by omega)
    have q2 := fun k (hk : m0 ≤ k) => markIntS_eq r 1 (by omega) (by omega) (by omega) k (by omega)
    have q3 := fun k (hk : m0 ≤ k) => heldIntS_eq 1 r.length (by omega) (by omega) (by omega) k (by omega)
    have n1 : ¬ ((1 : Int) + (v.length : Int) < 0) := by omega
    have n2 : ¬ ((1 : Int) + (r.length : Int) < 0) := by omega
    have m1 : m0 ≤ m0 + 1 + 1 + 1 := by omega
    have m2 : m0 ≤ m0 + 1 + 1 := by omega
    have m3 : m0 ≤ m0 + 1 := by omega
    have m4 : m0 ≤ m0 := by omega
    simp only [t1 _ m1, t1 _ m2, t1 _ m3, t1 _ m4, e1 _ m1, e1 _ m2, e1 _ m3, e2 _ m1, e2 _ m2, e2 _ m3, e2 _ m4, q1 _ m1, q1 _ m2, q2 _ m2, q2 _ m3, q2 _ m4, q3 _ m2, q3 _ m3, q3 _ m4, hs _ m1, hi _ m1, hi _ m2, hi _ m3, Option.bind_some, if_true, if_false, n1, n2, laws_FnExactOrderOfTickets.j0, laws_FnExactOrderOfTickets.j1, laws_FnExactOrderOfTickets.j2, bne_self_eq_false, Bool.false_eq_true]

end Go.Proofs.Ytiolnbkaohioiaa.Pure
