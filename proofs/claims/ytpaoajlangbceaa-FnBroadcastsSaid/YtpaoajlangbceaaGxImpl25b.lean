-- Laid by this session's own program (wip/pp.py) over the seat's translation; Lean checks it.
import Derived.Test.YtpaoajlangbceaaGx0
import Derived.Test.YtpaoajlangbceaaGxImpl03
import Derived.Test.YtpaoajlangbceaaGxImpl19
import Derived.Test.YtpaoajlangbceaaGxImpl25
namespace Go.Proofs.Ytpaoajlangbceaa.P
open Go.RowKit Go.Proofs.YtpaoajlangbceaaW.PrintWords Go.Proofs.YtpaoajlangbceaaW.PrintLast Go.Proofs.YtpaoajlangbceaaW.PrintMore
attribute [local go_sem] max2_int min2_int max_two min_two max_three min_three max_four min_four   -- for this text's walks alone
set_option linter.unusedVariables false
set_option linter.unusedSimpArgs false

/-! ### impl_BroadcastMask: function 42 -/
theorem impl_BroadcastMask.num (A0 : Option Addr) (c0 : Nat) (l0 : List Int) (a2 : Int) (B0 B1 : Nat) (w : World) (h8 : l0.length = 8) (h20 : 0 ≤ a2) (h28 : a2 < 8) (hr0 : Kd.C (Kd.int .i64) w A0 l0.length l0) (hB0 : B0 < w.heap.size) (hB1 : B1 < w.heap.size) (hc0 : w.cell? ⟨B0, 0, none⟩ = some (.slice A0 l0.length c0)) (hc1 : w.cell? ⟨B1, 0, none⟩ = some (.int .i64 a2)) :
    LaneTest 73 #[.pointer (some ⟨B0, 0, none⟩), .pointer (some ⟨B1, 0, none⟩)] (fun i => rd l0 i == rd l0 a2) w := fun W i hb hi0 hi8 => by
  have k0 : W.cell? ⟨B0, 0, none⟩ = some (.slice A0 l0.length c0) := (hb.cell (p := ⟨B0, 0, none⟩) hB0).trans hc0
  have k1 : W.cell? ⟨B1, 0, none⟩ = some (.int .i64 a2) := (hb.cell (p := ⟨B1, 0, none⟩) hB1).trans hc1
  have hr := Kd.C_below hr0 hb
  have q1 : i < (l0.length : Int) := by omega
  have q2 : a2 < (l0.length : Int) := by omega
  obtain ⟨ad, e1, hx⟩ := Kd.at_int hr i hi0 q1
  obtain ⟨ad2, e2, hy⟩ := Kd.at_int hr a2 h20 q2
  cases e1
  cases e2
  clear hc0 hc1 hB0 hB1 hb hr hr0 h8
  show Calls Try.prog 73 #[.int .i64 i, .pointer (some ⟨B0, 0, none⟩), .pointer (some ⟨B1, 0, none⟩)] W fun e w' => e = .returned (.bool (rd l0 i == rd l0 a2)) ∧ Drawn0 W w'
  generalize rd l0 i = x at hx ⊢
  generalize rd l0 a2 = y at hy ⊢
  go_enter Try.func73, Try.ntmps73
  go_wp2
  repeat (go_quiet (fail); try go_wp2)
  go_ret
  exact ⟨rfl, by repeat (first | exact Drawn0.refl _ | apply Drawn0.step)⟩
def impl_BroadcastMask.f (k : Nat) (l0 : List Int) (a1 : Int) (a2 : Int) : Option (Int) := (impl_AddressesOk.f l0).bind fun b => if b = true then (impl_HasLane.f a1 a2).bind fun c => if c = true then (if 0 ≤ a2 ∧ a2 < 8 then (impl_LanesOf.f k a1).bind fun t => if (∀ x ∈ t, 0 ≤ x ∧ x < 8) then some (laneBits (fun i => rd l0 i == rd l0 a2) t 0) else none else none) else some 0 else some 0
theorem impl_BroadcastMask.mono : ∀ a0 a1 a2 k, LeO (impl_BroadcastMask.f k a0 a1 a2) (impl_BroadcastMask.f (k + 1) a0 a1 a2) := by
  intro a0 a1 a2 k
  unfold impl_BroadcastMask.f
  refine LeO.bind (LeO.refl _) fun b => LeO.ite (LeO.bind (LeO.refl _) fun c => LeO.ite (LeO.ite (LeO.bind (impl_LanesOf.mono _ k) fun t => LeO.refl _) (LeO.refl _)) (LeO.refl _)) (LeO.refl _)
set_option maxHeartbeats 8000000 in
set_option maxRecDepth 100000 in
theorem impl_BroadcastMask.calls (k : Nat) (A0 : Option Addr) (c0 : Nat) (l0 : List Int) (a1 : Int) (a2 : Int) (r : Int) (w : World) (hr0 : Kd.C (Kd.int .i64) w A0 l0.length l0) (hc0 : l0.length ≤ c0) (h : impl_BroadcastMask.f k l0 a1 a2 = some r) :
    Calls Try.prog 42 #[.slice A0 l0.length c0, .int .i64 a1, .int .i64 a2] w fun e w' => e = .returned (.int .i64 r) ∧ Below w.heap.size w w' := by
  have eg : ∀ args w, (callFunc 73 args).run Try.prog w = .ok (.enter 73 args) w := enters_of Try.func73 (by kernel_rfl) rfl
  have HR0 := Aside0.mk hr0
  have HC0 := Aside0.mk hc0
  clear hr0 hc0
  unfold impl_BroadcastMask.f at h
  obtain ⟨b, h1, h⟩ := Option.bind_eq_some_iff.mp h
  have H1 := Aside0.mk h1
  cases b with
  | false =>
    simp only [Bool.false_eq_true, if_false] at h
    obtain rfl := Option.some.inj h
    clear h h1
    go_enter Try.func42, Try.ntmps42
    go_wp2_with (go_at_call 71; refine (impl_AddressesOk.calls A0 c0 l0 false _ (Kd.C_below HR0.out (by repeat (first | exact Below.refl _ _ | apply below_alloc | apply pw_below_drewN | apply below_drew1))) HC0.out H1.out).mono ?_; rintro e w' ⟨rfl, ⟨nd, rfl⟩⟩)
    go_ret
    exact ⟨rfl, by repeat (first | exact Below.refl _ _ | apply below_alloc | apply pw_below_drewN | apply below_drew1)⟩
  | true =>
    simp only [if_true] at h
    have h8 : l0.length = 8 := by
      unfold impl_AddressesOk.f at h1
      have := Option.some.inj h1
      simp at this
      exact this.1
    obtain ⟨c, h2, h⟩ := Option.bind_eq_some_iff.mp h
    have H2 := Aside0.mk h2
    cases c with
    | false =>
      simp only [Bool.false_eq_true, if_false] at h
      obtain rfl := Option.some.inj h
      clear h h1 h2 h8
      go_enter Try.func42, Try.ntmps42
      go_wp2_with (first | (go_at_call 71; refine (impl_AddressesOk.calls A0 c0 l0 true _ (Kd.C_below HR0.out (by repeat (first | exact Below.refl _ _ | apply below_alloc | apply pw_below_drewN | apply below_drew1))) HC0.out H1.out).mono ?_; rintro e w' ⟨rfl, ⟨nd, rfl⟩⟩) | (go_at_call 43; refine (impl_HasLane.calls a1 a2 false _ H2.out).mono ?_; rintro e w' ⟨rfl, ⟨nd, rfl⟩⟩))
      go_ret
      exact ⟨rfl, by repeat (first | exact Below.refl _ _ | apply below_alloc | apply pw_below_drewN | apply below_drew1)⟩
    | true =>
      simp only [if_true] at h
      by_cases hlane : 0 ≤ a2 ∧ a2 < 8
      · rw [if_pos hlane] at h
        obtain ⟨t, h3, h⟩ := Option.bind_eq_some_iff.mp h
        by_cases hm : ∀ x ∈ t, 0 ≤ x ∧ x < 8
        · rw [if_pos hm] at h
          have HR := Aside0.mk (Option.some.inj h)
          have H3 := Aside0.mk h3
          have HM := Aside0.mk hm
          have H8 := Aside0.mk h8
          have HL := Aside0.mk hlane
          clear h h1 h2 h3 hm h8 hlane
          go_enter Try.func42, Try.ntmps42
          go_wp2_with (first | (go_at_call 71; refine (impl_AddressesOk.calls A0 c0 l0 true _ (Kd.C_below HR0.out (by repeat (first | exact Below.refl _ _ | apply below_alloc | apply pw_below_drewN | apply below_drew1))) HC0.out H1.out).mono ?_; rintro e w' ⟨rfl, ⟨nd, rfl⟩⟩) | (go_at_call 43; refine (impl_HasLane.calls a1 a2 true _ H2.out).mono ?_; rintro e w' ⟨rfl, ⟨nd, rfl⟩⟩) | (go_at_call 72; refine (impl_lanesWhere.calls 73 _ _ k a1 t _ eg (impl_BroadcastMask.num A0 c0 l0 a2 w.heap.size (w.heap.size + 1) _ H8.out HL.out.1 HL.out.2 (Kd.C_below HR0.out (by repeat (first | exact Below.refl _ _ | apply below_alloc | apply pw_below_drewN | apply below_drew1))) ?k0 ?k1 ?k2 ?k3) H3.out HM.out).mono ?_; (case k0 => first | (simp; done) | (simp; omega)); (case k1 => first | (simp; done) | (simp; omega)); (case k2 => first | (simp; done) | (simp; omega)); (case k3 => first | (simp; done) | (simp; omega)); rintro e w' ⟨rfl, hb⟩; have HB := Aside0.mk hb; clear hb))
          go_ret
          exact ⟨by rw [← HR.out]; rfl, below_step (by repeat (first | exact Below.refl _ _ | apply below_alloc | apply pw_below_drewN | apply below_drew1)) HB.out⟩
        · rw [if_neg hm] at h
          cases h
      · rw [if_neg hlane] at h
        cases h

end Go.Proofs.Ytpaoajlangbceaa.P
