-- Laid by this session's own program (wip/pp.py) over the seat's translation; Lean checks it.
import Derived.Test.YtoihdhhecchjbaaGx0
import Derived.Test.YtoihdhhecchjbaaGxImpl01
import Derived.Test.YtoihdhhecchjbaaGxImpl03
import Derived.Test.YtoihdhhecchjbaaGxImpl19
import Derived.Test.YtoihdhhecchjbaaGxLibContains
namespace Go.Proofs.Ytoihdhhecchjbaa.P
open Go.RowKit Go.Proofs.YtoihdhhecchjbaaW.PrintWords Go.Proofs.YtoihdhhecchjbaaW.PrintLast Go.Proofs.YtoihdhhecchjbaaW.PrintMore
attribute [local go_sem] max2_int min2_int max_two min_two max_three min_three max_four min_four   -- for this text's walks alone
set_option linter.unusedVariables false
set_option linter.unusedSimpArgs false

/-! ### impl_isAddress: function 73 -/
def impl_isAddress.f (a0 : Int) : Option (Bool) := (impl_within.f a0 0 4095).bind fun t151 => (some t151)
set_option maxHeartbeats 8000000 in
set_option maxRecDepth 100000 in
theorem impl_isAddress.calls (a0 : Int) (r : Bool) (w : World) (h : impl_isAddress.f a0 = some r) :
    Calls Try.prog 73 #[.int .i64 a0] w fun e w' => e = .returned (.bool r) ∧ Drawn0 w w' := by
  have H : ((impl_within.f a0 0 4095).bind fun t151 => (some t151)) = some r := h
  clear h
  replace H := Option.bind_eq_some_iff.mp H
  obtain ⟨t151, A20, H⟩ := H
  replace H : (some t151) = some r := H
  have A2 := Aside0.mk A20
  clear A20
  obtain rfl := Option.some.inj H
  go_enter Try.func73, Try.ntmps73
  go_wp2_with (first | ((with_reducible refine gate_callee (f := 81) rfl ?_); refine goesL_ (some 4) rfl rfl Try.func81 (by kernel_rfl) rfl #[.int .i64 a0, .int .i64 0, .int .i64 4095] rfl (by (try simp only [List.map_toArray, List.map_cons, List.map_nil]); first | done | rfl | (simp only [List.length_drop, List.length_take]; rfl)) ?_; (with_reducible refine (impl_within.calls a0 0 4095 t151 _ A2.out).mono ?_); rintro e w' ⟨rfl, ⟨nd, rfl⟩⟩; refine ⟨_, rfl, ?_⟩))
  go_ret
  exact ⟨by first | rfl | (simp; done) | (simp [*]; done), by repeat (first | exact Drawn0.refl _ | apply Drawn0.step)⟩

def isAddr (n : Int) : Bool := decide (0 ≤ n) && decide (n ≤ 4095)
theorem impl_isAddress.is (n : Int) : impl_isAddress.f n = some (isAddr n) := by
  unfold impl_isAddress.f impl_within.f isAddr
  by_cases h : n ≥ 0
  · simp [h]
  · have h' : ¬ 0 ≤ n := h
    simp [h']

/-! ### impl_AddressesOk: function 31 -/
theorem impl_AddressesOk.pred (w : World) : PredNum 72 #[] (fun n => !(isAddr n)) w := fun W x _ => by
  have hc := impl_isAddress.calls x (isAddr x) W (impl_isAddress.is x)
  show Calls Try.prog 72 #[.int .i64 x] W fun e w' => e = .returned (.bool (!(isAddr x))) ∧ Drawn0 W w'
  generalize isAddr x = b at hc ⊢
  have HC := Aside0.mk hc
  clear hc
  go_enter Try.func72, Try.ntmps72
  go_wp2_with (go_at_call 73; refine HC.out.mono ?_; rintro e w' ⟨rfl, ⟨nd, rfl⟩⟩)
  go_ret
  exact ⟨rfl, by repeat (first | exact Drawn0.refl _ | apply Drawn0.step)⟩
def impl_AddressesOk.f (l0 : List Int) : Option (Bool) := some (decide (l0.length = 8) && l0.all isAddr)
set_option maxHeartbeats 8000000 in
set_option maxRecDepth 100000 in
theorem impl_AddressesOk.calls (A0 : Option Addr) (c0 : Nat) (l0 : List Int) (r : Bool) (w : World) (hr0 : Kd.C (Kd.int .i64) w A0 l0.length l0) (hc0 : l0.length ≤ c0) (h : impl_AddressesOk.f l0 = some r) :
    Calls Try.prog 31 #[.slice A0 l0.length c0] w fun e w' => e = .returned (.bool r) ∧ Drawn0 w w' := by
  have H := Option.some.inj h
  clear h
  by_cases h8 : l0.length = 8
  · have hcall := slices_ContainsFunc_int.calls 72 #[] (fun n => !(isAddr n)) A0 c0 l0 w (enters_of Try.func72 (by kernel_rfl) rfl) (impl_AddressesOk.pred w) hr0 (by omega)
    rw [← all_any_not, h8] at H
    simp only [decide_true, Bool.true_and] at H
    have HA := Aside0.mk H
    clear H hr0
    generalize (l0.any fun n => !(isAddr n)) = b at hcall HA
    rw [h8] at hcall ⊢
    clear hc0 h8
    have HC := Aside0.mk hcall
    clear hcall
    go_enter Try.func31, Try.ntmps31
    go_wp2_with (go_at_call 71; refine HC.out.mono ?_; rintro e w' ⟨rfl, ⟨nd, rfl⟩⟩)
    go_ret
    exact ⟨by rw [← HA.out]; rfl, by repeat (first | exact Drawn0.refl _ | apply Drawn0.step)⟩
  · have h8' : ((l0.length : Int) == 8) = false := by simp; omega
    rw [show decide (l0.length = 8) = false from decide_eq_false h8] at H
    simp only [Bool.false_and] at H
    subst H
    clear h8 hr0 hc0
    generalize l0.length = n at h8' ⊢
    go_enter Try.func31, Try.ntmps31
    go_wp2
    go_ret
    exact ⟨rfl, by repeat (first | exact Drawn0.refl _ | apply Drawn0.step)⟩

/-! ### impl_BroadcastMask: function 45 -/
theorem impl_BroadcastMask.num (A0 : Option Addr) (c0 : Nat) (l0 : List Int) (a2 : Int) (B0 B1 : Nat) (w : World) (h8 : l0.length = 8) (h20 : 0 ≤ a2) (h28 : a2 < 8) (hr0 : Kd.C (Kd.int .i64) w A0 l0.length l0) (hB0 : B0 < w.heap.size) (hB1 : B1 < w.heap.size) (hc0 : w.cell? ⟨B0, 0, none⟩ = some (.slice A0 l0.length c0)) (hc1 : w.cell? ⟨B1, 0, none⟩ = some (.int .i64 a2)) :
    LaneTest 85 #[.pointer (some ⟨B0, 0, none⟩), .pointer (some ⟨B1, 0, none⟩)] (fun i => rd l0 i == rd l0 a2) w := fun W i hb hi0 hi8 => by
  have k0 : W.cell? ⟨B0, 0, none⟩ = some (.slice A0 l0.length c0) := (hb.cell (p := ⟨B0, 0, none⟩) hB0).trans hc0
  have k1 : W.cell? ⟨B1, 0, none⟩ = some (.int .i64 a2) := (hb.cell (p := ⟨B1, 0, none⟩) hB1).trans hc1
  have hr := Kd.C_below hr0 hb
  have q1 : i < (l0.length : Int) := by omega
  have q2 : a2 < (l0.length : Int) := by omega
  obtain ⟨ad, e1, hx⟩ := Kd.at_int hr i hi0 q1
  obtain ⟨ad2, e2, hy⟩ := Kd.at_int hr a2 h20 q2
  cases e1
  cases e2
  clear hc0 hc1 hB0 hB1 hb hr hr0 h8
  show Calls Try.prog 85 #[.int .i64 i, .pointer (some ⟨B0, 0, none⟩), .pointer (some ⟨B1, 0, none⟩)] W fun e w' => e = .returned (.bool (rd l0 i == rd l0 a2)) ∧ Drawn0 W w'
  generalize rd l0 i = x at hx ⊢
  generalize rd l0 a2 = y at hy ⊢
  go_enter Try.func85, Try.ntmps85
  go_wp2
  repeat (go_quiet (fail); try go_wp2)
  go_ret
  exact ⟨rfl, by repeat (first | exact Drawn0.refl _ | apply Drawn0.step)⟩
def impl_BroadcastMask.f (k : Nat) (l0 : List Int) (a1 : Int) (a2 : Int) : Option (Int) := (impl_AddressesOk.f l0).bind fun b => if b = true then (impl_HasLane.f a1 a2).bind fun c => if c = true then (if 0 ≤ a2 ∧ a2 < 8 then (impl_LanesOf.f k a1).bind fun t => if (∀ x ∈ t, 0 ≤ x ∧ x < 8) then some (laneBits (fun i => rd l0 i == rd l0 a2) t 0) else none else none) else some 0 else some 0
theorem impl_BroadcastMask.mono : ∀ a0 a1 a2 k, LeO (impl_BroadcastMask.f k a0 a1 a2) (impl_BroadcastMask.f (k + 1) a0 a1 a2) := by
  intro a0 a1 a2 k
  unfold impl_BroadcastMask.f
  refine LeO.bind (LeO.refl _) fun b => LeO.ite (LeO.bind (LeO.refl _) fun c => LeO.ite (LeO.ite (LeO.bind (impl_LanesOf.mono _ k) fun t => LeO.refl _) (LeO.refl _)) (LeO.refl _)) (LeO.refl _)
set_option maxHeartbeats 8000000 in
set_option maxRecDepth 100000 in
theorem impl_BroadcastMask.calls (k : Nat) (A0 : Option Addr) (c0 : Nat) (l0 : List Int) (a1 : Int) (a2 : Int) (r : Int) (w : World) (hr0 : Kd.C (Kd.int .i64) w A0 l0.length l0) (hc0 : l0.length ≤ c0) (h : impl_BroadcastMask.f k l0 a1 a2 = some r) :
    Calls Try.prog 45 #[.slice A0 l0.length c0, .int .i64 a1, .int .i64 a2] w fun e w' => e = .returned (.int .i64 r) ∧ Below w.heap.size w w' := by
  have eg : ∀ args w, (callFunc 85 args).run Try.prog w = .ok (.enter 85 args) w := enters_of Try.func85 (by kernel_rfl) rfl
  have HR0 := Aside0.mk hr0
  have HC0 := Aside0.mk hc0
  clear hr0 hc0
  unfold impl_BroadcastMask.f at h
  obtain ⟨b, h1, h⟩ := Option.bind_eq_some_iff.mp h
  have H1 := Aside0.mk h1
  cases b with
  | false =>
    simp only [Bool.false_eq_true, if_false] at h
    obtain rfl := Option.some.inj h
    clear h h1
    go_enter Try.func45, Try.ntmps45
    go_wp2_with (go_at_call 31; refine (impl_AddressesOk.calls A0 c0 l0 false _ (Kd.C_below HR0.out (by repeat (first | exact Below.refl _ _ | apply below_alloc | apply pw_below_drewN | apply below_drew1))) HC0.out H1.out).mono ?_; rintro e w' ⟨rfl, ⟨nd, rfl⟩⟩)
    go_ret
    exact ⟨rfl, by repeat (first | exact Below.refl _ _ | apply below_alloc | apply pw_below_drewN | apply below_drew1)⟩
  | true =>
    simp only [if_true] at h
    have h8 : l0.length = 8 := by
      unfold impl_AddressesOk.f at h1
      have := Option.some.inj h1
      simp at this
      exact this.1
    obtain ⟨c, h2, h⟩ := Option.bind_eq_some_iff.mp h
    have H2 := Aside0.mk h2
    cases c with
    | false =>
      simp only [Bool.false_eq_true, if_false] at h
      obtain rfl := Option.some.inj h
      clear h h1 h2 h8
      go_enter Try.func45, Try.ntmps45
      go_wp2_with (first | (go_at_call 31; refine (impl_AddressesOk.calls A0 c0 l0 true _ (Kd.C_below HR0.out (by repeat (first | exact Below.refl _ _ | apply below_alloc | apply pw_below_drewN | apply below_drew1))) HC0.out H1.out).mono ?_; rintro e w' ⟨rfl, ⟨nd, rfl⟩⟩) | (go_at_call 67; refine (impl_HasLane.calls a1 a2 false _ H2.out).mono ?_; rintro e w' ⟨rfl, ⟨nd, rfl⟩⟩))
      go_ret
      exact ⟨rfl, by repeat (first | exact Below.refl _ _ | apply below_alloc | apply pw_below_drewN | apply below_drew1)⟩
    | true =>
      simp only [if_true] at h
      by_cases hlane : 0 ≤ a2 ∧ a2 < 8
      · rw [if_pos hlane] at h
        obtain ⟨t, h3, h⟩ := Option.bind_eq_some_iff.mp h
        by_cases hm : ∀ x ∈ t, 0 ≤ x ∧ x < 8
        · rw [if_pos hm] at h
          have HR := Aside0.mk (Option.some.inj h)
          have H3 := Aside0.mk h3
          have HM := Aside0.mk hm
          have H8 := Aside0.mk h8
          have HL := Aside0.mk hlane
          clear h h1 h2 h3 hm h8 hlane
          go_enter Try.func45, Try.ntmps45
          go_wp2_with (first | (go_at_call 31; refine (impl_AddressesOk.calls A0 c0 l0 true _ (Kd.C_below HR0.out (by repeat (first | exact Below.refl _ _ | apply below_alloc | apply pw_below_drewN | apply below_drew1))) HC0.out H1.out).mono ?_; rintro e w' ⟨rfl, ⟨nd, rfl⟩⟩) | (go_at_call 67; refine (impl_HasLane.calls a1 a2 true _ H2.out).mono ?_; rintro e w' ⟨rfl, ⟨nd, rfl⟩⟩) | (go_at_call 84; refine (impl_lanesWhere.calls 85 _ _ k a1 t _ eg (impl_BroadcastMask.num A0 c0 l0 a2 w.heap.size (w.heap.size + 1) _ H8.out HL.out.1 HL.out.2 (Kd.C_below HR0.out (by repeat (first | exact Below.refl _ _ | apply below_alloc | apply pw_below_drewN | apply below_drew1))) ?k0 ?k1 ?k2 ?k3) H3.out HM.out).mono ?_; (case k0 => first | (simp; done) | (simp; omega)); (case k1 => first | (simp; done) | (simp; omega)); (case k2 => first | (simp; done) | (simp; omega)); (case k3 => first | (simp; done) | (simp; omega)); rintro e w' ⟨rfl, hb⟩; have HB := Aside0.mk hb; clear hb))
          go_ret
          exact ⟨by rw [← HR.out]; rfl, below_step (by repeat (first | exact Below.refl _ _ | apply below_alloc | apply pw_below_drewN | apply below_drew1)) HB.out⟩
        · rw [if_neg hm] at h
          cases h
      · rw [if_neg hlane] at h
        cases h

/-! ### impl_areAsked: function 88 -/
def impl_areAsked.f (l0 : List Int) (a1 : Int) : Option (Bool) := (impl_AddressesOk.f l0).bind fun t370 => (if t370 = true then ((impl_IsMask.f a1).bind fun t371 => (some t371)) else (some false))
set_option maxHeartbeats 8000000 in
set_option maxRecDepth 100000 in
theorem impl_areAsked.calls (A0 : Option Addr) (c0 : Nat) (l0 : List Int) (a1 : Int) (r : Bool) (w : World) (hr0 : Kd.C (Kd.int .i64) w A0 l0.length l0) (hc0 : l0.length ≤ c0) (h : impl_areAsked.f l0 a1 = some r) :
    Calls Try.prog 88 #[.slice A0 l0.length c0, .int .i64 a1] w fun e w' => e = .returned (.bool r) ∧ Drawn0 w w' := by
  have HR0 := Aside0.mk hr0
  have HC0 := Aside0.mk hc0
  clear hr0 hc0
  have H : ((impl_AddressesOk.f l0).bind fun t370 => (if t370 = true then ((impl_IsMask.f a1).bind fun t371 => (some t371)) else (some false))) = some r := h
  clear h
  replace H := Option.bind_eq_some_iff.mp H
  obtain ⟨t370, A30, H⟩ := H
  replace H : (if t370 = true then ((impl_IsMask.f a1).bind fun t371 => (some t371)) else (some false)) = some r := H
  have A3 := Aside0.mk A30
  clear A30
  by_cases c4 : t370 = true
  · subst c4
    have H1 : ((impl_IsMask.f a1).bind fun t371 => (some t371)) = some r := by rw [if_pos rfl] at H; exact H
    clear H
    have H := H1
    clear H1
    replace H := Option.bind_eq_some_iff.mp H
    obtain ⟨t371, A50, H⟩ := H
    replace H : (some t371) = some r := H
    have A5 := Aside0.mk A50
    clear A50
    obtain rfl := Option.some.inj H
    go_enter Try.func88, Try.ntmps88
    go_wp2_with (first | ((with_reducible refine gate_callee (f := 31) rfl ?_); refine goesL_ (some 6) rfl rfl Try.func31 (by kernel_rfl) rfl #[.slice A0 l0.length c0] rfl (by (try simp only [List.map_toArray, List.map_cons, List.map_nil]); first | done | rfl | (simp only [List.length_drop, List.length_take]; rfl)) ?_; (with_reducible refine (impl_AddressesOk.calls _ _ l0 true _ ?side1 ?side2 A3.out).mono ?_); (case side1 => repeat (first | exact HR0.out | (with_reducible refine Kd.C_alloc ?_ _) | (with_reducible refine Kd.C_drewN ?_ _) | (with_reducible refine Kd.C_drew ?_))); (case side2 => exact HC0.out); rintro e w' ⟨rfl, ⟨nd, rfl⟩⟩; refine ⟨_, rfl, ?_⟩) | (go_at_call 101; (with_reducible refine (impl_IsMask.calls a1 t371 _ A5.out).mono ?_); rintro e w' ⟨rfl, ⟨nd, rfl⟩⟩))
    go_ret
    exact ⟨by first | rfl | (simp; done) | (simp [*]; done), by repeat (first | exact Drawn0.refl _ | apply Drawn0.step)⟩
  · replace c4 := Bool.eq_false_iff.mpr c4
    subst c4
    have H1 : (some false) = some r := by rw [if_neg (show ¬ (false = true) by decide)] at H; exact H
    clear H
    have H := H1
    clear H1
    obtain rfl := Option.some.inj H
    go_enter Try.func88, Try.ntmps88
    go_wp2_with (first | ((with_reducible refine gate_callee (f := 31) rfl ?_); refine goesL_ (some 6) rfl rfl Try.func31 (by kernel_rfl) rfl #[.slice A0 l0.length c0] rfl (by (try simp only [List.map_toArray, List.map_cons, List.map_nil]); first | done | rfl | (simp only [List.length_drop, List.length_take]; rfl)) ?_; (with_reducible refine (impl_AddressesOk.calls _ _ l0 false _ ?side1 ?side2 A3.out).mono ?_); (case side1 => repeat (first | exact HR0.out | (with_reducible refine Kd.C_alloc ?_ _) | (with_reducible refine Kd.C_drewN ?_ _) | (with_reducible refine Kd.C_drew ?_))); (case side2 => exact HC0.out); rintro e w' ⟨rfl, ⟨nd, rfl⟩⟩; refine ⟨_, rfl, ?_⟩))
    go_ret
    exact ⟨by first | rfl | (simp; done) | (simp [*]; done), by repeat (first | exact Drawn0.refl _ | apply Drawn0.step)⟩

-- NOT PRINTED: function 89 (impl_roundsOf)

-- NOT PRINTED: function 47 (impl_ConflictDegree)

-- NOT PRINTED: function 51 (impl_BankRounds)

end Go.Proofs.Ytoihdhhecchjbaa.P
