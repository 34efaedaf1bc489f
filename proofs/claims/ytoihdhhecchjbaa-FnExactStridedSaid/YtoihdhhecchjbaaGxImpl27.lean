-- Laid by this session's own program (wip/pp.py) over the seat's translation; Lean checks it.
import Derived.Test.YtoihdhhecchjbaaGx0
import Derived.Test.YtoihdhhecchjbaaGxImpl01
import Derived.Test.YtoihdhhecchjbaaGxImpl03
import Derived.Test.YtoihdhhecchjbaaGxImpl25
import Derived.Test.YtoihdhhecchjbaaGxImpl26
namespace Go.Proofs.Ytoihdhhecchjbaa.P
open Go.RowKit Go.Proofs.YtoihdhhecchjbaaW.PrintWords Go.Proofs.YtoihdhhecchjbaaW.PrintLast Go.Proofs.YtoihdhhecchjbaaW.PrintMore
attribute [local go_sem] max2_int min2_int max_two min_two max_three min_three max_four min_four   -- for this text's walks alone
set_option linter.unusedVariables false
set_option linter.unusedSimpArgs false

/-! ### impl_Strided: function 43 -/
theorem impl_Strided.num (a0 a1 : Int) (B0 B1 : Nat) (w : World) (hB0 : B0 < w.heap.size) (hB1 : B1 < w.heap.size) (hc0 : w.cell? ⟨B0, 0, none⟩ = some (.int .i64 a0)) (hc1 : w.cell? ⟨B1, 0, none⟩ = some (.int .i64 a1)) :
    NumAt 82 #[.pointer (some ⟨B0, 0, none⟩), .pointer (some ⟨B1, 0, none⟩)] (fun i => wrap64 (a0 + wrap64 (i * a1))) w := fun W i hb _ _ => by
  have k0 : W.cell? ⟨B0, 0, none⟩ = some (.int .i64 a0) := (hb.cell (p := ⟨B0, 0, none⟩) hB0).trans hc0
  have k1 : W.cell? ⟨B1, 0, none⟩ = some (.int .i64 a1) := (hb.cell (p := ⟨B1, 0, none⟩) hB1).trans hc1
  rename_i g0 g8
  clear hc0 hc1 hB0 hB1 hb g0 g8
  show Calls Try.prog 82 #[.int .i64 i, .pointer (some ⟨B0, 0, none⟩), .pointer (some ⟨B1, 0, none⟩)] W fun e w' => e = .returned (.int .i64 (wrap64 (a0 + wrap64 (i * a1)))) ∧ Drawn0 W w'
  go_enter Try.func82, Try.ntmps82
  go_wp2
  go_ret
  exact ⟨rfl, by repeat (first | exact Drawn0.refl _ | apply Drawn0.step)⟩
def isStrideB (n : Int) : Bool := decide (0 ≤ n) && decide (n ≤ 512)
theorem within_stride (n : Int) : impl_within.f n 0 512 = some (isStrideB n) := by
  unfold impl_within.f isStrideB
  by_cases h : n ≥ 0
  · simp [h]
  · have h' : ¬ 0 ≤ n := h
    simp [h']
def strides (a0 a1 : Int) : List Int := lanes8 (fun i => wrap64 (a0 + wrap64 (i * a1)))
def impl_Strided.f (a0 : Int) (a1 : Int) : Option (List Int) := some (if (isAddr a0 && isStrideB a1 && (strides a0 a1).all isAddr) = true then strides a0 a1 else [])
set_option maxHeartbeats 8000000 in
set_option maxRecDepth 100000 in
/-- What the call hands back, and that the empty answer is nil. -/
theorem impl_Strided.whole (a0 : Int) (a1 : Int) (w : World) :
    Calls Try.prog 43 #[.int .i64 a0, .int .i64 a1] w fun e w' => ∃ v0_ : Value, e = .returned (v0_) ∧ Kd.R (Kd.int .i64) 3 w' w.heap.size (fun _ => True) v0_ (if (isAddr a0 && isStrideB a1 && (strides a0 a1).all isAddr) = true then strides a0 a1 else []) ∧ Below w.heap.size w w' ∧ ((isAddr a0 && isStrideB a1 && (strides a0 a1).all isAddr) = false → v0_ = .slice none 0 0) := by
  have AA := Aside0.mk (impl_isAddress.is a0)
  have AS := Aside0.mk (within_stride a1)
  have eg : ∀ args w, (callFunc 82 args).run Try.prog w = .ok (.enter 82 args) w := enters_of Try.func82 (by kernel_rfl) rfl
  have bR : ∀ w' : World, Below w.heap.size w w' → ∃ v0_ : Value, Ending.returned (.slice none 0 0) = .returned v0_ ∧ Kd.R (Kd.int .i64) 3 w' w.heap.size (fun _ => True) v0_ [] ∧ Below w.heap.size w w' ∧ (true = true → v0_ = .slice none 0 0) := fun w' hb => ⟨_, rfl, Kd.R_nil _ _ _ _ _, hb, fun _ => rfl⟩
  have BR := Aside0.mk bR
  clear bR
  cases ha : isAddr a0 with
  | false =>
    rw [ha] at AA
    clear ha
    simp only [Bool.false_and, Bool.false_eq_true, if_false, true_implies]
    go_enter Try.func43, Try.ntmps43
    go_wp2_with (first | (go_at_call 73; refine (impl_isAddress.calls a0 false _ AA.out).mono ?_; rintro e w' ⟨rfl, ⟨nd, rfl⟩⟩))
    go_ret
    exact ⟨_, rfl, Kd.R_nil _ _ _ _ _, by repeat (first | exact Below.refl _ _ | apply below_alloc | apply pw_below_drewN | apply below_drew1), rfl⟩
  | true =>
    cases hs : isStrideB a1 with
    | false =>
      rw [ha] at AA
      rw [hs] at AS
      clear ha hs
      simp only [Bool.and_false, Bool.false_and, Bool.false_eq_true, if_false, true_implies]
      go_enter Try.func43, Try.ntmps43
      go_wp2_with (first | (go_at_call 73; refine (impl_isAddress.calls a0 true _ AA.out).mono ?_; rintro e w' ⟨rfl, ⟨nd, rfl⟩⟩) | (go_at_call 81; refine (impl_within.calls a1 0 512 false _ AS.out).mono ?_; rintro e w' ⟨rfl, ⟨nd, rfl⟩⟩))
      go_ret
      exact ⟨_, rfl, Kd.R_nil _ _ _ _ _, by repeat (first | exact Below.refl _ _ | apply below_alloc | apply pw_below_drewN | apply below_drew1), rfl⟩
    | true =>
      rw [ha] at AA
      rw [hs] at AS
      clear ha hs
      simp only [Bool.true_and]
      have AO := Aside0.mk (show impl_AddressesOk.f (strides a0 a1) = some ((strides a0 a1).all isAddr) from rfl)
      cases hb : (strides a0 a1).all isAddr with
      | false =>
        rw [hb] at AO
        clear hb
        simp only [Bool.false_eq_true, if_false, true_implies]
        go_enter Try.func43, Try.ntmps43
        go_wp2_with (first | (go_at_call 73; refine (impl_isAddress.calls a0 true _ AA.out).mono ?_; rintro e w' ⟨rfl, ⟨nd, rfl⟩⟩) | (go_at_call 81; refine (impl_within.calls a1 0 512 true _ AS.out).mono ?_; rintro e w' ⟨rfl, ⟨nd, rfl⟩⟩) | (go_at_call 75; refine (impl_eachLane.yes' 82 _ _ w _ eg (impl_Strided.num a0 a1 w.heap.size (w.heap.size + 1) _ ?k0 ?k1 ?k2 ?k3) ?k4).mono ?_; (case k0 => first | (simp; done) | (simp; omega)); (case k1 => first | (simp; done) | (simp; omega)); (case k2 => first | (simp; done) | (simp; omega)); (case k3 => first | (simp; done) | (simp; omega)); (case k4 => (repeat (first | exact Below.refl _ _ | apply below_alloc | apply pw_below_drewN | apply below_drew1))); rintro e w' ⟨v0_, rfl, ho, hb⟩; have HO := Aside0.mk ho; have HB := Aside0.mk hb; clear ho hb) | (go_at_call 31; obtain ⟨As, cs, es, hle, hcr⟩ := Kd.R_reads HO.out; subst es; refine (impl_AddressesOk.calls As cs (strides a0 a1) false _ hcr hle AO.out).mono ?_; clear hle hcr; rintro e w' ⟨rfl, ⟨nd, rfl⟩⟩))
        go_ret
        exact ⟨_, rfl, Kd.R_nil _ _ _ _ _, by repeat (first | (with_reducible first | exact HB.out | apply below_alloc | apply pw_below_drewN | apply below_drew1) | exact HB.out), rfl⟩
      | true =>
        rw [hb] at AO
        clear hb
        simp only [if_true]
        go_enter Try.func43, Try.ntmps43
        go_wp2_with (first | (go_at_call 73; refine (impl_isAddress.calls a0 true _ AA.out).mono ?_; rintro e w' ⟨rfl, ⟨nd, rfl⟩⟩) | (go_at_call 81; refine (impl_within.calls a1 0 512 true _ AS.out).mono ?_; rintro e w' ⟨rfl, ⟨nd, rfl⟩⟩) | (go_at_call 75; refine (impl_eachLane.yes' 82 _ _ w _ eg (impl_Strided.num a0 a1 w.heap.size (w.heap.size + 1) _ ?k0 ?k1 ?k2 ?k3) ?k4).mono ?_; (case k0 => first | (simp; done) | (simp; omega)); (case k1 => first | (simp; done) | (simp; omega)); (case k2 => first | (simp; done) | (simp; omega)); (case k3 => first | (simp; done) | (simp; omega)); (case k4 => (repeat (first | exact Below.refl _ _ | apply below_alloc | apply pw_below_drewN | apply below_drew1))); rintro e w' ⟨v0_, rfl, ho, hb⟩; have HO := Aside0.mk ho; have HB := Aside0.mk hb; clear ho hb) | (go_at_call 31; obtain ⟨As, cs, es, hle, hcr⟩ := Kd.R_reads HO.out; subst es; refine (impl_AddressesOk.calls As cs (strides a0 a1) true _ hcr hle AO.out).mono ?_; clear hle hcr; rintro e w' ⟨rfl, ⟨nd, rfl⟩⟩))
        go_ret
        exact ⟨_, rfl, by (with_reducible repeat (first | apply Kd.R_alloc | apply Kd.R_drewN | apply Kd.R_drew)); exact HO.out, by repeat (first | (with_reducible first | exact HB.out | apply below_alloc | apply pw_below_drewN | apply below_drew1) | exact HB.out), fun h => by cases h⟩
theorem impl_Strided.calls (a0 : Int) (a1 : Int) (r : List Int) (w : World) (h : impl_Strided.f a0 a1 = some r) :
    Calls Try.prog 43 #[.int .i64 a0, .int .i64 a1] w fun e w' => ∃ v0_ : Value, e = .returned (v0_) ∧ Kd.R (Kd.int .i64) 3 w' w.heap.size (fun _ => True) v0_ r ∧ Below w.heap.size w w' := by
  obtain rfl := Option.some.inj h
  exact (impl_Strided.whole a0 a1 w).mono fun _ _ ⟨v, h1, h2, h3, _⟩ => ⟨v, h1, h2, h3⟩

end Go.Proofs.Ytoihdhhecchjbaa.P
