-- Laid by this session's own program (wip/pp.py) over the seat's translation; Lean checks it.
import Derived.Test.YteehgmbbmlfggaaGx0
namespace Go.Proofs.Yteehgmbbmlfggaa.P
open Go.RowKit Go.Proofs.YteehgmbbmlfggaaW.PrintWords Go.Proofs.YteehgmbbmlfggaaW.PrintLast Go.Proofs.YteehgmbbmlfggaaW.PrintMore
attribute [local go_sem] max2_int min2_int max_two min_two max_three min_three max_four min_four   -- for this text's walks alone
set_option linter.unusedVariables false
set_option linter.unusedSimpArgs false

-- NOT PRINTED: function 42 (bits_OnesCount32)

/-! ### bits_OnesCount64: function 43 -/
def oc1 (x : Int) : Int := IntKind.u64.wrap ((Go.bits .and .u64 (x / 2) 6148914691236517205) + (Go.bits .and .u64 x 6148914691236517205))
def oc2 (x : Int) : Int := IntKind.u64.wrap ((Go.bits .and .u64 (x / 4) 3689348814741910323) + (Go.bits .and .u64 x 3689348814741910323))
def oc3 (x : Int) : Int := Go.bits .and .u64 (IntKind.u64.wrap ((x / 16) + x)) 1085102592571150095
def oc4 (x : Int) : Int := IntKind.u64.wrap (x + (x / 256))
def oc5 (x : Int) : Int := IntKind.u64.wrap (x + (x / 65536))
def oc6 (x : Int) : Int := IntKind.u64.wrap (x + (x / 4294967296))
def bits_OnesCount64.f (a0 : Int) : Option (Int) := some (Go.bits .and .i64 (wrap64 (oc6 (oc5 (oc4 (oc3 (oc2 (oc1 a0))))))) 127)
set_option maxHeartbeats 8000000 in
set_option maxRecDepth 100000 in
theorem bits_OnesCount64.calls (a0 : Int) (r : Int) (w : World) (h : bits_OnesCount64.f a0 = some r) :
    Calls Try.prog 43 #[.int .u64 a0] w fun e w' => e = .returned (.int .i64 r) ∧ Drawn0 w w' := by
  have HR := Aside0.mk (Option.some.inj h)
  clear h
  go_enter Try.func43, Try.ntmps43
  go_upto_region 1 with fail
  go_cut [0] (fun v w' => ∃ x : Int, v = .int .u64 x ∧ Aside0 (x = oc1 a0) ∧ Drawn0 w w')
  case first =>
    go_wp2_with fail
    go_meet
    exact ⟨_, rfl, ⟨rfl⟩, by repeat (first | exact Drawn0.refl _ | apply Drawn0.step)⟩
  case rest =>
  obtain ⟨x1, rfl, H1, ⟨m1, rfl⟩⟩ := hcut
  go_upto_region 2 with fail
  go_cut [0] (fun v w' => ∃ x : Int, v = .int .u64 x ∧ Aside0 (x = oc2 x1) ∧ Drawn0 w w')
  case first =>
    go_wp2_with fail
    go_meet
    exact ⟨_, rfl, ⟨rfl⟩, by repeat (first | exact Drawn0.refl _ | apply Drawn0.step)⟩
  case rest =>
  obtain ⟨x2, rfl, H2, ⟨m2, rfl⟩⟩ := hcut
  go_upto_region 3 with fail
  go_cut [0] (fun v w' => ∃ x : Int, v = .int .u64 x ∧ Aside0 (x = oc3 x2) ∧ Drawn0 w w')
  case first =>
    go_wp2_with fail
    go_meet
    exact ⟨_, rfl, ⟨rfl⟩, by repeat (first | exact Drawn0.refl _ | apply Drawn0.step)⟩
  case rest =>
  obtain ⟨x3, rfl, H3, ⟨m3, rfl⟩⟩ := hcut
  go_upto_region 4 with fail
  go_cut [0] (fun v w' => ∃ x : Int, v = .int .u64 x ∧ Aside0 (x = oc4 x3) ∧ Drawn0 w w')
  case first =>
    go_wp2_with fail
    go_meet
    exact ⟨_, rfl, ⟨rfl⟩, by repeat (first | exact Drawn0.refl _ | apply Drawn0.step)⟩
  case rest =>
  obtain ⟨x4, rfl, H4, ⟨m4, rfl⟩⟩ := hcut
  go_upto_region 5 with fail
  go_cut [0] (fun v w' => ∃ x : Int, v = .int .u64 x ∧ Aside0 (x = oc5 x4) ∧ Drawn0 w w')
  case first =>
    go_wp2_with fail
    go_meet
    exact ⟨_, rfl, ⟨rfl⟩, by repeat (first | exact Drawn0.refl _ | apply Drawn0.step)⟩
  case rest =>
  obtain ⟨x5, rfl, H5, ⟨m5, rfl⟩⟩ := hcut
  go_upto_region 6 with fail
  go_cut [0] (fun v w' => ∃ x : Int, v = .int .u64 x ∧ Aside0 (x = oc6 x5) ∧ Drawn0 w w')
  case first =>
    go_wp2_with fail
    go_meet
    exact ⟨_, rfl, ⟨rfl⟩, by repeat (first | exact Drawn0.refl _ | apply Drawn0.step)⟩
  case rest =>
  obtain ⟨x6, rfl, H6, ⟨m6, rfl⟩⟩ := hcut
  go_wp2
  go_ret
  exact ⟨by rw [← HR.out, ← H1.out, ← H2.out, ← H3.out, ← H4.out, ← H5.out, ← H6.out]; rfl, by repeat (first | exact Drawn0.refl _ | apply Drawn0.step)⟩

end Go.Proofs.Yteehgmbbmlfggaa.P
