-- Laid by this session's own program (wip/pp.py) over the seat's translation; Lean checks it.
import Derived.Test.YthkhgckagifmjaaGx0
namespace Go.Proofs.Ythkhgckagifmjaa.P
open Go.RowKit Go.Proofs.YthkhgckagifmjaaW.PrintWords Go.Proofs.YthkhgckagifmjaaW.PrintLast Go.Proofs.YthkhgckagifmjaaW.PrintMore
attribute [local go_sem] max2_int min2_int max_two min_two max_three min_three max_four min_four   -- for this text's walks alone
set_option linter.unusedVariables false
set_option linter.unusedSimpArgs false

/-! ### impl_within: function 31 -/
def impl_within.f (a0 : Int) (a1 : Int) (a2 : Int) : Option (Bool) := if a0 ≥ a1 then (some (decide (a0 ≤ a2))) else (some false)
set_option maxHeartbeats 8000000 in
set_option maxRecDepth 100000 in
theorem impl_within.calls (a0 : Int) (a1 : Int) (a2 : Int) (r : Bool) (w : World) (h : impl_within.f a0 a1 a2 = some r) :
    Calls Try.prog 31 #[.int .i64 a0, .int .i64 a1, .int .i64 a2] w fun e w' => e = .returned (.bool r) ∧ Drawn0 w w' := by
  have H : (if a0 ≥ a1 then (some (decide (a0 ≤ a2))) else (some false)) = some r := h
  clear h
  by_cases c4 : a0 ≥ a1
  · rw [if_pos c4] at H
    have c4b0 : decide (a1 ≤ a0) = true := decide_eq_true c4
    clear c4
    obtain rfl := Option.some.inj H
    go_enter Try.func31, Try.ntmps31
    go_wp2
    go_ret
    exact ⟨by first | rfl | (simp; done) | (simp [*]; done), by repeat (first | exact Drawn0.refl _ | apply Drawn0.step)⟩
  · rw [if_neg c4] at H
    have c4b0 : decide (a1 ≤ a0) = false := decide_eq_false c4
    clear c4
    obtain rfl := Option.some.inj H
    go_enter Try.func31, Try.ntmps31
    go_wp2
    go_ret
    exact ⟨by first | rfl | (simp; done) | (simp [*]; done), by repeat (first | exact Drawn0.refl _ | apply Drawn0.step)⟩

def isLaneB (n : Int) : Bool := decide (0 ≤ n) && decide (n ≤ 7)
/-- What a function value of one whole number tells: called at i, in every world in which all that lay in w lies unturned. -/
def NumAt (g : Nat) (lb : Array Value) (fv : Int → Int) (w : World) : Prop :=
  ∀ (W : World) (i : Int), Below w.heap.size w W → 0 ≤ i → i < 8 → Calls Try.prog g (#[.int .i64 i] ++ lb) W fun e w' => e = .returned (.int .i64 (fv i)) ∧ Drawn0 W w'
def lanes8 (fv : Int → Int) : List Int := [fv 0, fv 1, fv 2, fv 3, fv 4, fv 5, fv 6, fv 7]
def upTo8 (fv : Int → Int) (k : Nat) : List Int := (List.range k).map fun (i : Nat) => fv (i : Int)
theorem upTo8_len (fv : Int → Int) (k : Nat) : (upTo8 fv k).length = k := by simp [upTo8]
theorem upTo8_snoc (fv : Int → Int) (k : Nat) : upTo8 fv k ++ [fv (k : Int)] = upTo8 fv (k + 1) := by simp [upTo8, List.range_succ]
theorem upTo8_all (fv : Int → Int) : upTo8 fv 8 = lanes8 fv := rfl
def part8 (fv : Int → Int) (k : Nat) : List Int := upTo8 fv k ++ List.replicate (8 - k) 0
theorem part8_len (fv : Int → Int) (k : Nat) (h : k ≤ 8) : (part8 fv k).length = 8 := by simp [part8, upTo8_len]; omega
theorem part8_set (fv : Int → Int) (k : Nat) (h : k < 8) : (part8 fv k).set k (fv (k : Int)) = part8 fv (k + 1) := by
  unfold part8
  rw [List.set_append_right _ _ (by rw [upTo8_len]; exact Nat.le_refl _), upTo8_len, Nat.sub_self, ← upTo8_snoc, show 8 - k = (8 - (k + 1)) + 1 by omega, List.replicate_succ, List.set_cons_zero, List.append_assoc]
  rfl

end Go.Proofs.Ythkhgckagifmjaa.P
