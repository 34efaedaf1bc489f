-- Laid by this session's own program (wip/pp.py) over the seat's translation; Lean checks it.
import Derived.Test.YthkhgckagifmjaaGx0
import Derived.Shelf.Abstract
namespace Go.Proofs.Ythkhgckagifmjaa.P
open Go.RowKit Go.Proofs.YthkhgckagifmjaaW.PrintWords Go.Proofs.YthkhgckagifmjaaW.PrintLast Go.Proofs.YthkhgckagifmjaaW.PrintMore
attribute [local go_sem] max2_int min2_int max_two min_two max_three min_three max_four min_four   -- for this text's walks alone
set_option linter.unusedVariables false
set_option linter.unusedSimpArgs false

/-! ### slices_ContainsFunc_int_int: function 26 -/
/-- What a function value of one whole number tells, as a test: in every world in which all that lay in w lies unturned. -/
def PredNum (g : Nat) (lb : Array Value) (p : Int → Bool) (w : World) : Prop :=
  ∀ (W : World) (x : Int), Below w.heap.size w W → Calls Try.prog g (#[.int .i64 x] ++ lb) W fun e w' => e = .returned (.bool (p x)) ∧ Drawn0 W w'
theorem rd_mem (l : List Int) (i : Int) (h0 : 0 ≤ i) (h1 : i < (l.length : Int)) : rd l i ∈ l := by
  unfold rd
  have h : i.toNat < l.length := by omega
  rw [List.getD_eq_getElem?_getD, List.getElem?_eq_getElem h]
  exact List.getElem_mem h
theorem any_rd (p : Int → Bool) (l : List Int) (i : Int) (h0 : 0 ≤ i) (h1 : i < (l.length : Int)) (h : p (rd l i) = true) : l.any p = true :=
  List.any_eq_true.mpr ⟨_, rd_mem l i h0 h1, h⟩
theorem any_none (p : Int → Bool) (l : List Int) (h : ∀ j : Int, 0 ≤ j → j < (l.length : Int) → p (rd l j) = false) : l.any p = false := by
  rw [List.any_eq_false]
  intro x hx
  obtain ⟨n, hn, rfl⟩ := List.getElem_of_mem hx
  have := h (n : Int) (by omega) (by omega)
  unfold rd at this
  rw [List.getD_eq_getElem?_getD, show ((n : Int)).toNat = n from by omega, List.getElem?_eq_getElem hn] at this
  simpa using this
set_option maxHeartbeats 8000000 in
set_option maxRecDepth 100000 in
theorem slices_IndexFunc_int.calls (g : Nat) (lb : Array Value) (p : Int → Bool) (A0 : Option Addr) (c0 : Nat) (l0 : List Int) (w : World) (eg : ∀ args w, (callFunc g args).run Try.prog w = .ok (.enter g args) w) (hp : PredNum g lb p w) (hr0 : Kd.C (Kd.int .i64) w A0 l0.length l0) (hm : l0.length ≤ 9223372036854775807) :
    Calls Try.prog 30 #[.slice A0 l0.length c0, .func (.func g) #[] lb] w fun e w' => (∃ r : Int, e = .returned (.int .i64 r) ∧ decide (r ≥ 0) = l0.any p) ∧ Drawn0 w w' := by
  have HP := Aside0.mk hp
  clear hp
  have HR0 := Aside0.mk hr0
  clear hr0
  have HM := Aside0.mk hm
  clear hm
  go_enter Try.func30, Try.ntmps30
  go_wp2
  go_loopg [5, 8] l0.length (fun kq _ v8 w' => ∃ i : Int, v8 = .int .i64 i ∧ 0 ≤ i ∧ i ≤ (l0.length : Int) ∧ Aside0 (l0.length - i.toNat ≤ kq) ∧ Aside0 (∀ j : Int, 0 ≤ j → j < i → p (rd l0 j) = false) ∧ Drawn0 w w')
  case atStart => exact ⟨0, rfl, by omega, by omega, ⟨by omega⟩, ⟨fun j h0 h1 => by omega⟩, by repeat (first | exact Drawn0.refl _ | apply Drawn0.step)⟩
  case round =>
    obtain ⟨i, rfl, h0, hn, HK1, HA, ⟨m1, rfl⟩⟩ := hrel
    by_cases hlt : i < (l0.length : Int)
    · obtain ⟨ad, e1, hx⟩ := Kd.at_int HR0.out i h0 hlt
      cases e1
      cases hq : p (rd l0 i) with
      | true =>
        have hcall := HP.out (w.drewN m1) (rd l0 i) (pw_below_drewN (Below.refl _ _) m1)
        rw [hq] at hcall
        have HC := Aside0.mk hcall
        clear hcall
        have HQ := Aside0.mk hq
        clear hq
        go_wp2_with (go_at_fn g; refine HC.out.mono ?_; rintro e w' ⟨rfl, ⟨nd, rfl⟩⟩)
        go_ret
        exact ⟨⟨i, rfl, by rw [any_rd p l0 i h0 hlt HQ.out]; simpa using h0⟩, by repeat (first | exact Drawn0.refl _ | apply Drawn0.step)⟩
      | false =>
        have hcall := HP.out (w.drewN m1) (rd l0 i) (pw_below_drewN (Below.refl _ _) m1)
        rw [hq] at hcall
        have HC := Aside0.mk hcall
        clear hcall
        have HQ := Aside0.mk hq
        clear hq
        have hw64 : wrap64 (i + 1) = i + 1 := by have := HM.out; unfold wrap64; omega
        have HW := Aside0.mk hw64
        clear hw64
        go_wp2_with (go_at_fn g; refine HC.out.mono ?_; rintro e w' ⟨rfl, ⟨nd, rfl⟩⟩)
        go_roundg (l0.length - (i + 1).toNat)
        case measure => have := HK1.out; omega
        case rel => exact ⟨i + 1, by (first | rfl | (rw [HW.out])), by omega, by omega, ⟨by omega⟩, ⟨fun j hj0 hj1 => by
          by_cases e : j = i
          · subst e; exact HQ.out
          · exact HA.out j hj0 (by omega)⟩, by repeat (first | exact Drawn0.refl _ | apply Drawn0.step)⟩
    · have he : i = (l0.length : Int) := by omega
      have HE := Aside0.mk he
      clear he
      go_wp2
      go_ret
      exact ⟨⟨-1, rfl, by rw [any_none p l0 (fun j hj0 hj1 => HA.out j hj0 (by rw [HE.out]; exact hj1))]; rfl⟩, by repeat (first | exact Drawn0.refl _ | apply Drawn0.step)⟩
set_option maxHeartbeats 8000000 in
theorem slices_ContainsFunc_int.calls (g : Nat) (lb : Array Value) (p : Int → Bool) (A0 : Option Addr) (c0 : Nat) (l0 : List Int) (w : World) (eg : ∀ args w, (callFunc g args).run Try.prog w = .ok (.enter g args) w) (hp : PredNum g lb p w) (hr0 : Kd.C (Kd.int .i64) w A0 l0.length l0) (hm : l0.length ≤ 9223372036854775807) :
    Calls Try.prog 26 #[.slice A0 l0.length c0, .func (.func g) #[] lb] w fun e w' => e = .returned (.bool (l0.any p)) ∧ Drawn0 w w' := by
  have hcall := slices_IndexFunc_int.calls g lb p A0 c0 l0 w eg hp hr0 hm
  clear hp hr0 hm
  generalize l0.any p = b at hcall ⊢
  have HC := Aside0.mk hcall
  clear hcall
  go_enter Try.func26, Try.ntmps26
  go_wp2_with (go_at_call 30; refine HC.out.mono ?_; rintro e w' ⟨⟨r, rfl, hr⟩, ⟨nd, rfl⟩⟩)
  go_ret
  exact ⟨rfl, by repeat (first | exact Drawn0.refl _ | apply Drawn0.step)⟩
theorem all_any_not (p : Int → Bool) (l : List Int) : (!(l.any fun n => !(p n))) = l.all p := by
  induction l with
  | nil => rfl
  | cons a l ih => simp only [List.any_cons, List.all_cons, Bool.not_or, Bool.not_not, ih]

end Go.Proofs.Ythkhgckagifmjaa.P
