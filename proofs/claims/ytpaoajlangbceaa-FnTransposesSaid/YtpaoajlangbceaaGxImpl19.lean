-- Laid by this session's own program (wip/pp.py) over the seat's translation; Lean checks it.
import Derived.Test.YtpaoajlangbceaaGx0
import Derived.Test.YtpaoajlangbceaaGxImpl02
import Derived.Test.YtpaoajlangbceaaGxImpl03
import Derived.Shelf.Abstract
namespace Go.Proofs.Ytpaoajlangbceaa.P
open Go.RowKit Go.Proofs.YtpaoajlangbceaaW.PrintWords Go.Proofs.YtpaoajlangbceaaW.PrintLast Go.Proofs.YtpaoajlangbceaaW.PrintMore
attribute [local go_sem] max2_int min2_int max_two min_two max_three min_three max_four min_four   -- for this text's walks alone
set_option linter.unusedVariables false
set_option linter.unusedSimpArgs false

/-! ### impl_ValuesOk: function 55 -/
def impl_ValuesOk.f (l0 : List Int) : Option (Bool) := if (l0.length : Int) = 8 then ((impl_AreWords.f l0).bind fun t294 => (some t294)) else (some false)
set_option maxHeartbeats 8000000 in
set_option maxRecDepth 100000 in
theorem impl_ValuesOk.calls (A0 : Option Addr) (c0 : Nat) (l0 : List Int) (r : Bool) (w : World) (hr0 : Kd.C (Kd.int .i64) w A0 l0.length l0) (hc0 : l0.length ≤ c0) (h : impl_ValuesOk.f l0 = some r) :
    Calls Try.prog 55 #[.slice A0 l0.length c0] w fun e w' => e = .returned (.bool r) ∧ Drawn0 w w' := by
  have HR0 := Aside0.mk hr0
  have HC0 := Aside0.mk hc0
  clear hr0 hc0
  have H : (if (l0.length : Int) = 8 then ((impl_AreWords.f l0).bind fun t294 => (some t294)) else (some false)) = some r := h
  clear h
  by_cases c2 : (l0.length : Int) = 8
  · rw [if_pos c2] at H
    have c2b0 : ((l0.length : Int) == 8) = true := beq_iff_eq.mpr c2
    have c2b1 : ((l0.length : Int) != 8) = false := bne_eq_false_iff_eq.mpr c2
    clear c2
    replace H := Option.bind_eq_some_iff.mp H
    obtain ⟨t294, A30, H⟩ := H
    replace H : (some t294) = some r := H
    have A3 := Aside0.mk A30
    clear A30
    obtain rfl := Option.some.inj H
    go_enter Try.func55, Try.ntmps55
    go_wp2_with (first | (go_at_call 81; (with_reducible refine (impl_AreWords.calls _ _ l0 t294 _ ?side1 ?side2 A3.out).mono ?_); (case side1 => repeat (first | exact HR0.out | (with_reducible refine Kd.C_alloc ?_ _) | (with_reducible refine Kd.C_drewN ?_ _) | (with_reducible refine Kd.C_drew ?_))); (case side2 => exact HC0.out); rintro e w' ⟨rfl, ⟨nd, rfl⟩⟩))
    go_ret
    exact ⟨by first | rfl | (simp; done) | (simp [*]; done), by repeat (first | exact Drawn0.refl _ | apply Drawn0.step)⟩
  · rw [if_neg c2] at H
    have c2b0 : ((l0.length : Int) == 8) = false := beq_eq_false_iff_ne.mpr c2
    have c2b1 : ((l0.length : Int) != 8) = true := bne_iff_ne.mpr c2
    obtain rfl := Option.some.inj H
    go_enter Try.func55, Try.ntmps55
    go_wp2
    go_ret
    exact ⟨by first | rfl | (simp; done) | (simp [*]; done), by repeat (first | exact Drawn0.refl _ | apply Drawn0.step)⟩

/-! ### impl_lanesWhere: function 72 -/
/-- What a function value of one lane tells, as a test. -/
def LaneTest (g : Nat) (lb : Array Value) (p : Int → Bool) (w : World) : Prop :=
  ∀ (W : World) (x : Int), Below w.heap.size w W → 0 ≤ x → x < 8 → Calls Try.prog g (#[.int .i64 x] ++ lb) W fun e w' => e = .returned (.bool (p x)) ∧ Drawn0 W w'
/-- The lanes of a list, as a mask: those that a test lets. -/
def laneBits (p : Int → Bool) (t : List Int) (acc : Int) : Int := t.foldl (fun x i => if p i = true then Go.bits .or .i64 x (shl .i64 1 i) else x) acc
theorem laneBits_at (p : Int → Bool) (t : List Int) (i : Int) (h0 : 0 ≤ i) (h1 : i < (t.length : Int)) (acc : Int) : laneBits p (t.drop i.toNat) acc = laneBits p (t.drop (i + 1).toNat) (if p (rd t i) = true then Go.bits .or .i64 acc (shl .i64 1 (rd t i)) else acc) := by
  have h : i.toNat < t.length := by omega
  rw [List.drop_eq_getElem_cons h, show (i + 1).toNat = i.toNat + 1 from by omega]
  have e : rd t i = t[i.toNat] := by
    unfold rd
    rw [List.getD_eq_getElem?_getD, List.getElem?_eq_getElem h]
    rfl
  rw [e]
  rfl
set_option maxHeartbeats 8000000 in
set_option maxRecDepth 100000 in
theorem impl_lanesWhere.calls (g : Nat) (lb : Array Value) (p : Int → Bool) (k0 : Nat) (a0 : Int) (t : List Int) (w : World) (eg : ∀ args w, (callFunc g args).run Try.prog w = .ok (.enter g args) w) (hp : LaneTest g lb p w) (ht : impl_LanesOf.f k0 a0 = some t) (hm : ∀ x ∈ t, 0 ≤ x ∧ x < 8) :
    Calls Try.prog 72 #[.int .i64 a0, .func (.func g) #[] lb] w fun e w' => e = .returned (.int .i64 (laneBits p t 0)) ∧ Below w.heap.size w w' := by
  have HP := Aside0.mk hp
  have HT := Aside0.mk ht
  have HM := Aside0.mk hm
  clear hp ht hm
  go_enter Try.func72, Try.ntmps72
  go_wp2_with (go_at_call 76; refine (impl_LanesOf.calls k0 a0 t _ HT.out).mono ?_; rintro e wb ⟨v0_, rfl, ho, hb⟩; obtain ⟨As, cs, es, hle, hcr⟩ := Kd.R_reads ho; subst es; have HCR := Aside0.mk hcr; have HB := Aside0.mk hb; clear ho hb hle hcr)
  go_loopg [5, 11] t.length (fun kq v5 v11 w' => ∃ (acc i : Int), v5 = .int .i64 acc ∧ v11 = .int .i64 i ∧ 0 ≤ i ∧ i ≤ (t.length : Int) ∧ Aside0 (t.length - i.toNat ≤ kq) ∧ Aside0 (laneBits p (t.drop i.toNat) acc = laneBits p t 0) ∧ Drawn0 wb w')
  case atStart => exact ⟨0, 0, rfl, rfl, by omega, by omega, ⟨by omega⟩, ⟨by simp⟩, Drawn0.refl _⟩
  case round =>
    obtain ⟨acc, i, rfl, rfl, h0, hn, HK1, HA, ⟨m1, rfl⟩⟩ := hrel
    by_cases hlt : i < (t.length : Int)
    · obtain ⟨ad, e1, hx⟩ := Kd.at_int HCR.out i h0 hlt
      cases e1
      have hmem : rd t i ∈ t := by
        unfold rd
        rw [List.getD_eq_getElem?_getD, List.getElem?_eq_getElem (show i.toNat < t.length by omega)]
        exact List.getElem_mem _
      obtain ⟨x0, x8⟩ := HM.out _ hmem
      have hstep := laneBits_at p t i h0 hlt acc
      have hw64 : wrap64 (i + 1) = i + 1 := by have := HCR.out.2.1; unfold wrap64; omega
      have HW := Aside0.mk hw64
      clear hw64 hmem
      generalize rd t i = x at hx x0 x8 hstep
      have HST := Aside0.mk hstep
      clear hstep
      have hcall := HP.out (wb.drewN m1) x (pw_below_drewN HB.out m1) x0 x8
      cases hq : p x with
      | true =>
        rw [hq] at hcall
        have HC := Aside0.mk hcall
        have HQ := Aside0.mk hq
        clear hq hcall
        obtain ⟨j, hj⟩ : ∃ j_ : Int, (shl .i64 1 x) = j_ := ⟨_, rfl⟩
        have hjz : (IntKind.i64.wrap (1 * 2 ^ x.toNat)) = j := shl_small hj (by show x ≤ 64; omega)
        have hjv : (IntKind.i64.wrap (2 ^ x.toNat)) = j := by have h_ := hjz; rw [Int.one_mul] at h_; exact h_
        have hjx : (wrap64 (1 * 2 ^ x.toNat)) = j := (i64_w _).symm.trans hjz
        have hjy : (wrap64 (2 ^ x.toNat)) = j := (i64_w _).symm.trans hjv
        have HJ := Aside0.mk hj
        clear hj
        go_wp2_with (go_at_fn g; refine HC.out.mono ?_; rintro e w' ⟨rfl, ⟨nd, rfl⟩⟩)
        go_roundg (t.length - (i + 1).toNat)
        case measure => have := HK1.out; omega
        case rel => exact ⟨_, i + 1, rfl, by (first | rfl | (rw [HW.out])), by omega, by omega, ⟨by omega⟩, ⟨by rw [← HA.out, HST.out, if_pos HQ.out, HJ.out]⟩, by repeat (first | exact Drawn0.refl _ | apply Drawn0.step)⟩
      | false =>
        rw [hq] at hcall
        have HC := Aside0.mk hcall
        have HQ := Aside0.mk hq
        clear hq hcall
        go_wp2_with (go_at_fn g; refine HC.out.mono ?_; rintro e w' ⟨rfl, ⟨nd, rfl⟩⟩)
        go_roundg (t.length - (i + 1).toNat)
        case measure => have := HK1.out; omega
        case rel => exact ⟨acc, i + 1, rfl, by (first | rfl | (rw [HW.out])), by omega, by omega, ⟨by omega⟩, ⟨by rw [← HA.out, HST.out, if_neg (by rw [HQ.out]; simp)]⟩, by repeat (first | exact Drawn0.refl _ | apply Drawn0.step)⟩
    · have he : i = (t.length : Int) := by omega
      have HE := Aside0.mk he
      clear he
      go_wp2
      go_ret
      exact ⟨by rw [← HA.out, HE.out]; simp [laneBits], by repeat (first | (with_reducible first | exact HB.out | apply below_alloc | apply pw_below_drewN | apply below_drew1) | exact HB.out)⟩

end Go.Proofs.Ytpaoajlangbceaa.P
