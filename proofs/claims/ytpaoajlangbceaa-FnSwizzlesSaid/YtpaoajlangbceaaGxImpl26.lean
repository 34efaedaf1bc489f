-- Laid by this session's own program (wip/pp.py) over the seat's translation; Lean checks it.
import Derived.Test.YtpaoajlangbceaaGx0
import Derived.Test.YtpaoajlangbceaaGxImpl01
import Derived.Test.YtpaoajlangbceaaGxImpl03
import Derived.Test.YtpaoajlangbceaaGxImpl25
import Derived.Shelf.Abstract
namespace Go.Proofs.Ytpaoajlangbceaa.P
open Go.RowKit Go.Proofs.YtpaoajlangbceaaW.PrintWords Go.Proofs.YtpaoajlangbceaaW.PrintLast Go.Proofs.YtpaoajlangbceaaW.PrintMore
attribute [local go_sem] max2_int min2_int max_two min_two max_three min_three max_four min_four   -- for this text's walks alone
set_option linter.unusedVariables false
set_option linter.unusedSimpArgs false

/-! ### impl_eachLane: function 56 -/
set_option maxHeartbeats 8000000 in
set_option maxRecDepth 100000 in
theorem impl_eachLane.yes (g : Nat) (lb : Array Value) (fv : Int → Int) (w : World) (eg : ∀ args w, (callFunc g args).run Try.prog w = .ok (.enter g args) w) (hp : NumAt g lb fv w) :
    Calls Try.prog 56 #[.bool true, .func (.func g) #[] lb] w fun e w' => ∃ v0_ : Value, e = .returned (v0_) ∧ Kd.R (Kd.int .i64) 3 w' w.heap.size (fun _ => True) v0_ (lanes8 fv) ∧ Below w.heap.size w w' := by
  have HP := Aside0.mk hp
  clear hp
  have HB := Aside0.mk (Below.refl w.heap.size w)
  go_enter Try.func56, Try.ntmps56
  go_wp2_with (first | ((with_reducible refine gate_dst (N := 9) rfl ?_); refine Kd.R_lit (Kd.int .i64) _ 3 ?hg (N := 9) ?hd (xs := ([] : List Int)) (inner := []) (ok := fun _ => True) (okp := fun _ => True) ?hr ?hp (fun _ hk => hk) trivial (Below.refl _ _) (Nat.le_refl _) (by simp) ?_; (case hd => rfl); (case hg => rfl); (case hr => first | (go_simp; done) | (go_simp; rfl)); (case hp => exact (Reps.none _ _)); intro v123 w2 ho3 hb hg_ hnew_; clear hg_ hnew_; have n0_ := Aside0.mk (Kd.R_lower ho3 (below_size HB.out)); have n1_ := Aside0.mk (below_step HB.out hb); clear HB; have HO124 := n0_; have HB := n1_; clear n0_ n1_; clear hb ho3))
  go_loopg [5, 10] 8 (fun kq v5 v10 w' => ∃ k : Nat, k ≤ 8 ∧ v10 = .int .i64 (k : Int) ∧ Aside0 (8 - k ≤ kq) ∧ Aside0 (Kd.R (Kd.int .i64) 3 w' w.heap.size (fun _ => True) v5 (upTo8 fv k)) ∧ Aside0 (Below w.heap.size w w'))
  case atStart => exact ⟨0, by omega, by (first | rfl | (simp; done)), ⟨by omega⟩, ⟨by (with_reducible repeat (first | apply Kd.R_alloc | apply Kd.R_drewN | apply Kd.R_drew)); exact HO124.out⟩, ⟨by repeat (first | (with_reducible first | exact HB.out | apply below_alloc | apply pw_below_drewN | apply below_drew1) | exact HB.out)⟩⟩
  case round =>
    obtain ⟨k, hk8, rfl, HK1, HO_5, HB⟩ := hrel
    by_cases hlt : k < 8
    · have hlti : (k : Int) < 8 := by omega
      have hpos : 0 ≤ (k : Int) := by omega
      have hlen : ((upTo8 fv k).length + 1) * 8 ≤ 140737488355328 := by rw [upTo8_len]; omega
      have hle := Aside0.mk hlen
      clear hlen
      go_wp2_with (first | (go_at_fn g; refine (HP.out _ (k : Int) (by repeat (first | (with_reducible first | exact HB.out | apply below_alloc | apply pw_below_drewN | apply below_drew1) | exact HB.out)) hpos hlti).mono ?_; rintro e w' ⟨rfl, ⟨nd, rfl⟩⟩) | ((with_reducible refine gate_builtin (b := .append) (xs := #[.tmp 13, .tmp 17]) rfl ?_); at_builtin; refine Kd.R_append (Kd.int .i64) (w0 := w) w.heap.size rfl (.tmp 13) (.tmp 17) 22 3 (.int .i64 0) 8 rfl Try.underlying22 info3 rfl (by decide) (by omega) u5 (upTo8 fv k) (fv (k : Int)) [.int .i64 (fv (k : Int))] (fun _ => True) (fun _ => False) rfl rfl ?aP (fun _ hk => hk.elim) ?aF ?aO ?aB ?aS ?aL ?_; (case aP => exact rfl); (case aB => exact (by repeat (first | (with_reducible first | exact HB.out | apply below_alloc | apply pw_below_drewN | apply below_drew1) | exact HB.out))); (case aF => exact (fun _ _ => trivial)); (case aO => exact (by (with_reducible repeat (first | apply Kd.R_alloc | apply Kd.R_drewN | apply Kd.R_drew)); exact HO_5.out)); (case aS => exact (below_size (by repeat (first | (with_reducible first | exact HB.out | apply below_alloc | apply pw_below_drewN | apply below_drew1) | exact HB.out)))); (case aL => exact hle.out); intro v127 w8 ho hb hg hat; have n0_ := Aside0.mk (hb); have n1_ := Aside0.mk (ho); clear HB; clear HO_5; have HB := n0_; have HO128 := n1_; clear n0_ n1_; clear ho hb hg hat))
      go_roundg (8 - (k + 1))
      case measure => have := HK1.out; omega
      case rel => exact ⟨k + 1, by omega, by go_num, ⟨by omega⟩, ⟨by rw [← upTo8_snoc]; (with_reducible repeat (first | apply Kd.R_alloc | apply Kd.R_drewN | apply Kd.R_drew)); exact HO128.out⟩, ⟨by repeat (first | (with_reducible first | exact HB.out | apply below_alloc | apply pw_below_drewN | apply below_drew1) | exact HB.out)⟩⟩
    · have hk : k = 8 := by omega
      have hlti : ¬ (k : Int) < 8 := by omega
      have HK8 := Aside0.mk hk
      clear hk hlt
      go_wp2
      go_ret
      exact ⟨_, rfl, by rw [← upTo8_all, ← HK8.out]; (with_reducible repeat (first | apply Kd.R_alloc | apply Kd.R_drewN | apply Kd.R_drew)); exact HO_5.out, by repeat (first | (with_reducible first | exact HB.out | apply below_alloc | apply pw_below_drewN | apply below_drew1) | exact HB.out)⟩
theorem impl_eachLane.no (fv : Value) (w : World) :
    Calls Try.prog 56 #[.bool false, fv] w fun e w' => e = .returned (.slice none 0 0) ∧ w = w' := by
  go_enter Try.func56, Try.ntmps56
  go_wp2
  go_ret
  exact ⟨rfl, rfl⟩
/-- The same, told from an elder world on. -/
theorem impl_eachLane.yes' (g : Nat) (lb : Array Value) (fv : Int → Int) (w0 w : World) (eg : ∀ args w, (callFunc g args).run Try.prog w = .ok (.enter g args) w) (hp : NumAt g lb fv w) (hB : Below w0.heap.size w0 w) :
    Calls Try.prog 56 #[.bool true, .func (.func g) #[] lb] w fun e w' => ∃ v0_ : Value, e = .returned (v0_) ∧ Kd.R (Kd.int .i64) 3 w' w0.heap.size (fun _ => True) v0_ (lanes8 fv) ∧ Below w0.heap.size w0 w' :=
  (impl_eachLane.yes g lb fv w eg hp).mono fun _ _ ⟨v, he, hr, hb⟩ => ⟨v, he, Kd.R_lower hr hB.size, below_step hB hb⟩

/-! ### impl_isWidth: function 61 -/
def impl_isWidth.f (a0 : Int) : Option (Bool) := (impl_within.f a0 8 64).bind fun t211 => (some t211)
set_option maxHeartbeats 8000000 in
set_option maxRecDepth 100000 in
theorem impl_isWidth.calls (a0 : Int) (r : Bool) (w : World) (h : impl_isWidth.f a0 = some r) :
    Calls Try.prog 61 #[.int .i64 a0] w fun e w' => e = .returned (.bool r) ∧ Drawn0 w w' := by
  have H : ((impl_within.f a0 8 64).bind fun t211 => (some t211)) = some r := h
  clear h
  replace H := Option.bind_eq_some_iff.mp H
  obtain ⟨t211, A20, H⟩ := H
  replace H : (some t211) = some r := H
  have A2 := Aside0.mk A20
  clear A20
  obtain rfl := Option.some.inj H
  go_enter Try.func61, Try.ntmps61
  go_wp2_with (first | ((with_reducible refine gate_callee (f := 84) rfl ?_); refine goesL_ (some 4) rfl rfl Try.func84 (by kernel_rfl) rfl #[.int .i64 a0, .int .i64 8, .int .i64 64] rfl (by (try simp only [List.map_toArray, List.map_cons, List.map_nil]); first | done | rfl | (simp only [List.length_drop, List.length_take]; rfl)) ?_; (with_reducible refine (impl_within.calls a0 8 64 t211 _ A2.out).mono ?_); rintro e w' ⟨rfl, ⟨nd, rfl⟩⟩; refine ⟨_, rfl, ?_⟩))
  go_ret
  exact ⟨by first | rfl | (simp; done) | (simp [*]; done), by repeat (first | exact Drawn0.refl _ | apply Drawn0.step)⟩

def isWidthB (n : Int) : Bool := decide (8 ≤ n) && decide (n ≤ 64)
theorem impl_isWidth.is (n : Int) : impl_isWidth.f n = some (isWidthB n) := by
  unfold impl_isWidth.f impl_within.f isWidthB
  by_cases h : n ≥ 8
  · simp [h]
  · have h' : ¬ 8 ≤ n := h
    simp [h']

/-! ### impl_TileColumn: function 33 -/
theorem impl_TileColumn.num (a0 a1 : Int) (B0 B1 : Nat) (w : World) (hB0 : B0 < w.heap.size) (hB1 : B1 < w.heap.size) (hc0 : w.cell? ⟨B0, 0, none⟩ = some (.int .i64 a0)) (hc1 : w.cell? ⟨B1, 0, none⟩ = some (.int .i64 a1)) :
    NumAt 63 #[.pointer (some ⟨B0, 0, none⟩), .pointer (some ⟨B1, 0, none⟩)] (fun i => wrap64 (wrap64 (i * a0) + a1)) w := fun W i hb _ _ => by
  have k0 : W.cell? ⟨B0, 0, none⟩ = some (.int .i64 a0) := (hb.cell (p := ⟨B0, 0, none⟩) hB0).trans hc0
  have k1 : W.cell? ⟨B1, 0, none⟩ = some (.int .i64 a1) := (hb.cell (p := ⟨B1, 0, none⟩) hB1).trans hc1
  clear hc0 hc1 hB0 hB1 hb
  show Calls Try.prog 63 #[.int .i64 i, .pointer (some ⟨B0, 0, none⟩), .pointer (some ⟨B1, 0, none⟩)] W _
  go_enter Try.func63, Try.ntmps63
  go_wp2
  go_ret
  exact ⟨rfl, by repeat (first | exact Drawn0.refl _ | apply Drawn0.step)⟩
def impl_TileColumn.f (a0 : Int) (a1 : Int) : Option (List Int) := some (if (isWidthB a0 && isLaneB a1) = true then lanes8 (fun i => wrap64 (wrap64 (i * a0) + a1)) else [])
set_option maxHeartbeats 8000000 in
set_option maxRecDepth 100000 in
theorem impl_TileColumn.calls (a0 : Int) (a1 : Int) (r : List Int) (w : World) (h : impl_TileColumn.f a0 a1 = some r) :
    Calls Try.prog 33 #[.int .i64 a0, .int .i64 a1] w fun e w' => ∃ v0_ : Value, e = .returned (v0_) ∧ Kd.R (Kd.int .i64) 3 w' w.heap.size (fun _ => True) v0_ r ∧ Below w.heap.size w w' := by
  have H := Option.some.inj h
  clear h
  have AW := Aside0.mk (impl_isWidth.is a0)
  have AL := Aside0.mk (impl_isLane.is a1)
  have eg : ∀ args w, (callFunc 63 args).run Try.prog w = .ok (.enter 63 args) w := enters_of Try.func63 (by kernel_rfl) rfl
  cases hw : isWidthB a0 with
  | false =>
    rw [hw] at H AW
    rw [if_neg (by simp)] at H
    clear hw
    subst H
    go_enter Try.func33, Try.ntmps33
    go_wp2_with (first | (go_at_call 61; refine (impl_isWidth.calls a0 false _ AW.out).mono ?_; rintro e w' ⟨rfl, ⟨nd, rfl⟩⟩) | (go_at_call 56; refine (impl_eachLane.no _ _).mono ?_; rintro e w' ⟨rfl, rfl⟩))
    go_ret
    exact ⟨_, rfl, Kd.R_nil _ _ _ _ _, by repeat (first | exact Below.refl _ _ | apply below_alloc | apply pw_below_drewN | apply below_drew1)⟩
  | true =>
    cases hl : isLaneB a1 with
    | false =>
      rw [hl] at H AL
      rw [hw] at H AW
      rw [if_neg (by simp)] at H
      clear hw hl
      subst H
      go_enter Try.func33, Try.ntmps33
      go_wp2_with (first | (go_at_call 61; refine (impl_isWidth.calls a0 true _ AW.out).mono ?_; rintro e w' ⟨rfl, ⟨nd, rfl⟩⟩) | (go_at_call 62; refine (impl_isLane.calls a1 false _ AL.out).mono ?_; rintro e w' ⟨rfl, ⟨nd, rfl⟩⟩) | (go_at_call 56; refine (impl_eachLane.no _ _).mono ?_; rintro e w' ⟨rfl, rfl⟩))
      go_ret
      exact ⟨_, rfl, Kd.R_nil _ _ _ _ _, by repeat (first | exact Below.refl _ _ | apply below_alloc | apply pw_below_drewN | apply below_drew1)⟩
    | true =>
      rw [hl] at H AL
      rw [hw] at H AW
      rw [if_pos (by simp)] at H
      clear hw hl
      have HR := Aside0.mk H
      clear H
      go_enter Try.func33, Try.ntmps33
      go_wp2_with (first | (go_at_call 61; refine (impl_isWidth.calls a0 true _ AW.out).mono ?_; rintro e w' ⟨rfl, ⟨nd, rfl⟩⟩) | (go_at_call 62; refine (impl_isLane.calls a1 true _ AL.out).mono ?_; rintro e w' ⟨rfl, ⟨nd, rfl⟩⟩) | (go_at_call 56; refine (impl_eachLane.yes' 63 _ _ w _ eg (impl_TileColumn.num a0 a1 w.heap.size (w.heap.size + 1) _ ?k0 ?k1 ?k2 ?k3) ?k4).mono ?_; (case k0 => first | (simp; done) | (simp; omega)); (case k1 => first | (simp; done) | (simp; omega)); (case k2 => first | (simp; done) | (simp; omega)); (case k3 => first | (simp; done) | (simp; omega)); (case k4 => (repeat (first | exact Below.refl _ _ | apply below_alloc | apply pw_below_drewN | apply below_drew1))); rintro e w' ⟨v0_, rfl, ho, hb⟩; have HO := Aside0.mk ho; have HB := Aside0.mk hb; clear ho hb))
      go_ret
      exact ⟨_, rfl, by rw [← HR.out]; exact HO.out, HB.out⟩

/-! ### impl_ColumnDegree: function 17 -/
def impl_ColumnDegree.f (k : Nat) (a0 : Int) : Option (Int) := (impl_TileColumn.f a0 0).bind fun t212 => ((impl_ConflictDegree.f k t212 255).bind fun t215 => (some t215))
theorem impl_ColumnDegree.mono : ∀ a0 k, LeO (impl_ColumnDegree.f k a0) (impl_ColumnDegree.f (k + 1) a0) := by
  intro a0 k
  unfold impl_ColumnDegree.f
  repeat' first
      | (with_reducible exact impl_ConflictDegree.mono _ _ _)
      | (with_reducible exact LeO.refl _)
      | (with_reducible exact LeO.none _)
      | (with_reducible refine LeO.ite ?_ ?_)
      | (with_reducible refine LeO.bind ?_ (fun _ => ?_))
      | exact impl_ConflictDegree.mono _ _ _
      | exact LeO.none _
      | refine LeO.ite ?_ ?_
      | refine LeO.bind ?_ (fun _ => ?_)
set_option maxHeartbeats 8000000 in
set_option maxRecDepth 100000 in
theorem impl_ColumnDegree.calls (k : Nat) (a0 : Int) (r : Int) (w : World) (h : impl_ColumnDegree.f k a0 = some r) :
    Calls Try.prog 17 #[.int .i64 a0] w fun e w' => e = .returned (.int .i64 r) ∧ Below w.heap.size w w' := by
  have HB := Aside0.mk (Below.refl w.heap.size w)
  have H : ((impl_TileColumn.f a0 0).bind fun t212 => ((impl_ConflictDegree.f k t212 255).bind fun t215 => (some t215))) = some r := h
  clear h
  replace H := Option.bind_eq_some_iff.mp H
  obtain ⟨t212, A20, H⟩ := H
  replace H : ((impl_ConflictDegree.f k t212 255).bind fun t215 => (some t215)) = some r := H
  have A2 := Aside0.mk A20
  clear A20
  replace H := Option.bind_eq_some_iff.mp H
  obtain ⟨t215, A30, H⟩ := H
  replace H : (some t215) = some r := H
  have A3 := Aside0.mk A30
  clear A30
  obtain rfl := Option.some.inj H
  go_enter Try.func17, Try.ntmps17
  go_wp2_with (first | ((with_reducible refine gate_callee (f := 33) rfl ?_); refine goesL_ (some 4) rfl rfl Try.func33 (by kernel_rfl) rfl #[.int .i64 a0, .int .i64 0] rfl (by (try simp only [List.map_toArray, List.map_cons, List.map_nil]); first | done | rfl | (simp only [List.length_drop, List.length_take]; rfl)) ?_; (with_reducible refine (impl_TileColumn.calls a0 0 t212 _ A2.out).mono ?_); rintro e w4 ⟨v213, rfl, ho0, hb⟩; refine ⟨_, rfl, ?_⟩; have n0_ := Aside0.mk (Kd.R_lower ho0 (below_size (by repeat (first | (with_reducible first | exact HB.out | apply below_alloc | apply pw_below_drewN | apply below_drew1) | exact HB.out)))); have n1_ := Aside0.mk (below_step (by repeat (first | (with_reducible first | exact HB.out | apply below_alloc | apply pw_below_drewN | apply below_drew1) | exact HB.out)) hb); clear HB; have HO214 := n0_; have HB := n1_; clear n0_ n1_; (try clear hb); (try clear hb2); (try clear hk); (try clear hi); (try clear ho0); obtain ⟨Ao5, co5, eo5⟩ := Kd.R_slice HO214.out; subst eo5) | ((with_reducible refine gate_callee (f := 14) rfl ?_); refine goesL_ (some 5) rfl rfl Try.func14 (by kernel_rfl) rfl #[.slice Ao5 t212.length co5, .int .i64 255] rfl (by (try simp only [List.map_toArray, List.map_cons, List.map_nil]); first | done | rfl | (simp only [List.length_drop, List.length_take]; rfl)) ?_; (with_reducible refine (impl_ConflictDegree.calls k _ _ t212 255 t215 _ ?side1 ?side2 A3.out).mono ?_); (case side1 => repeat (first | exact (Kd.R_reads' HO214.out).2.2 | (with_reducible refine Kd.C_alloc ?_ _) | (with_reducible refine Kd.C_drewN ?_ _) | (with_reducible refine Kd.C_drew ?_))); (case side2 => exact (Kd.R_reads' HO214.out).2.1); rintro e w6 ⟨rfl, hb⟩; refine ⟨_, rfl, ?_⟩; have n0_ := Aside0.mk (Kd.R_below (by (with_reducible repeat (first | apply Kd.R_alloc | apply Kd.R_drewN | apply Kd.R_drew)); exact HO214.out) hb); have n1_ := Aside0.mk (below_step (by repeat (first | (with_reducible first | exact HB.out | apply below_alloc | apply pw_below_drewN | apply below_drew1) | exact HB.out)) hb); clear HO214; clear HB; have HO214 := n0_; have HB := n1_; clear n0_ n1_; (try clear hb); (try clear hb2); (try clear hk); (try clear hi)))
  go_ret
  exact ⟨by first | rfl | (simp [errW_none, errW_some] <;> rfl) | (simp [*, errW_none, errW_some] <;> rfl), by repeat (first | (with_reducible first | exact HB.out | apply below_alloc | apply pw_below_drewN | apply below_drew1) | exact HB.out)⟩

-- NOT PRINTED: function 25 (impl_TransposeTile)

/-! ### impl_TileRow: function 34 -/
theorem impl_TileRow.num (a0 a1 : Int) (B0 B1 : Nat) (w : World) (hB0 : B0 < w.heap.size) (hB1 : B1 < w.heap.size) (hc0 : w.cell? ⟨B0, 0, none⟩ = some (.int .i64 a0)) (hc1 : w.cell? ⟨B1, 0, none⟩ = some (.int .i64 a1)) :
    NumAt 64 #[.pointer (some ⟨B1, 0, none⟩), .pointer (some ⟨B0, 0, none⟩)] (fun i => wrap64 (wrap64 (a1 * a0) + i)) w := fun W i hb _ _ => by
  have k0 : W.cell? ⟨B0, 0, none⟩ = some (.int .i64 a0) := (hb.cell (p := ⟨B0, 0, none⟩) hB0).trans hc0
  have k1 : W.cell? ⟨B1, 0, none⟩ = some (.int .i64 a1) := (hb.cell (p := ⟨B1, 0, none⟩) hB1).trans hc1
  clear hc0 hc1 hB0 hB1 hb
  show Calls Try.prog 64 #[.int .i64 i, .pointer (some ⟨B1, 0, none⟩), .pointer (some ⟨B0, 0, none⟩)] W _
  go_enter Try.func64, Try.ntmps64
  go_wp2
  go_ret
  exact ⟨rfl, by repeat (first | exact Drawn0.refl _ | apply Drawn0.step)⟩
def impl_TileRow.f (a0 : Int) (a1 : Int) : Option (List Int) := some (if (isWidthB a0 && isLaneB a1) = true then lanes8 (fun i => wrap64 (wrap64 (a1 * a0) + i)) else [])
set_option maxHeartbeats 8000000 in
set_option maxRecDepth 100000 in
theorem impl_TileRow.calls (a0 : Int) (a1 : Int) (r : List Int) (w : World) (h : impl_TileRow.f a0 a1 = some r) :
    Calls Try.prog 34 #[.int .i64 a0, .int .i64 a1] w fun e w' => ∃ v0_ : Value, e = .returned (v0_) ∧ Kd.R (Kd.int .i64) 3 w' w.heap.size (fun _ => True) v0_ r ∧ Below w.heap.size w w' := by
  have H := Option.some.inj h
  clear h
  have AW := Aside0.mk (impl_isWidth.is a0)
  have AL := Aside0.mk (impl_isLane.is a1)
  have eg : ∀ args w, (callFunc 64 args).run Try.prog w = .ok (.enter 64 args) w := enters_of Try.func64 (by kernel_rfl) rfl
  cases hw : isWidthB a0 with
  | false =>
    rw [hw] at H AW
    rw [if_neg (by simp)] at H
    clear hw
    subst H
    go_enter Try.func34, Try.ntmps34
    go_wp2_with (first | (go_at_call 61; refine (impl_isWidth.calls a0 false _ AW.out).mono ?_; rintro e w' ⟨rfl, ⟨nd, rfl⟩⟩) | (go_at_call 56; refine (impl_eachLane.no _ _).mono ?_; rintro e w' ⟨rfl, rfl⟩))
    go_ret
    exact ⟨_, rfl, Kd.R_nil _ _ _ _ _, by repeat (first | exact Below.refl _ _ | apply below_alloc | apply pw_below_drewN | apply below_drew1)⟩
  | true =>
    cases hl : isLaneB a1 with
    | false =>
      rw [hl] at H AL
      rw [hw] at H AW
      rw [if_neg (by simp)] at H
      clear hw hl
      subst H
      go_enter Try.func34, Try.ntmps34
      go_wp2_with (first | (go_at_call 61; refine (impl_isWidth.calls a0 true _ AW.out).mono ?_; rintro e w' ⟨rfl, ⟨nd, rfl⟩⟩) | (go_at_call 62; refine (impl_isLane.calls a1 false _ AL.out).mono ?_; rintro e w' ⟨rfl, ⟨nd, rfl⟩⟩) | (go_at_call 56; refine (impl_eachLane.no _ _).mono ?_; rintro e w' ⟨rfl, rfl⟩))
      go_ret
      exact ⟨_, rfl, Kd.R_nil _ _ _ _ _, by repeat (first | exact Below.refl _ _ | apply below_alloc | apply pw_below_drewN | apply below_drew1)⟩
    | true =>
      rw [hl] at H AL
      rw [hw] at H AW
      rw [if_pos (by simp)] at H
      clear hw hl
      have HR := Aside0.mk H
      clear H
      go_enter Try.func34, Try.ntmps34
      go_wp2_with (first | (go_at_call 61; refine (impl_isWidth.calls a0 true _ AW.out).mono ?_; rintro e w' ⟨rfl, ⟨nd, rfl⟩⟩) | (go_at_call 62; refine (impl_isLane.calls a1 true _ AL.out).mono ?_; rintro e w' ⟨rfl, ⟨nd, rfl⟩⟩) | (go_at_call 56; refine (impl_eachLane.yes' 64 _ _ w _ eg (impl_TileRow.num a0 a1 w.heap.size (w.heap.size + 1) _ ?k0 ?k1 ?k2 ?k3) ?k4).mono ?_; (case k0 => first | (simp; done) | (simp; omega)); (case k1 => first | (simp; done) | (simp; omega)); (case k2 => first | (simp; done) | (simp; omega)); (case k3 => first | (simp; done) | (simp; omega)); (case k4 => (repeat (first | exact Below.refl _ _ | apply below_alloc | apply pw_below_drewN | apply below_drew1))); rintro e w' ⟨v0_, rfl, ho, hb⟩; have HO := Aside0.mk ho; have HB := Aside0.mk hb; clear ho hb))
      go_ret
      exact ⟨_, rfl, by rw [← HR.out]; exact HO.out, HB.out⟩

/-! ### impl_SwizzledAt: function 35 -/
def impl_SwizzledAt.f (a0 : Int) (a1 : Int) : Option (Int) := (impl_isLane.f a0).bind fun t417 => (if t417 = true then ((impl_isLane.f a1).bind fun t418 => (if t418 = true then (some (wrap64 ((wrap64 (a0 * 8)) + (Go.bits .xor .i64 a1 a0)))) else (some (-1)))) else (some (-1)))
set_option maxHeartbeats 8000000 in
set_option maxRecDepth 100000 in
theorem impl_SwizzledAt.calls (a0 : Int) (a1 : Int) (r : Int) (w : World) (h : impl_SwizzledAt.f a0 a1 = some r) :
    Calls Try.prog 35 #[.int .i64 a0, .int .i64 a1] w fun e w' => e = .returned (.int .i64 r) ∧ Drawn0 w w' := by
  have H : ((impl_isLane.f a0).bind fun t417 => (if t417 = true then ((impl_isLane.f a1).bind fun t418 => (if t418 = true then (some (wrap64 ((wrap64 (a0 * 8)) + (Go.bits .xor .i64 a1 a0)))) else (some (-1)))) else (some (-1)))) = some r := h
  clear h
  replace H := Option.bind_eq_some_iff.mp H
  obtain ⟨t417, A30, H⟩ := H
  replace H : (if t417 = true then ((impl_isLane.f a1).bind fun t418 => (if t418 = true then (some (wrap64 ((wrap64 (a0 * 8)) + (Go.bits .xor .i64 a1 a0)))) else (some (-1)))) else (some (-1))) = some r := H
  have A3 := Aside0.mk A30
  clear A30
  by_cases c4 : t417 = true
  · subst c4
    have H1 : ((impl_isLane.f a1).bind fun t418 => (if t418 = true then (some (wrap64 ((wrap64 (a0 * 8)) + (Go.bits .xor .i64 a1 a0)))) else (some (-1)))) = some r := by rw [if_pos rfl] at H; exact H
    clear H
    have H := H1
    clear H1
    replace H := Option.bind_eq_some_iff.mp H
    obtain ⟨t418, A50, H⟩ := H
    replace H : (if t418 = true then (some (wrap64 ((wrap64 (a0 * 8)) + (Go.bits .xor .i64 a1 a0)))) else (some (-1))) = some r := H
    have A5 := Aside0.mk A50
    clear A50
    by_cases c6 : t418 = true
    · subst c6
      have H1 : (some (wrap64 ((wrap64 (a0 * 8)) + (Go.bits .xor .i64 a1 a0)))) = some r := by rw [if_pos rfl] at H; exact H
      clear H
      have H := H1
      clear H1
      obtain rfl := Option.some.inj H
      go_enter Try.func35, Try.ntmps35
      go_wp2_with (first | ((with_reducible refine gate_callee (f := 62) rfl ?_); refine goesL_ (some 6) rfl rfl Try.func62 (by kernel_rfl) rfl #[.int .i64 a0] rfl (by (try simp only [List.map_toArray, List.map_cons, List.map_nil]); first | done | rfl | (simp only [List.length_drop, List.length_take]; rfl)) ?_; (with_reducible refine (impl_isLane.calls a0 true _ A3.out).mono ?_); rintro e w' ⟨rfl, ⟨nd, rfl⟩⟩; refine ⟨_, rfl, ?_⟩) | (go_at_call 62; (with_reducible refine (impl_isLane.calls a1 true _ A5.out).mono ?_); rintro e w' ⟨rfl, ⟨nd, rfl⟩⟩))
      go_ret
      exact ⟨by first | rfl | (simp; done) | (simp [*]; done), by repeat (first | exact Drawn0.refl _ | apply Drawn0.step)⟩
    · replace c6 := Bool.eq_false_iff.mpr c6
      subst c6
      have H1 : (some (-1)) = some r := by rw [if_neg (show ¬ (false = true) by decide)] at H; exact H
      clear H
      have H := H1
      clear H1
      obtain rfl := Option.some.inj H
      go_enter Try.func35, Try.ntmps35
      go_wp2_with (first | ((with_reducible refine gate_callee (f := 62) rfl ?_); refine goesL_ (some 6) rfl rfl Try.func62 (by kernel_rfl) rfl #[.int .i64 a0] rfl (by (try simp only [List.map_toArray, List.map_cons, List.map_nil]); first | done | rfl | (simp only [List.length_drop, List.length_take]; rfl)) ?_; (with_reducible refine (impl_isLane.calls a0 true _ A3.out).mono ?_); rintro e w' ⟨rfl, ⟨nd, rfl⟩⟩; refine ⟨_, rfl, ?_⟩) | (go_at_call 62; (with_reducible refine (impl_isLane.calls a1 false _ A5.out).mono ?_); rintro e w' ⟨rfl, ⟨nd, rfl⟩⟩))
      go_ret
      exact ⟨by first | rfl | (simp; done) | (simp [*]; done), by repeat (first | exact Drawn0.refl _ | apply Drawn0.step)⟩
  · replace c4 := Bool.eq_false_iff.mpr c4
    subst c4
    have H1 : (some (-1)) = some r := by rw [if_neg (show ¬ (false = true) by decide)] at H; exact H
    clear H
    have H := H1
    clear H1
    obtain rfl := Option.some.inj H
    go_enter Try.func35, Try.ntmps35
    go_wp2_with (first | ((with_reducible refine gate_callee (f := 62) rfl ?_); refine goesL_ (some 6) rfl rfl Try.func62 (by kernel_rfl) rfl #[.int .i64 a0] rfl (by (try simp only [List.map_toArray, List.map_cons, List.map_nil]); first | done | rfl | (simp only [List.length_drop, List.length_take]; rfl)) ?_; (with_reducible refine (impl_isLane.calls a0 false _ A3.out).mono ?_); rintro e w' ⟨rfl, ⟨nd, rfl⟩⟩; refine ⟨_, rfl, ?_⟩))
    go_ret
    exact ⟨by first | rfl | (simp; done) | (simp [*]; done), by repeat (first | exact Drawn0.refl _ | apply Drawn0.step)⟩

def swz (a b : Int) : Int := if (isLaneB a && isLaneB b) = true then wrap64 ((wrap64 (a * 8)) + (Go.bits .xor .i64 b a)) else (-1)
theorem impl_SwizzledAt.is (a b : Int) : impl_SwizzledAt.f a b = some (swz a b) := by
  unfold impl_SwizzledAt.f swz
  rw [impl_isLane.is, impl_isLane.is]
  cases isLaneB a <;> cases isLaneB b <;> simp

/-! ### impl_SwizzledRow: function 37 -/
theorem impl_SwizzledRow.num (a0 : Int) (B0 : Nat) (w : World) (hB0 : B0 < w.heap.size) (hc0 : w.cell? ⟨B0, 0, none⟩ = some (.int .i64 a0)) :
    NumAt 65 #[.pointer (some ⟨B0, 0, none⟩)] (fun i => swz a0 i) w := fun W i hb _ _ => by
  have k0 : W.cell? ⟨B0, 0, none⟩ = some (.int .i64 a0) := (hb.cell (p := ⟨B0, 0, none⟩) hB0).trans hc0
  have HC := fun W' => impl_SwizzledAt.calls a0 i (swz a0 i) W' (impl_SwizzledAt.is _ _)
  clear hc0 hB0 hb
  show Calls Try.prog 65 #[.int .i64 i, .pointer (some ⟨B0, 0, none⟩)] W fun e w' => e = .returned (.int .i64 (swz a0 i)) ∧ Drawn0 W w'
  generalize swz a0 i = z at HC ⊢
  have HC := Aside0.mk HC
  go_enter Try.func65, Try.ntmps65
  go_wp2_with (go_at_call 35; refine (HC.out _).mono ?_; rintro e w' ⟨rfl, ⟨nd, rfl⟩⟩)
  go_ret
  exact ⟨rfl, by repeat (first | exact Drawn0.refl _ | apply Drawn0.step)⟩
def impl_SwizzledRow.f (a0 : Int) : Option (List Int) := some (if isLaneB a0 = true then lanes8 (fun i => swz a0 i) else [])
set_option maxHeartbeats 8000000 in
set_option maxRecDepth 100000 in
theorem impl_SwizzledRow.calls (a0 : Int) (r : List Int) (w : World) (h : impl_SwizzledRow.f a0 = some r) :
    Calls Try.prog 37 #[.int .i64 a0] w fun e w' => ∃ v0_ : Value, e = .returned (v0_) ∧ Kd.R (Kd.int .i64) 3 w' w.heap.size (fun _ => True) v0_ r ∧ Below w.heap.size w w' := by
  have H := Option.some.inj h
  clear h
  have AL := Aside0.mk (impl_isLane.is a0)
  have eg : ∀ args w, (callFunc 65 args).run Try.prog w = .ok (.enter 65 args) w := enters_of Try.func65 (by kernel_rfl) rfl
  cases hl : isLaneB a0 with
  | false =>
    rw [hl] at H AL
    rw [if_neg (by simp)] at H
    clear hl
    subst H
    go_enter Try.func37, Try.ntmps37
    go_wp2_with (first | (go_at_call 62; refine (impl_isLane.calls a0 false _ AL.out).mono ?_; rintro e w' ⟨rfl, ⟨nd, rfl⟩⟩) | (go_at_call 56; refine (impl_eachLane.no _ _).mono ?_; rintro e w' ⟨rfl, rfl⟩))
    go_ret
    exact ⟨_, rfl, Kd.R_nil _ _ _ _ _, by repeat (first | exact Below.refl _ _ | apply below_alloc | apply pw_below_drewN | apply below_drew1)⟩
  | true =>
    rw [hl] at H AL
    rw [if_pos rfl] at H
    clear hl
    have HR := Aside0.mk H
    clear H
    go_enter Try.func37, Try.ntmps37
    go_wp2_with (first | (go_at_call 62; refine (impl_isLane.calls a0 true _ AL.out).mono ?_; rintro e w' ⟨rfl, ⟨nd, rfl⟩⟩) | (go_at_call 56; refine (impl_eachLane.yes' 65 _ _ w _ eg (impl_SwizzledRow.num a0 w.heap.size _ ?k0 ?k2) ?k4).mono ?_; (case k0 => first | (simp; done) | (simp; omega)); (case k2 => first | (simp; done) | (simp; omega)); (case k4 => (repeat (first | exact Below.refl _ _ | apply below_alloc | apply pw_below_drewN | apply below_drew1))); rintro e w' ⟨v0_, rfl, ho, hb⟩; have HO := Aside0.mk ho; have HB := Aside0.mk hb; clear ho hb))
    go_ret
    exact ⟨_, rfl, by rw [← HR.out]; exact HO.out, HB.out⟩

/-! ### impl_SwizzledColumn: function 38 -/
theorem impl_SwizzledColumn.num (a0 : Int) (B0 : Nat) (w : World) (hB0 : B0 < w.heap.size) (hc0 : w.cell? ⟨B0, 0, none⟩ = some (.int .i64 a0)) :
    NumAt 66 #[.pointer (some ⟨B0, 0, none⟩)] (fun i => swz i a0) w := fun W i hb _ _ => by
  have k0 : W.cell? ⟨B0, 0, none⟩ = some (.int .i64 a0) := (hb.cell (p := ⟨B0, 0, none⟩) hB0).trans hc0
  have HC := fun W' => impl_SwizzledAt.calls i a0 (swz i a0) W' (impl_SwizzledAt.is _ _)
  clear hc0 hB0 hb
  show Calls Try.prog 66 #[.int .i64 i, .pointer (some ⟨B0, 0, none⟩)] W fun e w' => e = .returned (.int .i64 (swz i a0)) ∧ Drawn0 W w'
  generalize swz i a0 = z at HC ⊢
  have HC := Aside0.mk HC
  go_enter Try.func66, Try.ntmps66
  go_wp2_with (go_at_call 35; refine (HC.out _).mono ?_; rintro e w' ⟨rfl, ⟨nd, rfl⟩⟩)
  go_ret
  exact ⟨rfl, by repeat (first | exact Drawn0.refl _ | apply Drawn0.step)⟩
def impl_SwizzledColumn.f (a0 : Int) : Option (List Int) := some (if isLaneB a0 = true then lanes8 (fun i => swz i a0) else [])
set_option maxHeartbeats 8000000 in
set_option maxRecDepth 100000 in
theorem impl_SwizzledColumn.calls (a0 : Int) (r : List Int) (w : World) (h : impl_SwizzledColumn.f a0 = some r) :
    Calls Try.prog 38 #[.int .i64 a0] w fun e w' => ∃ v0_ : Value, e = .returned (v0_) ∧ Kd.R (Kd.int .i64) 3 w' w.heap.size (fun _ => True) v0_ r ∧ Below w.heap.size w w' := by
  have H := Option.some.inj h
  clear h
  have AL := Aside0.mk (impl_isLane.is a0)
  have eg : ∀ args w, (callFunc 66 args).run Try.prog w = .ok (.enter 66 args) w := enters_of Try.func66 (by kernel_rfl) rfl
  cases hl : isLaneB a0 with
  | false =>
    rw [hl] at H AL
    rw [if_neg (by simp)] at H
    clear hl
    subst H
    go_enter Try.func38, Try.ntmps38
    go_wp2_with (first | (go_at_call 62; refine (impl_isLane.calls a0 false _ AL.out).mono ?_; rintro e w' ⟨rfl, ⟨nd, rfl⟩⟩) | (go_at_call 56; refine (impl_eachLane.no _ _).mono ?_; rintro e w' ⟨rfl, rfl⟩))
    go_ret
    exact ⟨_, rfl, Kd.R_nil _ _ _ _ _, by repeat (first | exact Below.refl _ _ | apply below_alloc | apply pw_below_drewN | apply below_drew1)⟩
  | true =>
    rw [hl] at H AL
    rw [if_pos rfl] at H
    clear hl
    have HR := Aside0.mk H
    clear H
    go_enter Try.func38, Try.ntmps38
    go_wp2_with (first | (go_at_call 62; refine (impl_isLane.calls a0 true _ AL.out).mono ?_; rintro e w' ⟨rfl, ⟨nd, rfl⟩⟩) | (go_at_call 56; refine (impl_eachLane.yes' 66 _ _ w _ eg (impl_SwizzledColumn.num a0 w.heap.size _ ?k0 ?k2) ?k4).mono ?_; (case k0 => first | (simp; done) | (simp; omega)); (case k2 => first | (simp; done) | (simp; omega)); (case k4 => (repeat (first | exact Below.refl _ _ | apply below_alloc | apply pw_below_drewN | apply below_drew1))); rintro e w' ⟨v0_, rfl, ho, hb⟩; have HO := Aside0.mk ho; have HB := Aside0.mk hb; clear ho hb))
    go_ret
    exact ⟨_, rfl, by rw [← HR.out]; exact HO.out, HB.out⟩

end Go.Proofs.Ytpaoajlangbceaa.P
