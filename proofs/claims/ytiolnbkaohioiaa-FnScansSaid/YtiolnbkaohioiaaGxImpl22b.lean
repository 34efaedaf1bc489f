-- Laid by this session's own program (wip/pp.py) over the seat's translation; Lean checks it.
import Derived.Test.YtiolnbkaohioiaaGx0
import Derived.Test.YtiolnbkaohioiaaGxImpl01
import Derived.Test.YtiolnbkaohioiaaGxImpl19
import Derived.Test.YtiolnbkaohioiaaGxImpl21
import Derived.Test.YtiolnbkaohioiaaGxImpl22
import Derived.Deep.RegionLaw
import Derived.Lib.LazyBuf
namespace Go.Proofs.Ytiolnbkaohioiaa.P
open Go.RowKit Go.Proofs.YtiolnbkaohioiaaW.PrintWords Go.Proofs.YtiolnbkaohioiaaW.PrintLast Go.Proofs.YtiolnbkaohioiaaW.PrintMore
attribute [local go_sem] max2_int min2_int max_two min_two max_three min_three max_four min_four   -- for this text's walks alone
set_option linter.unusedVariables false
set_option linter.unusedSimpArgs false

/-! ### impl_ScanBefore: function 59 -/
set_option maxHeartbeats 8000000 in
set_option maxRecDepth 100000 in
/-- A round of a scan over what no scan takes answers nil. -/
theorem impl_ScanRound.nil (a0 : Int) (A1 : Option Addr) (c1 : Nat) (l1 : List Int) (a2 : Int) (b1 b2 : Bool) (w : World) (hr1 : Kd.C (Kd.int .i64) w A1 l1.length l1) (hc1 : l1.length ≤ c1) (h1 : impl_ValuesOk.f l1 = some b1) (h2 : impl_isReduction.f a0 = some b2) (hb : (b1 && b2) = false) :
    Calls Try.prog 51 #[.int .i64 a0, .slice A1 l1.length c1, .int .i64 a2] w fun e w' => e = .returned (.slice none 0 0) ∧ Drawn0 w w' := by
  have HR1 := Aside0.mk hr1
  have HC1 := Aside0.mk hc1
  have AV := Aside0.mk h1
  have AO := Aside0.mk h2
  clear hr1 hc1 h1 h2
  cases b1 with
  | false =>
    clear hb
    go_enter Try.func51, Try.ntmps51
    go_wp2_with (first | (go_at_call 82; refine (impl_ValuesOk.calls _ _ l1 false _ ?s1 ?s2 AV.out).mono ?_; (case s1 => repeat (first | exact HR1.out | (with_reducible refine Kd.C_alloc ?_ _) | (with_reducible refine Kd.C_drewN ?_ _) | (with_reducible refine Kd.C_drew ?_))); (case s2 => exact HC1.out); rintro e w' ⟨rfl, ⟨nd, rfl⟩⟩))
    go_ret
    exact ⟨rfl, by repeat (first | exact Drawn0.refl _ | apply Drawn0.step | exact ⟨_, rfl⟩)⟩
  | true =>
    cases b2 with
    | true => cases hb
    | false =>
      clear hb
      go_enter Try.func51, Try.ntmps51
      go_wp2_with (first | (go_at_call 82; refine (impl_ValuesOk.calls _ _ l1 true _ ?s1 ?s2 AV.out).mono ?_; (case s1 => repeat (first | exact HR1.out | (with_reducible refine Kd.C_alloc ?_ _) | (with_reducible refine Kd.C_drewN ?_ _) | (with_reducible refine Kd.C_drew ?_))); (case s2 => exact HC1.out); rintro e w' ⟨rfl, ⟨nd, rfl⟩⟩) | (go_at_call 73; refine (impl_isReduction.calls a0 false _ AO.out).mono ?_; rintro e w' ⟨rfl, ⟨nd, rfl⟩⟩))
      go_ret
      exact ⟨rfl, by repeat (first | exact Drawn0.refl _ | apply Drawn0.step | exact ⟨_, rfl⟩)⟩
def isRed (a0 : Int) : Bool := decide (0 ≤ a0) && decide (a0 ≤ 3)
theorem isRed_is (a0 : Int) : impl_isReduction.f a0 = some (isRed a0) := by
  unfold impl_isReduction.f impl_within.f isRed
  by_cases h : a0 ≥ 0
  · simp [h]
  · have h' : ¬ 0 ≤ a0 := h
    simp [h']
set_option maxHeartbeats 8000000 in
set_option maxRecDepth 100000 in
/-- A scan of what no scan takes answers nil. -/
theorem impl_ScanAll.nil (a0 : Int) (A1 : Option Addr) (c1 : Nat) (l1 : List Int) (b1 b2 : Bool) (w : World) (hr1 : Kd.C (Kd.int .i64) w A1 l1.length l1) (hc1 : l1.length ≤ c1) (h1 : impl_ValuesOk.f l1 = some b1) (h2 : impl_isReduction.f a0 = some b2) (hb : (b1 && b2) = false) :
    Calls Try.prog 58 #[.int .i64 a0, .slice A1 l1.length c1] w fun e w' => e = .returned (.slice none 0 0) ∧ Below w.heap.size w w' := by
  have HR1 := Aside0.mk hr1
  have HC1 := Aside0.mk hc1
  have AV := Aside0.mk h1
  have AO := Aside0.mk h2
  have HN := Aside0.mk hb
  clear hr1 hc1 h1 h2 hb
  go_enter Try.func58, Try.ntmps58
  go_wp2
  go_loopg [5, 11] 4 (fun kq v5 v11 w' => ∃ j : Nat, v11 = .int .i64 (j : Int) ∧ Aside0 (4 - j ≤ kq) ∧ Aside0 (w'.cell? ⟨w.heap.size, 0, none⟩ = some (.int .i64 1) ∧ w'.cell? ⟨w.heap.size, 1, none⟩ = some (.int .i64 2) ∧ w'.cell? ⟨w.heap.size, 2, none⟩ = some (.int .i64 4)) ∧ Aside0 (Below w.heap.size w w') ∧ Aside0 ((j = 0 ∧ v5 = .slice A1 l1.length c1) ∨ (j = 1 ∧ v5 = .slice none 0 0) ∨ (j = 2 ∧ v5 = .slice none 0 0) ∨ (j = 3 ∧ v5 = .slice none 0 0)))
  case atStart => exact ⟨0, rfl, ⟨by omega⟩, ⟨by simp, by simp, by simp⟩, ⟨by repeat (first | exact Below.refl _ _ | apply below_alloc | apply pw_below_drewN | apply below_drew1)⟩, ⟨.inl ⟨rfl, rfl⟩⟩⟩
  case round =>
    obtain ⟨j, rfl, HK1, HCL, HB, HJ⟩ := hrel
    obtain ⟨x0, x1, x2⟩ := HCL.out
    have hlt : ∀ p : Nat, p < 1 → w.heap.size < wr.heap.size := fun _ _ => World.block_lt_of_cell? wr _ x0
    have HLT := Aside0.mk (hlt 0 (by omega))
    clear hlt
    have hnil : ∀ (d : Int) (W : World), Calls Try.prog 51 #[.int .i64 a0, .slice none 0 0, .int .i64 d] W fun e w' => e = .returned (.slice none 0 0) ∧ Drawn0 W w' := fun d W => impl_ScanRound.nil a0 none 0 [] d false (isRed a0) W (Kd.C_nil _ _) (Nat.le_refl _) rfl (isRed_is a0) rfl
    have HNL := Aside0.mk hnil
    clear hnil
    rcases HJ.out with ⟨rfl, rfl⟩ | ⟨rfl, rfl⟩ | ⟨rfl, rfl⟩ | ⟨rfl, rfl⟩
    · clear HJ x1 x2
      have hs := impl_ScanRound.nil a0 A1 c1 l1 1 b1 b2 wr (Kd.C_below HR1.out HB.out) HC1.out AV.out AO.out HN.out
      have HC := Aside0.mk hs
      clear hs
      go_wp2_with (go_at_call 51; refine HC.out.mono ?_; rintro e w' ⟨rfl, ⟨nd, rfl⟩⟩)
      go_roundg 3
      case measure => have := HK1.out; omega
      case rel => exact ⟨1, by go_num, ⟨by omega⟩, ⟨by simp [HCL.out.1], by simp [HCL.out.2.1], by simp [HCL.out.2.2]⟩, ⟨by repeat (first | (with_reducible first | exact HB.out | apply below_alloc | apply pw_below_drewN | apply below_drew1) | exact HB.out)⟩, ⟨.inr (.inl ⟨rfl, rfl⟩)⟩⟩
    · clear HJ x0 x2
      go_wp2_with (go_at_call 51; refine (HNL.out 2 _).mono ?_; rintro e w' ⟨rfl, ⟨nd, rfl⟩⟩)
      go_roundg 2
      case measure => have := HK1.out; omega
      case rel => exact ⟨2, by go_num, ⟨by omega⟩, ⟨by simp [HCL.out.1], by simp [HCL.out.2.1], by simp [HCL.out.2.2]⟩, ⟨by repeat (first | (with_reducible first | exact HB.out | apply below_alloc | apply pw_below_drewN | apply below_drew1) | exact HB.out)⟩, ⟨.inr (.inr (.inl ⟨rfl, rfl⟩))⟩⟩
    · clear HJ x0 x1
      go_wp2_with (go_at_call 51; refine (HNL.out 4 _).mono ?_; rintro e w' ⟨rfl, ⟨nd, rfl⟩⟩)
      go_roundg 1
      case measure => have := HK1.out; omega
      case rel => exact ⟨3, by go_num, ⟨by omega⟩, ⟨by simp [HCL.out.1], by simp [HCL.out.2.1], by simp [HCL.out.2.2]⟩, ⟨by repeat (first | (with_reducible first | exact HB.out | apply below_alloc | apply pw_below_drewN | apply below_drew1) | exact HB.out)⟩, ⟨.inr (.inr (.inr ⟨rfl, rfl⟩))⟩⟩
    · clear HJ x0 x1 x2
      go_wp2
      go_ret
      exact ⟨rfl, HB.out⟩
/-- A list of one number, made just now. -/
theorem one_R (n : Int) (W : World) (base b : Nat) (hb : b = W.heap.size) (hbase : base ≤ W.heap.size) : Kd.R (Kd.int .i64) 3 (W.alloc (.cells #[.int .i64 n] 3)) base (fun _ => True) (.slice (some ⟨b, 0, none⟩) 1 1) [n] := by
  subst hb
  refine ⟨fun k _ => trivial, [.int .i64 n], ?_, ?_⟩
  · have h2 := World.ownsRow_lit (base := base) (e := 3) (size := (Kd.int .i64).sz) W #[.int .i64 n] 1 hbase (by decide) (by rfl)
    simpa using h2
  · exact Reps.one (show Kd.M (Kd.int .i64) _ _ _ n [.int .i64 n] from rfl) (Reps.none _ _)
def impl_ScanBefore.f (k : Nat) (a0 : Int) (l1 : List Int) : Option (List Int) := (impl_ValuesOk.f l1).bind fun b1 => (impl_isReduction.f a0).bind fun b2 => if (b1 && b2) = true then (impl_ScanAll.f k a0 l1).bind fun t => if t.length = 8 then (impl_NeutralOf.f a0).bind fun n => some (n :: t.take 7) else none else some []
theorem impl_ScanBefore.mono : ∀ a0 a1 k, LeO (impl_ScanBefore.f k a0 a1) (impl_ScanBefore.f (k + 1) a0 a1) := by
  intro a0 a1 k
  unfold impl_ScanBefore.f
  refine LeO.bind (LeO.refl _) fun _ => LeO.bind (LeO.refl _) fun _ => LeO.ite (LeO.bind (impl_ScanAll.mono _ _ k) fun _ => LeO.refl _) (LeO.refl _)
set_option maxHeartbeats 8000000 in
set_option maxRecDepth 100000 in
theorem impl_ScanBefore.calls (k : Nat) (a0 : Int) (A1 : Option Addr) (c1 : Nat) (l1 : List Int) (r : List Int) (w : World) (hr1 : Kd.C (Kd.int .i64) w A1 l1.length l1) (hc1 : l1.length ≤ c1) (h : impl_ScanBefore.f k a0 l1 = some r) :
    Calls Try.prog 59 #[.int .i64 a0, .slice A1 l1.length c1] w fun e w' => ∃ v0_ : Value, e = .returned (v0_) ∧ Kd.R (Kd.int .i64) 3 w' w.heap.size (fun _ => True) v0_ r ∧ Below w.heap.size w w' := by
  have HR1 := Aside0.mk hr1
  have HC1 := Aside0.mk hc1
  clear hr1 hc1
  have HB := Aside0.mk (Below.refl w.heap.size w)
  unfold impl_ScanBefore.f at h
  obtain ⟨b1, h1, h⟩ := Option.bind_eq_some_iff.mp h
  obtain ⟨b2, h2, h⟩ := Option.bind_eq_some_iff.mp h
  have AV := Aside0.mk h1
  have AO := Aside0.mk h2
  clear h1 h2
  have qn : ∀ (W : World) (a : Option Addr) (n c : Nat), (binOp .eql 24 (.slice a n c) (.slice none 0 0)).run Try.prog W = .ok (.bool a.isNone) W := fun W a n c => Go.run_eql_slice_nil W _ _ a n c Try.underlying24
  cases hb : b1 && b2 with
  | false =>
    have HN := Aside0.mk hb
    rw [hb] at h
    clear hb
    simp only [Bool.false_eq_true, if_false, Option.some.injEq] at h
    subst h
    go_enter Try.func59, Try.ntmps59
    go_wp2_with (go_at_call 58; refine (impl_ScanAll.nil a0 A1 c1 l1 b1 b2 _ ?s1 HC1.out AV.out AO.out HN.out).mono ?_; (case s1 => repeat (first | exact HR1.out | (with_reducible refine Kd.C_alloc ?_ _) | (with_reducible refine Kd.C_drewN ?_ _) | (with_reducible refine Kd.C_drew ?_))); rintro e w' ⟨rfl, hb⟩; have HB2 := Aside0.mk hb; clear hb)
    go_ret
    exact ⟨_, rfl, Kd.R_nil _ _ _ _ _, by repeat (first | (with_reducible first | exact HB2.out | apply below_alloc | apply pw_below_drewN | apply below_drew1) | exact HB2.out | exact below_step (by repeat (first | exact Below.refl _ _ | apply below_alloc | apply pw_below_drewN | apply below_drew1)) HB2.out)⟩
  | true =>
    rw [hb] at h
    clear hb
    simp only [if_true] at h
    obtain ⟨t, ht, h⟩ := Option.bind_eq_some_iff.mp h
    have AT := Aside0.mk ht
    clear ht
    by_cases h8 : t.length = 8
    · rw [if_pos h8] at h
      obtain ⟨n, hn, h⟩ := Option.bind_eq_some_iff.mp h
      obtain rfl := Option.some.inj h
      have AN := Aside0.mk hn
      have H8 := Aside0.mk h8
      clear h hn h8
      go_enter Try.func59, Try.ntmps59
      go_upto_region 2 with (first | (go_at_call 58; refine (impl_ScanAll.calls k a0 A1 c1 l1 t _ ?s1 HC1.out AT.out).mono ?_; (case s1 => repeat (first | exact HR1.out | (with_reducible refine Kd.C_alloc ?_ _) | (with_reducible refine Kd.C_drewN ?_ _) | (with_reducible refine Kd.C_drew ?_))); rintro e w1 ⟨v1, rfl, ho, hb⟩; obtain ⟨ad, c, rfl⟩ := Kd.R_slice1 ho (by rw [H8.out]; decide); have HO := Aside0.mk (Kd.R_lower ho (below_size (by repeat (first | (with_reducible first | exact HB.out | apply below_alloc | apply pw_below_drewN | apply below_drew1) | exact HB.out)))); have HB2 := Aside0.mk (below_step (by repeat (first | (with_reducible first | exact HB.out | apply below_alloc | apply pw_below_drewN | apply below_drew1) | exact HB.out)) hb); clear ho hb))
      have C1 := Kd.R_reads' HO.out
      have hl8 : 7 ≤ t.length := by rw [H8.out]; decide
      have hC7 : Kd.C (Kd.int .i64) w1 (some ad) 7 (t.take 7) := by
        have h7 := (Kd.R_reads' (Kd.R_take (m := 7) HO.out hl8)).2.2
        rw [List.length_take, Nat.min_eq_left hl8] at h7
        exact h7
      obtain ⟨i0q, hi0q, _, hszq, _⟩ := info_parts info3
      have hcut := cut_to (P := Try.prog) 24 3 .i64 Try.underlying24 hi0q (some ad) t.length c 7 (by omega) (by omega) C1.2.1
      have HC7 := Aside0.mk hC7
      clear hC7 C1 hl8 hi0q hszq
      go_wp2_with (fail)
      go_region_law (first | (go_simp; go_at_call 56; refine (impl_NeutralOf.calls a0 n _ AN.out).mono ?_; rintro e w' ⟨rfl, ⟨nd, rfl⟩⟩) | (refine Kd.R_append_rows_step (Kd.int .i64) (w0 := w) w.heap.size (by rfl) (.tmp 13) (.tmp 15) 24 3 (.int .i64 0) 8 rfl Try.underlying24 info3 rfl (by decide) (by omega) (.slice (some ⟨w1.heap.size, 0, none⟩) 1 1) [n] (t.take 7) (some ad) 7 c (fun _ => True) (fun _ => False) rfl rfl ?aO ?aR (fun _ _ h => h) (fun _ h => h.elim) ?aF ?aB ?aS ?aL ?_; (case aR => show Kd.C (Kd.int .i64) _ (some ad) 7 (t.take 7); repeat (first | exact HC7.out | (with_reducible refine Kd.C_alloc ?_ _) | (with_reducible refine Kd.C_drewN ?_ _) | (with_reducible refine Kd.C_drew ?_))); (case aB => exact (by repeat (first | (with_reducible first | exact HB2.out | apply below_alloc | apply pw_below_drewN | apply below_drew1) | exact HB2.out))); (case aF => exact (fun _ _ => trivial)); (case aO => exact (by (with_reducible repeat (first | apply Kd.R_drewN | apply Kd.R_drew)); exact one_R n _ _ _ (by simp) (below_size (by repeat (first | (with_reducible first | exact HB2.out | apply below_alloc | apply pw_below_drewN | apply below_drew1) | exact HB2.out))))); (case aS => exact (below_size (by repeat (first | (with_reducible first | exact HB2.out | apply below_alloc | apply pw_below_drewN | apply below_drew1) | exact HB2.out)))); (case aL => simp); intro v16 w10 ho hb hg hat; have HF := Aside0.mk ho; have HB4 := Aside0.mk hb; clear ho hb hg hat))
      all_goals (go_wp2; go_ret; exact ⟨_, rfl, by (with_reducible repeat (first | apply Kd.R_alloc | apply Kd.R_drewN | apply Kd.R_drew)); exact HF.out, by repeat (first | (with_reducible first | exact HB4.out | apply below_alloc | apply pw_below_drewN | apply below_drew1) | exact HB4.out)⟩)
    · rw [if_neg h8] at h
      cases h

end Go.Proofs.Ytiolnbkaohioiaa.P
