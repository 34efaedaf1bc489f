-- Laid by this session's own program (wip/pp.py) over the seat's translation; Lean checks it.
import Derived.Test.YthkhgckagifmjaaGx0
import Derived.Test.YthkhgckagifmjaaGxImpl01
import Derived.Test.YthkhgckagifmjaaGxImpl02
import Derived.Test.YthkhgckagifmjaaGxImpl19
import Derived.BigRegion
import Derived.Lib.LazyBuf
import Derived.Shelf.Abstract
namespace Go.Proofs.Ythkhgckagifmjaa.P
open Go.RowKit Go.Proofs.YthkhgckagifmjaaW.PrintWords Go.Proofs.YthkhgckagifmjaaW.PrintLast Go.Proofs.YthkhgckagifmjaaW.PrintMore
attribute [local go_sem] max2_int min2_int max_two min_two max_three min_three max_four min_four   -- for this text's walks alone
set_option linter.unusedVariables false
set_option linter.unusedSimpArgs false

/-! ### impl_eachLane: function 17 -/
set_option maxHeartbeats 8000000 in
set_option maxRecDepth 100000 in
theorem impl_eachLane.yes (g : Nat) (lb : Array Value) (fv : Int → Int) (w : World) (eg : ∀ args w, (callFunc g args).run Try.prog w = .ok (.enter g args) w) (hp : NumAt g lb fv w) :
    Calls Try.prog 17 #[.bool true, .func (.func g) #[] lb] w fun e w' => ∃ v0_ : Value, e = .returned (v0_) ∧ Kd.R (Kd.int .i64) 3 w' w.heap.size (fun _ => True) v0_ (lanes8 fv) ∧ Below w.heap.size w w' := by
  have HP := Aside0.mk hp
  clear hp
  have HB := Aside0.mk (Below.refl w.heap.size w)
  go_enter Try.func17, Try.ntmps17
  go_wp2_with (first | ((with_reducible refine gate_dst (N := 9) rfl ?_); refine Kd.R_lit (Kd.int .i64) _ 3 ?hg (N := 9) ?hd (xs := ([] : List Int)) (inner := []) (ok := fun _ => True) (okp := fun _ => True) ?hr ?hp (fun _ hk => hk) trivial (Below.refl _ _) (Nat.le_refl _) (by simp) ?_; (case hd => rfl); (case hg => rfl); (case hr => first | (go_simp; done) | (go_simp; rfl)); (case hp => exact (Reps.none _ _)); intro v123 w2 ho3 hb hg_ hnew_; clear hg_ hnew_; have n0_ := Aside0.mk (Kd.R_lower ho3 (below_size HB.out)); have n1_ := Aside0.mk (below_step HB.out hb); clear HB; have HO124 := n0_; have HB := n1_; clear n0_ n1_; clear hb ho3))
  go_loopg [5, 10] 8 (fun kq v5 v10 w' => ∃ k : Nat, k ≤ 8 ∧ v10 = .int .i64 (k : Int) ∧ Aside0 (8 - k ≤ kq) ∧ Aside0 (Kd.R (Kd.int .i64) 3 w' w.heap.size (fun _ => True) v5 (upTo8 fv k)) ∧ Aside0 (Below w.heap.size w w'))
  case atStart => exact ⟨0, by omega, by (first | rfl | (simp; done)), ⟨by omega⟩, ⟨by (with_reducible repeat (first | apply Kd.R_alloc | apply Kd.R_drewN | apply Kd.R_drew)); exact HO124.out⟩, ⟨by repeat (first | (with_reducible first | exact HB.out | apply below_alloc | apply pw_below_drewN | apply below_drew1) | exact HB.out)⟩⟩
  case round =>
    obtain ⟨k, hk8, rfl, HK1, HO_5, HB⟩ := hrel
    by_cases hlt : k < 8
    · have hlti : (k : Int) < 8 := by omega
      have hpos : 0 ≤ (k : Int) := by omega
      have hlen : ((upTo8 fv k).length + 1) * 8 ≤ 140737488355328 := by rw [upTo8_len]; omega
      have hle := Aside0.mk hlen
      clear hlen
      go_wp2_with (first | (go_at_fn g; refine (HP.out _ (k : Int) (by repeat (first | (with_reducible first | exact HB.out | apply below_alloc | apply pw_below_drewN | apply below_drew1) | exact HB.out)) hpos hlti).mono ?_; rintro e w' ⟨rfl, ⟨nd, rfl⟩⟩) | ((with_reducible refine gate_builtin (b := .append) (xs := #[.tmp 13, .tmp 17]) rfl ?_); at_builtin; refine Kd.R_append (Kd.int .i64) (w0 := w) w.heap.size rfl (.tmp 13) (.tmp 17) 30 3 (.int .i64 0) 8 rfl Try.underlying30 info3 rfl (by decide) (by omega) u5 (upTo8 fv k) (fv (k : Int)) [.int .i64 (fv (k : Int))] (fun _ => True) (fun _ => False) rfl rfl ?aP (fun _ hk => hk.elim) ?aF ?aO ?aB ?aS ?aL ?_; (case aP => exact rfl); (case aB => exact (by repeat (first | (with_reducible first | exact HB.out | apply below_alloc | apply pw_below_drewN | apply below_drew1) | exact HB.out))); (case aF => exact (fun _ _ => trivial)); (case aO => exact (by (with_reducible repeat (first | apply Kd.R_alloc | apply Kd.R_drewN | apply Kd.R_drew)); exact HO_5.out)); (case aS => exact (below_size (by repeat (first | (with_reducible first | exact HB.out | apply below_alloc | apply pw_below_drewN | apply below_drew1) | exact HB.out)))); (case aL => exact hle.out); intro v127 w8 ho hb hg hat; have n0_ := Aside0.mk (hb); have n1_ := Aside0.mk (ho); clear HB; clear HO_5; have HB := n0_; have HO128 := n1_; clear n0_ n1_; clear ho hb hg hat))
      go_roundg (8 - (k + 1))
      case measure => have := HK1.out; omega
      case rel => exact ⟨k + 1, by omega, by go_num, ⟨by omega⟩, ⟨by rw [← upTo8_snoc]; (with_reducible repeat (first | apply Kd.R_alloc | apply Kd.R_drewN | apply Kd.R_drew)); exact HO128.out⟩, ⟨by repeat (first | (with_reducible first | exact HB.out | apply below_alloc | apply pw_below_drewN | apply below_drew1) | exact HB.out)⟩⟩
    · have hk : k = 8 := by omega
      have hlti : ¬ (k : Int) < 8 := by omega
      have HK8 := Aside0.mk hk
      clear hk hlt
      go_wp2
      go_ret
      exact ⟨_, rfl, by rw [← upTo8_all, ← HK8.out]; (with_reducible repeat (first | apply Kd.R_alloc | apply Kd.R_drewN | apply Kd.R_drew)); exact HO_5.out, by repeat (first | (with_reducible first | exact HB.out | apply below_alloc | apply pw_below_drewN | apply below_drew1) | exact HB.out)⟩
theorem impl_eachLane.no (fv : Value) (w : World) :
    Calls Try.prog 17 #[.bool false, fv] w fun e w' => e = .returned (.slice none 0 0) ∧ w = w' := by
  go_enter Try.func17, Try.ntmps17
  go_wp2
  go_ret
  exact ⟨rfl, rfl⟩
/-- The same, told from an elder world on. -/
theorem impl_eachLane.yes' (g : Nat) (lb : Array Value) (fv : Int → Int) (w0 w : World) (eg : ∀ args w, (callFunc g args).run Try.prog w = .ok (.enter g args) w) (hp : NumAt g lb fv w) (hB : Below w0.heap.size w0 w) :
    Calls Try.prog 17 #[.bool true, .func (.func g) #[] lb] w fun e w' => ∃ v0_ : Value, e = .returned (v0_) ∧ Kd.R (Kd.int .i64) 3 w' w0.heap.size (fun _ => True) v0_ (lanes8 fv) ∧ Below w0.heap.size w0 w' :=
  (impl_eachLane.yes g lb fv w eg hp).mono fun _ _ ⟨v, he, hr, hb⟩ => ⟨v, he, Kd.R_lower hr hB.size, below_step hB hb⟩

/-! ### impl_TransposeTile: function 7 -/
/-- What a function value of one row tells, as a test. -/
def PredRow (g : Nat) (lb : Array Value) (p : List Int → Bool) (w : World) : Prop :=
  ∀ (W : World) (A : Option Addr) (c : Nat) (l : List Int), Below w.heap.size w W → Kd.C (Kd.int .i64) W A l.length l → l.length ≤ c → Calls Try.prog g (#[.slice A l.length c] ++ lb) W fun e w' => e = .returned (.bool (p l)) ∧ Drawn0 W w'
theorem rowL_mem (l : List (List Int)) (i : Int) (h0 : 0 ≤ i) (h1 : i < (l.length : Int)) : rd_L1 l i ∈ l := by
  unfold rd_L1
  have h : i.toNat < l.length := by omega
  rw [List.getD_eq_getElem?_getD, List.getElem?_eq_getElem h]
  exact List.getElem_mem h
theorem anyL_rd (p : List Int → Bool) (l : List (List Int)) (i : Int) (h0 : 0 ≤ i) (h1 : i < (l.length : Int)) (h : p (rd_L1 l i) = true) : l.any p = true :=
  List.any_eq_true.mpr ⟨_, rowL_mem l i h0 h1, h⟩
theorem anyL_none (p : List Int → Bool) (l : List (List Int)) (h : ∀ j : Int, 0 ≤ j → j < (l.length : Int) → p (rd_L1 l j) = false) : l.any p = false := by
  rw [List.any_eq_false]
  intro x hx
  obtain ⟨n, hn, rfl⟩ := List.getElem_of_mem hx
  have := h (n : Int) (by omega) (by omega)
  unfold rd_L1 at this
  rw [List.getD_eq_getElem?_getD, show ((n : Int)).toNat = n from by omega, List.getElem?_eq_getElem hn] at this
  simpa using this
set_option maxHeartbeats 8000000 in
set_option maxRecDepth 100000 in
theorem rows_IndexFunc.calls (g : Nat) (lb : Array Value) (p : List Int → Bool) (A0 : Option Addr) (c0 : Nat) (l0 : List (List Int)) (w : World) (eg : ∀ args w, (callFunc g args).run Try.prog w = .ok (.enter g args) w) (hp : PredRow g lb p w) (hr0 : Kd.C (Kd.slice 3 (Kd.int .i64)) w A0 l0.length l0) (hm : l0.length ≤ 1000000) :
    Calls Try.prog 23 #[.slice A0 l0.length c0, .func (.func g) #[] lb] w fun e w' => (∃ r : Int, e = .returned (.int .i64 r) ∧ decide (r ≥ 0) = l0.any p) ∧ Drawn0 w w' := by
  have HP := Aside0.mk hp
  clear hp
  have HR0 := Aside0.mk hr0
  clear hr0
  have HM := Aside0.mk hm
  clear hm
  go_enter Try.func23, Try.ntmps23
  go_wp2
  go_loopg [5, 8] l0.length (fun kq _ v8 w' => ∃ i : Int, v8 = .int .i64 i ∧ 0 ≤ i ∧ i ≤ (l0.length : Int) ∧ Aside0 (l0.length - i.toNat ≤ kq) ∧ Aside0 (∀ j : Int, 0 ≤ j → j < i → p (rd_L1 l0 j) = false) ∧ Drawn0 w w')
  case atStart => exact ⟨0, rfl, by omega, by omega, ⟨by omega⟩, ⟨fun j h0 h1 => by omega⟩, by repeat (first | exact Drawn0.refl _ | apply Drawn0.step)⟩
  case round =>
    obtain ⟨i, rfl, h0, hn, HK1, HA, ⟨m1, rfl⟩⟩ := hrel
    by_cases hlt : i < (l0.length : Int)
    · obtain ⟨ad, A1, c1, e1, hx, hle, hC1⟩ := at_L1 HR0.out i h0 hlt
      cases e1
      have hcall := HP.out (w.drewN m1) A1 c1 (rd_L1 l0 i) (pw_below_drewN (Below.refl _ _) m1) (Kd.C_drewN hC1 m1) hle
      clear hle hC1
      cases hq : p (rd_L1 l0 i) with
      | true =>
        rw [hq] at hcall
        have HC := Aside0.mk hcall
        clear hcall
        have HQ := Aside0.mk hq
        clear hq
        go_wp2_with (go_at_fn g; refine HC.out.mono ?_; rintro e w' ⟨rfl, ⟨nd, rfl⟩⟩)
        go_ret
        exact ⟨⟨i, rfl, by rw [anyL_rd p l0 i h0 hlt HQ.out]; simpa using h0⟩, by repeat (first | exact Drawn0.refl _ | apply Drawn0.step)⟩
      | false =>
        rw [hq] at hcall
        have HC := Aside0.mk hcall
        clear hcall
        have HQ := Aside0.mk hq
        clear hq
        have hw64 : wrap64 (i + 1) = i + 1 := by have := HM.out; unfold wrap64; omega
        have HW := Aside0.mk hw64
        clear hw64
        go_wp2_with (go_at_fn g; refine HC.out.mono ?_; rintro e w' ⟨rfl, ⟨nd, rfl⟩⟩)
        go_roundg (l0.length - (i + 1).toNat)
        case measure => have := HK1.out; omega
        case rel => exact ⟨i + 1, by (first | rfl | (rw [HW.out])), by omega, by omega, ⟨by omega⟩, ⟨fun j hj0 hj1 => by
          by_cases e : j = i
          · subst e; exact HQ.out
          · exact HA.out j hj0 (by omega)⟩, by repeat (first | exact Drawn0.refl _ | apply Drawn0.step)⟩
    · have he : i = (l0.length : Int) := by omega
      have HE := Aside0.mk he
      clear he
      go_wp2
      go_ret
      exact ⟨⟨-1, rfl, by rw [anyL_none p l0 (fun j hj0 hj1 => HA.out j hj0 (by rw [HE.out]; exact hj1))]; rfl⟩, by repeat (first | exact Drawn0.refl _ | apply Drawn0.step)⟩
set_option maxHeartbeats 8000000 in
theorem rows_ContainsFunc.calls (g : Nat) (lb : Array Value) (p : List Int → Bool) (A0 : Option Addr) (c0 : Nat) (l0 : List (List Int)) (w : World) (eg : ∀ args w, (callFunc g args).run Try.prog w = .ok (.enter g args) w) (hp : PredRow g lb p w) (hr0 : Kd.C (Kd.slice 3 (Kd.int .i64)) w A0 l0.length l0) (hm : l0.length ≤ 1000000) :
    Calls Try.prog 14 #[.slice A0 l0.length c0, .func (.func g) #[] lb] w fun e w' => e = .returned (.bool (l0.any p)) ∧ Drawn0 w w' := by
  have hcall := rows_IndexFunc.calls g lb p A0 c0 l0 w eg hp hr0 hm
  clear hp hr0 hm
  generalize l0.any p = b at hcall ⊢
  have HC := Aside0.mk hcall
  clear hcall
  go_enter Try.func14, Try.ntmps14
  go_wp2_with (go_at_call 23; refine HC.out.mono ?_; rintro e w' ⟨⟨r, rfl, hr⟩, ⟨nd, rfl⟩⟩)
  go_ret
  exact ⟨rfl, by repeat (first | exact Drawn0.refl _ | apply Drawn0.step)⟩
def okRow (l : List Int) : Bool := decide (l.length = 8) && l.all isWordB
theorem okRow_is (l : List Int) : impl_ValuesOk.f l = some (okRow l) := by
  unfold impl_ValuesOk.f okRow impl_AreWords.f
  by_cases h : l.length = 8
  · simp [h]
  · have h2 : ¬ (l.length : Int) = 8 := by omega
    simp [h, h2]
theorem impl_TransposeTile.pred (w : World) : PredRow 15 #[] (fun l => !(okRow l)) w := fun W A c l _ hC hle => by
  have hc := impl_ValuesOk.calls A c l (okRow l) W hC hle (okRow_is l)
  show Calls Try.prog 15 #[.slice A l.length c] W fun e w' => e = .returned (.bool (!(okRow l))) ∧ Drawn0 W w'
  generalize okRow l = b at hc ⊢
  have HC := Aside0.mk hc
  clear hc hC hle
  go_enter Try.func15, Try.ntmps15
  go_wp2_with (go_at_call 16; refine HC.out.mono ?_; rintro e w' ⟨rfl, ⟨nd, rfl⟩⟩)
  go_ret
  exact ⟨rfl, by repeat (first | exact Drawn0.refl _ | apply Drawn0.step)⟩
set_option maxHeartbeats 8000000 in
theorem impl_TransposeTile.num (A0 : Option Addr) (c0 : Nat) (l0 : List (List Int)) (col : Nat) (B1 B2 : Nat) (w : World) (h8 : l0.length = 8) (hrows : ∀ i : Int, 0 ≤ i → i < 8 → (rd_L1 l0 i).length = 8) (hcol : col < 8) (hB1 : B1 < w.heap.size) (hB2 : B2 < w.heap.size) (hc1 : w.cell? ⟨B1, 0, none⟩ = some (.slice A0 l0.length c0)) (hc2 : w.cell? ⟨B2, 0, none⟩ = some (.int .i64 (col : Int))) (hC : Kd.C (Kd.slice 3 (Kd.int .i64)) w A0 l0.length l0) :
    NumAt 18 #[.pointer (some ⟨B1, 0, none⟩), .pointer (some ⟨B2, 0, none⟩)] (fun i => rd (rd_L1 l0 i) (col : Int)) w := fun W i hb i0 i8 => by
  have k1 : W.cell? ⟨B1, 0, none⟩ = some (.slice A0 l0.length c0) := (hb.cell (p := ⟨B1, 0, none⟩) hB1).trans hc1
  have k2 : W.cell? ⟨B2, 0, none⟩ = some (.int .i64 (col : Int)) := (hb.cell (p := ⟨B2, 0, none⟩) hB2).trans hc2
  have hl := hrows i i0 i8
  obtain ⟨ad, A1, c1, e1, hx, hle, hC1⟩ := at_L1 (Kd.C_below hC hb) i i0 (by omega)
  cases e1
  have p2 : 0 ≤ (col : Int) := by omega
  have q2 : (col : Int) < ((rd_L1 l0 i).length : Int) := by omega
  obtain ⟨ad2, e2, hx2⟩ := Kd.at_int hC1 (col : Int) p2 q2
  cases e2
  have q1 : i < (l0.length : Int) := by omega
  show Calls Try.prog 18 #[.int .i64 i, .pointer (some ⟨B1, 0, none⟩), .pointer (some ⟨B2, 0, none⟩)] W fun e w' => e = .returned (.int .i64 (rd (rd_L1 l0 i) (col : Int))) ∧ Drawn0 W w'
  simp only [Int.toNat_natCast] at hx2
  generalize rd (rd_L1 l0 i) (col : Int) = rv at hx2 ⊢
  have q3 : (col : Int) < 8 := by omega
  clear hc1 hc2 hB1 hB2 hb hC hC1 hle hrows
  go_enter Try.func18, Try.ntmps18
  go_wp2
  go_region
  try go_wp2
  go_ret
  exact ⟨rfl, by repeat (first | exact Drawn0.refl _ | apply Drawn0.step)⟩
/-- The first k columns. -/
def colsTo (l0 : List (List Int)) (k : Nat) : List (List Int) := (List.range k).map fun (c : Nat) => lanes8 (fun i => rd (rd_L1 l0 i) (c : Int))
theorem colsTo_len (l0 : List (List Int)) (k : Nat) : (colsTo l0 k).length = k := by simp [colsTo]
theorem colsTo_snoc (l0 : List (List Int)) (k : Nat) : colsTo l0 k ++ [lanes8 (fun i => rd (rd_L1 l0 i) (k : Int))] = colsTo l0 (k + 1) := by simp [colsTo, List.range_succ]
def impl_TransposeTile.f (l0 : List (List Int)) : Option (List (List Int) × Bool) := some (if l0.length = 8 ∧ l0.any (fun l => !(okRow l)) = false then (colsTo l0 8, true) else ([], false))
set_option maxHeartbeats 8000000 in
set_option maxRecDepth 100000 in
theorem tt_short (A0 : Option Addr) (c0 : Nat) (l0 : List (List Int)) (w : World) (h8 : ¬ l0.length = 8) :
    Calls Try.prog 7 #[.slice A0 l0.length c0] w fun e w' => e = .returned (.tuple #[.slice none 0 0, .bool false]) ∧ Below w.heap.size w w' := by
  have hb0 : ((l0.length : Int) == 8) = false := by simp only [beq_eq_false_iff_ne, ne_eq]; omega
  have hb1 : ((l0.length : Int) != 8) = true := by simp only [bne_iff_ne, ne_eq]; omega
  clear h8
  go_enter Try.func7, Try.ntmps7
  go_wp2
  go_ret2
  exact ⟨rfl, by repeat (first | exact Below.refl _ _ | apply below_alloc | apply pw_below_drewN | apply below_drew1)⟩
set_option maxHeartbeats 8000000 in
set_option maxRecDepth 100000 in
theorem tt_bad (A0 : Option Addr) (c0 : Nat) (l0 : List (List Int)) (w : World) (hr0 : Kd.C (Kd.slice 3 (Kd.int .i64)) w A0 l0.length l0) (h8 : l0.length = 8) (hbad : l0.any (fun l => !(okRow l)) = true) :
    Calls Try.prog 7 #[.slice A0 l0.length c0] w fun e w' => e = .returned (.tuple #[.slice none 0 0, .bool false]) ∧ Below w.heap.size w w' := by
  have eg : ∀ args w, (callFunc 15 args).run Try.prog w = .ok (.enter 15 args) w := enters_of Try.func15 (by kernel_rfl) rfl
  have HC := Aside0.mk (fun (W : World) (hb : Below w.heap.size w W) => rows_ContainsFunc.calls 15 #[] (fun l => !(okRow l)) A0 c0 l0 W eg (impl_TransposeTile.pred W) (Kd.C_below hr0 hb) (by omega))
  rw [hbad] at HC
  have hb0 : ((l0.length : Int) == 8) = true := by simp only [beq_iff_eq]; omega
  have hb1 : ((l0.length : Int) != 8) = false := by simp only [bne_eq_false_iff_eq]; omega
  clear h8 hbad hr0
  go_enter Try.func7, Try.ntmps7
  go_wp2_with (go_at_call 14; refine (HC.out _ (by repeat (first | exact Below.refl _ _ | apply below_alloc | apply pw_below_drewN | apply below_drew1))).mono ?_; rintro e w' ⟨rfl, ⟨nd, rfl⟩⟩)
  go_ret2
  exact ⟨rfl, by repeat (first | exact Below.refl _ _ | apply below_alloc | apply pw_below_drewN | apply below_drew1)⟩
set_option maxHeartbeats 8000000 in
set_option maxRecDepth 100000 in
theorem tt_run (A0 : Option Addr) (c0 : Nat) (l0 : List (List Int)) (w : World) (hr0 : Kd.C (Kd.slice 3 (Kd.int .i64)) w A0 l0.length l0) (h8 : l0.length = 8) (hgood : l0.any (fun l => !(okRow l)) = false) :
    Calls Try.prog 7 #[.slice A0 l0.length c0] w fun e w' => ∃ v0_ : Value, e = .returned (.tuple #[v0_, .bool true]) ∧ Kd.S (Kd.slice 3 (Kd.int .i64)) 30 w' w.heap.size (fun _ => True) v0_ (colsTo l0 8) ∧ Below w.heap.size w w' := by
  have eg : ∀ args w, (callFunc 15 args).run Try.prog w = .ok (.enter 15 args) w := enters_of Try.func15 (by kernel_rfl) rfl
  have eg2 : ∀ args w, (callFunc 18 args).run Try.prog w = .ok (.enter 18 args) w := enters_of Try.func18 (by kernel_rfl) rfl
  have HC := Aside0.mk (fun (W : World) (hb : Below w.heap.size w W) => rows_ContainsFunc.calls 15 #[] (fun l => !(okRow l)) A0 c0 l0 W eg (impl_TransposeTile.pred W) (Kd.C_below hr0 hb) (by omega))
  rw [hgood] at HC
  have HROWS := Aside0.mk (show ∀ i : Int, 0 ≤ i → i < 8 → (rd_L1 l0 i).length = 8 from fun i i0 i8 => by
    have hm := rowL_mem l0 i i0 (by omega)
    have h1 := (List.any_eq_false.mp hgood) _ hm
    have h2 : okRow (rd_L1 l0 i) = true := by simpa using h1
    unfold okRow at h2
    simp only [Bool.and_eq_true, decide_eq_true_eq] at h2
    exact h2.1)
  obtain ⟨W1, hW1⟩ : ∃ W1, W1 = w.alloc (Obj.cells #[Value.slice A0 l0.length c0] 22) := ⟨_, rfl⟩
  have hs1 : W1.heap.size = w.heap.size + 1 := by rw [hW1]; simp
  have hb1' : Below w.heap.size w W1 := by rw [hW1]; exact below_alloc (Below.refl _ _) _
  have hbx : W1.cell? ⟨w.heap.size, 0, none⟩ = some (.slice A0 l0.length c0) := by rw [hW1]; simp
  have HBX := Aside0.mk hbx
  have HS1 := Aside0.mk hs1
  have HB1 := Aside0.mk hb1'
  have HCR := Aside0.mk (Kd.C_below hr0 hb1')
  have HB := Aside0.mk (Below.refl W1.heap.size W1)
  have H8 := Aside0.mk h8
  have HW1 := Aside0.mk hW1
  have hb0 : ((l0.length : Int) == 8) = true := by simp only [beq_iff_eq]; omega
  have hb1 : ((l0.length : Int) != 8) = false := by simp only [bne_eq_false_iff_eq]; omega
  clear h8 hgood hr0 hs1 hb1' hbx hW1
  go_enter Try.func7, Try.ntmps7
  go_wp2_with (first | (rw [← HW1.out]; go_at_call 14; refine (HC.out _ HB1.out).mono ?_; rintro e w' ⟨rfl, ⟨nd, rfl⟩⟩) | ((with_reducible refine gate_dst (N := 13) rfl ?_); refine Kd.S_lit (Kd.slice 3 (Kd.int .i64)) _ 30 ?hg (N := 13) ?hd (xs := ([] : List (List Int))) (inner := []) (ok := fun _ => True) (okp := fun _ => True) ?hr ?hp (fun _ hk => hk) trivial (Below.refl _ _) (Nat.le_refl _) (by simp) ?_; (case hd => rfl); (case hg => rfl); (case hr => first | (go_simp; done) | (go_simp; rfl)); (case hp => exact (Reps.none _ _)); intro v267 w3 ho4 hb hg_ hnew_; clear hg_ hnew_; have n0_ := Aside0.mk (Kd.S_lower ho4 (below_size (by repeat (first | (with_reducible first | exact HB.out | apply below_alloc | apply pw_below_drewN | apply below_drew1) | exact HB.out)))); have n1_ := Aside0.mk (below_step (by repeat (first | (with_reducible first | exact HB.out | apply below_alloc | apply pw_below_drewN | apply below_drew1) | exact HB.out)) hb); clear HB; have HO268 := n0_; have HB := n1_; clear n0_ n1_; clear hb ho4))
  go_loopg [4, 14] 8 (fun kq v4 v14 w' => ∃ k : Nat, k ≤ 8 ∧ v14 = .int .i64 (k : Int) ∧ Aside0 (8 - k ≤ kq) ∧ Aside0 (Kd.S (Kd.slice 3 (Kd.int .i64)) 30 w' W1.heap.size (fun _ => True) v4 (colsTo l0 k)) ∧ Aside0 (Below W1.heap.size W1 w'))
  case atStart => exact ⟨0, by omega, by (first | rfl | (simp; done)), ⟨by omega⟩, ⟨by (with_reducible repeat (first | apply Kd.S_alloc | apply Kd.S_drewN | apply Kd.S_drew)); exact HO268.out⟩, ⟨by repeat (first | (with_reducible first | exact HB.out | apply below_alloc | apply pw_below_drewN | apply below_drew1) | exact HB.out)⟩⟩
  case round =>
    clear HO268 HB
    obtain ⟨k, hk8, rfl, HK1, HO_4, HB⟩ := hrel
    by_cases hlt : k < 8
    · have hlti : decide ((k : Int) < 8) = true := decide_eq_true (by omega)
      have HLT := Aside0.mk hlt
      obtain ⟨W6, hW6⟩ : ∃ W6, W6 = wr.alloc (Obj.cells #[Value.int .i64 (k : Int)] 3) := ⟨_, rfl⟩
      have hb6 : Below wr.heap.size wr W6 := by rw [hW6]; exact below_alloc (Below.refl _ _) _
      have hs6 : W6.heap.size = wr.heap.size + 1 := by rw [hW6]; simp
      have hc6 : W6.cell? ⟨wr.heap.size, 0, none⟩ = some (.int .i64 (k : Int)) := by rw [hW6]; simp
      have hbb6 : Below W1.heap.size W1 W6 := below_step HB.out hb6
      have hx6 : W6.cell? ⟨w.heap.size, 0, none⟩ = some (.slice A0 l0.length c0) := (hbb6.cell (p := ⟨w.heap.size, 0, none⟩) (by have := HS1.out; show w.heap.size < W1.heap.size; omega)).trans HBX.out
      have hnum := impl_TransposeTile.num A0 c0 l0 k w.heap.size wr.heap.size W6 H8.out HROWS.out hlt (by have h1 := HS1.out; have h2 := hbb6.size; omega) (by omega) hx6 hc6 (Kd.C_below HCR.out hbb6)
      have HEACH := Aside0.mk (impl_eachLane.yes 18 _ _ W6 eg2 hnum)
      have HS6 := Aside0.mk (Kd.S_below HO_4.out hb6)
      have HBB6 := Aside0.mk hbb6
      have HW6 := Aside0.mk hW6
      have LMc22 := Aside0.mk (show (colsTo l0 k).length ≤ 8 by rw [colsTo_len]; omega)
      obtain ⟨row, hrow⟩ : ∃ row, row = lanes8 (fun i => rd (rd_L1 l0 i) (k : Int)) := ⟨_, rfl⟩
      have HSN := Aside0.mk (colsTo_snoc l0 k)
      rw [← hrow] at HEACH HSN
      clear hb6 hs6 hc6 hbb6 hx6 hnum hW6 hlt hk8 hrow
      go_wp2_with (first | (rw [← HW6.out]; go_at_call 17; refine HEACH.out.mono ?_; rintro e w20 ⟨v20, rfl, ho, hb⟩; obtain ⟨Ao, co, eo⟩ := Kd.R_slice ho; subst eo; have n0_ := Aside0.mk (Kd.S_elder' HS6.out (Kd.R_base ho) hb); have n1_ := Aside0.mk (Kd.R_lower ho HBB6.out.size); have n2_ := Aside0.mk (below_step HBB6.out hb); clear HO_4 HB; have HO_4 := n0_; have HO_7 := n1_; have HB := n2_; clear n0_ n1_ n2_ ho hb) | ((with_reducible refine gate_builtin (b := .append) (xs := #[.tmp 17, .tmp 20]) rfl ?_); at_builtin; refine Kd.S_append (Kd.slice 3 (Kd.int .i64)) (w0 := W1) W1.heap.size rfl (.tmp 17) (.tmp 20) 22 30 (.slice none 0 0) 24 rfl Try.underlying22 info30 rfl (by decide) (by omega) u4 (colsTo l0 k) row [.slice Ao row.length co] (fun _ => True) (fun k_ => some k_ = (.slice Ao row.length co : Value).ownBlock) rfl rfl ?aP (fun k_ hk_ => ((Kd.R_mono (ok' := fun k_ => ((fun _ => True)) k_ ∧ some k_ ≠ (u4 : Value).ownBlock) (Kd.R_apart' (HO_7.out) (Kd.S_typed HO_4.out) (by decide)) (fun k_ hk => ⟨trivial, hk.2⟩))).1 k_ hk_.symm) ?aF ?aO ?aB ?aS ?aL ?_; (case aP => exact Kd.M_row (Kd.R_mono (Kd.R_tight rfl (Kd.R_mono (ok' := fun k_ => ((fun _ => True)) k_ ∧ some k_ ≠ (u4 : Value).ownBlock) (Kd.R_apart' (HO_7.out) (Kd.S_typed HO_4.out) (by decide)) (fun k_ hk => ⟨trivial, hk.2⟩))) (fun _ h_ => h_))); (case aB => exact (by repeat (first | (with_reducible first | exact HB.out | apply below_alloc | apply pw_below_drewN | apply below_drew1) | exact HB.out))); (case aF => exact (fun _ _ => trivial)); (case aO => exact (by (with_reducible repeat (first | apply Kd.S_alloc | apply Kd.S_drewN | apply Kd.S_drew)); exact Kd.S_mono HO_4.out (fun k_ hk => ⟨trivial, fun e_ => hk.2 e_⟩))); (case aS => exact (below_size (by repeat (first | (with_reducible first | exact HB.out | apply below_alloc | apply pw_below_drewN | apply below_drew1) | exact HB.out)))); (case aL => have := LMc22.out; omega); intro v283 w23 ho hb hg hat; rw [HSN.out] at ho; have n0_ := Aside0.mk (hb); have n1_ := Aside0.mk (ho); clear HB; clear HO_4; clear HO_7; have HB := n0_; have HO284 := n1_; clear n0_ n1_; clear ho hb hg hat))
      go_roundg (8 - (k + 1))
      case measure => have h1 := HK1.out; have h2 := HLT.out; omega
      case rel =>
        have h2 := HLT.out
        exact ⟨k + 1, by omega, by first | (rw [show wrap64 ((k : Int) + 1) = ((k + 1 : Nat) : Int) by unfold wrap64; omega]; done) | (simp only [show wrap64 ((k : Int) + 1) = ((k + 1 : Nat) : Int) by unfold wrap64; omega]) | rfl, ⟨by omega⟩, ⟨by (with_reducible repeat (first | apply Kd.S_alloc | apply Kd.S_drewN | apply Kd.S_drew)); exact HO284.out⟩, ⟨by repeat (first | (with_reducible first | exact HB.out | apply below_alloc | apply pw_below_drewN | apply below_drew1) | exact HB.out)⟩⟩
    · have hk : k = 8 := by omega
      subst hk
      have hlti : decide (((8 : Nat) : Int) < 8) = false := by decide
      have HOF := Aside0.mk (Kd.S_lower HO_4.out HB1.out.size)
      have HBF := Aside0.mk (below_step HB1.out HB.out)
      clear hlt hk8 HO_4 HB HK1
      go_wp2
      go_ret2
      exact ⟨_, rfl, by (with_reducible repeat (first | apply Kd.S_alloc | apply Kd.S_drewN | apply Kd.S_drew)); exact HOF.out, by repeat (first | (with_reducible first | exact HBF.out | apply below_alloc | apply pw_below_drewN | apply below_drew1) | exact HBF.out)⟩
theorem impl_TransposeTile.calls (A0 : Option Addr) (c0 : Nat) (l0 : List (List Int)) (r1 : List (List Int)) (r2 : Bool) (w : World) (hr0 : Kd.C (Kd.slice 3 (Kd.int .i64)) w A0 l0.length l0) (hc0 : l0.length ≤ c0) (h : impl_TransposeTile.f l0 = some (r1, r2)) :
    Calls Try.prog 7 #[.slice A0 l0.length c0] w fun e w' => ∃ v0_ : Value, e = .returned (.tuple #[v0_, .bool r2]) ∧ Kd.S (Kd.slice 3 (Kd.int .i64)) 30 w' w.heap.size (fun _ => True) v0_ r1 ∧ Below w.heap.size w w' := by
  have H := Option.some.inj h
  by_cases h8 : l0.length = 8
  · cases hb : l0.any (fun l => !(okRow l)) with
    | true =>
      rw [if_neg (by rw [hb]; simp)] at H
      cases H
      refine (tt_bad A0 c0 l0 w hr0 h8 hb).mono ?_
      rintro e w' ⟨rfl, hB⟩
      exact ⟨_, rfl, Kd.S_nil _ _ _ _ _, hB⟩
    | false =>
      rw [if_pos ⟨h8, hb⟩] at H
      cases H
      exact tt_run A0 c0 l0 w hr0 h8 hb
  · rw [if_neg (fun g => h8 g.1)] at H
    cases H
    refine (tt_short A0 c0 l0 w h8).mono ?_
    rintro e w' ⟨rfl, hB⟩
    exact ⟨_, rfl, Kd.S_nil _ _ _ _ _, hB⟩

end Go.Proofs.Ythkhgckagifmjaa.P
