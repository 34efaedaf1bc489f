-- Laid by this session's own program (wip/pp.py) over the seat's translation; Lean checks it.
import Derived.Test.YthkhgckagifmjaaGx0
import Derived.Test.YthkhgckagifmjaaGxImpl26
import Derived.Test.YthkhgckagifmjaaGxLawsSS
import Derived.Test.YthkhgckagifmjaaGxSpec26
import Derived.Shelf.Abstract
namespace Go.Proofs.Ythkhgckagifmjaa.P
open Go.RowKit Go.Proofs.YthkhgckagifmjaaW.PrintWords Go.Proofs.YthkhgckagifmjaaW.PrintLast Go.Proofs.YthkhgckagifmjaaW.PrintMore
attribute [local go_sem] max2_int min2_int max_two min_two max_three min_three max_four min_four   -- for this text's walks alone
set_option linter.unusedVariables false
set_option linter.unusedSimpArgs false

/-! ### laws_FnExactTransposeTile: function 3 -/
set_option maxHeartbeats 8000000 in
set_option maxRecDepth 100000 in
theorem laws_FnExactTransposeTile.over (k : Nat) (A0 : Option Addr) (c0 : Nat) (l0 : List (List Int)) (s : Int) (w : World) (hr0 : Kd.C (Kd.slice 3 (Kd.int .i64)) w A0 l0.length l0) (hc0 : l0.length ≤ c0) (hz : laws_szIntSS.f k l0 1048576 = some s) (hs0 : s < 0) :
    Calls Try.prog 3 #[.slice A0 l0.length c0] w fun e w' => e = .returned (.bool true) ∧ Below w.heap.size w w' := by
  have CSZ := Aside0.mk (fun (W : World) (hb : Below w.heap.size w W) => laws_szIntSS.calls k A0 c0 l0 1048576 s W (Kd.C_below hr0 hb) hc0 hz)
  have hsd : decide (s < 0) = true := decide_eq_true hs0
  clear hr0 hz hs0
  go_enter Try.func3, Try.ntmps3
  go_wp2_with (go_at_call 4; refine (CSZ.out _ (by repeat (first | exact Below.refl _ _ | apply below_alloc | apply pw_below_drewN | apply below_drew1))).mono ?_; rintro e w' ⟨rfl, ⟨n1, rfl⟩⟩)
  go_ret
  exact ⟨rfl, by repeat (first | exact Below.refl _ _ | apply below_alloc | apply pw_below_drewN | apply below_drew1)⟩
set_option maxHeartbeats 8000000 in
set_option maxRecDepth 100000 in
theorem laws_FnExactTransposeTile.same (k : Nat) (A0 : Option Addr) (c0 : Nat) (l0 V V2 x1 : List (List Int)) (b : Bool) (s k1 m : Int) (w : World) (hr0 : Kd.C (Kd.slice 3 (Kd.int .i64)) w A0 l0.length l0) (hc0 : l0.length ≤ c0) (hl : l0.length ≤ 1048576) (hV : V.length ≤ 1048576)
    (hz : laws_szIntSS.f k l0 1048576 = some s) (hs0 : 0 ≤ s) (hT : laws_toIntSS.f k l0 = some l0) (hS : spec_TransposeTile.f k l0 = some (V, b)) (hI : impl_TransposeTile.f l0 = some (V, b)) (hE : laws_eqIntSS.f k V V = some true) (hE0 : laws_eqIntSS.f k l0 l0 = some true)
    (hM : laws_markIntSS.f k l0 1 = some (k1, x1)) (hk1 : 0 ≤ k1) (hM2 : laws_markIntSS.f k V 1 = some (m, V2)) (hm : 0 ≤ m) (hH : laws_heldIntSS.f k V2 1 = some m) :
    Calls Try.prog 3 #[.slice A0 l0.length c0] w fun e w' => e = .returned (.bool true) ∧ Below w.heap.size w w' := by
  have CSZ := Aside0.mk (fun (W : World) (hb : Below w.heap.size w W) => laws_szIntSS.calls k A0 c0 l0 1048576 s W (Kd.C_below hr0 hb) hc0 hz)
  have CTO := Aside0.mk (fun (W : World) (hb : Below w.heap.size w W) => laws_toIntSS.calls k A0 c0 l0 l0 W (Kd.C_below hr0 hb) hc0 hT)
  have CSP := Aside0.mk (fun (W : World) (A : Option Addr) (c : Nat) h1 h2 => spec_TransposeTile.calls k A c l0 V b W h1 h2 hS)
  have CIM := Aside0.mk (fun (W : World) (A : Option Addr) (c : Nat) h1 h2 => impl_TransposeTile.calls A c l0 V b W h1 h2 hI)
  have CEQ := Aside0.mk (fun (W : World) (A A' : Option Addr) (c c' : Nat) h1 h2 h3 h4 => laws_eqIntSS.calls k A c V A' c' V true W h1 h2 h3 h4 hE)
  have CEQ0 := Aside0.mk (fun (W : World) (A A' : Option Addr) (c c' : Nat) h1 h2 h3 h4 => laws_eqIntSS.calls k A c l0 A' c' l0 true W h1 h2 h3 h4 hE0)
  have CMX := Aside0.mk (fun (P0_ : Nat → Prop) (u : Value) (W0 W : World) h1 h2 => laws_markIntSS.calls k P0_ u l0 1 k1 x1 W0 W h1 h2 hl hM)
  have CMG := Aside0.mk (fun (P0_ : Nat → Prop) (u : Value) (W0 W : World) h1 h2 => laws_markIntSS.calls k P0_ u V 1 m V2 W0 W h1 h2 hV hM2)
  have CHE := Aside0.mk (fun (W : World) (A : Option Addr) (c : Nat) h1 h2 => laws_heldIntSS.calls k A c V2 1 m W h1 h2 hH)
  have hsd : decide (s < 0) = false := decide_eq_false (by omega)
  have hkd : decide (k1 < 0) = false := decide_eq_false (by omega)
  have hmd : decide (m < 0) = false := decide_eq_false (by omega)
  have hmm : (m != m) = false := by simp
  have hbb : (b != b) = false := by simp
  clear hr0 hc0 hl hV hz hs0 hT hS hI hE hE0 hM hk1 hM2 hm hH
  go_enter Try.func3, Try.ntmps3
  go_wp2_with (go_at_call 4; refine (CSZ.out _ (by repeat (first | exact Below.refl _ _ | apply below_alloc | apply pw_below_drewN | apply below_drew1))).mono ?_; rintro e w' ⟨rfl, ⟨n1, rfl⟩⟩; clear CSZ)
  -- STEPS
  go_wp2_with (go_at_call 6; refine (CTO.out _ (by repeat (first | exact Below.refl _ _ | apply below_alloc | apply pw_below_drewN | apply below_drew1))).mono ?_; rintro e w1 ⟨v1, rfl, hs1, hb1⟩; obtain ⟨A1, c1, e1⟩ := Kd.S_slice hs1; subst e1; have B1 := Aside0.mk (below_step (by repeat (first | exact Below.refl _ _ | exact Below.refl _ _ | apply below_alloc | apply pw_below_drewN | apply below_drew1)) hb1 : Below w.heap.size w w1); have R1 := Aside0.mk (Kd.S_reads' hs1); clear hs1 hb1)
  go_wp2_with (go_at_call 5; refine (CSP.out _ A1 c1 (by repeat (first | exact R1.out.2.2 | (with_reducible refine Kd.C_alloc ?_ _) | (with_reducible refine Kd.C_drewN ?_ _) | (with_reducible refine Kd.C_drew ?_))) R1.out.2.1).mono ?_; rintro e w2 ⟨v2, rfl, hs2, hb2⟩; obtain ⟨A2, c2, e2⟩ := Kd.S_slice hs2; subst e2; have B2 := Aside0.mk (below_step (by repeat (first | exact B1.out | exact Below.refl _ _ | apply below_alloc | apply pw_below_drewN | apply below_drew1)) hb2 : Below w.heap.size w w2); have R2 := Aside0.mk (Kd.S_reads' hs2); clear hs2 hb2 R1 B1 CSP)
  go_wp2_with (go_at_call 6; refine (CTO.out _ (by repeat (first | exact B2.out | exact Below.refl _ _ | apply below_alloc | apply pw_below_drewN | apply below_drew1))).mono ?_; rintro e w3 ⟨v3, rfl, hs3, hb3⟩; obtain ⟨A3, c3, e3⟩ := Kd.S_slice hs3; subst e3; have B3 := Aside0.mk (below_step (by repeat (first | exact Below.refl _ _ | apply below_alloc | apply pw_below_drewN | apply below_drew1)) hb3 : Below w2.heap.size w2 w3); have R3 := Aside0.mk (Kd.S_reads' hs3); have X3 := Aside0.mk (Kd.S_lower hs3 (below_size (w := w2) (by repeat (first | exact Below.refl _ _ | apply below_alloc | apply pw_below_drewN | apply below_drew1)))); clear hs3 hb3)
  go_wp2_with (go_at_call 7; refine (CIM.out _ A3 c3 (by repeat (first | exact R3.out.2.2 | (with_reducible refine Kd.C_alloc ?_ _) | (with_reducible refine Kd.C_drewN ?_ _) | (with_reducible refine Kd.C_drew ?_))) R3.out.2.1).mono ?_; rintro e w4 ⟨v4, rfl, hs4, hb4⟩; obtain ⟨A4, c4, e4⟩ := Kd.S_slice hs4; subst e4; have B4 := Aside0.mk (below_step (by repeat (first | exact Below.refl _ _ | apply below_alloc | apply pw_below_drewN | apply below_drew1)) hb4 : Below w3.heap.size w3 w4); have G4 := Aside0.mk (Kd.S_lower hs4 (below_size (w := w3) (by repeat (first | exact Below.refl _ _ | apply below_alloc | apply pw_below_drewN | apply below_drew1)))); have R4 := Aside0.mk (Kd.S_reads' hs4); clear hs4 hb4)
  have B24 := Aside0.mk (below_step B3.out B4.out)
  have R24 := Aside0.mk (Kd.C_below R2.out.2.2 B24.out)
  have B04 := Aside0.mk (below_step B2.out B24.out)
  clear R3 B24
  go_wp2_with (go_at_call 8; refine (CEQ.out _ A4 A2 c4 c2 (by repeat (first | exact R4.out.2.2 | (with_reducible refine Kd.C_alloc ?_ _) | (with_reducible refine Kd.C_drewN ?_ _) | (with_reducible refine Kd.C_drew ?_))) R4.out.2.1 (by repeat (first | exact R24.out | (with_reducible refine Kd.C_alloc ?_ _) | (with_reducible refine Kd.C_drewN ?_ _) | (with_reducible refine Kd.C_drew ?_))) R2.out.2.1).mono ?_; rintro e w' ⟨rfl, ⟨n2, rfl⟩⟩)
  go_wp2_with (go_at_call 6; refine (CTO.out _ (by repeat (first | exact B04.out | exact Below.refl _ _ | apply below_alloc | apply pw_below_drewN | apply below_drew1))).mono ?_; rintro e w5 ⟨v5, rfl, hs5, hb5⟩; obtain ⟨A5, c5, e5⟩ := Kd.S_slice hs5; subst e5; have B5 := Aside0.mk (below_step (by repeat (first | exact Below.refl _ _ | apply below_alloc | apply pw_below_drewN | apply below_drew1)) hb5 : Below w4.heap.size w4 w5); have R5 := Aside0.mk (Kd.S_reads' hs5); clear hs5 hb5)
  have B35 := Aside0.mk (below_step B4.out B5.out)
  have X5 := Aside0.mk (Kd.S_old X3.out B35.out)
  have RX5 := Aside0.mk (Kd.S_reads' X5.out)
  go_wp2_with (go_at_call 8; refine (CEQ0.out _ A3 A5 c3 c5 (by repeat (first | exact RX5.out.2.2 | (with_reducible refine Kd.C_alloc ?_ _) | (with_reducible refine Kd.C_drewN ?_ _) | (with_reducible refine Kd.C_drew ?_))) RX5.out.2.1 (by repeat (first | exact R5.out.2.2 | (with_reducible refine Kd.C_alloc ?_ _) | (with_reducible refine Kd.C_drewN ?_ _) | (with_reducible refine Kd.C_drew ?_))) R5.out.2.1).mono ?_; rintro e w' ⟨rfl, ⟨n3, rfl⟩⟩)
  go_wp2_with (go_at_call 9; refine (CMX.out (fun k_ => k_ < w3.heap.size) _ w2 _ (by repeat (first | exact below_step B3.out B35.out | exact Below.refl _ _ | apply below_alloc | apply pw_below_drewN | apply below_drew1)) (Kd.S_below (Kd.S_mono X5.out (fun _ h_ => h_.2)) (by repeat (first | exact Below.refl _ _ | apply below_alloc | apply pw_below_drewN | apply below_drew1)))).mono ?_; rintro e w6 ⟨rfl, _, hb6, hk6⟩; have B6 := Aside0.mk hb6; have G6 := Aside0.mk (Kd.S_mono (ok' := fun _ => True) (Kd.S_lower (Kd.S_kept (Kd.S_bound (Kd.S_below (Kd.S_below G4.out B5.out) (w1 := _) (by repeat (first | exact Below.refl _ _ | apply below_alloc | apply pw_below_drewN | apply below_drew1)))) hk6 (fun k_ ho_ hn_ => by have h_ := ho_.2.1; omega)) (below_size B3.out)) (fun _ _ => trivial)); clear hb6 hk6)
  have RG6 := Aside0.mk (Kd.S_reads' G6.out)
  have R26 := Aside0.mk (Kd.C_below R2.out.2.2 B6.out)
  have B06 := Aside0.mk (below_step B2.out B6.out)
  clear X3 X5 RX5 R5 B5 B35 R24 B04 B4 B3 G4 R4
  go_wp2_with (go_at_call 8; refine (CEQ.out _ A4 A2 c4 c2 (by repeat (first | exact RG6.out.2.2 | (with_reducible refine Kd.C_alloc ?_ _) | (with_reducible refine Kd.C_drewN ?_ _) | (with_reducible refine Kd.C_drew ?_))) RG6.out.2.1 (by repeat (first | exact R26.out | (with_reducible refine Kd.C_alloc ?_ _) | (with_reducible refine Kd.C_drewN ?_ _) | (with_reducible refine Kd.C_drew ?_))) R2.out.2.1).mono ?_; rintro e w' ⟨rfl, ⟨n4, rfl⟩⟩)
  go_wp2_with (go_at_call 9; refine (CMG.out (fun _ => True) _ w2 _ (by repeat (first | exact B6.out | exact Below.refl _ _ | apply below_alloc | apply pw_below_drewN | apply below_drew1)) (Kd.S_below G6.out (by repeat (first | exact Below.refl _ _ | apply below_alloc | apply pw_below_drewN | apply below_drew1)))).mono ?_; rintro e w7 ⟨rfl, hs7, hb7, _⟩; have B7 := Aside0.mk hb7; have G7 := Aside0.mk hs7; have RG7 := Aside0.mk (Kd.S_reads' hs7); clear hs7 hb7)
  have R27 := Aside0.mk (Kd.C_below R2.out.2.2 B7.out)
  have B07 := Aside0.mk (below_step B2.out B7.out)
  have CH7 := Aside0.mk (fun (W : World) (hb : Below w7.heap.size w7 W) => (RG7.out.1 ▸ CHE.out W A4 c4 (Kd.C_below RG7.out.2.2 hb) (RG7.out.1 ▸ RG7.out.2.1) : Calls Try.prog 10 #[.slice A4 V.length c4, .int .i64 1] W fun e w' => e = .returned (.int .i64 m) ∧ Drawn0 W w'))
  go_wp2_with (go_at_call 10; refine (CH7.out _ (by repeat (first | exact Below.refl _ _ | apply below_alloc | apply pw_below_drewN | apply below_drew1))).mono ?_; rintro e w' ⟨rfl, ⟨n5, rfl⟩⟩)
  go_wp2_with (go_at_call 6; refine (CTO.out _ (by repeat (first | exact B07.out | exact Below.refl _ _ | apply below_alloc | apply pw_below_drewN | apply below_drew1))).mono ?_; rintro e w8 ⟨v8, rfl, hs8, hb8⟩; obtain ⟨A8, c8, e8⟩ := Kd.S_slice hs8; subst e8; have B8 := Aside0.mk (below_step (by repeat (first | exact Below.refl _ _ | apply below_alloc | apply pw_below_drewN | apply below_drew1)) hb8 : Below w7.heap.size w7 w8); have R8 := Aside0.mk (Kd.S_reads' hs8); clear hs8 hb8)
  go_wp2_with (go_at_call 7; refine (CIM.out _ A8 c8 (by repeat (first | exact R8.out.2.2 | (with_reducible refine Kd.C_alloc ?_ _) | (with_reducible refine Kd.C_drewN ?_ _) | (with_reducible refine Kd.C_drew ?_))) R8.out.2.1).mono ?_; rintro e w9 ⟨v9, rfl, hs9, hb9⟩; obtain ⟨A9, c9, e9⟩ := Kd.S_slice hs9; subst e9; have B9 := Aside0.mk (below_step (by repeat (first | exact B8.out | exact Below.refl _ _ | apply below_alloc | apply pw_below_drewN | apply below_drew1)) hb9 : Below w7.heap.size w7 w9); have R9 := Aside0.mk (Kd.S_reads' hs9); clear hs9 hb9)
  have R29 := Aside0.mk (Kd.C_below R27.out B9.out)
  have B09 := Aside0.mk (below_step B07.out B9.out)
  go_wp2_with (go_at_call 8; refine (CEQ.out _ A9 A2 c9 c2 (by repeat (first | exact R9.out.2.2 | (with_reducible refine Kd.C_alloc ?_ _) | (with_reducible refine Kd.C_drewN ?_ _) | (with_reducible refine Kd.C_drew ?_))) R9.out.2.1 (by repeat (first | exact R29.out | (with_reducible refine Kd.C_alloc ?_ _) | (with_reducible refine Kd.C_drewN ?_ _) | (with_reducible refine Kd.C_drew ?_))) R2.out.2.1).mono ?_; rintro e w' ⟨rfl, ⟨n6, rfl⟩⟩)
  go_wp2_with (go_at_call 10; refine (CH7.out _ (by repeat (first | exact B9.out | exact Below.refl _ _ | apply below_alloc | apply pw_below_drewN | apply below_drew1))).mono ?_; rintro e w' ⟨rfl, ⟨n7, rfl⟩⟩)
  go_ret
  exact ⟨rfl, (by repeat (first | exact B09.out | exact Below.refl _ _ | apply below_alloc | apply pw_below_drewN | apply below_drew1))⟩
/-- What the walk asks for, in plain numbers. -/
def laws_FnExactTransposeTile.Pure : Prop := ∀ (l0 : List (List Int)), l0.length ≤ maxLen → (∀ r ∈ l0, r.length ≤ maxLen) →
  ∃ (k : Nat) (s : Int), laws_szIntSS.f k l0 1048576 = some s ∧ (s < 0 ∨ (0 ≤ s ∧ l0.length ≤ 1048576 ∧ ∃ (V V2 x1 : List (List Int)) (b : Bool) (k1 m : Int), V.length ≤ 1048576 ∧ laws_toIntSS.f k l0 = some l0 ∧ spec_TransposeTile.f k l0 = some (V, b) ∧ impl_TransposeTile.f l0 = some (V, b) ∧ laws_eqIntSS.f k V V = some true ∧ laws_eqIntSS.f k l0 l0 = some true ∧ laws_markIntSS.f k l0 1 = some (k1, x1) ∧ 0 ≤ k1 ∧ laws_markIntSS.f k V 1 = some (m, V2) ∧ 0 ≤ m ∧ laws_heldIntSS.f k V2 1 = some m))
theorem laws_FnExactTransposeTile.walk (P : laws_FnExactTransposeTile.Pure) (A0 : Option Addr) (c0 : Nat) (l0 : List (List Int)) (w : World) (hr0 : Kd.C (Kd.slice 3 (Kd.int .i64)) w A0 l0.length l0) (hc0 : l0.length ≤ c0) (hl : l0.length ≤ maxLen) (hm : ∀ r ∈ l0, r.length ≤ maxLen) :
    Calls Try.prog 3 #[.slice A0 l0.length c0] w fun e w' => e = .returned (.bool true) ∧ Below w.heap.size w w' := by
  obtain ⟨k, s, hz, h | ⟨h0, h1, V, V2, x1, b, k1, m, hV, hT, hS, hI, hE, hE0, hM, hk1, hM2, hm0, hH⟩⟩ := P l0 hl hm
  · exact laws_FnExactTransposeTile.over k A0 c0 l0 s w hr0 hc0 hz h
  · exact laws_FnExactTransposeTile.same k A0 c0 l0 V V2 x1 b s k1 m w hr0 hc0 h1 hV hz h0 hT hS hI hE hE0 hM hk1 hM2 hm0 hH

end Go.Proofs.Ythkhgckagifmjaa.P
