-- Laid by this session's own program (wip/pp.py) over the seat's translation; Lean checks it.
import Derived.Test.YtpaoajlangbceaaGx0
import Derived.Test.YtpaoajlangbceaaGxImpl01
import Derived.Test.YtpaoajlangbceaaGxImpl03
import Derived.Test.YtpaoajlangbceaaGxLib
import Derived.Test.YtpaoajlangbceaaGxLibContains
import Derived.Maps.GroupsBeside
import Derived.Maps.OwnSet
import Derived.Maps.RangeWalk
import Derived.Shelf.Abstract
namespace Go.Proofs.Ytpaoajlangbceaa.P
open Go.RowKit Go.Proofs.YtpaoajlangbceaaW.PrintWords Go.Proofs.YtpaoajlangbceaaW.PrintLast Go.Proofs.YtpaoajlangbceaaW.PrintMore
attribute [local go_sem] max2_int min2_int max_two min_two max_three min_three max_four min_four   -- for this text's walks alone
set_option linter.unusedVariables false
set_option linter.unusedSimpArgs false

/-! ### impl_isAddress: function 91 -/
def impl_isAddress.f (a0 : Int) : Option (Bool) := (impl_within.f a0 0 4095).bind fun t170 => (some t170)
set_option maxHeartbeats 8000000 in
set_option maxRecDepth 100000 in
theorem impl_isAddress.calls (a0 : Int) (r : Bool) (w : World) (h : impl_isAddress.f a0 = some r) :
    Calls Try.prog 91 #[.int .i64 a0] w fun e w' => e = .returned (.bool r) ∧ Drawn0 w w' := by
  have H : ((impl_within.f a0 0 4095).bind fun t170 => (some t170)) = some r := h
  clear h
  replace H := Option.bind_eq_some_iff.mp H
  obtain ⟨t170, A20, H⟩ := H
  replace H : (some t170) = some r := H
  have A2 := Aside0.mk A20
  clear A20
  obtain rfl := Option.some.inj H
  go_enter Try.func91, Try.ntmps91
  go_wp2_with (first | ((with_reducible refine gate_callee (f := 84) rfl ?_); refine goesL_ (some 4) rfl rfl Try.func84 (by kernel_rfl) rfl #[.int .i64 a0, .int .i64 0, .int .i64 4095] rfl (by (try simp only [List.map_toArray, List.map_cons, List.map_nil]); first | done | rfl | (simp only [List.length_drop, List.length_take]; rfl)) ?_; (with_reducible refine (impl_within.calls a0 0 4095 t170 _ A2.out).mono ?_); rintro e w' ⟨rfl, ⟨nd, rfl⟩⟩; refine ⟨_, rfl, ?_⟩))
  go_ret
  exact ⟨by first | rfl | (simp; done) | (simp [*]; done), by repeat (first | exact Drawn0.refl _ | apply Drawn0.step)⟩

def isAddr (n : Int) : Bool := decide (0 ≤ n) && decide (n ≤ 4095)
theorem impl_isAddress.is (n : Int) : impl_isAddress.f n = some (isAddr n) := by
  unfold impl_isAddress.f impl_within.f isAddr
  by_cases h : n ≥ 0
  · simp [h]
  · have h' : ¬ 0 ≤ n := h
    simp [h']

/-! ### impl_AddressesOk: function 71 -/
theorem impl_AddressesOk.pred (w : World) : PredNum 90 #[] (fun n => !(isAddr n)) w := fun W x _ => by
  have hc := impl_isAddress.calls x (isAddr x) W (impl_isAddress.is x)
  show Calls Try.prog 90 #[.int .i64 x] W fun e w' => e = .returned (.bool (!(isAddr x))) ∧ Drawn0 W w'
  generalize isAddr x = b at hc ⊢
  have HC := Aside0.mk hc
  clear hc
  go_enter Try.func90, Try.ntmps90
  go_wp2_with (go_at_call 91; refine HC.out.mono ?_; rintro e w' ⟨rfl, ⟨nd, rfl⟩⟩)
  go_ret
  exact ⟨rfl, by repeat (first | exact Drawn0.refl _ | apply Drawn0.step)⟩
def impl_AddressesOk.f (l0 : List Int) : Option (Bool) := some (decide (l0.length = 8) && l0.all isAddr)
set_option maxHeartbeats 8000000 in
set_option maxRecDepth 100000 in
theorem impl_AddressesOk.calls (A0 : Option Addr) (c0 : Nat) (l0 : List Int) (r : Bool) (w : World) (hr0 : Kd.C (Kd.int .i64) w A0 l0.length l0) (hc0 : l0.length ≤ c0) (h : impl_AddressesOk.f l0 = some r) :
    Calls Try.prog 71 #[.slice A0 l0.length c0] w fun e w' => e = .returned (.bool r) ∧ Drawn0 w w' := by
  have H := Option.some.inj h
  clear h
  by_cases h8 : l0.length = 8
  · have hcall := slices_ContainsFunc_int.calls 90 #[] (fun n => !(isAddr n)) A0 c0 l0 w (enters_of Try.func90 (by kernel_rfl) rfl) (impl_AddressesOk.pred w) hr0 (by omega)
    rw [← all_any_not, h8] at H
    simp only [decide_true, Bool.true_and] at H
    have HA := Aside0.mk H
    clear H hr0
    generalize (l0.any fun n => !(isAddr n)) = b at hcall HA
    rw [h8] at hcall ⊢
    clear hc0 h8
    have HC := Aside0.mk hcall
    clear hcall
    go_enter Try.func71, Try.ntmps71
    go_wp2_with (go_at_call 89; refine HC.out.mono ?_; rintro e w' ⟨rfl, ⟨nd, rfl⟩⟩)
    go_ret
    exact ⟨by rw [← HA.out]; rfl, by repeat (first | exact Drawn0.refl _ | apply Drawn0.step)⟩
  · have h8' : ((l0.length : Int) == 8) = false := by simp; omega
    rw [show decide (l0.length = 8) = false from decide_eq_false h8] at H
    simp only [Bool.false_and] at H
    subst H
    clear h8 hr0 hc0
    generalize l0.length = n at h8' ⊢
    go_enter Try.func71, Try.ntmps71
    go_wp2
    go_ret
    exact ⟨rfl, by repeat (first | exact Drawn0.refl _ | apply Drawn0.step)⟩

/-! ### impl_areAsked: function 48 -/
def impl_areAsked.f (l0 : List Int) (a1 : Int) : Option (Bool) := (impl_AddressesOk.f l0).bind fun t171 => (if t171 = true then ((impl_IsMask.f a1).bind fun t172 => (some t172)) else (some false))
set_option maxHeartbeats 8000000 in
set_option maxRecDepth 100000 in
theorem impl_areAsked.calls (A0 : Option Addr) (c0 : Nat) (l0 : List Int) (a1 : Int) (r : Bool) (w : World) (hr0 : Kd.C (Kd.int .i64) w A0 l0.length l0) (hc0 : l0.length ≤ c0) (h : impl_areAsked.f l0 a1 = some r) :
    Calls Try.prog 48 #[.slice A0 l0.length c0, .int .i64 a1] w fun e w' => e = .returned (.bool r) ∧ Drawn0 w w' := by
  have HR0 := Aside0.mk hr0
  have HC0 := Aside0.mk hc0
  clear hr0 hc0
  have H : ((impl_AddressesOk.f l0).bind fun t171 => (if t171 = true then ((impl_IsMask.f a1).bind fun t172 => (some t172)) else (some false))) = some r := h
  clear h
  replace H := Option.bind_eq_some_iff.mp H
  obtain ⟨t171, A30, H⟩ := H
  replace H : (if t171 = true then ((impl_IsMask.f a1).bind fun t172 => (some t172)) else (some false)) = some r := H
  have A3 := Aside0.mk A30
  clear A30
  by_cases c4 : t171 = true
  · subst c4
    have H1 : ((impl_IsMask.f a1).bind fun t172 => (some t172)) = some r := by rw [if_pos rfl] at H; exact H
    clear H
    have H := H1
    clear H1
    replace H := Option.bind_eq_some_iff.mp H
    obtain ⟨t172, A50, H⟩ := H
    replace H : (some t172) = some r := H
    have A5 := Aside0.mk A50
    clear A50
    obtain rfl := Option.some.inj H
    go_enter Try.func48, Try.ntmps48
    go_wp2_with (first | ((with_reducible refine gate_callee (f := 71) rfl ?_); refine goesL_ (some 6) rfl rfl Try.func71 (by kernel_rfl) rfl #[.slice A0 l0.length c0] rfl (by (try simp only [List.map_toArray, List.map_cons, List.map_nil]); first | done | rfl | (simp only [List.length_drop, List.length_take]; rfl)) ?_; (with_reducible refine (impl_AddressesOk.calls _ _ l0 true _ ?side1 ?side2 A3.out).mono ?_); (case side1 => repeat (first | exact HR0.out | (with_reducible refine Kd.C_alloc ?_ _) | (with_reducible refine Kd.C_drewN ?_ _) | (with_reducible refine Kd.C_drew ?_))); (case side2 => exact HC0.out); rintro e w' ⟨rfl, ⟨nd, rfl⟩⟩; refine ⟨_, rfl, ?_⟩) | (go_at_call 69; (with_reducible refine (impl_IsMask.calls a1 t172 _ A5.out).mono ?_); rintro e w' ⟨rfl, ⟨nd, rfl⟩⟩))
    go_ret
    exact ⟨by first | rfl | (simp; done) | (simp [*]; done), by repeat (first | exact Drawn0.refl _ | apply Drawn0.step)⟩
  · replace c4 := Bool.eq_false_iff.mpr c4
    subst c4
    have H1 : (some false) = some r := by rw [if_neg (show ¬ (false = true) by decide)] at H; exact H
    clear H
    have H := H1
    clear H1
    obtain rfl := Option.some.inj H
    go_enter Try.func48, Try.ntmps48
    go_wp2_with (first | ((with_reducible refine gate_callee (f := 71) rfl ?_); refine goesL_ (some 6) rfl rfl Try.func71 (by kernel_rfl) rfl #[.slice A0 l0.length c0] rfl (by (try simp only [List.map_toArray, List.map_cons, List.map_nil]); first | done | rfl | (simp only [List.length_drop, List.length_take]; rfl)) ?_; (with_reducible refine (impl_AddressesOk.calls _ _ l0 false _ ?side1 ?side2 A3.out).mono ?_); (case side1 => repeat (first | exact HR0.out | (with_reducible refine Kd.C_alloc ?_ _) | (with_reducible refine Kd.C_drewN ?_ _) | (with_reducible refine Kd.C_drew ?_))); (case side2 => exact HC0.out); rintro e w' ⟨rfl, ⟨nd, rfl⟩⟩; refine ⟨_, rfl, ?_⟩))
    go_ret
    exact ⟨by first | rfl | (simp; done) | (simp [*]; done), by repeat (first | exact Drawn0.refl _ | apply Drawn0.step)⟩

/-! ### impl_ConflictDegree: function 14 -/
theorem ro_law : Go.Maps.Keyed Try.prog 3 := Go.Maps.int_keyed Try.underlying3
theorem ro_zeroS (w : World) : (zeroValue 22).run Try.prog w = .ok (.slice none 0 0) w := by kernel_rfl
theorem ro_zeroI (w : World) : (zeroValue 3).run Try.prog w = .ok (.int .i64 0) w := by kernel_rfl
/-- The addresses of a bank among some lanes, in the order of their coming, each once. -/
def bankIn (l : List Int) (b : Int) (t : List Int) : List Int := t.foldl (fun s i => if Int.tmod (rd l i) 8 = b ∧ ¬ rd l i ∈ s then s ++ [rd l i] else s) []
/-- The number of a lane's address in its bank. -/
def numIn (l t : List Int) (x : Int) : Nat := (bankIn l (Int.tmod (rd l x) 8) (t.filter fun y => decide (y < x))).idxOf (rd l x)
theorem bankIn_snoc (l : List Int) (b : Int) (t : List Int) (i : Int) : bankIn l b (t ++ [i]) = if Int.tmod (rd l i) 8 = b ∧ ¬ rd l i ∈ bankIn l b t then bankIn l b t ++ [rd l i] else bankIn l b t := by
  unfold bankIn
  rw [List.foldl_append]
  rfl
theorem bankIn_len (l : List Int) (b : Int) (t : List Int) : (bankIn l b t).length ≤ t.length := by
  unfold bankIn
  rw [← List.reverse_reverse t, List.foldl_reverse]
  induction t.reverse with
  | nil => simp
  | cons a t ih =>
    rw [List.foldr_cons]
    split
    · simp only [List.length_append, List.length_cons, List.length_nil, List.length_reverse] at ih ⊢
      omega
    · simp only [List.length_reverse, List.length_cons] at ih ⊢
      omega
theorem ro_rd (l : List Int) (i : Nat) (h : i < l.length) : l[i] = rd l (i : Int) := by
  unfold rd
  rw [show ((i : Int)).toNat = i from by omega, List.getD_eq_getElem?_getD, List.getElem?_eq_getElem h]
  rfl
theorem ro_take (t : List Int) (j : Nat) (h : j < t.length) : t.take (j + 1) = t.take j ++ [rd t (j : Int)] := by
  rw [List.take_add_one, List.getElem?_eq_getElem h, ro_rd t j h]
  rfl
theorem ro_before (t : List Int) (hs : t.Pairwise (· < ·)) (j : Nat) (h : j < t.length) : (t.filter fun y => decide (y < rd t (j : Int))) = t.take j := by
  have e : t = t.take j ++ t.drop j := (List.take_append_drop j t).symm
  have hp := List.pairwise_iff_getElem.1 hs
  rw [← ro_rd t j h]
  have e1 : (t.filter fun y => decide (y < t[j])) = (t.take j ++ t.drop j).filter fun y => decide (y < t[j]) := by rw [← e]
  rw [e1, List.filter_append, List.filter_eq_self.2, List.filter_eq_nil_iff.2, List.append_nil]
  · intro y hy
    obtain ⟨i, hi, rfl⟩ := List.mem_iff_getElem.1 hy
    rw [List.length_drop] at hi
    rw [List.getElem_drop, decide_eq_true_eq]
    by_cases h0 : i = 0
    · subst h0; simp
    · have := hp j (j + i) h (by omega) (by omega)
      omega
  · intro y hy
    obtain ⟨i, hi, rfl⟩ := List.mem_iff_getElem.1 hy
    rw [List.length_take] at hi
    rw [List.getElem_take, decide_eq_true_eq]
    exact hp i j (by omega) h (by omega)
theorem ro_num (l t : List Int) (hs : t.Pairwise (· < ·)) (j : Nat) (h : j < t.length) : numIn l t (rd t (j : Int)) = (bankIn l (Int.tmod (rd l (rd t (j : Int))) 8) (t.take j)).idxOf (rd l (rd t (j : Int))) := by
  unfold numIn
  rw [ro_before t hs j h]
theorem ro_fresh (t : List Int) (hs : t.Pairwise (· < ·)) (j : Nat) (h : j < t.length) : ¬ rd t (j : Int) ∈ t.take j := by
  intro hm
  rw [← ro_rd t j h] at hm
  obtain ⟨i, hi, e⟩ := List.mem_iff_getElem.1 hm
  rw [List.length_take] at hi
  rw [List.getElem_take] at e
  have := (List.pairwise_iff_getElem.1 hs) i j (by omega) h (by omega)
  omega
/-- Where slices.Index finds an element: at its first place; else at none. -/
theorem idx_go (zs : List Int) (a : Int) (hl : zs.length ≤ 1000) : ∀ (d k i : Nat), i + d = zs.length → d < k → slices_Index_int_int.l0 k zs a (zs.length : Int) (i : Int) = some (if a ∈ zs.drop i then (((zs.drop i).idxOf a + i : Nat) : Int) else -1) := by
  intro d
  induction d with
  | zero =>
    intro k i hi hk
    obtain ⟨k, rfl⟩ : ∃ m, k = m + 1 := ⟨k - 1, by omega⟩
    simp only [slices_Index_int_int.l0]
    rw [if_neg (by omega), List.drop_of_length_le (by omega)]
    simp
  | succ d ih =>
    intro k i hi hk
    obtain ⟨k, rfl⟩ : ∃ m, k = m + 1 := ⟨k - 1, by omega⟩
    simp only [slices_Index_int_int.l0]
    have e : zs.drop i = rd zs (i : Int) :: zs.drop (i + 1) := by rw [List.drop_eq_getElem_cons (by omega), ro_rd]
    rw [if_pos (by omega), if_pos (by omega), if_pos (by omega), e]
    by_cases c : a = rd zs (i : Int)
    · rw [if_pos c, if_pos (by rw [c]; simp), ← c, List.idxOf_cons_self]
      simp
    · rw [if_neg c, show wrap64 ((i : Int) + 1) = ((i + 1 : Nat) : Int) by unfold wrap64; omega, ih k (i + 1) (by omega) (by omega)]
      have hne : (rd zs (i : Int) == a) = false := by simpa using fun h => c h.symm
      by_cases m : a ∈ zs.drop (i + 1)
      · rw [if_pos m, if_pos (by simp [m]), List.idxOf_cons, hne]
        simp only [cond_false]
        congr 2
        omega
      · rw [if_neg m, if_neg (by simp [m, c])]
theorem idx_is (zs : List Int) (a : Int) (hl : zs.length ≤ 1000) : slices_Index_int_int.f (zs.length + 1) zs a = some (if a ∈ zs then ((zs.idxOf a : Nat) : Int) else -1) := by
  have h := idx_go zs a hl zs.length (zs.length + 1) 0 (by omega) (by omega)
  simpa [slices_Index_int_int.f] using h
theorem ro_key (x : Int) : Go.WideAt.IsKeyLit (.int .i64 x) := trivial
/-- The map of the banks, read: for each bank its addresses. -/
def Banked (l : List Int) (t : List Int) (D : DataW Unit) : Prop := ∀ b : Int, D.atKey (.int .i64 b) .nil = (if bankIn l b t = [] then .nil else .slice (Go.ChangeShapes.lits .i64 (bankIn l b t)) [])
/-- The map of the numbers, read: for each of the lanes its number. -/
def Numbered (l : List Int) (t s : List Int) (D : DataW Unit) : Prop := ∀ x : Int, (Go.Maps.has D (.int .i64 x) = decide (x ∈ s)) ∧ (x ∈ s → ∀ z, D.atKey (.int .i64 x) z = .lit (.int .i64 ((numIn l t x : Nat) : Int)))
theorem banked_start (l : List Int) : Banked l [] (.map []) := fun b => rfl
theorem numbered_start (l t : List Int) : Numbered l t [] (.map []) := fun x => ⟨rfl, fun h => by cases h⟩
theorem lits_inj : ∀ {zs zs' : List Int}, Go.ChangeShapes.lits (H := Unit) .i64 zs = Go.ChangeShapes.lits .i64 zs' → zs = zs'
  | [], [], _ => rfl
  | [], _ :: _, h => by simp [Go.ChangeShapes.lits] at h
  | _ :: _, [], h => by simp [Go.ChangeShapes.lits] at h
  | a :: zs, b :: zs', h => by
    simp only [Go.ChangeShapes.lits, List.map_cons, List.cons.injEq, DataW.lit.injEq, Lit.int.injEq, true_and] at h
    rw [h.1, lits_inj h.2]
theorem banked_at {l t : List Int} {D : DataW Unit} (h : Banked l t D) {w : World} {base : Nat} {e : TypeId} {b : Int} {v : Value} {zs : List Int} (hat : D.atKey (.int .i64 b) .nil = rowDatum .i64 v zs) (hoi : w.ownsInts base e .i64 v zs) : zs = bankIn l b t := by
  rw [h b] at hat
  rcases hoi.datum (H := Unit) with ⟨h1, h2⟩ | h1
  · rw [h1] at hat
    by_cases c : bankIn l b t = []
    · rw [h2, c]
    · rw [if_neg c] at hat; cases hat
  · rw [h1] at hat
    by_cases c : bankIn l b t = []
    · rw [if_pos c] at hat; cases hat
    · rw [if_neg c] at hat
      injection hat with h2 _
      exact (lits_inj h2).symm
theorem banked_found {l t : List Int} {D : DataW Unit} (h : Banked l t D) (x : Int) (hf : rd l x ∈ bankIn l (Int.tmod (rd l x) 8) t) : Banked l (t ++ [x]) D := fun b => by
  have e : bankIn l b (t ++ [x]) = bankIn l b t := by rw [bankIn_snoc, if_neg (fun hc => hc.2 (by rw [← hc.1]; exact hf))]
  rw [e]
  exact h b
theorem banked_put {l t : List Int} {D : DataW Unit} (h : Banked l t D) (hm : Go.Maps.IsMap D) (x : Int) (hf : ¬ rd l x ∈ bankIn l (Int.tmod (rd l x) 8) t) : Banked l (t ++ [x]) (D.put (.int .i64 (Int.tmod (rd l x) 8)) (.slice (Go.ChangeShapes.lits .i64 (bankIn l (Int.tmod (rd l x) 8) t ++ [rd l x])) [])) := fun b => by
  by_cases c : Int.tmod (rd l x) 8 = b
  · subst c
    have e : bankIn l (Int.tmod (rd l x) 8) (t ++ [x]) = bankIn l (Int.tmod (rd l x) 8) t ++ [rd l x] := by rw [bankIn_snoc, if_pos ⟨rfl, hf⟩]
    rw [e, Go.Maps.atKey_put_same hm (ro_key _), if_neg (by simp)]
  · have e : bankIn l b (t ++ [x]) = bankIn l b t := by rw [bankIn_snoc, if_neg (fun hc => c hc.1)]
    rw [e, Go.Maps.atKey_put_other (by intro e; injection e with _ e2; exact c e2.symm)]
    exact h b
theorem numbered_put {l t s : List Int} {D : DataW Unit} (h : Numbered l t s D) (hm : Go.Maps.IsMap D) (x : Int) : Numbered l t (s ++ [x]) (D.put (.int .i64 x) (.lit (.int .i64 ((numIn l t x : Nat) : Int)))) := fun y => by
  by_cases c : y = x
  · subst c
    rw [Go.Maps.has_put_same hm (ro_key _)]
    exact ⟨by simp, fun _ z => Go.Maps.atKey_put_same hm (ro_key _) _ _⟩
  · have hne : Lit.int .i64 y ≠ Lit.int .i64 x := by intro e; injection e with _ e2; exact c e2
    rw [Go.Maps.has_put_other hne, (h y).1]
    refine ⟨by simp [c], fun hy z => ?_⟩
    rw [Go.Maps.atKey_put_other hne]
    exact (h y).2 (by simpa [c] using hy) z
theorem og_map {w : World} {P : Program} {k : TypeId} {base : Nat} {e : TypeId} {q : IntKind} {b n : Nat} {D : DataW Unit} (h : w.ownsGroups P k base e q b n D) : Go.Maps.IsMap D := by
  obtain ⟨es, clock, _, _, _, hD, _⟩ := h
  exact ⟨_, hD⟩
theorem om_map {w : World} {P : Program} {k : TypeId} {R : Value → Option (DataW Unit × List MemPlace)} {b n : Nat} {D : DataW Unit} (h : w.ownsMap P k R b n D) : Go.Maps.IsMap D := by
  obtain ⟨es, clock, _, _, _, hD⟩ := h
  exact ⟨_, hD⟩
theorem og_drewN {w : World} {P : Program} {k : TypeId} {base : Nat} {e : TypeId} {q : IntKind} {b n : Nat} {D : DataW Unit} (h : w.ownsGroups P k base e q b n D) (m : Nat) : (w.drewN m).ownsGroups P k base e q b n D := h
theorem om_drewN {w : World} {P : Program} {k : TypeId} {R : Value → Option (DataW Unit × List MemPlace)} {b n : Nat} {D : DataW Unit} (h : w.ownsMap P k R b n D) (m : Nat) : (w.drewN m).ownsMap P k R b n D := h
theorem og_mono {w : World} {P : Program} {k : TypeId} {base : Nat} {e : TypeId} {q : IntKind} {b n : Nat} {D : DataW Unit} (h : w.ownsGroups P k base e q b n D) {m : Nat} (hm : n ≤ m) : w.ownsGroups P k base e q b m D := by
  obtain ⟨es, clock, hb, F, hs, hD, hbb, hlen, hap⟩ := h
  exact ⟨es, clock, hb, F, Nat.le_trans hs hm, hD, hbb, fun x hx zs ho => Nat.le_trans (hlen x hx zs ho) hm, hap⟩
/-- An empty map is one of rows from wherever on. -/
theorem og_empty {w : World} {P : Program} {k : TypeId} {base : Nat} {e : TypeId} {q : IntKind} {b : Nat} (hb : w.heap[b]? = some (.map #[] 0)) (hlt : b < base) : w.ownsGroups (H := Unit) P k base e q b 0 (.map []) :=
  ⟨#[], 0, hb, ⟨by simp, Go.MapKept.stamped_empty 0, by simp⟩, Nat.le_refl _, rfl, hlt, by simp, by simp⟩
theorem ro_row {w : World} {base : Nat} {e : TypeId} {v : Value} {zs : List Int} (h : w.ownsInts base e .i64 v zs) : Kd.R (Kd.int .i64) e w base (fun _ => True) v zs := Kd.R_of_own h.1 (fun _ _ => trivial)
set_option maxHeartbeats 8000000 in
set_option maxRecDepth 100000 in
theorem impl_roundsOf.calls (k : Nat) (A0 : Option Addr) (c0 : Nat) (l0 : List Int) (a1 : Int) (t : List Int) (w : World) (hr0 : Kd.C (Kd.int .i64) w A0 l0.length l0) (h8 : 8 ≤ l0.length) (ht : impl_LanesOf.f k a1 = some t) (hs : t.Pairwise (· < ·)) (hm : ∀ x ∈ t, 0 ≤ x ∧ x < 8) (hl : t.length ≤ 8) (ha : ∀ i : Int, 0 ≤ i → i < 8 → 0 ≤ rd l0 i ∧ rd l0 i ≤ 4095) :
    Calls Try.prog 49 #[.slice A0 l0.length c0, .int .i64 a1] w fun e w' => ∃ (b : Nat) (D : DataW Unit), e = .returned (.map (some b)) ∧ w'.ownsMap Try.prog 3 (plainElem Try.prog 3) b t.length D ∧ Numbered l0 t t D ∧ Below w.heap.size w w' ∧ w.heap.size ≤ b := by
  have hmm := @run_makeMap Try.prog
  obtain ⟨i0, hi, hz0, hz1, hz2⟩ := info_parts info3
  have HR0 := Aside0.mk hr0
  have H8 := Aside0.mk h8
  have HT := Aside0.mk ht
  have HS := Aside0.mk hs
  have HM := Aside0.mk hm
  have HL := Aside0.mk hl
  have HA := Aside0.mk ha
  clear hr0 h8 ht hs hm hl ha
  go_enter Try.func49, Try.ntmps49
  go_wp2_with (go_at_call 76; refine (impl_LanesOf.calls k a1 t _ HT.out).mono ?_; rintro e wb ⟨v0_, rfl, ho, hb⟩; obtain ⟨As, cs, es⟩ := Kd.R_slice ho; subst es; have HO := Aside0.mk ho; have HB := Aside0.mk hb; clear ho hb)
  have hz2w : ((w.alloc (Obj.map #[] 0)).alloc (Obj.map #[] 0)).heap.size = w.heap.size + 2 := by simp
  have hb0 : Below w.heap.size w wb := below_step (by repeat (first | exact Below.refl _ _ | apply below_alloc)) HB.out
  have hsz : w.heap.size + 2 ≤ wb.heap.size := by have := HB.out.size; rw [hz2w] at this; exact this
  have hseen : wb.heap[w.heap.size]? = some (.map #[] 0) := (HB.out.block _ (by rw [hz2w]; omega)).trans (((Go.MapKept.heap_alloc _ _).2 _ (by simp)).trans (Go.MapKept.heap_alloc w _).1)
  have hout : wb.heap[w.heap.size + 1]? = some (.map #[] 0) := (HB.out.block _ (by rw [hz2w]; omega)).trans (by have h := (Go.MapKept.heap_alloc (w.alloc (Obj.map #[] 0)) (Obj.map #[] 0)).1; simpa using h)
  have hT : Kd.R (Kd.int .i64) 3 wb w.heap.size (fun k_ => w.heap.size + 2 ≤ k_ ∧ k_ < wb.heap.size) (.slice As t.length cs) t := by
    have h := Kd.R_bound HO.out
    rw [hz2w] at h
    exact Kd.R_lower (Kd.R_mono h (fun k_ hk => ⟨hk.2.1, hk.2.2.1⟩)) (by omega)
  have hG : ∃ D, wb.ownsGroups (H := Unit) Try.prog 3 wb.heap.size 3 .i64 w.heap.size 0 D ∧ Banked l0 (t.take 0) D := ⟨_, og_empty hseen (by omega), banked_start l0⟩
  have hN : ∃ D, wb.ownsMap Try.prog 3 (plainElem (H := Unit) Try.prog 3) (w.heap.size + 1) 0 D ∧ Numbered l0 t (t.take 0) D := ⟨_, ⟨#[], 0, hout, ⟨by simp, Go.MapKept.stamped_empty 0, by simp⟩, Nat.le_refl _, rfl⟩, numbered_start l0 t⟩
  have HB0 := Aside0.mk hb0
  have HSZ := Aside0.mk hsz
  have HTT := Aside0.mk hT
  have HG := Aside0.mk hG
  have HN := Aside0.mk hN
  clear hz2w hb0 hsz hseen hout hT hG hN HO HB
  go_loopg [16] t.length (fun kq v16 w' => ∃ j : Nat, j ≤ t.length ∧ v16 = .int .i64 (j : Int) ∧ Aside0 (t.length - j ≤ kq) ∧ Aside0 (∃ D, w'.ownsGroups (H := Unit) Try.prog 3 wb.heap.size 3 .i64 w.heap.size j D ∧ Banked l0 (t.take j) D) ∧ Aside0 (∃ D, w'.ownsMap Try.prog 3 (plainElem (H := Unit) Try.prog 3) (w.heap.size + 1) j D ∧ Numbered l0 t (t.take j) D) ∧ Aside0 (Kd.R (Kd.int .i64) 3 w' w.heap.size (fun k_ => w.heap.size + 2 ≤ k_ ∧ k_ < wb.heap.size) (.slice As t.length cs) t) ∧ Aside0 (Below w.heap.size w w') ∧ Aside0 (wb.heap.size ≤ w'.heap.size))
  case atStart => exact ⟨0, Nat.zero_le _, (by first | rfl | (simp; done)), ⟨by omega⟩, HG, HN, HTT, HB0, ⟨Nat.le_refl _⟩⟩
  case round =>
    clear HG HN HTT HB0
    obtain ⟨j, hj, rfl, HK1, HG, HN, HTT, HB0, HS2⟩ := hrel
    by_cases hlt : j < t.length
    · have HLT := Aside0.mk hlt
      have c1 : decide ((j : Int) < (t.length : Int)) = true := decide_eq_true (by omega)
      have p1 : 0 ≤ (j : Int) := by omega
      have q1 : (j : Int) < (t.length : Int) := by omega
      obtain ⟨ad1, e1, hx1⟩ := Kd.at_int (Kd.R_reads' HTT.out).2.2 (j : Int) p1 q1
      cases e1
      rw [Int.toNat_natCast] at hx1
      have hmem : rd t (j : Int) ∈ t := by rw [← ro_rd t j hlt]; exact List.getElem_mem _
      obtain ⟨x0, x8⟩ := HM.out _ hmem
      have q2 : rd t (j : Int) < (l0.length : Int) := by have := H8.out; omega
      obtain ⟨ad2, e2, hx2⟩ := Kd.at_int (Kd.C_below HR0.out HB0.out) (rd t (j : Int)) x0 q2
      cases e2
      obtain ⟨DG, hdg, hbk⟩ := HG.out
      obtain ⟨DN, hdn, hnm⟩ := HN.out
      have htk := ro_take t j hlt
      have hnum := ro_num l0 t HS.out j hlt
      have hfr := ro_fresh t HS.out j hlt
      obtain ⟨x, hxd⟩ : ∃ x, x = rd t (j : Int) := ⟨_, rfl⟩
      obtain ⟨a, had⟩ : ∃ a, a = rd l0 x := ⟨_, rfl⟩
      rw [← hxd] at hx1 hx2 x0 x8 q2 htk hnum hfr hmem
      rw [← had] at hx2 hnum
      obtain ⟨S, hsd⟩ : ∃ S, S = bankIn l0 (a.tmod 8) (t.take j) := ⟨_, rfl⟩
      have hsl : S.length ≤ j := by rw [hsd]; exact Nat.le_trans (bankIn_len _ _ _) (by rw [List.length_take]; omega)
      rw [← hsd] at hnum
      have hl8 := HL.out
      have hkey : keyOf Try.prog 3 (.int .i64 (a.tmod 8)) = some (.int .i64 (a.tmod 8)) := Go.Maps.keyOf_int_mk Try.underlying3 (WalkArith.wf_i64 (by have := Int.tmod_lt_of_pos a (b := 8) (by omega); have := Int.lt_tmod_of_pos a (b := 8) (by omega); omega))
      have hidx := idx_is S a (by omega)
      have HDG := Aside0.mk hdg
      have HDN := Aside0.mk hdn
      have HKEY := Aside0.mk hkey
      have HTK := Aside0.mk htk
      have HNUM := Aside0.mk hnum
      have HSD := Aside0.mk hsd
      have HSL := Aside0.mk hsl
      have HBK := Aside0.mk hbk
      have HNM := Aside0.mk hnm
      have HXD := Aside0.mk hxd
      have HAD := Aside0.mk had
      have HWA := Aside0.mk (show (Lit.int .i64 a).wf = true from WalkArith.wf_i64 (by rw [had]; have := HA.out x x0 x8; omega))
      have HKX := Aside0.mk (show keyOf Try.prog 3 (.int .i64 x) = some (.int .i64 x) from Go.Maps.keyOf_int_mk Try.underlying3 (WalkArith.wf_i64 (by omega)))
      have HJ8 := Aside0.mk (show j ≤ 8 by omega)
      clear hdg hdn hkey htk hnum hsd hsl hbk hnm hxd had hlt hmem hfr hl8 hj
      by_cases hf : a ∈ S
      · rw [if_pos hf] at hidx
        have HF := Aside0.mk hf
        obtain ⟨r, hr⟩ : ∃ r : Int, r = ((S.idxOf a : Nat) : Int) := ⟨_, rfl⟩
        rw [← hr] at hidx
        have hr0 : decide (r < 0) = false := decide_eq_false (by omega)
        have HIDX := Aside0.mk hidx
        have HR := Aside0.mk hr
        have HWF := Aside0.mk (show (Lit.int .i64 r).wf = true from WalkArith.wf_i64 (by have h1 := List.idxOf_le_length (a := a) (l := S); have h2 := HSL.out; have h3 := HJ8.out; omega))
        clear hf hidx hr
        go_wp2_with (first | (at_lookup; refine wpList_lookup_groups _ rfl _ _ 62 rfl 3 22 3 .i64 ro_law Try.underlying62 (ro_zeroS _) wb.heap.size w.heap.size j DG rfl HDG.out (by have := HJ8.out; unfold maxLen; omega) (.int .i64 (a.tmod 8)) (.int .i64 (a.tmod 8)) rfl HKEY.out ?_; intro v zs hat hoi hzl hback; obtain rfl : S = zs := HSD.out.trans (banked_at HBK.out hat hoi).symm; have hv := ro_row hoi; obtain ⟨Ao, co, eo⟩ := Kd.R_slice hv; subst eo; have HV := Aside0.mk hv; clear hat hoi hzl hback hv) | (go_at_call 77; refine (slices_Index_int_int.calls _ Ao co S a r _ (Kd.R_reads' HV.out).2.2 (Kd.R_reads' HV.out).2.1 HIDX.out).mono ?_; rintro e w' ⟨rfl, ⟨nd, rfl⟩⟩) | (at_mapUpdate; refine wpList_mapUpdate_own _ rfl _ _ _ 48 rfl 3 3 ro_law Try.underlying48 _ (w.heap.size + 1) j DN rfl (om_drewN HDN.out _) (by have := HJ8.out; unfold maxLen; omega) _ _ _ rfl rfl HKX.out _ [] (plainElem_int Try.underlying3 HWF.out) ?_; intro w1 hown1 hgrow1; have HO1 := Aside0.mk hown1; have HG1 := Aside0.mk hgrow1; clear hown1 hgrow1))
        go_roundg (t.length - (j + 1))
        case measure => have h1 := HK1.out; have h2 := HLT.out; omega
        case rel =>
          have h8 := HJ8.out
          have hsz := HSZ.out
          have hs2 := HS2.out
          have hlt := HLT.out
          have hgm : ∀ j_ : Nat, some (w.heap.size + 1) = some j_ → j_ < wb.heap.size := fun j_ e_ => by cases e_; omega
          exact ⟨j + 1, HLT.out, by first | (rw [show wrap64 ((j : Int) + 1) = ((j + 1 : Nat) : Int) by unfold wrap64; omega]; done) | (simp only [show wrap64 ((j : Int) + 1) = ((j + 1 : Nat) : Int) by unfold wrap64; omega]) | rfl, ⟨by omega⟩, ⟨DG, og_mono ((og_drewN HDG.out nd).kept HG1.out (by simp) ((og_drewN HDG.out nd).rowsAbove hgm)) (by omega), by rw [HTK.out]; exact banked_found HBK.out x (by rw [← HAD.out, ← HSD.out]; exact HF.out)⟩, ⟨_, HO1.out, by rw [HTK.out]; rw [HR.out, ← HNUM.out]; exact numbered_put HNM.out (om_map HDN.out) x⟩, ⟨Kd.R_grown (Kd.R_drewN HTT.out nd) HG1.out (fun k_ hk e_ => by cases e_; omega)⟩, ⟨(pw_below_drewN HB0.out nd).grown HG1.out (by show w.heap.size ≤ wr.heap.size; omega) (fun k_ e_ => by cases e_; omega)⟩, ⟨Nat.le_trans hs2 HG1.out.size⟩⟩
      · rw [if_neg hf] at hidx
        have HF := Aside0.mk hf
        have HIDX := Aside0.mk hidx
        clear hf hidx
        have tok1 : True := trivial
        have tok2 : True := trivial
        have HWF := Aside0.mk (show (Lit.int .i64 (S.length : Int)).wf = true from WalkArith.wf_i64 (by have h2 := HSL.out; have h3 := HJ8.out; omega))
        go_wp2_with (first | (at_lookup; have _t := tok1; refine wpList_lookup_groups _ rfl _ _ 62 rfl 3 22 3 .i64 ro_law Try.underlying62 (ro_zeroS _) wb.heap.size w.heap.size j DG rfl HDG.out (by have := HJ8.out; unfold maxLen; omega) (.int .i64 (a.tmod 8)) (.int .i64 (a.tmod 8)) rfl HKEY.out ?_; intro v zs hat hoi hzl hback; obtain rfl : S = zs := HSD.out.trans (banked_at HBK.out hat hoi).symm; have hv := ro_row hoi; obtain ⟨Ao, co, eo⟩ := Kd.R_slice hv; subst eo; have HV := Aside0.mk hv; clear hat hoi hzl hback hv; clear tok1) | (at_lookup; have _t := tok2; refine wpList_lookup_groups _ rfl _ _ 62 rfl 3 22 3 .i64 ro_law Try.underlying62 (ro_zeroS _) wb.heap.size w.heap.size j DG rfl (og_drewN HDG.out _) (by have := HJ8.out; unfold maxLen; omega) (.int .i64 (a.tmod 8)) (.int .i64 (a.tmod 8)) rfl HKEY.out ?_; intro v zs hat hoi hzl hback; obtain rfl : S = zs := HSD.out.trans (banked_at HBK.out hat hoi).symm; have hv := ro_row hoi; obtain ⟨Ao2, co2, eo⟩ := Kd.R_slice hv; subst eo; clear hat hoi hzl hback hv; clear tok2) | (at_lookup; refine wpList_lookup_groups _ rfl _ _ 62 rfl 3 22 3 .i64 ro_law Try.underlying62 (ro_zeroS _) wb.heap.size w.heap.size j DG rfl (og_drewN HDG.out _) (by have := HJ8.out; unfold maxLen; omega) (.int .i64 (a.tmod 8)) (.int .i64 (a.tmod 8)) rfl HKEY.out ?_; intro v zs hat hoi hzl hback; obtain rfl : S = zs := HSD.out.trans (banked_at HBK.out hat hoi).symm; have HOI := Aside0.mk hoi; have HBACK := Aside0.mk hback; clear hat hoi hzl hback) | (go_at_call 77; refine (slices_Index_int_int.calls _ Ao co S a (-1) _ (Kd.R_reads' HV.out).2.2 (Kd.R_reads' HV.out).2.1 HIDX.out).mono ?_; rintro e w' ⟨rfl, ⟨nd, rfl⟩⟩) | (at_builtin; refine wpList_append_own_at _ rfl _ _ 22 rfl wb.heap.size 3 i0 (.int .i64 0) 1 8 Try.underlying22 hi hz0 hz1 hz2 rfl (by decide) v _ _ rfl (HOI.out.1.alloc _) _ 1 1 [.int .i64 a] rfl rfl (cell_one_new _ _ _) (ints_oneCell .i64 [a]) (by have := HSL.out; have := HJ8.out; unfold maxLen; omega) (by have := HSL.out; have := HJ8.out; omega) (by have := HS2.out; simp; omega) ?_; intro v' w3 hown' hgrow hnil hloc; have HOWN' := Aside0.mk hown'; have HGR := Aside0.mk hgrow; have HLOC := Aside0.mk hloc; clear hown' hgrow hnil hloc) | (at_mapUpdate; refine wpList_mapUpdate_back (v' := v') _ rfl _ _ _ 62 rfl HBACK.out rfl rfl rfl ((World.grownBy_alloc _ _ _).trans HGR.out) (HOI.out.appended HOWN'.out HWA.out) (by have := HSL.out; simp; omega) (HLOC.out.imp id (fun h => ⟨_, h, by simp⟩)) ?_; intro w2 hown2 hgrow2; have HO2 := Aside0.mk hown2; have HG2 := Aside0.mk hgrow2; clear hown2 hgrow2) | (at_mapUpdate; have hall : (wr.drewN nd).grownBy w3 v.ownBlock := (World.grownBy_alloc _ _ _).trans HGR.out; have hne : some (w.heap.size + 1) ≠ v.ownBlock := fun e_ => (by have h1 := (HOI.out.1.lt _ e_.symm).1; have h2 := HSZ.out; omega); refine wpList_mapUpdate_own _ rfl _ _ _ 48 rfl 3 3 ro_law Try.underlying48 _ (w.heap.size + 1) j DN rfl (((om_drewN HDN.out nd).kept hall hne).kept HG2.out (by simp)) (by have := HJ8.out; unfold maxLen; omega) (.int .i64 x) (.int .i64 (S.length : Int)) _ rfl rfl HKX.out _ [] (plainElem_int Try.underlying3 HWF.out) ?_; intro w1 hown1 hgrow1; have HO1 := Aside0.mk hown1; have HG1 := Aside0.mk hgrow1; have HALL := Aside0.mk hall; clear hown1 hgrow1 hall hne))
        go_roundg (t.length - (j + 1))
        case measure => have h1 := HK1.out; have h2 := HLT.out; omega
        case rel =>
          have h8 := HJ8.out
          have hsz := HSZ.out
          have hs2 := HS2.out
          have hlt := HLT.out
          have hall := HALL.out
          have hvb : ∀ j_ : Nat, v.ownBlock = some j_ → wb.heap.size ≤ j_ := fun j_ e_ => (HOI.out.1.lt _ e_).1
          have hgm : ∀ j_ : Nat, some (w.heap.size + 1) = some j_ → j_ < wb.heap.size := fun j_ e_ => by cases e_; omega
          have hbt : Banked l0 (t.take (j + 1)) (DG.put (.int .i64 (a.tmod 8)) (rowDatum .i64 v' (S ++ [a]))) := by
            rw [(HOI.out.appended HOWN'.out HWA.out).datum_pos (by simp), HTK.out]
            have h := banked_put HBK.out (og_map HDG.out) x (by rw [← HAD.out, ← HSD.out]; exact HF.out)
            rw [← HAD.out, ← HSD.out] at h
            exact h
          have h3 : Below w.heap.size w w3 := (pw_below_drewN HB0.out nd).grown hall (by show w.heap.size ≤ wr.heap.size; omega) (fun k_ e_ => by have := hvb k_ e_; omega)
          have h4 : Below w.heap.size w w2 := h3.grown HG2.out (by exact h3.size) (fun k_ e_ => by cases e_; omega)
          exact ⟨j + 1, HLT.out, by first | (rw [show wrap64 ((j : Int) + 1) = ((j + 1 : Nat) : Int) by unfold wrap64; omega]; done) | (simp only [show wrap64 ((j : Int) + 1) = ((j + 1 : Nat) : Int) by unfold wrap64; omega]) | rfl, ⟨by omega⟩, ⟨_, HO2.out.kept HG1.out (by simp) (HO2.out.rowsAbove hgm), hbt⟩, ⟨_, HO1.out, by rw [HTK.out, show (S.length : Int) = ((numIn l0 t x : Nat) : Int) by rw [HNUM.out, List.idxOf_eq_length HF.out]]; exact numbered_put HNM.out (om_map HDN.out) x⟩, ⟨Kd.R_grown (Kd.R_grown (Kd.R_grown (Kd.R_drewN HTT.out nd) hall (fun k_ hk e_ => by have := hvb k_ e_.symm; omega)) HG2.out (fun k_ hk e_ => by cases e_; omega)) HG1.out (fun k_ hk e_ => by cases e_; omega)⟩, ⟨h4.grown HG1.out h4.size (fun k_ e_ => by cases e_; omega)⟩, ⟨Nat.le_trans hs2 (Nat.le_trans hall.size (Nat.le_trans HG2.out.size HG1.out.size))⟩⟩
    · have hjt : j = t.length := by omega
      subst hjt
      have c1 : decide ((t.length : Int) < (t.length : Int)) = false := decide_eq_false (by omega)
      obtain ⟨DN, hdn, hnm⟩ := HN.out
      rw [List.take_length] at hnm
      have HDN := Aside0.mk hdn
      have HNM := Aside0.mk hnm
      clear hlt hj hdn hnm HG HN HTT HK1
      go_wp2
      go_ret
      exact ⟨_, _, rfl, HDN.out, HNM.out, HB0.out, by omega⟩
/-- What the code asks before it numbers the addresses. -/
def roOk (l t : List Int) : Bool := decide (8 ≤ l.length) && decide (t.length ≤ 8) && decide (t.Pairwise (· < ·)) && decide (∀ x ∈ t, 0 ≤ x ∧ x < 8) && decide (∀ i : Nat, i < 8 → 0 ≤ rd l (i : Int) ∧ rd l (i : Int) ≤ 4095)
theorem roOk_out {l t : List Int} (h : roOk l t = true) : 8 ≤ l.length ∧ t.length ≤ 8 ∧ t.Pairwise (· < ·) ∧ (∀ x ∈ t, 0 ≤ x ∧ x < 8) ∧ ∀ i : Int, 0 ≤ i → i < 8 → 0 ≤ rd l i ∧ rd l i ≤ 4095 := by
  unfold roOk at h
  simp only [Bool.and_eq_true, decide_eq_true_eq] at h
  obtain ⟨⟨⟨⟨h1, h2⟩, h3⟩, h4⟩, h5⟩ := h
  refine ⟨h1, h2, h3, h4, fun i a b => ?_⟩
  have := h5 i.toNat (by omega)
  rw [Int.toNat_of_nonneg a] at this
  exact this
/-- The greatest number of addresses in one bank. -/
def degOf (l t : List Int) : Int := t.foldl (fun m x => max m ((numIn l t x : Int) + 1)) 0
theorem fold_max (f : Int → Int) : ∀ (t : List Int) (z : Int), (t.foldl (fun m x => max m (f x)) z = z ∨ ∃ x ∈ t, t.foldl (fun m x => max m (f x)) z = f x) ∧ z ≤ t.foldl (fun m x => max m (f x)) z ∧ ∀ x ∈ t, f x ≤ t.foldl (fun m x => max m (f x)) z := by
  intro t
  induction t with
  | nil => intro z; exact ⟨Or.inl rfl, Int.le_refl _, fun x hx => by cases hx⟩
  | cons a t ih =>
    intro z
    rw [List.foldl_cons]
    obtain ⟨h1, h2, h3⟩ := ih (max z (f a))
    refine ⟨?_, by omega, fun x hx => ?_⟩
    · rcases h1 with h1 | ⟨x, hx, h1⟩
      · rw [h1]
        rcases Int.max_def z (f a) ▸ (show (if z ≤ f a then f a else z) = f a ∨ (if z ≤ f a then f a else z) = z by split <;> simp) with h | h
        · exact Or.inr ⟨a, by simp, h⟩
        · exact Or.inl h
      · exact Or.inr ⟨x, by simp [hx], h1⟩
    · rw [List.mem_cons] at hx
      rcases hx with rfl | hx
      · omega
      · exact h3 x hx
/-- The greatest number so far: of those lanes that are no longer to come. -/
def DegSt (l t : List Int) (left : Lit → Bool) (m : Int) : Prop := 0 ≤ m ∧ (m = 0 ∨ ∃ x ∈ t, left (.int .i64 x) = false ∧ m = (numIn l t x : Int) + 1) ∧ ∀ x ∈ t, left (.int .i64 x) = false → (numIn l t x : Int) + 1 ≤ m
theorem degSt_start {l t : List Int} {D : DataW Unit} (h : Numbered l t t D) : DegSt l t (Go.Maps.has D) 0 :=
  ⟨Int.le_refl _, Or.inl rfl, fun x hx hl => by rw [(h x).1] at hl; simp [hx] at hl⟩
theorem left_struck (left : Lit → Bool) (x y : Int) : (left (.int .i64 y) && !(Lit.int .i64 y).sameKey (.int .i64 x)) = false ↔ left (.int .i64 y) = false ∨ y = x := by
  by_cases c : y = x
  · subst c
    rw [Go.WideAt.sameKey_self (ro_key y)]
    simp
  · rw [Go.Maps.sameKey_ne (by intro e; injection e with _ e2; exact c e2)]
    simp [c]
theorem degSt_step {l t : List Int} {left : Lit → Bool} {m : Int} (h : DegSt l t left m) {x : Int} (hx : x ∈ t) : DegSt l t (fun z => left z && !z.sameKey (.int .i64 x)) (max m ((numIn l t x : Int) + 1)) := by
  obtain ⟨h0, h1, h2⟩ := h
  refine ⟨by omega, ?_, fun y hy hl => ?_⟩
  · by_cases c : m ≤ (numIn l t x : Int) + 1
    · exact Or.inr ⟨x, hx, (left_struck left x x).2 (Or.inr rfl), by omega⟩
    · rcases h1 with h1 | ⟨y, hy, hl, h1⟩
      · omega
      · exact Or.inr ⟨y, hy, (left_struck left x y).2 (Or.inl hl), by omega⟩
  · rcases (left_struck left x y).1 hl with hl | rfl
    · have := h2 y hy hl; omega
    · omega
theorem degSt_end {l t : List Int} {left : Lit → Bool} {m : Int} (h : DegSt l t left m) (hl : ∀ kl, left kl = false) : m = degOf l t := by
  obtain ⟨h0, h1, h2⟩ := h
  obtain ⟨g1, g2, g3⟩ := fold_max (fun x => (numIn l t x : Int) + 1) t 0
  unfold degOf
  have e1 : m ≤ t.foldl (fun m x => max m ((numIn l t x : Int) + 1)) 0 := by
    rcases h1 with h1 | ⟨x, hx, _, h1⟩
    · rw [h1]; exact g2
    · rw [h1]; exact g3 x hx
  rcases g1 with g1 | ⟨x, hx, g1⟩
  · rw [g1] at e1 ⊢; omega
  · have := h2 x hx (hl _)
    rw [g1] at e1 ⊢
    omega
theorem num_small (l t : List Int) (x : Int) (ht : t.length ≤ 8) : numIn l t x ≤ 8 := by
  unfold numIn
  exact Nat.le_trans List.idxOf_le_length (Nat.le_trans (bankIn_len _ _ _) (Nat.le_trans (List.length_filter_le _ _) ht))
theorem degSt_small {l t : List Int} {left : Lit → Bool} {m : Int} (h : DegSt l t left m) (ht : t.length ≤ 8) : m ≤ 9 := by
  obtain ⟨_, h1, _⟩ := h
  rcases h1 with h1 | ⟨x, _, _, h1⟩
  · omega
  · have := num_small l t x ht; omega
def impl_ConflictDegree.f (k : Nat) (l0 : List Int) (a1 : Int) : Option Int := (impl_areAsked.f l0 a1).bind fun b => if b = true then (impl_LanesOf.f k a1).bind fun t => if roOk l0 t = true then some (degOf l0 t) else none else some (-1)
theorem impl_ConflictDegree.mono : ∀ a0 a1 k, LeO (impl_ConflictDegree.f k a0 a1) (impl_ConflictDegree.f (k + 1) a0 a1) := by
  intro a0 a1 k
  unfold impl_ConflictDegree.f
  exact LeO.bind (LeO.refl _) fun b => LeO.ite (LeO.bind (impl_LanesOf.mono _ k) fun t => LeO.refl _) (LeO.refl _)
set_option maxHeartbeats 8000000 in
set_option maxRecDepth 100000 in
theorem impl_ConflictDegree.calls (k : Nat) (A0 : Option Addr) (c0 : Nat) (l0 : List Int) (a1 : Int) (r : Int) (w : World) (hr0 : Kd.C (Kd.int .i64) w A0 l0.length l0) (hc0 : l0.length ≤ c0) (h : impl_ConflictDegree.f k l0 a1 = some r) :
    Calls Try.prog 14 #[.slice A0 l0.length c0, .int .i64 a1] w fun e w' => e = .returned (.int .i64 r) ∧ Below w.heap.size w w' := by
  have HR0 := Aside0.mk hr0
  have HC0 := Aside0.mk hc0
  clear hr0 hc0
  unfold impl_ConflictDegree.f at h
  obtain ⟨b, h1, h⟩ := Option.bind_eq_some_iff.mp h
  have H1 := Aside0.mk h1
  clear h1
  cases b with
  | false =>
    simp only [Bool.false_eq_true, if_false] at h
    obtain rfl := Option.some.inj h
    clear h
    go_enter Try.func14, Try.ntmps14
    go_wp2_with (go_at_call 48; refine (impl_areAsked.calls A0 c0 l0 a1 false _ (Kd.C_below HR0.out (by repeat (first | exact Below.refl _ _ | apply below_alloc | apply pw_below_drewN | apply below_drew1))) HC0.out H1.out).mono ?_; rintro e w' ⟨rfl, ⟨nd, rfl⟩⟩)
    go_ret
    exact ⟨rfl, by repeat (first | exact Below.refl _ _ | apply below_alloc | apply pw_below_drewN | apply below_drew1)⟩
  | true =>
    simp only [if_true] at h
    obtain ⟨t, h3, h⟩ := Option.bind_eq_some_iff.mp h
    by_cases hm : roOk l0 t = true
    · rw [if_pos hm] at h
      have HR := Aside0.mk (Option.some.inj h)
      have H3 := Aside0.mk h3
      have HM := Aside0.mk (roOk_out hm)
      clear h h3 hm
      go_enter Try.func14, Try.ntmps14
      go_wp2_with (first | (go_at_call 48; refine (impl_areAsked.calls A0 c0 l0 a1 true _ (Kd.C_below HR0.out (by repeat (first | exact Below.refl _ _ | apply below_alloc | apply pw_below_drewN | apply below_drew1))) HC0.out H1.out).mono ?_; rintro e w' ⟨rfl, ⟨nd, rfl⟩⟩) | (go_at_call 49; refine (impl_roundsOf.calls k A0 c0 l0 a1 t _ (Kd.C_below HR0.out (by repeat (first | exact Below.refl _ _ | apply below_alloc | apply pw_below_drewN | apply below_drew1))) HM.out.1 H3.out HM.out.2.2.1 HM.out.2.2.2.1 HM.out.2.1 HM.out.2.2.2.2).mono ?_; rintro e wb ⟨B, D, rfl, hown, hnum, hb, hB⟩; have HOWN := Aside0.mk hown; have HNUM := Aside0.mk hnum; have HB := Aside0.mk hb; have HBB := Aside0.mk hB; clear hown hnum hb hB) | (at_range; refine wpList_range_own _ rfl _ 48 rfl 3 3 ro_law Try.underlying48 _ B t.length D rfl HOWN.out ?_; intro w0 hrg0 hg0 hs0; have HRG := Aside0.mk hrg0; have HG0 := Aside0.mk hg0; clear hrg0 hg0 hs0))
      have hb0 : Below w.heap.size w wb := below_step (pw_below_drewN (Below.refl _ _) nd) HB.out
      have hb1 : Below w.heap.size w w0 := hb0.grown HG0.out hb0.size (fun k_ e_ => by cases e_)
      have HB1 := Aside0.mk hb1
      have HSZ := Aside0.mk hb0.size
      clear hb0 hb1 HG0 HB HOWN
      go_frame
      go_loopg [5] (Go.Maps.size D) (fun kq v5 w' => ∃ (m : Int) (left : Lit → Bool) (cnt : Nat), v5 = .int .i64 m ∧ Aside0 (cnt ≤ kq) ∧ Aside0 (w'.ranges Try.prog 3 (plainElem Try.prog 3) B wb.heap.size t.length D left cnt) ∧ Aside0 (DegSt l0 t left m) ∧ Aside0 (∀ kl, left kl = true → Go.Maps.has D kl = true) ∧ Aside0 (Below w.heap.size w w'))
      case atStart => exact ⟨0, _, _, (by first | rfl | (simp; done)), ⟨Nat.le_refl _⟩, HRG, ⟨degSt_start HNUM.out⟩, ⟨fun _ h => h⟩, HB1⟩
      case round =>
        clear HRG HB1
        obtain ⟨m, left, cnt, rfl, HK1, HRG, HD, HLF, HB1⟩ := hrel
        go_wp2_with (first | (at_next; refine wpList_next_ranges_ii _ rfl _ rfl 3 3 .i64 .i64 ro_law Try.underlying3 Try.underlying3 B wb.heap.size t.length _ _ _ rfl HRG.out ?_ ?_))
        · intro _ hl0
          have HL0 := Aside0.mk hl0
          clear hl0
          go_wp2
          go_ret
          have e := degSt_end HD.out HL0.out
          rw [HR.out] at e
          exact ⟨by rw [← e]; rfl, HB1.out⟩
        · intro x c w1 cnt1 hwx hwc hlx hat hrg1 hlt hg1 hs1 hen
          have hxt : x ∈ t := by
            have := HLF.out _ hlx
            rw [(HNUM.out x).1] at this
            simpa using this
          have hc : c = ((numIn l0 t x : Nat) : Int) := by
            have := hat .nil
            rw [(HNUM.out x).2 hxt] at this
            injection this with h1
            injection h1 with _ h2
            exact h2.symm
          have hc8 := num_small l0 t x HM.out.2.1
          have hm0 := HD.out.1
          have hm9 := degSt_small HD.out HM.out.2.1
          have hw64 : wrap64 (c + 1) = c + 1 := by unfold wrap64; omega
          have HXT := Aside0.mk hxt
          have HC := Aside0.mk hc
          have HRG1 := Aside0.mk hrg1
          have HLT := Aside0.mk hlt
          have HG1 := Aside0.mk hg1
          have HC8 := Aside0.mk (show 0 ≤ c ∧ c ≤ 8 by omega)
          have HM9 := Aside0.mk (And.intro hm0 hm9)
          have HW64 := Aside0.mk hw64
          clear hwx hwc hlx hat hrg1 hlt hg1 hs1 hxt hc hc8 hm0 hm9 hw64
          go_wp2
          all_goals
            go_roundg cnt1
            case measure => have h1 := HK1.out; have h2 := HLT.out; omega
            case rel =>
              have hst := degSt_step HD.out HXT.out
              rw [← HC.out, ← HW64.out] at hst
              have hsz := HSZ.out
              have hbs := HB1.out.size
              first
                | exact ⟨_, _, cnt1, rfl, ⟨Nat.le_refl _⟩, HRG1, ⟨by rw [Int.max_eq_left (by assumption)] at hst; exact hst⟩, ⟨fun kl hk => HLF.out kl (by simp only [Bool.and_eq_true] at hk; exact hk.1)⟩, ⟨HB1.out.grown HG1.out hbs (fun k_ e_ => by cases e_; omega)⟩⟩
                | exact ⟨_, _, cnt1, rfl, ⟨Nat.le_refl _⟩, HRG1, ⟨by rw [Int.max_eq_right (Int.le_of_lt (by assumption))] at hst; exact hst⟩, ⟨fun kl hk => HLF.out kl (by simp only [Bool.and_eq_true] at hk; exact hk.1)⟩, ⟨HB1.out.grown HG1.out hbs (fun k_ e_ => by cases e_; omega)⟩⟩
                | exact ⟨_, _, cnt1, rfl, ⟨Nat.le_refl _⟩, HRG1, ⟨by rw [show max m (wrap64 (c + 1)) = mx m (wrap64 (c + 1)) by unfold mx; omega] at hst; exact hst⟩, ⟨fun kl hk => HLF.out kl (by simp only [Bool.and_eq_true] at hk; exact hk.1)⟩, ⟨HB1.out.grown HG1.out hbs (fun k_ e_ => by cases e_; omega)⟩⟩
    · rw [if_neg hm] at h
      cases h

/-! ### impl_BankRounds: function 19 -/
/-- The lanes that a test lets, as a mask. -/
def orL (p : Int → Bool) (t : List Int) : Int := t.foldl (fun m x => if p x = true then Go.bits .or .i64 m (shl .i64 1 x) else m) 0
def natOr (p : Int → Bool) (t : List Int) (z : Nat) : Nat := t.foldl (fun m x => if p x = true then m ||| 2 ^ x.toNat else m) z
theorem or_nat (x y : Nat) (hx : x < 256) (hy : y < 256) : Go.bits .or .i64 (x : Int) (y : Int) = ((x ||| y : Nat) : Int) := by
  have h : x ||| y < 2 ^ 8 := Nat.or_lt_two_pow (by omega) (by omega)
  simp only [Go.bits, BitVec.ofInt_natCast, BitVec.toNat_or, BitVec.toNat_ofNat]
  rw [show IntKind.i64.bits = 64 from rfl, Nat.mod_eq_of_lt (a := x) (by omega), Nat.mod_eq_of_lt (a := y) (by omega), IntKind.wrap_i64]
  omega
theorem shl_all : ∀ i : Fin 8, shl .i64 1 ((i.val : Nat) : Int) = ((2 ^ i.val : Nat) : Int) ∧ 2 ^ i.val < 256 := by decide +kernel
theorem shl_nat (x : Int) (h0 : 0 ≤ x) (h8 : x < 8) : shl .i64 1 x = ((2 ^ x.toNat : Nat) : Int) ∧ 2 ^ x.toNat < 256 := by
  have h := shl_all ⟨x.toNat, by omega⟩
  simp only [Int.toNat_of_nonneg h0] at h
  exact h
theorem orL_go (p : Int → Bool) : ∀ (t : List Int) (z : Nat), (∀ x ∈ t, 0 ≤ x ∧ x < 8) → z < 256 → t.foldl (fun m x => if p x = true then Go.bits .or .i64 m (shl .i64 1 x) else m) (z : Int) = ((natOr p t z : Nat) : Int) ∧ natOr p t z < 256 := by
  intro t
  induction t with
  | nil => intro z _ hz; exact ⟨rfl, hz⟩
  | cons a t ih =>
    intro z h hz
    have ha := h a (by simp)
    have hs := shl_nat a ha.1 ha.2
    have ht : ∀ x ∈ t, 0 ≤ x ∧ x < 8 := fun x hx => h x (by simp [hx])
    rw [List.foldl_cons]
    unfold natOr
    rw [List.foldl_cons]
    by_cases c : p a = true
    · rw [if_pos c, if_pos c, hs.1, or_nat z _ hz hs.2]
      exact ih _ ht (by have := Nat.or_lt_two_pow (n := 8) (x := z) (y := 2 ^ a.toNat) (by omega) (by omega); omega)
    · rw [if_neg c, if_neg c]
      exact ih z ht hz
theorem orL_nat (p : Int → Bool) (t : List Int) (h : ∀ x ∈ t, 0 ≤ x ∧ x < 8) : orL p t = ((natOr p t 0 : Nat) : Int) ∧ natOr p t 0 < 256 := orL_go p t 0 h (by omega)
theorem natOr_bit (p : Int → Bool) (i : Nat) : ∀ (t : List Int) (z : Nat), (natOr p t z).testBit i = (z.testBit i || t.any fun x => p x && decide (x.toNat = i)) := by
  intro t
  induction t with
  | nil => intro z; simp [natOr]
  | cons a t ih =>
    intro z
    unfold natOr
    rw [List.foldl_cons]
    have e := ih (if p a = true then z ||| 2 ^ a.toNat else z)
    unfold natOr at e
    rw [e, List.any_cons]
    by_cases c : p a = true
    · rw [if_pos c, Nat.testBit_or, Nat.testBit_two_pow, c]
      simp [Bool.or_assoc]
    · rw [if_neg c]
      simp [c]
theorem orL_step (p p' : Int → Bool) (t : List Int) (h : ∀ x ∈ t, 0 ≤ x ∧ x < 8) (x : Int) (hx : x ∈ t) (hp : ∀ y ∈ t, p' y = (p y || decide (y = x))) : orL p' t = Go.bits .or .i64 (orL p t) (shl .i64 1 x) := by
  have h1 := orL_nat p t h
  have h2 := orL_nat p' t h
  have hs := shl_nat x (h x hx).1 (h x hx).2
  rw [h1.1, h2.1, hs.1, or_nat _ _ h1.2 hs.2]
  congr 1
  apply Nat.eq_of_testBit_eq
  intro i
  rw [Nat.testBit_or, natOr_bit, natOr_bit, Nat.testBit_two_pow]
  simp only [Nat.zero_testBit, Bool.false_or]
  rw [Bool.eq_iff_iff]
  simp only [List.any_eq_true, Bool.or_eq_true, Bool.and_eq_true, decide_eq_true_eq]
  constructor
  · rintro ⟨y, hy, h3, h4⟩
    rw [hp y hy] at h3
    simp only [Bool.or_eq_true, decide_eq_true_eq] at h3
    rcases h3 with h3 | rfl
    · exact Or.inl ⟨y, hy, h3, h4⟩
    · exact Or.inr h4
  · rintro (⟨y, hy, h3, h4⟩ | h4)
    · exact ⟨y, hy, by rw [hp y hy, h3]; rfl, h4⟩
    · exact ⟨x, hx, by rw [hp x hx]; simp, h4⟩
theorem orL_congr (p p' : Int → Bool) (t : List Int) (hp : ∀ y ∈ t, p' y = p y) : orL p' t = orL p t := by
  unfold orL
  suffices g : ∀ (s : List Int) (z : Int), (∀ y ∈ s, p' y = p y) → s.foldl (fun m x => if p' x = true then Go.bits .or .i64 m (shl .i64 1 x) else m) z = s.foldl (fun m x => if p x = true then Go.bits .or .i64 m (shl .i64 1 x) else m) z from g t 0 hp
  intro s
  induction s with
  | nil => intro z _; rfl
  | cons a s ih =>
    intro z hh
    rw [List.foldl_cons, List.foldl_cons, hh a (by simp)]
    exact ih _ (fun y hy => hh y (by simp [hy]))
theorem orL_none (p : Int → Bool) (t : List Int) (hp : ∀ y ∈ t, p y = false) : orL p t = 0 := by
  rw [orL_congr (fun _ => false) p t hp]
  unfold orL
  suffices g : ∀ (s : List Int), s.foldl (fun (m : Int) x => if (false = true) then Go.bits .or .i64 m (shl .i64 1 x) else m) 0 = 0 from g t
  intro s
  induction s with
  | nil => rfl
  | cons a s ih => rw [List.foldl_cons]; exact ih
/-- The rounds so far: of those lanes that are no longer to come. -/
def roundsSo (l t : List Int) (left : Lit → Bool) (d : Nat) : List Int := (List.range d).map fun r => orL (fun x => decide (numIn l t x = r) && !left (.int .i64 x)) t
/-- The lanes that are served in each round. -/
def roundsL (l t : List Int) (d : Nat) : List Int := (List.range d).map fun r => orL (fun x => decide (numIn l t x = r)) t
theorem roundsSo_len (l t : List Int) (left : Lit → Bool) (d : Nat) : (roundsSo l t left d).length = d := by simp [roundsSo]
theorem roundsSo_start {l t : List Int} {D : DataW Unit} (h : Numbered l t t D) (d : Nat) : roundsSo l t (Go.Maps.has D) d = List.replicate d 0 := by
  unfold roundsSo
  rw [← List.length_range (n := d), ← List.map_const', List.length_range]
  refine List.map_congr_left (fun r _ => ?_)
  refine orL_none _ t (fun y hy => ?_)
  rw [(h y).1]
  simp [hy]
theorem roundsSo_end (l t : List Int) {left : Lit → Bool} (hl : ∀ kl, left kl = false) (d : Nat) : roundsSo l t left d = roundsL l t d := by
  unfold roundsSo roundsL
  refine List.map_congr_left (fun r _ => ?_)
  refine orL_congr _ _ t (fun y _ => ?_)
  rw [hl]
  simp
theorem rd_roundsSo (l t : List Int) (left : Lit → Bool) (d c : Nat) (hc : c < d) : rd (roundsSo l t left d) (c : Int) = orL (fun x => decide (numIn l t x = c) && !left (.int .i64 x)) t := by
  rw [← ro_rd _ c (by rw [roundsSo_len]; exact hc)]
  unfold roundsSo
  rw [List.getElem_map, List.getElem_range]
theorem roundsSo_step {l t : List Int} {left : Lit → Bool} (ht : ∀ x ∈ t, 0 ≤ x ∧ x < 8) {x : Int} (hx : x ∈ t) (d : Nat) (hd : numIn l t x < d) : roundsSo l t (fun z => left z && !z.sameKey (.int .i64 x)) d = (roundsSo l t left d).set (numIn l t x) (Go.bits .or .i64 (rd (roundsSo l t left d) (numIn l t x : Int)) (shl .i64 1 x)) := by
  apply List.ext_getElem
  · rw [List.length_set, roundsSo_len, roundsSo_len]
  · intro r h1 h2
    rw [roundsSo_len] at h1
    rw [List.getElem_set]
    have e1 : (roundsSo l t (fun z => left z && !z.sameKey (.int .i64 x)) d)[r] = orL (fun y => decide (numIn l t y = r) && !(left (.int .i64 y) && !(Lit.int .i64 y).sameKey (.int .i64 x))) t := by
      simp only [roundsSo, List.getElem_map, List.getElem_range]
    rw [e1]
    have hb : ∀ y : Int, (!(left (.int .i64 y) && !(Lit.int .i64 y).sameKey (.int .i64 x))) = (!left (.int .i64 y) || decide (y = x)) := fun y => by
      rw [Bool.eq_iff_iff]
      simp only [Bool.not_eq_true', Bool.or_eq_true, decide_eq_true_eq]
      exact left_struck left x y
    by_cases c : numIn l t x = r
    · rw [if_pos c, rd_roundsSo l t left d _ hd, c]
      refine orL_step _ _ t ht x hx (fun y hy => ?_)
      rw [hb y]
      by_cases e : y = x
      · subst e; simp [c]
      · simp [e]
    · rw [if_neg c]
      unfold roundsSo
      rw [List.getElem_map, List.getElem_range]
      refine orL_congr _ _ t (fun y hy => ?_)
      rw [hb y]
      by_cases e : y = x
      · subst e; simp [c]
      · simp [e]
theorem roundsSo_small (l t : List Int) (left : Lit → Bool) (ht : ∀ x ∈ t, 0 ≤ x ∧ x < 8) (d c : Nat) (hc : c < d) : 0 ≤ rd (roundsSo l t left d) (c : Int) ∧ rd (roundsSo l t left d) (c : Int) < 256 := by
  rw [rd_roundsSo l t left d c hc]
  have h := orL_nat (fun x => decide (numIn l t x = c) && !left (.int .i64 x)) t ht
  omega
theorem num_lt_deg (l t : List Int) {x : Int} (hx : x ∈ t) : (numIn l t x : Int) + 1 ≤ degOf l t := (fold_max (fun x => (numIn l t x : Int) + 1) t 0).2.2 x hx
theorem deg_small (l t : List Int) (ht : t.length ≤ 8) : 0 ≤ degOf l t ∧ degOf l t ≤ 9 := by
  obtain ⟨g1, g2, g3⟩ := fold_max (fun x => (numIn l t x : Int) + 1) t 0
  refine ⟨g2, ?_⟩
  unfold degOf
  rcases g1 with g1 | ⟨x, hx, g1⟩
  · rw [g1]; omega
  · have := num_small l t x ht
    rw [g1]; omega
def impl_BankRounds.f (k : Nat) (l0 : List Int) (a1 : Int) : Option (List Int) := (impl_ConflictDegree.f k l0 a1).bind fun d => if d < 1 then some [] else (impl_LanesOf.f k a1).bind fun t => if roOk l0 t = true then some (roundsL l0 t d.toNat) else none
theorem impl_BankRounds.mono : ∀ a0 a1 k, LeO (impl_BankRounds.f k a0 a1) (impl_BankRounds.f (k + 1) a0 a1) := by
  intro a0 a1 k
  unfold impl_BankRounds.f
  exact LeO.bind (impl_ConflictDegree.mono _ _ k) fun d => LeO.ite (LeO.refl _) (LeO.bind (impl_LanesOf.mono _ k) fun t => LeO.refl _)
theorem ra_drew {w : World} {P : Program} {k : TypeId} {R : Value → Option (DataW Unit × List MemPlace)} {b r n : Nat} {D : DataW Unit} {left : Lit → Bool} {cnt : Nat} (h : w.ranges P k R b r n D left cnt) : w.drew.ranges P k R b r n D left cnt := h
theorem cd_deg {k : Nat} {l0 : List Int} {a1 d : Int} {t : List Int} (h : impl_ConflictDegree.f k l0 a1 = some d) (hd : ¬ d < 1) (ht : impl_LanesOf.f k a1 = some t) : d = degOf l0 t := by
  unfold impl_ConflictDegree.f at h
  obtain ⟨b, h1, h⟩ := Option.bind_eq_some_iff.mp h
  cases b with
  | false =>
    simp only [Bool.false_eq_true, if_false] at h
    have := Option.some.inj h
    omega
  | true =>
    simp only [if_true] at h
    rw [ht] at h
    simp only [Option.bind_some] at h
    by_cases hm : roOk l0 t = true
    · rw [if_pos hm] at h
      exact (Option.some.inj h).symm
    · rw [if_neg hm] at h
      cases h
set_option maxHeartbeats 8000000 in
set_option maxRecDepth 100000 in
theorem impl_BankRounds.calls (k : Nat) (A0 : Option Addr) (c0 : Nat) (l0 : List Int) (a1 : Int) (r : List Int) (w : World) (hr0 : Kd.C (Kd.int .i64) w A0 l0.length l0) (hc0 : l0.length ≤ c0) (h : impl_BankRounds.f k l0 a1 = some r) :
    Calls Try.prog 19 #[.slice A0 l0.length c0, .int .i64 a1] w fun e w' => ∃ v0_ : Value, e = .returned (v0_) ∧ Kd.R (Kd.int .i64) 3 w' w.heap.size (fun _ => True) v0_ r ∧ Below w.heap.size w w' := by
  have HR0 := Aside0.mk hr0
  have HC0 := Aside0.mk hc0
  clear hr0 hc0
  unfold impl_BankRounds.f at h
  obtain ⟨d, h1, h⟩ := Option.bind_eq_some_iff.mp h
  by_cases hd : d < 1
  · rw [if_pos hd] at h
    obtain rfl := Option.some.inj h
    have H1 := Aside0.mk h1
    have hdb : decide (d < 1) = true := decide_eq_true hd
    clear h h1 hd
    go_enter Try.func19, Try.ntmps19
    go_wp2_with (go_at_call 14; refine (impl_ConflictDegree.calls k A0 c0 l0 a1 d _ HR0.out HC0.out H1.out).mono ?_; rintro e w' ⟨rfl, hb⟩; have HB := Aside0.mk hb; clear hb)
    go_ret
    exact ⟨_, rfl, Kd.R_nil _ _ _ _ _, HB.out⟩
  · rw [if_neg hd] at h
    obtain ⟨t, h3, h⟩ := Option.bind_eq_some_iff.mp h
    by_cases hm : roOk l0 t = true
    · rw [if_pos hm] at h
      have hdd := cd_deg h1 hd h3
      have hsm := deg_small l0 t (roOk_out hm).2.1
      rw [← hdd] at hsm
      obtain ⟨n, rfl⟩ := Int.eq_ofNat_of_zero_le hsm.1
      rw [Int.toNat_natCast] at h
      have HR := Aside0.mk (Option.some.inj h)
      have H1 := Aside0.mk h1
      have H3 := Aside0.mk h3
      have HM := Aside0.mk (roOk_out hm)
      have HD := Aside0.mk hdd
      have hdb : decide ((n : Int) < 1) = false := decide_eq_false hd
      have HN9 := Aside0.mk (show 1 ≤ n ∧ n ≤ 9 by omega)
      clear h h1 h3 hm hdd hsm hd
      go_enter Try.func19, Try.ntmps19
      go_wp2_with (first | (go_at_call 14; refine (impl_ConflictDegree.calls k A0 c0 l0 a1 (n : Int) _ HR0.out HC0.out H1.out).mono ?_; rintro e w' ⟨rfl, hb⟩; have HB := Aside0.mk hb; clear hb) | ((with_reducible refine gate_dst (N := 15) rfl ?_); refine Kd.R_make (Kd.int .i64) _ 3 rfl (N := 15) rfl 22 _ _ rfl (n : Int) rfl rfl Try.underlying22 (.int .i64 0) 8 info3 rfl (by decide) (by omega) 0 (ok := fun _ => True) (okp := fun _ => True) rfl (fun _ hk => hk) trivial (by omega) (by have := HN9.out; omega) (Below.refl _ _) (Nat.le_refl _) ?_; intro v6 w6 ho6 hb hg_ hnew_; clear hg_ hnew_; rw [Int.toNat_natCast] at ho6; have HO := Aside0.mk (Kd.R_lower ho6 (below_size HB.out)); have HB6 := Aside0.mk (below_step HB.out hb); clear HB; clear hb ho6))
      obtain ⟨go, co, eo, gb, gl, cl, hcl⟩ := Kd.R_form HO.out (by rw [List.length_replicate]; have := HN9.out; omega)
      rw [List.length_replicate] at eo
      subst eo
      have hO : Kd.R (Kd.int .i64) 3 w6 w.heap.size (fun k_ => k_ < w6.heap.size) (.slice (some ⟨go, 0, none⟩) n co) (List.replicate n 0) := Kd.R_mono (Kd.R_bound HO.out) (fun k_ hk => hk.2.2.1)
      have GB := Aside0.mk gb
      have GL := Aside0.mk gl
      have HO1 := Aside0.mk hO
      clear hO gb gl hcl cl HO
      go_wp2_with (first | (go_at_call 49; refine (impl_roundsOf.calls k A0 c0 l0 a1 t _ (Kd.C_below HR0.out HB6.out) HM.out.1 H3.out HM.out.2.2.1 HM.out.2.2.2.1 HM.out.2.1 HM.out.2.2.2.2).mono ?_; rintro e wb ⟨B, D, rfl, hown, hnum, hb, hB⟩; have HOWN := Aside0.mk hown; have HNUM := Aside0.mk hnum; have HB := Aside0.mk hb; have HBB := Aside0.mk hB; clear hown hnum hb hB) | (at_range; refine wpList_range_own _ rfl _ 48 rfl 3 3 ro_law Try.underlying48 _ B t.length D rfl HOWN.out ?_; intro w0 hrg0 hg0 hs0; have HRG := Aside0.mk hrg0; have HG0 := Aside0.mk hg0; clear hrg0 hg0 hs0))
      have hb0 : Below w.heap.size w wb := below_step HB6.out HB.out
      have hb1 : Below w.heap.size w w0 := hb0.grown HG0.out hb0.size (fun k_ e_ => by cases e_)
      have hO2 : Kd.R (Kd.int .i64) 3 w0 w.heap.size (fun k_ => k_ < w6.heap.size) (.slice (some ⟨go, 0, none⟩) n co) (roundsSo l0 t (Go.Maps.has D) n) := by
        rw [roundsSo_start HNUM.out]
        exact Kd.R_grown (Kd.R_below HO1.out HB.out) HG0.out (fun k_ _ e_ => by cases e_)
      have HO2 := Aside0.mk hO2
      have HB1 := Aside0.mk hb1
      have HSZ := Aside0.mk HB.out.size
      clear hb0 hb1 hO2 HG0 HB HOWN HO1
      go_frame
      go_loopg [7] (Go.Maps.size D) (fun kq v7 w' => ∃ (left : Lit → Bool) (cnt : Nat), v7 = v7 ∧ Aside0 (cnt ≤ kq) ∧ Aside0 (w'.ranges Try.prog 3 (plainElem Try.prog 3) B wb.heap.size t.length D left cnt) ∧ Aside0 (Kd.R (Kd.int .i64) 3 w' w.heap.size (fun k_ => k_ < w6.heap.size) (.slice (some ⟨go, 0, none⟩) n co) (roundsSo l0 t left n)) ∧ Aside0 (∀ kl, left kl = true → Go.Maps.has D kl = true) ∧ Aside0 (Below w.heap.size w w'))
      case atStart => exact ⟨_, _, rfl, ⟨Nat.le_refl _⟩, HRG, HO2, ⟨fun _ h => h⟩, HB1⟩
      case round =>
        clear HRG HB1 HO2
        obtain ⟨left, cnt, _, HK1, HRG, HO, HLF, HB1⟩ := hrel
        go_wp2_with (first | (at_next; refine wpList_next_ranges_ii _ rfl _ rfl 3 3 .i64 .i64 ro_law Try.underlying3 Try.underlying3 B wb.heap.size t.length _ _ _ rfl HRG.out ?_ ?_))
        · intro _ hl0
          have HL0 := Aside0.mk hl0
          clear hl0
          go_wp2
          go_ret
          have e := roundsSo_end l0 t HL0.out n
          rw [HR.out] at e
          have ho := HO.out
          rw [e] at ho
          exact ⟨_, rfl, Kd.R_mono ho (fun _ _ => trivial), HB1.out⟩
        · intro x c w1 cnt1 hwx hwc hlx hat hrg1 hlt hg1 hs1 hen
          have hxt : x ∈ t := by
            have := HLF.out _ hlx
            rw [(HNUM.out x).1] at this
            simpa using this
          have hc : c = ((numIn l0 t x : Nat) : Int) := by
            have := hat .nil
            rw [(HNUM.out x).2 hxt] at this
            injection this with h1
            injection h1 with _ h2
            exact h2.symm
          obtain ⟨x0, x8⟩ := HM.out.2.2.2.1 x hxt
          have hcd : numIn l0 t x < n := by have h1 := num_lt_deg l0 t hxt; rw [← HD.out] at h1; omega
          obtain ⟨cn, hcn⟩ : ∃ cn : Nat, cn = numIn l0 t x := ⟨_, rfl⟩
          rw [← hcn] at hc hcd
          subst hc
          obtain ⟨j, hj⟩ : ∃ j_ : Int, (shl .i64 1 x) = j_ := ⟨_, rfl⟩
          have hjz : (IntKind.i64.wrap (1 * 2 ^ x.toNat)) = j := shl_small hj (by show x ≤ 64; omega)
          have hjv : (IntKind.i64.wrap (2 ^ x.toNat)) = j := by have h_ := hjz; rw [Int.one_mul] at h_; exact h_
          have hjx : (wrap64 (1 * 2 ^ x.toNat)) = j := (i64_w _).symm.trans hjz
          have hjy : (wrap64 (2 ^ x.toNat)) = j := (i64_w _).symm.trans hjv
          have ho1 : Kd.R (Kd.int .i64) 3 w1 w.heap.size (fun k_ => k_ < w6.heap.size) (.slice (some ⟨go, 0, none⟩) n co) (roundsSo l0 t left n) := Kd.R_grown HO.out hg1 (fun k_ hk e_ => by cases e_; have := HSZ.out; omega)
          obtain ⟨hx1, hf1⟩ := Kd.R_celln 0 ho1 (cn : Int) (by omega) (by omega)
          rw [Int.toNat_natCast] at hx1 hf1
          obtain ⟨z, hz⟩ : ∃ z, z = rd (roundsSo l0 t left n) (cn : Int) := ⟨_, rfl⟩
          replace hx1 : w1.cell? ⟨go, cn, none⟩ = some (.int .i64 z) := by rw [hz]; exact hx1
          have q1 : decide ((cn : Int) < (n : Int)) = true := decide_eq_true (by omega)
          have hset := roundsSo_step (left := left) HM.out.2.2.2.1 hxt n (by rw [← hcn]; exact hcd)
          rw [← hcn, ← hz, hj] at hset
          have HPUT := fun v_ : Int => Aside0.mk (Kd.R_putg ho1 (cn : Int) v_)
          have HXT := Aside0.mk hxt
          have HCN := Aside0.mk hcn
          have HRG1 := Aside0.mk hrg1
          have HLT := Aside0.mk hlt
          have HG1 := Aside0.mk hg1
          have HSET := Aside0.mk hset
          have HCD := Aside0.mk hcd
          have HZ := Aside0.mk hz
          have HJ := Aside0.mk hj
          have HO1 := Aside0.mk ho1
          have HLF1 : Aside0 (∀ kl, (left kl && !kl.sameKey (.int .i64 x)) = true → Go.Maps.has D kl = true) := ⟨fun kl hk => HLF.out kl (by simp only [Bool.and_eq_true] at hk; exact hk.1)⟩
          clear hwx hwc hlx hat hrg1 hlt hg1 hs1 hxt hcn hset hz ho1 hj HO HLF HRG
          go_wp2
          go_region
          go_wp2
          go_roundg cnt1
          case measure => have h1 := HK1.out; have h2 := HLT.out; omega
          case rel =>
            have hsz := HSZ.out
            have hbs := HB1.out.size
            have hgl := GL.out
            have hgb := GB.out
            have hbb := HBB.out
            have hput := (HPUT (bits .or .i64 z j)).out
            rw [Int.toNat_natCast] at hput
            have hb2 : Below w.heap.size w w1 := HB1.out.grown HG1.out hbs (fun k_ e_ => by cases e_; have := HB6.out.size; omega)
            refine ⟨_, cnt1, (by first | rfl | trivial), ⟨Nat.le_refl _⟩, ⟨ra_drew (HRG1.out.kept hput.2 (fun e_ => by cases e_; omega) (fun e_ => by cases e_; omega))⟩, ⟨?_⟩, HLF1, ⟨?_⟩⟩
            · rw [HSET.out]
              exact Kd.R_drew hput.1
            · exact below_drew1 (hb2.grown hput.2 hb2.size (fun k_ e_ => by cases e_; exact hgb))
    · rw [if_neg hm] at h
      cases h

end Go.Proofs.Ytpaoajlangbceaa.P
