/- FnExactTransposeTile: for every input the law returns true, and its argument reads behind the call as it read before. No condition. -/
import Derived.Test.YthkhgckagifmjaaRows
import Derived.Test.YthkhgckagifmjaaGxHead
import Derived.Test.YthkhgckagifmjaaGxPFnExactTransposeTile
import Derived.Test.YthkhgckagifmjaaPureFnExactTransposeTile
import Derived.WalkKit
import Derived.ProofKit
import Derived.OpenShut
import Derived.ShutString
import Derived.ChangeOld
import Derived.Below
import Derived.SizedLaws
namespace Go.Proofs.Ythkhgckagifmjaa.fnExactTransposeTile
open Go.ChangeShapes Go.WideShapes Go.ChangeAt Go.RowKit Go.Proofs.YthkhgckagifmjaaW.PrintWords
open Go.ChangeMaps (open_string shut_string)
set_option linter.unusedVariables false
theorem own : ownKnob Try.prog.godebug = none := by kernel_rfl
theorem laidOut : laidOutB Try.prog = true := by kernel_rfl
/-- A row of whole numbers that is read: its value, its entries. -/
def IsInts (w : World) (v : Value) (r : List Int) : Prop :=
  ∃ A c, v = .slice A r.length c ∧ r.length ≤ c ∧ Kd.C (Kd.int .i64) w A r.length r ∧ r.length ≤ maxLen
/-- Data's reading of a slice of whole numbers. -/
theorem open_row {H : Type} {enc : TypeId × Value → H} {P : Program} {w : World} {base : Nat} {spare : Nat → Bool} {held : Bool} {t e : TypeId} {fuel : Nat} {cs : List Value} {x : DataW H × List MemPlace}
    (ht : P.underlying t = some (.slice e)) (he : P.underlying e = some (.int .i64)) (hc : P.cellsOf e = 1) (h : DataW.trod enc P w base spare held fuel t cs = some x) :
    ∃ v r, cs = [v] ∧ IsInts w v r := by
  have hml : maxLen = 9223372036854775807 := rfl
  rcases open_ints ht he hc h with ⟨hcs, _⟩ | ⟨a, l, c, zs, hcs, _, hl, hm, hz, _, hcell, _⟩
  · exact ⟨_, [], hcs, none, 0, rfl, Nat.le_refl _, Kd.C_nil _ _, Nat.zero_le _⟩
  · have hlz : l ≤ zs.length := by rw [hz]; split <;> omega
    have hr : (zs.take l).length = l := by rw [List.length_take]; omega
    refine ⟨_, zs.take l, hcs, some a, c, by rw [hr], by rw [hr]; exact hl, Kd.C_of_reads (d := (0 : Int)) (h1 := fun _ => rfl) ⟨rfl, by omega, fun _ => ⟨a, rfl, fun j hj => ?_⟩⟩, by omega⟩
    have hj' : j < l := by omega
    rw [hcell j (by omega)]
    congr 2
    rw [List.getD_eq_getElem?_getD, List.getD_eq_getElem?_getD, List.getElem?_take, if_pos hj']
/-- Data's reading of a slice of such slices. -/
theorem open_rows {H : Type} {enc : TypeId × Value → H} {P : Program} {w : World} {base : Nat} {spare : Nat → Bool} {held : Bool} {t e1 e : TypeId} {fuel : Nat} {a : Option Addr} {len cap : Nat} {x : DataW H × List MemPlace}
    (ht : P.underlying t = some (.slice e1)) (h1 : P.underlying e1 = some (.slice e)) (he : P.underlying e = some (.int .i64)) (hc1 : P.cellsOf e1 = 1) (hc : P.cellsOf e = 1)
    (h : DataW.trod enc P w base spare held fuel t [.slice a len cap] = some x) :
    ∃ l0 : List (List Int), len = l0.length ∧ l0.length ≤ cap ∧ l0.length ≤ maxLen ∧ Kd.C (Kd.slice e (Kd.int .i64)) w a l0.length l0 ∧ ∀ r ∈ l0, r.length ≤ maxLen := by
  have hml : maxLen = 9223372036854775807 := rfl
  rcases DataW.trod_slice ht h with ⟨hcs, _⟩ | ⟨ad, l, c, elems, rest, n, _, hcs, _, _, hl, hm, hlen, hel, _, _⟩
  · injection hcs with hv _
    injection hv with ea el ec
    subst ea el ec
    exact ⟨[], rfl, Nat.le_refl _, Nat.zero_le _, Kd.C_nil _ _, fun r hr => by cases hr⟩
  · injection hcs with hv _
    injection hv with ea el ec
    subst ea el ec
    have each : ∀ i, i < len → ∃ v r, w.cell? (ad.add i) = some v ∧ IsInts w v r := by
      intro i hi
      have hy := hel i hi
      rw [hc1, Nat.mul_one, List.getElem?_eq_getElem (by omega), Option.bind_eq_some_iff] at hy
      obtain ⟨cs, hcs, hy⟩ := hy
      obtain ⟨v, r, rfl, hr⟩ := open_row h1 he hc hy
      exact ⟨v, r, cell_of_cells?_one hcs, hr⟩
    have all : ∀ m, m ≤ len → ∃ l0 : List (List Int), l0.length = m ∧ ∀ j r, l0[j]? = some r → ∃ v, w.cell? (ad.add j) = some v ∧ IsInts w v r := by
      intro m
      induction m with
      | zero => intro _; exact ⟨[], rfl, fun j r hj => by simp at hj⟩
      | succ m ih =>
        intro hm'
        obtain ⟨l0, hl0, h0⟩ := ih (by omega)
        obtain ⟨v, r, hv, hr⟩ := each m (by omega)
        refine ⟨l0 ++ [r], by simp [hl0], fun j r' hj => ?_⟩
        by_cases hjm : j < m
        · rw [List.getElem?_append_left (by omega)] at hj
          exact h0 j r' hj
        · have hjl := (List.getElem?_eq_some_iff.1 hj).1
          rw [List.length_append, List.length_singleton, hl0] at hjl
          obtain rfl : j = m := by omega
          rw [List.getElem?_append_right (by omega), hl0, Nat.sub_self] at hj
          obtain rfl : r = r' := by simpa using hj
          exact ⟨v, hv, hr⟩
    obtain ⟨l0, hl0, h0⟩ := all len (Nat.le_refl _)
    refine ⟨l0, hl0.symm, by omega, by omega, ⟨rfl, by omega, fun _ => ⟨ad, rfl, fun j r hj => ?_⟩⟩, fun r hr => ?_⟩
    · obtain ⟨v, hv, A, c', rfl, hle, hC, _⟩ := h0 j r hj
      refine ⟨[.slice A r.length c'], rfl, ⟨A, c', rfl, hle, hC⟩, fun i u hu => ?_⟩
      have hi : i = 0 := by
        have := (List.getElem?_eq_some_iff.1 hu).1
        simp at this
        exact this
      subst hi
      obtain rfl : Value.slice A r.length c' = u := by simpa using hu
      rw [show j * (Kd.slice e (Kd.int .i64)).sz + 0 = j from by show j * 1 + 0 = j; omega]
      exact hv
    · obtain ⟨j, hj⟩ := List.getElem?_of_mem hr
      obtain ⟨v, _, A, c', _, _, _, hx⟩ := h0 j r hj
      exact hx
set_option maxRecDepth 100000 in
theorem lifted (os : Os) (started : os.Started) (H : Type) (enc : TypeId × Value → H) :
    ReturnsInHanded {} Try.checked os 3 .any (Rows.fnExactTransposeTileSpec.pre6 enc Try.prog Try.f3 Rows.fnExactTransposeTileRow.domain false) (Rows.fnExactTransposeTileSpec.post enc Try.prog Try.f3 false true false false) := by
  refine returnsInHanded_of_change_sized (C := Try.checked) own started (by kernel_rfl) Try.func3
    (ChangeSpec.witness6 (enc := enc) (C := Try.checked) false ⟨#[], #[.slice none 0 0], []⟩ 8 (by kernel_rfl) (by kernel_rfl) (by kernel_rfl) (by kernel_rfl)) ?_
  intro W base args ds gs before hval0 hW hcnd hsz0 _
  have hval : ∀ (j : Nat) t v, Try.f3.params[j]? = some t → args[j]? = some v → Value.okWide Try.prog W .any base t v := hval0
  have hW' := hW
  obtain ⟨p, q, hA0, hV, rfl, hfz, hnd⟩ := hW
  have hA : DataW.TrodAll enc Try.prog W 0 (fun _ => true) true Try.f3.params.toList args.toList ds p := hA0
  rw [Try.params3] at hA hval
  obtain ⟨v0, vs0, d0, ds0, p0, q0, hargs, rfl, rfl, h0, r0⟩ := trodAll_cons hA
  obtain ⟨rfl, rfl, rfl⟩ := trodAll_nil r0
  obtain rfl : args = #[v0] := by cases args; simp_all
  obtain ⟨rfl, rfl⟩ := trodVars_none hV
  obtain ⟨a0, len0, cap0, rfl⟩ := okWide_slice Try.underlying22 (hval 0 22 v0 rfl rfl)
  have k0 := h0
  have lt0 : ∀ x ∈ p0, x.block < W.heap.size := by obtain ⟨m, hm⟩ := k0; exact DataW.trod_lt m _ _ _ hm
  obtain ⟨fuel, hf⟩ := h0
  obtain ⟨l0, rfl, hcap, hml, hC, hrm⟩ := open_rows Try.underlying22 Try.underlying30 Try.underlying3 (by kernel_rfl) (by kernel_rfl) (show DataW.trod enc Try.prog W 0 (fun _ => true) true fuel 22 [.slice a0 len0 cap0] = some _ from hf)
  clear hA0 hval0 hsz0 hf
  refine (P.laws_FnExactTransposeTile.walk Pure.FnExactTransposeTile a0 cap0 l0 W hC hcap hml hrm).mono fun e W' ⟨he, bel⟩ => ?_
  subst he
  exact ⟨_, rfl, _, _, _, [], _, [], hW', trodAll_mk1 (shut_bool Try.underlying4 _), (trodAll_cons_mk (Below.trod laidOut (by kernel_rfl) (of_decide_eq_true (by kernel_rfl)) k0 bel lt0) trodAll_mk0), rfl, bel.frame _, fun h => by cases h⟩
theorem named : Try.prog.funcNamed Rows.fnExactTransposeTileRow.func = some 3 := by kernel_rfl
theorem closed : joinedFacts Try.prog 3 Try.f3 Rows.fnExactTransposeTileSpec Rows.fnExactTransposeTileRow = true := by
  rw [joinedFacts]
  simp only [Bool.and_eq_true]
  repeat' apply And.intro
  all_goals first | (with_reducible exact Head.mayEnter) | (rw [Head.liftsFinal]; kernel_rfl) | (rw [Head.make]; kernel_rfl) | as_aux_lemma => kernel_rfl
theorem over : Rows.fnExactTransposeTileRow.holds Try.pinned (OpenSpec.ofChange Rows.fnExactTransposeTileSpec) :=
  OpenClaim.holds_of_wide 3 Try.f3 rfl rfl rfl rfl rfl rfl rfl ⟨rfl, rfl, rfl, rfl, rfl⟩ rfl rfl rfl rfl rfl named Try.func3 closed
    (of_decide_eq_true (by kernel_rfl)) (by unfold Func.isWrapper; first | (rw [if_pos (by decide +kernel)]; kernel_rfl) | (rw [if_neg (by decide +kernel)]; exact ⟨rfl, rfl⟩))
    (fun os started H enc _ => lifted os started H enc)
theorem proved : Rows.FnExactTransposeTileSaid := over
#print axioms proved
end Go.Proofs.Ythkhgckagifmjaa.fnExactTransposeTile
namespace Go.Proofs.Ythkhgckagifmjaa
/-- The row, under a short name, for the claim. -/
theorem fnExactTransposeTile_holds : Rows.FnExactTransposeTileSaid := fnExactTransposeTile.proved
end Go.Proofs.Ythkhgckagifmjaa
