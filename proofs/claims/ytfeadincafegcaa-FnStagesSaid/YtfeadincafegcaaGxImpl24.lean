-- Laid by this session's own program (wip/pp.py) over the seat's translation; Lean checks it.
import Derived.Test.YtfeadincafegcaaGx0
import Derived.Test.YtfeadincafegcaaGxImpl01
import Derived.Test.YtfeadincafegcaaGxImpl19
import Derived.BigRegion
import Derived.Deep.RegionHeld3
import Derived.Lib.LazyBuf
import Derived.Shelf.Abstract
import Derived.Shelf.SlSortCmp.SmallK
import Derived.Test.YtfeadincafegcaaShelf
namespace Go.Proofs.Ytfeadincafegcaa.P
open Go.RowKit Go.Proofs.YtfeadincafegcaaW.PrintWords Go.Proofs.YtfeadincafegcaaW.PrintLast Go.Proofs.YtfeadincafegcaaW.PrintMore
attribute [local go_sem] max2_int min2_int max_two min_two max_three min_three max_four min_four   -- for this text's walks alone
set_option linter.unusedVariables false
set_option linter.unusedSimpArgs false

/-! ### impl_stageOf: function 62 -/
/-- k and j of a stage, and whether there is such a stage. -/
def impl_stageOf.f (s : Int) : Option (Int × Int × Bool) := if s = 0 then some (2, 1, true) else if s = 1 then some (4, 2, true) else if s = 2 then some (4, 1, true) else if s = 3 then some (8, 4, true) else if s = 4 then some (8, 2, true) else if s = 5 then some (8, 1, true) else some (0, 0, false)
theorem so_in (s : Int) : impl_within.f s 0 5 = some (decide (0 ≤ s) && decide (s ≤ 5)) := by
  unfold impl_within.f
  by_cases h : s ≥ 0
  · simp [h]
  · have h' : ¬ 0 ≤ s := h
    simp [h']
set_option maxHeartbeats 8000000 in
set_option maxRecDepth 100000 in
theorem so_case0 (w : World) : Calls Try.prog 62 #[.int .i64 0] w fun e w' => e = .returned (.tuple #[.int .i64 2, .int .i64 1, .bool true]) ∧ Below w.heap.size w w' := by
  have hin : impl_within.f 0 0 5 = some true := by rw [so_in]; rfl
  have HIN := Aside0.mk hin
  clear hin
  go_enter Try.func62, Try.ntmps62
  go_wp2_with (go_at_call 53; refine (impl_within.calls 0 0 5 true _ HIN.out).mono ?_; rintro e w' ⟨rfl, ⟨nd, rfl⟩⟩)
  go_region
  go_wp2
  go_ret3
  exact ⟨rfl, by repeat (first | exact Below.refl _ _ | apply below_alloc | apply pw_below_drewN | apply below_drew1)⟩
set_option maxHeartbeats 8000000 in
set_option maxRecDepth 100000 in
theorem so_case1 (w : World) : Calls Try.prog 62 #[.int .i64 1] w fun e w' => e = .returned (.tuple #[.int .i64 4, .int .i64 2, .bool true]) ∧ Below w.heap.size w w' := by
  have hin : impl_within.f 1 0 5 = some true := by rw [so_in]; rfl
  have HIN := Aside0.mk hin
  clear hin
  go_enter Try.func62, Try.ntmps62
  go_wp2_with (go_at_call 53; refine (impl_within.calls 1 0 5 true _ HIN.out).mono ?_; rintro e w' ⟨rfl, ⟨nd, rfl⟩⟩)
  go_region
  go_wp2
  go_ret3
  exact ⟨rfl, by repeat (first | exact Below.refl _ _ | apply below_alloc | apply pw_below_drewN | apply below_drew1)⟩
set_option maxHeartbeats 8000000 in
set_option maxRecDepth 100000 in
theorem so_case2 (w : World) : Calls Try.prog 62 #[.int .i64 2] w fun e w' => e = .returned (.tuple #[.int .i64 4, .int .i64 1, .bool true]) ∧ Below w.heap.size w w' := by
  have hin : impl_within.f 2 0 5 = some true := by rw [so_in]; rfl
  have HIN := Aside0.mk hin
  clear hin
  go_enter Try.func62, Try.ntmps62
  go_wp2_with (go_at_call 53; refine (impl_within.calls 2 0 5 true _ HIN.out).mono ?_; rintro e w' ⟨rfl, ⟨nd, rfl⟩⟩)
  go_region
  go_wp2
  go_ret3
  exact ⟨rfl, by repeat (first | exact Below.refl _ _ | apply below_alloc | apply pw_below_drewN | apply below_drew1)⟩
set_option maxHeartbeats 8000000 in
set_option maxRecDepth 100000 in
theorem so_case3 (w : World) : Calls Try.prog 62 #[.int .i64 3] w fun e w' => e = .returned (.tuple #[.int .i64 8, .int .i64 4, .bool true]) ∧ Below w.heap.size w w' := by
  have hin : impl_within.f 3 0 5 = some true := by rw [so_in]; rfl
  have HIN := Aside0.mk hin
  clear hin
  go_enter Try.func62, Try.ntmps62
  go_wp2_with (go_at_call 53; refine (impl_within.calls 3 0 5 true _ HIN.out).mono ?_; rintro e w' ⟨rfl, ⟨nd, rfl⟩⟩)
  go_region
  go_wp2
  go_ret3
  exact ⟨rfl, by repeat (first | exact Below.refl _ _ | apply below_alloc | apply pw_below_drewN | apply below_drew1)⟩
set_option maxHeartbeats 8000000 in
set_option maxRecDepth 100000 in
theorem so_case4 (w : World) : Calls Try.prog 62 #[.int .i64 4] w fun e w' => e = .returned (.tuple #[.int .i64 8, .int .i64 2, .bool true]) ∧ Below w.heap.size w w' := by
  have hin : impl_within.f 4 0 5 = some true := by rw [so_in]; rfl
  have HIN := Aside0.mk hin
  clear hin
  go_enter Try.func62, Try.ntmps62
  go_wp2_with (go_at_call 53; refine (impl_within.calls 4 0 5 true _ HIN.out).mono ?_; rintro e w' ⟨rfl, ⟨nd, rfl⟩⟩)
  go_region
  go_wp2
  go_ret3
  exact ⟨rfl, by repeat (first | exact Below.refl _ _ | apply below_alloc | apply pw_below_drewN | apply below_drew1)⟩
set_option maxHeartbeats 8000000 in
set_option maxRecDepth 100000 in
theorem so_case5 (w : World) : Calls Try.prog 62 #[.int .i64 5] w fun e w' => e = .returned (.tuple #[.int .i64 8, .int .i64 1, .bool true]) ∧ Below w.heap.size w w' := by
  have hin : impl_within.f 5 0 5 = some true := by rw [so_in]; rfl
  have HIN := Aside0.mk hin
  clear hin
  go_enter Try.func62, Try.ntmps62
  go_wp2_with (go_at_call 53; refine (impl_within.calls 5 0 5 true _ HIN.out).mono ?_; rintro e w' ⟨rfl, ⟨nd, rfl⟩⟩)
  go_region
  go_wp2
  go_ret3
  exact ⟨rfl, by repeat (first | exact Below.refl _ _ | apply below_alloc | apply pw_below_drewN | apply below_drew1)⟩
set_option maxHeartbeats 8000000 in
set_option maxRecDepth 100000 in
theorem so_no (s : Int) (h : ¬ (0 ≤ s ∧ s ≤ 5)) (w : World) : Calls Try.prog 62 #[.int .i64 s] w fun e w' => e = .returned (.tuple #[.int .i64 0, .int .i64 0, .bool false]) ∧ Below w.heap.size w w' := by
  have hin : impl_within.f s 0 5 = some false := by
    rw [so_in]
    by_cases c : 0 ≤ s
    · rw [decide_eq_true c, decide_eq_false (by omega)]; rfl
    · rw [decide_eq_false c]; rfl
  have HIN := Aside0.mk hin
  clear hin h
  go_enter Try.func62, Try.ntmps62
  go_wp2_with (go_at_call 53; refine (impl_within.calls s 0 5 false _ HIN.out).mono ?_; rintro e w' ⟨rfl, ⟨nd, rfl⟩⟩)
  go_ret3
  exact ⟨rfl, by repeat (first | exact Below.refl _ _ | apply below_alloc | apply pw_below_drewN | apply below_drew1)⟩
theorem impl_stageOf.calls (s : Int) (r1 : Int) (r2 : Int) (r3 : Bool) (w : World) (h : impl_stageOf.f s = some (r1, r2, r3)) :
    Calls Try.prog 62 #[.int .i64 s] w fun e w' => e = .returned (.tuple #[.int .i64 r1, .int .i64 r2, .bool r3]) ∧ Below w.heap.size w w' := by
  unfold impl_stageOf.f at h
  by_cases c0 : s = 0
  · subst c0
    rw [if_pos rfl] at h
    simp only [Option.some.injEq, Prod.mk.injEq] at h; obtain ⟨rfl, rfl, rfl⟩ := h
    exact so_case0 w
  rw [if_neg c0] at h
  by_cases c1 : s = 1
  · subst c1
    rw [if_pos rfl] at h
    simp only [Option.some.injEq, Prod.mk.injEq] at h; obtain ⟨rfl, rfl, rfl⟩ := h
    exact so_case1 w
  rw [if_neg c1] at h
  by_cases c2 : s = 2
  · subst c2
    rw [if_pos rfl] at h
    simp only [Option.some.injEq, Prod.mk.injEq] at h; obtain ⟨rfl, rfl, rfl⟩ := h
    exact so_case2 w
  rw [if_neg c2] at h
  by_cases c3 : s = 3
  · subst c3
    rw [if_pos rfl] at h
    simp only [Option.some.injEq, Prod.mk.injEq] at h; obtain ⟨rfl, rfl, rfl⟩ := h
    exact so_case3 w
  rw [if_neg c3] at h
  by_cases c4 : s = 4
  · subst c4
    rw [if_pos rfl] at h
    simp only [Option.some.injEq, Prod.mk.injEq] at h; obtain ⟨rfl, rfl, rfl⟩ := h
    exact so_case4 w
  rw [if_neg c4] at h
  by_cases c5 : s = 5
  · subst c5
    rw [if_pos rfl] at h
    simp only [Option.some.injEq, Prod.mk.injEq] at h; obtain ⟨rfl, rfl, rfl⟩ := h
    exact so_case5 w
  rw [if_neg c5] at h
  simp only [Option.some.injEq, Prod.mk.injEq] at h; obtain ⟨rfl, rfl, rfl⟩ := h
  exact so_no s (by omega) w

/-! ### impl_SortStage: function 35 -/
theorem so_cases {s k j : Int} (h : impl_stageOf.f s = some (k, j, true)) : (s = 0 ∧ k = 2 ∧ j = 1) ∨ (s = 1 ∧ k = 4 ∧ j = 2) ∨ (s = 2 ∧ k = 4 ∧ j = 1) ∨ (s = 3 ∧ k = 8 ∧ j = 4) ∨ (s = 4 ∧ k = 8 ∧ j = 2) ∨ (s = 5 ∧ k = 8 ∧ j = 1) := by
  unfold impl_stageOf.f at h
  by_cases c0 : s = 0
  · rw [if_pos c0] at h
    simp only [Option.some.injEq, Prod.mk.injEq] at h
    omega
  rw [if_neg c0] at h
  by_cases c1 : s = 1
  · rw [if_pos c1] at h
    simp only [Option.some.injEq, Prod.mk.injEq] at h
    omega
  rw [if_neg c1] at h
  by_cases c2 : s = 2
  · rw [if_pos c2] at h
    simp only [Option.some.injEq, Prod.mk.injEq] at h
    omega
  rw [if_neg c2] at h
  by_cases c3 : s = 3
  · rw [if_pos c3] at h
    simp only [Option.some.injEq, Prod.mk.injEq] at h
    omega
  rw [if_neg c3] at h
  by_cases c4 : s = 4
  · rw [if_pos c4] at h
    simp only [Option.some.injEq, Prod.mk.injEq] at h
    omega
  rw [if_neg c4] at h
  by_cases c5 : s = 5
  · rw [if_pos c5] at h
    simp only [Option.some.injEq, Prod.mk.injEq] at h
    omega
  rw [if_neg c5] at h
  simp at h
instance : Inhabited S43 := ⟨z43⟩
instance : DecidableEq S43 := fun a b => decidable_of_iff (a.f0 = b.f0 ∧ a.f1 = b.f1) ⟨fun h => by cases a; cases b; simp only at h; rw [h.1, h.2], fun h => by rw [h]; exact ⟨rfl, rfl⟩⟩
/-- The pairs that the code has put down behind n lanes. -/
def prs (k j : Int) : Nat → List S43
  | 0 => []
  | n + 1 => if (n : Int) > Go.bits .xor .i64 (n : Int) j then prs k j n else if Go.bits .and .i64 (n : Int) k = 0 then prs k j n ++ [⟨(n : Int), Go.bits .xor .i64 (n : Int) j⟩] else prs k j n ++ [⟨Go.bits .xor .i64 (n : Int) j, (n : Int)⟩]
theorem prs_len (k j : Int) : ∀ n, (prs k j n).length ≤ n := by
  intro n
  induction n with
  | zero => exact Nat.le_refl _
  | succ n ih =>
    unfold prs
    split
    · omega
    · split <;> simp <;> omega
def pkE (x : S43) : List Value := [.int .i64 x.f0, .int .i64 x.f1]
def pkC (x y : S43) : Int := Lib.compareInt x.f0 y.f0
/-- The pairs, laid flat. -/
def pkF : List S43 → List Value
  | [] => []
  | x :: xs => .int .i64 x.f0 :: .int .i64 x.f1 :: pkF xs
theorem pkF_len : ∀ xs, (pkF xs).length = xs.length * 2 := by
  intro xs
  induction xs with
  | nil => rfl
  | cons x xs ih => simp only [pkF, List.length_cons, ih]; omega
theorem pkF_append : ∀ xs ys, pkF (xs ++ ys) = pkF xs ++ pkF ys := by
  intro xs ys
  induction xs with
  | nil => rfl
  | cons x xs ih => simp only [List.cons_append, pkF, ih]
theorem pk_flat {w : World} {base : Nat} {ok : Nat → Prop} : ∀ (xs : List S43) (cs : List Value), Reps (k43.M w base ok) 2 xs cs → cs = pkF xs := by
  intro xs
  induction xs with
  | nil =>
    intro cs h
    have := h.1
    exact List.eq_nil_of_length_eq_zero (by simpa using this)
  | cons x xs ih =>
    intro cs h
    have h1 := h.2 0 x rfl
    have h2 := Kd.reps_drop (m := 1) h
    have h3 := k43_openM h1
    have e := ih _ h2
    rw [Nat.zero_mul, List.drop_zero] at h3
    rw [Nat.one_mul] at e
    rw [← List.take_append_drop 2 cs, h3, e]
    rfl
theorem pk_reps {w : World} {base : Nat} {ok : Nat → Prop} : ∀ (xs : List S43), Reps (k43.M w base ok) 2 xs (pkF xs) := by
  intro xs
  induction xs with
  | nil => exact Reps.none _ _
  | cons x xs ih =>
    have h := Kd.reps_append (Reps.snoc (Reps.none (k43.M w base ok) 2) (k43_mkM w base ok x) rfl) ih
    exact h
theorem pk_open {w : World} {base n : Nat} {ok : Nat → Prop} {v : Value} {xs : List S43} (h : Kd.R k43 43 w base ok v xs) (hn : xs.length = n + 1) : ∃ (g cap : Nat) (L : Array Value), v = .slice (some ⟨g, 0, none⟩) xs.length cap ∧ base ≤ g ∧ w.heap[g]? = some (.cells L 43 (0, 0)) ∧ xs.length ≤ cap ∧ cap ≤ maxLen ∧ L.size = cap * 2 ∧ L.toList.take (xs.length * 2) = pkF xs := by
  obtain ⟨_, inner, ho, hr⟩ := h
  have e := pk_flat xs inner hr
  rcases ho.2 with ⟨_, h0⟩ | ⟨g, cap, cur, hv, hbase, hbk, h1, h2, h3, h4⟩
  · omega
  · exact ⟨g, cap, cur, hv, hbase, hbk, h1, h2, h3, by rw [← e]; exact h4⟩
theorem pk_make {w : World} {base g cap : Nat} {L : Array Value} {xs : List S43} (hbase : base ≤ g) (hb : w.heap[g]? = some (.cells L 43 (0, 0))) (h1 : xs.length ≤ cap) (h2 : cap ≤ maxLen) (h3 : L.size = cap * 2) (h4 : L.toList.take (xs.length * 2) = pkF xs) : Kd.R k43 43 w base (fun _ => True) (.slice (some ⟨g, 0, none⟩) xs.length cap) xs :=
  ⟨fun _ _ => trivial, pkF xs, ⟨pkF_len xs, .inr ⟨g, cap, L, rfl, hbase, hb, h1, h2, h3, h4⟩⟩, pk_reps xs⟩
theorem pk_flatK : ∀ (xs : List S43), xs.length = 4 → Go.Sort.flatK pkE 2 xs.toArray = (pkF xs).toArray
  | [a, b, c, d], _ => by
    have e : Array.range 8 = #[0, 1, 2, 3, 4, 5, 6, 7] := by decide
    simp [Go.Sort.flatK, e, pkE, pkF]
theorem pk_holds {w : World} {g : Nat} {L : Array Value} {xs : List S43} (h4 : xs.length = 4) (hb : w.heap[g]? = some (.cells L 43 (0, 0))) (ht : L.toList.take (xs.length * 2) = pkF xs) : Go.Sort.HoldsK pkE 2 w g 0 xs.toArray := by
  intro j hj
  rw [pk_flatK xs h4] at hj ⊢
  have hj' : j < (pkF xs).length := by simpa using hj
  have hj2 : j < xs.length * 2 := by rw [pkF_len] at hj'; exact hj'
  refine ⟨?_, by simp [World.frozen?, hb]⟩
  have h1 : (L.toList.take (xs.length * 2))[j]? = (pkF xs)[j]? := by rw [ht]
  rw [List.getElem?_take_of_lt hj2] at h1
  simp only [World.cell?, hb, Nat.zero_add]
  simp only [Option.isSome_none, Bool.false_eq_true, if_false]
  rw [← Array.getElem?_toList, h1]
  simp [hj']
theorem pk_heap {w : World} {g n : Nat} {os : Array Obj} {L : Array Value} (d : Array Value) (hb : w.heap[g]? = some (.cells L 43 (0, 0))) :
    (Go.Sort.grow (Go.Sort.putRow id (Go.Sort.ahead w n) g 0 d) os).heap[g]? = some (.cells (Go.Sort.putCells id 0 d L) 43 (0, 0)) := by
  have hg : g < w.heap.size := (Array.getElem?_eq_some_iff.1 hb).1
  rw [Go.Sort.heap_grow_old _ _ (by simpa using hg)]
  simp [Go.Sort.putRow, Go.Sort.mapBlock, Go.Sort.ahead, Array.getElem?_modify, hb, Go.Sort.onCells]
theorem pk_grown {w : World} {g n : Nat} {os : Array Obj} (d : Array Value) : w.grownBy (Go.Sort.grow (Go.Sort.putRow id (Go.Sort.ahead w n) g 0 d) os) (some g) := by
  refine ⟨rfl, rfl, rfl, by simp, fun k hk hne => ?_⟩
  rw [Go.Sort.heap_grow_old _ _ (by simpa using hk)]
  have : g ≠ k := fun e => hne (by rw [e])
  simp [Go.Sort.putRow, Go.Sort.mapBlock, Go.Sort.ahead, Array.getElem?_modify, this]
theorem pk_take (L : Array Value) (ts : List Value) (h : ts.length ≤ L.size) : (Go.Sort.putCells id 0 ts.toArray L).toList.take ts.length = ts := by
  apply List.ext_getElem?
  intro j
  by_cases hj : j < ts.length
  · rw [List.getElem?_take_of_lt hj, Array.getElem?_toList]
    simp [Go.Sort.putCells, hj, show j < L.size by omega]
  · rw [List.getElem?_take_eq_none (by omega), List.getElem?_eq_none (by omega)]
theorem pk_sorted {w : World} {base g cap n : Nat} {os : Array Obj} {L : Array Value} {ys : List S43} (h4 : ys.length = 4) (hbase : base ≤ g) (hb : w.heap[g]? = some (.cells L 43 (0, 0))) (h1 : 4 ≤ cap) (h2 : cap ≤ maxLen) (h3 : L.size = cap * 2) :
    Kd.R k43 43 (sortWorldK pkE 2 w g 0 n ys.toArray os) base (fun _ => True) (.slice (some ⟨g, 0, none⟩) 4 cap) ys ∧ w.grownBy (sortWorldK pkE 2 w g 0 n ys.toArray os) (some g) := by
  unfold sortWorldK Go.Sort.putRowK
  rw [pk_flatK ys h4]
  refine ⟨?_, pk_grown _⟩
  rw [← h4]
  refine pk_make hbase (pk_heap _ hb) (by omega) h2 (by simp [Go.Sort.putCells, h3]) ?_
  rw [← pkF_len]
  exact pk_take L (pkF ys) (by rw [pkF_len]; omega)
theorem pk_cmp (x y : S43) (W : World) : Calls Try.prog 64 #[.agg #[.int .i64 x.f0, .int .i64 x.f1], .agg #[.int .i64 y.f0, .int .i64 y.f1]] W fun e w' => e = .returned (.int .i64 (Lib.compareInt x.f0 y.f0)) ∧ ∃ q os', w' = Go.Sort.grow (W.drewN q) os' := by
  have hcon := fun W' => Try.cmp_Compare_int x.f0 y.f0 W'
  generalize Lib.compareInt x.f0 y.f0 = r at hcon ⊢
  go_enter Try.func64, Try.ntmps64
  go_wp2_with (go_at_call 65; refine (hcon _).mono ?_; rintro e w' ⟨rfl, rfl⟩)
  go_ret
  exact ⟨rfl, 0, _, by rw [Go.Sort.alloc_eq_grow, Go.Sort.alloc_eq_grow, Go.Sort.grow_grow]; rfl⟩
theorem pk_agg (w : World) : (isAgg 43).run Try.prog w = .ok true w := by kernel_rfl
theorem pk_size (w : World) : (Go.sizeOf 43).run Try.prog w = .ok 2 w := by kernel_rfl
theorem pk_blen (n : Nat) (W : World) (h : n ≤ 12) : Calls Try.prog 86 #[.int .u64 n] W fun e w' => (∃ l : Int, e = .returned (.int .i64 l)) ∧ w' = W :=
  (Try.bits_Len n W (by omega) (by omega)).mono fun _ _ ⟨he, hw⟩ => ⟨⟨_, he⟩, hw⟩
/-- The library's sort, at four pairs. -/
theorem pk_sort (xs ys : List S43) (h4 : xs.length = 4) (hs : Go.Sort.insertionSort (ltOf pkC) xs.toArray 0 4 = ys.toArray) (g cap : Nat) (w : World) (hH : Go.Sort.HoldsK pkE 2 w g 0 xs.toArray) (hg : g < w.heap.size) :
    Calls Try.prog 63 #[.slice (some ⟨g, 0, none⟩) 4 cap, .func (.func 64) #[] #[]] w fun e w' => e = .returned (.tuple #[]) ∧ ∃ n os, w' = sortWorldK pkE 2 w g 0 n ys.toArray os := by
  have eg : ∀ args w, (callFunc 64 args).run Try.prog w = .ok (.enter 64 args) w := enters_of Try.func64 (by kernel_rfl) rfl
  have hz : xs.toArray.size = 4 := by simpa using h4
  have h := AnyQ.slices_SortFunc_small Try.sortPair 2 pk_agg pk_size pkE (fun _ => rfl) (fun x v hv => by simp [pkE] at hv; rcases hv with rfl | rfl <;> rfl) pkC 64 #[] g 0 cap xs.toArray w eg (fun _ _ _ _ x y => pk_cmp x y _) hH hg (by rw [hz]; omega) pk_blen
  rw [hz, hs] at h
  exact h
set_option maxHeartbeats 8000000 in
set_option maxRecDepth 100000 in
theorem ss_run (s k j : Int) (xs ys : List S43) (w : World) (hst : impl_stageOf.f s = some (k, j, true)) (hx : prs k j 8 = xs) (h4 : xs.length = 4) (hy : ys.length = 4) (hsort : Go.Sort.insertionSort (ltOf pkC) xs.toArray 0 4 = ys.toArray) :
    Calls Try.prog 35 #[.int .i64 s] w fun e w' => ∃ v0_ : Value, e = .returned (v0_) ∧ Kd.R k43 43 w' w.heap.size (fun _ => True) v0_ ys ∧ Below w.heap.size w w' := by
  have HST := Aside0.mk hst
  have HX := Aside0.mk hx
  have H4 := Aside0.mk h4
  have HY := Aside0.mk hy
  have HSO := Aside0.mk hsort
  clear hst hx h4 hy hsort
  go_enter Try.func35, Try.ntmps35
  go_wp2_with (first | (go_at_call 62; refine (impl_stageOf.calls s k j true _ HST.out).mono ?_; rintro e w1 ⟨rfl, hb⟩; have HB := Aside0.mk hb; clear hb) | ((with_reducible refine gate_dst (N := 17) rfl ?_); refine Kd.R_lit k43 _ 43 ?hg (N := 17) ?hd (xs := ([] : List S43)) (inner := []) (ok := fun _ => True) (okp := fun _ => True) ?hr ?hp (fun _ hk => hk) trivial (Below.refl _ _) (Nat.le_refl _) (by simp) ?_; (case hd => rfl); (case hg => rfl); (case hr => first | (go_simp; done) | (go_simp; rfl)); (case hp => exact (Reps.none _ _)); intro v6 w6 ho hb hg_ hnew_; clear hg_ hnew_; have n0_ := Aside0.mk (Kd.R_lower ho (below_size HB.out)); have n1_ := Aside0.mk (below_step HB.out hb); clear HB; have HO := n0_; have HB := n1_; clear n0_ n1_; clear hb ho))
  go_loopg [6, 18] 8 (fun kq v6 v18 w' => ∃ n : Nat, n ≤ 8 ∧ v18 = .int .i64 (n : Int) ∧ Aside0 (8 - n ≤ kq) ∧ Aside0 (Kd.R k43 43 w' w.heap.size (fun _ => True) v6 (prs k j n)) ∧ Aside0 (Below w.heap.size w w'))
  case atStart => exact ⟨0, by omega, by (first | rfl | (simp; done)), ⟨by omega⟩, HO, HB⟩
  case round =>
    clear HO HB
    obtain ⟨n, hn8, rfl, HK1, HO, HB⟩ := hrel
    by_cases hlt : n < 8
    · have hlti : decide ((n : Int) < 8) = true := decide_eq_true (by omega)
      have HLT := Aside0.mk hlt
      have LM := Aside0.mk (show ((prs k j n).length + 1) * 16 ≤ 140737488355328 by have := prs_len k j n; omega)
      obtain ⟨x, hx⟩ : ∃ x, x = Go.bits .xor .i64 (n : Int) j := ⟨_, rfl⟩
      obtain ⟨y, hy⟩ : ∃ y, y = Go.bits .and .i64 (n : Int) k := ⟨_, rfl⟩
      have hstep : prs k j (n + 1) = if (n : Int) > x then prs k j n else if y = 0 then prs k j n ++ [⟨(n : Int), x⟩] else prs k j n ++ [⟨x, (n : Int)⟩] := by rw [hx, hy]; rfl
      have hx' := hx.symm
      have hy' := hy.symm
      have HSTEP := Aside0.mk hstep
      clear hlt hx hy hn8 hstep
      by_cases c1 : x < (n : Int)
      · have c1b : decide (x < (n : Int)) = true := decide_eq_true c1
        have C1 := Aside0.mk c1
        clear c1
        go_wp2
        go_roundg (8 - (n + 1))
        case measure => have := HK1.out; have := HLT.out; omega
        case rel => exact ⟨n + 1, by have := HLT.out; omega, by first | (rw [show wrap64 ((n : Int) + 1) = ((n + 1 : Nat) : Int) by have := HLT.out; unfold wrap64; omega]; done) | (simp only [show wrap64 ((n : Int) + 1) = ((n + 1 : Nat) : Int) by have := HLT.out; unfold wrap64; omega]) | rfl, ⟨by omega⟩, ⟨by rw [HSTEP.out, if_pos C1.out]; exact HO.out⟩, HB⟩
      · have c1b : decide (x < (n : Int)) = false := decide_eq_false c1
        have C1 := Aside0.mk c1
        clear c1
        by_cases c2 : y = 0
        · subst c2
          go_wp2_with (first | ((with_reducible refine gate_builtin (b := .append) (xs := #[.tmp 39, .tmp 43]) rfl ?_); at_builtin; refine Kd.R_append k43 (w0 := w) w.heap.size rfl (.tmp 39) (.tmp 43) 37 43 (.agg #[(.int .i64 0), (.int .i64 0)]) 16 rfl Try.underlying37 info43 rfl (by decide) (by omega) u6 (prs k j n) (⟨(n : Int), x⟩ : S43) [.int .i64 (n : Int), .int .i64 x] (fun _ => True) (fun _ => False) rfl rfl ?aP (fun _ hk => hk.elim) ?aF ?aO ?aB ?aS ?aL ?_; (case aP => exact k43_mkM _ _ _ (⟨(n : Int), x⟩ : S43)); (case aB => exact (by repeat (first | (with_reducible first | exact HB.out | apply below_alloc | apply pw_below_drewN | apply below_drew1) | exact HB.out))); (case aF => exact (fun _ _ => trivial)); (case aO => exact (by (with_reducible repeat (first | apply Kd.R_alloc | apply Kd.R_drewN | apply Kd.R_drew)); exact HO.out)); (case aS => exact (below_size (by repeat (first | (with_reducible first | exact HB.out | apply below_alloc | apply pw_below_drewN | apply below_drew1) | exact HB.out)))); (case aL => exact LM.out); intro v406 w19 ho hb hg hat; have n0_ := Aside0.mk (hb); have n1_ := Aside0.mk (ho); clear HB; clear HO; have HB := n0_; have HO := n1_; clear n0_ n1_; clear ho hb hg hat))
          go_roundg (8 - (n + 1))
          case measure => have := HK1.out; have := HLT.out; omega
          case rel => exact ⟨n + 1, by have := HLT.out; omega, by first | (rw [show wrap64 ((n : Int) + 1) = ((n + 1 : Nat) : Int) by have := HLT.out; unfold wrap64; omega]; done) | (simp only [show wrap64 ((n : Int) + 1) = ((n + 1 : Nat) : Int) by have := HLT.out; unfold wrap64; omega]) | rfl, ⟨by omega⟩, ⟨by rw [HSTEP.out, if_neg (show ¬ (n : Int) > x by have := C1.out; omega), if_pos trivial]; exact HO.out⟩, HB⟩
        · have c2b : (y == 0) = false := beq_eq_false_iff_ne.mpr c2
          have c2d : decide (y = 0) = false := decide_eq_false c2
          have C2 := Aside0.mk c2
          go_wp2_with (first | ((with_reducible refine gate_builtin (b := .append) (xs := #[.tmp 24, .tmp 28]) rfl ?_); at_builtin; refine Kd.R_append k43 (w0 := w) w.heap.size rfl (.tmp 24) (.tmp 28) 37 43 (.agg #[(.int .i64 0), (.int .i64 0)]) 16 rfl Try.underlying37 info43 rfl (by decide) (by omega) u6 (prs k j n) (⟨x, (n : Int)⟩ : S43) [.int .i64 x, .int .i64 (n : Int)] (fun _ => True) (fun _ => False) rfl rfl ?aP (fun _ hk => hk.elim) ?aF ?aO ?aB ?aS ?aL ?_; (case aP => exact k43_mkM _ _ _ (⟨x, (n : Int)⟩ : S43)); (case aB => exact (by repeat (first | (with_reducible first | exact HB.out | apply below_alloc | apply pw_below_drewN | apply below_drew1) | exact HB.out))); (case aF => exact (fun _ _ => trivial)); (case aO => exact (by (with_reducible repeat (first | apply Kd.R_alloc | apply Kd.R_drewN | apply Kd.R_drew)); exact HO.out)); (case aS => exact (below_size (by repeat (first | (with_reducible first | exact HB.out | apply below_alloc | apply pw_below_drewN | apply below_drew1) | exact HB.out)))); (case aL => exact LM.out); intro v406 w19 ho hb hg hat; have n0_ := Aside0.mk (hb); have n1_ := Aside0.mk (ho); clear HB; clear HO; have HB := n0_; have HO := n1_; clear n0_ n1_; clear ho hb hg hat))
          go_roundg (8 - (n + 1))
          case measure => have := HK1.out; have := HLT.out; omega
          case rel => exact ⟨n + 1, by have := HLT.out; omega, by first | (rw [show wrap64 ((n : Int) + 1) = ((n + 1 : Nat) : Int) by have := HLT.out; unfold wrap64; omega]; done) | (simp only [show wrap64 ((n : Int) + 1) = ((n + 1 : Nat) : Int) by have := HLT.out; unfold wrap64; omega]) | rfl, ⟨by omega⟩, ⟨by rw [HSTEP.out, if_neg (show ¬ (n : Int) > x by have := C1.out; omega), if_neg C2.out]; exact HO.out⟩, HB⟩
    · have hn : n = 8 := by omega
      subst hn
      have hlti : decide (((8 : Nat) : Int) < 8) = false := by decide
      rw [HX.out] at HO
      obtain ⟨g, cap, L, hv, hbase, hbk, h1, h2, h3, h5⟩ := pk_open (n := 3) HO.out H4.out
      rw [H4.out] at hv h1
      subst hv
      have hgl : g < wr.heap.size := (Array.getElem?_eq_some_iff.1 hbk).1
      have hcon := fun m => pk_sort xs ys H4.out HSO.out g cap (wr.drewN m) (pk_holds H4.out hbk h5) hgl
      have hsor := fun (m q : Nat) os => pk_sorted (n := q) (os := os) (w := wr.drewN m) HY.out hbase hbk h1 h2 h3
      have HCON := Aside0.mk hcon
      have HSOR := Aside0.mk hsor
      have HBA := Aside0.mk hbase
      clear hlt hn8 hbase hbk h1 h2 h3 h5 hgl hcon hsor HX HO
      go_wp2_with (go_at_call 63; refine (HCON.out 0).mono ?_; rintro e w' ⟨rfl, q, os, rfl⟩)
      go_ret
      obtain ⟨hr, hgr⟩ := HSOR.out 0 q os
      exact ⟨_, rfl, hr, (show Below w.heap.size w (wr.drewN 0) from pw_below_drewN HB.out 0).grown hgr HB.out.size (fun k_ e_ => by cases e_; exact HBA.out)⟩
/-- The pairs of each stage, ascending. -/
def stageL (s : Int) : List S43 := if s = 0 then [⟨0, 1⟩, ⟨3, 2⟩, ⟨4, 5⟩, ⟨7, 6⟩] else if s = 1 then [⟨0, 2⟩, ⟨1, 3⟩, ⟨6, 4⟩, ⟨7, 5⟩] else if s = 2 then [⟨0, 1⟩, ⟨2, 3⟩, ⟨5, 4⟩, ⟨7, 6⟩] else if s = 3 then [⟨0, 4⟩, ⟨1, 5⟩, ⟨2, 6⟩, ⟨3, 7⟩] else if s = 4 then [⟨0, 2⟩, ⟨1, 3⟩, ⟨4, 6⟩, ⟨5, 7⟩] else if s = 5 then [⟨0, 1⟩, ⟨2, 3⟩, ⟨4, 5⟩, ⟨6, 7⟩] else []
def impl_SortStage.f (s : Int) : Option (List S43) := some (stageL s)
theorem ss_case0 (w : World) : Calls Try.prog 35 #[.int .i64 0] w fun e w' => ∃ v0_ : Value, e = .returned (v0_) ∧ Kd.R k43 43 w' w.heap.size (fun _ => True) v0_ [⟨0, 1⟩, ⟨3, 2⟩, ⟨4, 5⟩, ⟨7, 6⟩] ∧ Below w.heap.size w w' := ss_run 0 2 1 (prs 2 1 8) [⟨0, 1⟩, ⟨3, 2⟩, ⟨4, 5⟩, ⟨7, 6⟩] w (by decide +kernel) rfl (by decide +kernel) rfl (by decide +kernel)
theorem ss_case1 (w : World) : Calls Try.prog 35 #[.int .i64 1] w fun e w' => ∃ v0_ : Value, e = .returned (v0_) ∧ Kd.R k43 43 w' w.heap.size (fun _ => True) v0_ [⟨0, 2⟩, ⟨1, 3⟩, ⟨6, 4⟩, ⟨7, 5⟩] ∧ Below w.heap.size w w' := ss_run 1 4 2 (prs 4 2 8) [⟨0, 2⟩, ⟨1, 3⟩, ⟨6, 4⟩, ⟨7, 5⟩] w (by decide +kernel) rfl (by decide +kernel) rfl (by decide +kernel)
theorem ss_case2 (w : World) : Calls Try.prog 35 #[.int .i64 2] w fun e w' => ∃ v0_ : Value, e = .returned (v0_) ∧ Kd.R k43 43 w' w.heap.size (fun _ => True) v0_ [⟨0, 1⟩, ⟨2, 3⟩, ⟨5, 4⟩, ⟨7, 6⟩] ∧ Below w.heap.size w w' := ss_run 2 4 1 (prs 4 1 8) [⟨0, 1⟩, ⟨2, 3⟩, ⟨5, 4⟩, ⟨7, 6⟩] w (by decide +kernel) rfl (by decide +kernel) rfl (by decide +kernel)
theorem ss_case3 (w : World) : Calls Try.prog 35 #[.int .i64 3] w fun e w' => ∃ v0_ : Value, e = .returned (v0_) ∧ Kd.R k43 43 w' w.heap.size (fun _ => True) v0_ [⟨0, 4⟩, ⟨1, 5⟩, ⟨2, 6⟩, ⟨3, 7⟩] ∧ Below w.heap.size w w' := ss_run 3 8 4 (prs 8 4 8) [⟨0, 4⟩, ⟨1, 5⟩, ⟨2, 6⟩, ⟨3, 7⟩] w (by decide +kernel) rfl (by decide +kernel) rfl (by decide +kernel)
theorem ss_case4 (w : World) : Calls Try.prog 35 #[.int .i64 4] w fun e w' => ∃ v0_ : Value, e = .returned (v0_) ∧ Kd.R k43 43 w' w.heap.size (fun _ => True) v0_ [⟨0, 2⟩, ⟨1, 3⟩, ⟨4, 6⟩, ⟨5, 7⟩] ∧ Below w.heap.size w w' := ss_run 4 8 2 (prs 8 2 8) [⟨0, 2⟩, ⟨1, 3⟩, ⟨4, 6⟩, ⟨5, 7⟩] w (by decide +kernel) rfl (by decide +kernel) rfl (by decide +kernel)
theorem ss_case5 (w : World) : Calls Try.prog 35 #[.int .i64 5] w fun e w' => ∃ v0_ : Value, e = .returned (v0_) ∧ Kd.R k43 43 w' w.heap.size (fun _ => True) v0_ [⟨0, 1⟩, ⟨2, 3⟩, ⟨4, 5⟩, ⟨6, 7⟩] ∧ Below w.heap.size w w' := ss_run 5 8 1 (prs 8 1 8) [⟨0, 1⟩, ⟨2, 3⟩, ⟨4, 5⟩, ⟨6, 7⟩] w (by decide +kernel) rfl (by decide +kernel) rfl (by decide +kernel)
set_option maxHeartbeats 8000000 in
set_option maxRecDepth 100000 in
theorem ss_no (s : Int) (h : ¬ (0 ≤ s ∧ s ≤ 5)) (w : World) : Calls Try.prog 35 #[.int .i64 s] w fun e w' => e = .returned (.slice none 0 0) ∧ Below w.heap.size w w' := by
  have hst : impl_stageOf.f s = some (0, 0, false) := by
    unfold impl_stageOf.f
    rw [if_neg (by omega), if_neg (by omega), if_neg (by omega), if_neg (by omega), if_neg (by omega), if_neg (by omega)]
  have HST := Aside0.mk hst
  clear hst h
  go_enter Try.func35, Try.ntmps35
  go_wp2_with (go_at_call 62; refine (impl_stageOf.calls s 0 0 false _ HST.out).mono ?_; rintro e w1 ⟨rfl, hb⟩; have HB := Aside0.mk hb; clear hb)
  go_ret
  exact ⟨rfl, HB.out⟩
theorem impl_SortStage.calls (s : Int) (r : List S43) (w : World) (h : impl_SortStage.f s = some r) :
    Calls Try.prog 35 #[.int .i64 s] w fun e w' => ∃ v0_ : Value, e = .returned (v0_) ∧ Kd.R k43 43 w' w.heap.size (fun _ => True) v0_ r ∧ Below w.heap.size w w' := by
  obtain rfl := Option.some.inj h
  by_cases c0 : s = 0
  · subst c0
    exact ss_case0 w
  by_cases c1 : s = 1
  · subst c1
    exact ss_case1 w
  by_cases c2 : s = 2
  · subst c2
    exact ss_case2 w
  by_cases c3 : s = 3
  · subst c3
    exact ss_case3 w
  by_cases c4 : s = 4
  · subst c4
    exact ss_case4 w
  by_cases c5 : s = 5
  · subst c5
    exact ss_case5 w
  have e : stageL s = [] := by
    unfold stageL
    rw [if_neg c0, if_neg c1, if_neg c2, if_neg c3, if_neg c4, if_neg c5]
  rw [e]
  exact (ss_no s (by omega) w).mono fun _ _ ⟨he, hb⟩ => ⟨_, he, Kd.R_nil _ _ _ _ _, hb⟩

/-! ### impl_ApplyStage: function 39 -/
set_option maxHeartbeats 8000000 in
set_option maxRecDepth 100000 in
/-- A copy of a list that is not empty. -/
theorem cl_calls (ad : Addr) (c0 : Nat) (l0 : List Int) (w : World) (hr0 : Kd.C (Kd.int .i64) w (some ad) l0.length l0) (hc0 : l0.length ≤ c0) (h8 : l0.length = 8) :
    Calls Try.prog 68 #[.slice (some ad) l0.length c0] w fun e w' => ∃ v0_ : Value, e = .returned (v0_) ∧ Kd.R (Kd.int .i64) 3 w' w.heap.size (fun _ => True) v0_ l0 ∧ Below w.heap.size w w' := by
  have qn : ∀ (W : World) (a : Option Addr) (n c : Nat), (binOp .eql 24 (.slice a n c) (.slice none 0 0)).run Try.prog W = .ok (.bool a.isNone) W := fun W a n c => Go.run_eql_slice_nil W _ _ a n c Try.underlying24
  have HR0 := Aside0.mk hr0
  have HC0 := Aside0.mk hc0
  have LM := Aside0.mk (show (([] : List Int).length + l0.length) * 8 ≤ 140737488355328 by rw [h8]; decide)
  have HB := Aside0.mk (Below.refl w.heap.size w)
  clear hr0 hc0 h8
  go_enter Try.func68, Try.ntmps68
  go_wp2_with (first | ((with_reducible refine gate_dst (N := 5) rfl ?_); refine Kd.R_lit (Kd.int .i64) _ 3 ?hg (N := 5) ?hd (xs := ([] : List Int)) (inner := []) (ok := fun _ => True) (okp := fun _ => True) ?hr ?hp (fun _ hk => hk) trivial (Below.refl _ _) (Nat.le_refl _) (by simp) ?_; (case hd => rfl); (case hg => rfl); (case hr => first | (go_simp; done) | (go_simp; rfl)); (case hp => exact (Reps.none _ _)); intro v5 w5 ho hb hg_ hnew_; clear hg_ hnew_; have n0_ := Aside0.mk (Kd.R_lower ho (below_size HB.out)); have n1_ := Aside0.mk (below_step HB.out hb); clear HB; have HO := n0_; have HB := n1_; clear n0_ n1_; clear hb ho) | ((with_reducible refine gate_builtin (b := .append) (xs := #[.tmp 5, .tmp 6]) rfl ?_); at_builtin; refine Kd.R_append_rows (Kd.int .i64) (w0 := w) w.heap.size rfl (.tmp 5) (.tmp 6) 24 3 (.int .i64 0) 8 rfl Try.underlying24 info3 rfl (by decide) (by omega) v5 ([] : List Int) l0 _ _ _ (fun _ => True) (fun _ => False) rfl rfl ?aO ?aR (fun _ _ h => h) (fun _ h => h.elim) ?aF ?aB ?aS ?aL ?_; (case aR => exact (Kd.C_below HR0.out HB.out)); (case aB => exact HB.out); (case aF => exact (fun _ _ => trivial)); (case aO => exact HO.out); (case aS => exact (below_size HB.out)); (case aL => exact LM.out); intro v7 w7 ho hb hg hat; have n0_ := Aside0.mk (hb); have n1_ := Aside0.mk (ho); clear HB; clear HO; have HB := n0_; have HO := n1_; clear n0_ n1_; clear ho hb hg hat))
  go_ret
  exact ⟨_, rfl, HO.out, HB.out⟩
/-- What a pair does to a list: the smaller value to its low lane, the greater to its high lane. -/
def stepP (v o : List Int) (p : S43) : List Int := (o.set p.f0.toNat (mn (rd v p.f0) (rd v p.f1))).set p.f1.toNat (mx (rd v p.f0) (rd v p.f1))
def applyP (v : List Int) (ps : List S43) : List Int := ps.foldl (stepP v) v
theorem applyP_len (v : List Int) (ps : List S43) : (applyP v ps).length = v.length := by
  unfold applyP
  suffices g : ∀ (o : List Int), (ps.foldl (stepP v) o).length = o.length from g v
  induction ps with
  | nil => intro o; rfl
  | cons p ps ih => intro o; rw [List.foldl_cons, ih]; simp [stepP]
theorem applyP_take (v : List Int) (ps : List S43) (i : Nat) (h : i < ps.length) : applyP v (ps.take (i + 1)) = stepP v (applyP v (ps.take i)) (rd_T43 ps (i : Int)) := by
  unfold applyP
  rw [List.take_add_one, List.getElem?_eq_getElem h, Option.toList_some, List.foldl_append]
  simp only [List.foldl_cons, List.foldl_nil]
  congr 1
  unfold rd_T43
  rw [Int.toNat_natCast, List.getD_eq_getElem?_getD, List.getElem?_eq_getElem h]
  rfl
theorem as_add (g j : Nat) : (⟨g, 0, none⟩ : Addr).add j = ⟨g, j, none⟩ := by
  unfold Addr.add
  by_cases h0 : j = 0
  · subst h0; rfl
  · simp [h0]
/-- What the exchange reads: the pair's lanes and the two values. -/
def Sees (pb a b : Nat) (q0 q1 : Addr) (va vb : Int) (W : World) : Prop := W.cell? ⟨pb, 0, none⟩ = some (.int .i64 (a : Int)) ∧ W.cell? ⟨pb, 1, none⟩ = some (.int .i64 (b : Int)) ∧ W.cell? q0 = some (.int .i64 va) ∧ W.cell? q1 = some (.int .i64 vb)
theorem sees_set {pb a b go : Nat} {q0 q1 : Addr} {va vb : Int} (h0 : ¬ pb = go) (h1 : ¬ q0.block = go) (h2 : ¬ q1.block = go) {W : World} (h : Sees pb a b q0 q1 va vb W) (p : Addr) (hp : p.block = go) (v : Value) : Sees pb a b q0 q1 va vb (W.setCell p v) := by
  obtain ⟨g0, g1, g2, g3⟩ := h
  exact ⟨(World.cell?_setCell_far W p _ v (by rw [hp]; exact fun e => h0 e.symm)).trans g0, (World.cell?_setCell_far W p _ v (by rw [hp]; exact fun e => h0 e.symm)).trans g1, (World.cell?_setCell_far W p _ v (by rw [hp]; exact fun e => h1 e.symm)).trans g2, (World.cell?_setCell_far W p _ v (by rw [hp]; exact fun e => h2 e.symm)).trans g3⟩
theorem sees_drew {pb a b : Nat} {q0 q1 : Addr} {va vb : Int} {W : World} (h : Sees pb a b q0 q1 va vb W) : Sees pb a b q0 q1 va vb W.drew := h
theorem new_pair (w : World) (u v : Value) : (w.alloc (Obj.cells #[u, v] 43)).cell? ⟨w.heap.size, 0, none⟩ = some u ∧ (w.alloc (Obj.cells #[u, v] 43)).cell? ⟨w.heap.size, 1, none⟩ = some v := by
  have h := (Go.MapKept.heap_alloc w (Obj.cells #[u, v] 43)).1
  constructor <;> simp only [World.cell?, h] <;> rfl
theorem pairs_in (s : Int) : ∀ p ∈ stageL s, (0 ≤ p.f0 ∧ p.f0 < 8) ∧ (0 ≤ p.f1 ∧ p.f1 < 8) ∧ p.f0 ≠ p.f1 := by
  unfold stageL
  split
  · decide
  split
  · decide
  split
  · decide
  split
  · decide
  split
  · decide
  split
  · decide
  · intro p hp; cases hp
set_option maxHeartbeats 8000000 in
set_option maxRecDepth 100000 in
theorem as_run (ad : Addr) (c0 : Nat) (l0 : List Int) (s : Int) (w : World) (hr0 : Kd.C (Kd.int .i64) w (some ad) l0.length l0) (hc0 : l0.length ≤ c0) (h8 : l0.length = 8) (hv : impl_ValuesOk.f l0 = some true) (hs : (stageL s).length = 4) :
    Calls Try.prog 39 #[.slice (some ad) l0.length c0, .int .i64 s] w fun e w' => ∃ v0_ : Value, e = .returned (v0_) ∧ Kd.R (Kd.int .i64) 3 w' w.heap.size (fun _ => True) v0_ (applyP l0 (stageL s)) ∧ Below w.heap.size w w' := by
  have qn : ∀ (W : World) (a : Option Addr) (n c : Nat), (binOp .eql 37 (.slice a n c) (.slice none 0 0)).run Try.prog W = .ok (.bool a.isNone) W := fun W a n c => Go.run_eql_slice_nil W _ _ a n c Try.underlying37
  have HR0 := Aside0.mk hr0
  have HC0 := Aside0.mk hc0
  have H8 := Aside0.mk h8
  have HV := Aside0.mk hv
  have HIN := Aside0.mk (pairs_in s)
  obtain ⟨ps, hps⟩ : ∃ ps, ps = stageL s := ⟨_, rfl⟩
  have HSS := Aside0.mk (fun W => impl_SortStage.calls s ps W (by rw [hps]; rfl))
  rw [← hps] at hs HIN ⊢
  have H4 := Aside0.mk hs
  clear hr0 hc0 h8 hv hs hps
  go_enter Try.func39, Try.ntmps39
  go_wp2_with (first | (go_at_call 35; refine (HSS.out _).mono ?_; rintro e w1 ⟨v1, rfl, ho, hb⟩; obtain ⟨pg, pc, PL, hv1, hp1, _, _, _, _, _⟩ := pk_open (n := 3) ho H4.out; subst hv1; have HP := Aside0.mk ho; have HB := Aside0.mk hb; clear ho hb hp1) | (go_at_call 67; refine (impl_ValuesOk.calls (some ad) c0 l0 true _ (Kd.C_below HR0.out HB.out) HC0.out HV.out).mono ?_; rintro e w' ⟨rfl, ⟨nd, rfl⟩⟩) | (go_at_call 68; refine (cl_calls ad c0 l0 _ (Kd.C_below HR0.out (by first | exact HB.out | exact pw_below_drewN HB.out _)) HC0.out H8.out).mono ?_; rintro e w2 ⟨v2, rfl, ho, hb⟩; have HO := Aside0.mk ho; have HB2 := Aside0.mk hb; clear ho hb))
  obtain ⟨go, co, eo, gb, gl, cl, hcl⟩ := Kd.R_form HO.out (by rw [H8.out]; omega)
  subst eo
  have hb2 : Below w.heap.size w w2 := below_step (pw_below_drewN HB.out nd) HB2.out
  have GB := Aside0.mk (show w1.heap.size ≤ go from gb)
  have GL := Aside0.mk gl
  have hP2 : Kd.R k43 43 w2 w.heap.size (fun k_ => k_ < w1.heap.size) (.slice (some ⟨pg, 0, none⟩) ps.length pc) ps := Kd.R_below (Kd.R_drewN (Kd.R_mono (Kd.R_bound HP.out) (fun k_ hk => hk.2.2.1)) nd) HB2.out
  have HP2 := Aside0.mk hP2
  have HO2 := Aside0.mk (Kd.R_lower HO.out (show w.heap.size ≤ w1.heap.size from HB.out.size))
  have HBB := Aside0.mk hb2
  have HS1 := Aside0.mk HB.out.size
  clear gb gl cl hcl hb2 hP2 HO HP HB HB2
  go_loopg [22] 4 (fun kq v22 w' => ∃ i : Nat, i ≤ ps.length ∧ v22 = .int .i64 (i : Int) ∧ Aside0 (ps.length - i ≤ kq) ∧ Aside0 (Kd.R (Kd.int .i64) 3 w' w.heap.size (fun _ => True) (.slice (some ⟨go, 0, none⟩) l0.length co) (applyP l0 (ps.take i))) ∧ Aside0 (Kd.R k43 43 w' w.heap.size (fun k_ => k_ < w1.heap.size) (.slice (some ⟨pg, 0, none⟩) ps.length pc) ps) ∧ Aside0 (Below w.heap.size w w') ∧ Aside0 (w2.heap.size ≤ w'.heap.size))
  case atStart => exact ⟨0, Nat.zero_le _, by (first | rfl | (simp; done)), ⟨by have := H4.out; omega⟩, HO2, HP2, HBB, ⟨Nat.le_refl _⟩⟩
  case round =>
    clear HO2 HP2 HBB
    obtain ⟨i, hi4, rfl, HK1, HO, HP, HB, HS2⟩ := hrel
    by_cases hlt : i < ps.length
    · have hlti : decide ((i : Int) < (ps.length : Int)) = true := decide_eq_true (by omega)
      have p1 : 0 ≤ (i : Int) := by omega
      have q1 : (i : Int) < (ps.length : Int) := by omega
      obtain ⟨ad1, e1, hp0, hp1⟩ := at_T43 (Kd.R_reads' HP.out).2.2 (i : Int) p1 q1
      cases e1
      have hmem : rd_T43 ps (i : Int) ∈ ps := by
        unfold rd_T43
        rw [Int.toNat_natCast, List.getD_eq_getElem?_getD, List.getElem?_eq_getElem hlt]
        exact List.getElem_mem hlt
      have hin := HIN.out _ hmem
      have hst := applyP_take l0 ps i hlt
      unfold stepP at hst
      obtain ⟨p, hp⟩ : ∃ p, p = rd_T43 ps (i : Int) := ⟨_, rfl⟩
      rw [← hp] at hin hst hp0 hp1
      obtain ⟨x, y⟩ := p
      simp only at hin hst hp0 hp1
      obtain ⟨⟨x0, x8⟩, ⟨y0, y8⟩, hxy⟩ := hin
      obtain ⟨a, rfl⟩ := Int.eq_ofNat_of_zero_le x0
      obtain ⟨b, rfl⟩ := Int.eq_ofNat_of_zero_le y0
      have hab : ¬ a = b := fun e => hxy (by rw [e])
      have h8 := H8.out
      have hl := applyP_len l0 (ps.take i)
      obtain ⟨ad4, e4, hw0⟩ := Kd.at_int HR0.out (a : Int) x0 (by omega)
      cases e4
      obtain ⟨ad5, e5, hw1⟩ := Kd.at_int HR0.out (b : Int) y0 (by omega)
      cases e5
      obtain ⟨ad2, e2, hv0⟩ := Kd.at_int (Kd.C_below HR0.out HB.out) (a : Int) x0 (by omega)
      cases e2
      obtain ⟨ad3, e3, hv1⟩ := Kd.at_int (Kd.C_below HR0.out HB.out) (b : Int) y0 (by omega)
      cases e3
      obtain ⟨ho0, hf0⟩ := Kd.R_celln 0 HO.out (a : Int) x0 (by omega)
      obtain ⟨ho1, hf1⟩ := Kd.R_celln 0 HO.out (b : Int) y0 (by omega)
      simp only [Int.toNat_natCast, as_add] at hst hp0 hp1 hv0 hv1 ho0 hf0 ho1 hf1 hw0 hw1
      have qa : decide ((a : Int) < (l0.length : Int)) = true := decide_eq_true (by omega)
      have qb : decide ((b : Int) < (l0.length : Int)) = true := decide_eq_true (by omega)
      have qa' : a < l0.length := by omega
      have qb' : b < l0.length := by omega
      generalize rd l0 (a : Int) = va at hv0 hst
      generalize rd l0 (b : Int) = vb at hv1 hst
      have HST := Aside0.mk hst
      have HLT := Aside0.mk hlt
      have HAB := Aside0.mk hab
      have hbw : Below wr.heap.size wr (wr.alloc (Obj.cells #[Value.int IntKind.i64 (a : Int), Value.int IntKind.i64 (b : Int)] 43)) := by repeat (first | exact Below.refl _ _ | apply below_alloc)
      have hgo : go < wr.heap.size := by have h1 := GL.out; have h2 := HS2.out; omega
      replace hv0 := (hbw.cell (World.block_lt_of_cell? wr _ hv0)).trans hv0
      replace hv1 := (hbw.cell (World.block_lt_of_cell? wr _ hv1)).trans hv1
      replace ho0 := (hbw.cell (World.block_lt_of_cell? wr _ ho0)).trans ho0
      replace ho1 := (hbw.cell (World.block_lt_of_cell? wr _ ho1)).trans ho1
      replace hf0 : (wr.alloc (Obj.cells #[Value.int IntKind.i64 (a : Int), Value.int IntKind.i64 (b : Int)] 43)).frozen? ⟨go, a, none⟩ = false := (World.frozen?_of_block (hbw.block go hgo)).trans hf0
      replace hf1 : (wr.alloc (Obj.cells #[Value.int IntKind.i64 (a : Int), Value.int IntKind.i64 (b : Int)] 43)).frozen? ⟨go, b, none⟩ = false := (World.frozen?_of_block (hbw.block go hgo)).trans hf1
      have HBW := Aside0.mk hbw
      clear hst hlt hmem hp hl h8 hi4 hxy hbw hgo
      have hq0 : ¬ (ad.add a).block = go := fun e => by
        have h1 := World.block_lt_of_cell? w _ hw0
        rw [e] at h1
        have h2 := GB.out
        have h3 := HS1.out
        omega
      have hq1 : ¬ (ad.add b).block = go := fun e => by
        have h1 := World.block_lt_of_cell? w _ hw1
        rw [e] at h1
        have h2 := GB.out
        have h3 := HS1.out
        omega
      have hpg : ¬ wr.heap.size = go := by have h1 := GL.out; have h2 := HS2.out; omega
      have hba : ¬ b = a := fun e => HAB.out e.symm
      have hab2 : ¬ a = b := HAB.out
      have hsee : Sees wr.heap.size a b (ad.add a) (ad.add b) va vb (wr.alloc (Obj.cells #[Value.int IntKind.i64 (a : Int), Value.int IntKind.i64 (b : Int)] 43)) := ⟨(new_pair wr _ _).1, (new_pair wr _ _).2, hv0, hv1⟩
      have HSEE := Aside0.mk hsee
      clear hw0 hw1 hsee
      have HKEY := Aside0.mk (show ∀ m1 m2 : Int, mn va vb = m1 → mx va vb = m2 → ∀ W : World, W = (((wr.alloc (Obj.cells #[Value.int IntKind.i64 (a : Int), Value.int IntKind.i64 (b : Int)] 43)).setCell ⟨go, a, none⟩ (.int .i64 m1)).setCell ⟨go, b, none⟩ (.int .i64 m2)).drew → Kd.R (Kd.int .i64) 3 W w.heap.size (fun _ => True) (.slice (some ⟨go, 0, none⟩) l0.length co) (applyP l0 (ps.take (i + 1))) ∧ Kd.R k43 43 W w.heap.size (fun k_ => k_ < w1.heap.size) (.slice (some ⟨pg, 0, none⟩) ps.length pc) ps ∧ Below w.heap.size w W ∧ w2.heap.size ≤ W.heap.size by
        intro m1 m2 e1 e2 W eW
        subst e1 e2 eW
        have hgb := GB.out
        have hgl := GL.out
        have hs2 := HS2.out
        have hs1 := HS1.out
        have q1 := Kd.R_putg (Kd.R_alloc HO.out (Obj.cells #[Value.int IntKind.i64 (a : Int), Value.int IntKind.i64 (b : Int)] 43)) (a : Int) (mn va vb)
        have q2 := Kd.R_putg q1.1 (b : Int) (mx va vb)
        simp only [Int.toNat_natCast, as_add] at q1 q2
        rw [← HST.out] at q2
        have b1 : Below w.heap.size w (wr.alloc (Obj.cells #[Value.int IntKind.i64 (a : Int), Value.int IntKind.i64 (b : Int)] 43)) := below_alloc HB.out _
        have b2 := b1.grown q1.2 b1.size (fun k_ e_ => by cases e_; omega)
        have b3 := b2.grown q2.2 b2.size (fun k_ e_ => by cases e_; omega)
        have hpp := Kd.R_grown (Kd.R_grown (Kd.R_alloc HP.out (Obj.cells #[Value.int IntKind.i64 (a : Int), Value.int IntKind.i64 (b : Int)] 43)) q1.2 (fun k_ hk e_ => by cases e_; omega)) q2.2 (fun k_ hk e_ => by cases e_; omega)
        have g1 := q1.2.size
        have g2 := q2.2.size
        have g3 : wr.heap.size ≤ (wr.alloc (Obj.cells #[Value.int IntKind.i64 (a : Int), Value.int IntKind.i64 (b : Int)] 43)).heap.size := by simp
        have g4 := Nat.le_trans hs2 (Nat.le_trans g3 (Nat.le_trans g1 g2))
        exact ⟨Kd.R_drew q2.1, Kd.R_drew hpp, below_drew1 b3, g4⟩)
      go_wp2
      go_region_held3 (fun w' => w'.cell? ⟨wr.heap.size, 0, none⟩ = some (.int .i64 (a : Int)) ∧ w'.cell? ⟨wr.heap.size, 1, none⟩ = some (.int .i64 (b : Int)) ∧ w'.cell? (ad.add a) = some (.int .i64 va) ∧ w'.cell? (ad.add b) = some (.int .i64 vb)) (first | exact sees_drew HSEE.out | exact sees_drew (sees_set hpg hq0 hq1 HSEE.out ⟨go, a, none⟩ rfl _) | exact sees_drew (sees_set hpg hq0 hq1 (sees_set hpg hq0 hq1 HSEE.out ⟨go, a, none⟩ rfl _) ⟨go, b, none⟩ rfl _) | go_keep) (fail)
      all_goals go_wp2
      all_goals
        go_roundg (ps.length - (i + 1))
        case measure => have h1 := HK1.out; have h2 := HLT.out; omega
        case rel =>
          have h4 := H4.out
          have hlt := HLT.out
          have hk := HKEY.out
          clear HKEY
          first
            | (obtain ⟨k1, k2, k3, k4⟩ := hk _ _ rfl rfl _ rfl
               exact ⟨i + 1, by omega, by first | (rw [show wrap64 ((i : Int) + 1) = ((i + 1 : Nat) : Int) by unfold wrap64; omega]; done) | (simp only [show wrap64 ((i : Int) + 1) = ((i + 1 : Nat) : Int) by unfold wrap64; omega]) | rfl, ⟨by omega⟩, ⟨k1⟩, ⟨k2⟩, ⟨k3⟩, ⟨k4⟩⟩)
            | (have e1 : mn va vb = vb := (by unfold mn; split <;> omega)
               have e2 : mx va vb = va := (by unfold mx; split <;> omega)
               obtain ⟨k1, k2, k3, k4⟩ := hk _ _ e1 e2 _ rfl
               exact ⟨i + 1, by omega, by first | (rw [show wrap64 ((i : Int) + 1) = ((i + 1 : Nat) : Int) by unfold wrap64; omega]; done) | (simp only [show wrap64 ((i : Int) + 1) = ((i + 1 : Nat) : Int) by unfold wrap64; omega]) | rfl, ⟨by omega⟩, ⟨k1⟩, ⟨k2⟩, ⟨k3⟩, ⟨k4⟩⟩)
            | (have e1 : mn va vb = va := (by unfold mn; split <;> omega)
               have e2 : mx va vb = vb := (by unfold mx; split <;> omega)
               obtain ⟨k1, k2, k3, k4⟩ := hk _ _ e1 e2 _ rfl
               exact ⟨i + 1, by omega, by first | (rw [show wrap64 ((i : Int) + 1) = ((i + 1 : Nat) : Int) by unfold wrap64; omega]; done) | (simp only [show wrap64 ((i : Int) + 1) = ((i + 1 : Nat) : Int) by unfold wrap64; omega]) | rfl, ⟨by omega⟩, ⟨k1⟩, ⟨k2⟩, ⟨k3⟩, ⟨k4⟩⟩)
            | (have e1 : mn va vb = va := (by unfold mn; split <;> omega)
               have e2 : mx va vb = va := (by unfold mx; split <;> omega)
               obtain ⟨k1, k2, k3, k4⟩ := hk _ _ e1 e2 _ rfl
               exact ⟨i + 1, by omega, by first | (rw [show wrap64 ((i : Int) + 1) = ((i + 1 : Nat) : Int) by unfold wrap64; omega]; done) | (simp only [show wrap64 ((i : Int) + 1) = ((i + 1 : Nat) : Int) by unfold wrap64; omega]) | rfl, ⟨by omega⟩, ⟨k1⟩, ⟨k2⟩, ⟨k3⟩, ⟨k4⟩⟩)
            | (have e1 : mn va vb = vb := (by unfold mn; split <;> omega)
               have e2 : mx va vb = vb := (by unfold mx; split <;> omega)
               obtain ⟨k1, k2, k3, k4⟩ := hk _ _ e1 e2 _ rfl
               exact ⟨i + 1, by omega, by first | (rw [show wrap64 ((i : Int) + 1) = ((i + 1 : Nat) : Int) by unfold wrap64; omega]; done) | (simp only [show wrap64 ((i : Int) + 1) = ((i + 1 : Nat) : Int) by unfold wrap64; omega]) | rfl, ⟨by omega⟩, ⟨k1⟩, ⟨k2⟩, ⟨k3⟩, ⟨k4⟩⟩)
            | fail
    · have hi : i = ps.length := by omega
      subst hi
      have hlti : decide ((ps.length : Int) < (ps.length : Int)) = false := decide_eq_false (by omega)
      have ho := HO.out
      rw [List.take_length] at ho
      have HOF := Aside0.mk ho
      clear hlt hi4 ho HO HP HK1
      go_wp2
      go_ret
      exact ⟨_, rfl, HOF.out, HB.out⟩
def impl_ApplyStage.f (l0 : List Int) (s : Int) : Option (List Int) := (impl_ValuesOk.f l0).bind fun b => if b = true then (if l0.length = 8 then (if stageL s = [] then some [] else some (applyP l0 (stageL s))) else none) else some []
theorem stageL_nil (s : Int) (h : stageL s = []) : ¬ (0 ≤ s ∧ s ≤ 5) := by
  intro hs
  have h1 : s = 0 ∨ s = 1 ∨ s = 2 ∨ s = 3 ∨ s = 4 ∨ s = 5 := by omega
  rcases h1 with e | e | e | e | e | e <;> subst e <;> exact absurd h (by decide)
theorem stageL_four (s : Int) (h : ¬ stageL s = []) : (stageL s).length = 4 := by
  by_cases hs : 0 ≤ s ∧ s ≤ 5
  · have h1 : s = 0 ∨ s = 1 ∨ s = 2 ∨ s = 3 ∨ s = 4 ∨ s = 5 := by omega
    rcases h1 with e | e | e | e | e | e <;> subst e <;> decide
  · exact absurd (by unfold stageL; simp only [show ¬ s = 0 by omega, show ¬ s = 1 by omega, show ¬ s = 2 by omega, show ¬ s = 3 by omega, show ¬ s = 4 by omega, show ¬ s = 5 by omega, if_false]) h
set_option maxHeartbeats 8000000 in
set_option maxRecDepth 100000 in
/-- A stage that is none gives the empty list. -/
theorem as_no (A0 : Option Addr) (c0 : Nat) (l0 : List Int) (s : Int) (w : World) (hr0 : Kd.C (Kd.int .i64) w A0 l0.length l0) (hc0 : l0.length ≤ c0) (hv : impl_ValuesOk.f l0 = some true) (hs : ¬ (0 ≤ s ∧ s ≤ 5)) :
    Calls Try.prog 39 #[.slice A0 l0.length c0, .int .i64 s] w fun e w' => e = .returned (.slice none 0 0) ∧ Below w.heap.size w w' := by
  have qn : ∀ (W : World) (a : Option Addr) (n c : Nat), (binOp .eql 37 (.slice a n c) (.slice none 0 0)).run Try.prog W = .ok (.bool a.isNone) W := fun W a n c => Go.run_eql_slice_nil W _ _ a n c Try.underlying37
  have HR0 := Aside0.mk hr0
  have HC0 := Aside0.mk hc0
  have HV := Aside0.mk hv
  have HSS := Aside0.mk (fun W => ss_no s hs W)
  clear hs hr0 hc0 hv
  go_enter Try.func39, Try.ntmps39
  go_wp2_with (first | (go_at_call 35; refine (HSS.out _).mono ?_; rintro e w1 ⟨rfl, hb⟩; have HB := Aside0.mk hb; clear hb) | (go_at_call 67; refine (impl_ValuesOk.calls A0 c0 l0 true _ (Kd.C_below HR0.out HB.out) HC0.out HV.out).mono ?_; rintro e w' ⟨rfl, ⟨nd, rfl⟩⟩))
  go_ret
  first
    | exact ⟨rfl, HB.out⟩
    | exact ⟨rfl, below_drew1 HB.out⟩
    | exact ⟨rfl, pw_below_drewN HB.out _⟩
    | exact ⟨rfl, below_drew1 (pw_below_drewN HB.out _)⟩
set_option maxHeartbeats 8000000 in
set_option maxRecDepth 100000 in
/-- Values that are no lanes give the empty list. -/
theorem as_bad (A0 : Option Addr) (c0 : Nat) (l0 : List Int) (s : Int) (w : World) (hr0 : Kd.C (Kd.int .i64) w A0 l0.length l0) (hc0 : l0.length ≤ c0) (hv : impl_ValuesOk.f l0 = some false) :
    Calls Try.prog 39 #[.slice A0 l0.length c0, .int .i64 s] w fun e w' => e = .returned (.slice none 0 0) ∧ Below w.heap.size w w' := by
  have qn : ∀ (W : World) (a : Option Addr) (n c : Nat), (binOp .eql 37 (.slice a n c) (.slice none 0 0)).run Try.prog W = .ok (.bool a.isNone) W := fun W a n c => Go.run_eql_slice_nil W _ _ a n c Try.underlying37
  have HR0 := Aside0.mk hr0
  have HC0 := Aside0.mk hc0
  have HV := Aside0.mk hv
  have HSS := Aside0.mk (fun W => impl_SortStage.calls s (stageL s) W rfl)
  generalize stageL s = ps at HSS
  clear hr0 hc0 hv
  go_enter Try.func39, Try.ntmps39
  go_wp2_with (first | (go_at_call 35; refine (HSS.out _).mono ?_; rintro e w1 ⟨v1, rfl, ho, hb⟩; have HB := Aside0.mk hb; clear ho hb) | (go_at_call 67; refine (impl_ValuesOk.calls A0 c0 l0 false _ (Kd.C_below HR0.out HB.out) HC0.out HV.out).mono ?_; rintro e w' ⟨rfl, ⟨nd, rfl⟩⟩))
  go_ret
  first
    | exact ⟨rfl, HB.out⟩
    | exact ⟨rfl, below_drew1 HB.out⟩
    | exact ⟨rfl, pw_below_drewN HB.out _⟩
    | exact ⟨rfl, below_drew1 (pw_below_drewN HB.out _)⟩
theorem impl_ApplyStage.calls (A0 : Option Addr) (c0 : Nat) (l0 : List Int) (s : Int) (r : List Int) (w : World) (hr0 : Kd.C (Kd.int .i64) w A0 l0.length l0) (hc0 : l0.length ≤ c0) (h : impl_ApplyStage.f l0 s = some r) :
    Calls Try.prog 39 #[.slice A0 l0.length c0, .int .i64 s] w fun e w' => ∃ v0_ : Value, e = .returned (v0_) ∧ Kd.R (Kd.int .i64) 3 w' w.heap.size (fun _ => True) v0_ r ∧ Below w.heap.size w w' := by
  have none_ : ∀ w' : World, Kd.R (Kd.int .i64) 3 w' w.heap.size (fun _ => True) (.slice none 0 0) [] := fun w' => Kd.R_nil _ _ _ _ _
  unfold impl_ApplyStage.f at h
  cases hv : impl_ValuesOk.f l0 with
  | none => rw [hv] at h; cases h
  | some b =>
    rw [hv, Option.bind_some] at h
    cases b with
    | false =>
      rw [if_neg (by decide)] at h
      cases h
      refine (as_bad A0 c0 l0 s w hr0 hc0 hv).mono ?_
      rintro e w' ⟨rfl, hb⟩
      exact ⟨_, rfl, none_ w', hb⟩
    | true =>
      rw [if_pos rfl] at h
      by_cases h8 : l0.length = 8
      · rw [if_pos h8] at h
        by_cases hn : stageL s = []
        · rw [if_pos hn] at h
          cases h
          refine (as_no A0 c0 l0 s w hr0 hc0 hv (stageL_nil s hn)).mono ?_
          rintro e w' ⟨rfl, hb⟩
          exact ⟨_, rfl, none_ w', hb⟩
        · rw [if_neg hn] at h
          cases h
          obtain ⟨ad, e0, _⟩ := Kd.at_int hr0 0 (by omega) (by omega)
          subst e0
          exact as_run ad c0 l0 s w hr0 hc0 h8 hv (stageL_four s hn)
      · rw [if_neg h8] at h
        cases h

/-! ### impl_SortValues: function 27 -/
/-- The stages from i on. -/
def restS : Nat → List Int → Nat → Option (List Int)
  | 0, x, _ => some x
  | d + 1, x, i => (impl_ApplyStage.f x (i : Int)).bind fun t => restS d t (i + 1)
def impl_SortValues.f (l0 : List Int) : Option (List Int) := restS 6 l0 0
set_option maxHeartbeats 8000000 in
set_option maxRecDepth 100000 in
theorem impl_SortValues.calls (A0 : Option Addr) (c0 : Nat) (l0 : List Int) (r : List Int) (w : World) (hr0 : Kd.C (Kd.int .i64) w A0 l0.length l0) (hc0 : l0.length ≤ c0) (h : impl_SortValues.f l0 = some r) :
    Calls Try.prog 27 #[.slice A0 l0.length c0] w fun e w' => ∃ v0_ : Value, e = .returned (v0_) ∧ Kd.R (Kd.int .i64) 3 w' w.heap.size (fun _ => True) v0_ r ∧ Below w.heap.size w w' := by
  have HB := Aside0.mk (Below.refl w.heap.size w)
  have HR0 := Aside0.mk hr0
  have HC0 := Aside0.mk hc0
  have H0 := Aside0.mk (show restS 6 l0 0 = some r from h)
  clear hr0 hc0 h
  go_enter Try.func27, Try.ntmps27
  go_wp2
  go_loopg [3, 6] 6 (fun kq v3 v6 w' => ∃ (d i : Nat) (A : Option Addr) (c : Nat) (x : List Int), v3 = .slice A x.length c ∧ v6 = .int .i64 (i : Int) ∧ i + d = 6 ∧ Aside0 (d ≤ kq) ∧ Aside0 (restS d x i = some r) ∧ Aside0 (Kd.C (Kd.int .i64) w' A x.length x) ∧ Aside0 (x.length ≤ c) ∧ Aside0 (0 < i → Kd.R (Kd.int .i64) 3 w' w.heap.size (fun _ => True) (.slice A x.length c) x) ∧ Aside0 (Below w.heap.size w w'))
  case atStart => exact ⟨6, 0, A0, c0, l0, rfl, (by first | rfl | (simp; done)), rfl, ⟨Nat.le_refl _⟩, H0, HR0, HC0, ⟨fun h => absurd h (by decide)⟩, HB⟩
  case round =>
    clear H0 HR0 HC0 HB
    obtain ⟨d, i, A, c, x, rfl, rfl, hid, HK1, HR, HC, HL, HO, HB⟩ := hrel
    cases d with
    | zero =>
      have hi : i = 6 := by omega
      subst hi
      have hlti : decide (((6 : Nat) : Int) < 6) = false := by decide
      have e := Option.some.inj HR.out
      subst e
      have HOF := Aside0.mk (HO.out (by decide))
      clear HK1 HR HC HL HO
      go_wp2
      go_ret
      exact ⟨_, rfl, HOF.out, HB.out⟩
    | succ d =>
      have hlti : decide ((i : Int) < 6) = true := decide_eq_true (by omega)
      have hr := HR.out
      unfold restS at hr
      obtain ⟨t, ht, hr⟩ := Option.bind_eq_some_iff.mp hr
      have HT := Aside0.mk ht
      have HR' := Aside0.mk hr
      have HI := Aside0.mk hid
      clear HR hr ht hid HO
      go_wp2_with (go_at_call 39; refine (impl_ApplyStage.calls A c x (i : Int) t _ HC.out HL.out HT.out).mono ?_; rintro e w2 ⟨v2, rfl, ho, hb⟩; have HO := Aside0.mk ho; have HB2 := Aside0.mk hb; clear ho hb)
      obtain ⟨A2, c2, e2⟩ := Kd.V_slice (Kd.R_V (base' := 0) HO.out)
      subst e2
      go_roundg d
      case measure => have h1 := HK1.out; omega
      case rel =>
        have hi := HI.out
        have hs := HB.out.size
        have b2 := below_step HB.out HB2.out
        have ho := Kd.R_lower HO.out hs
        exact ⟨d, i + 1, A2, c2, t, rfl, by first | (rw [show wrap64 ((i : Int) + 1) = ((i + 1 : Nat) : Int) by unfold wrap64; omega]; done) | (simp only [show wrap64 ((i : Int) + 1) = ((i + 1 : Nat) : Int) by unfold wrap64; omega]) | rfl, by omega, ⟨Nat.le_refl _⟩, HR', ⟨(Kd.R_reads' ho).2.2⟩, ⟨(Kd.R_reads' ho).2.1⟩, ⟨fun _ => ho⟩, ⟨b2⟩⟩

/-! ### impl_CountValue: function 28 -/
def impl_CountValue.l0 : Nat → Int → Int → List Int → Int → Int → Option (Int)
  | 0, _, _, _, _, _ => none
  | k + 1, x1, x5, x8, x9, x10 => if x10 < x9 then (if 0 ≤ x10 then (if x10 < (x8.length : Int) then (if (rd x8 x10) = x1 then (impl_CountValue.l0 k x1 (wrap64 (x5 + 1)) x8 x9 (wrap64 (x10 + 1))) else (impl_CountValue.l0 k x1 x5 x8 x9 (wrap64 (x10 + 1)))) else (none)) else (none)) else (some x5)
def impl_CountValue.f (k : Nat) (l0 : List Int) (a1 : Int) : Option (Int) := impl_CountValue.l0 k a1 0 l0 (l0.length : Int) 0
theorem impl_CountValue.mono_l : ∀ k, (∀ y0 y1 y2 y3 y4, LeO (impl_CountValue.l0 k y0 y1 y2 y3 y4) (impl_CountValue.l0 (k + 1) y0 y1 y2 y3 y4))
  | 0 => fun _ _ _ _ _ r h => by simp [impl_CountValue.l0] at h
  | k + 1 => by
    have ih0 := impl_CountValue.mono_l k
    · intro y0 y1 y2 y3 y4
      unfold impl_CountValue.l0
      repeat' first
      | (with_reducible exact ih0 _ _ _ _ _)
      | (with_reducible exact LeO.refl _)
      | (with_reducible exact LeO.none _)
      | (with_reducible refine LeO.ite ?_ ?_)
      | (with_reducible refine LeO.bind ?_ (fun _ => ?_))
      | exact ih0 _ _ _ _ _
      | exact LeO.none _
      | refine LeO.ite ?_ ?_
      | refine LeO.bind ?_ (fun _ => ?_)
theorem impl_CountValue.mono : ∀ a0 a1 k, LeO (impl_CountValue.f k a0 a1) (impl_CountValue.f (k + 1) a0 a1) := by
  intro a0 a1 k
  have ih0 := impl_CountValue.mono_l k
  unfold impl_CountValue.f
  repeat' first
      | (with_reducible exact ih0 _ _ _ _ _)
      | (with_reducible exact LeO.refl _)
      | (with_reducible exact LeO.none _)
      | (with_reducible refine LeO.ite ?_ ?_)
      | (with_reducible refine LeO.bind ?_ (fun _ => ?_))
      | exact ih0 _ _ _ _ _
      | exact LeO.none _
      | refine LeO.ite ?_ ?_
      | refine LeO.bind ?_ (fun _ => ?_)
set_option maxHeartbeats 8000000 in
set_option maxRecDepth 100000 in
theorem impl_CountValue.calls (k : Nat) (A0 : Option Addr) (c0 : Nat) (l0 : List Int) (a1 : Int) (r : Int) (w : World) (hr0 : Kd.C (Kd.int .i64) w A0 l0.length l0) (hc0 : l0.length ≤ c0) (h : impl_CountValue.f k l0 a1 = some r) :
    Calls Try.prog 28 #[.slice A0 l0.length c0, .int .i64 a1] w fun e w' => e = .returned (.int .i64 r) ∧ Drawn0 w w' := by
  have HR0 := Aside0.mk hr0
  have HC0 := Aside0.mk hc0
  clear hr0 hc0
  have H : (impl_CountValue.l0 k a1 0 l0 (l0.length : Int) 0) = some r := h
  clear h
  have H' := Aside0.mk H
  clear H
  go_enter Try.func28, Try.ntmps28
  go_wp2
  go_loopg [5, 10] k (fun kq v5 v10 w' => ∃ (x5_1 : Int) (x10_1 : Int), v5 = .int .i64 x5_1 ∧ v10 = .int .i64 x10_1 ∧ Aside0 (impl_CountValue.l0 kq a1 x5_1 l0 (l0.length : Int) x10_1 = some r) ∧ Aside0 (kq ≤ k) ∧ Drawn0 w w')
  case atStart => exact ⟨(0), (0), (by first | rfl | (simp; done) | (simp [*]; done)), (by first | rfl | (simp; done) | (simp [*]; done)), H', ⟨Nat.le_refl _⟩, by repeat (first | exact Drawn0.refl _ | apply Drawn0.step)⟩
  case round =>
    clear H'
    try clear c2
    try clear p2
    obtain ⟨x5_1, x10_1, rfl, rfl, HA, HK1, ⟨m1, rfl⟩⟩ := hrel
    cases gk with
    | zero => exact absurd HA.out (by simp [impl_CountValue.l0])
    | succ k1 =>
      have H := HA.out
      clear HA
      simp only [impl_CountValue.l0] at H
      by_cases c3 : x10_1 < (l0.length : Int)
      · rw [if_pos c3] at H
        have c3b0 : decide (x10_1 < (l0.length : Int)) = true := decide_eq_true c3
        clear c3
        by_cases c4 : 0 ≤ x10_1
        · rw [if_pos c4] at H
          have c4b0 : decide (0 ≤ x10_1) = true := decide_eq_true c4
          clear c4
          by_cases c5 : x10_1 < (l0.length : Int)
          · rw [if_pos c5] at H
            have c5b0 : decide (x10_1 < (l0.length : Int)) = true := decide_eq_true c5
            clear c5
            by_cases c6 : (rd l0 x10_1) = a1
            · rw [if_pos c6] at H
              have c6b0 : ((rd l0 x10_1) == a1) = true := beq_iff_eq.mpr c6
              have c6b1 : ((rd l0 x10_1) != a1) = false := bne_eq_false_iff_eq.mpr c6
              clear c6
              have H' := Aside0.mk H
              clear H
              have p380 : 0 ≤ (x10_1 : Int) := of_decide_eq_true (by first | (with_reducible assumption) | assumption)
              have q380 : x10_1 < (l0.length : Int) := of_decide_eq_true (by first | (with_reducible assumption) | assumption)
              obtain ⟨ad380, e380, hx380_0⟩ := Kd.at_int HR0.out x10_1 p380 q380
              cases e380
              replace p380 := eq_true p380
              replace q380 := eq_true q380
              go_wp2
              go_roundg k1
              case measure => have := HK1.out; omega
              case rel => exact ⟨(wrap64 (x5_1 + 1)), (wrap64 (x10_1 + 1)), (by first | rfl | (simp; done) | (simp [*]; done)), (by first | rfl | (simp; done) | (simp [*]; done)), H', ⟨by have := HK1.out; omega⟩, by repeat (first | exact Drawn0.refl _ | apply Drawn0.step)⟩
            · rw [if_neg c6] at H
              have c6b0 : ((rd l0 x10_1) == a1) = false := beq_eq_false_iff_ne.mpr c6
              have c6b1 : ((rd l0 x10_1) != a1) = true := bne_iff_ne.mpr c6
              have H' := Aside0.mk H
              clear H
              have p380 : 0 ≤ (x10_1 : Int) := of_decide_eq_true (by first | (with_reducible assumption) | assumption)
              have q380 : x10_1 < (l0.length : Int) := of_decide_eq_true (by first | (with_reducible assumption) | assumption)
              obtain ⟨ad380, e380, hx380_0⟩ := Kd.at_int HR0.out x10_1 p380 q380
              cases e380
              replace p380 := eq_true p380
              replace q380 := eq_true q380
              go_wp2
              go_roundg k1
              case measure => have := HK1.out; omega
              case rel => exact ⟨(x5_1), (wrap64 (x10_1 + 1)), (by first | rfl | (simp; done) | (simp [*]; done)), (by first | rfl | (simp; done) | (simp [*]; done)), H', ⟨by have := HK1.out; omega⟩, by repeat (first | exact Drawn0.refl _ | apply Drawn0.step)⟩
          · rw [if_neg c5] at H
            exact absurd H (by simp)
        · rw [if_neg c4] at H
          exact absurd H (by simp)
      · rw [if_neg c3] at H
        have c3b0 : decide (x10_1 < (l0.length : Int)) = false := decide_eq_false c3
        clear c3
        obtain rfl := Option.some.inj H
        go_wp2
        go_ret
        exact ⟨by first | rfl | (simp; done) | (simp [*]; done), by repeat (first | exact Drawn0.refl _ | apply Drawn0.step)⟩

end Go.Proofs.Ytfeadincafegcaa.P
