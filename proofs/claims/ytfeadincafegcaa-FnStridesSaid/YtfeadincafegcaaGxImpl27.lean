-- Laid by this session's own program (wip/pp.py) over the seat's translation; Lean checks it.
import Derived.Test.YtfeadincafegcaaGx0
import Derived.Test.YtfeadincafegcaaGxImpl01
import Derived.Test.YtfeadincafegcaaGxImpl03
import Derived.Test.YtfeadincafegcaaGxImpl25
import Derived.Test.YtfeadincafegcaaGxImpl26
import Derived.Lib.LazyBuf
import Derived.Shelf.Abstract
import Derived.Sort.OwnSortedInts
import Derived.Test.YtfeadincafegcaaShelf
namespace Go.Proofs.Ytfeadincafegcaa.P
open Go.RowKit Go.Proofs.YtfeadincafegcaaW.PrintWords Go.Proofs.YtfeadincafegcaaW.PrintLast Go.Proofs.YtfeadincafegcaaW.PrintMore
attribute [local go_sem] max2_int min2_int max_two min_two max_three min_three max_four min_four   -- for this text's walks alone
set_option linter.unusedVariables false
set_option linter.unusedSimpArgs false

/-! ### impl_differing: function 45 -/
theorem dif_rd (l : List Int) (i : Nat) (h : i < l.length) : l[i]? = some (rd l (i : Int)) := by
  unfold rd
  rw [show ((i : Int)).toNat = i from by omega, List.getD_eq_getElem?_getD, List.getElem?_eq_getElem h]
  rfl
/-- What a function tells for the first j numbers of a list. -/
def dif (fv : Int → Int) (t : List Int) (j : Nat) : List Int := (t.take j).map fv
theorem dif_snoc (fv : Int → Int) (t : List Int) (j : Nat) (h : j < t.length) : dif fv t j ++ [fv (rd t (j : Int))] = dif fv t (j + 1) := by
  unfold dif
  rw [List.take_add_one, dif_rd t j h]
  simp
theorem dif_len (fv : Int → Int) (t : List Int) (j : Nat) : (dif fv t j).length ≤ t.length := by
  unfold dif
  rw [List.length_map, List.length_take]
  exact Nat.min_le_right _ _
theorem dif_all (fv : Int → Int) (t : List Int) : dif fv t t.length = t.map fv := by
  unfold dif
  rw [List.take_length]
def difL (zs : List Int) : List Int := Go.Lib.compact (zs.mergeSort fun x y => decide (x ≤ y))
theorem difL_nil : difL [] = [] := by
  unfold difL
  rw [List.mergeSort_nil]
  rfl
theorem compact_le (zs : List Int) : (Go.Lib.compact zs).length ≤ zs.length := by
  unfold Go.Lib.compact Go.Lib.compactUpTo
  rw [List.length_map]
  exact Nat.le_trans (List.length_filter_le _ _) (by simp)
theorem dif_own {w : World} {base g cap q : Nat} {cur : Array Value} {ts : List Int} (hbase : base ≤ g) (hb : w.heap[g]? = some (.cells cur 3 (0, 0))) (h1 : ts.length ≤ cap) (h2 : cap ≤ maxLen) (h3 : cur.size = cap * 1) :
    Kd.R (Kd.int .i64) 3 (Go.Sort.putRow (Value.int .i64) (Go.Sort.ahead w q) g 0 (Go.Lib.compact ts ++ List.replicate (ts.length - (Go.Lib.compact ts).length) 0).toArray) base (fun _ => True) (.slice (some ⟨g, 0, none⟩) (Go.Lib.compact ts).length cap) (Go.Lib.compact ts) := by
  have hc := compact_le ts
  have hf : (Go.Lib.compact ts ++ List.replicate (ts.length - (Go.Lib.compact ts).length) (0 : Int)).length = ts.length := by simp; omega
  have ho := ownsRow_sortedI (n := q) (os := #[]) (ss := ts) (ts := Go.Lib.compact ts ++ List.replicate (ts.length - (Go.Lib.compact ts).length) 0) hf hbase hb h1 h2 h3
  rw [Go.Sort.grow_empty] at ho
  have ht := own_take ho hc
  refine Kd.R_of_own ?_ (fun _ _ => trivial)
  have e : ((Go.Lib.compact ts ++ List.replicate (ts.length - (Go.Lib.compact ts).length) (0 : Int)).map (Value.int .i64)).take ((Go.Lib.compact ts).length * 1) = encs (Value.int .i64) (Go.Lib.compact ts) := by
    rw [Nat.mul_one, List.map_append, List.take_left' (by simp)]
    rfl
  rw [e] at ht
  exact ht
set_option maxHeartbeats 8000000 in
set_option maxRecDepth 100000 in
/-- The numbers of the lanes of a mask, each once, ascending. -/
theorem impl_differing.calls (k : Nat) (a0 : Int) (g : Nat) (lb : Array Value) (fv : Int → Int) (t : List Int) (w : World) (eg : ∀ args w, (callFunc g args).run Try.prog w = .ok (.enter g args) w) (hp : NumAt g lb fv w) (ht : impl_LanesOf.f k a0 = some t) (ht8 : ∀ j : Nat, j < t.length → 0 ≤ rd t (j : Int) ∧ rd t (j : Int) < 8) (hlen : t.length ≤ 8) :
    Calls Try.prog 45 #[.int .i64 a0, .func (.func g) #[] lb] w fun e w' => ∃ v0_ : Value, e = .returned (v0_) ∧ Kd.R (Kd.int .i64) 3 w' w.heap.size (fun _ => True) v0_ (difL (t.map fv)) ∧ Below w.heap.size w w' := by
  have HP := Aside0.mk hp
  have HT8 := Aside0.mk ht8
  have HLN := Aside0.mk hlen
  have A5 := Aside0.mk ht
  clear hp ht8 hlen ht
  have HB := Aside0.mk (Below.refl w.heap.size w)
  go_enter Try.func45, Try.ntmps45
  go_wp2_with (first | ((with_reducible refine gate_dst (N := 8) rfl ?_); refine Kd.R_lit (Kd.int .i64) _ 3 ?hg (N := 8) ?hd (xs := ([] : List Int)) (inner := []) (ok := fun _ => True) (okp := fun _ => True) ?hr ?hp (fun _ hk => hk) trivial (Below.refl _ _) (Nat.le_refl _) (by simp) ?_; (case hd => rfl); (case hg => rfl); (case hr => first | (go_simp; done) | (go_simp; rfl)); (case hp => exact (Reps.none _ _)); intro v157 w6 ho7 hb hg_ hnew_; clear hg_ hnew_; have n0_ := Aside0.mk (Kd.R_lower ho7 (below_size (by repeat (first | (with_reducible first | exact HB.out | apply below_alloc | apply pw_below_drewN | apply below_drew1) | exact HB.out)))); have n1_ := Aside0.mk (below_step (by repeat (first | (with_reducible first | exact HB.out | apply below_alloc | apply pw_below_drewN | apply below_drew1) | exact HB.out)) hb); clear HB; have HO158 := n0_; have HB := n1_; clear n0_ n1_; clear hb ho7) | (go_at_call 72; (with_reducible refine (impl_LanesOf.calls k a0 t _ A5.out).mono ?_); rintro e w8 ⟨v160, rfl, ho0, hb⟩; have n0_ := Aside0.mk (Kd.R_elder' (by (with_reducible repeat (first | apply Kd.R_alloc | apply Kd.R_drewN | apply Kd.R_drew)); exact HO158.out) (Kd.R_base ho0) hb); have n1_ := Aside0.mk (Kd.R_lower (Kd.R_new' ho0 (Kd.R_lt (by (with_reducible repeat (first | apply Kd.R_alloc | apply Kd.R_drewN | apply Kd.R_drew)); exact HO158.out))) (below_size (by repeat (first | (with_reducible first | exact HB.out | apply below_alloc | apply pw_below_drewN | apply below_drew1) | exact HB.out)))); have n2_ := Aside0.mk (below_step (by repeat (first | (with_reducible first | exact HB.out | apply below_alloc | apply pw_below_drewN | apply below_drew1) | exact HB.out)) hb); clear HO158; clear HB; have HO158 := n0_; have HO161 := n1_; have HB := n2_; clear n0_ n1_ n2_; (try clear hb); (try clear ho0); obtain ⟨Ao9, co9, eo9⟩ := Kd.R_slice HO161.out; subst eo9))
  go_loopg [5, 12] t.length (fun kq v5 v12 w' => ∃ j : Nat, j ≤ t.length ∧ v12 = .int .i64 (j : Int) ∧ Aside0 (t.length - j ≤ kq) ∧ Aside0 (Kd.R (Kd.int .i64) 3 w' w.heap.size (fun k_ => some k_ ≠ ((.slice Ao9 t.length co9) : Value).ownBlock) v5 (dif fv t j)) ∧ Aside0 (Kd.R (Kd.int .i64) 3 w' w.heap.size (fun k_ => some k_ ≠ (v5 : Value).ownBlock) (.slice Ao9 t.length co9) t) ∧ Aside0 (Below w.heap.size w w'))
  case atStart => exact ⟨0, Nat.zero_le _, (by first | rfl | (simp; done)), ⟨by omega⟩, ⟨by (with_reducible repeat (first | apply Kd.R_alloc | apply Kd.R_drewN | apply Kd.R_drew)); exact Kd.R_mono HO158.out (fun _ hk => hk.2)⟩, ⟨by (with_reducible repeat (first | apply Kd.R_alloc | apply Kd.R_drewN | apply Kd.R_drew)); exact Kd.R_mono HO161.out (fun _ hk => hk.2)⟩, ⟨by repeat (first | (with_reducible first | exact HB.out | apply below_alloc | apply pw_below_drewN | apply below_drew1) | exact HB.out)⟩⟩
  case round =>
    obtain ⟨j, hj, rfl, HK1, HO_5, HO_14, HB⟩ := hrel
    by_cases hlt : j < t.length
    · have c10b0 : decide ((j : Int) < (t.length : Int)) = true := decide_eq_true (by omega)
      have p162 : 0 ≤ (j : Int) := by omega
      have q162 : (j : Int) < (t.length : Int) := by omega
      have h8 := HT8.out j hlt
      have hlm : ((dif fv t j).length + 1) * 8 ≤ 140737488355328 := by have h1 := dif_len fv t j; have h2 := HLN.out; omega
      have LM := Aside0.mk hlm
      have HLT := Aside0.mk hlt
      obtain ⟨hl0, hl1⟩ := h8
      obtain ⟨ad162, e162, hx162_0⟩ := Kd.at_int (Kd.R_reads' HO_14.out).2.2 (j : Int) p162 q162
      cases e162
      rw [Int.toNat_natCast] at hx162_0
      replace p162 := eq_true p162
      replace q162 := eq_true q162
      clear hlm hlt
      go_wp2_with (first | (go_at_fn g; refine (HP.out _ (rd t (j : Int)) (by repeat (first | (with_reducible first | exact HB.out | apply below_alloc | apply pw_below_drewN | apply below_drew1) | exact HB.out)) hl0 hl1).mono ?_; rintro e w' ⟨rfl, ⟨nd, rfl⟩⟩) | ((with_reducible refine gate_builtin (b := .append) (xs := #[.tmp 16, .tmp 20]) rfl ?_); at_builtin; refine Kd.R_append (Kd.int .i64) (w0 := w) w.heap.size rfl (.tmp 16) (.tmp 20) 24 3 (.int .i64 0) 8 rfl Try.underlying24 info3 rfl (by decide) (by omega) u5 (dif fv t j) (fv (rd t (j : Int))) [.int .i64 (fv (rd t (j : Int)))] (fun k_ => some k_ ≠ (.slice (some ad162) t.length co9 : Value).ownBlock) (fun _ => False) rfl rfl ?aP (fun _ hk => hk.elim) ?aF ?aO ?aB ?aS ?aL ?_; (case aP => exact rfl); (case aB => exact (by repeat (first | (with_reducible first | exact HB.out | apply below_alloc | apply pw_below_drewN | apply below_drew1) | exact HB.out))); (case aF => exact (fun k_ hk => Kd.fresh' (Kd.R_lt (by (with_reducible repeat (first | apply Kd.R_alloc | apply Kd.R_drewN | apply Kd.R_drew)); exact HO_14.out)) k_ hk)); (case aO => exact (by (with_reducible repeat (first | apply Kd.R_alloc | apply Kd.R_drewN | apply Kd.R_drew)); exact HO_5.out)); (case aS => exact (below_size (by repeat (first | (with_reducible first | exact HB.out | apply below_alloc | apply pw_below_drewN | apply below_drew1) | exact HB.out)))); (case aL => exact LM.out); intro v165 w16 ho hb hg hat; rw [dif_snoc fv t j HLT.out] at ho; have n0_ := Aside0.mk (Kd.R_after (ok := (fun _ => True)) (by (with_reducible repeat (first | apply Kd.R_alloc | apply Kd.R_drewN | apply Kd.R_drew)); exact Kd.R_mono HO_14.out (fun _ hk => ⟨trivial, hk⟩)) hg hat); have n1_ := Aside0.mk (hb); have n2_ := Aside0.mk (ho); clear HO_14; clear HB; clear HO_5; have HO_14 := n0_; have HB := n1_; have HO166 := n2_; clear n0_ n1_ n2_; clear ho hb hg hat))
      go_roundg (t.length - (j + 1))
      case measure => have h1 := HK1.out; have h2 := HLT.out; omega
      case rel =>
        have hq := HLN.out
        have hq2 := HLT.out
        exact ⟨j + 1, HLT.out, by first | (rw [show wrap64 ((j : Int) + 1) = ((j + 1 : Nat) : Int) by unfold wrap64; omega]; done) | (simp only [show wrap64 ((j : Int) + 1) = ((j + 1 : Nat) : Int) by unfold wrap64; omega]) | rfl, ⟨by omega⟩, ⟨by (with_reducible repeat (first | apply Kd.R_alloc | apply Kd.R_drewN | apply Kd.R_drew)); exact HO166.out⟩, ⟨by (with_reducible repeat (first | apply Kd.R_alloc | apply Kd.R_drewN | apply Kd.R_drew)); exact Kd.R_mono HO_14.out (fun _ hk => hk.2)⟩, ⟨by repeat (first | (with_reducible first | exact HB.out | apply below_alloc | apply pw_below_drewN | apply below_drew1) | exact HB.out)⟩⟩
    · have hjt : j = t.length := by omega
      subst hjt
      have c10b0 : decide ((t.length : Int) < (t.length : Int)) = false := decide_eq_false (by omega)
      clear hlt hj
      rw [dif_all] at HO_5
      have own := Kd.own_of_R HO_5.out
      have hzl : (t.map fv).length ≤ 8 := by rw [List.length_map]; exact HLN.out
      clear HO_14 HO_5 HP HT8 A5 HK1
      obtain ⟨zs, hzs⟩ : ∃ zs, zs = t.map fv := ⟨_, rfl⟩
      rw [← hzs] at own hzl
      have HZS := Aside0.mk hzs
      clear hzs
      have HB3 := Aside0.mk HB.out
      rcases own.2 with ⟨hv, hn⟩ | ⟨g2, cap, cur, hv, hbase, hb, h1, h2, h3, h4⟩
      · have hz : zs = [] := by
          cases zs with
          | nil => rfl
          | cons a l => simp at hn
        subst hz
        subst hv
        go_wp2_with (first | (go_at_call 73; refine (Try.slices_Sort_int_none none 0 _).mono ?_; rintro e w' ⟨rfl, rfl⟩) | (go_at_call 74; refine (Try.slices_Compact_int_empty none 0 _).mono ?_; rintro e w' ⟨rfl, rfl⟩))
        go_ret
        refine ⟨_, rfl, ?_, HB3.out⟩
        rw [← HZS.out, difL_nil]
        exact Kd.R_nil _ _ _ _ _
      · subst hv
        have hgl : g2 < wr.heap.size := (Array.getElem?_eq_some_iff.1 hb).1
        have htk : cur.toList.take zs.length = zs.map (Value.int .i64) := by simpa [encs] using h4
        have hH : Go.Sort.Holds (Value.int .i64) wr g2 0 zs.toArray := holds_of_blockI hb htk
        have hsort := Try.slices_Sort_int g2 0 cap zs wr hH hgl (by omega)
        have hl2 : (zs.mergeSort fun x y => decide (x ≤ y)).length = zs.length := List.length_mergeSort zs
        obtain ⟨ts, hts⟩ : ∃ ts, ts = zs.mergeSort fun x y => decide (x ≤ y) := ⟨_, rfl⟩
        rw [← hts] at hsort hl2
        have hg1 := fun n os => grownBy_sortedI (w := wr) (g := g2) (n := n) (os := os) ts.toArray
        have hb1 := fun n os => heap_sortedI (n := n) (os := os) ts.toArray hb
        have ht1 := take_putCellsI cur ts (by omega)
        have h31 : (Go.Sort.putCells (Value.int .i64) 0 ts.toArray cur).size = cap * 1 := by simp [Go.Sort.putCells, h3]
        have hcomp : ∀ n os, Calls Try.prog 74 #[.slice (some ⟨g2, 0, none⟩) zs.length cap] (Go.Sort.grow (Go.Sort.putRow (Value.int .i64) (Go.Sort.ahead wr n) g2 0 ts.toArray) os) fun e w' => e = .returned (.slice (some ⟨g2, 0, none⟩) (Go.Lib.compact ts).length cap) ∧ Kd.R (Kd.int .i64) 3 w' w.heap.size (fun _ => True) (.slice (some ⟨g2, 0, none⟩) (Go.Lib.compact ts).length cap) (Go.Lib.compact ts) ∧ Below w.heap.size w w' := by
          intro n os
          rw [← hl2]
          refine (Try.slices_Compact_int g2 0 cap ts _ (holds_of_blockI (hb1 n os) ht1) (by omega) (by omega)).mono ?_
          rintro e w' ⟨rfl, q, rfl⟩
          refine ⟨rfl, dif_own hbase (hb1 n os) (by omega) h2 h31, ?_⟩
          have b1 := HB3.out.grown (hg1 n os) (below_size HB3.out) (fun k hk => by cases hk; exact hbase)
          have hg2 := grownBy_sortedI (w := Go.Sort.grow (Go.Sort.putRow (Value.int .i64) (Go.Sort.ahead wr n) g2 0 ts.toArray) os) (g := g2) (n := q) (os := #[]) (Go.Lib.compact ts ++ List.replicate (ts.length - (Go.Lib.compact ts).length) 0).toArray
          rw [Go.Sort.grow_empty] at hg2
          exact b1.grown hg2 (below_size b1) (fun k hk => by cases hk; exact hbase)
        have HS := Aside0.mk hsort
        have HCM := Aside0.mk hcomp
        have HTS := Aside0.mk hts
        clear hsort hcomp hts hg1 hb1 ht1 h31 hH htk h4 h3 h2 h1 hb hgl hl2 own
        go_wp2_with (first | (go_at_call 73; refine HS.out.mono ?_; rintro e w' ⟨rfl, nn, os, rfl⟩) | (go_at_call 74; refine (HCM.out _ _).mono ?_; rintro e w' ⟨rfl, hR, hB⟩; have HR := Aside0.mk hR; have HBF := Aside0.mk hB; clear hR hB))
        go_ret
        refine ⟨_, rfl, ?_, HBF.out⟩
        rw [← HZS.out]
        unfold difL
        rw [← HTS.out]
        exact HR.out

/-! ### impl_LinesOf: function 14 -/
theorem impl_LinesOf.num (A0 : Option Addr) (c0 : Nat) (l0 : List Int) (B0 : Nat) (w : World) (h8 : 8 ≤ l0.length) (hr0 : Kd.C (Kd.int .i64) w A0 l0.length l0) (hB0 : B0 < w.heap.size) (hc0 : w.cell? ⟨B0, 0, none⟩ = some (.slice A0 l0.length c0)) :
    NumAt 46 #[.pointer (some ⟨B0, 0, none⟩)] (fun i => wrap64 (Int.tdiv (rd l0 i) 8)) w := fun W i hb hi0 hi8 => by
  have k0 : W.cell? ⟨B0, 0, none⟩ = some (.slice A0 l0.length c0) := (hb.cell (p := ⟨B0, 0, none⟩) hB0).trans hc0
  have hr := Kd.C_below hr0 hb
  have q1 : i < (l0.length : Int) := by omega
  obtain ⟨ad, e1, hx⟩ := Kd.at_int hr i hi0 q1
  cases e1
  clear hc0 hB0 hb hr hr0 h8
  show Calls Try.prog 46 #[.int .i64 i, .pointer (some ⟨B0, 0, none⟩)] W fun e w' => e = .returned (.int .i64 (wrap64 (Int.tdiv (rd l0 i) 8))) ∧ Drawn0 W w'
  generalize rd l0 i = x at hx ⊢
  go_enter Try.func46, Try.ntmps46
  go_wp2
  go_ret
  exact ⟨rfl, by repeat (first | exact Drawn0.refl _ | apply Drawn0.step)⟩
/-- What the code asks before it asks for lines. -/
def impl_LinesOf.f (k : Nat) (l0 : List Int) (a1 : Int) : Option (List Int) := (impl_areAsked.f l0 a1).bind fun b => if b = true then (impl_LanesOf.f k a1).bind fun t => if 8 ≤ l0.length ∧ t.length ≤ 8 ∧ (∀ j : Nat, j < t.length → 0 ≤ rd t (j : Int) ∧ rd t (j : Int) < 8) then some (difL (t.map fun i => wrap64 (Int.tdiv (rd l0 i) 8))) else none else some []
theorem impl_LinesOf.mono : ∀ a0 a1 k, LeO (impl_LinesOf.f k a0 a1) (impl_LinesOf.f (k + 1) a0 a1) := by
  intro a0 a1 k
  unfold impl_LinesOf.f
  exact LeO.bind (LeO.refl _) fun b => LeO.ite (LeO.bind (impl_LanesOf.mono _ k) fun t => LeO.refl _) (LeO.refl _)
set_option maxHeartbeats 8000000 in
set_option maxRecDepth 100000 in
theorem impl_LinesOf.calls (k : Nat) (A0 : Option Addr) (c0 : Nat) (l0 : List Int) (a1 : Int) (r : List Int) (w : World) (hr0 : Kd.C (Kd.int .i64) w A0 l0.length l0) (hc0 : l0.length ≤ c0) (h : impl_LinesOf.f k l0 a1 = some r) :
    Calls Try.prog 14 #[.slice A0 l0.length c0, .int .i64 a1] w fun e w' => ∃ v0_ : Value, e = .returned (v0_) ∧ Kd.R (Kd.int .i64) 3 w' w.heap.size (fun _ => True) v0_ r ∧ Below w.heap.size w w' := by
  have eg : ∀ args w, (callFunc 46 args).run Try.prog w = .ok (.enter 46 args) w := enters_of Try.func46 (by kernel_rfl) rfl
  have HR0 := Aside0.mk hr0
  have HC0 := Aside0.mk hc0
  clear hr0 hc0
  unfold impl_LinesOf.f at h
  obtain ⟨b, h1, h⟩ := Option.bind_eq_some_iff.mp h
  have H1 := Aside0.mk h1
  clear h1
  cases b with
  | false =>
    simp only [Bool.false_eq_true, if_false] at h
    obtain rfl := Option.some.inj h
    clear h
    go_enter Try.func14, Try.ntmps14
    go_wp2_with (go_at_call 44; refine (impl_areAsked.calls A0 c0 l0 a1 false _ (Kd.C_below HR0.out (by repeat (first | exact Below.refl _ _ | apply below_alloc | apply pw_below_drewN | apply below_drew1))) HC0.out H1.out).mono ?_; rintro e w' ⟨rfl, ⟨nd, rfl⟩⟩)
    go_ret
    exact ⟨_, rfl, Kd.R_nil _ _ _ _ _, by repeat (first | exact Below.refl _ _ | apply below_alloc | apply pw_below_drewN | apply below_drew1)⟩
  | true =>
    simp only [if_true] at h
    obtain ⟨t, h3, h⟩ := Option.bind_eq_some_iff.mp h
    by_cases hm : 8 ≤ l0.length ∧ t.length ≤ 8 ∧ (∀ j : Nat, j < t.length → 0 ≤ rd t (j : Int) ∧ rd t (j : Int) < 8)
    · rw [if_pos hm] at h
      have HR := Aside0.mk (Option.some.inj h)
      have H3 := Aside0.mk h3
      have HM := Aside0.mk hm
      clear h h3 hm
      go_enter Try.func14, Try.ntmps14
      go_wp2_with (first | (go_at_call 44; refine (impl_areAsked.calls A0 c0 l0 a1 true _ (Kd.C_below HR0.out (by repeat (first | exact Below.refl _ _ | apply below_alloc | apply pw_below_drewN | apply below_drew1))) HC0.out H1.out).mono ?_; rintro e w' ⟨rfl, ⟨nd, rfl⟩⟩) | (go_at_call 45; refine (impl_differing.calls k a1 46 _ _ t _ eg (impl_LinesOf.num A0 c0 l0 w.heap.size _ HM.out.1 (Kd.C_below HR0.out (by repeat (first | exact Below.refl _ _ | apply below_alloc | apply pw_below_drewN | apply below_drew1))) ?k0 ?k1) H3.out HM.out.2.2 HM.out.2.1).mono ?_; (case k0 => first | (simp; done) | (simp; omega)); (case k1 => first | (simp; done) | (simp; omega)); rintro e w' ⟨v0_, rfl, ho, hb⟩; have HO := Aside0.mk ho; have HB := Aside0.mk hb; clear ho hb))
      go_ret
      have hw : Below w.heap.size w ((w.alloc (.cells #[.slice A0 l0.length c0] 24)).drewN nd) := by repeat (first | exact Below.refl _ _ | apply below_alloc | apply pw_below_drewN | apply below_drew1)
      refine ⟨_, rfl, ?_, below_step hw HB.out⟩
      rw [← HR.out]
      exact Kd.R_lower HO.out (below_size hw)
    · rw [if_neg hm] at h
      cases h

/-! ### impl_UsedWords: function 15 -/
theorem impl_UsedWords.num (A0 : Option Addr) (c0 : Nat) (l0 : List Int) (B0 : Nat) (w : World) (h8 : 8 ≤ l0.length) (hr0 : Kd.C (Kd.int .i64) w A0 l0.length l0) (hB0 : B0 < w.heap.size) (hc0 : w.cell? ⟨B0, 0, none⟩ = some (.slice A0 l0.length c0)) :
    NumAt 47 #[.pointer (some ⟨B0, 0, none⟩)] (fun i => rd l0 i) w := fun W i hb hi0 hi8 => by
  have k0 : W.cell? ⟨B0, 0, none⟩ = some (.slice A0 l0.length c0) := (hb.cell (p := ⟨B0, 0, none⟩) hB0).trans hc0
  have hr := Kd.C_below hr0 hb
  have q1 : i < (l0.length : Int) := by omega
  obtain ⟨ad, e1, hx⟩ := Kd.at_int hr i hi0 q1
  cases e1
  clear hc0 hB0 hb hr hr0 h8
  show Calls Try.prog 47 #[.int .i64 i, .pointer (some ⟨B0, 0, none⟩)] W fun e w' => e = .returned (.int .i64 (rd l0 i)) ∧ Drawn0 W w'
  generalize rd l0 i = x at hx ⊢
  go_enter Try.func47, Try.ntmps47
  go_wp2
  go_ret
  exact ⟨rfl, by repeat (first | exact Drawn0.refl _ | apply Drawn0.step)⟩
/-- What the code asks before it asks for lines. -/
def impl_UsedWords.f (k : Nat) (l0 : List Int) (a1 : Int) : Option Int := (impl_areAsked.f l0 a1).bind fun b => if b = true then (impl_LanesOf.f k a1).bind fun t => if 8 ≤ l0.length ∧ t.length ≤ 8 ∧ (∀ j : Nat, j < t.length → 0 ≤ rd t (j : Int) ∧ rd t (j : Int) < 8) then some ((difL (t.map fun i => rd l0 i)).length : Int) else none else some (-1)
theorem impl_UsedWords.mono : ∀ a0 a1 k, LeO (impl_UsedWords.f k a0 a1) (impl_UsedWords.f (k + 1) a0 a1) := by
  intro a0 a1 k
  unfold impl_UsedWords.f
  exact LeO.bind (LeO.refl _) fun b => LeO.ite (LeO.bind (impl_LanesOf.mono _ k) fun t => LeO.refl _) (LeO.refl _)
set_option maxHeartbeats 8000000 in
set_option maxRecDepth 100000 in
theorem impl_UsedWords.calls (k : Nat) (A0 : Option Addr) (c0 : Nat) (l0 : List Int) (a1 : Int) (r : Int) (w : World) (hr0 : Kd.C (Kd.int .i64) w A0 l0.length l0) (hc0 : l0.length ≤ c0) (h : impl_UsedWords.f k l0 a1 = some r) :
    Calls Try.prog 15 #[.slice A0 l0.length c0, .int .i64 a1] w fun e w' => e = .returned (.int .i64 r) ∧ Below w.heap.size w w' := by
  have eg : ∀ args w, (callFunc 47 args).run Try.prog w = .ok (.enter 47 args) w := enters_of Try.func47 (by kernel_rfl) rfl
  have HR0 := Aside0.mk hr0
  have HC0 := Aside0.mk hc0
  clear hr0 hc0
  unfold impl_UsedWords.f at h
  obtain ⟨b, h1, h⟩ := Option.bind_eq_some_iff.mp h
  have H1 := Aside0.mk h1
  clear h1
  cases b with
  | false =>
    simp only [Bool.false_eq_true, if_false] at h
    obtain rfl := Option.some.inj h
    clear h
    go_enter Try.func15, Try.ntmps15
    go_wp2_with (go_at_call 44; refine (impl_areAsked.calls A0 c0 l0 a1 false _ (Kd.C_below HR0.out (by repeat (first | exact Below.refl _ _ | apply below_alloc | apply pw_below_drewN | apply below_drew1))) HC0.out H1.out).mono ?_; rintro e w' ⟨rfl, ⟨nd, rfl⟩⟩)
    go_ret
    exact ⟨rfl, by repeat (first | exact Below.refl _ _ | apply below_alloc | apply pw_below_drewN | apply below_drew1)⟩
  | true =>
    simp only [if_true] at h
    obtain ⟨t, h3, h⟩ := Option.bind_eq_some_iff.mp h
    by_cases hm : 8 ≤ l0.length ∧ t.length ≤ 8 ∧ (∀ j : Nat, j < t.length → 0 ≤ rd t (j : Int) ∧ rd t (j : Int) < 8)
    · rw [if_pos hm] at h
      have HR := Aside0.mk (Option.some.inj h)
      have H3 := Aside0.mk h3
      have HM := Aside0.mk hm
      clear h h3 hm
      go_enter Try.func15, Try.ntmps15
      go_wp2_with (first | (go_at_call 44; refine (impl_areAsked.calls A0 c0 l0 a1 true _ (Kd.C_below HR0.out (by repeat (first | exact Below.refl _ _ | apply below_alloc | apply pw_below_drewN | apply below_drew1))) HC0.out H1.out).mono ?_; rintro e w' ⟨rfl, ⟨nd, rfl⟩⟩) | (go_at_call 45; refine (impl_differing.calls k a1 47 _ _ t _ eg (impl_UsedWords.num A0 c0 l0 w.heap.size _ HM.out.1 (Kd.C_below HR0.out (by repeat (first | exact Below.refl _ _ | apply below_alloc | apply pw_below_drewN | apply below_drew1))) ?k0 ?k1) H3.out HM.out.2.2 HM.out.2.1).mono ?_; (case k0 => first | (simp; done) | (simp; omega)); (case k1 => first | (simp; done) | (simp; omega)); rintro e w' ⟨v0_, rfl, ho, hb⟩; obtain ⟨Ao, co, eo⟩ := Kd.R_slice ho; subst eo; clear ho; have HB := Aside0.mk hb; clear hb))
      go_ret
      have hw : Below w.heap.size w ((w.alloc (.cells #[.slice A0 l0.length c0] 24)).drewN nd) := by repeat (first | exact Below.refl _ _ | apply below_alloc | apply pw_below_drewN | apply below_drew1)
      exact ⟨by rw [← HR.out]; rfl, below_step hw HB.out⟩
    · rw [if_neg hm] at h
      cases h

/-! ### impl_LineUse: function 16 -/
def impl_LineUse.f (k : Nat) (l0 : List Int) (a1 : Int) : Option (Int) := (impl_UsedWords.f k l0 a1).bind fun t193 => (if t193 < 0 then (some (-1)) else (if t193 = 0 then (some 1000) else ((impl_LinesOf.f k l0 a1).bind fun t194 => (if (wrap64 (8 * (t194.length : Int))) = 0 then (none) else (some (wrap64 (Int.tdiv (wrap64 (1000 * t193)) (wrap64 (8 * (t194.length : Int))))))))))
theorem impl_LineUse.mono : ∀ a0 a1 k, LeO (impl_LineUse.f k a0 a1) (impl_LineUse.f (k + 1) a0 a1) := by
  intro a0 a1 k
  unfold impl_LineUse.f
  repeat' first
      | (with_reducible exact impl_LinesOf.mono _ _ _)
      | (with_reducible exact impl_UsedWords.mono _ _ _)
      | (with_reducible exact LeO.refl _)
      | (with_reducible exact LeO.none _)
      | (with_reducible refine LeO.ite ?_ ?_)
      | (with_reducible refine LeO.bind ?_ (fun _ => ?_))
      | exact impl_LinesOf.mono _ _ _
      | exact impl_UsedWords.mono _ _ _
      | exact LeO.none _
      | refine LeO.ite ?_ ?_
      | refine LeO.bind ?_ (fun _ => ?_)
set_option maxHeartbeats 8000000 in
set_option maxRecDepth 100000 in
theorem impl_LineUse.calls (k : Nat) (A0 : Option Addr) (c0 : Nat) (l0 : List Int) (a1 : Int) (r : Int) (w : World) (hr0 : Kd.C (Kd.int .i64) w A0 l0.length l0) (hc0 : l0.length ≤ c0) (h : impl_LineUse.f k l0 a1 = some r) :
    Calls Try.prog 16 #[.slice A0 l0.length c0, .int .i64 a1] w fun e w' => e = .returned (.int .i64 r) ∧ Below w.heap.size w w' := by
  have HR0 := Aside0.mk hr0
  have HC0 := Aside0.mk hc0
  clear hr0 hc0
  have HB := Aside0.mk (Below.refl w.heap.size w)
  have H : ((impl_UsedWords.f k l0 a1).bind fun t193 => (if t193 < 0 then (some (-1)) else (if t193 = 0 then (some 1000) else ((impl_LinesOf.f k l0 a1).bind fun t194 => (if (wrap64 (8 * (t194.length : Int))) = 0 then (none) else (some (wrap64 (Int.tdiv (wrap64 (1000 * t193)) (wrap64 (8 * (t194.length : Int))))))))))) = some r := h
  clear h
  replace H := Option.bind_eq_some_iff.mp H
  obtain ⟨t193, A30, H⟩ := H
  replace H : (if t193 < 0 then (some (-1)) else (if t193 = 0 then (some 1000) else ((impl_LinesOf.f k l0 a1).bind fun t194 => (if (wrap64 (8 * (t194.length : Int))) = 0 then (none) else (some (wrap64 (Int.tdiv (wrap64 (1000 * t193)) (wrap64 (8 * (t194.length : Int)))))))))) = some r := H
  have A3 := Aside0.mk A30
  clear A30
  by_cases c4 : t193 < 0
  · rw [if_pos c4] at H
    have c4b0 : decide (t193 < 0) = true := decide_eq_true c4
    clear c4
    obtain rfl := Option.some.inj H
    go_enter Try.func16, Try.ntmps16
    go_wp2_with (first | ((with_reducible refine gate_callee (f := 15) rfl ?_); refine goesL_ (some 8) rfl rfl Try.func15 (by kernel_rfl) rfl #[.slice A0 l0.length c0, .int .i64 a1] rfl (by (try simp only [List.map_toArray, List.map_cons, List.map_nil]); first | done | rfl | (simp only [List.length_drop, List.length_take]; rfl)) ?_; (with_reducible refine (impl_UsedWords.calls k _ _ l0 a1 t193 _ ?side1 ?side2 A3.out).mono ?_); (case side1 => repeat (first | exact HR0.out | (with_reducible refine Kd.C_alloc ?_ _) | (with_reducible refine Kd.C_drewN ?_ _) | (with_reducible refine Kd.C_drew ?_))); (case side2 => exact HC0.out); rintro e w5 ⟨rfl, hb⟩; refine ⟨_, rfl, ?_⟩; have n0_ := Aside0.mk (below_step (by repeat (first | (with_reducible first | exact HB.out | apply below_alloc | apply pw_below_drewN | apply below_drew1) | exact HB.out)) hb); clear HB; have HB := n0_; clear n0_; (try clear hb); (try clear hb2); (try clear hk); (try clear hi)))
    go_ret
    exact ⟨by first | rfl | (simp [errW_none, errW_some] <;> rfl) | (simp [*, errW_none, errW_some] <;> rfl), by repeat (first | (with_reducible first | exact HB.out | apply below_alloc | apply pw_below_drewN | apply below_drew1) | exact HB.out)⟩
  · rw [if_neg c4] at H
    have c4b0 : decide (t193 < 0) = false := decide_eq_false c4
    clear c4
    by_cases c6 : t193 = 0
    · rw [if_pos c6] at H
      have c6b0 : (t193 == 0) = true := beq_iff_eq.mpr c6
      have c6b1 : (t193 != 0) = false := bne_eq_false_iff_eq.mpr c6
      clear c6
      obtain rfl := Option.some.inj H
      go_enter Try.func16, Try.ntmps16
      go_wp2_with (first | ((with_reducible refine gate_callee (f := 15) rfl ?_); refine goesL_ (some 8) rfl rfl Try.func15 (by kernel_rfl) rfl #[.slice A0 l0.length c0, .int .i64 a1] rfl (by (try simp only [List.map_toArray, List.map_cons, List.map_nil]); first | done | rfl | (simp only [List.length_drop, List.length_take]; rfl)) ?_; (with_reducible refine (impl_UsedWords.calls k _ _ l0 a1 t193 _ ?side1 ?side2 A3.out).mono ?_); (case side1 => repeat (first | exact HR0.out | (with_reducible refine Kd.C_alloc ?_ _) | (with_reducible refine Kd.C_drewN ?_ _) | (with_reducible refine Kd.C_drew ?_))); (case side2 => exact HC0.out); rintro e w7 ⟨rfl, hb⟩; refine ⟨_, rfl, ?_⟩; have n0_ := Aside0.mk (below_step (by repeat (first | (with_reducible first | exact HB.out | apply below_alloc | apply pw_below_drewN | apply below_drew1) | exact HB.out)) hb); clear HB; have HB := n0_; clear n0_; (try clear hb); (try clear hb2); (try clear hk); (try clear hi)))
      go_ret
      exact ⟨by first | rfl | (simp [errW_none, errW_some] <;> rfl) | (simp [*, errW_none, errW_some] <;> rfl), by repeat (first | (with_reducible first | exact HB.out | apply below_alloc | apply pw_below_drewN | apply below_drew1) | exact HB.out)⟩
    · rw [if_neg c6] at H
      have c6b0 : (t193 == 0) = false := beq_eq_false_iff_ne.mpr c6
      have c6b1 : (t193 != 0) = true := bne_iff_ne.mpr c6
      replace H := Option.bind_eq_some_iff.mp H
      obtain ⟨t194, A80, H⟩ := H
      replace H : (if (wrap64 (8 * (t194.length : Int))) = 0 then (none) else (some (wrap64 (Int.tdiv (wrap64 (1000 * t193)) (wrap64 (8 * (t194.length : Int))))))) = some r := H
      have A8 := Aside0.mk A80
      clear A80
      by_cases c9 : (wrap64 (8 * (t194.length : Int))) = 0
      · rw [if_pos c9] at H
        exact absurd H (by simp)
      · rw [if_neg c9] at H
        have c9b0 : ((wrap64 (8 * (t194.length : Int))) == 0) = false := beq_eq_false_iff_ne.mpr c9
        have c9b1 : ((wrap64 (8 * (t194.length : Int))) != 0) = true := bne_iff_ne.mpr c9
        obtain rfl := Option.some.inj H
        go_enter Try.func16, Try.ntmps16
        go_wp2_with (first | ((with_reducible refine gate_callee (f := 15) rfl ?_); refine goesL_ (some 8) rfl rfl Try.func15 (by kernel_rfl) rfl #[.slice A0 l0.length c0, .int .i64 a1] rfl (by (try simp only [List.map_toArray, List.map_cons, List.map_nil]); first | done | rfl | (simp only [List.length_drop, List.length_take]; rfl)) ?_; (with_reducible refine (impl_UsedWords.calls k _ _ l0 a1 t193 _ ?side1 ?side2 A3.out).mono ?_); (case side1 => repeat (first | exact HR0.out | (with_reducible refine Kd.C_alloc ?_ _) | (with_reducible refine Kd.C_drewN ?_ _) | (with_reducible refine Kd.C_drew ?_))); (case side2 => exact HC0.out); rintro e w10 ⟨rfl, hb⟩; refine ⟨_, rfl, ?_⟩; have n0_ := Aside0.mk (below_step (by repeat (first | (with_reducible first | exact HB.out | apply below_alloc | apply pw_below_drewN | apply below_drew1) | exact HB.out)) hb); clear HB; have HB := n0_; clear n0_; (try clear hb); (try clear hb2); (try clear hk); (try clear hi)) | ((with_reducible refine gate_callee (f := 14) rfl ?_); refine goesL_ (some 19) rfl rfl Try.func14 (by kernel_rfl) rfl #[.slice A0 l0.length c0, .int .i64 a1] rfl (by (try simp only [List.map_toArray, List.map_cons, List.map_nil]); first | done | rfl | (simp only [List.length_drop, List.length_take]; rfl)) ?_; (with_reducible refine (impl_LinesOf.calls k _ _ l0 a1 t194 _ ?side1 ?side2 A8.out).mono ?_); (case side1 => repeat (first | exact (Kd.C_below HR0.out HB.out) | (with_reducible refine Kd.C_alloc ?_ _) | (with_reducible refine Kd.C_drewN ?_ _) | (with_reducible refine Kd.C_drew ?_))); (case side2 => exact HC0.out); rintro e w11 ⟨v195, rfl, ho0, hb⟩; refine ⟨_, rfl, ?_⟩; have n0_ := Aside0.mk (Kd.R_lower ho0 (below_size (by repeat (first | (with_reducible first | exact HB.out | apply below_alloc | apply pw_below_drewN | apply below_drew1) | exact HB.out)))); have n1_ := Aside0.mk (below_step (by repeat (first | (with_reducible first | exact HB.out | apply below_alloc | apply pw_below_drewN | apply below_drew1) | exact HB.out)) hb); clear HB; have HO196 := n0_; have HB := n1_; clear n0_ n1_; (try clear hb); (try clear hb2); (try clear hk); (try clear hi); (try clear ho0); obtain ⟨Ao12, co12, eo12⟩ := Kd.R_slice HO196.out; subst eo12))
        go_ret
        exact ⟨by first | rfl | (simp [errW_none, errW_some] <;> rfl) | (simp [*, errW_none, errW_some] <;> rfl), by repeat (first | (with_reducible first | exact HB.out | apply below_alloc | apply pw_below_drewN | apply below_drew1) | exact HB.out)⟩

/-! ### impl_Strided: function 22 -/
theorem impl_Strided.num (a0 a1 : Int) (B0 B1 : Nat) (w : World) (hB0 : B0 < w.heap.size) (hB1 : B1 < w.heap.size) (hc0 : w.cell? ⟨B0, 0, none⟩ = some (.int .i64 a0)) (hc1 : w.cell? ⟨B1, 0, none⟩ = some (.int .i64 a1)) :
    NumAt 55 #[.pointer (some ⟨B0, 0, none⟩), .pointer (some ⟨B1, 0, none⟩)] (fun i => wrap64 (a0 + wrap64 (i * a1))) w := fun W i hb _ _ => by
  have k0 : W.cell? ⟨B0, 0, none⟩ = some (.int .i64 a0) := (hb.cell (p := ⟨B0, 0, none⟩) hB0).trans hc0
  have k1 : W.cell? ⟨B1, 0, none⟩ = some (.int .i64 a1) := (hb.cell (p := ⟨B1, 0, none⟩) hB1).trans hc1
  rename_i g0 g8
  clear hc0 hc1 hB0 hB1 hb g0 g8
  show Calls Try.prog 55 #[.int .i64 i, .pointer (some ⟨B0, 0, none⟩), .pointer (some ⟨B1, 0, none⟩)] W fun e w' => e = .returned (.int .i64 (wrap64 (a0 + wrap64 (i * a1)))) ∧ Drawn0 W w'
  go_enter Try.func55, Try.ntmps55
  go_wp2
  go_ret
  exact ⟨rfl, by repeat (first | exact Drawn0.refl _ | apply Drawn0.step)⟩
def isStrideB (n : Int) : Bool := decide (0 ≤ n) && decide (n ≤ 512)
theorem within_stride (n : Int) : impl_within.f n 0 512 = some (isStrideB n) := by
  unfold impl_within.f isStrideB
  by_cases h : n ≥ 0
  · simp [h]
  · have h' : ¬ 0 ≤ n := h
    simp [h']
def strides (a0 a1 : Int) : List Int := lanes8 (fun i => wrap64 (a0 + wrap64 (i * a1)))
def impl_Strided.f (a0 : Int) (a1 : Int) : Option (List Int) := some (if (isAddr a0 && isStrideB a1 && (strides a0 a1).all isAddr) = true then strides a0 a1 else [])
set_option maxHeartbeats 8000000 in
set_option maxRecDepth 100000 in
/-- What the call hands back, and that the empty answer is nil. -/
theorem impl_Strided.whole (a0 : Int) (a1 : Int) (w : World) :
    Calls Try.prog 22 #[.int .i64 a0, .int .i64 a1] w fun e w' => ∃ v0_ : Value, e = .returned (v0_) ∧ Kd.R (Kd.int .i64) 3 w' w.heap.size (fun _ => True) v0_ (if (isAddr a0 && isStrideB a1 && (strides a0 a1).all isAddr) = true then strides a0 a1 else []) ∧ Below w.heap.size w w' ∧ ((isAddr a0 && isStrideB a1 && (strides a0 a1).all isAddr) = false → v0_ = .slice none 0 0) := by
  have AA := Aside0.mk (impl_isAddress.is a0)
  have AS := Aside0.mk (within_stride a1)
  have eg : ∀ args w, (callFunc 55 args).run Try.prog w = .ok (.enter 55 args) w := enters_of Try.func55 (by kernel_rfl) rfl
  have bR : ∀ w' : World, Below w.heap.size w w' → ∃ v0_ : Value, Ending.returned (.slice none 0 0) = .returned v0_ ∧ Kd.R (Kd.int .i64) 3 w' w.heap.size (fun _ => True) v0_ [] ∧ Below w.heap.size w w' ∧ (true = true → v0_ = .slice none 0 0) := fun w' hb => ⟨_, rfl, Kd.R_nil _ _ _ _ _, hb, fun _ => rfl⟩
  have BR := Aside0.mk bR
  clear bR
  cases ha : isAddr a0 with
  | false =>
    rw [ha] at AA
    clear ha
    simp only [Bool.false_and, Bool.false_eq_true, if_false, true_implies]
    go_enter Try.func22, Try.ntmps22
    go_wp2_with (first | (go_at_call 52; refine (impl_isAddress.calls a0 false _ AA.out).mono ?_; rintro e w' ⟨rfl, ⟨nd, rfl⟩⟩))
    go_ret
    exact ⟨_, rfl, Kd.R_nil _ _ _ _ _, by repeat (first | exact Below.refl _ _ | apply below_alloc | apply pw_below_drewN | apply below_drew1), rfl⟩
  | true =>
    cases hs : isStrideB a1 with
    | false =>
      rw [ha] at AA
      rw [hs] at AS
      clear ha hs
      simp only [Bool.and_false, Bool.false_and, Bool.false_eq_true, if_false, true_implies]
      go_enter Try.func22, Try.ntmps22
      go_wp2_with (first | (go_at_call 52; refine (impl_isAddress.calls a0 true _ AA.out).mono ?_; rintro e w' ⟨rfl, ⟨nd, rfl⟩⟩) | (go_at_call 53; refine (impl_within.calls a1 0 512 false _ AS.out).mono ?_; rintro e w' ⟨rfl, ⟨nd, rfl⟩⟩))
      go_ret
      exact ⟨_, rfl, Kd.R_nil _ _ _ _ _, by repeat (first | exact Below.refl _ _ | apply below_alloc | apply pw_below_drewN | apply below_drew1), rfl⟩
    | true =>
      rw [ha] at AA
      rw [hs] at AS
      clear ha hs
      simp only [Bool.true_and]
      have AO := Aside0.mk (show impl_AddressesOk.f (strides a0 a1) = some ((strides a0 a1).all isAddr) from rfl)
      cases hb : (strides a0 a1).all isAddr with
      | false =>
        rw [hb] at AO
        clear hb
        simp only [Bool.false_eq_true, if_false, true_implies]
        go_enter Try.func22, Try.ntmps22
        go_wp2_with (first | (go_at_call 52; refine (impl_isAddress.calls a0 true _ AA.out).mono ?_; rintro e w' ⟨rfl, ⟨nd, rfl⟩⟩) | (go_at_call 53; refine (impl_within.calls a1 0 512 true _ AS.out).mono ?_; rintro e w' ⟨rfl, ⟨nd, rfl⟩⟩) | (go_at_call 54; refine (impl_eachLane.yes' 55 _ _ w _ eg (impl_Strided.num a0 a1 w.heap.size (w.heap.size + 1) _ ?k0 ?k1 ?k2 ?k3) ?k4).mono ?_; (case k0 => first | (simp; done) | (simp; omega)); (case k1 => first | (simp; done) | (simp; omega)); (case k2 => first | (simp; done) | (simp; omega)); (case k3 => first | (simp; done) | (simp; omega)); (case k4 => (repeat (first | exact Below.refl _ _ | apply below_alloc | apply pw_below_drewN | apply below_drew1))); rintro e w' ⟨v0_, rfl, ho, hb⟩; have HO := Aside0.mk ho; have HB := Aside0.mk hb; clear ho hb) | (go_at_call 56; obtain ⟨As, cs, es, hle, hcr⟩ := Kd.R_reads HO.out; subst es; refine (impl_AddressesOk.calls As cs (strides a0 a1) false _ hcr hle AO.out).mono ?_; clear hle hcr; rintro e w' ⟨rfl, ⟨nd, rfl⟩⟩))
        go_ret
        exact ⟨_, rfl, Kd.R_nil _ _ _ _ _, by repeat (first | (with_reducible first | exact HB.out | apply below_alloc | apply pw_below_drewN | apply below_drew1) | exact HB.out), rfl⟩
      | true =>
        rw [hb] at AO
        clear hb
        simp only [if_true]
        go_enter Try.func22, Try.ntmps22
        go_wp2_with (first | (go_at_call 52; refine (impl_isAddress.calls a0 true _ AA.out).mono ?_; rintro e w' ⟨rfl, ⟨nd, rfl⟩⟩) | (go_at_call 53; refine (impl_within.calls a1 0 512 true _ AS.out).mono ?_; rintro e w' ⟨rfl, ⟨nd, rfl⟩⟩) | (go_at_call 54; refine (impl_eachLane.yes' 55 _ _ w _ eg (impl_Strided.num a0 a1 w.heap.size (w.heap.size + 1) _ ?k0 ?k1 ?k2 ?k3) ?k4).mono ?_; (case k0 => first | (simp; done) | (simp; omega)); (case k1 => first | (simp; done) | (simp; omega)); (case k2 => first | (simp; done) | (simp; omega)); (case k3 => first | (simp; done) | (simp; omega)); (case k4 => (repeat (first | exact Below.refl _ _ | apply below_alloc | apply pw_below_drewN | apply below_drew1))); rintro e w' ⟨v0_, rfl, ho, hb⟩; have HO := Aside0.mk ho; have HB := Aside0.mk hb; clear ho hb) | (go_at_call 56; obtain ⟨As, cs, es, hle, hcr⟩ := Kd.R_reads HO.out; subst es; refine (impl_AddressesOk.calls As cs (strides a0 a1) true _ hcr hle AO.out).mono ?_; clear hle hcr; rintro e w' ⟨rfl, ⟨nd, rfl⟩⟩))
        go_ret
        exact ⟨_, rfl, by (with_reducible repeat (first | apply Kd.R_alloc | apply Kd.R_drewN | apply Kd.R_drew)); exact HO.out, by repeat (first | (with_reducible first | exact HB.out | apply below_alloc | apply pw_below_drewN | apply below_drew1) | exact HB.out), fun h => by cases h⟩
theorem impl_Strided.calls (a0 : Int) (a1 : Int) (r : List Int) (w : World) (h : impl_Strided.f a0 a1 = some r) :
    Calls Try.prog 22 #[.int .i64 a0, .int .i64 a1] w fun e w' => ∃ v0_ : Value, e = .returned (v0_) ∧ Kd.R (Kd.int .i64) 3 w' w.heap.size (fun _ => True) v0_ r ∧ Below w.heap.size w w' := by
  obtain rfl := Option.some.inj h
  exact (impl_Strided.whole a0 a1 w).mono fun _ _ ⟨v, h1, h2, h3, _⟩ => ⟨v, h1, h2, h3⟩

/-! ### impl_StrideLines: function 21 -/
def strideOk (a0 a1 : Int) : Bool := isAddr a0 && isStrideB a1 && (strides a0 a1).all isAddr
def impl_StrideLines.f (k : Nat) (a0 a1 : Int) : Option Int := if strideOk a0 a1 = true then (impl_LinesOf.f k (strides a0 a1) 255).bind fun t => some ((t.length : Nat) : Int) else some (-1)
theorem impl_StrideLines.mono : ∀ a0 a1 k, LeO (impl_StrideLines.f k a0 a1) (impl_StrideLines.f (k + 1) a0 a1) := by
  intro a0 a1 k
  unfold impl_StrideLines.f
  exact LeO.ite (LeO.bind (impl_LinesOf.mono _ _ k) fun t => LeO.refl _) (LeO.refl _)
set_option maxHeartbeats 8000000 in
set_option maxRecDepth 100000 in
theorem impl_StrideLines.calls (k : Nat) (a0 a1 : Int) (r : Int) (w : World) (h : impl_StrideLines.f k a0 a1 = some r) :
    Calls Try.prog 21 #[.int .i64 a0, .int .i64 a1] w fun e w' => e = .returned (.int .i64 r) ∧ Below w.heap.size w w' := by
  have qn : ∀ (W : World) (a : Option Addr) (n c : Nat), (binOp .eql 24 (.slice a n c) (.slice none 0 0)).run Try.prog W = .ok (.bool a.isNone) W := fun W a n c => Go.run_eql_slice_nil W _ _ a n c Try.underlying24
  unfold impl_StrideLines.f at h
  cases hg : strideOk a0 a1 with
  | false =>
    rw [hg] at h
    simp only [Bool.false_eq_true, if_false] at h
    obtain rfl := Option.some.inj h
    have HG := Aside0.mk hg
    clear h hg
    go_enter Try.func21, Try.ntmps21
    go_wp2_with (go_at_call 22; refine (impl_Strided.whole a0 a1 _).mono ?_; rintro e w' ⟨v0_, rfl, _, hb, hn⟩; obtain rfl := hn HG.out; have HB := Aside0.mk hb; clear hb)
    go_ret
    exact ⟨rfl, HB.out⟩
  | true =>
    rw [hg] at h
    simp only [if_true] at h
    obtain ⟨t, h1, h⟩ := Option.bind_eq_some_iff.mp h
    obtain rfl := Option.some.inj h
    have HG := Aside0.mk (show (isAddr a0 && isStrideB a1 && (strides a0 a1).all isAddr) = true from hg)
    have H1 := Aside0.mk h1
    clear h hg h1
    go_enter Try.func21, Try.ntmps21
    go_wp2_with (first | (go_at_call 22; refine (impl_Strided.whole a0 a1 _).mono ?_; rintro e w' ⟨v0_, rfl, ho, hb, hn⟩; rw [if_pos HG.out] at ho; obtain ⟨ad, c, rfl⟩ := Kd.R_slice1 ho (by simp [strides, lanes8]); have HO := Aside0.mk ho; have HB := Aside0.mk hb; clear ho hb hn) | (go_at_call 14; refine (impl_LinesOf.calls k (some ad) c (strides a0 a1) 255 t _ (Kd.R_reads' HO.out).2.2 (Kd.R_reads' HO.out).2.1 H1.out).mono ?_; rintro e w' ⟨v0_, rfl, ho, hb⟩; obtain ⟨Ao, co, eo⟩ := Kd.R_slice ho; subst eo; have HB2 := Aside0.mk hb; clear ho hb))
    go_ret
    exact ⟨rfl, below_step HB.out HB2.out⟩

end Go.Proofs.Ytfeadincafegcaa.P
