/- The order that tickets tell. -/
import Derived.Test.YtiolnbkaohioiaaGxPFnExactOrderOfTickets
import Derived.Test.YtiolnbkaohioiaaPureMark
import Derived.Test.YtiolnbkaohioiaaPureMasks
import Derived.Test.YtiolnbkaohioiaaPureWords
import Derived.Test.YtiolnbkaohioiaaPureOrder
namespace Go.Proofs.Ytiolnbkaohioiaa.Pure
open Go.RowKit Go.Proofs.Ytiolnbkaohioiaa.P Go.Proofs.YtiolnbkaohioiaaW.PrintWords Go.Proofs.YtiolnbkaohioiaaW.PrintLast Go.Proofs.YtiolnbkaohioiaaW.PrintMore

def subW (a b : Int) : Int := if (isWordB a && isWordB b) = true then (a - b) % 65536 else 0
theorem spec_SubWords_is (a b : Int) : spec_SubWords.f a b = some (subW a b) := by
  unfold spec_SubWords.f subW
  rw [spec_IsWord_is, spec_IsWord_is]
  cases ha : isWordB a with
  | false => simp
  | true =>
    cases hb : isWordB b with
    | false => simp
    | true =>
      unfold isWordB at ha hb
      simp only [Bool.and_eq_true, decide_eq_true_eq] at ha hb
      unfold spec_WrapWord.f
      rw [w64 (x := a - b) (by omega) (by omega)]
      have e0 : -65536 < Int.tmod (a - b) 65536 ∧ Int.tmod (a - b) 65536 < 65536 := by
        have h1 := Int.lt_tmod_of_pos (a - b) (show (0 : Int) < 65536 by omega)
        have h2 := Int.tmod_lt_of_pos (a - b) (show (0 : Int) < 65536 by omega)
        omega
      have e1 : Int.tmod (a - b) 65536 % 65536 = (a - b) % 65536 := by
        by_cases hc : b ≤ a
        · rw [Int.tmod_eq_emod_of_nonneg (by omega)]
          omega
        · have hn : a - b = -(b - a) := by omega
          rw [hn, Int.neg_tmod, Int.tmod_eq_emod_of_nonneg (a := b - a) (by omega)]
          omega
      rw [w64 (by omega) (by omega)]
      have e2 : Int.tmod (Int.tmod (a - b) 65536 + 65536) 65536 = (Int.tmod (a - b) 65536 + 65536) % 65536 := Int.tmod_eq_emod_of_nonneg (by omega)
      rw [e2]
      simp only [Option.bind_some, if_true, Bool.and_true]
      congr 1
      omega
theorem subW_word (a b : Int) : isWordB (subW a b) = true := by
  unfold subW isWordB
  simp only [Bool.and_eq_true, decide_eq_true_eq]
  split <;> omega
/-- The first place of a number in a list, counted from i. -/
def idxFrom (j : Int) : List Int → Int → Int
  | [], _ => -1
  | a :: t, i => if j = a then i else idxFrom j t (i + 1)
theorem slices_Index_go (l : List Int) (j : Int) (hl : l.length ≤ 1048576) : ∀ (d k i : Nat), i + d = l.length → d < k → slices_Index_int_int.l0 k l j (l.length : Int) (i : Int) = some (idxFrom j (l.drop i) (i : Int)) := by
  intro d
  induction d with
  | zero =>
    intro k i hi hk
    obtain ⟨k, rfl⟩ : ∃ m, k = m + 1 := ⟨k - 1, by omega⟩
    simp only [slices_Index_int_int.l0]
    rw [if_neg (by omega), List.drop_eq_nil_of_le (by omega)]
    rfl
  | succ d ih =>
    intro k i hi hk
    obtain ⟨k, rfl⟩ : ∃ m, k = m + 1 := ⟨k - 1, by omega⟩
    simp only [slices_Index_int_int.l0]
    rw [if_pos (by omega), if_pos (by omega), if_pos (by omega), drop_cons_rd l i (by omega)]
    simp only [idxFrom]
    by_cases h : j = rd l (i : Int)
    · rw [if_pos h, if_pos h]
    · rw [if_neg h, if_neg h, w64s i (by omega), ih k (i + 1) (by omega) (by omega)]
      simp
theorem slices_Index_is (l : List Int) (j : Int) (hl : l.length ≤ 1048576) (k : Nat) (hk : l.length < k) : slices_Index_int_int.f k l j = some (idxFrom j l 0) := by
  unfold slices_Index_int_int.f
  simpa using slices_Index_go l j hl l.length k 0 (by omega) hk
theorem idxFrom_none (j : Int) : ∀ (l : List Int) (i : Int), j ∉ l → idxFrom j l i = -1 := by
  intro l
  induction l with
  | nil => intro i _; rfl
  | cons a t ih =>
    intro i h
    simp only [List.mem_cons, not_or] at h
    simp only [idxFrom]
    rw [if_neg h.1, ih _ h.2]
/-- In a list without a number told twice, the first place of what lies at n is n. -/
theorem idxFrom_at : ∀ (l : List Int) (n : Nat) (a i : Int), l.Nodup → l[n]? = some a → idxFrom a l i = i + (n : Int) := by
  intro l
  induction l with
  | nil => intro n a i _ h; simp at h
  | cons b t ih =>
    intro n a i hd h
    rw [List.nodup_cons] at hd
    simp only [idxFrom]
    cases n with
    | zero =>
      simp only [List.getElem?_cons_zero, Option.some.injEq] at h
      rw [if_pos h.symm]
      simp
    | succ n =>
      simp only [List.getElem?_cons_succ] at h
      have hm : a ∈ t := List.mem_of_getElem? h
      have hne : a ≠ b := fun e => hd.1 (e ▸ hm)
      rw [if_neg hne, ih n a (i + 1) hd.2 h]
      omega
/-- A list that holds all of another list of as many numbers, told once each, is its shuffle. -/
theorem perm_of_all : ∀ (t s : List Int), t.Nodup → (∀ a ∈ t, a ∈ s) → s.length = t.length → s.Perm t := by
  intro t
  induction t with
  | nil =>
    intro s _ _ h
    have e : s = [] := List.eq_nil_of_length_eq_zero (by simpa using h)
    subst e
    exact List.Perm.refl _
  | cons a t ih =>
    intro s hd ha hl
    rw [List.nodup_cons] at hd
    have hm : a ∈ s := ha a (by simp)
    have hp := List.perm_cons_erase hm
    have := ih (s.erase a) hd.2 (fun b hb => by
      have hne : b ≠ a := fun e => hd.1 (e ▸ hb)
      exact (List.mem_erase_of_ne hne).2 (ha b (by simp [hb]))) (by rw [List.length_erase_of_mem hm, hl]; simp)
    exact hp.trans (this.cons a)
def lanes8' : List Int := [0, 1, 2, 3, 4, 5, 6, 7]
theorem or_bit : ∀ m : Fin 256, ∀ a j : Fin 8, isMaskB (Go.bits .or .i64 ((m : Nat) : Int) (shl .i64 1 ((a : Nat) : Int))) = true ∧ hasB (Go.bits .or .i64 ((m : Nat) : Int) (shl .i64 1 ((a : Nat) : Int))) ((j : Nat) : Int) = (hasB ((m : Nat) : Int) ((j : Nat) : Int) || decide (j = a)) := by decide +kernel
theorem all_bits : ∀ m : Fin 256, (∀ j : Fin 8, hasB ((m : Nat) : Int) ((j : Nat) : Int) = true) ↔ m = 255 := by decide +kernel
theorem maskF_all : ∀ (l : List Int) (m : Int), isMaskB m = true → (∀ a ∈ l, 0 ≤ a ∧ a ≤ 7) → (maskF l m).2 = true ∧ isMaskB (maskF l m).1 = true ∧ ∀ j : Nat, j < 8 → (hasB (maskF l m).1 (j : Int) = true ↔ (hasB m (j : Int) = true ∨ (j : Int) ∈ l)) := by
  intro l
  induction l with
  | nil => intro m hm _; exact ⟨rfl, hm, fun j _ => by simp [maskF]⟩
  | cons a t ih =>
    intro m hm ha
    have h := hm
    unfold isMaskB at h
    simp only [Bool.and_eq_true, decide_eq_true_eq] at h
    have ha0 := ha a (by simp)
    simp only [maskF]
    rw [if_pos ((isLaneB_iff a).2 ha0)]
    have ho := fun j => or_bit ⟨m.toNat, by omega⟩ ⟨a.toNat, by omega⟩ j
    simp only [Int.toNat_of_nonneg h.1, Int.toNat_of_nonneg ha0.1] at ho
    obtain ⟨i1, i2, i3⟩ := ih _ (ho 0).1 (fun b hb => ha b (by simp [hb]))
    refine ⟨i1, i2, fun j hj => ?_⟩
    rw [i3 j hj, (ho ⟨j, hj⟩).2]
    simp only [Bool.or_eq_true, decide_eq_true_eq, List.mem_cons, Fin.mk.injEq]
    constructor
    · rintro ((h1 | h1) | h1)
      · exact Or.inl h1
      · exact Or.inr (Or.inl (by omega))
      · exact Or.inr (Or.inr h1)
    · rintro (h1 | h1 | h1)
      · exact Or.inl (Or.inl h1)
      · exact Or.inl (Or.inr (by omega))
      · exact Or.inr h1
theorem hasB_zero : ∀ j : Fin 8, hasB 0 ((j : Nat) : Int) = false := by decide +kernel
theorem permB_iff (l : List Int) : permB l = true ↔ l.Perm lanes8' := by
  constructor
  · intro h
    have hlen := permB_len h
    have hlane := permB_lane h
    obtain ⟨_, hm, hb⟩ := maskF_all l 0 (by rfl) hlane
    unfold permB at h
    simp only [Bool.and_eq_true, decide_eq_true_eq, beq_iff_eq] at h
    refine perm_of_all lanes8' l (by decide) (fun a ha => ?_) (by rw [hlen]; rfl)
    have ha' : 0 ≤ a ∧ a ≤ 7 := by
      simp only [lanes8', List.mem_cons, List.not_mem_nil, or_false] at ha
      omega
    have h1 := (hb a.toNat (by omega)).1 (by
      rw [h.2]
      exact (all_bits 255).2 rfl ⟨a.toNat, by omega⟩)
    rw [Int.toNat_of_nonneg ha'.1] at h1
    cases h1 with
    | inl e =>
      have := hasB_zero ⟨a.toNat, by omega⟩
      simp only [Int.toNat_of_nonneg ha'.1] at this
      rw [this] at e
      cases e
    | inr e => exact e
  · intro h
    have hlen : l.length = 8 := by rw [h.length_eq]; rfl
    have hlane : ∀ a ∈ l, 0 ≤ a ∧ a ≤ 7 := fun a ha => by
      have := h.mem_iff.1 ha
      simp only [lanes8', List.mem_cons, List.not_mem_nil, or_false] at this
      omega
    obtain ⟨h2, hm, hb⟩ := maskF_all l 0 (by rfl) hlane
    unfold permB
    simp only [Bool.and_eq_true, decide_eq_true_eq, beq_iff_eq]
    refine ⟨⟨h2, hlen⟩, ?_⟩
    have hm' := hm
    unfold isMaskB at hm'
    simp only [Bool.and_eq_true, decide_eq_true_eq] at hm'
    have := (all_bits ⟨(maskF l 0).1.toNat, by omega⟩).1 (fun j => by
      simp only [Int.toNat_of_nonneg hm'.1]
      refine (hb j j.2).2 (Or.inr (h.mem_iff.2 ?_))
      have := j.2
      simp only [lanes8', List.mem_cons, List.not_mem_nil, or_false]
      omega)
    have e := congrArg Fin.val this
    simp only at e
    change (maskF l 0).1.toNat = 255 at e
    omega
def idxs (s : List Int) : List Int := lanes8'.map fun j => idxFrom j s 0
theorem idxs_len (s : List Int) : (idxs s).length = 8 := by simp [idxs, lanes8']
theorem mem_lanes (a : Int) : a ∈ lanes8' ↔ 0 ≤ a ∧ a ≤ 7 := by
  simp only [lanes8', List.mem_cons, List.not_mem_nil, or_false]
  omega
theorem lanes_get (j : Nat) (hj : j < 8) : lanes8'[j]? = some (j : Int) := by
  have : ∀ j : Fin 8, lanes8'[(j : Nat)]? = some ((j : Nat) : Int) := by decide
  exact this ⟨j, hj⟩
theorem idxs_get (s : List Int) (j : Nat) (hj : j < 8) : (idxs s)[j]? = some (idxFrom (j : Int) s 0) := by
  unfold idxs
  rw [List.getElem?_map, lanes_get j hj]
  rfl
theorem idxs_perm (s : List Int) (h : s.Perm lanes8') : (idxs s).Perm lanes8' := by
  have hlen : s.length = 8 := by rw [h.length_eq]; rfl
  have hd : s.Nodup := h.nodup_iff.2 (by decide)
  refine perm_of_all lanes8' (idxs s) (by decide) (fun a ha => ?_) (by rw [idxs_len]; rfl)
  rw [mem_lanes] at ha
  have hr := rd_nat s a.toNat (by omega)
  have hm : rd s ((a.toNat : Nat) : Int) ∈ lanes8' := h.mem_iff.1 (rd_mem' s a.toNat (by omega))
  have hx := idxFrom_at s a.toNat _ 0 hd hr
  unfold idxs
  rw [List.mem_map]
  exact ⟨_, hm, by rw [hx]; omega⟩
theorem idxs_not (s : List Int) (hl : s.length = 8) (h : ¬ s.Perm lanes8') : permB (idxs s) = false := by
  cases hp : permB (idxs s) with
  | false => rfl
  | true =>
    exfalso
    apply h
    refine perm_of_all lanes8' s (by decide) (fun a ha => ?_) (by rw [hl]; rfl)
    by_cases hm : a ∈ s
    · exact hm
    · exfalso
      have := permB_lane hp (idxFrom a s 0) (by unfold idxs; exact List.mem_map.2 ⟨a, ha, rfl⟩)
      rw [idxFrom_none a s 0 hm] at this
      omega
theorem spec_Inverse_go (s : List Int) (h : s.Perm lanes8') : ∀ (d k i : Nat) (o : List Int), i + d = 8 → d < k → o.length = 8 → (∀ n j : Nat, n < i → s[n]? = some (j : Int) → o[j]? = some (n : Int)) → spec_InversePermutation.l0 k s o (i : Int) = some (idxs s) := by
  have hlen : s.length = 8 := by rw [h.length_eq]; rfl
  have hd : s.Nodup := h.nodup_iff.2 (by decide)
  intro d
  induction d with
  | zero =>
    intro k i o hi hk ho hj
    obtain ⟨k, rfl⟩ : ∃ m, k = m + 1 := ⟨k - 1, by omega⟩
    simp only [spec_InversePermutation.l0]
    rw [if_neg (by omega)]
    congr 1
    apply List.ext_getElem?
    intro j
    by_cases h8 : j < 8
    · rw [idxs_get s j h8]
      have hm : (j : Int) ∈ s := h.mem_iff.2 ((mem_lanes _).2 (by omega))
      obtain ⟨n, hn⟩ := List.mem_iff_getElem?.1 hm
      have hn8 : n < 8 := by
        have := (List.getElem?_eq_some_iff.1 hn).1
        omega
      rw [idxFrom_at s n _ 0 hd hn, hj n j (by omega) hn]
      simp
    · rw [List.getElem?_eq_none (by omega), List.getElem?_eq_none (by rw [idxs_len]; omega)]
  | succ d ih =>
    intro k i o hi hk ho hj
    obtain ⟨k, rfl⟩ : ∃ m, k = m + 1 := ⟨k - 1, by omega⟩
    have hr := (mem_lanes _).1 (h.mem_iff.1 (rd_mem' s i (by omega)))
    have hg := rd_nat s i (by omega)
    simp only [spec_InversePermutation.l0]
    rw [if_pos (by omega), if_pos (by omega), if_pos (by omega), if_pos (by omega), if_pos (by omega), w64s i (by omega)]
    refine ih k (i + 1) _ (by omega) (by omega) (by simp [ho]) ?_
    intro n j hn hs
    by_cases e : n = i
    · subst e
      rw [hg] at hs
      have hs' := Option.some.inj hs
      rw [hs', Int.toNat_natCast, List.getElem?_set_self (by omega)]
    · have hne : (rd s (i : Int)).toNat ≠ j := by
        intro e2
        have e3 : rd s (i : Int) = (j : Int) := by omega
        rw [e3] at hg
        exact e ((List.getElem?_inj (List.getElem?_eq_some_iff.1 hs).1 hd).1 (by rw [hs, hg]))
      rw [List.getElem?_set_ne hne]
      exact hj n j (by omega) hs
theorem spec_Inverse_is (s : List Int) (h : s.Perm lanes8') (k : Nat) (hk : 10 ≤ k) : spec_InversePermutation.f k s = some (idxs s) := by
  have hlen : s.length = 8 := by rw [h.length_eq]; rfl
  unfold spec_InversePermutation.f
  rw [spec_IsPermutation_is s (by omega) k (by omega), (permB_iff s).2 h]
  simp only [Option.bind_some, if_true]
  rw [if_pos (by omega)]
  exact spec_Inverse_go s h 8 k 0 _ (by omega) (by omega) rfl (fun n j hn => by omega)
def subs (b : Int) (l : List Int) : List Int := l.map fun a => subW a b
def tickO (b : Int) (l : List Int) : List Int × Bool := if (isWordB b && valsB l && permB (subs b l)) = true then (idxs (subs b l), true) else ([], false)
theorem spec_Order_go (b : Int) (l : List Int) (hl : l.length = 8) : ∀ (d k i : Nat) (x : List Int), i + d = 8 → d + 20 < k → x = (subs b l).take i → spec_OrderOfTickets.l0 k b l x (i : Int) = some (if permB (subs b l) = true then (idxs (subs b l), true) else ([], false)) := by
  have hs8 : (subs b l).length = 8 := by simp [subs, hl]
  intro d
  induction d with
  | zero =>
    intro k i x hi hk hx
    obtain ⟨k, rfl⟩ : ∃ m, k = m + 1 := ⟨k - 1, by omega⟩
    have hx' : x = subs b l := by rw [hx, List.take_of_length_le (by omega)]
    subst hx'
    simp only [spec_OrderOfTickets.l0]
    rw [if_neg (by omega), spec_IsPermutation_is _ (by omega) k (by omega)]
    cases hp : permB (subs b l) with
    | false => simp
    | true => simp [spec_Inverse_is _ ((permB_iff _).1 hp) k (by omega)]
  | succ d ih =>
    intro k i x hi hk hx
    obtain ⟨k, rfl⟩ : ∃ m, k = m + 1 := ⟨k - 1, by omega⟩
    have hxl : x.length = i := by rw [hx, List.length_take]; omega
    have hg := rd_nat l i (by omega)
    simp only [spec_OrderOfTickets.l0]
    rw [if_pos (by omega), if_pos (by omega), if_pos (by omega), spec_SubWords_is]
    simp only [Option.bind_some]
    rw [if_pos (by omega), w64s i (by omega)]
    refine ih k (i + 1) _ (by omega) (by omega) ?_
    rw [List.take_add_one, ← hx]
    simp [subs, hg]
theorem idx_map (b j : Int) (hb : isWordB b = true) (h0 : 0 ≤ j) (h1 : j < 8) : ∀ (l : List Int) (i : Int), (∀ a ∈ l, isWordB a = true) → idxFrom (addW b j) l i = idxFrom j (subs b l) i := by
  intro l
  induction l with
  | nil => intro i _; rfl
  | cons a t ih =>
    intro i h
    have ha := h a (by simp)
    have hj : isWordB j = true := by unfold isWordB; simp; omega
    have e : (addW b j = a) ↔ (j = subW a b) := by
      unfold addW subW
      rw [if_pos (by rw [hb, hj]; rfl), if_pos (by rw [hb, ha]; rfl)]
      unfold isWordB at ha hb
      simp only [Bool.and_eq_true, decide_eq_true_eq] at ha hb
      omega
    simp only [subs, List.map_cons, idxFrom]
    rw [ih (i + 1) (fun b hb => h b (by simp [hb]))]
    by_cases c : addW b j = a
    · rw [if_pos c, if_pos (e.1 c)]
    · rw [if_neg c, if_neg (fun h => c (e.2 h))]
      rfl
theorem impl_Order_go (b : Int) (l : List Int) (hl : l.length = 8) (hb : isWordB b = true) (hw : ∀ a ∈ l, isWordB a = true) : ∀ (d k i : Nat) (x : List Int), i + d = 8 → d + 20 < k → x = (idxs (subs b l)).take i → impl_OrderOfTickets.l0 k b l x (i : Int) = some (if permB (idxs (subs b l)) = true then (idxs (subs b l), true) else ([], false)) := by
  have hs8 : (idxs (subs b l)).length = 8 := idxs_len _
  intro d
  induction d with
  | zero =>
    intro k i x hi hk hx
    obtain ⟨k, rfl⟩ : ∃ m, k = m + 1 := ⟨k - 1, by omega⟩
    have hx' : x = idxs (subs b l) := by rw [hx, List.take_of_length_le (by omega)]
    subst hx'
    simp only [impl_OrderOfTickets.l0]
    rw [if_neg (by omega), impl_IsPermutation_is _ (by omega) k (by omega)]
    cases hp : permB (idxs (subs b l)) <;> simp
  | succ d ih =>
    intro k i x hi hk hx
    obtain ⟨k, rfl⟩ : ∃ m, k = m + 1 := ⟨k - 1, by omega⟩
    have hxl : x.length = i := by rw [hx, List.length_take]; omega
    simp only [impl_OrderOfTickets.l0]
    rw [if_pos (by omega), impl_AddWords_is]
    simp only [Option.bind_some]
    rw [slices_Index_is l _ (by omega) k (by omega), idx_map b i hb (by omega) (by omega) l 0 hw]
    simp only [Option.bind_some]
    rw [if_pos (by omega), w64s i (by omega)]
    refine ih k (i + 1) _ (by omega) (by omega) ?_
    rw [List.take_add_one, ← hx, idxs_get _ i (by omega)]
    rfl
theorem spec_Order_is (b : Int) (l : List Int) (k : Nat) (hk : 40 ≤ k) : spec_OrderOfTickets.f k b l = some (tickO b l) := by
  obtain ⟨k, rfl⟩ : ∃ m, k = m + 1 := ⟨k - 1, by omega⟩
  unfold spec_OrderOfTickets.f tickO
  rw [spec_IsWord_is]
  cases hx : isWordB b with
  | false => simp [spec_OrderOfTickets.j0]
  | true =>
    simp only [Option.bind_some, if_true, spec_ValuesOk_is l (k + 1) (by omega)]
    cases hv : valsB l with
    | false => simp [spec_OrderOfTickets.j0]
    | true =>
      have h := spec_Order_go b l (valsB_len hv) 8 k 0 [] (by omega) (by omega) (by simp)
      simp only [spec_OrderOfTickets.j0, Option.bind_some, Bool.not_true, Bool.false_eq_true, if_false]
      simpa using h
theorem impl_Order_is (b : Int) (l : List Int) (k : Nat) (hk : 40 ≤ k) : impl_OrderOfTickets.f k b l = some (tickO b l) := by
  obtain ⟨k, rfl⟩ : ∃ m, k = m + 1 := ⟨k - 1, by omega⟩
  unfold impl_OrderOfTickets.f tickO
  rw [impl_IsWord.is]
  cases hx : isWordB b with
  | false => simp [impl_OrderOfTickets.j0]
  | true =>
    simp only [Option.bind_some, if_true, impl_ValuesOk_is]
    cases hv : valsB l with
    | false => simp [impl_OrderOfTickets.j0]
    | true =>
      have hlen := valsB_len hv
      have hw : ∀ a ∈ l, isWordB a = true := by
        unfold valsB at hv
        simp only [Bool.and_eq_true, List.all_eq_true] at hv
        exact hv.2
      have h := impl_Order_go b l hlen hx hw 8 k 0 [] (by omega) (by omega) (by simp)
      have e : permB (idxs (subs b l)) = permB (subs b l) := by
        cases hp : permB (subs b l) with
        | true => exact (permB_iff _).2 (idxs_perm _ ((permB_iff _).1 hp))
        | false => exact idxs_not _ (by simp [subs, hlen]) (fun h => by rw [(permB_iff _).2 h] at hp; cases hp)
      rw [e] at h
      simp only [impl_OrderOfTickets.j0, Option.bind_some, Bool.not_true, Bool.false_eq_true, if_false]
      simpa using h
theorem tickO_len (b : Int) (l : List Int) : (tickO b l).1.length ≤ 8 := by
  unfold tickO
  split
  · rw [idxs_len]; omega
  · simp

end Go.Proofs.Ytiolnbkaohioiaa.Pure
