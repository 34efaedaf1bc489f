/- The order that tickets tell. -/
import Derived.Test.YteehgmbbmlfggaaGxLib
import Derived.Test.YteehgmbbmlfggaaGxImpl02
import Derived.Test.YteehgmbbmlfggaaGxImpl28
import Derived.Test.YteehgmbbmlfggaaPureMark
import Derived.Test.YteehgmbbmlfggaaPureMasks
import Derived.Test.YteehgmbbmlfggaaPureWords
import Derived.Test.YteehgmbbmlfggaaPurePermOf
namespace Go.Proofs.Yteehgmbbmlfggaa.Pure
open Go.RowKit Go.Proofs.Yteehgmbbmlfggaa.P Go.Proofs.YteehgmbbmlfggaaW.PrintWords Go.Proofs.YteehgmbbmlfggaaW.PrintLast Go.Proofs.YteehgmbbmlfggaaW.PrintMore

def subW (a b : Int) : Int := if (isWordB a && isWordB b) = true then (a - b) % 65536 else 0
theorem subW_word (a b : Int) : isWordB (subW a b) = true := by
  unfold subW isWordB
  simp only [Bool.and_eq_true, decide_eq_true_eq]
  split <;> omega
/-- The first place of a number in a list, counted from i. -/
def idxFrom (j : Int) : List Int → Int → Int
  | [], _ => -1
  | a :: t, i => if j = a then i else idxFrom j t (i + 1)
theorem slices_Index_go (l : List Int) (j : Int) (hl : l.length ≤ 1048576) : ∀ (d k i : Nat), i + d = l.length → d < k → slices_Index_int_int.l0 k l j (l.length : Int) (i : Int) = some (idxFrom j (l.drop i) (i : Int)) := by
  intro d
  induction d with
  | zero =>
    intro k i hi hk
    obtain ⟨k, rfl⟩ : ∃ m, k = m + 1 := ⟨k - 1, by omega⟩
    simp only [slices_Index_int_int.l0]
    rw [if_neg (by omega), List.drop_eq_nil_of_le (by omega)]
    rfl
  | succ d ih =>
    intro k i hi hk
    obtain ⟨k, rfl⟩ : ∃ m, k = m + 1 := ⟨k - 1, by omega⟩
    simp only [slices_Index_int_int.l0]
    rw [if_pos (by omega), if_pos (by omega), if_pos (by omega), drop_cons_rd l i (by omega)]
    simp only [idxFrom]
    by_cases h : j = rd l (i : Int)
    · rw [if_pos h, if_pos h]
    · rw [if_neg h, if_neg h, w64s i (by omega), ih k (i + 1) (by omega) (by omega)]
      simp
theorem slices_Index_is (l : List Int) (j : Int) (hl : l.length ≤ 1048576) (k : Nat) (hk : l.length < k) : slices_Index_int_int.f k l j = some (idxFrom j l 0) := by
  unfold slices_Index_int_int.f
  simpa using slices_Index_go l j hl l.length k 0 (by omega) hk
theorem idxFrom_none (j : Int) : ∀ (l : List Int) (i : Int), j ∉ l → idxFrom j l i = -1 := by
  intro l
  induction l with
  | nil => intro i _; rfl
  | cons a t ih =>
    intro i h
    simp only [List.mem_cons, not_or] at h
    simp only [idxFrom]
    rw [if_neg h.1, ih _ h.2]
/-- In a list without a number told twice, the first place of what lies at n is n. -/
theorem idxFrom_at : ∀ (l : List Int) (n : Nat) (a i : Int), l.Nodup → l[n]? = some a → idxFrom a l i = i + (n : Int) := by
  intro l
  induction l with
  | nil => intro n a i _ h; simp at h
  | cons b t ih =>
    intro n a i hd h
    rw [List.nodup_cons] at hd
    simp only [idxFrom]
    cases n with
    | zero =>
      simp only [List.getElem?_cons_zero, Option.some.injEq] at h
      rw [if_pos h.symm]
      simp
    | succ n =>
      simp only [List.getElem?_cons_succ] at h
      have hm : a ∈ t := List.mem_of_getElem? h
      have hne : a ≠ b := fun e => hd.1 (e ▸ hm)
      rw [if_neg hne, ih n a (i + 1) hd.2 h]
      omega
def idxs (s : List Int) : List Int := lanes8'.map fun j => idxFrom j s 0
theorem idxs_len (s : List Int) : (idxs s).length = 8 := by simp [idxs, lanes8']
theorem lanes_get (j : Nat) (hj : j < 8) : lanes8'[j]? = some (j : Int) := by
  have : ∀ j : Fin 8, lanes8'[(j : Nat)]? = some ((j : Nat) : Int) := by decide
  exact this ⟨j, hj⟩
theorem idxs_get (s : List Int) (j : Nat) (hj : j < 8) : (idxs s)[j]? = some (idxFrom (j : Int) s 0) := by
  unfold idxs
  rw [List.getElem?_map, lanes_get j hj]
  rfl
theorem idxs_perm (s : List Int) (h : s.Perm lanes8') : (idxs s).Perm lanes8' := by
  have hlen : s.length = 8 := by rw [h.length_eq]; rfl
  have hd : s.Nodup := h.nodup_iff.2 (by decide)
  refine perm_of_all lanes8' (idxs s) (by decide) (fun a ha => ?_) (by rw [idxs_len]; rfl)
  rw [mem_lanes] at ha
  have hr := rd_nat s a.toNat (by omega)
  have hm : rd s ((a.toNat : Nat) : Int) ∈ lanes8' := h.mem_iff.1 (rd_mem' s a.toNat (by omega))
  have hx := idxFrom_at s a.toNat _ 0 hd hr
  unfold idxs
  rw [List.mem_map]
  exact ⟨_, hm, by rw [hx]; omega⟩
theorem idxs_not (s : List Int) (hl : s.length = 8) (h : ¬ s.Perm lanes8') : permB (idxs s) = false := by
  cases hp : permB (idxs s) with
  | false => rfl
  | true =>
    exfalso
    apply h
    refine perm_of_all lanes8' s (by decide) (fun a ha => ?_) (by rw [hl]; rfl)
    by_cases hm : a ∈ s
    · exact hm
    · exfalso
      have := permB_lane hp (idxFrom a s 0) (by unfold idxs; exact List.mem_map.2 ⟨a, ha, rfl⟩)
      rw [idxFrom_none a s 0 hm] at this
      omega
def subs (b : Int) (l : List Int) : List Int := l.map fun a => subW a b
def tickO (b : Int) (l : List Int) : List Int × Bool := if (isWordB b && valsB l && permB (subs b l)) = true then (idxs (subs b l), true) else ([], false)
theorem idx_map (b j : Int) (hb : isWordB b = true) (h0 : 0 ≤ j) (h1 : j < 8) : ∀ (l : List Int) (i : Int), (∀ a ∈ l, isWordB a = true) → idxFrom (addW b j) l i = idxFrom j (subs b l) i := by
  intro l
  induction l with
  | nil => intro i _; rfl
  | cons a t ih =>
    intro i h
    have ha := h a (by simp)
    have hj : isWordB j = true := by unfold isWordB; simp; omega
    have e : (addW b j = a) ↔ (j = subW a b) := by
      unfold addW subW
      rw [if_pos (by rw [hb, hj]; rfl), if_pos (by rw [hb, ha]; rfl)]
      unfold isWordB at ha hb
      simp only [Bool.and_eq_true, decide_eq_true_eq] at ha hb
      omega
    simp only [subs, List.map_cons, idxFrom]
    rw [ih (i + 1) (fun b hb => h b (by simp [hb]))]
    by_cases c : addW b j = a
    · rw [if_pos c, if_pos (e.1 c)]
    · rw [if_neg c, if_neg (fun h => c (e.2 h))]
      rfl
theorem impl_Order_go (b : Int) (l : List Int) (hl : l.length = 8) (hb : isWordB b = true) (hw : ∀ a ∈ l, isWordB a = true) : ∀ (d k i : Nat) (x : List Int), i + d = 8 → d + 20 < k → x = (idxs (subs b l)).take i → impl_OrderOfTickets.l0 k b l x (i : Int) = some (if permB (idxs (subs b l)) = true then (idxs (subs b l), true) else ([], false)) := by
  have hs8 : (idxs (subs b l)).length = 8 := idxs_len _
  intro d
  induction d with
  | zero =>
    intro k i x hi hk hx
    obtain ⟨k, rfl⟩ : ∃ m, k = m + 1 := ⟨k - 1, by omega⟩
    have hx' : x = idxs (subs b l) := by rw [hx, List.take_of_length_le (by omega)]
    subst hx'
    simp only [impl_OrderOfTickets.l0]
    rw [if_neg (by omega), impl_IsPermutation_is _ (by omega) k (by omega)]
    cases hp : permB (idxs (subs b l)) <;> simp
  | succ d ih =>
    intro k i x hi hk hx
    obtain ⟨k, rfl⟩ : ∃ m, k = m + 1 := ⟨k - 1, by omega⟩
    have hxl : x.length = i := by rw [hx, List.length_take]; omega
    simp only [impl_OrderOfTickets.l0]
    rw [if_pos (by omega), impl_AddWords_is]
    simp only [Option.bind_some]
    rw [slices_Index_is l _ (by omega) k (by omega), idx_map b i hb (by omega) (by omega) l 0 hw]
    simp only [Option.bind_some]
    rw [if_pos (by omega), w64s i (by omega)]
    refine ih k (i + 1) _ (by omega) (by omega) ?_
    rw [List.take_add_one, ← hx, idxs_get _ i (by omega)]
    rfl
theorem impl_Order_is (b : Int) (l : List Int) (k : Nat) (hk : 40 ≤ k) : impl_OrderOfTickets.f k b l = some (tickO b l) := by
  obtain ⟨k, rfl⟩ : ∃ m, k = m + 1 := ⟨k - 1, by omega⟩
  unfold impl_OrderOfTickets.f tickO
  rw [impl_IsWord.is]
  cases hx : isWordB b with
  | false => simp [impl_OrderOfTickets.j0]
  | true =>
    simp only [Option.bind_some, if_true, impl_ValuesOk_is]
    cases hv : valsB l with
    | false => simp [impl_OrderOfTickets.j0]
    | true =>
      have hlen := valsB_len hv
      have hw : ∀ a ∈ l, isWordB a = true := by
        unfold valsB at hv
        simp only [Bool.and_eq_true, List.all_eq_true] at hv
        exact hv.2
      have h := impl_Order_go b l hlen hx hw 8 k 0 [] (by omega) (by omega) (by simp)
      have e : permB (idxs (subs b l)) = permB (subs b l) := by
        cases hp : permB (subs b l) with
        | true => exact (permB_iff _).2 (idxs_perm _ ((permB_iff _).1 hp))
        | false => exact idxs_not _ (by simp [subs, hlen]) (fun h => by rw [(permB_iff _).2 h] at hp; cases hp)
      rw [e] at h
      simp only [impl_OrderOfTickets.j0, Option.bind_some, Bool.not_true, Bool.false_eq_true, if_false]
      simpa using h
theorem tickO_len (b : Int) (l : List Int) : (tickO b l).1.length ≤ 8 := by
  unfold tickO
  split
  · rw [idxs_len]; omega
  · simp

end Go.Proofs.Yteehgmbbmlfggaa.Pure
