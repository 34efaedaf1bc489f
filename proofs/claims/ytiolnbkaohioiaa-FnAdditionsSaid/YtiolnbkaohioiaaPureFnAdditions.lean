/- Additions in any order of the lanes end at the same word, and additions together are additions in the lanes' order, for every setting. -/
import Derived.Test.YtiolnbkaohioiaaGxPFnAdditions
import Derived.Test.YtiolnbkaohioiaaPureOrder
import Derived.Test.YtiolnbkaohioiaaPurePermOf
import Derived.Test.YtiolnbkaohioiaaPureDraw
namespace Go.Proofs.Ytiolnbkaohioiaa.Pure
open Go.RowKit Go.Proofs.Ytiolnbkaohioiaa.P Go.Proofs.YtiolnbkaohioiaaW.PrintWords Go.Proofs.YtiolnbkaohioiaaW.PrintLast

theorem sameInts_go (l : List Int) (hl : l.length ≤ 1073741824) : ∀ (d k i : Nat), i + d = l.length → d < k → laws_sameInts.l0 k l l (i : Int) = some true := by
  intro d
  induction d with
  | zero =>
    intro k i hi hk
    obtain ⟨k, rfl⟩ : ∃ m, k = m + 1 := ⟨k - 1, by omega⟩
    simp only [laws_sameInts.l0]
    rw [if_neg (by omega)]
  | succ d ih =>
    intro k i hi hk
    obtain ⟨k, rfl⟩ : ∃ m, k = m + 1 := ⟨k - 1, by omega⟩
    simp only [laws_sameInts.l0]
    rw [if_pos (by omega), if_pos (by omega), if_pos (by omega), if_pos trivial, w64s i (by omega)]
    exact ih k (i + 1) (by omega) (by omega)
theorem sameInts_refl (l : List Int) (hl : l.length ≤ 1073741824) (k : Nat) (hk : l.length < k) : laws_sameInts.f k l l = some true := by
  unfold laws_sameInts.f
  rw [if_pos rfl]
  exact sameInts_go l hl l.length k 0 (by omega) hk
theorem addO_sum (v : List Int) (hv : valsB v = true) : ∀ (t o : List Int) (x : Int), isWordB x = true → (∀ a ∈ t, 0 ≤ a ∧ a ≤ 7) → (addO v t o x).2.1 = t.foldl (fun z a => (z + rd v a) % 65536) x ∧ (addO v t o x).2.2 = true := by
  intro t
  induction t with
  | nil => intro o x _ _; exact ⟨rfl, rfl⟩
  | cons a t ih =>
    intro o x hx ha
    have h := ha a (by simp)
    have hw := valsB_word hv a h.1 (by omega)
    have e : addW x (rd v a) = (x + rd v a) % 65536 := by
      unfold addW
      rw [hx, hw]
      rfl
    simp only [addO, List.foldl_cons]
    rw [← e]
    exact ih _ _ (addW_word _ _) (fun b hb => ha b (by simp [hb]))
theorem lanesL_255 : lanesL 255 = lanes8' := by decide +kernel
theorem perm_lanes8 : permB lanes8' = true := by decide +kernel
theorem FnAdditions : laws_FnAdditions.Pure := by
  intro l _ _ _
  obtain ⟨k0, hk0⟩ : ∃ k0 : Nat, 4100 ≤ k0 := ⟨4100, by omega⟩
  refine ⟨k0, ?_⟩
  unfold laws_FnAdditions.f
  simp only [laws_big.f, Option.bind_some, decide_eq_true_eq]
  by_cases hb : (l.length : Int) > 1048576
  · rw [if_pos hb]
  · rw [if_neg hb]
    have hl : l.length ≤ 1048576 := by omega
    obtain ⟨v, hv, hv'⟩ := DrawValues_is l hl k0 (by omega)
    obtain ⟨p, hp, hp'⟩ := DrawPermutation_is l hl k0 (by omega)
    obtain ⟨x, hx, hx'⟩ := DrawWord_is l hl k0 (by omega)
    have hp8 : p.length = 8 := by rw [hp'.length_eq]; rfl
    have hq : permB p = true := (permB_iff p).2 hp'
    have a1 := impl_AddInOrder_is x v p (by omega) k0 (by omega)
    have a2 := impl_AddInOrder_is x v lanes8' (by decide) k0 (by rw [show lanes8'.length = 8 from rfl]; omega)
    unfold addIn at a1 a2
    rw [if_pos (by rw [hx', hv', hq]; rfl)] at a1
    rw [if_pos (by rw [hx', hv', perm_lanes8]; rfl)] at a2
    have a3 : impl_AddTogether.f k0 x v = some (addO v lanes8' (List.replicate 8 0) x) := by
      unfold impl_AddTogether.f impl_ascending.f
      rw [impl_LanesOf_is 255 k0 (by omega), lanesL_255]
      simp only [Option.bind_some, a2]
    have s1 := addO_sum v hv' p (List.replicate 8 0) x hx' (fun a ha => (mem_lanes a).1 (hp'.mem_iff.1 ha))
    have s2 := addO_sum v hv' lanes8' (List.replicate 8 0) x hx' (fun a ha => (mem_lanes a).1 ha)
    have hs : (addO v p (List.replicate 8 0) x).2.1 = (addO v lanes8' (List.replicate 8 0) x).2.1 := by
      rw [s1.1, s2.1]
      exact List.Perm.foldl_eq' hp' (fun a _ b _ z => by omega) x
    have hn : ((addO v p (List.replicate 8 0) x).1.length : Int) = 8 := by rw [addO_len]; rfl
    have hm := sameInts_refl (addO v lanes8' (List.replicate 8 0) x).1 (by rw [addO_len]; decide) k0 (by rw [addO_len, List.length_replicate]; omega)
    rw [show ([0, 1, 2, 3, 4, 5, 6, 7] : List Int) = lanes8' from rfl]
    simp only [hv, hp, hx, a1, a2, a3, Option.bind_some, s1.2, s2.2, hn, hs, hm, if_true]

end Go.Proofs.Ytiolnbkaohioiaa.Pure
