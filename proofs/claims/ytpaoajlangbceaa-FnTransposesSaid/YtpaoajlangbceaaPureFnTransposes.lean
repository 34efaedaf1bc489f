/- Transposing twice changes nothing, for every setting. -/
import Derived.Test.YtpaoajlangbceaaGxPFnTransposes
import Derived.Test.YtpaoajlangbceaaPureWords
import Derived.Test.YtpaoajlangbceaaPureDrawVal
import Derived.Test.YtpaoajlangbceaaPureDrawPlace
namespace Go.Proofs.Ytpaoajlangbceaa.Pure
open Go.RowKit Go.Proofs.Ytpaoajlangbceaa.P Go.Proofs.YtpaoajlangbceaaW.PrintWords Go.Proofs.YtpaoajlangbceaaW.PrintLast

theorem sameInts_go (l : List Int) (hl : l.length ≤ 1073741824) : ∀ (d k i : Nat), i + d = l.length → d < k → laws_sameInts.l0 k l l (i : Int) = some true := by
  intro d
  induction d with
  | zero =>
    intro k i hi hk
    obtain ⟨k, rfl⟩ : ∃ m, k = m + 1 := ⟨k - 1, by omega⟩
    simp only [laws_sameInts.l0]
    rw [if_neg (by omega)]
  | succ d ih =>
    intro k i hi hk
    obtain ⟨k, rfl⟩ : ∃ m, k = m + 1 := ⟨k - 1, by omega⟩
    simp only [laws_sameInts.l0]
    rw [if_pos (by omega), if_pos (by omega), if_pos (by omega), if_pos trivial, w64s i (by omega)]
    exact ih k (i + 1) (by omega) (by omega)
theorem sameInts_refl (l : List Int) (hl : l.length ≤ 1073741824) (k : Nat) (hk : l.length < k) : laws_sameInts.f k l l = some true := by
  unfold laws_sameInts.f
  rw [if_pos rfl]
  exact sameInts_go l hl l.length k 0 (by omega) hk
theorem tile_go (l : List Int) (hl : l.length ≤ 1048576) : ∀ (d k i : Nat) (x : List (List Int)) (p q : Int), i + d = 8 → d + 20 < k → x.length = i → (∀ r ∈ x, valsB r = true) → 0 ≤ p → ∃ y p' q', spec_l26Tile.l0 k x (i : Int) l p q = some (y, p', q') ∧ y.length = 8 ∧ (∀ r ∈ y, valsB r = true) := by
  intro d
  induction d with
  | zero =>
    intro k i x p q hi hk hx hv hp
    obtain ⟨k, rfl⟩ : ∃ m, k = m + 1 := ⟨k - 1, by omega⟩
    simp only [spec_l26Tile.l0]
    rw [if_neg (by omega)]
    exact ⟨x, p, q, rfl, by omega, hv⟩
  | succ d ih =>
    intro k i x p q hi hk hx hv hp
    obtain ⟨k, rfl⟩ : ∃ m, k = m + 1 := ⟨k - 1, by omega⟩
    obtain ⟨v, p', q', e2, h, hp'⟩ := values_go l hl 8 k 0 [] p q (by omega) (by omega) rfl rfl hp
    obtain ⟨y, p2, q2, e3, h8, hy⟩ := ih k (i + 1) (x ++ [v]) p' q' (by omega) (by omega) (by simp [hx]) (by
      intro r hr
      rcases List.mem_append.mp hr with h1 | h1
      · exact hv r h1
      · rw [List.mem_singleton.mp h1]; exact h) hp'
    refine ⟨y, p2, q2, ?_, h8, hy⟩
    simp only [spec_l26Tile.l0]
    rw [if_pos (by omega), show spec_l19Values.f k l p q = some (v, p', q') from e2]
    simp only [Option.bind_some]
    rw [if_pos (by omega), w64s i (by omega)]
    exact e3
theorem rd_lanes8 (fv : Int → Int) (i : Int) (h0 : 0 ≤ i) (h1 : i < 8) : rd (lanes8 fv) i = fv i := by
  have h : i = 0 ∨ i = 1 ∨ i = 2 ∨ i = 3 ∨ i = 4 ∨ i = 5 ∨ i = 6 ∨ i = 7 := by omega
  rcases h with e | e | e | e | e | e | e | e <;> subst e <;> rfl
theorem lanes8_self (l : List Int) (h : l.length = 8) : lanes8 (fun a => rd l a) = l := by
  match l, h with
  | [a, b, c, d, e, x, y, z], _ => rfl
theorem lanes8_congr (f g : Int → Int) (h : ∀ i, 0 ≤ i → i < 8 → f i = g i) : lanes8 f = lanes8 g := by
  unfold lanes8
  rw [h 0 (by decide) (by decide), h 1 (by decide) (by decide), h 2 (by decide) (by decide), h 3 (by decide) (by decide), h 4 (by decide) (by decide), h 5 (by decide) (by decide), h 6 (by decide) (by decide), h 7 (by decide) (by decide)]
theorem rd_cols (t : List (List Int)) (j : Int) (h0 : 0 ≤ j) (h1 : j < 8) : rd_L1 (colsTo t 8) j = lanes8 (fun i => rd (rd_L1 t i) j) := by
  have h : j = 0 ∨ j = 1 ∨ j = 2 ∨ j = 3 ∨ j = 4 ∨ j = 5 ∨ j = 6 ∨ j = 7 := by omega
  rcases h with e | e | e | e | e | e | e | e <;> subst e <;> rfl
theorem lanes8_vals (fv : Int → Int) (h : ∀ i, 0 ≤ i → i < 8 → isWordB (fv i) = true) : valsB (lanes8 fv) = true := by
  unfold valsB lanes8
  simp [h 0 (by decide) (by decide), h 1 (by decide) (by decide), h 2 (by decide) (by decide), h 3 (by decide) (by decide), h 4 (by decide) (by decide), h 5 (by decide) (by decide), h 6 (by decide) (by decide), h 7 (by decide) (by decide)]
theorem cols_ok (t : List (List Int)) (h8 : t.length = 8) (hv : ∀ r ∈ t, valsB r = true) : ∀ r ∈ colsTo t 8, valsB r = true := by
  intro r hr
  obtain ⟨c, hc, rfl⟩ := List.mem_map.mp hr
  have hc8 := List.mem_range.mp hc
  exact lanes8_vals _ (fun i i0 i8 => valsB_word (hv _ (rowL_mem t i i0 (by omega))) (c : Int) (by omega) (by omega))
theorem tt_is (t : List (List Int)) (h8 : t.length = 8) (hv : ∀ r ∈ t, valsB r = true) : impl_TransposeTile.f t = some (colsTo t 8, true) := by
  have hany : t.any (fun l => !(okRow l)) = false := by
    rw [List.any_eq_false]
    intro r hr
    rw [show okRow r = valsB r from rfl, hv r hr]
    decide
  unfold impl_TransposeTile.f
  rw [if_pos ⟨h8, hany⟩]
theorem rd_range {p : List Int} (h : ∀ a ∈ p, 0 ≤ a ∧ a < 10000) (i : Nat) (hi : i < p.length) : 0 ≤ Int.tmod (rd p (i : Int)) 8 ∧ Int.tmod (rd p (i : Int)) 8 < 8 := by
  have hm : rd p (i : Int) ∈ p := by
    unfold rd
    rw [Int.toNat_natCast, List.getD_eq_getElem?_getD, List.getElem?_eq_getElem hi]
    exact List.getElem_mem hi
  have h1 := h _ hm
  rw [Int.tmod_eq_emod_of_nonneg h1.1]
  omega
theorem FnTransposes : laws_FnTransposes.Pure := by
  intro l _ _ _
  obtain ⟨k0, hk0⟩ : ∃ k0 : Nat, 4100 ≤ k0 := ⟨4100, by omega⟩
  refine ⟨k0, ?_⟩
  unfold laws_FnTransposes.f
  simp only [laws_big.f, Option.bind_some, decide_eq_true_eq]
  by_cases hb : (l.length : Int) > 1048576
  · rw [if_pos hb]
  · rw [if_neg hb]
    obtain ⟨q, en⟩ := new_is l k0 hk0
    obtain ⟨t, p', q', et, h8, hv⟩ := tile_go l (by omega) 8 k0 0 [] 0 q (by omega) (by omega) rfl (fun r hr => by cases hr) (by omega)
    have eT : spec_DrawTile.f k0 l = some t := by
      unfold spec_DrawTile.f
      rw [en]
      simp only [Option.bind_some, spec_l26Tile.f]
      rw [show ((0 : Nat) : Int) = 0 from rfl] at et
      rw [et]
      rfl
    obtain ⟨p, ep, hp12, hp⟩ := DrawPlaces_is l (by omega) k0 hk0
    have hu := cols_ok t h8 hv
    have u8 := colsTo_len t 8
    have v8 := colsTo_len (colsTo t 8) 8
    rw [eT, Option.bind_some, ep, Option.bind_some, tt_is t h8 hv]
    simp only [Option.bind_some]
    rw [tt_is _ u8 hu]
    simp only [Option.bind_some]
    have hi := rd_range hp 0 (by omega)
    have hj := rd_range hp 1 (by omega)
    rw [show ((0 : Nat) : Int) = 0 from rfl] at hi
    rw [show ((1 : Nat) : Int) = 1 from rfl] at hj
    generalize Int.tmod (rd p 0) 8 = i at hi
    generalize Int.tmod (rd p 1) 8 = j at hj
    have ri8 := valsB_len (hv _ (rowL_mem t i hi.1 (by omega)))
    have e1 := rd_cols t j hj.1 hj.2
    have e2 : rd_L1 (colsTo (colsTo t 8) 8) i = rd_L1 t i := by
      rw [rd_cols _ i hi.1 hi.2, lanes8_congr _ (fun a => rd (rd_L1 t i) a) (fun a a0 a8 => by rw [rd_cols t a a0 a8, rd_lanes8 _ i hi.1 hi.2]), lanes8_self _ ri8]
    have l8 : (lanes8 (fun i => rd (rd_L1 t i) j)).length = 8 := rfl
    rw [e1, e2, rd_lanes8 _ i hi.1 hi.2, sameInts_refl _ (by omega) k0 (by omega)]
    simp only [Option.bind_some]
    rw [if_pos (by omega), if_pos (by omega), if_pos trivial, if_pos trivial, if_pos (by omega), if_pos (by omega), if_pos hj.1, if_pos (by omega), if_pos (by omega), if_pos hi.1, if_pos (by omega), if_pos (by omega), if_pos trivial, if_pos (by omega), if_pos (by omega)]
    simp

end Go.Proofs.Ytpaoajlangbceaa.Pure
