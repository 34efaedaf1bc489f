/- Shuffles: the program's and the reference's, told by plain lists of eight. -/
import Derived.Test.YtiolnbkaohioiaaGxImpl20
import Derived.Test.YtiolnbkaohioiaaGxSpec20
import Derived.Test.YtiolnbkaohioiaaPureWords
namespace Go.Proofs.Ytiolnbkaohioiaa.Pure
open Go.RowKit Go.Proofs.Ytiolnbkaohioiaa.P Go.Proofs.YtiolnbkaohioiaaW.PrintWords Go.Proofs.YtiolnbkaohioiaaW.PrintLast Go.Proofs.YtiolnbkaohioiaaW.PrintMore

/-- Eight numbers, one for each lane. -/
def map8 (f : Int → Int) : List Int := (List.range' 0 8).map fun (j : Nat) => f (j : Int)
theorem map8_len (f : Int → Int) : (map8 f).length = 8 := by simp [map8]
theorem rd_map8 (f : Int → Int) (j : Nat) (h : j < 8) : rd (map8 f) (j : Int) = f (j : Int) := by
  have h1 := rd_nat (map8 f) j (by rw [map8_len]; exact h)
  simp [map8, h] at h1
  exact h1.symm
theorem lanes8_map8 (f : Int → Int) : lanes8 f = map8 f := rfl
theorem map8_vals (f : Int → Int) (h : ∀ i : Int, 0 ≤ i → i < 8 → isWordB (f i) = true) : valsB (map8 f) = true := by
  unfold valsB
  rw [map8_len]
  simp only [decide_true, Bool.true_and, List.all_eq_true]
  intro x hx
  unfold map8 at hx
  simp only [List.mem_map] at hx
  obtain ⟨j, hj, rfl⟩ := hx
  have := List.mem_range'_1.mp hj
  exact h _ (by omega) (by omega)
theorem map8_congr {f g : Int → Int} (h : ∀ i : Int, 0 ≤ i → i < 8 → f i = g i) : map8 f = map8 g := by
  unfold map8
  apply List.map_congr_left
  intro j hj
  have := List.mem_range'_1.mp hj
  exact h _ (by omega) (by omega)
theorem eq_map8 (l : List Int) (h : l.length = 8) : l = map8 (rd l) := by
  apply List.ext_getElem?
  intro j
  by_cases hj : j < 8
  · rw [rd_nat l j (by omega), rd_nat (map8 (rd l)) j (by rw [map8_len]; exact hj), rd_map8 _ j hj]
  · rw [List.getElem?_eq_none (by omega), List.getElem?_eq_none (by rw [map8_len]; omega)]
theorem take_succ_rd (x : List Int) (i : Nat) (h : i < x.length) : x.take (i + 1) = x.take i ++ [rd x (i : Int)] := by
  rw [List.take_add_one, rd_nat x i h]
  rfl
theorem rd_set_ne (x : List Int) (i : Nat) (v : Int) (j : Nat) (h : i ≠ j) : rd (x.set ((i : Nat) : Int).toNat v) (j : Int) = rd x (j : Int) := by
  unfold rd
  rw [show ((i : Int)).toNat = i from by omega, show ((j : Int)).toNat = j from by omega, List.getD_eq_getElem?_getD, List.getD_eq_getElem?_getD, List.getElem?_set_ne h]
theorem rd_set_eq (x : List Int) (i : Nat) (v : Int) (h : i < x.length) : rd (x.set i v) (i : Int) = v := by
  have h1 := rd_nat (x.set i v) i (by simpa using h)
  rw [List.getElem?_set_self h] at h1
  exact (Option.some.inj h1).symm
theorem take_set_succ (x : List Int) (i : Nat) (v : Int) (h : i < x.length) : (x.set i v).take (i + 1) = x.take i ++ [v] := by
  rw [take_succ_rd _ i (by simpa using h), rd_set_eq x i v h, List.take_set_of_le (Nat.le_refl _)]

/-- What lane i gets. -/
def shufV (l t : List Int) (i : Int) : Int := if isLaneB (rd t i) = true then rd l (rd t i) else rd l i
theorem impl_Shuffle_go (l t : List Int) (h8 : l.length = 8) (ht : t.length = 8) : ∀ (d k i : Nat) (x : List Int), i + d = 8 → d < k → x.length = 8 → impl_Shuffle.l0 k l x t 8 (i : Int) = some (x.take i ++ (List.range' i d).map (fun (j : Nat) => shufV l t (j : Int))) := by
  intro d
  induction d with
  | zero =>
    intro k i x hi hk hx
    obtain ⟨k, rfl⟩ : ∃ m, k = m + 1 := ⟨k - 1, by omega⟩
    simp only [impl_Shuffle.l0]
    rw [if_neg (by omega), List.take_of_length_le (by omega)]
    simp
  | succ d ih =>
    intro k i x hi hk hx
    obtain ⟨k, rfl⟩ : ∃ m, k = m + 1 := ⟨k - 1, by omega⟩
    simp only [impl_Shuffle.l0]
    rw [if_pos (by omega), if_pos (by omega), if_pos (by omega), impl_isLane.is, w64s i (by omega), List.range'_succ, List.map_cons]
    simp only [Option.bind_some]
    by_cases h : isLaneB (rd t (i : Int)) = true
    · have hb := h
      unfold isLaneB at hb
      simp only [Bool.and_eq_true, decide_eq_true_eq] at hb
      rw [if_pos h, if_pos (by omega), if_pos (by omega), if_pos (by omega), ih k (i + 1) _ (by omega) (by omega) (by simpa using hx), show ((i : Int)).toNat = i from by omega, take_set_succ x i _ (by omega)]
      simp [shufV, h]
    · rw [if_neg h, if_pos (by omega), if_pos (by omega), ih k (i + 1) _ (by omega) (by omega) (by simpa using hx), show ((i : Int)).toNat = i from by omega, take_set_succ x i _ (by omega)]
      simp [shufV, h]
theorem impl_Shuffle_is (l t : List Int) (hv : valsB l = true) (ht : t.length = 8) (k : Nat) (hk : 10 ≤ k) : impl_Shuffle.f k l t = some (map8 (shufV l t)) := by
  obtain ⟨k, rfl⟩ : ∃ m, k = m + 1 := ⟨k - 1, by omega⟩
  unfold impl_Shuffle.f
  rw [impl_ValuesOk_is, hv]
  simp only [Option.bind_some, impl_Shuffle.j0, if_true, ht]
  have h := impl_Shuffle_go l t (valsB_len hv) ht 8 k 0 (List.replicate 8 0) (by omega) (by omega) (by simp)
  simpa [map8] using h
theorem impl_Shuffle_no (l t : List Int) (hv : valsB l = false) (k : Nat) (hk : 1 ≤ k) : impl_Shuffle.f k l t = some [] := by
  obtain ⟨k, rfl⟩ : ∃ m, k = m + 1 := ⟨k - 1, by omega⟩
  unfold impl_Shuffle.f
  rw [impl_ValuesOk_is, hv]
  simp [impl_Shuffle.j0]
theorem spec_Shuffle_go (l t : List Int) (hv : valsB l = true) (ht : t.length = 8) : ∀ (d k i : Nat) (x : List Int), i + d = 8 → 2 * d + 12 ≤ k → x.length = i → spec_Shuffle.l0 k l t x (i : Int) = some (x ++ (List.range' i d).map (fun (j : Nat) => shufV l t (j : Int))) := by
  have h8 := valsB_len hv
  intro d
  induction d with
  | zero =>
    intro k i x hi hk hx
    obtain ⟨k, rfl⟩ : ∃ m, k = m + 2 := ⟨k - 2, by omega⟩
    simp only [spec_Shuffle.l0]
    rw [if_neg (by omega)]
    simp [spec_Shuffle.j1]
  | succ d ih =>
    intro k i x hi hk hx
    obtain ⟨k, rfl⟩ : ∃ m, k = m + 2 := ⟨k - 2, by omega⟩
    simp only [spec_Shuffle.l0]
    rw [if_pos (by omega), spec_ValuesOk_is l (k + 1) (by omega), hv]
    simp only [Option.bind_some, if_true, ht]
    rw [show (((8 : Nat) : Int) == 8) = true from rfl]
    simp only [spec_Shuffle.j1, if_true]
    rw [if_pos (by omega), if_pos (by omega), l01In_lane7, w64s i (by omega), List.range'_succ, List.map_cons]
    simp only [Option.bind_some]
    by_cases h : isLaneB (rd t (i : Int)) = true
    · have hb := h
      unfold isLaneB at hb
      simp only [Bool.and_eq_true, decide_eq_true_eq] at hb
      rw [if_pos h, if_pos (by omega), if_pos (by omega), if_pos (by omega), ih k (i + 1) _ (by omega) (by omega) (by simp [hx])]
      simp [shufV, h]
    · rw [if_neg h, if_pos (by omega), if_pos (by omega), ih k (i + 1) _ (by omega) (by omega) (by simp [hx])]
      simp [shufV, h]
theorem spec_Shuffle_is (l t : List Int) (hv : valsB l = true) (ht : t.length = 8) (k : Nat) (hk : 28 ≤ k) : spec_Shuffle.f k l t = some (map8 (shufV l t)) := by
  unfold spec_Shuffle.f
  have h := spec_Shuffle_go l t hv ht 8 k 0 [] (by omega) (by omega) rfl
  simpa [map8] using h
theorem spec_Shuffle_no (l t : List Int) (hv : valsB l = false) (k : Nat) (hk : 12 ≤ k) : spec_Shuffle.f k l t = some [] := by
  obtain ⟨k, rfl⟩ : ∃ m, k = m + 2 := ⟨k - 2, by omega⟩
  unfold spec_Shuffle.f
  simp only [spec_Shuffle.l0]
  rw [spec_ValuesOk_is l (k + 1) (by omega), hv]
  simp [spec_Shuffle.j1]
theorem rd_lanes8 (f : Int → Int) (i : Int) (h0 : 0 ≤ i) (h8 : i < 8) : rd (lanes8 f) i = f i := by
  obtain ⟨j, rfl⟩ := Int.eq_ofNat_of_zero_le h0
  rw [lanes8_map8, rd_map8 f j (by omega)]
theorem impl_ShuffleUp_is (l : List Int) (d : Int) (hv : valsB l = true) (h0 : 0 ≤ d) (h7 : d ≤ 7) (k : Nat) (hk : 10 ≤ k) : impl_ShuffleUp.f k l d = some (map8 fun i => if d ≤ i then rd l (i - d) else rd l i) := by
  unfold impl_ShuffleUp.f
  rw [if_pos (by unfold isLaneB; simp [h0, h7]), impl_Shuffle_is l _ hv rfl k hk]
  congr 1
  apply map8_congr
  intro i hi0 hi8
  unfold shufV
  rw [rd_lanes8 _ i hi0 hi8, w64 (by omega) (by omega)]
  by_cases h : d ≤ i
  · have : isLaneB (i - d) = true := by unfold isLaneB; simp; omega
    simp [this, h]
  · have : isLaneB (i - d) = false := by unfold isLaneB; simp; omega
    simp [this, h]
theorem xor_lane_all : ∀ i : Fin 8, ∀ d : Fin 8, isLaneB (Go.bits .xor .i64 ((i : Nat) : Int) ((d : Nat) : Int)) = true := by decide +kernel
theorem xor_lane (i d : Int) (h0 : 0 ≤ i) (h8 : i < 8) (d0 : 0 ≤ d) (d7 : d ≤ 7) : isLaneB (Go.bits .xor .i64 i d) = true := by
  have := xor_lane_all ⟨i.toNat, by omega⟩ ⟨d.toNat, by omega⟩
  simpa [Int.toNat_of_nonneg h0, Int.toNat_of_nonneg d0] using this
def shufX (l : List Int) (d : Int) : List Int := if (isLaneB d && valsB l) = true then map8 fun i => rd l (Go.bits .xor .i64 i d) else []
theorem impl_ShuffleXor_is (l : List Int) (d : Int) (k : Nat) (hk : 10 ≤ k) : impl_ShuffleXor.f k l d = some (shufX l d) := by
  unfold impl_ShuffleXor.f shufX
  cases hd : isLaneB d with
  | false => simp
  | true =>
    have hb := hd
    unfold isLaneB at hb
    simp only [Bool.and_eq_true, decide_eq_true_eq] at hb
    cases hv : valsB l with
    | false => simp [impl_Shuffle_no l _ hv k (by omega)]
    | true =>
      simp only [if_true, Bool.and_self]
      rw [impl_Shuffle_is l _ hv rfl k hk]
      congr 1
      apply map8_congr
      intro i hi0 hi8
      unfold shufV
      rw [rd_lanes8 _ i hi0 hi8]
      simp [xor_lane i d hi0 hi8 hb.1 hb.2]
theorem spec_l20From_go (l : List Int) (dd : Int) : ∀ (d k i : Nat) (x : List Int), i + d = 8 → d < k → x.length = i → ∃ k', k = k' + d + 1 ∧ spec_l20From.l0 k l dd 0 x (i : Int) = (spec_Shuffle.f k' l (x ++ (List.range' i d).map (fun (j : Nat) => Go.bits .xor .i64 (j : Int) dd))).bind fun t => some t := by
  intro d
  induction d with
  | zero =>
    intro k i x hi hk hx
    obtain ⟨k, rfl⟩ : ∃ m, k = m + 1 := ⟨k - 1, by omega⟩
    refine ⟨k, rfl, ?_⟩
    simp only [spec_l20From.l0]
    rw [if_neg (by omega)]
    simp
  | succ d ih =>
    intro k i x hi hk hx
    obtain ⟨k, rfl⟩ : ∃ m, k = m + 1 := ⟨k - 1, by omega⟩
    obtain ⟨k', hk', he⟩ := ih k (i + 1) (x ++ [Go.bits .xor .i64 (i : Int) dd]) (by omega) (by omega) (by simp [hx])
    refine ⟨k', by omega, ?_⟩
    simp only [spec_l20From.l0, if_true]
    rw [if_pos (by omega), if_pos (by omega), w64s i (by omega), he]
    simp [List.range'_succ]
theorem spec_ShuffleXor_is (l : List Int) (d : Int) (k : Nat) (hk : 38 ≤ k) : spec_ShuffleXor.f k l d = some (shufX l d) := by
  unfold spec_ShuffleXor.f spec_l20From.f shufX
  rw [l01In_lane7]
  simp only [Option.bind_some]
  cases hd : isLaneB d with
  | false => simp
  | true =>
    have hb := hd
    unfold isLaneB at hb
    simp only [Bool.and_eq_true, decide_eq_true_eq] at hb
    obtain ⟨k', hk', he⟩ := spec_l20From_go l d 8 k 0 [] (by omega) (by omega) rfl
    simp only [if_true]
    rw [show ((0 : Nat) : Int) = 0 from rfl] at he
    rw [he]
    cases hv : valsB l with
    | false => simp [spec_Shuffle_no l _ hv k' (by omega)]
    | true =>
      rw [spec_Shuffle_is l _ hv (by simp) k' (by omega)]
      simp only [Option.bind_some, Bool.and_self, if_true]
      congr 1
      apply map8_congr
      intro i hi0 hi8
      obtain ⟨j, rfl⟩ := Int.eq_ofNat_of_zero_le hi0
      unfold shufV
      rw [List.nil_append, show (List.map (fun (j : Nat) => Go.bits BinOp.xor IntKind.i64 (j : Int) d) (List.range' 0 8)) = map8 (fun i => Go.bits .xor .i64 i d) from rfl, rd_map8 _ j (by omega)]
      simp [xor_lane (j : Int) d hi0 hi8 hb.1 hb.2]

end Go.Proofs.Ytiolnbkaohioiaa.Pure
