/- Rounds of a reduction: the program's and the reference's, told by plain lists of eight. -/
import Derived.Test.YtiolnbkaohioiaaPureCombine
import Derived.Test.YtiolnbkaohioiaaPureShuffle
namespace Go.Proofs.Ytiolnbkaohioiaa.Pure
open Go.RowKit Go.Proofs.Ytiolnbkaohioiaa.P Go.Proofs.YtiolnbkaohioiaaW.PrintWords Go.Proofs.YtiolnbkaohioiaaW.PrintLast Go.Proofs.YtiolnbkaohioiaaW.PrintMore

def redV (op : Int) (l : List Int) (d : Int) (i : Int) : Int := comb op (rd l i) (rd l (Go.bits .xor .i64 i d))
def redR (op : Int) (l : List Int) (d : Int) : List Int := if (isLaneB d && valsB l && isOpB op) = true then map8 (redV op l d) else []
theorem redR_len (op : Int) (l : List Int) (d : Int) : (redR op l d).length ≤ 8 := by
  unfold redR
  split
  · rw [map8_len]; omega
  · simp
theorem impl_ReduceRound_go (op : Int) (l : List Int) (dd : Int) (h8 : l.length = 8) : ∀ (d k i : Nat) (x : List Int), i + d = 8 → d < k → x.length = 8 → (∀ j : Nat, i ≤ j → j < 8 → rd x (j : Int) = rd l (Go.bits .xor .i64 (j : Int) dd)) → impl_ReduceRound.l0 k op l x 8 (i : Int) = some (x.take i ++ (List.range' i d).map (fun (j : Nat) => redV op l dd (j : Int))) := by
  intro d
  induction d with
  | zero =>
    intro k i x hi hk hx hj
    obtain ⟨k, rfl⟩ : ∃ m, k = m + 1 := ⟨k - 1, by omega⟩
    simp only [impl_ReduceRound.l0]
    rw [if_neg (by omega), List.take_of_length_le (by omega)]
    simp
  | succ d ih =>
    intro k i x hi hk hx hj
    obtain ⟨k, rfl⟩ : ∃ m, k = m + 1 := ⟨k - 1, by omega⟩
    have hi1 := hj i (Nat.le_refl _) (by omega)
    simp only [impl_ReduceRound.l0]
    rw [if_pos (by omega), if_pos (by omega), if_pos (by omega), if_pos (by omega), impl_combine_is, w64s i (by omega), List.range'_succ, List.map_cons, hi1]
    simp only [Option.bind_some]
    rw [ih k (i + 1) _ (by omega) (by omega) (by simpa using hx) (fun j h2 h3 => by rw [rd_set_ne _ _ _ _ (by omega)]; exact hj j (by omega) h3)]
    rw [show ((i : Int)).toNat = i from by omega, take_set_succ x i _ (by omega)]
    simp [redV]
theorem impl_ReduceRound_is (op : Int) (l : List Int) (d : Int) (k : Nat) (hk : 14 ≤ k) : impl_ReduceRound.f k op l d = some (redR op l d) := by
  unfold impl_ReduceRound.f redR
  rw [impl_ShuffleXor_is l d k (by omega), impl_isReduction_is]
  simp only [Option.bind_some]
  cases ho : isOpB op with
  | false => simp
  | true =>
    unfold shufX
    cases hd : isLaneB d with
    | false =>
      obtain ⟨k, rfl⟩ : ∃ m, k = m + 1 := ⟨k - 1, by omega⟩
      simp [impl_ReduceRound.l0]
    | true =>
      cases hv : valsB l with
      | false =>
        obtain ⟨k, rfl⟩ : ∃ m, k = m + 1 := ⟨k - 1, by omega⟩
        simp [impl_ReduceRound.l0]
      | true =>
        simp only [Bool.and_self, if_true, map8_len]
        have h := impl_ReduceRound_go op l d (valsB_len hv) 8 k 0 (map8 fun i => rd l (Go.bits .xor .i64 i d)) (by omega) (by omega) (map8_len _) (fun j _ hj => rd_map8 _ j hj)
        simpa [map8] using h
theorem spec_ReduceRound_go (op : Int) (l : List Int) (dd : Int) (d0 : 0 ≤ dd) (d7 : dd ≤ 7) (hv : valsB l = true) (ho : isOpB op = true) : ∀ (d k i : Nat) (x : List Int), i + d = 8 → d + 1 < k → x.length = i → spec_ReduceRound.l0 k op l x (map8 fun i => rd l (Go.bits .xor .i64 i dd)) (i : Int) = some (x ++ (List.range' i d).map (fun (j : Nat) => redV op l dd (j : Int))) := by
  have h8 := valsB_len hv
  intro d
  induction d with
  | zero =>
    intro k i x hi hk hx
    obtain ⟨k, rfl⟩ : ∃ m, k = m + 1 := ⟨k - 1, by omega⟩
    simp only [spec_ReduceRound.l0, map8_len]
    rw [if_neg (by omega)]
    simp
  | succ d ih =>
    intro k i x hi hk hx
    obtain ⟨k, rfl⟩ : ∃ m, k = m + 1 := ⟨k - 1, by omega⟩
    have hx1 := xor_lane (i : Int) dd (by omega) (by omega) d0 d7
    unfold isLaneB at hx1
    simp only [Bool.and_eq_true, decide_eq_true_eq] at hx1
    simp only [spec_ReduceRound.l0, map8_len]
    rw [if_pos (by omega), spec_l21Op_is, ho]
    simp only [Option.bind_some, if_true]
    rw [if_pos (by omega), if_pos (by omega), rd_map8 _ i (by omega), spec_Combine_is _ _ _ k (by omega), combB_comb (valsB_word hv _ (by omega) (by omega)) (valsB_word hv _ hx1.1 (by omega)) ho, w64s i (by omega), List.range'_succ, List.map_cons]
    simp only [Option.bind_some]
    rw [if_pos (by omega), ih k (i + 1) _ (by omega) (by omega) (by simp [hx])]
    simp [redV]
theorem spec_ReduceRound_is (op : Int) (l : List Int) (d : Int) (k : Nat) (hk : 38 ≤ k) : spec_ReduceRound.f k op l d = some (redR op l d) := by
  unfold spec_ReduceRound.f redR
  rw [spec_ShuffleXor_is l d k (by omega)]
  simp only [Option.bind_some]
  unfold shufX
  cases hd : isLaneB d with
  | false =>
    obtain ⟨k, rfl⟩ : ∃ m, k = m + 1 := ⟨k - 1, by omega⟩
    simp [spec_ReduceRound.l0]
  | true =>
    have hb := hd
    unfold isLaneB at hb
    simp only [Bool.and_eq_true, decide_eq_true_eq] at hb
    cases hv : valsB l with
    | false =>
      obtain ⟨k, rfl⟩ : ∃ m, k = m + 1 := ⟨k - 1, by omega⟩
      simp [spec_ReduceRound.l0]
    | true =>
      cases ho : isOpB op with
      | false =>
        obtain ⟨k, rfl⟩ : ∃ m, k = m + 1 := ⟨k - 1, by omega⟩
        simp [spec_ReduceRound.l0, spec_l21Op_is, ho, map8_len]
      | true =>
        have h := spec_ReduceRound_go op l d hb.1 hb.2 hv ho 8 k 0 [] (by omega) (by omega) rfl
        simpa [map8] using h
def redA (op : Int) (l : List Int) : List Int := redR op (redR op (redR op l 4) 2) 1
theorem redA_len (op : Int) (l : List Int) : (redA op l).length ≤ 8 := redR_len _ _ _
theorem spec_ReduceAll_is (op : Int) (l : List Int) (k : Nat) (hk : 38 ≤ k) : spec_ReduceAll.f k op l = some (redA op l) := by
  unfold spec_ReduceAll.f redA
  rw [spec_ReduceRound_is op l 4 k (by omega)]
  simp only [Option.bind_some]
  rw [spec_ReduceRound_is op _ 2 k (by omega)]
  simp only [Option.bind_some]
  rw [spec_ReduceRound_is op _ 1 k (by omega)]
  rfl
theorem impl_ReduceAll_is (op : Int) (l : List Int) (k : Nat) (hk : 14 ≤ k) : impl_ReduceAll.f k op l = some (redA op l) := by
  unfold impl_ReduceAll.f redA
  rw [impl_ReduceRound_is op l 4 k (by omega)]
  simp only [Option.bind_some]
  rw [impl_ReduceRound_is op _ 2 k (by omega)]
  simp only [Option.bind_some]
  rw [impl_ReduceRound_is op _ 1 k (by omega)]

end Go.Proofs.Ytiolnbkaohioiaa.Pure
