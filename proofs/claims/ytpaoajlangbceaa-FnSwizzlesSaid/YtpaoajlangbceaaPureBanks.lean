/- Conflicts and rounds of banks: the program's and the reference's, told by plain numbers and lists. -/
import Derived.Test.YtpaoajlangbceaaGxSpec25
import Derived.Test.YtpaoajlangbceaaGxImpl25
import Derived.Test.YtpaoajlangbceaaPureNumber
import Derived.Test.YtpaoajlangbceaaPureAsked
namespace Go.Proofs.Ytpaoajlangbceaa.Pure
open Go.RowKit Go.Proofs.Ytpaoajlangbceaa.P Go.Proofs.YtpaoajlangbceaaW.PrintWords Go.Proofs.YtpaoajlangbceaaW.PrintLast Go.Proofs.YtpaoajlangbceaaW.PrintMore

theorem lanesL_sorted (m : Int) : (lanesL m).Pairwise (· < ·) := by
  unfold lanesL lanesFrom
  rw [List.pairwise_map]
  refine List.Pairwise.filter _ ?_
  exact (List.pairwise_lt_range' (s := 0) (n := 8)).imp (fun {a b} h => by omega)
theorem roOk_asked {l : List Int} {m : Int} (h : askedB l m = true) : roOk l (lanesL m) = true := by
  unfold roOk
  simp only [Bool.and_eq_true, decide_eq_true_eq]
  refine ⟨⟨⟨⟨by have := askedB_len h; omega, lanesL_len m⟩, lanesL_sorted m⟩, fun x hx => ⟨(lanesL_mem hx).1, (lanesL_mem hx).2.1⟩⟩, fun i _ => rd_small h _⟩
def degL (l : List Int) (m : Int) : Int := if askedB l m = true then degOf l (lanesL m) else -1
def bankL (l : List Int) (m : Int) : List Int := if askedB l m = true then roundsL l (lanesL m) (degOf l (lanesL m)).toNat else []
theorem roundsL_len (l t : List Int) (d : Nat) : (roundsL l t d).length = d := by simp [roundsL]
theorem bankL_len (l : List Int) (m : Int) : (bankL l m).length ≤ 9 := by
  unfold bankL
  split
  · rw [roundsL_len]
    have := deg_small l (lanesL m) (lanesL_len m)
    omega
  · simp
theorem impl_ConflictDegree_is (l : List Int) (m : Int) (k : Nat) (hk : 40 ≤ k) : impl_ConflictDegree.f k l m = some (degL l m) := by
  unfold impl_ConflictDegree.f degL
  rw [impl_areAsked_is]
  simp only [Option.bind_some]
  cases h : askedB l m with
  | false => rfl
  | true =>
    rw [if_pos rfl, if_pos rfl, impl_LanesOf_is m k (by omega)]
    simp only [Option.bind_some]
    rw [if_pos (roOk_asked h)]
theorem impl_BankRounds_is (l : List Int) (m : Int) (k : Nat) (hk : 40 ≤ k) : impl_BankRounds.f k l m = some (bankL l m) := by
  unfold impl_BankRounds.f
  rw [impl_ConflictDegree_is l m k hk]
  simp only [Option.bind_some]
  unfold degL bankL
  cases h : askedB l m with
  | false => rfl
  | true =>
    rw [if_pos rfl, if_pos rfl]
    by_cases c : degOf l (lanesL m) < 1
    · rw [if_pos c, show (degOf l (lanesL m)).toNat = 0 by omega]
      rfl
    · rw [if_neg c, impl_LanesOf_is m k (by omega)]
      simp only [Option.bind_some]
      rw [if_pos (roOk_asked h)]
theorem mx_max (a b : Int) : mx a b = max a b := by unfold mx; omega
theorem cd_go (l : List Int) (m : Int) (h8 : l.length = 8) : ∀ (d k i : Nat) (z : Int), i + d = 8 → d + 50 ≤ k → spec_ConflictDegree.l0 k l m z (i : Int) = some ((lanesFrom m i d).foldl (fun z x => max z ((numIn l (lanesL m) x : Int) + 1)) z) := by
  intro d
  induction d with
  | zero =>
    intro k i z hi hk
    obtain ⟨k, rfl⟩ : ∃ m, k = m + 1 := ⟨k - 1, by omega⟩
    simp only [spec_ConflictDegree.l0]
    rw [if_neg (by omega)]
    rfl
  | succ d ih =>
    intro k i z hi hk
    obtain ⟨k, rfl⟩ : ∃ m, k = m + 1 := ⟨k - 1, by omega⟩
    simp only [spec_ConflictDegree.l0]
    rw [if_pos (by omega), spec_HasLane_is, lanesFrom_succ]
    simp only [Option.bind_some]
    by_cases hb : hasB m (i : Int) = true
    · have hn := num_small l (lanesL m) (i : Int) (lanesL_len m)
      rw [if_pos hb, if_pos hb, spec_l25Number_is l m h8 i (by omega) hb k (by omega)]
      simp only [Option.bind_some]
      rw [w64 (by omega) (by omega), w64s i (by omega), mx_max, ih k (i + 1) _ (by omega) (by omega)]
      rfl
    · rw [if_neg hb, if_neg hb, w64s i (by omega), ih k (i + 1) _ (by omega) (by omega)]
      rfl
theorem spec_ConflictDegree_is (l : List Int) (m : Int) (hl : l.length ≤ 1048576) (k : Nat) (hk : l.length + 80 < k) : spec_ConflictDegree.f k l m = some (degL l m) := by
  unfold spec_ConflictDegree.f degL
  rw [spec_AddressesOk_is l hl k (by omega)]
  simp only [Option.bind_some]
  have e : askedB l m = ((decide (l.length = 8) && l.all isAddr) && isMaskB m) := rfl
  obtain ⟨k, rfl⟩ : ∃ m, k = m + 1 := ⟨k - 1, by omega⟩
  cases ha : decide (l.length = 8) && l.all isAddr with
  | false =>
    rw [e, ha]
    simp [spec_ConflictDegree.j0]
  | true =>
    rw [if_pos rfl, spec_IsMask_is]
    simp only [Option.bind_some]
    cases hm : isMaskB m with
    | false =>
      rw [e, ha, hm]
      simp [spec_ConflictDegree.j0]
    | true =>
      have h : askedB l m = true := by rw [e, ha, hm]; rfl
      rw [if_pos h]
      simp only [spec_ConflictDegree.j0, Bool.not_true, Bool.false_eq_true, if_false]
      exact cd_go l m (askedB_len h) 8 k 0 0 (by omega) (by omega)
theorem br_inner (l : List Int) (m : Int) (h8 : l.length = 8) (n : Int) (X : List Int) (hX : X.length ≤ 100) (r : Nat) : ∀ (d k i : Nat) (z : Int), i + d = 8 → d + 50 ≤ k → ∃ k', k = k' + d + 1 ∧ spec_BankRounds.l1 k l m n X (r : Int) z (i : Int) = spec_BankRounds.l0 k' l m n (X ++ [(lanesFrom m i d).foldl (fun z x => if decide (numIn l (lanesL m) x = r) = true then Go.bits .or .i64 z (shl .i64 1 x) else z) z]) (wrap64 ((r : Int) + 1)) := by
  intro d
  induction d with
  | zero =>
    intro k i z hi hk
    obtain ⟨k, rfl⟩ : ∃ m, k = m + 1 := ⟨k - 1, by omega⟩
    refine ⟨k, by omega, ?_⟩
    simp only [spec_BankRounds.l1]
    rw [if_neg (by omega), if_pos (by omega)]
    rfl
  | succ d ih =>
    intro k i z hi hk
    obtain ⟨k, rfl⟩ : ∃ m, k = m + 1 := ⟨k - 1, by omega⟩
    simp only [spec_BankRounds.l1]
    rw [if_pos (by omega), spec_HasLane_is, lanesFrom_succ]
    simp only [Option.bind_some]
    by_cases hb : hasB m (i : Int) = true
    · rw [if_pos hb, if_pos hb, spec_l25Number_is l m h8 i (by omega) hb k (by omega)]
      simp only [Option.bind_some]
      by_cases c : numIn l (lanesL m) (i : Int) = r
      · rw [if_pos (by omega), if_pos (by omega), w64s i (by omega)]
        obtain ⟨k', e1, e2⟩ := ih k (i + 1) (Go.bits .or .i64 z (shl .i64 1 (i : Int))) (by omega) (by omega)
        refine ⟨k', by omega, ?_⟩
        rw [e2, List.singleton_append, List.foldl_cons, if_pos (by rw [decide_eq_true_eq]; exact c)]
      · rw [if_neg (by omega), w64s i (by omega)]
        obtain ⟨k', e1, e2⟩ := ih k (i + 1) z (by omega) (by omega)
        refine ⟨k', by omega, ?_⟩
        rw [e2, List.singleton_append, List.foldl_cons, if_neg (by rw [decide_eq_true_eq]; exact c)]
    · rw [if_neg hb, if_neg hb, w64s i (by omega)]
      obtain ⟨k', e1, e2⟩ := ih k (i + 1) z (by omega) (by omega)
      refine ⟨k', by omega, ?_⟩
      rw [e2, List.nil_append]
theorem br_go (l : List Int) (m : Int) (h8 : l.length = 8) (n : Nat) (hn : n ≤ 9) : ∀ (d k r : Nat) (X : List Int), r + d = n → 10 * d + 60 ≤ k → X.length = r → spec_BankRounds.l0 k l m (n : Int) X (r : Int) = some (X ++ (List.range' r d).map fun r => orL (fun x => decide (numIn l (lanesL m) x = r)) (lanesL m)) := by
  intro d
  induction d with
  | zero =>
    intro k r X hr hk hX
    obtain ⟨k, rfl⟩ : ∃ m, k = m + 1 := ⟨k - 1, by omega⟩
    simp only [spec_BankRounds.l0]
    rw [if_neg (by omega)]
    simp
  | succ d ih =>
    intro k r X hr hk hX
    obtain ⟨k, rfl⟩ : ∃ m, k = m + 1 := ⟨k - 1, by omega⟩
    simp only [spec_BankRounds.l0]
    obtain ⟨k', e1, e2⟩ := br_inner l m h8 (n : Int) X (by omega) r 8 k 0 0 (by omega) (by omega)
    rw [show ((0 : Nat) : Int) = 0 from rfl] at e2
    rw [if_pos (by omega), e2, w64s r (by omega), ih k' (r + 1) _ (by omega) (by omega) (by simp [hX]), List.append_assoc]
    rfl
theorem spec_BankRounds_is (l : List Int) (m : Int) (hl : l.length ≤ 1048576) (k : Nat) (hk : l.length + 200 < k) : spec_BankRounds.f k l m = some (bankL l m) := by
  unfold spec_BankRounds.f
  rw [spec_ConflictDegree_is l m hl k (by omega)]
  simp only [Option.bind_some]
  unfold degL bankL
  cases h : askedB l m with
  | false =>
    obtain ⟨k, rfl⟩ : ∃ m, k = m + 1 := ⟨k - 1, by omega⟩
    simp [spec_BankRounds.l0]
  | true =>
    rw [if_pos rfl, if_pos rfl]
    have hs := deg_small l (lanesL m) (lanesL_len m)
    obtain ⟨n, hn⟩ := Int.eq_ofNat_of_zero_le hs.1
    rw [hn, Int.toNat_natCast]
    have h2 := br_go l m (askedB_len h) n (by omega) n k 0 [] (by omega) (by omega) rfl
    rw [show ((0 : Nat) : Int) = 0 from rfl] at h2
    rw [h2, List.nil_append]
    unfold roundsL
    rw [List.range_eq_range']

end Go.Proofs.Ytpaoajlangbceaa.Pure
