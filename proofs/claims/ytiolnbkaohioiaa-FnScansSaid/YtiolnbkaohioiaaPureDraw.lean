/- What the draws of a statement's setting answer: their ranges. -/
import Derived.Test.YtiolnbkaohioiaaGxDraws
import Derived.Test.YtiolnbkaohioiaaPureMark
import Derived.Test.YtiolnbkaohioiaaPureMasks
import Derived.Test.YtiolnbkaohioiaaPureWords
import Derived.Test.YtiolnbkaohioiaaPureCombine
namespace Go.Proofs.Ytiolnbkaohioiaa.Pure
open Go.RowKit Go.Proofs.Ytiolnbkaohioiaa.P Go.Proofs.YtiolnbkaohioiaaW.PrintWords Go.Proofs.YtiolnbkaohioiaaW.PrintLast Go.Proofs.YtiolnbkaohioiaaW.PrintMore

theorem and255 (x : Int) : 0 ≤ Go.bits .and .i64 x 255 ∧ Go.bits .and .i64 x 255 ≤ 255 := by
  have h : ((BitVec.ofInt 64 x).toNat &&& (BitVec.ofInt 64 255).toNat) ≤ 255 := Nat.le_trans Nat.and_le_right (by decide)
  have e : Go.bits .and .i64 x 255 = (((BitVec.ofInt 64 x).toNat &&& (BitVec.ofInt 64 255).toNat : Nat) : Int) := by
    simp only [Go.bits, BitVec.toNat_and]
    rw [show IntKind.i64.bits = 64 from rfl, IntKind.wrap_i64]
    omega
  rw [e]
  omega
theorem byte_is (l : List Int) (hl : l.length ≤ 1048576) (p q : Int) (hp : 0 ≤ p) : ∃ b p' q', spec_l01Byte.f l p q = some (b, p', q') ∧ 0 ≤ b ∧ b ≤ 255 ∧ 0 ≤ p' := by
  unfold spec_l01Byte.f
  by_cases h : p < (l.length : Int)
  · rw [if_pos h, if_pos hp]
    refine ⟨_, _, _, rfl, (and255 _).1, (and255 _).2, ?_⟩
    rw [w64 (by omega) (by omega)]
    omega
  · rw [if_neg h]
    exact ⟨_, _, _, rfl, (and255 _).1, (and255 _).2, hp⟩
theorem below_is (l : List Int) (hl : l.length ≤ 1048576) (p q n : Int) (hp : 0 ≤ p) (hn : 1 ≤ n) : ∃ b p' q', spec_l01Below.f l p q n = some (b, p', q') ∧ 0 ≤ b ∧ b < n ∧ 0 ≤ p' := by
  unfold spec_l01Below.f
  rw [if_neg (by omega)]
  by_cases h : n ≤ 256
  · obtain ⟨b, p', q', e, h0, h1, h2⟩ := byte_is l hl p q hp
    rw [if_pos h, e]
    simp only [Option.bind_some]
    rw [if_neg (by omega)]
    exact ⟨_, _, _, rfl, Int.tmod_nonneg _ h0, Int.tmod_lt_of_pos _ (by omega), h2⟩
  · rw [if_neg h]
    obtain ⟨b1, p1, q1, e1, a1, c1, d1⟩ := byte_is l hl p q hp
    obtain ⟨b2, p2, q2, e2, a2, c2, d2⟩ := byte_is l hl p1 q1 d1
    obtain ⟨b3, p3, q3, e3, a3, c3, d3⟩ := byte_is l hl p2 q2 d2
    obtain ⟨b4, p4, q4, e4, a4, c4, d4⟩ := byte_is l hl p3 q3 d3
    rw [e1]
    simp only [Option.bind_some]
    rw [e2]
    simp only [Option.bind_some]
    rw [e3]
    simp only [Option.bind_some]
    rw [e4]
    simp only [Option.bind_some]
    rw [if_neg (by omega), w64 (x := b1 * 16777216) (by omega) (by omega), w64 (x := b2 * 65536) (by omega) (by omega), w64 (x := b3 * 256) (by omega) (by omega), w64 (x := b1 * 16777216 + b2 * 65536) (by omega) (by omega), w64 (x := b1 * 16777216 + b2 * 65536 + b3 * 256) (by omega) (by omega), w64 (by omega) (by omega)]
    exact ⟨_, _, _, rfl, Int.tmod_nonneg _ (by omega), Int.tmod_lt_of_pos _ (by omega), d4⟩
theorem pick_is (l : List Int) (hl : l.length ≤ 1048576) (p q : Int) (hp : 0 ≤ p) (t : List Int) (ht : 1 ≤ t.length) : ∃ b p' q', spec_l01PickInt.f l p q t = some (b, p', q') ∧ b ∈ t ∧ 0 ≤ p' := by
  unfold spec_l01PickInt.f
  obtain ⟨b, p', q', e, h0, h1, h2⟩ := below_is l hl p q (t.length : Int) hp (by omega)
  rw [e]
  simp only [Option.bind_some]
  rw [if_pos h0, if_pos h1]
  refine ⟨_, _, _, rfl, ?_, h2⟩
  have := rd_mem' t b.toNat (by omega)
  rw [Int.toNat_of_nonneg h0] at this
  exact this
theorem word_is (l : List Int) (hl : l.length ≤ 1048576) (p q : Int) (hp : 0 ≤ p) : ∃ b p' q', spec_l02Word.f l p q = some (b, p', q') ∧ isWordB b = true ∧ 0 ≤ p' := by
  unfold spec_l02Word.f
  obtain ⟨b1, p1, q1, e1, a1, c1, d1⟩ := below_is l hl p q 9 hp (by omega)
  obtain ⟨b2, p2, q2, e2, a2, c2, d2⟩ := below_is l hl p1 q1 9000 d1 (by omega)
  obtain ⟨b3, p3, q3, e3, a3, d3⟩ := pick_is l hl p2 q2 d2 [0, 1, 2, 7, 100, 65535, 32768, b1, b2] (by simp)
  rw [e1]
  simp only [Option.bind_some]
  rw [e2]
  simp only [Option.bind_some]
  rw [e3]
  refine ⟨_, _, _, rfl, ?_, d3⟩
  unfold isWordB
  simp only [Bool.and_eq_true, decide_eq_true_eq]
  simp only [List.mem_cons, List.not_mem_nil, or_false] at a3
  omega
theorem values_go (l : List Int) (hl : l.length ≤ 1048576) : ∀ (d k i : Nat) (x : List Int) (p q : Int), i + d = 8 → d < k → x.length = i → x.all isWordB = true → 0 ≤ p → ∃ y p' q', spec_l19Values.l0 k x (i : Int) l p q = some (y, p', q') ∧ valsB y = true ∧ 0 ≤ p' := by
  intro d
  induction d with
  | zero =>
    intro k i x p q hi hk hx hw hp
    obtain ⟨k, rfl⟩ : ∃ m, k = m + 1 := ⟨k - 1, by omega⟩
    simp only [spec_l19Values.l0]
    rw [if_neg (by omega)]
    refine ⟨_, _, _, rfl, ?_, hp⟩
    unfold valsB
    rw [hw]
    simp
    omega
  | succ d ih =>
    intro k i x p q hi hk hx hw hp
    obtain ⟨k, rfl⟩ : ∃ m, k = m + 1 := ⟨k - 1, by omega⟩
    simp only [spec_l19Values.l0]
    obtain ⟨b1, p1, q1, e1, a1, d1⟩ := word_is l hl p q hp
    obtain ⟨b2, p2, q2, e2, a2, d2⟩ := pick_is l hl p1 q1 d1 [0, 0, 1, 2, 5, b1] (by simp)
    rw [if_pos (by omega), e1]
    simp only [Option.bind_some]
    rw [e2]
    simp only [Option.bind_some]
    rw [if_pos (by omega), w64s i (by omega)]
    have hb : isWordB b2 = true := by
      simp only [List.mem_cons, List.not_mem_nil, or_false] at a2
      rcases a2 with h | h | h | h | h | h
      · subst h; decide
      · subst h; decide
      · subst h; decide
      · subst h; decide
      · subst h; decide
      · subst h; exact a1
    exact ih k (i + 1) _ p2 q2 (by omega) (by omega) (by simp [hx]) (by simp only [List.all_append, List.all_cons, List.all_nil, hw, hb, Bool.and_self]) d2
theorem new_go (l : List Int) : ∀ (d k i : Nat) (x : Int), i + d = 4000 → d < k → ∃ q, spec_l01New.l0 k l x (i : Int) = some (l, 0, q) := by
  intro d
  induction d with
  | zero =>
    intro k i x hi hk
    obtain ⟨k, rfl⟩ : ∃ m, k = m + 1 := ⟨k - 1, by omega⟩
    simp only [spec_l01New.l0]
    by_cases h : (i : Int) < (l.length : Int)
    · rw [if_pos h, if_neg (by omega)]
      exact ⟨_, rfl⟩
    · rw [if_neg h]
      exact ⟨_, rfl⟩
  | succ d ih =>
    intro k i x hi hk
    obtain ⟨k, rfl⟩ : ∃ m, k = m + 1 := ⟨k - 1, by omega⟩
    simp only [spec_l01New.l0]
    by_cases h : (i : Int) < (l.length : Int)
    · rw [if_pos h, if_pos (by omega), if_pos (by omega), w64s i (by omega)]
      exact ih k (i + 1) _ (by omega) (by omega)
    · rw [if_neg h]
      exact ⟨_, rfl⟩
theorem new_is (l : List Int) (k : Nat) (hk : 4100 ≤ k) : ∃ q, spec_l01New.f k l = some (l, 0, q) := by
  unfold spec_l01New.f
  exact new_go l 4000 k 0 _ (by omega) (by omega)
theorem DrawValues_is (l : List Int) (hl : l.length ≤ 1048576) (k : Nat) (hk : 4100 ≤ k) : ∃ v, spec_DrawValues.f k l = some v ∧ valsB v = true := by
  unfold spec_DrawValues.f
  obtain ⟨q, e⟩ := new_is l k hk
  obtain ⟨v, p', q', e2, h, _⟩ := values_go l hl 8 k 0 [] 0 q (by omega) (by omega) rfl rfl (by omega)
  rw [e]
  simp only [Option.bind_some, spec_l19Values.f]
  rw [show ((0 : Nat) : Int) = 0 from rfl] at e2
  rw [e2]
  exact ⟨v, rfl, h⟩
theorem DrawWord_is (l : List Int) (hl : l.length ≤ 1048576) (k : Nat) (hk : 4100 ≤ k) : ∃ v, spec_DrawWord.f k l = some v ∧ isWordB v = true := by
  unfold spec_DrawWord.f
  obtain ⟨q, e⟩ := new_is l k hk
  obtain ⟨v, p', q', e2, h, _⟩ := word_is l hl 0 q (by omega)
  rw [e]
  simp only [Option.bind_some]
  rw [e2]
  exact ⟨v, rfl, h⟩
theorem DrawReduction_is (l : List Int) (hl : l.length ≤ 1048576) (k : Nat) (hk : 4100 ≤ k) : ∃ v, spec_DrawReduction.f k l = some v ∧ isOpB v = true := by
  unfold spec_DrawReduction.f
  obtain ⟨q, e⟩ := new_is l k hk
  obtain ⟨v, p', q', e2, h0, h1, _⟩ := below_is l hl 0 q 4 (by omega) (by omega)
  rw [e]
  simp only [Option.bind_some]
  rw [e2]
  refine ⟨v, rfl, ?_⟩
  unfold isOpB
  simp only [Bool.and_eq_true, decide_eq_true_eq]
  omega
theorem DrawMask_is (l : List Int) (hl : l.length ≤ 1048576) (k : Nat) (hk : 4100 ≤ k) : ∃ v, spec_DrawMask.f k l = some v ∧ isMaskB v = true := by
  unfold spec_DrawMask.f spec_l03Mask.f
  obtain ⟨q, e⟩ := new_is l k hk
  obtain ⟨b1, p1, q1, e1, a1, c1, d1⟩ := below_is l hl 0 q 256 (by omega) (by omega)
  obtain ⟨b2, p2, q2, e2, a2, c2, d2⟩ := below_is l hl p1 q1 256 d1 (by omega)
  obtain ⟨b3, p3, q3, e3, a3, d3⟩ := pick_is l hl p2 q2 d2 [255, 0, 1, 15, 170, b1, b2] (by simp)
  rw [e]
  simp only [Option.bind_some]
  rw [e1]
  simp only [Option.bind_some]
  rw [e2]
  simp only [Option.bind_some]
  rw [e3]
  refine ⟨b3, rfl, ?_⟩
  unfold isMaskB
  simp only [Bool.and_eq_true, decide_eq_true_eq]
  simp only [List.mem_cons, List.not_mem_nil, or_false] at a3
  omega
theorem perm_go (l : List Int) (hl : l.length ≤ 1048576) (t : List Int) (ht : t.length = 8) : ∀ (i k : Nat) (x : List Int) (p q : Int), i ≤ 7 → i < k → x.Perm t → 0 ≤ p → ∃ y p' q', spec_l20Perm.l0 k x (i : Int) l p q = some (y, p', q') ∧ y.Perm t ∧ 0 ≤ p' := by
  intro i
  induction i with
  | zero =>
    intro k x p q hi hk hx hp
    obtain ⟨k, rfl⟩ : ∃ m, k = m + 1 := ⟨k - 1, by omega⟩
    simp only [spec_l20Perm.l0]
    rw [if_neg (by omega)]
    exact ⟨_, _, _, rfl, hx, hp⟩
  | succ i ih =>
    intro k x p q hi hk hx hp
    obtain ⟨k, rfl⟩ : ∃ m, k = m + 1 := ⟨k - 1, by omega⟩
    have h8 : x.length = 8 := by rw [hx.length_eq, ht]
    simp only [spec_l20Perm.l0]
    rw [if_pos (by omega), w64s (i + 1) (by omega)]
    obtain ⟨b, p1, q1, e1, a1, c1, d1⟩ := below_is l hl p q ((i + 1 + 1 : Nat) : Int) hp (by omega)
    rw [e1]
    simp only [Option.bind_some]
    rw [if_pos (by omega), if_pos (by omega), if_pos (by omega), if_pos (by omega), w64 (x := ((i + 1 : Nat) : Int) - 1) (by omega) (by omega), show ((i + 1 : Nat) : Int) - 1 = (i : Int) by omega]
    refine ih k _ p1 q1 (by omega) (by omega) (List.Perm.trans ?_ hx) d1
    obtain ⟨n, rfl⟩ := Int.eq_ofNat_of_zero_le a1
    have h1 := rd_nat x n (by omega)
    have h2 := rd_nat x (i + 1) (by omega)
    rw [List.getElem?_eq_getElem (by omega)] at h1 h2
    rw [← Option.some.inj h1, ← Option.some.inj h2]
    simp only [Int.toNat_natCast]
    exact List.set_set_perm (by omega) (by omega)
theorem DrawPermutation_is (l : List Int) (hl : l.length ≤ 1048576) (k : Nat) (hk : 4100 ≤ k) : ∃ v, spec_DrawPermutation.f k l = some v ∧ v.Perm [0, 1, 2, 3, 4, 5, 6, 7] := by
  unfold spec_DrawPermutation.f
  obtain ⟨q, e⟩ := new_is l k hk
  obtain ⟨v, p', q', e2, h, _⟩ := perm_go l hl [0, 1, 2, 3, 4, 5, 6, 7] rfl 7 k [0, 1, 2, 3, 4, 5, 6, 7] 0 q (by omega) (by omega) (List.Perm.refl _) (by omega)
  rw [e]
  simp only [Option.bind_some, spec_l20Perm.f]
  rw [show ((7 : Nat) : Int) = 7 from rfl] at e2
  rw [e2]
  exact ⟨v, rfl, h⟩

end Go.Proofs.Ytiolnbkaohioiaa.Pure
