/- The draws of a setting: a byte, a number below another, a new reader. -/
import Derived.Test.YteehgmbbmlfggaaGxDraws
import Derived.Test.YteehgmbbmlfggaaPureBase
namespace Go.Proofs.Yteehgmbbmlfggaa.Pure
open Go.RowKit Go.Proofs.Yteehgmbbmlfggaa.P Go.Proofs.YteehgmbbmlfggaaW.PrintWords Go.Proofs.YteehgmbbmlfggaaW.PrintLast Go.Proofs.YteehgmbbmlfggaaW.PrintMore

theorem and255 (x : Int) : 0 ≤ Go.bits .and .i64 x 255 ∧ Go.bits .and .i64 x 255 ≤ 255 := by
  have h : ((BitVec.ofInt 64 x).toNat &&& (BitVec.ofInt 64 255).toNat) ≤ 255 := Nat.le_trans Nat.and_le_right (by decide)
  have e : Go.bits .and .i64 x 255 = (((BitVec.ofInt 64 x).toNat &&& (BitVec.ofInt 64 255).toNat : Nat) : Int) := by
    simp only [Go.bits, BitVec.toNat_and]
    rw [show IntKind.i64.bits = 64 from rfl, IntKind.wrap_i64]
    omega
  rw [e]
  omega
theorem byte_is (l : List Int) (hl : l.length ≤ 1048576) (p q : Int) (hp : 0 ≤ p) : ∃ b p' q', spec_l01Byte.f l p q = some (b, p', q') ∧ 0 ≤ b ∧ b ≤ 255 ∧ 0 ≤ p' := by
  unfold spec_l01Byte.f
  by_cases h : p < (l.length : Int)
  · rw [if_pos h, if_pos hp]
    refine ⟨_, _, _, rfl, (and255 _).1, (and255 _).2, ?_⟩
    rw [w64 (by omega) (by omega)]
    omega
  · rw [if_neg h]
    exact ⟨_, _, _, rfl, (and255 _).1, (and255 _).2, hp⟩
theorem below_is (l : List Int) (hl : l.length ≤ 1048576) (p q n : Int) (hp : 0 ≤ p) (hn : 1 ≤ n) : ∃ b p' q', spec_l01Below.f l p q n = some (b, p', q') ∧ 0 ≤ b ∧ b < n ∧ 0 ≤ p' := by
  unfold spec_l01Below.f
  rw [if_neg (by omega)]
  by_cases h : n ≤ 256
  · obtain ⟨b, p', q', e, h0, h1, h2⟩ := byte_is l hl p q hp
    rw [if_pos h, e]
    simp only [Option.bind_some]
    rw [if_neg (by omega)]
    exact ⟨_, _, _, rfl, Int.tmod_nonneg _ h0, Int.tmod_lt_of_pos _ (by omega), h2⟩
  · rw [if_neg h]
    obtain ⟨b1, p1, q1, e1, a1, c1, d1⟩ := byte_is l hl p q hp
    obtain ⟨b2, p2, q2, e2, a2, c2, d2⟩ := byte_is l hl p1 q1 d1
    obtain ⟨b3, p3, q3, e3, a3, c3, d3⟩ := byte_is l hl p2 q2 d2
    obtain ⟨b4, p4, q4, e4, a4, c4, d4⟩ := byte_is l hl p3 q3 d3
    rw [e1]
    simp only [Option.bind_some]
    rw [e2]
    simp only [Option.bind_some]
    rw [e3]
    simp only [Option.bind_some]
    rw [e4]
    simp only [Option.bind_some]
    rw [if_neg (by omega), w64 (x := b1 * 16777216) (by omega) (by omega), w64 (x := b2 * 65536) (by omega) (by omega), w64 (x := b3 * 256) (by omega) (by omega), w64 (x := b1 * 16777216 + b2 * 65536) (by omega) (by omega), w64 (x := b1 * 16777216 + b2 * 65536 + b3 * 256) (by omega) (by omega), w64 (by omega) (by omega)]
    exact ⟨_, _, _, rfl, Int.tmod_nonneg _ (by omega), Int.tmod_lt_of_pos _ (by omega), d4⟩
theorem new_go (l : List Int) : ∀ (d k i : Nat) (x : Int), i + d = 4000 → d < k → ∃ q, spec_l01New.l0 k l x (i : Int) = some (l, 0, q) := by
  intro d
  induction d with
  | zero =>
    intro k i x hi hk
    obtain ⟨k, rfl⟩ : ∃ m, k = m + 1 := ⟨k - 1, by omega⟩
    simp only [spec_l01New.l0]
    by_cases h : (i : Int) < (l.length : Int)
    · rw [if_pos h, if_neg (by omega)]
      exact ⟨_, rfl⟩
    · rw [if_neg h]
      exact ⟨_, rfl⟩
  | succ d ih =>
    intro k i x hi hk
    obtain ⟨k, rfl⟩ : ∃ m, k = m + 1 := ⟨k - 1, by omega⟩
    simp only [spec_l01New.l0]
    by_cases h : (i : Int) < (l.length : Int)
    · rw [if_pos h, if_pos (by omega), if_pos (by omega), w64s i (by omega)]
      exact ih k (i + 1) _ (by omega) (by omega)
    · rw [if_neg h]
      exact ⟨_, rfl⟩
theorem new_is (l : List Int) (k : Nat) (hk : 4100 ≤ k) : ∃ q, spec_l01New.f k l = some (l, 0, q) := by
  unfold spec_l01New.f
  exact new_go l 4000 k 0 _ (by omega) (by omega)

end Go.Proofs.Yteehgmbbmlfggaa.Pure
