/- The draws of words and of eight words. -/
import Derived.Test.YteehgmbbmlfggaaGxDraws
import Derived.Test.YteehgmbbmlfggaaPureDrawPick
import Derived.Test.YteehgmbbmlfggaaPureWords
namespace Go.Proofs.Yteehgmbbmlfggaa.Pure
open Go.RowKit Go.Proofs.Yteehgmbbmlfggaa.P Go.Proofs.YteehgmbbmlfggaaW.PrintWords Go.Proofs.YteehgmbbmlfggaaW.PrintLast Go.Proofs.YteehgmbbmlfggaaW.PrintMore

theorem word_is (l : List Int) (hl : l.length ≤ 1048576) (p q : Int) (hp : 0 ≤ p) : ∃ b p' q', spec_l02Word.f l p q = some (b, p', q') ∧ isWordB b = true ∧ 0 ≤ p' := by
  unfold spec_l02Word.f
  obtain ⟨b1, p1, q1, e1, a1, c1, d1⟩ := below_is l hl p q 9 hp (by omega)
  obtain ⟨b2, p2, q2, e2, a2, c2, d2⟩ := below_is l hl p1 q1 9000 d1 (by omega)
  obtain ⟨b3, p3, q3, e3, a3, d3⟩ := pick_is l hl p2 q2 d2 [0, 1, 2, 7, 100, 65535, 32768, b1, b2] (by simp)
  rw [e1]
  simp only [Option.bind_some]
  rw [e2]
  simp only [Option.bind_some]
  rw [e3]
  refine ⟨_, _, _, rfl, ?_, d3⟩
  unfold isWordB
  simp only [Bool.and_eq_true, decide_eq_true_eq]
  simp only [List.mem_cons, List.not_mem_nil, or_false] at a3
  omega
theorem values_go (l : List Int) (hl : l.length ≤ 1048576) : ∀ (d k i : Nat) (x : List Int) (p q : Int), i + d = 8 → d < k → x.length = i → x.all isWordB = true → 0 ≤ p → ∃ y p' q', spec_l19Values.l0 k x (i : Int) l p q = some (y, p', q') ∧ valsB y = true ∧ 0 ≤ p' := by
  intro d
  induction d with
  | zero =>
    intro k i x p q hi hk hx hw hp
    obtain ⟨k, rfl⟩ : ∃ m, k = m + 1 := ⟨k - 1, by omega⟩
    simp only [spec_l19Values.l0]
    rw [if_neg (by omega)]
    refine ⟨_, _, _, rfl, ?_, hp⟩
    unfold valsB
    rw [hw]
    simp
    omega
  | succ d ih =>
    intro k i x p q hi hk hx hw hp
    obtain ⟨k, rfl⟩ : ∃ m, k = m + 1 := ⟨k - 1, by omega⟩
    simp only [spec_l19Values.l0]
    obtain ⟨b1, p1, q1, e1, a1, d1⟩ := word_is l hl p q hp
    obtain ⟨b2, p2, q2, e2, a2, d2⟩ := pick_is l hl p1 q1 d1 [0, 0, 1, 2, 5, b1] (by simp)
    rw [if_pos (by omega), e1]
    simp only [Option.bind_some]
    rw [e2]
    simp only [Option.bind_some]
    rw [if_pos (by omega), w64s i (by omega)]
    have hb : isWordB b2 = true := by
      simp only [List.mem_cons, List.not_mem_nil, or_false] at a2
      rcases a2 with h | h | h | h | h | h
      · subst h; decide
      · subst h; decide
      · subst h; decide
      · subst h; decide
      · subst h; decide
      · subst h; exact a1
    exact ih k (i + 1) _ p2 q2 (by omega) (by omega) (by simp [hx]) (by simp only [List.all_append, List.all_cons, List.all_nil, hw, hb, Bool.and_self]) d2

end Go.Proofs.Yteehgmbbmlfggaa.Pure
