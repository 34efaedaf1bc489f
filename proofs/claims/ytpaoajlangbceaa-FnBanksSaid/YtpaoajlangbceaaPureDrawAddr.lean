/- The draw of eight addresses. -/
import Derived.Test.YtpaoajlangbceaaGxDrawsb
import Derived.Test.YtpaoajlangbceaaPureDrawPick
import Derived.Test.YtpaoajlangbceaaPureAsked
namespace Go.Proofs.Ytpaoajlangbceaa.Pure
open Go.RowKit Go.Proofs.Ytpaoajlangbceaa.P Go.Proofs.YtpaoajlangbceaaW.PrintWords Go.Proofs.YtpaoajlangbceaaW.PrintLast Go.Proofs.YtpaoajlangbceaaW.PrintMore

theorem addr_in {x : Int} (h0 : 0 ≤ x) (h1 : x ≤ 4095) : isAddr x = true := by
  unfold isAddr
  simp only [Bool.and_eq_true, decide_eq_true_eq]
  exact ⟨h0, h1⟩
theorem once_is (l : List Int) (hl : l.length ≤ 1048576) (p q n : Int) (hp : 0 ≤ p) (hn : 1 ≤ n) : ∃ b p' q', spec_l01Once.f l p q n = some (b, p', q') ∧ 0 ≤ p' := by
  unfold spec_l01Once.f
  obtain ⟨b, p', q', e, _, _, h⟩ := below_is l hl p q n hp hn
  rw [e]
  simp only [Option.bind_some]
  exact ⟨_, _, _, rfl, h⟩
theorem addrs_go (l : List Int) (hl : l.length ≤ 1048576) (base stride : Int) (b0 : 0 ≤ base) (b1 : base < 50) (s0 : 0 ≤ stride) (s1 : stride ≤ 9) : ∀ (d k i : Nat) (x : List Int) (p q : Int), i + d = 8 → d < k → x.length = i → x.all isAddr = true → 0 ≤ p → ∃ y p' q', spec_l25Addresses.l0 k x base stride (i : Int) l p q = some (y, p', q') ∧ y.length = 8 ∧ y.all isAddr = true := by
  intro d
  induction d with
  | zero =>
    intro k i x p q hi hk hx hw hp
    obtain ⟨k, rfl⟩ : ∃ m, k = m + 1 := ⟨k - 1, by omega⟩
    simp only [spec_l25Addresses.l0]
    rw [if_neg (by omega)]
    exact ⟨_, _, _, rfl, by omega, hw⟩
  | succ d ih =>
    intro k i x p q hi hk hx hw hp
    obtain ⟨k, rfl⟩ : ∃ m, k = m + 1 := ⟨k - 1, by omega⟩
    simp only [spec_l25Addresses.l0]
    obtain ⟨b, p1, q1, e1, h1⟩ := once_is l hl p q 4 hp (by omega)
    rw [if_pos (by omega), e1]
    simp only [Option.bind_some]
    cases b with
    | true =>
      obtain ⟨b2, p2, q2, e2, a2, c2, h2⟩ := below_is l hl p1 q1 40 h1 (by omega)
      rw [if_pos rfl, e2]
      simp only [Option.bind_some]
      rw [if_pos (by omega), w64s i (by omega)]
      exact ih k (i + 1) _ p2 q2 (by omega) (by omega) (by simp [hx]) (by simp only [List.all_append, List.all_cons, List.all_nil, hw, addr_in a2 (by omega : b2 ≤ 4095), Bool.and_self]) h2
    | false =>
      have hi8 : (i : Int) ≤ 7 := by omega
      have hm0 : 0 ≤ (i : Int) * stride := Int.mul_nonneg (by omega) s0
      have hm1 : (i : Int) * stride ≤ 7 * 9 := Int.mul_le_mul hi8 s1 s0 (by omega)
      rw [if_neg (by decide), if_pos (by omega), w64s i (by omega), w64 (x := (i : Int) * stride) (by omega) (by omega), w64 (by omega) (by omega)]
      exact ih k (i + 1) _ p1 q1 (by omega) (by omega) (by simp [hx]) (by simp only [List.all_append, List.all_cons, List.all_nil, hw, addr_in (show 0 ≤ base + (i : Int) * stride by omega) (by omega), Bool.and_self]) h1
theorem DrawAddresses_is (l : List Int) (hl : l.length ≤ 1048576) (k : Nat) (hk : 4100 ≤ k) : ∃ v, spec_DrawAddresses.f k l = some v ∧ v.length = 8 ∧ v.all isAddr = true := by
  unfold spec_DrawAddresses.f spec_l25Addresses.f
  obtain ⟨q, e⟩ := new_is l k hk
  obtain ⟨b1, p1, q1, e1, a1, c1, d1⟩ := below_is l hl 0 q 50 (by omega) (by omega)
  obtain ⟨b3, p3, q3, e3, a3, d3⟩ := pick_is l hl p1 q1 d1 [1, 1, 2, 8, 9, 0] (by simp)
  rw [e]
  simp only [Option.bind_some]
  rw [e1]
  simp only [Option.bind_some]
  rw [e3]
  simp only [Option.bind_some]
  simp only [List.mem_cons, List.not_mem_nil, or_false] at a3
  obtain ⟨y, p', q', e4, h1, h2⟩ := addrs_go l hl b1 b3 a1 c1 (by omega) (by omega) 8 k 0 [] p3 q3 (by omega) (by omega) rfl rfl d3
  rw [show ((0 : Nat) : Int) = 0 from rfl] at e4
  rw [e4]
  exact ⟨y, rfl, h1, h2⟩
theorem asked_of {v : List Int} {m : Int} (h8 : v.length = 8) (hv : v.all isAddr = true) (hm : isMaskB m = true) : askedB v m = true := by
  unfold askedB
  rw [hv, hm, h8]
  rfl

end Go.Proofs.Ytpaoajlangbceaa.Pure
