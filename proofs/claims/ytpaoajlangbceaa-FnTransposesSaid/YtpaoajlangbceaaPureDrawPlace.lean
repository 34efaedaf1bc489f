/- The draw of places. -/
import Derived.Test.YtpaoajlangbceaaGxDrawsb
import Derived.Test.YtpaoajlangbceaaPureDrawNew
namespace Go.Proofs.Ytpaoajlangbceaa.Pure
open Go.RowKit Go.Proofs.Ytpaoajlangbceaa.P Go.Proofs.YtpaoajlangbceaaW.PrintWords Go.Proofs.YtpaoajlangbceaaW.PrintLast Go.Proofs.YtpaoajlangbceaaW.PrintMore

theorem places_go (l : List Int) (hl : l.length ≤ 1048576) : ∀ (d k i : Nat) (x : List Int) (p q : Int), i + d = 12 → d < k → x.length = i → (∀ a ∈ x, 0 ≤ a ∧ a < 10000) → 0 ≤ p → ∃ y, spec_DrawPlaces.l0 k x (i : Int) l p q = some y ∧ y.length = 12 ∧ (∀ a ∈ y, 0 ≤ a ∧ a < 10000) := by
  intro d
  induction d with
  | zero =>
    intro k i x p q hi hk hx hw hp
    obtain ⟨k, rfl⟩ : ∃ m, k = m + 1 := ⟨k - 1, by omega⟩
    simp only [spec_DrawPlaces.l0]
    rw [if_neg (by omega)]
    exact ⟨_, rfl, by omega, hw⟩
  | succ d ih =>
    intro k i x p q hi hk hx hw hp
    obtain ⟨k, rfl⟩ : ∃ m, k = m + 1 := ⟨k - 1, by omega⟩
    simp only [spec_DrawPlaces.l0]
    obtain ⟨b1, p1, q1, e1, a1, c1, d1⟩ := below_is l hl p q 10000 hp (by omega)
    rw [if_pos (by omega), e1]
    simp only [Option.bind_some]
    rw [if_pos (by omega), w64s i (by omega)]
    refine ih k (i + 1) _ p1 q1 (by omega) (by omega) (by simp [hx]) (fun a ha => ?_) d1
    simp only [List.mem_append, List.mem_cons, List.not_mem_nil, or_false] at ha
    cases ha with
    | inl h => exact hw a h
    | inr h => subst h; exact ⟨a1, c1⟩
theorem DrawPlaces_is (l : List Int) (hl : l.length ≤ 1048576) (k : Nat) (hk : 4100 ≤ k) : ∃ v, spec_DrawPlaces.f k l = some v ∧ v.length = 12 ∧ ∀ a ∈ v, 0 ≤ a ∧ a < 10000 := by
  unfold spec_DrawPlaces.f
  obtain ⟨q, e⟩ := new_is l k hk
  obtain ⟨v, e2, h⟩ := places_go l hl 12 k 0 [] 0 q (by omega) (by omega) rfl (by simp) (by omega)
  rw [e]
  simp only [Option.bind_some]
  rw [show ((0 : Nat) : Int) = 0 from rfl] at e2
  rw [e2]
  exact ⟨v, rfl, h⟩


end Go.Proofs.Ytpaoajlangbceaa.Pure
