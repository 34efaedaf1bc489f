/- All rounds of a reduction leave in every lane what the masked reduction over all lanes answers, and the neutral word is neutral, for every setting. -/
import Derived.Test.YtiolnbkaohioiaaGxPFnReductions
import Derived.Test.YtiolnbkaohioiaaPureReduceAll
import Derived.Test.YtiolnbkaohioiaaPureDraw
namespace Go.Proofs.Ytiolnbkaohioiaa.Pure
open Go.RowKit Go.Proofs.Ytiolnbkaohioiaa.P Go.Proofs.YtiolnbkaohioiaaW.PrintWords Go.Proofs.YtiolnbkaohioiaaW.PrintLast

theorem redM_word (op : Int) (l : List Int) (hv : valsB l = true) (ho : isOpB op = true) : isWordB (redM op l 255) = true := by
  rw [redM_all op l hv ho]
  have w := fun i h0 h1 => valsB_word hv i h0 h1
  exact comb_word op _ _ (comb_word op _ _ (comb_word op _ _ (comb_word op _ _ (comb_word op _ _ (comb_word op _ _ (comb_word op _ _ (w 0 (by omega) (by omega)) (w 1 (by omega) (by omega))) (w 2 (by omega) (by omega))) (w 3 (by omega) (by omega))) (w 4 (by omega) (by omega))) (w 5 (by omega) (by omega))) (w 6 (by omega) (by omega))) (w 7 (by omega) (by omega))
theorem FnReductions_go (v : List Int) (op : Int) (hv : valsB v = true) (ho : isOpB op = true) : ∀ (d k i : Nat), i + d = 8 → d + 40 < k → laws_FnReductions.l0 k v op (redA op v) (redM op v 255) (i : Int) = some true := by
  have hlen := redA_len8 op v hv ho
  intro d
  induction d with
  | zero =>
    intro k i hi hk
    obtain ⟨k, rfl⟩ : ∃ m, k = m + 1 := ⟨k - 1, by omega⟩
    have hw := redM_word op v hv ho
    have hn := neutB_word ho
    have e : combB op (neutB op) (redM op v 255) = redM op v 255 := by rw [combB_comb hn hw ho, comb_neut ho hw]
    simp only [laws_FnReductions.l0]
    rw [if_neg (by omega), if_pos (by omega), impl_NeutralOf_is]
    simp only [Option.bind_some, impl_Combine_is, e, impl_ReduceMasked_is op v 0 k (by omega), redM_nil op v hv ho, if_true, beq_self_eq_true]
  | succ d ih =>
    intro k i hi hk
    obtain ⟨k, rfl⟩ : ∃ m, k = m + 1 := ⟨k - 1, by omega⟩
    simp only [laws_FnReductions.l0]
    rw [if_pos (by omega), if_pos (by omega), if_pos (redA_rd op v hv ho i (by omega)), w64s i (by omega)]
    exact ih k (i + 1) (by omega) (by omega)
theorem FnReductions : laws_FnReductions.Pure := by
  intro l _ _ _
  obtain ⟨k0, hk0⟩ : ∃ k0 : Nat, 4100 ≤ k0 := ⟨4100, by omega⟩
  refine ⟨k0, ?_⟩
  unfold laws_FnReductions.f
  simp only [laws_big.f, Option.bind_some, decide_eq_true_eq]
  by_cases hb : (l.length : Int) > 1048576
  · rw [if_pos hb]
  · rw [if_neg hb]
    have hl : l.length ≤ 1048576 := by omega
    obtain ⟨v, hv, hv'⟩ := DrawValues_is l hl k0 (by omega)
    obtain ⟨op, ho, ho'⟩ := DrawReduction_is l hl k0 (by omega)
    have h := FnReductions_go v op hv' ho' 8 k0 0 (by omega) (by omega)
    rw [hv]
    simp only [Option.bind_some]
    rw [ho]
    simp only [Option.bind_some]
    rw [impl_ReduceAll_is op v k0 (by omega)]
    simp only [Option.bind_some]
    rw [impl_ReduceMasked_is op v 255 k0 (by omega)]
    exact h

end Go.Proofs.Ytiolnbkaohioiaa.Pure
