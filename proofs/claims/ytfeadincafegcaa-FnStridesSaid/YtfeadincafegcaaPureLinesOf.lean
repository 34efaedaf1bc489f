/- Lines and words of addresses: the program's and the reference's, told by plain lists. -/
import Derived.Test.YtfeadincafegcaaGxSpec27
import Derived.Test.YtfeadincafegcaaGxImpl27
import Derived.Test.YtfeadincafegcaaGxImpl25
import Derived.Test.YtfeadincafegcaaPureLines
import Derived.Test.YtfeadincafegcaaPureStrided
import Derived.Test.YtfeadincafegcaaPureAsked
namespace Go.Proofs.Ytfeadincafegcaa.Pure
open Go.RowKit Go.Proofs.Ytfeadincafegcaa.P Go.Proofs.YtfeadincafegcaaW.PrintWords Go.Proofs.YtfeadincafegcaaW.PrintLast Go.Proofs.YtfeadincafegcaaW.PrintMore

def linesL (l : List Int) (m : Int) : List Int := if askedB l m = true then difL ((lanesL m).map fun i => wrap64 (Int.tdiv (rd l i) 8)) else []
def wordsL (l : List Int) (m : Int) : List Int := difL ((lanesL m).map fun i => rd l i)
def usedW (l : List Int) (m : Int) : Int := if askedB l m = true then ((wordsL l m).length : Int) else -1
theorem difL_len (zs : List Int) : (difL zs).length ≤ zs.length := by
  unfold difL
  exact Nat.le_trans (compact_le _) (by rw [List.length_mergeSort]; exact Nat.le_refl _)
theorem linesL_len (l : List Int) (m : Int) : (linesL l m).length ≤ 8 := by
  unfold linesL
  split
  · exact Nat.le_trans (difL_len _) (by rw [List.length_map]; exact lanesL_len m)
  · simp
theorem wordsL_len (l : List Int) (m : Int) : (wordsL l m).length ≤ 8 := Nat.le_trans (difL_len _) (by rw [List.length_map]; exact lanesL_len m)
theorem difL_pos {zs : List Int} (h : 0 < zs.length) : 0 < (difL zs).length := by
  obtain ⟨a, ha⟩ := List.exists_mem_of_length_pos h
  exact List.length_pos_of_mem ((difL_is zs).2 a |>.2 ha)
theorem lines_pos {l : List Int} {m : Int} (h : askedB l m = true) (hw : 0 < (wordsL l m).length) : 0 < (linesL l m).length := by
  unfold linesL
  rw [if_pos h]
  apply difL_pos
  have h1 := difL_len ((lanesL m).map fun i => rd l i)
  unfold wordsL at hw
  rw [List.length_map] at h1 ⊢
  omega
theorem impl_LinesOf_is (l : List Int) (m : Int) (k : Nat) (hk : 40 ≤ k) : impl_LinesOf.f k l m = some (linesL l m) := by
  unfold impl_LinesOf.f linesL
  rw [impl_areAsked_is]
  simp only [Option.bind_some]
  cases h : askedB l m with
  | false => rfl
  | true =>
    have h8 := askedB_len h
    have ho := lanes_ok m
    rw [if_pos rfl, if_pos rfl, impl_LanesOf_is m k (by omega)]
    simp only [Option.bind_some]
    rw [if_pos ⟨by omega, ho.1, ho.2⟩]
theorem impl_UsedWords_is (l : List Int) (m : Int) (k : Nat) (hk : 40 ≤ k) : impl_UsedWords.f k l m = some (usedW l m) := by
  unfold impl_UsedWords.f usedW wordsL
  rw [impl_areAsked_is]
  simp only [Option.bind_some]
  cases h : askedB l m with
  | false => rfl
  | true =>
    have h8 := askedB_len h
    have ho := lanes_ok m
    rw [if_pos rfl, if_pos rfl, impl_LanesOf_is m k (by omega)]
    simp only [Option.bind_some]
    rw [if_pos ⟨by omega, ho.1, ho.2⟩]
theorem spec_LinesOf_is (l : List Int) (m : Int) (hl : l.length ≤ 1048576) (k : Nat) (hk : l.length + 40 < k) : spec_LinesOf.f k l m = some (linesL l m) := by
  unfold spec_LinesOf.f linesL
  rw [spec_AddressesOk_is l hl k (by omega)]
  simp only [Option.bind_some]
  have e : askedB l m = ((decide (l.length = 8) && l.all isAddr) && isMaskB m) := rfl
  cases ha : decide (l.length = 8) && l.all isAddr with
  | false =>
    rw [e, ha]
    simp
  | true =>
    rw [if_pos rfl, spec_IsMask_is]
    simp only [Option.bind_some]
    cases hm : isMaskB m with
    | false =>
      rw [e, ha, hm]
      simp
    | true =>
      have h : askedB l m = true := by rw [e, ha, hm]; rfl
      obtain ⟨r, e1, h1, h2⟩ := l27_is l m 8 (askedB_len h) (by omega) k (by omega)
      rw [if_pos rfl, if_pos h, e1, dif_lines l m 8 (fun i => wrap64 (Int.tdiv (rd l i) 8)) (fun _ => rfl) r h1 h2]
      rfl
theorem spec_UsedWords_is (l : List Int) (m : Int) (hl : l.length ≤ 1048576) (k : Nat) (hk : l.length + 40 < k) : spec_UsedWords.f k l m = some (usedW l m) := by
  unfold spec_UsedWords.f usedW wordsL
  rw [spec_AddressesOk_is l hl k (by omega)]
  simp only [Option.bind_some]
  have e : askedB l m = ((decide (l.length = 8) && l.all isAddr) && isMaskB m) := rfl
  cases ha : decide (l.length = 8) && l.all isAddr with
  | false =>
    rw [e, ha]
    simp
  | true =>
    rw [if_pos rfl, spec_IsMask_is]
    simp only [Option.bind_some]
    cases hm : isMaskB m with
    | false =>
      rw [e, ha, hm]
      simp
    | true =>
      have h : askedB l m = true := by rw [e, ha, hm]; rfl
      obtain ⟨r, e1, h1, h2⟩ := l27_is l m 1 (askedB_len h) (by omega) k (by omega)
      rw [if_pos rfl, if_pos h, e1, dif_lines l m 1 (fun i => rd l i) (fun i => by
        have hr := rd_small h i
        rw [Int.tdiv_one, w64 (by omega) (by omega)]) r h1 h2]
      rfl
def useN (u n : Int) : Int := if u < 0 then -1 else if u = 0 then 1000 else wrap64 (Int.tdiv (wrap64 (1000 * u)) (wrap64 (8 * n)))
theorem use_fin (u n : Int) (h : ¬ u < 0 → ¬ u = 0 → ¬ wrap64 (8 * n) = 0) : (if u < 0 then (some (-1)) else (if u = 0 then (some 1000) else (if wrap64 (8 * n) = 0 then none else some (wrap64 (Int.tdiv (wrap64 (1000 * u)) (wrap64 (8 * n))))))) = some (useN u n) := by
  unfold useN
  by_cases h0 : u < 0
  · rw [if_pos h0, if_pos h0]
  · rw [if_neg h0, if_neg h0]
    by_cases h1 : u = 0
    · rw [if_pos h1, if_pos h1]
    · rw [if_neg h1, if_neg h1, if_neg (h h0 h1)]
def useL (l : List Int) (m : Int) : Int := useN (usedW l m) ((linesL l m).length : Int)
theorem use_ne (l : List Int) (m : Int) (h0 : ¬ usedW l m < 0) (h1 : ¬ usedW l m = 0) : ¬ wrap64 (8 * ((linesL l m).length : Int)) = 0 := by
  have ha : askedB l m = true := by
    cases h : askedB l m with
    | true => rfl
    | false =>
      exfalso
      apply h0
      unfold usedW
      rw [h]
      simp
  have hw : 0 < (wordsL l m).length := by
    unfold usedW at h1
    rw [if_pos ha] at h1
    omega
  have h2 := lines_pos ha hw
  have h3 := linesL_len l m
  rw [w64 (by omega) (by omega)]
  omega
end Go.Proofs.Ytfeadincafegcaa.Pure
