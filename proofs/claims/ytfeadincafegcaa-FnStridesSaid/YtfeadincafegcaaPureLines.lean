/- Numbers of lanes, each once, ascending: by sorting and by putting one after the other. -/
import Derived.Test.YtfeadincafegcaaGxImpl27
import Derived.Test.YtfeadincafegcaaGxSpec27
import Derived.Test.YtfeadincafegcaaPurePut
import Derived.Test.YtfeadincafegcaaPureAddresses
namespace Go.Proofs.Ytfeadincafegcaa.Pure
open Go.RowKit Go.Proofs.Ytfeadincafegcaa.P Go.Proofs.YtfeadincafegcaaW.PrintWords Go.Proofs.YtfeadincafegcaaW.PrintLast Go.Proofs.YtfeadincafegcaaW.PrintMore

theorem l27_go (l : List Int) (m n : Int) (h8 : l.length = 8) (hn : n ≠ 0) : ∀ (d k i : Nat) (x : List Int), i + d = 8 → d + 30 < k → SA x → x.length ≤ i → (∀ y, y ∈ x ↔ ∃ j : Nat, j < i ∧ hasB m (j : Int) = true ∧ y = wrap64 (Int.tdiv (rd l (j : Int)) n)) → ∃ r, spec_l27Put.l0 k l m n x (i : Int) = some r ∧ SA r ∧ ∀ y, y ∈ r ↔ ∃ j : Nat, j < 8 ∧ hasB m (j : Int) = true ∧ y = wrap64 (Int.tdiv (rd l (j : Int)) n) := by
  intro d
  induction d with
  | zero =>
    intro k i x hi hk hs hx hm
    obtain ⟨k, rfl⟩ : ∃ m, k = m + 1 := ⟨k - 1, by omega⟩
    obtain rfl : i = 8 := by omega
    simp only [spec_l27Put.l0]
    rw [if_neg (by omega)]
    exact ⟨x, rfl, hs, hm⟩
  | succ d ih =>
    intro k i x hi hk hs hx hm
    obtain ⟨k, rfl⟩ : ∃ m, k = m + 1 := ⟨k - 1, by omega⟩
    simp only [spec_l27Put.l0]
    rw [if_pos (by omega), spec_HasLane_is]
    simp only [Option.bind_some]
    by_cases hh : hasB m (i : Int) = true
    · obtain ⟨r, e, h1, h2, h3⟩ := put_is x (wrap64 (Int.tdiv (rd l (i : Int)) n)) (by omega) hs k (by omega)
      rw [if_pos hh, if_pos (by omega), if_neg hn, e]
      simp only [Option.bind_some]
      rw [w64s i (by omega)]
      refine ih k (i + 1) r (by omega) (by omega) h1 (by omega) (fun y => ?_)
      rw [h3 y, hm y]
      constructor
      · rintro (⟨j, a, b, c⟩ | c)
        · exact ⟨j, by omega, b, c⟩
        · exact ⟨i, by omega, hh, c⟩
      · rintro ⟨j, a, b, c⟩
        by_cases e2 : j = i
        · subst e2; exact Or.inr c
        · exact Or.inl ⟨j, by omega, b, c⟩
    · rw [if_neg hh, w64s i (by omega)]
      refine ih k (i + 1) x (by omega) (by omega) hs (by omega) (fun y => ?_)
      rw [hm y]
      constructor
      · rintro ⟨j, a, b, c⟩
        exact ⟨j, by omega, b, c⟩
      · rintro ⟨j, a, b, c⟩
        by_cases e2 : j = i
        · subst e2; exact absurd b hh
        · exact ⟨j, by omega, b, c⟩
theorem l27_is (l : List Int) (m n : Int) (h8 : l.length = 8) (hn : n ≠ 0) (k : Nat) (hk : 40 ≤ k) : ∃ r, spec_l27Put.f k l m n = some r ∧ SA r ∧ ∀ y, y ∈ r ↔ ∃ j : Nat, j < 8 ∧ hasB m (j : Int) = true ∧ y = wrap64 (Int.tdiv (rd l (j : Int)) n) := by
  unfold spec_l27Put.f
  exact l27_go l m n h8 hn 8 k 0 [] (by omega) (by omega) List.Pairwise.nil (by simp) (fun y => by simp)
theorem compact_go (d : Array Int) (hd : ∀ i j : Nat, i ≤ j → j < d.size → d[i]! ≤ d[j]!) : ∀ m : Nat, m ≤ d.size → SA (Go.Lib.compactUpTo d m) ∧ ∀ y, y ∈ Go.Lib.compactUpTo d m ↔ ∃ j : Nat, j < m ∧ y = d[j]! := by
  intro m
  induction m with
  | zero =>
    intro _
    have e : Go.Lib.compactUpTo d 0 = [] := rfl
    rw [e]
    exact ⟨List.Pairwise.nil, fun y => by simp⟩
  | succ m ih =>
    intro hm
    obtain ⟨h1, h2⟩ := ih (by omega)
    rw [Go.Lib.compactUpTo_succ]
    by_cases hk : Go.Lib.keeps d m = true
    · rw [if_pos hk]
      have hlt : ∀ y ∈ Go.Lib.compactUpTo d m, y < d[m]! := by
        intro y hy
        obtain ⟨j, hj, rfl⟩ := (h2 y).1 hy
        have hne : d[m]! ≠ d[m - 1]! := by
          intro e
          rw [Go.Lib.keeps_neg (by omega) e] at hk
          cases hk
        have a1 := hd j (m - 1) (by omega) (by omega)
        have a2 := hd (m - 1) m (by omega) (by omega)
        omega
      refine ⟨?_, fun y => ?_⟩
      · unfold SA at h1 ⊢
        rw [List.pairwise_append]
        refine ⟨h1, List.pairwise_singleton _ _, fun a ha b hb => ?_⟩
        rw [List.mem_singleton] at hb
        subst hb
        exact hlt a ha
      · rw [List.mem_append, h2 y, List.mem_singleton]
        constructor
        · rintro (⟨j, a, b⟩ | b)
          · exact ⟨j, by omega, b⟩
          · exact ⟨m, by omega, b⟩
        · rintro ⟨j, a, b⟩
          by_cases e : j = m
          · subst e; exact Or.inr b
          · exact Or.inl ⟨j, by omega, b⟩
    · rw [if_neg hk, List.append_nil]
      refine ⟨h1, fun y => ?_⟩
      rw [h2 y]
      constructor
      · rintro ⟨j, a, b⟩
        exact ⟨j, by omega, b⟩
      · rintro ⟨j, a, b⟩
        by_cases e : j = m
        · subst e
          have hm0 : 0 < j := by
            by_cases h0 : 0 < j
            · exact h0
            · have : j = 0 := by omega
              subst this
              rw [Go.Lib.keeps_lt_one d 0 (by omega)] at hk
              exact absurd rfl hk
          have he : d[j]! = d[j - 1]! := Classical.byContradiction fun hne => hk (Go.Lib.keeps_pos hne)
          exact ⟨j - 1, by omega, by rw [b, he]⟩
        · exact ⟨j, by omega, b⟩
theorem difL_is (zs : List Int) : SA (difL zs) ∧ ∀ y, y ∈ difL zs ↔ y ∈ zs := by
  have hp : (zs.mergeSort fun x y => decide (x ≤ y)).Pairwise fun x y => decide (x ≤ y) = true := List.pairwise_mergeSort (fun a b c h1 h2 => by simp at *; omega) (fun a b => by simp; omega) zs
  have hperm := List.mergeSort_perm zs fun x y => decide (x ≤ y)
  unfold difL Go.Lib.compact
  generalize (zs.mergeSort fun x y => decide (x ≤ y)) = s at hp hperm
  have hd : ∀ i j : Nat, i ≤ j → j < s.toArray.size → s.toArray[i]! ≤ s.toArray[j]! := by
    intro i j hij hj
    have hj' : j < s.length := by simpa using hj
    have e1 : s.toArray[i]! = s[i] := by simp [show i < s.length by omega]
    have e2 : s.toArray[j]! = s[j] := by simp [hj']
    rw [e1, e2]
    by_cases e : i = j
    · subst e; exact Int.le_refl _
    · have := (List.pairwise_iff_getElem.1 hp) i j (by omega) hj' (by omega)
      simpa using this
  obtain ⟨h1, h2⟩ := compact_go s.toArray hd s.length (by simp)
  refine ⟨h1, fun y => ?_⟩
  rw [h2 y, ← hperm.mem_iff]
  constructor
  · rintro ⟨j, hj, rfl⟩
    have e : s.toArray[j]! = s[j] := by simp [hj]
    rw [e]
    exact List.getElem_mem hj
  · intro hy
    obtain ⟨j, hj, rfl⟩ := List.mem_iff_getElem.1 hy
    exact ⟨j, hj, by simp [hj]⟩
theorem dif_lines (l : List Int) (m n : Int) (fv : Int → Int) (hfv : ∀ i : Int, fv i = wrap64 (Int.tdiv (rd l i) n)) (r : List Int) (hs : SA r) (hr : ∀ y, y ∈ r ↔ ∃ j : Nat, j < 8 ∧ hasB m (j : Int) = true ∧ y = wrap64 (Int.tdiv (rd l (j : Int)) n)) : r = difL ((lanesL m).map fv) := by
  obtain ⟨h1, h2⟩ := difL_is ((lanesL m).map fv)
  refine sa_ext _ _ hs h1 (fun y => ?_)
  rw [hr y, h2 y, List.mem_map]
  constructor
  · rintro ⟨j, a, b, c⟩
    exact ⟨(j : Int), (lanesL_iff m _).2 ⟨j, a, b, rfl⟩, by rw [hfv, c]⟩
  · rintro ⟨x, hx, rfl⟩
    obtain ⟨j, a, b, rfl⟩ := (lanesL_iff m x).1 hx
    exact ⟨j, a, b, hfv _⟩

end Go.Proofs.Ytfeadincafegcaa.Pure
