/- The network of six stages: what it does to eight values. -/
import Derived.Test.YtfeadincafegcaaGxImpl24
import Derived.Test.YtfeadincafegcaaPureWords
namespace Go.Proofs.Ytfeadincafegcaa.Pure
open Go.RowKit Go.Proofs.Ytfeadincafegcaa.P Go.Proofs.YtfeadincafegcaaW.PrintWords Go.Proofs.YtfeadincafegcaaW.PrintLast Go.Proofs.YtfeadincafegcaaW.PrintMore

/-- The values after a stage; none for values that are no lanes, or a stage that is none. -/
def applyL (l : List Int) (s : Int) : List Int := if valsB l = true ∧ 0 ≤ s ∧ s ≤ 5 then applyP l (stageL s) else []
theorem impl_ApplyStage_is (l : List Int) (s : Int) : impl_ApplyStage.f l s = some (applyL l s) := by
  unfold impl_ApplyStage.f applyL
  rw [impl_ValuesOk_is, Option.bind_some]
  cases hv : valsB l with
  | false => rw [if_neg (by decide), if_neg (by simp)]
  | true =>
    rw [if_pos rfl, if_pos (valsB_len hv)]
    by_cases hs : 0 ≤ s ∧ s ≤ 5
    · rw [if_neg (fun e => stageL_nil s e hs), if_pos ⟨rfl, hs⟩]
    · rw [if_pos (by unfold stageL; simp only [show ¬ s = 0 by omega, show ¬ s = 1 by omega, show ¬ s = 2 by omega, show ¬ s = 3 by omega, show ¬ s = 4 by omega, show ¬ s = 5 by omega, if_false]), if_neg (fun h => hs h.2)]

def st0 {α : Type} (f g : α → α → α) : List α → List α
  | [a, b, c, d, e, x, y, z] => [f a b, g a b, g d c, f d c, f e x, g e x, g z y, f z y]
  | l => l
def st1 {α : Type} (f g : α → α → α) : List α → List α
  | [a, b, c, d, e, x, y, z] => [f a c, f b d, g a c, g b d, g y e, g z x, f y e, f z x]
  | l => l
def st2 {α : Type} (f g : α → α → α) : List α → List α
  | [a, b, c, d, e, x, y, z] => [f a b, g a b, f c d, g c d, g x e, f x e, g z y, f z y]
  | l => l
def st3 {α : Type} (f g : α → α → α) : List α → List α
  | [a, b, c, d, e, x, y, z] => [f a e, f b x, f c y, f d z, g a e, g b x, g c y, g d z]
  | l => l
def st4 {α : Type} (f g : α → α → α) : List α → List α
  | [a, b, c, d, e, x, y, z] => [f a c, f b d, g a c, g b d, f e y, f x z, g e y, g x z]
  | l => l
def st5 {α : Type} (f g : α → α → α) : List α → List α
  | [a, b, c, d, e, x, y, z] => [f a b, g a b, f c d, g c d, f e x, g e x, f y z, g y z]
  | l => l
def net {α : Type} (f g : α → α → α) (l : List α) : List α := st5 f g (st4 f g (st3 f g (st2 f g (st1 f g (st0 f g l)))))

theorem eight {α : Type} {l : List α} (h : l.length = 8) : ∃ a b c d e x y z, l = [a, b, c, d, e, x, y, z] := by
  match l, h with
  | [a, b, c, d, e, x, y, z], _ => exact ⟨a, b, c, d, e, x, y, z, rfl⟩

section
variable {α β : Type} (f g : α → α → α) (f' g' : β → β → β) (φ : α → β) (hf : ∀ a b, φ (f a b) = f' (φ a) (φ b)) (hg : ∀ a b, φ (g a b) = g' (φ a) (φ b))
theorem len0 {l : List α} (h : l.length = 8) : (st0 f g l).length = 8 := by obtain ⟨a, b, c, d, e, x, y, z, rfl⟩ := eight h; rfl
theorem len1 {l : List α} (h : l.length = 8) : (st1 f g l).length = 8 := by obtain ⟨a, b, c, d, e, x, y, z, rfl⟩ := eight h; rfl
theorem len2 {l : List α} (h : l.length = 8) : (st2 f g l).length = 8 := by obtain ⟨a, b, c, d, e, x, y, z, rfl⟩ := eight h; rfl
theorem len3 {l : List α} (h : l.length = 8) : (st3 f g l).length = 8 := by obtain ⟨a, b, c, d, e, x, y, z, rfl⟩ := eight h; rfl
theorem len4 {l : List α} (h : l.length = 8) : (st4 f g l).length = 8 := by obtain ⟨a, b, c, d, e, x, y, z, rfl⟩ := eight h; rfl
theorem len5 {l : List α} (h : l.length = 8) : (st5 f g l).length = 8 := by obtain ⟨a, b, c, d, e, x, y, z, rfl⟩ := eight h; rfl
theorem net_len {l : List α} (h : l.length = 8) : (net f g l).length = 8 := len5 f g (len4 f g (len3 f g (len2 f g (len1 f g (len0 f g h)))))
include hf hg
theorem map0 {l : List α} (h : l.length = 8) : (st0 f g l).map φ = st0 f' g' (l.map φ) := by obtain ⟨a, b, c, d, e, x, y, z, rfl⟩ := eight h; simp only [st0, List.map, hf, hg]
theorem map1 {l : List α} (h : l.length = 8) : (st1 f g l).map φ = st1 f' g' (l.map φ) := by obtain ⟨a, b, c, d, e, x, y, z, rfl⟩ := eight h; simp only [st1, List.map, hf, hg]
theorem map2 {l : List α} (h : l.length = 8) : (st2 f g l).map φ = st2 f' g' (l.map φ) := by obtain ⟨a, b, c, d, e, x, y, z, rfl⟩ := eight h; simp only [st2, List.map, hf, hg]
theorem map3 {l : List α} (h : l.length = 8) : (st3 f g l).map φ = st3 f' g' (l.map φ) := by obtain ⟨a, b, c, d, e, x, y, z, rfl⟩ := eight h; simp only [st3, List.map, hf, hg]
theorem map4 {l : List α} (h : l.length = 8) : (st4 f g l).map φ = st4 f' g' (l.map φ) := by obtain ⟨a, b, c, d, e, x, y, z, rfl⟩ := eight h; simp only [st4, List.map, hf, hg]
theorem map5 {l : List α} (h : l.length = 8) : (st5 f g l).map φ = st5 f' g' (l.map φ) := by obtain ⟨a, b, c, d, e, x, y, z, rfl⟩ := eight h; simp only [st5, List.map, hf, hg]
theorem map_net {l : List α} (h : l.length = 8) : (net f g l).map φ = net f' g' (l.map φ) := by
  unfold net
  have h0 := len0 f g h
  have h1 := len1 f g h0
  have h2 := len2 f g h1
  have h3 := len3 f g h2
  have h4 := len4 f g h3
  rw [map5 f g f' g' φ hf hg h4, map4 f g f' g' φ hf hg h3, map3 f g f' g' φ hf hg h2, map2 f g f' g' φ hf hg h1, map1 f g f' g' φ hf hg h0, map0 f g f' g' φ hf hg h]
end

def ascB : List Bool → Bool
  | a :: b :: r => (!a || b) && ascB (b :: r)
  | _ => true
theorem net_bool : ∀ a b c d e x y z : Bool, ascB (net and or [a, b, c, d, e, x, y, z]) = true ∧ net and or (net and or [a, b, c, d, e, x, y, z]) = net and or [a, b, c, d, e, x, y, z] := by decide +kernel
def bit (t x : Int) : Bool := decide (t ≤ x)
theorem bit_mn (t a b : Int) : bit t (mn a b) = (bit t a && bit t b) := by
  unfold bit mn
  rw [Bool.eq_iff_iff]
  simp only [decide_eq_true_eq, Bool.and_eq_true]
  split <;> omega
theorem bit_mx (t a b : Int) : bit t (mx a b) = (bit t a || bit t b) := by
  unfold bit mx
  rw [Bool.eq_iff_iff]
  simp only [decide_eq_true_eq, Bool.or_eq_true]
  split <;> omega
theorem eq_of_bits : ∀ (l l' : List Int), (∀ t, l.map (bit t) = l'.map (bit t)) → l = l'
  | [], [], _ => rfl
  | [], b :: _, h => by have h1 := h 0; simp at h1
  | a :: _, [], h => by have h1 := h 0; simp at h1
  | a :: l, b :: l', h => by
    have h1 := fun t => List.cons.inj (h t)
    have ha := (h1 a).1
    have hb := (h1 b).1
    have hr := eq_of_bits l l' (fun t => (h1 t).2)
    unfold bit at ha hb
    have e1 : a ≤ b := by simpa using ha.symm
    have e2 : b ≤ a := by simpa using hb
    rw [hr, show a = b by omega]
theorem net_asc (l : List Int) (h : l.length = 8) (t : Int) : ascB ((net mn mx l).map (bit t)) = true := by
  rw [map_net mn mx and or (bit t) (bit_mn t) (bit_mx t) h]
  obtain ⟨a, b, c, d, e, x, y, z, rfl⟩ := eight h
  exact (net_bool _ _ _ _ _ _ _ _).1
theorem net_twice (l : List Int) (h : l.length = 8) : net mn mx (net mn mx l) = net mn mx l := by
  refine eq_of_bits _ _ (fun t => ?_)
  rw [map_net mn mx and or (bit t) (bit_mn t) (bit_mx t) (net_len mn mx h), map_net mn mx and or (bit t) (bit_mn t) (bit_mx t) h]
  obtain ⟨a, b, c, d, e, x, y, z, rfl⟩ := eight h
  exact (net_bool _ _ _ _ _ _ _ _).2
theorem rd_next (a : Int) (r : List Int) (j : Nat) : rd (a :: r) ((j + 1 : Nat) : Int) = rd r (j : Int) := by
  unfold rd
  rw [Int.toNat_natCast, Int.toNat_natCast]
  rfl
theorem asc_step {l : List Int} (h : ∀ t, ascB (l.map (bit t)) = true) : ∀ j : Nat, j + 1 < l.length → rd l (j : Int) ≤ rd l ((j + 1 : Nat) : Int) := by
  induction l with
  | nil => intro j hj; simp at hj
  | cons a r ih =>
    cases r with
    | nil => intro j hj; simp at hj
    | cons b r =>
      have h2 : ∀ t, ascB ((b :: r).map (bit t)) = true := fun t => by
        have h1 := h t
        simp only [List.map, ascB, Bool.and_eq_true] at h1
        exact h1.2
      intro j hj
      cases j with
      | zero =>
        have h1 := h a
        simp only [List.map, ascB, Bool.and_eq_true, Bool.or_eq_true] at h1
        have h3 := h1.1
        unfold bit at h3
        have h4 : a ≤ b := by simpa using h3
        simpa [rd, rdOf] using h4
      | succ j =>
        have h5 := ih h2 j (by simpa using hj)
        rw [rd_next a (b :: r) j, rd_next a (b :: r) (j + 1)]
        exact h5
def c1 (n x : Int) : Nat := if x = n then 1 else 0
def cnt (l : List Int) (n : Int) : Nat := (l.map (c1 n)).sum
theorem c1_pair (n a b : Int) : c1 n (mn a b) + c1 n (mx a b) = c1 n a + c1 n b := by
  unfold mn mx
  by_cases h : b < a
  · rw [if_pos h, if_neg (by omega)]; omega
  · rw [if_neg h]
    by_cases h2 : a < b
    · rw [if_pos h2]
    · rw [if_neg h2]; have e : a = b := by omega
      rw [e]
section
variable (n : Int)
theorem cnt0 {l : List Int} (h : l.length = 8) : cnt (st0 mn mx l) n = cnt l n := by
  obtain ⟨a, b, c, d, e, x, y, z, rfl⟩ := eight h
  have h1 := c1_pair n a b; have h2 := c1_pair n d c; have h3 := c1_pair n e x; have h4 := c1_pair n z y
  simp only [cnt, st0, List.map, List.sum_cons, List.sum_nil]; omega
theorem cnt1 {l : List Int} (h : l.length = 8) : cnt (st1 mn mx l) n = cnt l n := by
  obtain ⟨a, b, c, d, e, x, y, z, rfl⟩ := eight h
  have h1 := c1_pair n a c; have h2 := c1_pair n b d; have h3 := c1_pair n y e; have h4 := c1_pair n z x
  simp only [cnt, st1, List.map, List.sum_cons, List.sum_nil]; omega
theorem cnt2 {l : List Int} (h : l.length = 8) : cnt (st2 mn mx l) n = cnt l n := by
  obtain ⟨a, b, c, d, e, x, y, z, rfl⟩ := eight h
  have h1 := c1_pair n a b; have h2 := c1_pair n c d; have h3 := c1_pair n x e; have h4 := c1_pair n z y
  simp only [cnt, st2, List.map, List.sum_cons, List.sum_nil]; omega
theorem cnt3 {l : List Int} (h : l.length = 8) : cnt (st3 mn mx l) n = cnt l n := by
  obtain ⟨a, b, c, d, e, x, y, z, rfl⟩ := eight h
  have h1 := c1_pair n a e; have h2 := c1_pair n b x; have h3 := c1_pair n c y; have h4 := c1_pair n d z
  simp only [cnt, st3, List.map, List.sum_cons, List.sum_nil]; omega
theorem cnt4 {l : List Int} (h : l.length = 8) : cnt (st4 mn mx l) n = cnt l n := by
  obtain ⟨a, b, c, d, e, x, y, z, rfl⟩ := eight h
  have h1 := c1_pair n a c; have h2 := c1_pair n b d; have h3 := c1_pair n e y; have h4 := c1_pair n x z
  simp only [cnt, st4, List.map, List.sum_cons, List.sum_nil]; omega
theorem cnt5 {l : List Int} (h : l.length = 8) : cnt (st5 mn mx l) n = cnt l n := by
  obtain ⟨a, b, c, d, e, x, y, z, rfl⟩ := eight h
  have h1 := c1_pair n a b; have h2 := c1_pair n c d; have h3 := c1_pair n e x; have h4 := c1_pair n y z
  simp only [cnt, st5, List.map, List.sum_cons, List.sum_nil]; omega
theorem net_cnt {l : List Int} (h : l.length = 8) : cnt (net mn mx l) n = cnt l n := by
  unfold net
  have h0 := len0 mn mx h
  have h1 := len1 mn mx h0
  have h2 := len2 mn mx h1
  have h3 := len3 mn mx h2
  have h4 := len4 mn mx h3
  rw [cnt5 n h4, cnt4 n h3, cnt3 n h2, cnt2 n h1, cnt1 n h0, cnt0 n h]
end
theorem ap0 {l : List Int} (h : l.length = 8) : applyP l (stageL 0) = st0 mn mx l := by obtain ⟨a, b, c, d, e, x, y, z, rfl⟩ := eight h; rfl
theorem ap1 {l : List Int} (h : l.length = 8) : applyP l (stageL 1) = st1 mn mx l := by obtain ⟨a, b, c, d, e, x, y, z, rfl⟩ := eight h; rfl
theorem ap2 {l : List Int} (h : l.length = 8) : applyP l (stageL 2) = st2 mn mx l := by obtain ⟨a, b, c, d, e, x, y, z, rfl⟩ := eight h; rfl
theorem ap3 {l : List Int} (h : l.length = 8) : applyP l (stageL 3) = st3 mn mx l := by obtain ⟨a, b, c, d, e, x, y, z, rfl⟩ := eight h; rfl
theorem ap4 {l : List Int} (h : l.length = 8) : applyP l (stageL 4) = st4 mn mx l := by obtain ⟨a, b, c, d, e, x, y, z, rfl⟩ := eight h; rfl
theorem ap5 {l : List Int} (h : l.length = 8) : applyP l (stageL 5) = st5 mn mx l := by obtain ⟨a, b, c, d, e, x, y, z, rfl⟩ := eight h; rfl
theorem isWord_mn {a b : Int} (ha : isWordB a = true) (hb : isWordB b = true) : isWordB (mn a b) = true := by unfold mn; split <;> assumption
theorem isWord_mx {a b : Int} (ha : isWordB a = true) (hb : isWordB b = true) : isWordB (mx a b) = true := by unfold mx; split <;> assumption
theorem vals_words {a b c d e x y z : Int} : valsB [a, b, c, d, e, x, y, z] = true ↔ (isWordB a = true ∧ isWordB b = true ∧ isWordB c = true ∧ isWordB d = true ∧ isWordB e = true ∧ isWordB x = true ∧ isWordB y = true ∧ isWordB z = true) := by
  unfold valsB
  simp [and_assoc]
theorem val0 {l : List Int} (h : valsB l = true) : valsB (st0 mn mx l) = true := by
  obtain ⟨a, b, c, d, e, x, y, z, rfl⟩ := eight (valsB_len h)
  obtain ⟨ha, hb, hc, hd, he, hx, hy, hz⟩ := vals_words.1 h
  exact vals_words.2 (by refine ⟨?_, ?_, ?_, ?_, ?_, ?_, ?_, ?_⟩ <;> first | (apply isWord_mn <;> assumption) | (apply isWord_mx <;> assumption))
theorem val1 {l : List Int} (h : valsB l = true) : valsB (st1 mn mx l) = true := by
  obtain ⟨a, b, c, d, e, x, y, z, rfl⟩ := eight (valsB_len h)
  obtain ⟨ha, hb, hc, hd, he, hx, hy, hz⟩ := vals_words.1 h
  exact vals_words.2 (by refine ⟨?_, ?_, ?_, ?_, ?_, ?_, ?_, ?_⟩ <;> first | (apply isWord_mn <;> assumption) | (apply isWord_mx <;> assumption))
theorem val2 {l : List Int} (h : valsB l = true) : valsB (st2 mn mx l) = true := by
  obtain ⟨a, b, c, d, e, x, y, z, rfl⟩ := eight (valsB_len h)
  obtain ⟨ha, hb, hc, hd, he, hx, hy, hz⟩ := vals_words.1 h
  exact vals_words.2 (by refine ⟨?_, ?_, ?_, ?_, ?_, ?_, ?_, ?_⟩ <;> first | (apply isWord_mn <;> assumption) | (apply isWord_mx <;> assumption))
theorem val3 {l : List Int} (h : valsB l = true) : valsB (st3 mn mx l) = true := by
  obtain ⟨a, b, c, d, e, x, y, z, rfl⟩ := eight (valsB_len h)
  obtain ⟨ha, hb, hc, hd, he, hx, hy, hz⟩ := vals_words.1 h
  exact vals_words.2 (by refine ⟨?_, ?_, ?_, ?_, ?_, ?_, ?_, ?_⟩ <;> first | (apply isWord_mn <;> assumption) | (apply isWord_mx <;> assumption))
theorem val4 {l : List Int} (h : valsB l = true) : valsB (st4 mn mx l) = true := by
  obtain ⟨a, b, c, d, e, x, y, z, rfl⟩ := eight (valsB_len h)
  obtain ⟨ha, hb, hc, hd, he, hx, hy, hz⟩ := vals_words.1 h
  exact vals_words.2 (by refine ⟨?_, ?_, ?_, ?_, ?_, ?_, ?_, ?_⟩ <;> first | (apply isWord_mn <;> assumption) | (apply isWord_mx <;> assumption))
theorem val5 {l : List Int} (h : valsB l = true) : valsB (st5 mn mx l) = true := by
  obtain ⟨a, b, c, d, e, x, y, z, rfl⟩ := eight (valsB_len h)
  obtain ⟨ha, hb, hc, hd, he, hx, hy, hz⟩ := vals_words.1 h
  exact vals_words.2 (by refine ⟨?_, ?_, ?_, ?_, ?_, ?_, ?_, ?_⟩ <;> first | (apply isWord_mn <;> assumption) | (apply isWord_mx <;> assumption))
theorem al0 {l : List Int} (h : valsB l = true) : applyL l 0 = st0 mn mx l := by unfold applyL; rw [if_pos ⟨h, by decide⟩, ap0 (valsB_len h)]
theorem al1 {l : List Int} (h : valsB l = true) : applyL l 1 = st1 mn mx l := by unfold applyL; rw [if_pos ⟨h, by decide⟩, ap1 (valsB_len h)]
theorem al2 {l : List Int} (h : valsB l = true) : applyL l 2 = st2 mn mx l := by unfold applyL; rw [if_pos ⟨h, by decide⟩, ap2 (valsB_len h)]
theorem al3 {l : List Int} (h : valsB l = true) : applyL l 3 = st3 mn mx l := by unfold applyL; rw [if_pos ⟨h, by decide⟩, ap3 (valsB_len h)]
theorem al4 {l : List Int} (h : valsB l = true) : applyL l 4 = st4 mn mx l := by unfold applyL; rw [if_pos ⟨h, by decide⟩, ap4 (valsB_len h)]
theorem al5 {l : List Int} (h : valsB l = true) : applyL l 5 = st5 mn mx l := by unfold applyL; rw [if_pos ⟨h, by decide⟩, ap5 (valsB_len h)]
def sortL (l : List Int) : List Int := if valsB l = true then net mn mx l else []
theorem sort_six (l : List Int) : applyL (applyL (applyL (applyL (applyL (applyL l 0) 1) 2) 3) 4) 5 = sortL l := by
  have nil_ : ∀ s, applyL [] s = [] := fun s => by unfold applyL; rw [if_neg (fun h => absurd h.1 (by decide))]
  unfold sortL
  by_cases hv : valsB l = true
  · rw [if_pos hv]
    have v0 := val0 hv
    have v1 := val1 v0
    have v2 := val2 v1
    have v3 := val3 v2
    have v4 := val4 v3
    rw [al0 hv, al1 v0, al2 v1, al3 v2, al4 v3, al5 v4]
    rfl
  · rw [if_neg hv]
    have a0 : applyL l 0 = [] := by unfold applyL; rw [if_neg (fun h => hv h.1)]
    rw [a0, nil_, nil_, nil_, nil_, nil_]
theorem sortL_vals {l : List Int} (h : valsB l = true) : valsB (sortL l) = true := by
  unfold sortL
  rw [if_pos h]
  exact val5 (val4 (val3 (val2 (val1 (val0 h)))))

end Go.Proofs.Ytfeadincafegcaa.Pure
