/- The order of the lanes can be read from their tickets, for every setting. -/
import Derived.Test.YteehgmbbmlfggaaGxPFnTickets
import Derived.Test.YteehgmbbmlfggaaPureOrder
import Derived.Test.YteehgmbbmlfggaaPurePermOf
import Derived.Test.YteehgmbbmlfggaaPureTicketOrder
import Derived.Test.YteehgmbbmlfggaaPureDrawPerm
import Derived.Test.YteehgmbbmlfggaaPureDrawWord
namespace Go.Proofs.Yteehgmbbmlfggaa.Pure
open Go.RowKit Go.Proofs.Yteehgmbbmlfggaa.P Go.Proofs.YteehgmbbmlfggaaW.PrintWords Go.Proofs.YteehgmbbmlfggaaW.PrintLast

theorem tk_same_go (l : List Int) (hl : l.length ≤ 1073741824) : ∀ (d k i : Nat), i + d = l.length → d < k → laws_sameInts.l0 k l l (i : Int) = some true := by
  intro d
  induction d with
  | zero =>
    intro k i hi hk
    obtain ⟨k, rfl⟩ : ∃ m, k = m + 1 := ⟨k - 1, by omega⟩
    simp only [laws_sameInts.l0]
    rw [if_neg (by omega)]
  | succ d ih =>
    intro k i hi hk
    obtain ⟨k, rfl⟩ : ∃ m, k = m + 1 := ⟨k - 1, by omega⟩
    simp only [laws_sameInts.l0]
    rw [if_pos (by omega), if_pos (by omega), if_pos (by omega), if_pos trivial, w64s i (by omega)]
    exact ih k (i + 1) (by omega) (by omega)
theorem tk_same (l : List Int) (hl : l.length ≤ 1073741824) (k : Nat) (hk : l.length < k) : laws_sameInts.f k l l = some true := by
  unfold laws_sameInts.f
  rw [if_pos rfl]
  exact tk_same_go l hl l.length k 0 (by omega) hk
def one8 : List Int := [1, 1, 1, 1, 1, 1, 1, 1]
theorem rd_one8 : ∀ j : Fin 8, rd one8 ((j.val : Nat) : Int) = 1 := by decide +kernel
/-- What each lane gets where all values are 1: the start and how many came before. -/
theorem tk_get : ∀ (t o : List Int) (x : Int), isWordB x = true → t.Nodup → (∀ a ∈ t, 0 ≤ a ∧ a ≤ 7) → o.length = 8 → (addO one8 t o x).2.2 = true ∧ (addO one8 t o x).1.length = 8 ∧ (∀ n : Nat, n < t.length → (addO one8 t o x).1[(rd t (n : Int)).toNat]? = some ((x + (n : Int)) % 65536)) ∧ ∀ j : Nat, (j : Int) ∉ t → (addO one8 t o x).1[j]? = o[j]? := by
  intro t
  induction t with
  | nil =>
    intro o x _ _ _ ho
    exact ⟨rfl, ho, fun n hn => by simp at hn, fun j _ => rfl⟩
  | cons a t ih =>
    intro o x hx hn ha ho
    rw [List.nodup_cons] at hn
    have h := ha a (by simp)
    obtain ⟨j, rfl⟩ := Int.eq_ofNat_of_zero_le h.1
    have h1 : rd one8 (j : Int) = 1 := rd_one8 ⟨j, by omega⟩
    have e : addW x (rd one8 (j : Int)) = (x + 1) % 65536 := by
      unfold addW
      rw [h1, hx]
      rfl
    have hx' : isWordB ((x + 1) % 65536) = true := by
      unfold isWordB
      simp only [Bool.and_eq_true, decide_eq_true_eq]
      omega
    simp only [addO]
    rw [e, Int.toNat_natCast]
    obtain ⟨g1, g2, g3, g4⟩ := ih (o.set j x) ((x + 1) % 65536) hx' hn.2 (fun b hb => ha b (by simp [hb])) (by simpa using ho)
    refine ⟨g1, g2, fun n hlt => ?_, fun q hq => ?_⟩
    · cases n with
      | zero =>
        rw [show rd ((j : Int) :: t) ((0 : Nat) : Int) = (j : Int) from rfl, Int.toNat_natCast, g4 j hn.1, List.getElem?_set_self (by omega)]
        unfold isWordB at hx
        simp only [Bool.and_eq_true, decide_eq_true_eq] at hx
        congr 1
        omega
      | succ n =>
        have er : rd ((j : Int) :: t) ((n + 1 : Nat) : Int) = rd t (n : Int) := by
          unfold rd
          rw [Int.toNat_natCast, Int.toNat_natCast, List.getD_cons_succ]
        rw [er, g3 n (by simpa using hlt)]
        congr 1
        omega
    · rw [List.mem_cons] at hq
      rw [g4 q (fun h => hq (Or.inr h)), List.getElem?_set_ne (fun e => hq (Or.inl (by rw [e])))]
theorem tk_back (x : Int) (hx : isWordB x = true) (p : List Int) (hp : p.Perm lanes8') : (addO one8 p (List.replicate 8 0) x).2.2 = true ∧ tickO x (addO one8 p (List.replicate 8 0) x).1 = (p, true) := by
  have hp8 : p.length = 8 := by rw [hp.length_eq]; rfl
  have hnd : p.Nodup := hp.nodup_iff.2 (by decide)
  have hin : ∀ a ∈ p, 0 ≤ a ∧ a ≤ 7 := fun a ha => (mem_lanes a).1 (hp.mem_iff.1 ha)
  obtain ⟨g1, g2, g3, _⟩ := tk_get p (List.replicate 8 0) x hx hnd hin (by simp)
  refine ⟨g1, ?_⟩
  generalize (addO one8 p (List.replicate 8 0) x).1 = t at g2 g3
  have hxw := hx
  unfold isWordB at hxw
  simp only [Bool.and_eq_true, decide_eq_true_eq] at hxw
  have hmem : ∀ a ∈ t, ∃ n : Nat, n < 8 ∧ a = (x + (n : Int)) % 65536 := by
    intro a ha
    obtain ⟨j, hj, rfl⟩ := List.mem_iff_getElem.1 ha
    have hjp : (j : Int) ∈ p := hp.mem_iff.2 ((mem_lanes _).2 (by omega))
    obtain ⟨n, hn, e⟩ := List.mem_iff_getElem.1 hjp
    have h := g3 n hn
    have e2 : rd p (n : Int) = (j : Int) := by
      have := rd_nat p n hn
      rw [List.getElem?_eq_getElem hn, e] at this
      exact (Option.some.inj this).symm
    rw [e2, Int.toNat_natCast, List.getElem?_eq_getElem hj] at h
    exact ⟨n, by omega, Option.some.inj h⟩
  have hv : valsB t = true := by
    unfold valsB
    rw [g2]
    simp only [decide_true, Bool.true_and, List.all_eq_true]
    intro a ha
    obtain ⟨n, hn, rfl⟩ := hmem a ha
    unfold isWordB
    simp only [Bool.and_eq_true, decide_eq_true_eq]
    omega
  have hs : ∀ n : Nat, n < 8 → (subs x t)[(rd p (n : Int)).toNat]? = some (n : Int) := by
    intro n hn
    unfold subs
    rw [List.getElem?_map, g3 n (by omega), Option.map_some]
    congr 1
    unfold subW
    have hw : isWordB ((x + (n : Int)) % 65536) = true := by
      unfold isWordB
      simp only [Bool.and_eq_true, decide_eq_true_eq]
      omega
    rw [hw, hx]
    simp only [Bool.and_self, if_true]
    omega
  have hsl : (subs x t).length = 8 := by unfold subs; rw [List.length_map, g2]
  have hall : ∀ a ∈ lanes8', a ∈ subs x t := by
    intro a ha
    have := (mem_lanes a).1 ha
    obtain ⟨n, rfl⟩ := Int.eq_ofNat_of_zero_le this.1
    exact List.mem_of_getElem? (hs n (by omega))
  have hperm : (subs x t).Perm lanes8' := perm_of_all lanes8' (subs x t) (by decide) hall (by rw [hsl]; rfl)
  have hpb : permB (subs x t) = true := (permB_iff _).2 hperm
  have hsn : (subs x t).Nodup := hperm.nodup_iff.2 (by decide)
  have hidx : idxs (subs x t) = p := by
    apply List.ext_getElem?
    intro j
    by_cases hj : j < 8
    · rw [idxs_get _ j hj, idxFrom_at (subs x t) (rd p (j : Int)).toNat (j : Int) 0 hsn (hs j hj), rd_nat p j (by omega)]
      congr 1
      have := hin _ (List.mem_of_getElem? (rd_nat p j (by omega)))
      omega
    · rw [List.getElem?_eq_none (by rw [idxs_len]; omega), List.getElem?_eq_none (by omega)]
  unfold tickO
  rw [hx, hv, hpb, hidx]
  rfl
theorem FnTickets : laws_FnTickets.Pure := by
  intro l _ _ _
  obtain ⟨k0, hk0⟩ : ∃ k0 : Nat, 4100 ≤ k0 := ⟨4100, by omega⟩
  refine ⟨k0, ?_⟩
  unfold laws_FnTickets.f
  simp only [laws_big.f, Option.bind_some, decide_eq_true_eq]
  by_cases hb : (l.length : Int) > 1048576
  · rw [if_pos hb]
  · rw [if_neg hb]
    have hl : l.length ≤ 1048576 := by omega
    obtain ⟨p, ep, hp⟩ := DrawPermutation_is l hl k0 (by omega)
    obtain ⟨x, ex, hx⟩ := DrawWord_is l hl k0 (by omega)
    have hp8 : p.length = 8 := by rw [hp.length_eq]; rfl
    have hpb : permB p = true := (permB_iff p).2 hp
    obtain ⟨b1, b2⟩ := tk_back x hx p hp
    have a1 := impl_AddInOrder_is x one8 p (by omega) k0 (by omega)
    unfold addIn at a1
    rw [if_pos (by rw [hx, hpb]; decide)] at a1
    have ho : impl_ones.f = some one8 := rfl
    rw [ep]
    simp only [Option.bind_some]
    rw [ex]
    simp only [Option.bind_some]
    unfold impl_TicketsOf.f
    rw [ho]
    simp only [Option.bind_some]
    rw [a1]
    simp only [Option.bind_some]
    rw [impl_Order_is x _ k0 (by omega), b2, b1]
    simp only [Option.bind_some, if_true]
    rw [tk_same p (by omega) k0 (by omega)]
    rfl

end Go.Proofs.Yteehgmbbmlfggaa.Pure
