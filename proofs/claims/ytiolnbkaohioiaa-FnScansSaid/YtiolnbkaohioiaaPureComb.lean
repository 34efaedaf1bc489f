/- Combining words in any order answers the same. -/
import Derived.Test.YtiolnbkaohioiaaPureCombine
import Derived.Test.YtiolnbkaohioiaaPureReduceMasked
namespace Go.Proofs.Ytiolnbkaohioiaa.Pure
open Go.RowKit Go.Proofs.Ytiolnbkaohioiaa.P Go.Proofs.YtiolnbkaohioiaaW.PrintWords Go.Proofs.YtiolnbkaohioiaaW.PrintLast Go.Proofs.YtiolnbkaohioiaaW.PrintMore

theorem isWordB_iff (a : Int) : isWordB a = true ↔ 0 ≤ a ∧ a ≤ 65535 := by
  unfold isWordB
  simp
theorem xor_nat (x y : Nat) (hx : x < 65536) (hy : y < 65536) : Go.bits .xor .i64 (x : Int) (y : Int) = ((x ^^^ y : Nat) : Int) ∧ x ^^^ y < 65536 := by
  have hxy : x ^^^ y < 2 ^ 16 := Nat.xor_lt_two_pow (by omega) (by omega)
  refine ⟨?_, by omega⟩
  simp only [Go.bits, BitVec.ofInt_natCast, BitVec.toNat_xor, BitVec.toNat_ofNat]
  rw [show IntKind.i64.bits = 64 from rfl, Nat.mod_eq_of_lt (a := x) (by omega), Nat.mod_eq_of_lt (a := y) (by omega), IntKind.wrap_i64]
  omega
theorem addW_eq {a b : Int} (ha : isWordB a = true) (hb : isWordB b = true) : addW a b = (a + b) % 65536 := by
  unfold addW
  rw [ha, hb]
  rfl
theorem comb_comm (op : Int) {a b : Int} (ha : isWordB a = true) (hb : isWordB b = true) : comb op a b = comb op b a := by
  unfold comb
  rw [addW_eq ha hb, addW_eq hb ha]
  rw [isWordB_iff] at ha hb
  obtain ⟨x, rfl⟩ := Int.eq_ofNat_of_zero_le ha.1
  obtain ⟨y, rfl⟩ := Int.eq_ofNat_of_zero_le hb.1
  rw [(xor_nat x y (by omega) (by omega)).1, (xor_nat y x (by omega) (by omega)).1, Nat.xor_comm]
  unfold mn mx
  repeat' split
  all_goals omega
theorem comb_assoc (op : Int) {a b c : Int} (ha : isWordB a = true) (hb : isWordB b = true) (hc : isWordB c = true) : comb op (comb op a b) c = comb op a (comb op b c) := by
  by_cases h0 : op = 0
  · subst h0
    have e : ∀ x y, comb 0 x y = addW x y := fun x y => rfl
    rw [e, e, e, e, addW_eq ha hb, addW_eq hb hc]
    rw [addW_eq (by rw [isWordB_iff]; omega) hc, addW_eq ha (by rw [isWordB_iff]; omega)]
    omega
  · by_cases h1 : op = 1
    · subst h1
      have e : ∀ x y, comb 1 x y = Go.bits .xor .i64 x y := fun x y => rfl
      rw [e, e, e, e]
      rw [isWordB_iff] at ha hb hc
      obtain ⟨x, rfl⟩ := Int.eq_ofNat_of_zero_le ha.1
      obtain ⟨y, rfl⟩ := Int.eq_ofNat_of_zero_le hb.1
      obtain ⟨z, rfl⟩ := Int.eq_ofNat_of_zero_le hc.1
      have h1 := xor_nat x y (by omega) (by omega)
      have h2 := xor_nat y z (by omega) (by omega)
      rw [h1.1, h2.1, (xor_nat _ z h1.2 (by omega)).1, (xor_nat x _ (by omega) h2.2).1, Nat.xor_assoc]
    · unfold comb
      rw [if_neg h0, if_neg h0, if_neg h0, if_neg h0, if_neg h1, if_neg h1, if_neg h1, if_neg h1]
      unfold mn mx
      repeat' split
      all_goals omega
theorem comb_neut {op a : Int} (ho : isOpB op = true) (ha : isWordB a = true) : comb op (neutB op) a = a := by
  unfold neutB
  rw [if_pos ho]
  have hop : 0 ≤ op ∧ op ≤ 3 := by unfold isOpB at ho; simpa using ho
  unfold comb
  by_cases h0 : op = 0
  · subst h0
    simp only [if_true]
    rw [if_neg (by omega), addW_eq (by decide) ha]
    rw [isWordB_iff] at ha
    omega
  · rw [if_neg h0]
    by_cases h1 : op = 1
    · subst h1
      rw [if_pos rfl, if_neg (by omega)]
      rw [isWordB_iff] at ha
      obtain ⟨x, rfl⟩ := Int.eq_ofNat_of_zero_le ha.1
      have h := (xor_nat 0 x (by omega) (by omega)).1
      rw [Nat.zero_xor] at h
      exact h
    · rw [if_neg h1]
      rw [isWordB_iff] at ha
      unfold mn mx
      repeat' split
      all_goals omega
/-- Words, and combining them. -/
def Wd : Type := {x : Int // isWordB x = true}
def cw (op : Int) (a b : Wd) : Wd := ⟨comb op a.1 b.1, comb_word op a.1 b.1 a.2 b.2⟩
theorem cw_comm (op : Int) (a b : Wd) : cw op a b = cw op b a := Subtype.ext (comb_comm op a.2 b.2)
theorem cw_assoc (op : Int) (a b c : Wd) : cw op (cw op a b) c = cw op a (cw op b c) := Subtype.ext (comb_assoc op a.2 b.2 c.2)
instance (op : Int) : Std.Associative (cw op) := ⟨cw_assoc op⟩
instance (op : Int) : Std.Commutative (cw op) := ⟨cw_comm op⟩
theorem cw_val (op : Int) (a b : Wd) : comb op a.1 b.1 = (cw op a b).1 := rfl
/-- The word of lane i. -/
def wd (l : List Int) (hv : valsB l = true) (i : Int) (h0 : 0 ≤ i) (h1 : i < 8) : Wd := ⟨rd l i, valsB_word hv i h0 h1⟩
def nw (op : Int) (ho : isOpB op = true) : Wd := ⟨neutB op, neutB_word ho⟩
theorem nw_cw (op : Int) (ho : isOpB op = true) (a : Wd) : cw op (nw op ho) a = a := Subtype.ext (comb_neut ho a.2)
theorem cw_nw (op : Int) (ho : isOpB op = true) (a : Wd) : cw op a (nw op ho) = a := by rw [cw_comm, nw_cw]
theorem lanesL_all : lanesL 255 = [0, 1, 2, 3, 4, 5, 6, 7] := by decide +kernel
theorem lanesL_nil : lanesL 0 = [] := by decide +kernel
theorem redM_nil (op : Int) (l : List Int) (hv : valsB l = true) (ho : isOpB op = true) : redM op l 0 = neutB op := by
  unfold redM
  rw [hv, ho, lanesL_nil]
  rfl
theorem redM_all (op : Int) (l : List Int) (hv : valsB l = true) (ho : isOpB op = true) : redM op l 255 = comb op (comb op (comb op (comb op (comb op (comb op (comb op (rd l 0) (rd l 1)) (rd l 2)) (rd l 3)) (rd l 4)) (rd l 5)) (rd l 6)) (rd l 7) := by
  unfold redM
  rw [hv, ho, lanesL_all]
  have h := comb_neut ho (valsB_word hv 0 (by omega) (by omega))
  simp only [foldL, List.foldl_cons, List.foldl_nil]
  rw [h]
  rfl

end Go.Proofs.Ytiolnbkaohioiaa.Pure
