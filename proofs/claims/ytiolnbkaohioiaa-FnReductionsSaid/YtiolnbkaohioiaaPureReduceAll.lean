/- What all rounds of a reduction answer: each lane has all words combined. -/
import Derived.Test.YtiolnbkaohioiaaPureReduce
import Derived.Test.YtiolnbkaohioiaaPureComb
namespace Go.Proofs.Ytiolnbkaohioiaa.Pure
open Go.RowKit Go.Proofs.Ytiolnbkaohioiaa.P Go.Proofs.YtiolnbkaohioiaaW.PrintWords Go.Proofs.YtiolnbkaohioiaaW.PrintLast Go.Proofs.YtiolnbkaohioiaaW.PrintMore

theorem x04 : Go.bits .xor .i64 0 4 = 4 := by decide +kernel
theorem x14 : Go.bits .xor .i64 1 4 = 5 := by decide +kernel
theorem x24 : Go.bits .xor .i64 2 4 = 6 := by decide +kernel
theorem x34 : Go.bits .xor .i64 3 4 = 7 := by decide +kernel
theorem x44 : Go.bits .xor .i64 4 4 = 0 := by decide +kernel
theorem x54 : Go.bits .xor .i64 5 4 = 1 := by decide +kernel
theorem x64 : Go.bits .xor .i64 6 4 = 2 := by decide +kernel
theorem x74 : Go.bits .xor .i64 7 4 = 3 := by decide +kernel
theorem x02 : Go.bits .xor .i64 0 2 = 2 := by decide +kernel
theorem x12 : Go.bits .xor .i64 1 2 = 3 := by decide +kernel
theorem x22 : Go.bits .xor .i64 2 2 = 0 := by decide +kernel
theorem x32 : Go.bits .xor .i64 3 2 = 1 := by decide +kernel
theorem x42 : Go.bits .xor .i64 4 2 = 6 := by decide +kernel
theorem x52 : Go.bits .xor .i64 5 2 = 7 := by decide +kernel
theorem x62 : Go.bits .xor .i64 6 2 = 4 := by decide +kernel
theorem x72 : Go.bits .xor .i64 7 2 = 5 := by decide +kernel
theorem x01 : Go.bits .xor .i64 0 1 = 1 := by decide +kernel
theorem x11 : Go.bits .xor .i64 1 1 = 0 := by decide +kernel
theorem x21 : Go.bits .xor .i64 2 1 = 3 := by decide +kernel
theorem x31 : Go.bits .xor .i64 3 1 = 2 := by decide +kernel
theorem x41 : Go.bits .xor .i64 4 1 = 5 := by decide +kernel
theorem x51 : Go.bits .xor .i64 5 1 = 4 := by decide +kernel
theorem x61 : Go.bits .xor .i64 6 1 = 7 := by decide +kernel
theorem x71 : Go.bits .xor .i64 7 1 = 6 := by decide +kernel
theorem rdm0 (f : Int → Int) : rd (map8 f) 0 = f 0 := rd_map8 f 0 (by omega)
theorem rdm1 (f : Int → Int) : rd (map8 f) 1 = f 1 := rd_map8 f 1 (by omega)
theorem rdm2 (f : Int → Int) : rd (map8 f) 2 = f 2 := rd_map8 f 2 (by omega)
theorem rdm3 (f : Int → Int) : rd (map8 f) 3 = f 3 := rd_map8 f 3 (by omega)
theorem rdm4 (f : Int → Int) : rd (map8 f) 4 = f 4 := rd_map8 f 4 (by omega)
theorem rdm5 (f : Int → Int) : rd (map8 f) 5 = f 5 := rd_map8 f 5 (by omega)
theorem rdm6 (f : Int → Int) : rd (map8 f) 6 = f 6 := rd_map8 f 6 (by omega)
theorem rdm7 (f : Int → Int) : rd (map8 f) 7 = f 7 := rd_map8 f 7 (by omega)
theorem tree0 (op : Int) (w0 w1 w2 w3 w4 w5 w6 w7 : Wd) : (cw op (cw op (cw op w0 w4) (cw op w2 w6)) (cw op (cw op w1 w5) (cw op w3 w7))) = (cw op (cw op (cw op (cw op (cw op (cw op (cw op w0 w1) w2) w3) w4) w5) w6) w7) := by ac_rfl
theorem tree1 (op : Int) (w0 w1 w2 w3 w4 w5 w6 w7 : Wd) : (cw op (cw op (cw op w1 w5) (cw op w3 w7)) (cw op (cw op w0 w4) (cw op w2 w6))) = (cw op (cw op (cw op (cw op (cw op (cw op (cw op w0 w1) w2) w3) w4) w5) w6) w7) := by ac_rfl
theorem tree2 (op : Int) (w0 w1 w2 w3 w4 w5 w6 w7 : Wd) : (cw op (cw op (cw op w2 w6) (cw op w0 w4)) (cw op (cw op w3 w7) (cw op w1 w5))) = (cw op (cw op (cw op (cw op (cw op (cw op (cw op w0 w1) w2) w3) w4) w5) w6) w7) := by ac_rfl
theorem tree3 (op : Int) (w0 w1 w2 w3 w4 w5 w6 w7 : Wd) : (cw op (cw op (cw op w3 w7) (cw op w1 w5)) (cw op (cw op w2 w6) (cw op w0 w4))) = (cw op (cw op (cw op (cw op (cw op (cw op (cw op w0 w1) w2) w3) w4) w5) w6) w7) := by ac_rfl
theorem tree4 (op : Int) (w0 w1 w2 w3 w4 w5 w6 w7 : Wd) : (cw op (cw op (cw op w4 w0) (cw op w6 w2)) (cw op (cw op w5 w1) (cw op w7 w3))) = (cw op (cw op (cw op (cw op (cw op (cw op (cw op w0 w1) w2) w3) w4) w5) w6) w7) := by ac_rfl
theorem tree5 (op : Int) (w0 w1 w2 w3 w4 w5 w6 w7 : Wd) : (cw op (cw op (cw op w5 w1) (cw op w7 w3)) (cw op (cw op w4 w0) (cw op w6 w2))) = (cw op (cw op (cw op (cw op (cw op (cw op (cw op w0 w1) w2) w3) w4) w5) w6) w7) := by ac_rfl
theorem tree6 (op : Int) (w0 w1 w2 w3 w4 w5 w6 w7 : Wd) : (cw op (cw op (cw op w6 w2) (cw op w4 w0)) (cw op (cw op w7 w3) (cw op w5 w1))) = (cw op (cw op (cw op (cw op (cw op (cw op (cw op w0 w1) w2) w3) w4) w5) w6) w7) := by ac_rfl
theorem tree7 (op : Int) (w0 w1 w2 w3 w4 w5 w6 w7 : Wd) : (cw op (cw op (cw op w7 w3) (cw op w5 w1)) (cw op (cw op w6 w2) (cw op w4 w0))) = (cw op (cw op (cw op (cw op (cw op (cw op (cw op w0 w1) w2) w3) w4) w5) w6) w7) := by ac_rfl
theorem redV_vals (op : Int) (l : List Int) (d : Int) (hd : d = 4 ∨ d = 2 ∨ d = 1) (hv : valsB l = true) : valsB (map8 (redV op l d)) = true := by
  apply map8_vals
  intro i h0 h1
  have hx : ∀ i : Fin 8, (0 ≤ Go.bits .xor .i64 ((i : Nat) : Int) 4 ∧ Go.bits .xor .i64 ((i : Nat) : Int) 4 < 8) ∧ (0 ≤ Go.bits .xor .i64 ((i : Nat) : Int) 2 ∧ Go.bits .xor .i64 ((i : Nat) : Int) 2 < 8) ∧ (0 ≤ Go.bits .xor .i64 ((i : Nat) : Int) 1 ∧ Go.bits .xor .i64 ((i : Nat) : Int) 1 < 8) := by decide +kernel
  have h := hx ⟨i.toNat, by omega⟩
  simp only [Int.toNat_of_nonneg h0] at h
  unfold redV
  rcases hd with rfl | rfl | rfl
  · exact comb_word op _ _ (valsB_word hv i h0 h1) (valsB_word hv _ h.1.1 h.1.2)
  · exact comb_word op _ _ (valsB_word hv i h0 h1) (valsB_word hv _ h.2.1.1 h.2.1.2)
  · exact comb_word op _ _ (valsB_word hv i h0 h1) (valsB_word hv _ h.2.2.1 h.2.2.2)
theorem redR_vals (op : Int) (l : List Int) (d : Int) (hd : d = 4 ∨ d = 2 ∨ d = 1) (hv : valsB l = true) (ho : isOpB op = true) : redR op l d = map8 (redV op l d) := by
  unfold redR
  rw [hv, ho]
  have : isLaneB d = true := by rcases hd with rfl | rfl | rfl <;> rfl
  rw [this]
  rfl
theorem redA_map (op : Int) (l : List Int) (hv : valsB l = true) (ho : isOpB op = true) : redA op l = map8 (redV op (map8 (redV op (map8 (redV op l 4)) 2)) 1) := by
  unfold redA
  have v1 := redV_vals op l 4 (by omega) hv
  have v2 := redV_vals op _ 2 (by omega) v1
  rw [redR_vals op l 4 (by omega) hv ho, redR_vals op _ 2 (by omega) v1 ho, redR_vals op _ 1 (by omega) v2 ho]
theorem redA_len8 (op : Int) (l : List Int) (hv : valsB l = true) (ho : isOpB op = true) : (redA op l).length = 8 := by rw [redA_map op l hv ho, map8_len]
theorem redA_at0 (op : Int) (l : List Int) (hv : valsB l = true) (ho : isOpB op = true) : rd (redA op l) 0 = redM op l 255 := by
  rw [redA_map op l hv ho, rdm0, redM_all op l hv ho]
  simp only [redV, x01, x02, x04, x12, x14, x24, x34, rdm0, rdm1, rdm2, rdm3]
  exact congrArg Subtype.val (tree0 op (wd l hv 0 (by omega) (by omega)) (wd l hv 1 (by omega) (by omega)) (wd l hv 2 (by omega) (by omega)) (wd l hv 3 (by omega) (by omega)) (wd l hv 4 (by omega) (by omega)) (wd l hv 5 (by omega) (by omega)) (wd l hv 6 (by omega) (by omega)) (wd l hv 7 (by omega) (by omega)))
theorem redA_at1 (op : Int) (l : List Int) (hv : valsB l = true) (ho : isOpB op = true) : rd (redA op l) 1 = redM op l 255 := by
  rw [redA_map op l hv ho, rdm1, redM_all op l hv ho]
  simp only [redV, x02, x04, x11, x12, x14, x24, x34, rdm0, rdm1, rdm2, rdm3]
  exact congrArg Subtype.val (tree1 op (wd l hv 0 (by omega) (by omega)) (wd l hv 1 (by omega) (by omega)) (wd l hv 2 (by omega) (by omega)) (wd l hv 3 (by omega) (by omega)) (wd l hv 4 (by omega) (by omega)) (wd l hv 5 (by omega) (by omega)) (wd l hv 6 (by omega) (by omega)) (wd l hv 7 (by omega) (by omega)))
theorem redA_at2 (op : Int) (l : List Int) (hv : valsB l = true) (ho : isOpB op = true) : rd (redA op l) 2 = redM op l 255 := by
  rw [redA_map op l hv ho, rdm2, redM_all op l hv ho]
  simp only [redV, x04, x14, x21, x22, x24, x32, x34, rdm0, rdm1, rdm2, rdm3]
  exact congrArg Subtype.val (tree2 op (wd l hv 0 (by omega) (by omega)) (wd l hv 1 (by omega) (by omega)) (wd l hv 2 (by omega) (by omega)) (wd l hv 3 (by omega) (by omega)) (wd l hv 4 (by omega) (by omega)) (wd l hv 5 (by omega) (by omega)) (wd l hv 6 (by omega) (by omega)) (wd l hv 7 (by omega) (by omega)))
theorem redA_at3 (op : Int) (l : List Int) (hv : valsB l = true) (ho : isOpB op = true) : rd (redA op l) 3 = redM op l 255 := by
  rw [redA_map op l hv ho, rdm3, redM_all op l hv ho]
  simp only [redV, x04, x14, x22, x24, x31, x32, x34, rdm0, rdm1, rdm2, rdm3]
  exact congrArg Subtype.val (tree3 op (wd l hv 0 (by omega) (by omega)) (wd l hv 1 (by omega) (by omega)) (wd l hv 2 (by omega) (by omega)) (wd l hv 3 (by omega) (by omega)) (wd l hv 4 (by omega) (by omega)) (wd l hv 5 (by omega) (by omega)) (wd l hv 6 (by omega) (by omega)) (wd l hv 7 (by omega) (by omega)))
theorem redA_at4 (op : Int) (l : List Int) (hv : valsB l = true) (ho : isOpB op = true) : rd (redA op l) 4 = redM op l 255 := by
  rw [redA_map op l hv ho, rdm4, redM_all op l hv ho]
  simp only [redV, x41, x42, x44, x52, x54, x64, x74, rdm4, rdm5, rdm6, rdm7]
  exact congrArg Subtype.val (tree4 op (wd l hv 0 (by omega) (by omega)) (wd l hv 1 (by omega) (by omega)) (wd l hv 2 (by omega) (by omega)) (wd l hv 3 (by omega) (by omega)) (wd l hv 4 (by omega) (by omega)) (wd l hv 5 (by omega) (by omega)) (wd l hv 6 (by omega) (by omega)) (wd l hv 7 (by omega) (by omega)))
theorem redA_at5 (op : Int) (l : List Int) (hv : valsB l = true) (ho : isOpB op = true) : rd (redA op l) 5 = redM op l 255 := by
  rw [redA_map op l hv ho, rdm5, redM_all op l hv ho]
  simp only [redV, x42, x44, x51, x52, x54, x64, x74, rdm4, rdm5, rdm6, rdm7]
  exact congrArg Subtype.val (tree5 op (wd l hv 0 (by omega) (by omega)) (wd l hv 1 (by omega) (by omega)) (wd l hv 2 (by omega) (by omega)) (wd l hv 3 (by omega) (by omega)) (wd l hv 4 (by omega) (by omega)) (wd l hv 5 (by omega) (by omega)) (wd l hv 6 (by omega) (by omega)) (wd l hv 7 (by omega) (by omega)))
theorem redA_at6 (op : Int) (l : List Int) (hv : valsB l = true) (ho : isOpB op = true) : rd (redA op l) 6 = redM op l 255 := by
  rw [redA_map op l hv ho, rdm6, redM_all op l hv ho]
  simp only [redV, x44, x54, x61, x62, x64, x72, x74, rdm4, rdm5, rdm6, rdm7]
  exact congrArg Subtype.val (tree6 op (wd l hv 0 (by omega) (by omega)) (wd l hv 1 (by omega) (by omega)) (wd l hv 2 (by omega) (by omega)) (wd l hv 3 (by omega) (by omega)) (wd l hv 4 (by omega) (by omega)) (wd l hv 5 (by omega) (by omega)) (wd l hv 6 (by omega) (by omega)) (wd l hv 7 (by omega) (by omega)))
theorem redA_at7 (op : Int) (l : List Int) (hv : valsB l = true) (ho : isOpB op = true) : rd (redA op l) 7 = redM op l 255 := by
  rw [redA_map op l hv ho, rdm7, redM_all op l hv ho]
  simp only [redV, x44, x54, x62, x64, x71, x72, x74, rdm4, rdm5, rdm6, rdm7]
  exact congrArg Subtype.val (tree7 op (wd l hv 0 (by omega) (by omega)) (wd l hv 1 (by omega) (by omega)) (wd l hv 2 (by omega) (by omega)) (wd l hv 3 (by omega) (by omega)) (wd l hv 4 (by omega) (by omega)) (wd l hv 5 (by omega) (by omega)) (wd l hv 6 (by omega) (by omega)) (wd l hv 7 (by omega) (by omega)))
theorem redA_rd (op : Int) (l : List Int) (hv : valsB l = true) (ho : isOpB op = true) (i : Nat) (hi : i < 8) : rd (redA op l) (i : Int) = redM op l 255 := by
  have h : i = 0 ∨ i = 1 ∨ i = 2 ∨ i = 3 ∨ i = 4 ∨ i = 5 ∨ i = 6 ∨ i = 7 := by omega
  rcases h with rfl | rfl | rfl | rfl | rfl | rfl | rfl | rfl
  · exact redA_at0 op l hv ho
  · exact redA_at1 op l hv ho
  · exact redA_at2 op l hv ho
  · exact redA_at3 op l hv ho
  · exact redA_at4 op l hv ho
  · exact redA_at5 op l hv ho
  · exact redA_at6 op l hv ho
  · exact redA_at7 op l hv ho

end Go.Proofs.Ytiolnbkaohioiaa.Pure
