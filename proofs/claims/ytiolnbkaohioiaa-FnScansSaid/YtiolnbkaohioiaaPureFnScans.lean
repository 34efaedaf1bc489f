/- Each lane of a scan has the reduction over all lanes up to it, and the scan of the lanes before combined with its own word, for every setting. -/
import Derived.Test.YtiolnbkaohioiaaGxPFnScans
import Derived.Test.YtiolnbkaohioiaaPureScanI
import Derived.Test.YtiolnbkaohioiaaPureComb
import Derived.Test.YtiolnbkaohioiaaPureDraw
namespace Go.Proofs.Ytiolnbkaohioiaa.Pure
open Go.RowKit Go.Proofs.Ytiolnbkaohioiaa.P Go.Proofs.YtiolnbkaohioiaaW.PrintWords Go.Proofs.YtiolnbkaohioiaaW.PrintLast Go.Proofs.YtiolnbkaohioiaaW.PrintMore

theorem scanR_none (op : Int) (l : List Int) (d : Int) (h : (valsB l && isOpB op) = false) : scanR op l d = [] := by
  unfold scanR
  rw [h]
  rfl
theorem scanA_none (op : Int) (l : List Int) (h : (valsB l && isOpB op) = false) : scanA op l = [] := by
  unfold scanA
  rw [scanR_none op l 1 h, scanR_none op [] 2 (by rfl), scanR_none op [] 4 (by rfl)]
theorem scanR_len8 (op : Int) (l : List Int) (d : Int) (hd : d = 4 ∨ d = 2 ∨ d = 1) (h : (valsB l && isOpB op) = true) : scanR op l d = map8 (scanV op l d) := by
  unfold scanR
  rw [h]
  rcases hd with rfl | rfl | rfl <;> rfl
theorem scanV_valid (op : Int) (l : List Int) (d : Int) (hd : d = 4 ∨ d = 2 ∨ d = 1) (hv : valsB l = true) : valsB (map8 (scanV op l d)) = true := by
  apply map8_vals
  intro i h0 h1
  unfold scanV
  split
  · exact comb_word op _ _ (valsB_word hv _ (by omega) (by omega)) (valsB_word hv i h0 h1)
  · exact valsB_word hv i h0 h1
theorem scanA_len8 (op : Int) (l : List Int) (h : (valsB l && isOpB op) = true) : (scanA op l).length = 8 := by
  have hh := h
  simp only [Bool.and_eq_true] at hh
  unfold scanA
  have v1 := scanV_valid op l 1 (by omega) hh.1
  have v2 := scanV_valid op _ 2 (by omega) v1
  rw [scanR_len8 op l 1 (by omega) h, scanR_len8 op _ 2 (by omega) (by rw [v1, hh.2]; rfl), scanR_len8 op _ 4 (by omega) (by rw [v2, hh.2]; rfl), map8_len]
def scanBf (op : Int) (l : List Int) : List Int := if (valsB l && isOpB op) = true then neutB op :: (scanA op l).take 7 else []
theorem scanBf_len (op : Int) (l : List Int) : (scanBf op l).length ≤ 8 := by
  unfold scanBf
  split
  · simp
    omega
  · simp
theorem impl_ScanBefore_is (op : Int) (l : List Int) (k : Nat) (hk : 14 ≤ k) : impl_ScanBefore.f k op l = some (scanBf op l) := by
  unfold impl_ScanBefore.f scanBf
  rw [impl_ValuesOk_is, impl_isReduction_is]
  simp only [Option.bind_some]
  cases h : valsB l && isOpB op with
  | false => rfl
  | true =>
    rw [if_pos rfl, if_pos rfl, impl_ScanAll_is op l k hk]
    simp only [Option.bind_some]
    rw [if_pos (scanA_len8 op l h), impl_NeutralOf_is]
    rfl
theorem sgm0 (f : Int → Int) : rd (map8 f) 0 = f 0 := rd_map8 f 0 (by omega)
theorem sgm1 (f : Int → Int) : rd (map8 f) 1 = f 1 := rd_map8 f 1 (by omega)
theorem sgm2 (f : Int → Int) : rd (map8 f) 2 = f 2 := rd_map8 f 2 (by omega)
theorem sgm3 (f : Int → Int) : rd (map8 f) 3 = f 3 := rd_map8 f 3 (by omega)
theorem sgm4 (f : Int → Int) : rd (map8 f) 4 = f 4 := rd_map8 f 4 (by omega)
theorem sgm5 (f : Int → Int) : rd (map8 f) 5 = f 5 := rd_map8 f 5 (by omega)
theorem sgm6 (f : Int → Int) : rd (map8 f) 6 = f 6 := rd_map8 f 6 (by omega)
theorem sgm7 (f : Int → Int) : rd (map8 f) 7 = f 7 := rd_map8 f 7 (by omega)
theorem scv01 (op : Int) (l : List Int) : scanV op l 1 0 = rd l 0 := by
  unfold scanV
  rw [if_neg (by omega)]
theorem scv11 (op : Int) (l : List Int) : scanV op l 1 1 = comb op (rd l 0) (rd l 1) := by
  unfold scanV
  rw [if_pos (by omega)]
  rfl
theorem scv21 (op : Int) (l : List Int) : scanV op l 1 2 = comb op (rd l 1) (rd l 2) := by
  unfold scanV
  rw [if_pos (by omega)]
  rfl
theorem scv31 (op : Int) (l : List Int) : scanV op l 1 3 = comb op (rd l 2) (rd l 3) := by
  unfold scanV
  rw [if_pos (by omega)]
  rfl
theorem scv41 (op : Int) (l : List Int) : scanV op l 1 4 = comb op (rd l 3) (rd l 4) := by
  unfold scanV
  rw [if_pos (by omega)]
  rfl
theorem scv51 (op : Int) (l : List Int) : scanV op l 1 5 = comb op (rd l 4) (rd l 5) := by
  unfold scanV
  rw [if_pos (by omega)]
  rfl
theorem scv61 (op : Int) (l : List Int) : scanV op l 1 6 = comb op (rd l 5) (rd l 6) := by
  unfold scanV
  rw [if_pos (by omega)]
  rfl
theorem scv71 (op : Int) (l : List Int) : scanV op l 1 7 = comb op (rd l 6) (rd l 7) := by
  unfold scanV
  rw [if_pos (by omega)]
  rfl
theorem scv02 (op : Int) (l : List Int) : scanV op l 2 0 = rd l 0 := by
  unfold scanV
  rw [if_neg (by omega)]
theorem scv12 (op : Int) (l : List Int) : scanV op l 2 1 = rd l 1 := by
  unfold scanV
  rw [if_neg (by omega)]
theorem scv22 (op : Int) (l : List Int) : scanV op l 2 2 = comb op (rd l 0) (rd l 2) := by
  unfold scanV
  rw [if_pos (by omega)]
  rfl
theorem scv32 (op : Int) (l : List Int) : scanV op l 2 3 = comb op (rd l 1) (rd l 3) := by
  unfold scanV
  rw [if_pos (by omega)]
  rfl
theorem scv42 (op : Int) (l : List Int) : scanV op l 2 4 = comb op (rd l 2) (rd l 4) := by
  unfold scanV
  rw [if_pos (by omega)]
  rfl
theorem scv52 (op : Int) (l : List Int) : scanV op l 2 5 = comb op (rd l 3) (rd l 5) := by
  unfold scanV
  rw [if_pos (by omega)]
  rfl
theorem scv62 (op : Int) (l : List Int) : scanV op l 2 6 = comb op (rd l 4) (rd l 6) := by
  unfold scanV
  rw [if_pos (by omega)]
  rfl
theorem scv72 (op : Int) (l : List Int) : scanV op l 2 7 = comb op (rd l 5) (rd l 7) := by
  unfold scanV
  rw [if_pos (by omega)]
  rfl
theorem scv04 (op : Int) (l : List Int) : scanV op l 4 0 = rd l 0 := by
  unfold scanV
  rw [if_neg (by omega)]
theorem scv14 (op : Int) (l : List Int) : scanV op l 4 1 = rd l 1 := by
  unfold scanV
  rw [if_neg (by omega)]
theorem scv24 (op : Int) (l : List Int) : scanV op l 4 2 = rd l 2 := by
  unfold scanV
  rw [if_neg (by omega)]
theorem scv34 (op : Int) (l : List Int) : scanV op l 4 3 = rd l 3 := by
  unfold scanV
  rw [if_neg (by omega)]
theorem scv44 (op : Int) (l : List Int) : scanV op l 4 4 = comb op (rd l 0) (rd l 4) := by
  unfold scanV
  rw [if_pos (by omega)]
  rfl
theorem scv54 (op : Int) (l : List Int) : scanV op l 4 5 = comb op (rd l 1) (rd l 5) := by
  unfold scanV
  rw [if_pos (by omega)]
  rfl
theorem scv64 (op : Int) (l : List Int) : scanV op l 4 6 = comb op (rd l 2) (rd l 6) := by
  unfold scanV
  rw [if_pos (by omega)]
  rfl
theorem scv74 (op : Int) (l : List Int) : scanV op l 4 7 = comb op (rd l 3) (rd l 7) := by
  unfold scanV
  rw [if_pos (by omega)]
  rfl
theorem seg0_0 (op : Int) (l : List Int) : segAt op l 0 0 = rd l 0 := rfl
theorem seg0_1 (op : Int) (l : List Int) : segAt op l 0 1 = comb op (segAt op l 0 0) (rd l 1) := by
  show segV op l 0 1 (segAt op l 0 0) = _
  unfold segV
  rw [if_neg (by omega), if_neg (by decide)]
  rfl
theorem seg0_2 (op : Int) (l : List Int) : segAt op l 0 2 = comb op (segAt op l 0 1) (rd l 2) := by
  show segV op l 0 2 (segAt op l 0 1) = _
  unfold segV
  rw [if_neg (by omega), if_neg (by decide)]
  rfl
theorem seg0_3 (op : Int) (l : List Int) : segAt op l 0 3 = comb op (segAt op l 0 2) (rd l 3) := by
  show segV op l 0 3 (segAt op l 0 2) = _
  unfold segV
  rw [if_neg (by omega), if_neg (by decide)]
  rfl
theorem seg0_4 (op : Int) (l : List Int) : segAt op l 0 4 = comb op (segAt op l 0 3) (rd l 4) := by
  show segV op l 0 4 (segAt op l 0 3) = _
  unfold segV
  rw [if_neg (by omega), if_neg (by decide)]
  rfl
theorem seg0_5 (op : Int) (l : List Int) : segAt op l 0 5 = comb op (segAt op l 0 4) (rd l 5) := by
  show segV op l 0 5 (segAt op l 0 4) = _
  unfold segV
  rw [if_neg (by omega), if_neg (by decide)]
  rfl
theorem seg0_6 (op : Int) (l : List Int) : segAt op l 0 6 = comb op (segAt op l 0 5) (rd l 6) := by
  show segV op l 0 6 (segAt op l 0 5) = _
  unfold segV
  rw [if_neg (by omega), if_neg (by decide)]
  rfl
theorem seg0_7 (op : Int) (l : List Int) : segAt op l 0 7 = comb op (segAt op l 0 6) (rd l 7) := by
  show segV op l 0 7 (segAt op l 0 6) = _
  unfold segV
  rw [if_neg (by omega), if_neg (by decide)]
  rfl
theorem scanT2 (op : Int) (w0 w1 w2 : Wd) : (cw op w0 (cw op w1 w2)) = (cw op (cw op w0 w1) w2) := by ac_rfl
theorem scanT3 (op : Int) (w0 w1 w2 w3 : Wd) : (cw op (cw op w0 w1) (cw op w2 w3)) = (cw op (cw op (cw op w0 w1) w2) w3) := by ac_rfl
theorem scanT4 (op : Int) (w0 w1 w2 w3 w4 : Wd) : (cw op w0 (cw op (cw op w1 w2) (cw op w3 w4))) = (cw op (cw op (cw op (cw op w0 w1) w2) w3) w4) := by ac_rfl
theorem scanT5 (op : Int) (w0 w1 w2 w3 w4 w5 : Wd) : (cw op (cw op w0 w1) (cw op (cw op w2 w3) (cw op w4 w5))) = (cw op (cw op (cw op (cw op (cw op w0 w1) w2) w3) w4) w5) := by ac_rfl
theorem scanT6 (op : Int) (w0 w1 w2 w3 w4 w5 w6 : Wd) : (cw op (cw op w0 (cw op w1 w2)) (cw op (cw op w3 w4) (cw op w5 w6))) = (cw op (cw op (cw op (cw op (cw op (cw op w0 w1) w2) w3) w4) w5) w6) := by ac_rfl
theorem scanT7 (op : Int) (w0 w1 w2 w3 w4 w5 w6 w7 : Wd) : (cw op (cw op (cw op w0 w1) (cw op w2 w3)) (cw op (cw op w4 w5) (cw op w6 w7))) = (cw op (cw op (cw op (cw op (cw op (cw op (cw op w0 w1) w2) w3) w4) w5) w6) w7) := by ac_rfl
theorem scanV_vals (op : Int) (l : List Int) (d : Int) (hd : d = 4 ∨ d = 2 ∨ d = 1) (hv : valsB l = true) : valsB (map8 (scanV op l d)) = true := by
  apply map8_vals
  intro i h0 h1
  unfold scanV
  split
  · exact comb_word op _ _ (valsB_word hv _ (by omega) (by omega)) (valsB_word hv i h0 h1)
  · exact valsB_word hv i h0 h1
theorem scanR_map (op : Int) (l : List Int) (d : Int) (hd : d = 4 ∨ d = 2 ∨ d = 1) (hv : valsB l = true) (ho : isOpB op = true) : scanR op l d = map8 (scanV op l d) := by
  unfold scanR
  rw [hv, ho]
  rcases hd with rfl | rfl | rfl <;> rfl
theorem scanA_map (op : Int) (l : List Int) (hv : valsB l = true) (ho : isOpB op = true) : scanA op l = map8 (scanV op (map8 (scanV op (map8 (scanV op l 1)) 2)) 4) := by
  unfold scanA
  have v1 := scanV_vals op l 1 (by omega) hv
  have v2 := scanV_vals op _ 2 (by omega) v1
  rw [scanR_map op l 1 (by omega) hv ho, scanR_map op _ 2 (by omega) v1 ho, scanR_map op _ 4 (by omega) v2 ho]
theorem scanA_at0 (op : Int) (l : List Int) (hv : valsB l = true) (ho : isOpB op = true) : rd (scanA op l) 0 = segAt op l 0 0 := by
  rw [scanA_map op l hv ho, sgm0]
  simp only [scv04, scv02, scv01, sgm0, seg0_0]
theorem scanA_at1 (op : Int) (l : List Int) (hv : valsB l = true) (ho : isOpB op = true) : rd (scanA op l) 1 = segAt op l 0 1 := by
  rw [scanA_map op l hv ho, sgm1]
  simp only [scv14, scv12, scv11, sgm1, seg0_0, seg0_1]
theorem scanA_at2 (op : Int) (l : List Int) (hv : valsB l = true) (ho : isOpB op = true) : rd (scanA op l) 2 = segAt op l 0 2 := by
  rw [scanA_map op l hv ho, sgm2]
  simp only [scv24, scv22, scv01, scv21, sgm0, sgm2, seg0_0, seg0_1, seg0_2]
  exact congrArg Subtype.val (scanT2 op (wd l hv 0 (by omega) (by omega)) (wd l hv 1 (by omega) (by omega)) (wd l hv 2 (by omega) (by omega)))
theorem scanA_at3 (op : Int) (l : List Int) (hv : valsB l = true) (ho : isOpB op = true) : rd (scanA op l) 3 = segAt op l 0 3 := by
  rw [scanA_map op l hv ho, sgm3]
  simp only [scv34, scv32, scv11, scv31, sgm1, sgm3, seg0_0, seg0_1, seg0_2, seg0_3]
  exact congrArg Subtype.val (scanT3 op (wd l hv 0 (by omega) (by omega)) (wd l hv 1 (by omega) (by omega)) (wd l hv 2 (by omega) (by omega)) (wd l hv 3 (by omega) (by omega)))
theorem scanA_at4 (op : Int) (l : List Int) (hv : valsB l = true) (ho : isOpB op = true) : rd (scanA op l) 4 = segAt op l 0 4 := by
  rw [scanA_map op l hv ho, sgm4]
  simp only [scv44, scv02, scv42, scv01, scv21, scv41, sgm0, sgm2, sgm4, seg0_0, seg0_1, seg0_2, seg0_3, seg0_4]
  exact congrArg Subtype.val (scanT4 op (wd l hv 0 (by omega) (by omega)) (wd l hv 1 (by omega) (by omega)) (wd l hv 2 (by omega) (by omega)) (wd l hv 3 (by omega) (by omega)) (wd l hv 4 (by omega) (by omega)))
theorem scanA_at5 (op : Int) (l : List Int) (hv : valsB l = true) (ho : isOpB op = true) : rd (scanA op l) 5 = segAt op l 0 5 := by
  rw [scanA_map op l hv ho, sgm5]
  simp only [scv54, scv12, scv52, scv11, scv31, scv51, sgm1, sgm3, sgm5, seg0_0, seg0_1, seg0_2, seg0_3, seg0_4, seg0_5]
  exact congrArg Subtype.val (scanT5 op (wd l hv 0 (by omega) (by omega)) (wd l hv 1 (by omega) (by omega)) (wd l hv 2 (by omega) (by omega)) (wd l hv 3 (by omega) (by omega)) (wd l hv 4 (by omega) (by omega)) (wd l hv 5 (by omega) (by omega)))
theorem scanA_at6 (op : Int) (l : List Int) (hv : valsB l = true) (ho : isOpB op = true) : rd (scanA op l) 6 = segAt op l 0 6 := by
  rw [scanA_map op l hv ho, sgm6]
  simp only [scv64, scv22, scv62, scv01, scv21, scv41, scv61, sgm0, sgm2, sgm4, sgm6, seg0_0, seg0_1, seg0_2, seg0_3, seg0_4, seg0_5, seg0_6]
  exact congrArg Subtype.val (scanT6 op (wd l hv 0 (by omega) (by omega)) (wd l hv 1 (by omega) (by omega)) (wd l hv 2 (by omega) (by omega)) (wd l hv 3 (by omega) (by omega)) (wd l hv 4 (by omega) (by omega)) (wd l hv 5 (by omega) (by omega)) (wd l hv 6 (by omega) (by omega)))
theorem scanA_at7 (op : Int) (l : List Int) (hv : valsB l = true) (ho : isOpB op = true) : rd (scanA op l) 7 = segAt op l 0 7 := by
  rw [scanA_map op l hv ho, sgm7]
  simp only [scv74, scv32, scv72, scv11, scv31, scv51, scv71, sgm1, sgm3, sgm5, sgm7, seg0_0, seg0_1, seg0_2, seg0_3, seg0_4, seg0_5, seg0_6, seg0_7]
  exact congrArg Subtype.val (scanT7 op (wd l hv 0 (by omega) (by omega)) (wd l hv 1 (by omega) (by omega)) (wd l hv 2 (by omega) (by omega)) (wd l hv 3 (by omega) (by omega)) (wd l hv 4 (by omega) (by omega)) (wd l hv 5 (by omega) (by omega)) (wd l hv 6 (by omega) (by omega)) (wd l hv 7 (by omega) (by omega)))
theorem scanA_segs (op : Int) (l : List Int) (hv : valsB l = true) (ho : isOpB op = true) : scanA op l = segsL op l 0 := by
  have hl : (scanA op l).length = 8 := by rw [scanA_map op l hv ho, map8_len]
  unfold segsL
  rw [hv, ho]
  show scanA op l = segPre op l 0 8
  apply List.ext_getElem?
  intro j
  by_cases h8 : j < 8
  · rw [rd_nat (scanA op l) j (by omega), rd_nat (segPre op l 0 8) j (by rw [segPre_len]; omega), rd_segPre op l 0 8 j h8]
    congr 1
    have h : j = 0 ∨ j = 1 ∨ j = 2 ∨ j = 3 ∨ j = 4 ∨ j = 5 ∨ j = 6 ∨ j = 7 := by omega
    rcases h with rfl | rfl | rfl | rfl | rfl | rfl | rfl | rfl
    · exact scanA_at0 op l hv ho
    · exact scanA_at1 op l hv ho
    · exact scanA_at2 op l hv ho
    · exact scanA_at3 op l hv ho
    · exact scanA_at4 op l hv ho
    · exact scanA_at5 op l hv ho
    · exact scanA_at6 op l hv ho
    · exact scanA_at7 op l hv ho
  · rw [List.getElem?_eq_none (by omega), List.getElem?_eq_none (by rw [segPre_len]; omega)]
/-- The mask of the lanes from s to i. -/
theorem seg_mask : ∀ i s : Fin 8, (s : Nat) ≤ (i : Nat) → isMaskB (wrap64 ((shl .i64 2 ((i : Nat) : Int)) - (shl .i64 1 ((s : Nat) : Int)))) = true ∧ lanesL (wrap64 ((shl .i64 2 ((i : Nat) : Int)) - (shl .i64 1 ((s : Nat) : Int)))) = (List.range' s ((i : Nat) + 1 - (s : Nat))).map fun (j : Nat) => (j : Int) := by decide +kernel
theorem redM_seg (op : Int) (l : List Int) (hv : valsB l = true) (ho : isOpB op = true) (i s : Nat) (hi : i < 8) (hs : s ≤ i) : redM op l (wrap64 ((shl .i64 2 (i : Int)) - (shl .i64 1 (s : Int)))) = foldL op l ((List.range' s (i + 1 - s)).map fun (j : Nat) => (j : Int)) (neutB op) := by
  obtain ⟨h1, h2⟩ := seg_mask ⟨i, hi⟩ ⟨s, by omega⟩ hs
  simp only at h1 h2
  unfold redM
  rw [hv, ho, h1, h2]
  rfl
theorem redM_one (op : Int) (l : List Int) (hv : valsB l = true) (ho : isOpB op = true) (i : Nat) (hi : i < 8) : redM op l (wrap64 ((shl .i64 2 (i : Int)) - (shl .i64 1 (i : Int)))) = rd l (i : Int) := by
  rw [redM_seg op l hv ho i i hi (by omega), show i + 1 - i = 1 by omega]
  show comb op (neutB op) (rd l (i : Int)) = _
  exact comb_neut ho (valsB_word hv _ (by omega) (by omega))
theorem redM_more (op : Int) (l : List Int) (hv : valsB l = true) (ho : isOpB op = true) (i s : Nat) (hi : i + 1 < 8) (hs : s ≤ i) : redM op l (wrap64 ((shl .i64 2 ((i + 1 : Nat) : Int)) - (shl .i64 1 (s : Int)))) = comb op (redM op l (wrap64 ((shl .i64 2 (i : Int)) - (shl .i64 1 (s : Int))))) (rd l ((i + 1 : Nat) : Int)) := by
  rw [redM_seg op l hv ho (i + 1) s hi (by omega), redM_seg op l hv ho i s (by omega) hs, show i + 1 + 1 - s = (i + 1 - s) + 1 by omega, List.range'_concat]
  unfold foldL
  rw [List.map_append, List.foldl_append]
  simp only [List.map_cons, List.map_nil, List.foldl_cons, List.foldl_nil]
  rw [show s + 1 * (i + 1 - s) = i + 1 by omega]
theorem scanA_rd (op : Int) (l : List Int) (hv : valsB l = true) (ho : isOpB op = true) (i : Nat) (hi : i < 8) : rd (scanA op l) (i : Int) = segAt op l 0 i := by
  rw [scanA_segs op l hv ho]
  unfold segsL
  rw [hv, ho]
  exact rd_segPre op l 0 8 i hi
theorem hasB_0 : ∀ i : Fin 8, hasB 0 ((i : Nat) : Int) = false := by decide +kernel
theorem segAt_succ (op : Int) (l : List Int) (i : Nat) (hi : i + 1 < 8) : segAt op l 0 (i + 1) = comb op (segAt op l 0 i) (rd l ((i + 1 : Nat) : Int)) := by
  show segV op l 0 (i + 1) (segAt op l 0 i) = _
  unfold segV
  have h := hasB_0 ⟨i + 1, hi⟩
  simp only at h
  rw [if_neg (by omega), if_neg (by rw [h]; decide)]
theorem segAt_redM (op : Int) (l : List Int) (hv : valsB l = true) (ho : isOpB op = true) : ∀ i : Nat, i < 8 → segAt op l 0 i = redM op l (wrap64 ((shl .i64 2 (i : Int)) - 1)) := by
  intro i
  have h1 : shl .i64 1 ((0 : Nat) : Int) = 1 := by decide +kernel
  induction i with
  | zero =>
    intro _
    have h := redM_one op l hv ho 0 (by omega)
    rw [h1] at h
    rw [h]
    rfl
  | succ i ih =>
    intro hi
    have h := redM_more op l hv ho i 0 hi (by omega)
    rw [h1] at h
    rw [h, ← ih (by omega), segAt_succ op l i hi]
theorem rd_before (op : Int) (l : List Int) (hv : valsB l = true) (ho : isOpB op = true) (i : Nat) (hi : i < 8) : isWordB (rd (scanBf op l) (i : Int)) = true ∧ comb op (rd (scanBf op l) (i : Int)) (rd l (i : Int)) = segAt op l 0 i := by
  have hh : (valsB l && isOpB op) = true := by rw [hv, ho]; rfl
  have h8 := scanA_len8 op l hh
  unfold scanBf
  rw [if_pos hh]
  cases i with
  | zero =>
    have e : rd (neutB op :: (scanA op l).take 7) ((0 : Nat) : Int) = neutB op := rfl
    rw [e]
    exact ⟨neutB_word ho, comb_neut ho (valsB_word hv _ (by omega) (by omega))⟩
  | succ i =>
    have e : rd (neutB op :: (scanA op l).take 7) ((i + 1 : Nat) : Int) = segAt op l 0 i := by
      have hl : i + 1 < (neutB op :: (scanA op l).take 7).length := by simp; omega
      have h1 := rd_nat _ (i + 1) hl
      rw [List.getElem?_cons_succ, List.getElem?_take_of_lt (by omega), rd_nat (scanA op l) i (by omega), scanA_rd op l hv ho i (by omega)] at h1
      exact (Option.some.inj h1).symm
    rw [e]
    exact ⟨segAt_word op l 0 hv i (by omega), (segAt_succ op l i hi).symm⟩
theorem FnScans_go (v : List Int) (op : Int) (hv : valsB v = true) (ho : isOpB op = true) : ∀ (d k i : Nat), i + d = 8 → d + 40 < k → laws_FnScans.l0 k v op (scanA op v) (scanBf op v) (i : Int) = some true := by
  have hh : (valsB v && isOpB op) = true := by rw [hv, ho]; rfl
  have h8 := scanA_len8 op v hh
  have hb8 : (scanBf op v).length = 8 := by unfold scanBf; rw [if_pos hh]; simp; omega
  have hl := valsB_len hv
  intro d
  induction d with
  | zero =>
    intro k i hi hk
    obtain ⟨k, rfl⟩ : ∃ m, k = m + 1 := ⟨k - 1, by omega⟩
    simp only [laws_FnScans.l0]
    rw [if_neg (by omega)]
  | succ d ih =>
    intro k i hi hk
    obtain ⟨k, rfl⟩ : ∃ m, k = m + 1 := ⟨k - 1, by omega⟩
    have e1 := scanA_rd op v hv ho i (by omega)
    have e2 := segAt_redM op v hv ho i (by omega)
    have e3 := rd_before op v hv ho i (by omega)
    simp only [laws_FnScans.l0]
    rw [if_pos (by omega), if_pos (by omega), if_pos (by omega), impl_ReduceMasked_is op v _ k (by omega)]
    simp only [Option.bind_some]
    rw [if_pos (by rw [e1, e2]), if_pos (by omega), if_pos (by omega), impl_Combine_is]
    simp only [Option.bind_some]
    rw [combB_comb e3.1 (valsB_word hv _ (by omega) (by omega)) ho, if_pos (by rw [e1, e3.2]), w64s i (by omega)]
    exact ih k (i + 1) (by omega) (by omega)
theorem FnScans : laws_FnScans.Pure := by
  intro l _ _ _
  obtain ⟨k0, hk0⟩ : ∃ k0 : Nat, 4100 ≤ k0 := ⟨4100, by omega⟩
  refine ⟨k0 + 1, ?_⟩
  unfold laws_FnScans.f
  simp only [laws_big.f, Option.bind_some, decide_eq_true_eq]
  by_cases hb : (l.length : Int) > 1048576
  · rw [if_pos hb]
  · rw [if_neg hb]
    have hl : l.length ≤ 1048576 := by omega
    obtain ⟨v, hv, hv'⟩ := DrawValues_is l hl (k0 + 1) (by omega)
    obtain ⟨op, ho, ho'⟩ := DrawReduction_is l hl (k0 + 1) (by omega)
    have hh : (valsB v && isOpB op) = true := by rw [hv', ho']; rfl
    have h8 := scanA_len8 op v hh
    have hb8 : (scanBf op v).length = 8 := by unfold scanBf; rw [if_pos hh]; simp; omega
    rw [hv]
    simp only [Option.bind_some]
    rw [ho]
    simp only [Option.bind_some]
    rw [impl_ScanAll_is op v (k0 + 1) (by omega)]
    simp only [Option.bind_some]
    rw [impl_ScanBefore_is op v (k0 + 1) (by omega)]
    simp only [Option.bind_some]
    rw [if_pos (by omega), hb8]
    have h := FnScans_go v op hv' ho' 8 k0 0 (by omega) (by omega)
    simp only [laws_FnScans.j0]
    rw [if_neg (by decide)]
    exact h

end Go.Proofs.Ytiolnbkaohioiaa.Pure
