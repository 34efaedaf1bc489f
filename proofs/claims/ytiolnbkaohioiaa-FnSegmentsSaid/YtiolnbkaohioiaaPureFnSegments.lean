/- A segmented scan answers in each lane what the reduction over the segment's lanes up to it answers, for every setting. -/
import Derived.Test.YtiolnbkaohioiaaGxPFnSegments
import Derived.Test.YtiolnbkaohioiaaPureScanI
import Derived.Test.YtiolnbkaohioiaaPureComb
import Derived.Test.YtiolnbkaohioiaaPureDraw
namespace Go.Proofs.Ytiolnbkaohioiaa.Pure
open Go.RowKit Go.Proofs.Ytiolnbkaohioiaa.P Go.Proofs.YtiolnbkaohioiaaW.PrintWords Go.Proofs.YtiolnbkaohioiaaW.PrintLast Go.Proofs.YtiolnbkaohioiaaW.PrintMore

theorem sameInts_go (l : List Int) (hl : l.length ≤ 1073741824) : ∀ (d k i : Nat), i + d = l.length → d < k → laws_sameInts.l0 k l l (i : Int) = some true := by
  intro d
  induction d with
  | zero =>
    intro k i hi hk
    obtain ⟨k, rfl⟩ : ∃ m, k = m + 1 := ⟨k - 1, by omega⟩
    simp only [laws_sameInts.l0]
    rw [if_neg (by omega)]
  | succ d ih =>
    intro k i hi hk
    obtain ⟨k, rfl⟩ : ∃ m, k = m + 1 := ⟨k - 1, by omega⟩
    simp only [laws_sameInts.l0]
    rw [if_pos (by omega), if_pos (by omega), if_pos (by omega), if_pos trivial, w64s i (by omega)]
    exact ih k (i + 1) (by omega) (by omega)
theorem sameInts_refl (l : List Int) (hl : l.length ≤ 1073741824) (k : Nat) (hk : l.length < k) : laws_sameInts.f k l l = some true := by
  unfold laws_sameInts.f
  rw [if_pos rfl]
  exact sameInts_go l hl l.length k 0 (by omega) hk
theorem sgm0 (f : Int → Int) : rd (map8 f) 0 = f 0 := rd_map8 f 0 (by omega)
theorem sgm1 (f : Int → Int) : rd (map8 f) 1 = f 1 := rd_map8 f 1 (by omega)
theorem sgm2 (f : Int → Int) : rd (map8 f) 2 = f 2 := rd_map8 f 2 (by omega)
theorem sgm3 (f : Int → Int) : rd (map8 f) 3 = f 3 := rd_map8 f 3 (by omega)
theorem sgm4 (f : Int → Int) : rd (map8 f) 4 = f 4 := rd_map8 f 4 (by omega)
theorem sgm5 (f : Int → Int) : rd (map8 f) 5 = f 5 := rd_map8 f 5 (by omega)
theorem sgm6 (f : Int → Int) : rd (map8 f) 6 = f 6 := rd_map8 f 6 (by omega)
theorem sgm7 (f : Int → Int) : rd (map8 f) 7 = f 7 := rd_map8 f 7 (by omega)
theorem scv01 (op : Int) (l : List Int) : scanV op l 1 0 = rd l 0 := by
  unfold scanV
  rw [if_neg (by omega)]
theorem scv11 (op : Int) (l : List Int) : scanV op l 1 1 = comb op (rd l 0) (rd l 1) := by
  unfold scanV
  rw [if_pos (by omega)]
  rfl
theorem scv21 (op : Int) (l : List Int) : scanV op l 1 2 = comb op (rd l 1) (rd l 2) := by
  unfold scanV
  rw [if_pos (by omega)]
  rfl
theorem scv31 (op : Int) (l : List Int) : scanV op l 1 3 = comb op (rd l 2) (rd l 3) := by
  unfold scanV
  rw [if_pos (by omega)]
  rfl
theorem scv41 (op : Int) (l : List Int) : scanV op l 1 4 = comb op (rd l 3) (rd l 4) := by
  unfold scanV
  rw [if_pos (by omega)]
  rfl
theorem scv51 (op : Int) (l : List Int) : scanV op l 1 5 = comb op (rd l 4) (rd l 5) := by
  unfold scanV
  rw [if_pos (by omega)]
  rfl
theorem scv61 (op : Int) (l : List Int) : scanV op l 1 6 = comb op (rd l 5) (rd l 6) := by
  unfold scanV
  rw [if_pos (by omega)]
  rfl
theorem scv71 (op : Int) (l : List Int) : scanV op l 1 7 = comb op (rd l 6) (rd l 7) := by
  unfold scanV
  rw [if_pos (by omega)]
  rfl
theorem scv02 (op : Int) (l : List Int) : scanV op l 2 0 = rd l 0 := by
  unfold scanV
  rw [if_neg (by omega)]
theorem scv12 (op : Int) (l : List Int) : scanV op l 2 1 = rd l 1 := by
  unfold scanV
  rw [if_neg (by omega)]
theorem scv22 (op : Int) (l : List Int) : scanV op l 2 2 = comb op (rd l 0) (rd l 2) := by
  unfold scanV
  rw [if_pos (by omega)]
  rfl
theorem scv32 (op : Int) (l : List Int) : scanV op l 2 3 = comb op (rd l 1) (rd l 3) := by
  unfold scanV
  rw [if_pos (by omega)]
  rfl
theorem scv42 (op : Int) (l : List Int) : scanV op l 2 4 = comb op (rd l 2) (rd l 4) := by
  unfold scanV
  rw [if_pos (by omega)]
  rfl
theorem scv52 (op : Int) (l : List Int) : scanV op l 2 5 = comb op (rd l 3) (rd l 5) := by
  unfold scanV
  rw [if_pos (by omega)]
  rfl
theorem scv62 (op : Int) (l : List Int) : scanV op l 2 6 = comb op (rd l 4) (rd l 6) := by
  unfold scanV
  rw [if_pos (by omega)]
  rfl
theorem scv72 (op : Int) (l : List Int) : scanV op l 2 7 = comb op (rd l 5) (rd l 7) := by
  unfold scanV
  rw [if_pos (by omega)]
  rfl
theorem scv04 (op : Int) (l : List Int) : scanV op l 4 0 = rd l 0 := by
  unfold scanV
  rw [if_neg (by omega)]
theorem scv14 (op : Int) (l : List Int) : scanV op l 4 1 = rd l 1 := by
  unfold scanV
  rw [if_neg (by omega)]
theorem scv24 (op : Int) (l : List Int) : scanV op l 4 2 = rd l 2 := by
  unfold scanV
  rw [if_neg (by omega)]
theorem scv34 (op : Int) (l : List Int) : scanV op l 4 3 = rd l 3 := by
  unfold scanV
  rw [if_neg (by omega)]
theorem scv44 (op : Int) (l : List Int) : scanV op l 4 4 = comb op (rd l 0) (rd l 4) := by
  unfold scanV
  rw [if_pos (by omega)]
  rfl
theorem scv54 (op : Int) (l : List Int) : scanV op l 4 5 = comb op (rd l 1) (rd l 5) := by
  unfold scanV
  rw [if_pos (by omega)]
  rfl
theorem scv64 (op : Int) (l : List Int) : scanV op l 4 6 = comb op (rd l 2) (rd l 6) := by
  unfold scanV
  rw [if_pos (by omega)]
  rfl
theorem scv74 (op : Int) (l : List Int) : scanV op l 4 7 = comb op (rd l 3) (rd l 7) := by
  unfold scanV
  rw [if_pos (by omega)]
  rfl
theorem seg0_0 (op : Int) (l : List Int) : segAt op l 0 0 = rd l 0 := rfl
theorem seg0_1 (op : Int) (l : List Int) : segAt op l 0 1 = comb op (segAt op l 0 0) (rd l 1) := by
  show segV op l 0 1 (segAt op l 0 0) = _
  unfold segV
  rw [if_neg (by omega), if_neg (by decide)]
  rfl
theorem seg0_2 (op : Int) (l : List Int) : segAt op l 0 2 = comb op (segAt op l 0 1) (rd l 2) := by
  show segV op l 0 2 (segAt op l 0 1) = _
  unfold segV
  rw [if_neg (by omega), if_neg (by decide)]
  rfl
theorem seg0_3 (op : Int) (l : List Int) : segAt op l 0 3 = comb op (segAt op l 0 2) (rd l 3) := by
  show segV op l 0 3 (segAt op l 0 2) = _
  unfold segV
  rw [if_neg (by omega), if_neg (by decide)]
  rfl
theorem seg0_4 (op : Int) (l : List Int) : segAt op l 0 4 = comb op (segAt op l 0 3) (rd l 4) := by
  show segV op l 0 4 (segAt op l 0 3) = _
  unfold segV
  rw [if_neg (by omega), if_neg (by decide)]
  rfl
theorem seg0_5 (op : Int) (l : List Int) : segAt op l 0 5 = comb op (segAt op l 0 4) (rd l 5) := by
  show segV op l 0 5 (segAt op l 0 4) = _
  unfold segV
  rw [if_neg (by omega), if_neg (by decide)]
  rfl
theorem seg0_6 (op : Int) (l : List Int) : segAt op l 0 6 = comb op (segAt op l 0 5) (rd l 6) := by
  show segV op l 0 6 (segAt op l 0 5) = _
  unfold segV
  rw [if_neg (by omega), if_neg (by decide)]
  rfl
theorem seg0_7 (op : Int) (l : List Int) : segAt op l 0 7 = comb op (segAt op l 0 6) (rd l 7) := by
  show segV op l 0 7 (segAt op l 0 6) = _
  unfold segV
  rw [if_neg (by omega), if_neg (by decide)]
  rfl
theorem scanT2 (op : Int) (w0 w1 w2 : Wd) : (cw op w0 (cw op w1 w2)) = (cw op (cw op w0 w1) w2) := by ac_rfl
theorem scanT3 (op : Int) (w0 w1 w2 w3 : Wd) : (cw op (cw op w0 w1) (cw op w2 w3)) = (cw op (cw op (cw op w0 w1) w2) w3) := by ac_rfl
theorem scanT4 (op : Int) (w0 w1 w2 w3 w4 : Wd) : (cw op w0 (cw op (cw op w1 w2) (cw op w3 w4))) = (cw op (cw op (cw op (cw op w0 w1) w2) w3) w4) := by ac_rfl
theorem scanT5 (op : Int) (w0 w1 w2 w3 w4 w5 : Wd) : (cw op (cw op w0 w1) (cw op (cw op w2 w3) (cw op w4 w5))) = (cw op (cw op (cw op (cw op (cw op w0 w1) w2) w3) w4) w5) := by ac_rfl
theorem scanT6 (op : Int) (w0 w1 w2 w3 w4 w5 w6 : Wd) : (cw op (cw op w0 (cw op w1 w2)) (cw op (cw op w3 w4) (cw op w5 w6))) = (cw op (cw op (cw op (cw op (cw op (cw op w0 w1) w2) w3) w4) w5) w6) := by ac_rfl
theorem scanT7 (op : Int) (w0 w1 w2 w3 w4 w5 w6 w7 : Wd) : (cw op (cw op (cw op w0 w1) (cw op w2 w3)) (cw op (cw op w4 w5) (cw op w6 w7))) = (cw op (cw op (cw op (cw op (cw op (cw op (cw op w0 w1) w2) w3) w4) w5) w6) w7) := by ac_rfl
theorem scanV_vals (op : Int) (l : List Int) (d : Int) (hd : d = 4 ∨ d = 2 ∨ d = 1) (hv : valsB l = true) : valsB (map8 (scanV op l d)) = true := by
  apply map8_vals
  intro i h0 h1
  unfold scanV
  split
  · exact comb_word op _ _ (valsB_word hv _ (by omega) (by omega)) (valsB_word hv i h0 h1)
  · exact valsB_word hv i h0 h1
theorem scanR_map (op : Int) (l : List Int) (d : Int) (hd : d = 4 ∨ d = 2 ∨ d = 1) (hv : valsB l = true) (ho : isOpB op = true) : scanR op l d = map8 (scanV op l d) := by
  unfold scanR
  rw [hv, ho]
  rcases hd with rfl | rfl | rfl <;> rfl
theorem scanA_map (op : Int) (l : List Int) (hv : valsB l = true) (ho : isOpB op = true) : scanA op l = map8 (scanV op (map8 (scanV op (map8 (scanV op l 1)) 2)) 4) := by
  unfold scanA
  have v1 := scanV_vals op l 1 (by omega) hv
  have v2 := scanV_vals op _ 2 (by omega) v1
  rw [scanR_map op l 1 (by omega) hv ho, scanR_map op _ 2 (by omega) v1 ho, scanR_map op _ 4 (by omega) v2 ho]
theorem scanA_at0 (op : Int) (l : List Int) (hv : valsB l = true) (ho : isOpB op = true) : rd (scanA op l) 0 = segAt op l 0 0 := by
  rw [scanA_map op l hv ho, sgm0]
  simp only [scv04, scv02, scv01, sgm0, seg0_0]
theorem scanA_at1 (op : Int) (l : List Int) (hv : valsB l = true) (ho : isOpB op = true) : rd (scanA op l) 1 = segAt op l 0 1 := by
  rw [scanA_map op l hv ho, sgm1]
  simp only [scv14, scv12, scv11, sgm1, seg0_0, seg0_1]
theorem scanA_at2 (op : Int) (l : List Int) (hv : valsB l = true) (ho : isOpB op = true) : rd (scanA op l) 2 = segAt op l 0 2 := by
  rw [scanA_map op l hv ho, sgm2]
  simp only [scv24, scv22, scv01, scv21, sgm0, sgm2, seg0_0, seg0_1, seg0_2]
  exact congrArg Subtype.val (scanT2 op (wd l hv 0 (by omega) (by omega)) (wd l hv 1 (by omega) (by omega)) (wd l hv 2 (by omega) (by omega)))
theorem scanA_at3 (op : Int) (l : List Int) (hv : valsB l = true) (ho : isOpB op = true) : rd (scanA op l) 3 = segAt op l 0 3 := by
  rw [scanA_map op l hv ho, sgm3]
  simp only [scv34, scv32, scv11, scv31, sgm1, sgm3, seg0_0, seg0_1, seg0_2, seg0_3]
  exact congrArg Subtype.val (scanT3 op (wd l hv 0 (by omega) (by omega)) (wd l hv 1 (by omega) (by omega)) (wd l hv 2 (by omega) (by omega)) (wd l hv 3 (by omega) (by omega)))
theorem scanA_at4 (op : Int) (l : List Int) (hv : valsB l = true) (ho : isOpB op = true) : rd (scanA op l) 4 = segAt op l 0 4 := by
  rw [scanA_map op l hv ho, sgm4]
  simp only [scv44, scv02, scv42, scv01, scv21, scv41, sgm0, sgm2, sgm4, seg0_0, seg0_1, seg0_2, seg0_3, seg0_4]
  exact congrArg Subtype.val (scanT4 op (wd l hv 0 (by omega) (by omega)) (wd l hv 1 (by omega) (by omega)) (wd l hv 2 (by omega) (by omega)) (wd l hv 3 (by omega) (by omega)) (wd l hv 4 (by omega) (by omega)))
theorem scanA_at5 (op : Int) (l : List Int) (hv : valsB l = true) (ho : isOpB op = true) : rd (scanA op l) 5 = segAt op l 0 5 := by
  rw [scanA_map op l hv ho, sgm5]
  simp only [scv54, scv12, scv52, scv11, scv31, scv51, sgm1, sgm3, sgm5, seg0_0, seg0_1, seg0_2, seg0_3, seg0_4, seg0_5]
  exact congrArg Subtype.val (scanT5 op (wd l hv 0 (by omega) (by omega)) (wd l hv 1 (by omega) (by omega)) (wd l hv 2 (by omega) (by omega)) (wd l hv 3 (by omega) (by omega)) (wd l hv 4 (by omega) (by omega)) (wd l hv 5 (by omega) (by omega)))
theorem scanA_at6 (op : Int) (l : List Int) (hv : valsB l = true) (ho : isOpB op = true) : rd (scanA op l) 6 = segAt op l 0 6 := by
  rw [scanA_map op l hv ho, sgm6]
  simp only [scv64, scv22, scv62, scv01, scv21, scv41, scv61, sgm0, sgm2, sgm4, sgm6, seg0_0, seg0_1, seg0_2, seg0_3, seg0_4, seg0_5, seg0_6]
  exact congrArg Subtype.val (scanT6 op (wd l hv 0 (by omega) (by omega)) (wd l hv 1 (by omega) (by omega)) (wd l hv 2 (by omega) (by omega)) (wd l hv 3 (by omega) (by omega)) (wd l hv 4 (by omega) (by omega)) (wd l hv 5 (by omega) (by omega)) (wd l hv 6 (by omega) (by omega)))
theorem scanA_at7 (op : Int) (l : List Int) (hv : valsB l = true) (ho : isOpB op = true) : rd (scanA op l) 7 = segAt op l 0 7 := by
  rw [scanA_map op l hv ho, sgm7]
  simp only [scv74, scv32, scv72, scv11, scv31, scv51, scv71, sgm1, sgm3, sgm5, sgm7, seg0_0, seg0_1, seg0_2, seg0_3, seg0_4, seg0_5, seg0_6, seg0_7]
  exact congrArg Subtype.val (scanT7 op (wd l hv 0 (by omega) (by omega)) (wd l hv 1 (by omega) (by omega)) (wd l hv 2 (by omega) (by omega)) (wd l hv 3 (by omega) (by omega)) (wd l hv 4 (by omega) (by omega)) (wd l hv 5 (by omega) (by omega)) (wd l hv 6 (by omega) (by omega)) (wd l hv 7 (by omega) (by omega)))
theorem scanA_segs (op : Int) (l : List Int) (hv : valsB l = true) (ho : isOpB op = true) : scanA op l = segsL op l 0 := by
  have hl : (scanA op l).length = 8 := by rw [scanA_map op l hv ho, map8_len]
  unfold segsL
  rw [hv, ho]
  show scanA op l = segPre op l 0 8
  apply List.ext_getElem?
  intro j
  by_cases h8 : j < 8
  · rw [rd_nat (scanA op l) j (by omega), rd_nat (segPre op l 0 8) j (by rw [segPre_len]; omega), rd_segPre op l 0 8 j h8]
    congr 1
    have h : j = 0 ∨ j = 1 ∨ j = 2 ∨ j = 3 ∨ j = 4 ∨ j = 5 ∨ j = 6 ∨ j = 7 := by omega
    rcases h with rfl | rfl | rfl | rfl | rfl | rfl | rfl | rfl
    · exact scanA_at0 op l hv ho
    · exact scanA_at1 op l hv ho
    · exact scanA_at2 op l hv ho
    · exact scanA_at3 op l hv ho
    · exact scanA_at4 op l hv ho
    · exact scanA_at5 op l hv ho
    · exact scanA_at6 op l hv ho
    · exact scanA_at7 op l hv ho
  · rw [List.getElem?_eq_none (by omega), List.getElem?_eq_none (by rw [segPre_len]; omega)]
theorem hasB_255 : ∀ i : Fin 8, hasB 255 ((i : Nat) : Int) = true := by decide +kernel
theorem segs_255 (op : Int) (l : List Int) (hv : valsB l = true) (ho : isOpB op = true) : segsL op l 255 = l := by
  have hl := valsB_len hv
  unfold segsL
  rw [hv, ho]
  show segPre op l 255 8 = l
  apply List.ext_getElem?
  intro j
  by_cases h8 : j < 8
  · rw [rd_nat l j (by omega), rd_nat (segPre op l 255 8) j (by rw [segPre_len]; omega), rd_segPre op l 255 8 j h8]
    cases j with
    | zero => rfl
    | succ j =>
      congr 1
      unfold segAt segV
      rw [if_neg (by omega), if_pos (hasB_255 ⟨j + 1, h8⟩)]
  · rw [List.getElem?_eq_none (by rw [segPre_len]; omega), List.getElem?_eq_none (by omega)]
/-- The mask of the lanes from s to i. -/
theorem seg_mask : ∀ i s : Fin 8, (s : Nat) ≤ (i : Nat) → isMaskB (wrap64 ((shl .i64 2 ((i : Nat) : Int)) - (shl .i64 1 ((s : Nat) : Int)))) = true ∧ lanesL (wrap64 ((shl .i64 2 ((i : Nat) : Int)) - (shl .i64 1 ((s : Nat) : Int)))) = (List.range' s ((i : Nat) + 1 - (s : Nat))).map fun (j : Nat) => (j : Int) := by decide +kernel
theorem redM_seg (op : Int) (l : List Int) (hv : valsB l = true) (ho : isOpB op = true) (i s : Nat) (hi : i < 8) (hs : s ≤ i) : redM op l (wrap64 ((shl .i64 2 (i : Int)) - (shl .i64 1 (s : Int)))) = foldL op l ((List.range' s (i + 1 - s)).map fun (j : Nat) => (j : Int)) (neutB op) := by
  obtain ⟨h1, h2⟩ := seg_mask ⟨i, hi⟩ ⟨s, by omega⟩ hs
  simp only at h1 h2
  unfold redM
  rw [hv, ho, h1, h2]
  rfl
theorem redM_one (op : Int) (l : List Int) (hv : valsB l = true) (ho : isOpB op = true) (i : Nat) (hi : i < 8) : redM op l (wrap64 ((shl .i64 2 (i : Int)) - (shl .i64 1 (i : Int)))) = rd l (i : Int) := by
  rw [redM_seg op l hv ho i i hi (by omega), show i + 1 - i = 1 by omega]
  show comb op (neutB op) (rd l (i : Int)) = _
  exact comb_neut ho (valsB_word hv _ (by omega) (by omega))
theorem redM_more (op : Int) (l : List Int) (hv : valsB l = true) (ho : isOpB op = true) (i s : Nat) (hi : i + 1 < 8) (hs : s ≤ i) : redM op l (wrap64 ((shl .i64 2 ((i + 1 : Nat) : Int)) - (shl .i64 1 (s : Int)))) = comb op (redM op l (wrap64 ((shl .i64 2 (i : Int)) - (shl .i64 1 (s : Int))))) (rd l ((i + 1 : Nat) : Int)) := by
  rw [redM_seg op l hv ho (i + 1) s hi (by omega), redM_seg op l hv ho i s (by omega) hs, show i + 1 + 1 - s = (i + 1 - s) + 1 by omega, List.range'_concat]
  unfold foldL
  rw [List.map_append, List.foldl_append]
  simp only [List.map_cons, List.map_nil, List.foldl_cons, List.foldl_nil]
  rw [show s + 1 * (i + 1 - s) = i + 1 by omega]
theorem segsL_eq (op : Int) (l : List Int) (m : Int) (hv : valsB l = true) (hm : isMaskB m = true) (ho : isOpB op = true) : segsL op l m = segPre op l m 8 := by
  unfold segsL
  rw [hv, hm, ho]
  rfl
theorem FnSegments_end (v : List Int) (op m : Int) (s : Int) (hv : valsB v = true) (ho : isOpB op = true) (x : List Int) (k : Nat) (hk : 40 < k) : laws_FnSegments.l0 (k + 1) v op m x s 8 = some true := by
  have hlen := valsB_len hv
  have e2 := segs_255 op v hv ho
  have h1 : (segsL op v 0).length ≤ 8 := segsL_len op v 0
  simp only [laws_FnSegments.l0]
  rw [if_neg (by omega), impl_ScanSegments_is op v 0 k (by omega)]
  simp only [Option.bind_some]
  rw [impl_ScanAll_is op v k (by omega), scanA_segs op v hv ho]
  simp only [Option.bind_some]
  rw [sameInts_refl _ (by omega) k (by omega)]
  simp only [Option.bind_some, if_true]
  rw [impl_ScanSegments_is op v 255 k (by omega), e2]
  simp only [Option.bind_some]
  rw [sameInts_refl v (by omega) k (by omega)]
  rfl
theorem FnSegments_go (v : List Int) (op m : Int) (hv : valsB v = true) (ho : isOpB op = true) : ∀ (d k i s : Nat), i + d = 8 → d + 60 < k → (i = 0 ∧ s = 0 ∨ s < i ∧ segAt op v m (i - 1) = redM op v (wrap64 ((shl .i64 2 ((i - 1 : Nat) : Int)) - (shl .i64 1 (s : Int))))) → laws_FnSegments.l0 k v op m (segPre op v m 8) (s : Int) (i : Int) = some true := by
  intro d
  induction d with
  | zero =>
    intro k i s hi hk hs
    obtain ⟨k, rfl⟩ : ∃ m, k = m + 1 := ⟨k - 1, by omega⟩
    obtain rfl : i = 8 := by omega
    exact FnSegments_end v op m _ hv ho _ k (by omega)
  | succ d ih =>
    intro k i s hi hk hs
    obtain ⟨k, rfl⟩ : ∃ m, k = m + 1 := ⟨k - 1, by omega⟩
    have hlen := segPre_len op v m 8
    simp only [laws_FnSegments.l0]
    rw [if_pos (by omega), impl_HasLane_is]
    simp only [Option.bind_some]
    by_cases hh : hasB m (i : Int) = true
    · have e : segAt op v m i = redM op v (wrap64 ((shl .i64 2 (i : Int)) - (shl .i64 1 (i : Int)))) := by
        rw [redM_one op v hv ho i (by omega)]
        cases i with
        | zero => rfl
        | succ j =>
          unfold segAt segV
          rw [if_neg (by omega), if_pos hh]
      rw [if_pos hh, if_pos (by omega), if_pos (by omega), impl_ReduceMasked_is op v _ k (by omega)]
      simp only [Option.bind_some]
      rw [rd_segPre op v m 8 i (by omega), if_pos e, w64s i (by omega)]
      exact ih k (i + 1) i (by omega) (by omega) (Or.inr ⟨by omega, e⟩)
    · have e : segAt op v m i = redM op v (wrap64 ((shl .i64 2 (i : Int)) - (shl .i64 1 (s : Int)))) := by
        cases i with
        | zero =>
          obtain rfl : s = 0 := by omega
          exact (redM_one op v hv ho 0 (by omega)).symm
        | succ j =>
          have h2 : segAt op v m j = redM op v (wrap64 ((shl .i64 2 (j : Int)) - (shl .i64 1 (s : Int)))) := (hs.resolve_left (by omega)).2
          rw [redM_more op v hv ho j s (by omega) (by omega), ← h2]
          show segV op v m (j + 1) (segAt op v m j) = _
          unfold segV
          rw [if_neg (by omega), if_neg hh]
      rw [if_neg hh, if_pos (by omega), if_pos (by omega), if_pos (by omega), impl_ReduceMasked_is op v _ k (by omega)]
      simp only [Option.bind_some]
      rw [rd_segPre op v m 8 i (by omega), if_pos e, w64s i (by omega)]
      exact ih k (i + 1) s (by omega) (by omega) (Or.inr ⟨by omega, e⟩)
theorem FnSegments : laws_FnSegments.Pure := by
  intro l _ _ _
  obtain ⟨k0, hk0⟩ : ∃ k0 : Nat, 4100 ≤ k0 := ⟨4100, by omega⟩
  refine ⟨k0, ?_⟩
  unfold laws_FnSegments.f
  simp only [laws_big.f, Option.bind_some, decide_eq_true_eq]
  by_cases hb : (l.length : Int) > 1048576
  · rw [if_pos hb]
  · rw [if_neg hb]
    have hl : l.length ≤ 1048576 := by omega
    obtain ⟨v, hv, hv'⟩ := DrawValues_is l hl k0 (by omega)
    obtain ⟨op, ho, ho'⟩ := DrawReduction_is l hl k0 (by omega)
    obtain ⟨m, hm, hm'⟩ := DrawMask_is l hl k0 (by omega)
    have hlen := segPre_len op v m 8
    rw [hv]
    simp only [Option.bind_some]
    rw [ho]
    simp only [Option.bind_some]
    rw [hm]
    simp only [Option.bind_some]
    rw [impl_ScanSegments_is op v m k0 (by omega), segsL_eq op v m hv' hm' ho']
    simp only [Option.bind_some]
    rw [if_pos (by omega)]
    exact FnSegments_go v op m hv' ho' 8 k0 0 0 (by omega) (by omega) (Or.inl ⟨rfl, rfl⟩)

end Go.Proofs.Ytiolnbkaohioiaa.Pure
