/- EpochSafe. -/
import Derived.Test.YtmhepmocnnlhnaaQW
import Derived.Test.YtmhepmocnnlhnaaQX
namespace Go.Proofs.Ytmhepmocnnlhnaa.Ab
open Go Go.RowKit
set_option maxHeartbeats 16000000 in
theorem safeH_s (H : AH) (w : Int) (L M : List (Int × Int × Int)) (hd node : Int) (hw : I64 w) (hL : L.length ≤ maxLen ∧ R64 L) (hM : M.length ≤ maxLen ∧ R64 M) (hh : I64 hd) (hn : I64 node) :
    SC true Try.prog 4 [.i w, rows3 L, rows3 M, .i hd, .i node] H (fun r _ => r = .b true) := by
  have hA := awake_s
  have hEp := epochs_s w hw L hL.2 hL.1
  have hI := epochs_inv w L
  generalize epochsE w L = e at *
  have hw5 := pick_bd w 5 (by decide)
  have hwl := hI.wl
  generalize (1 + pick w 5).toNat = wl at *
  have hwp := hI.right.2.1
  have hML := hM.1
  unfold maxLen at hML
  obtain ⟨h, hph, hhe, hh0, hh1⟩ := pick_k hd (e.pins.length : Int) hh (by omega)
  obtain ⟨h, rfl⟩ := Int.eq_ofNat_of_zero_le hh0
  have hhl : h < e.pins.length := by omega
  obtain ⟨n, hpn, hne, hn0, hn1⟩ := pick_k node 50 hn (by decide)
  refine sc_in TYok Try.func4 (by kernel_rfl) Try.ntmps4 rfl rfl rfl ?_
  (repeat' (first | (refine sq_id ?_; first | refine sq_nil ?_ | refine sm ?_ | refine sa ?_ | refine ss ?_ | refine st ?_ | refine sf ?_ | refine sp ?_ | refine sq ?_ | refine sl ?_ | refine si ?_ | refine sx ?_ | refine sy ?_ | refine sc hA ?_ | refine sc hEp ?_) | (refine rg_id ?_; first | refine rg_fin ?_ | refine rm ?_ | refine ra ?_ | refine rs ?_ | refine rt ?_ | refine rf ?_ | refine rp ?_ | refine rq ?_ | refine rl ?_ | refine ri ?_ | refine rx ?_ | refine ry ?_ | refine sc hA ?_ | refine sc hEp ?_) | refine aw_rseq ?_ | refine aw_seq ?_ | refine aw_region ?_ | refine aw_skip ?_ | refine ct ?_ | refine cf ?_ | refine d0s ?_ | refine d0r ?_ | refine aw_block ?_ | refine aw_exit ?_ | refine then_ret ?_ | refine then_exit ?_ | refine then_normal ?_ | refine blk_ret ?_ | refine blk_normal ?_ | refine blk_exit ?_ | refine blk_pass rfl ?_ | refine sc hA ?_ | refine sc hEp ?_))
  refine nw fun H1 hb1 ho1 hl1 => ?_
  refine sw hb1 fun H2 hb2 ho2 hl2 => ?_
  refine sq_nil ?_
  refine aw_norm H.length (ebk (epc e)) hb2 rfl rfl rfl (one_of rfl rfl) fun H3 hb3 ho3 hl3 => ?_
  (repeat' (first | (refine sq_id ?_; first | refine sq_nil ?_ | refine sm ?_ | refine sa ?_ | refine ss ?_ | refine st ?_ | refine sf ?_ | refine sp ?_ | refine sq ?_ | refine sl ?_ | refine si ?_ | refine sx ?_ | refine sy ?_ | refine sc hph ?_) | (refine rg_id ?_; first | refine rg_fin ?_ | refine rm ?_ | refine ra ?_ | refine rs ?_ | refine rt ?_ | refine rf ?_ | refine rp ?_ | refine rq ?_ | refine rl ?_ | refine ri ?_ | refine rx ?_ | refine ry ?_ | refine sc hph ?_) | refine aw_rseq ?_ | refine aw_seq ?_ | refine aw_region ?_ | refine aw_skip ?_ | refine ct ?_ | refine cf ?_ | refine d0s ?_ | refine d0r ?_ | refine aw_block ?_ | refine aw_exit ?_ | refine then_ret ?_ | refine then_exit ?_ | refine then_normal ?_ | refine blk_ret ?_ | refine blk_normal ?_ | refine blk_exit ?_ | refine blk_pass rfl ?_ | refine sc hph ?_))
  refine aw_mid [2, 4, 11, 12, 13] (fun _ : Ep => [(2, rows3 M), (4, .i node), (11, .b true), (12, .ref H.length 6 0 0), (13, .i h)]) (fun e1 H' => IsBox H' H.length (epc e1) ∧ EI wl 40 20 e1 ∧ h < e1.pins.length ∧ e1.pins.getD h 0 ≠ 0) ?_ ?_
  · refine aw_dec rfl (fun h0 => ?_) (fun h0 => ?_)
    · have h0 : e.pins.getD h 0 = 0 := h0
      have hP := pin_s e hI.right.bd h
      rw [pin_ok hI.right hhl h0] at hP
      have hI1 := hI.pin h
      rw [pin_ok hI.right hhl h0] at hI1
      (repeat' (first | (refine sq_id ?_; first | refine sq_nil ?_ | refine sm ?_ | refine sa ?_ | refine ss ?_ | refine st ?_ | refine sf ?_ | refine sp ?_ | refine sq ?_ | refine sl ?_ | refine si ?_ | refine sx ?_ | refine sy ?_ | refine sc hP ?_) | (refine rg_id ?_; first | refine rg_fin ?_ | refine rm ?_ | refine ra ?_ | refine rs ?_ | refine rt ?_ | refine rf ?_ | refine rp ?_ | refine rq ?_ | refine rl ?_ | refine ri ?_ | refine rx ?_ | refine ry ?_ | refine sc hP ?_) | refine aw_rseq ?_ | refine aw_seq ?_ | refine aw_region ?_ | refine aw_skip ?_ | refine ct ?_ | refine cf ?_ | refine d0s ?_ | refine d0r ?_ | refine aw_block ?_ | refine aw_exit ?_ | refine then_ret ?_ | refine then_exit ?_ | refine then_normal ?_ | refine blk_ret ?_ | refine blk_normal ?_ | refine blk_exit ?_ | refine blk_pass rfl ?_ | refine sc hP ?_))
      refine sw hb3 fun H5 hb5 ho5 hl5 => ?_
      refine sq_nil ?_
      refine then_normal ⟨_, _, by rw [rstf_eq]; rfl, .refl _, ⟨_, hb5, rfl, rfl, rfl, rfl⟩, hI1, by show h < (e.pins.set h _).length; rw [List.length_set]; exact hhl, ?_⟩
      show (e.pins.set h _).getD h 0 ≠ 0
      rw [getD_set' _ _ _ _ hhl, if_pos rfl]
      have := hI.right.1.1
      omega
    · have h0 : ¬ e.pins.getD h 0 = 0 := h0
      (repeat' (first | (refine sq_id ?_; first | refine sq_nil ?_ | refine sm ?_ | refine sa ?_ | refine ss ?_ | refine st ?_ | refine sf ?_ | refine sp ?_ | refine sq ?_ | refine sl ?_ | refine si ?_ | refine sx ?_ | refine sy ?_) | (refine rg_id ?_; first | refine rg_fin ?_ | refine rm ?_ | refine ra ?_ | refine rs ?_ | refine rt ?_ | refine rf ?_ | refine rp ?_ | refine rq ?_ | refine rl ?_ | refine ri ?_ | refine rx ?_ | refine ry ?_) | refine aw_rseq ?_ | refine aw_seq ?_ | refine aw_region ?_ | refine aw_skip ?_ | refine ct ?_ | refine cf ?_ | refine d0s ?_ | refine d0r ?_ | refine aw_block ?_ | refine aw_exit ?_ | refine then_ret ?_ | refine then_exit ?_ | refine then_normal ?_ | refine blk_ret ?_ | refine blk_normal ?_ | refine blk_exit ?_ | refine blk_pass rfl ?_))
      exact ⟨_, _, by rw [rstf_eq]; rfl, .refl _, ⟨_, hb3, rfl, rfl, rfl, rfl⟩, hI, hhl, h0⟩
  clear hb1 hb2 hb3 ho1 ho2 ho3 hl1 hl2 hl3 hEp hI hwl hwp hph hhe hh0 hh1 hhl
  rintro e1 Hm ⟨⟨b, hbm, q1, q2, q3, q4⟩, hI1, hhl, hp1⟩
  refine aw_norm H.length (ebk (epc e1)) hbm q1.symm q2.symm q3.symm (one_of q3 q4) fun H4 hb4 ho4 hl4 => ?_
  clear hbm q1 q2 q3 q4 ho4 hl4
  have hwp := hI1.right.2.1
  (repeat' (first | (refine sq_id ?_; first | refine sq_nil ?_ | refine sm ?_ | refine sa ?_ | refine ss ?_ | refine st ?_ | refine sf ?_ | refine sp ?_ | refine sq ?_ | refine sl ?_ | refine si ?_ | refine sx ?_ | refine sy ?_ | refine sc hpn ?_) | (refine rg_id ?_; first | refine rg_fin ?_ | refine rm ?_ | refine ra ?_ | refine rs ?_ | refine rt ?_ | refine rf ?_ | refine rp ?_ | refine rq ?_ | refine rl ?_ | refine ri ?_ | refine rx ?_ | refine ry ?_ | refine sc hpn ?_) | refine aw_rseq ?_ | refine aw_seq ?_ | refine aw_region ?_ | refine aw_skip ?_ | refine ct ?_ | refine cf ?_ | refine d0s ?_ | refine d0r ?_ | refine aw_block ?_ | refine aw_exit ?_ | refine then_ret ?_ | refine then_exit ?_ | refine then_normal ?_ | refine blk_ret ?_ | refine blk_normal ?_ | refine blk_exit ?_ | refine blk_pass rfl ?_ | refine sc hpn ?_))
  refine aw_for [2, 11, 12, 13, 14, 15, 16] (fun a : Nat × Nat => [(2, rows3 M), (11, .b true), (12, .ref H.length 6 0 0), (13, .i h), (14, .i (100 + n)), (15, .i a.2), (16, .i a.1)]) (fun a H' => H' = H4 ∧ a.1 ≤ e1.pins.length ∧ a.2 < e1.pins.length ∧ ∀ j, j < a.1 → e1.pins.getD j 0 ≠ 0 → e1.pins.getD a.2 0 ≠ 0) (fun a => e1.pins.length - a.1) (0, 0) (by rw [rstf_eq]; rfl) ⟨rfl, by simp, by omega, fun j hj => by simp at hj⟩ ?_
  rintro ⟨k, v⟩ Hx ⟨rfl, hk, hv, hall⟩
  dsimp only at hk hv hall
  by_cases hkl : k < e1.pins.length
  · by_cases hz : e1.pins.getD k 0 = 0
    · have hz' : e1.pins.getD (badd 0 k) 0 = 0 := hz
      (repeat' (first | (refine sq_id ?_; first | refine sq_nil ?_ | refine sm ?_ | refine sa ?_ | refine ss ?_ | refine st ?_ | refine sf ?_ | refine sp ?_ | refine sq ?_ | refine sl ?_ | refine si ?_ | refine sx ?_ | refine sy ?_) | (refine rg_id ?_; first | refine rg_fin ?_ | refine rm ?_ | refine ra ?_ | refine rs ?_ | refine rt ?_ | refine rf ?_ | refine rp ?_ | refine rq ?_ | refine rl ?_ | refine ri ?_ | refine rx ?_ | refine ry ?_) | refine aw_rseq ?_ | refine aw_seq ?_ | refine aw_region ?_ | refine aw_skip ?_ | refine ct ?_ | refine cf ?_ | refine d0s ?_ | refine d0r ?_ | refine aw_block ?_ | refine aw_exit ?_ | refine then_ret ?_ | refine then_exit ?_ | refine then_normal ?_ | refine blk_ret ?_ | refine blk_normal ?_ | refine blk_exit ?_ | refine blk_pass rfl ?_))
      exact ⟨(k + 1, v), by rw [rstf_eq]; rfl, ⟨rfl, by show k + 1 ≤ _; omega, hv, fun j hj hp => by
        have hj : j < k + 1 := hj
        rcases Nat.lt_or_ge j k with h5 | h5
        · exact hall j h5 hp
        · exact absurd (by rw [show j = k by omega]; exact hz) hp⟩, by show _ - (k + 1) < _ - k; omega⟩
    · have hz' : ¬ e1.pins.getD (badd 0 k) 0 = 0 := hz
      (repeat' (first | (refine sq_id ?_; first | refine sq_nil ?_ | refine sm ?_ | refine sa ?_ | refine ss ?_ | refine st ?_ | refine sf ?_ | refine sp ?_ | refine sq ?_ | refine sl ?_ | refine si ?_ | refine sx ?_ | refine sy ?_) | (refine rg_id ?_; first | refine rg_fin ?_ | refine rm ?_ | refine ra ?_ | refine rs ?_ | refine rt ?_ | refine rf ?_ | refine rp ?_ | refine rq ?_ | refine rl ?_ | refine ri ?_ | refine rx ?_ | refine ry ?_) | refine aw_rseq ?_ | refine aw_seq ?_ | refine aw_region ?_ | refine aw_skip ?_ | refine ct ?_ | refine cf ?_ | refine d0s ?_ | refine d0r ?_ | refine aw_block ?_ | refine aw_exit ?_ | refine then_ret ?_ | refine then_exit ?_ | refine then_normal ?_ | refine blk_ret ?_ | refine blk_normal ?_ | refine blk_exit ?_ | refine blk_pass rfl ?_))
      exact ⟨(k + 1, k), by rw [rstf_eq]; rfl, ⟨rfl, by show k + 1 ≤ _; omega, hkl, fun j hj hp => hz⟩, by show _ - (k + 1) < _ - k; omega⟩
  have hpv := hall h (by omega) hp1
  have hnP : nodeP (100 + n) := ⟨by omega, by omega⟩
  have hnn : (100 + n) ∉ nodesL e1 := fun hm => by have := hI1.low _ hm; omega
  obtain ⟨hR, hS⟩ := SafeI.start hI1.right hhl hp1 hv hpv hnP hnn (by have := hI1.len; omega)
  have hT := retire_s e1 hI1.right.bd v (100 + n)
  rw [hR] at hT
  generalize addL e1 (e1.now % 3) (100 + n) = e2 at *
  generalize e1.pins.getD h 0 = p at *
  generalize e1.now = N at *
  (repeat' (first | (refine sq_id ?_; first | refine sq_nil ?_ | refine sm ?_ | refine sa ?_ | refine ss ?_ | refine st ?_ | refine sf ?_ | refine sp ?_ | refine sq ?_ | refine sl ?_ | refine si ?_ | refine sx ?_ | refine sy ?_ | refine sc hT ?_) | (refine rg_id ?_; first | refine rg_fin ?_ | refine rm ?_ | refine ra ?_ | refine rs ?_ | refine rt ?_ | refine rf ?_ | refine rp ?_ | refine rq ?_ | refine rl ?_ | refine ri ?_ | refine rx ?_ | refine ry ?_ | refine sc hT ?_) | refine aw_rseq ?_ | refine aw_seq ?_ | refine aw_region ?_ | refine aw_skip ?_ | refine ct ?_ | refine cf ?_ | refine d0s ?_ | refine d0r ?_ | refine aw_block ?_ | refine aw_exit ?_ | refine then_ret ?_ | refine then_exit ?_ | refine then_normal ?_ | refine blk_ret ?_ | refine blk_normal ?_ | refine blk_exit ?_ | refine blk_pass rfl ?_ | refine sc hT ?_))
  refine sw hb4 fun H5 hb5 ho5 hl5 => ?_
  refine sa ?_
  refine sq_nil ?_
  refine aw_norm H.length (ebk (epc e2)) hb5 rfl rfl rfl (one_of rfl rfl) fun H6 hb6 ho6 hl6 => ?_
  (repeat' (first | (refine sq_id ?_; first | refine sq_nil ?_ | refine sm ?_ | refine sa ?_ | refine ss ?_ | refine st ?_ | refine sf ?_ | refine sp ?_ | refine sq ?_ | refine sl ?_ | refine si ?_ | refine sx ?_ | refine sy ?_) | (refine rg_id ?_; first | refine rg_fin ?_ | refine rm ?_ | refine ra ?_ | refine rs ?_ | refine rt ?_ | refine rf ?_ | refine rp ?_ | refine rq ?_ | refine rl ?_ | refine ri ?_ | refine rx ?_ | refine ry ?_) | refine aw_rseq ?_ | refine aw_seq ?_ | refine aw_region ?_ | refine aw_skip ?_ | refine ct ?_ | refine cf ?_ | refine d0s ?_ | refine d0r ?_ | refine aw_block ?_ | refine aw_exit ?_ | refine then_ret ?_ | refine then_exit ?_ | refine then_normal ?_ | refine blk_ret ?_ | refine blk_normal ?_ | refine blk_exit ?_ | refine blk_pass rfl ?_))
  clear hb5 ho5 hl5 ho6 hl6 hT hR hb4 hI1 hall hk hv hkl hpv hwp hhl hnn
  refine aw_for [2, 11, 12, 13, 14, 18] (fun a : Ep × Nat => [(2, rows3 M), (11, .b true), (12, .ref H.length 6 0 0), (13, .i h), (14, .i (100 + n)), (18, .i a.2)]) (fun a H' => H'[H.length]? = some (some (ebk (epc a.1))) ∧ a.2 ≤ M.length ∧ a.2 ≤ 40 ∧ SafeI h p N (100 + n) a.1) (fun a => M.length - a.2) (e2, 0) (by rw [rstf_eq]; rfl) ⟨hb6, by simp, by simp, hS⟩ ?_
  clear hb6 hS
  rintro ⟨e, k⟩ Hx ⟨hb, hk, hk40, hS⟩
  dsimp only at hb hk hk40 hS
  have hbd := hS.right.bd
  by_cases hkl : k < M.length
  · by_cases hk4 : k < 40
    · have hx := hM.2 _ (mem_getD M (0, 0, 0) k hkl)
      obtain ⟨p1, hq1, he1, hp10, hp11⟩ := pick_k (M.getD k (0, 0, 0)).2.1 5 hx.2.1 (by decide)
      obtain ⟨p0, hq0, he0, hp00, hp01⟩ := pick_k (M.getD k (0, 0, 0)).1 8 hx.1 (by decide)
      obtain ⟨p2, hq2, he2, hp20, hp21⟩ := pick_k (M.getD k (0, 0, 0)).2.2 20 hx.2.2 (by decide)
      clear he0 he1 he2
      rcases (by omega : p0 = 0 ∨ p0 = 1 ∨ p0 = 2 ∨ p0 = 3 ∨ p0 = 4 ∨ p0 = 5 ∨ p0 = 6 ∨ p0 = 7) with rfl | rfl | rfl | rfl | rfl | rfl | rfl | rfl
      · have hC := pin_s e hbd p1
        have hS2 := hS.dopin p1
        have hq : ∃ q, q = pinE e p1 := ⟨_, rfl⟩
        obtain ⟨⟨e', er⟩, hq⟩ := hq
        rw [← hq] at hC hS2
        dsimp only at hS2
        clear hq
        (repeat' (first | (refine sq_id ?_; first | refine sq_nil ?_ | refine sm ?_ | refine sa ?_ | refine ss ?_ | refine st ?_ | refine sf ?_ | refine sp ?_ | refine sq ?_ | refine sl ?_ | refine si ?_ | refine sx ?_ | refine sy ?_ | refine sc hq1 ?_ | refine sc hq0 ?_ | refine sc hC ?_) | (refine rg_id ?_; first | refine rg_fin ?_ | refine rm ?_ | refine ra ?_ | refine rs ?_ | refine rt ?_ | refine rf ?_ | refine rp ?_ | refine rq ?_ | refine rl ?_ | refine ri ?_ | refine rx ?_ | refine ry ?_ | refine sc hq1 ?_ | refine sc hq0 ?_ | refine sc hC ?_) | refine aw_rseq ?_ | refine aw_seq ?_ | refine aw_region ?_ | refine aw_skip ?_ | refine ct ?_ | refine cf ?_ | refine d0s ?_ | refine d0r ?_ | refine aw_block ?_ | refine aw_exit ?_ | refine then_ret ?_ | refine then_exit ?_ | refine then_normal ?_ | refine blk_ret ?_ | refine blk_normal ?_ | refine blk_exit ?_ | refine blk_pass rfl ?_ | refine sc hq1 ?_ | refine sc hq0 ?_ | refine sc hC ?_))
        refine sw hb fun H5 hb5 ho5 hl5 => ?_
        refine sq_nil ?_
        refine aw_norm H.length (ebk (epc e')) hb5 rfl rfl rfl (one_of rfl rfl) fun H6 hb6 ho6 hl6 => ?_
        have hin := in_s e'.free (100 + n) (by have := hS2.right.bd.2; omega)
        rw [decide_eq_false hS2.nfree] at hin
        have hrt := right_s e' hS2.right.bd
        rw [decide_eq_true hS2.right] at hrt
        (repeat' (first | (refine sq_id ?_; first | refine sq_nil ?_ | refine sm ?_ | refine sa ?_ | refine ss ?_ | refine st ?_ | refine sf ?_ | refine sp ?_ | refine sq ?_ | refine sl ?_ | refine si ?_ | refine sx ?_ | refine sy ?_ | refine sc hin ?_ | refine sc hrt ?_) | (refine rg_id ?_; first | refine rg_fin ?_ | refine rm ?_ | refine ra ?_ | refine rs ?_ | refine rt ?_ | refine rf ?_ | refine rp ?_ | refine rq ?_ | refine rl ?_ | refine ri ?_ | refine rx ?_ | refine ry ?_ | refine sc hin ?_ | refine sc hrt ?_) | refine aw_rseq ?_ | refine aw_seq ?_ | refine aw_region ?_ | refine aw_skip ?_ | refine ct ?_ | refine cf ?_ | refine d0s ?_ | refine d0r ?_ | refine aw_block ?_ | refine aw_exit ?_ | refine then_ret ?_ | refine then_exit ?_ | refine then_normal ?_ | refine blk_ret ?_ | refine blk_normal ?_ | refine blk_exit ?_ | refine blk_pass rfl ?_ | refine sc hin ?_ | refine sc hrt ?_))
        exact ⟨(e', k + 1), by rw [rstf_eq]; rfl, ⟨hb6, by show k + 1 ≤ _; omega, by show k + 1 ≤ _; omega, hS2⟩, by show _ - (k + 1) < _ - k; omega⟩
      · have hC := pin_s e hbd p1
        have hS2 := hS.dopin p1
        have hq : ∃ q, q = pinE e p1 := ⟨_, rfl⟩
        obtain ⟨⟨e', er⟩, hq⟩ := hq
        rw [← hq] at hC hS2
        dsimp only at hS2
        clear hq
        (repeat' (first | (refine sq_id ?_; first | refine sq_nil ?_ | refine sm ?_ | refine sa ?_ | refine ss ?_ | refine st ?_ | refine sf ?_ | refine sp ?_ | refine sq ?_ | refine sl ?_ | refine si ?_ | refine sx ?_ | refine sy ?_ | refine sc hq1 ?_ | refine sc hq0 ?_ | refine sc hC ?_) | (refine rg_id ?_; first | refine rg_fin ?_ | refine rm ?_ | refine ra ?_ | refine rs ?_ | refine rt ?_ | refine rf ?_ | refine rp ?_ | refine rq ?_ | refine rl ?_ | refine ri ?_ | refine rx ?_ | refine ry ?_ | refine sc hq1 ?_ | refine sc hq0 ?_ | refine sc hC ?_) | refine aw_rseq ?_ | refine aw_seq ?_ | refine aw_region ?_ | refine aw_skip ?_ | refine ct ?_ | refine cf ?_ | refine d0s ?_ | refine d0r ?_ | refine aw_block ?_ | refine aw_exit ?_ | refine then_ret ?_ | refine then_exit ?_ | refine then_normal ?_ | refine blk_ret ?_ | refine blk_normal ?_ | refine blk_exit ?_ | refine blk_pass rfl ?_ | refine sc hq1 ?_ | refine sc hq0 ?_ | refine sc hC ?_))
        refine sw hb fun H5 hb5 ho5 hl5 => ?_
        refine sq_nil ?_
        refine aw_norm H.length (ebk (epc e')) hb5 rfl rfl rfl (one_of rfl rfl) fun H6 hb6 ho6 hl6 => ?_
        have hin := in_s e'.free (100 + n) (by have := hS2.right.bd.2; omega)
        rw [decide_eq_false hS2.nfree] at hin
        have hrt := right_s e' hS2.right.bd
        rw [decide_eq_true hS2.right] at hrt
        (repeat' (first | (refine sq_id ?_; first | refine sq_nil ?_ | refine sm ?_ | refine sa ?_ | refine ss ?_ | refine st ?_ | refine sf ?_ | refine sp ?_ | refine sq ?_ | refine sl ?_ | refine si ?_ | refine sx ?_ | refine sy ?_ | refine sc hin ?_ | refine sc hrt ?_) | (refine rg_id ?_; first | refine rg_fin ?_ | refine rm ?_ | refine ra ?_ | refine rs ?_ | refine rt ?_ | refine rf ?_ | refine rp ?_ | refine rq ?_ | refine rl ?_ | refine ri ?_ | refine rx ?_ | refine ry ?_ | refine sc hin ?_ | refine sc hrt ?_) | refine aw_rseq ?_ | refine aw_seq ?_ | refine aw_region ?_ | refine aw_skip ?_ | refine ct ?_ | refine cf ?_ | refine d0s ?_ | refine d0r ?_ | refine aw_block ?_ | refine aw_exit ?_ | refine then_ret ?_ | refine then_exit ?_ | refine then_normal ?_ | refine blk_ret ?_ | refine blk_normal ?_ | refine blk_exit ?_ | refine blk_pass rfl ?_ | refine sc hin ?_ | refine sc hrt ?_))
        exact ⟨(e', k + 1), by rw [rstf_eq]; rfl, ⟨hb6, by show k + 1 ≤ _; omega, by show k + 1 ≤ _; omega, hS2⟩, by show _ - (k + 1) < _ - k; omega⟩
      · by_cases hph : p1 = (h : Int)
        · have hS2 := hS
          have hb6 := hb
          (repeat' (first | (refine sq_id ?_; first | refine sq_nil ?_ | refine sm ?_ | refine sa ?_ | refine ss ?_ | refine st ?_ | refine sf ?_ | refine sp ?_ | refine sq ?_ | refine sl ?_ | refine si ?_ | refine sx ?_ | refine sy ?_ | refine sc hq1 ?_ | refine sc hq0 ?_) | (refine rg_id ?_; first | refine rg_fin ?_ | refine rm ?_ | refine ra ?_ | refine rs ?_ | refine rt ?_ | refine rf ?_ | refine rp ?_ | refine rq ?_ | refine rl ?_ | refine ri ?_ | refine rx ?_ | refine ry ?_ | refine sc hq1 ?_ | refine sc hq0 ?_) | refine aw_rseq ?_ | refine aw_seq ?_ | refine aw_region ?_ | refine aw_skip ?_ | refine ct ?_ | refine cf ?_ | refine d0s ?_ | refine d0r ?_ | refine aw_block ?_ | refine aw_exit ?_ | refine then_ret ?_ | refine then_exit ?_ | refine then_normal ?_ | refine blk_ret ?_ | refine blk_normal ?_ | refine blk_exit ?_ | refine blk_pass rfl ?_ | refine sc hq1 ?_ | refine sc hq0 ?_))
          have hin := in_s e.free (100 + n) (by have := hS2.right.bd.2; omega)
          rw [decide_eq_false hS2.nfree] at hin
          have hrt := right_s e hS2.right.bd
          rw [decide_eq_true hS2.right] at hrt
          (repeat' (first | (refine sq_id ?_; first | refine sq_nil ?_ | refine sm ?_ | refine sa ?_ | refine ss ?_ | refine st ?_ | refine sf ?_ | refine sp ?_ | refine sq ?_ | refine sl ?_ | refine si ?_ | refine sx ?_ | refine sy ?_ | refine sc hin ?_ | refine sc hrt ?_) | (refine rg_id ?_; first | refine rg_fin ?_ | refine rm ?_ | refine ra ?_ | refine rs ?_ | refine rt ?_ | refine rf ?_ | refine rp ?_ | refine rq ?_ | refine rl ?_ | refine ri ?_ | refine rx ?_ | refine ry ?_ | refine sc hin ?_ | refine sc hrt ?_) | refine aw_rseq ?_ | refine aw_seq ?_ | refine aw_region ?_ | refine aw_skip ?_ | refine ct ?_ | refine cf ?_ | refine d0s ?_ | refine d0r ?_ | refine aw_block ?_ | refine aw_exit ?_ | refine then_ret ?_ | refine then_exit ?_ | refine then_normal ?_ | refine blk_ret ?_ | refine blk_normal ?_ | refine blk_exit ?_ | refine blk_pass rfl ?_ | refine sc hin ?_ | refine sc hrt ?_))
          exact ⟨(e, k + 1), by rw [rstf_eq]; rfl, ⟨hb6, by show k + 1 ≤ _; omega, by show k + 1 ≤ _; omega, hS2⟩, by show _ - (k + 1) < _ - k; omega⟩
        ·
          have hC := unpin_s e hbd p1
          have hS2 := hS.dounpin p1 hph
          have hq : ∃ q, q = unpinE e p1 := ⟨_, rfl⟩
          obtain ⟨⟨e', er⟩, hq⟩ := hq
          rw [← hq] at hC hS2
          dsimp only at hS2
          clear hq
          (repeat' (first | (refine sq_id ?_; first | refine sq_nil ?_ | refine sm ?_ | refine sa ?_ | refine ss ?_ | refine st ?_ | refine sf ?_ | refine sp ?_ | refine sq ?_ | refine sl ?_ | refine si ?_ | refine sx ?_ | refine sy ?_ | refine sc hq1 ?_ | refine sc hq0 ?_ | refine sc hC ?_) | (refine rg_id ?_; first | refine rg_fin ?_ | refine rm ?_ | refine ra ?_ | refine rs ?_ | refine rt ?_ | refine rf ?_ | refine rp ?_ | refine rq ?_ | refine rl ?_ | refine ri ?_ | refine rx ?_ | refine ry ?_ | refine sc hq1 ?_ | refine sc hq0 ?_ | refine sc hC ?_) | refine aw_rseq ?_ | refine aw_seq ?_ | refine aw_region ?_ | refine aw_skip ?_ | refine ct ?_ | refine cf ?_ | refine d0s ?_ | refine d0r ?_ | refine aw_block ?_ | refine aw_exit ?_ | refine then_ret ?_ | refine then_exit ?_ | refine then_normal ?_ | refine blk_ret ?_ | refine blk_normal ?_ | refine blk_exit ?_ | refine blk_pass rfl ?_ | refine sc hq1 ?_ | refine sc hq0 ?_ | refine sc hC ?_))
          refine sw hb fun H5 hb5 ho5 hl5 => ?_
          refine sq_nil ?_
          refine aw_norm H.length (ebk (epc e')) hb5 rfl rfl rfl (one_of rfl rfl) fun H6 hb6 ho6 hl6 => ?_
          have hin := in_s e'.free (100 + n) (by have := hS2.right.bd.2; omega)
          rw [decide_eq_false hS2.nfree] at hin
          have hrt := right_s e' hS2.right.bd
          rw [decide_eq_true hS2.right] at hrt
          (repeat' (first | (refine sq_id ?_; first | refine sq_nil ?_ | refine sm ?_ | refine sa ?_ | refine ss ?_ | refine st ?_ | refine sf ?_ | refine sp ?_ | refine sq ?_ | refine sl ?_ | refine si ?_ | refine sx ?_ | refine sy ?_ | refine sc hin ?_ | refine sc hrt ?_) | (refine rg_id ?_; first | refine rg_fin ?_ | refine rm ?_ | refine ra ?_ | refine rs ?_ | refine rt ?_ | refine rf ?_ | refine rp ?_ | refine rq ?_ | refine rl ?_ | refine ri ?_ | refine rx ?_ | refine ry ?_ | refine sc hin ?_ | refine sc hrt ?_) | refine aw_rseq ?_ | refine aw_seq ?_ | refine aw_region ?_ | refine aw_skip ?_ | refine ct ?_ | refine cf ?_ | refine d0s ?_ | refine d0r ?_ | refine aw_block ?_ | refine aw_exit ?_ | refine then_ret ?_ | refine then_exit ?_ | refine then_normal ?_ | refine blk_ret ?_ | refine blk_normal ?_ | refine blk_exit ?_ | refine blk_pass rfl ?_ | refine sc hin ?_ | refine sc hrt ?_))
          exact ⟨(e', k + 1), by rw [rstf_eq]; rfl, ⟨hb6, by show k + 1 ≤ _; omega, by show k + 1 ≤ _; omega, hS2⟩, by show _ - (k + 1) < _ - k; omega⟩
      · have hC := retire_s e hbd p1 p2
        have hS2 := hS.doretire p1 p2
        have hq : ∃ q, q = retireE e p1 p2 := ⟨_, rfl⟩
        obtain ⟨⟨e', er⟩, hq⟩ := hq
        rw [← hq] at hC hS2
        dsimp only at hS2
        clear hq
        (repeat' (first | (refine sq_id ?_; first | refine sq_nil ?_ | refine sm ?_ | refine sa ?_ | refine ss ?_ | refine st ?_ | refine sf ?_ | refine sp ?_ | refine sq ?_ | refine sl ?_ | refine si ?_ | refine sx ?_ | refine sy ?_ | refine sc hq1 ?_ | refine sc hq0 ?_ | refine sc hC ?_ | refine rc hq2 ?_ | refine rc hC ?_) | (refine rg_id ?_; first | refine rg_fin ?_ | refine rm ?_ | refine ra ?_ | refine rs ?_ | refine rt ?_ | refine rf ?_ | refine rp ?_ | refine rq ?_ | refine rl ?_ | refine ri ?_ | refine rx ?_ | refine ry ?_ | refine sc hq1 ?_ | refine sc hq0 ?_ | refine sc hC ?_ | refine rc hq2 ?_ | refine rc hC ?_) | refine aw_rseq ?_ | refine aw_seq ?_ | refine aw_region ?_ | refine aw_skip ?_ | refine ct ?_ | refine cf ?_ | refine d0s ?_ | refine d0r ?_ | refine aw_block ?_ | refine aw_exit ?_ | refine then_ret ?_ | refine then_exit ?_ | refine then_normal ?_ | refine blk_ret ?_ | refine blk_normal ?_ | refine blk_exit ?_ | refine blk_pass rfl ?_ | refine sc hq1 ?_ | refine sc hq0 ?_ | refine sc hC ?_ | refine rc hq2 ?_ | refine rc hC ?_))
        refine sw hb fun H5 hb5 ho5 hl5 => ?_
        refine sq_nil ?_
        refine aw_norm H.length (ebk (epc e')) hb5 rfl rfl rfl (one_of rfl rfl) fun H6 hb6 ho6 hl6 => ?_
        have hin := in_s e'.free (100 + n) (by have := hS2.right.bd.2; omega)
        rw [decide_eq_false hS2.nfree] at hin
        have hrt := right_s e' hS2.right.bd
        rw [decide_eq_true hS2.right] at hrt
        (repeat' (first | (refine sq_id ?_; first | refine sq_nil ?_ | refine sm ?_ | refine sa ?_ | refine ss ?_ | refine st ?_ | refine sf ?_ | refine sp ?_ | refine sq ?_ | refine sl ?_ | refine si ?_ | refine sx ?_ | refine sy ?_ | refine sc hin ?_ | refine sc hrt ?_) | (refine rg_id ?_; first | refine rg_fin ?_ | refine rm ?_ | refine ra ?_ | refine rs ?_ | refine rt ?_ | refine rf ?_ | refine rp ?_ | refine rq ?_ | refine rl ?_ | refine ri ?_ | refine rx ?_ | refine ry ?_ | refine sc hin ?_ | refine sc hrt ?_) | refine aw_rseq ?_ | refine aw_seq ?_ | refine aw_region ?_ | refine aw_skip ?_ | refine ct ?_ | refine cf ?_ | refine d0s ?_ | refine d0r ?_ | refine aw_block ?_ | refine aw_exit ?_ | refine then_ret ?_ | refine then_exit ?_ | refine then_normal ?_ | refine blk_ret ?_ | refine blk_normal ?_ | refine blk_exit ?_ | refine blk_pass rfl ?_ | refine sc hin ?_ | refine sc hrt ?_))
        exact ⟨(e', k + 1), by rw [rstf_eq]; rfl, ⟨hb6, by show k + 1 ≤ _; omega, by show k + 1 ≤ _; omega, hS2⟩, by show _ - (k + 1) < _ - k; omega⟩
      · have hC := advance_s e hbd
        have hS2 := hS.doadvance
        have hq : ∃ q, q = advanceE e := ⟨_, rfl⟩
        obtain ⟨⟨e', b', er⟩, hq⟩ := hq
        rw [← hq] at hC hS2
        dsimp only at hS2
        clear hq
        (repeat' (first | (refine sq_id ?_; first | refine sq_nil ?_ | refine sm ?_ | refine sa ?_ | refine ss ?_ | refine st ?_ | refine sf ?_ | refine sp ?_ | refine sq ?_ | refine sl ?_ | refine si ?_ | refine sx ?_ | refine sy ?_ | refine sc hq1 ?_ | refine sc hq0 ?_ | refine sc hC ?_) | (refine rg_id ?_; first | refine rg_fin ?_ | refine rm ?_ | refine ra ?_ | refine rs ?_ | refine rt ?_ | refine rf ?_ | refine rp ?_ | refine rq ?_ | refine rl ?_ | refine ri ?_ | refine rx ?_ | refine ry ?_ | refine sc hq1 ?_ | refine sc hq0 ?_ | refine sc hC ?_) | refine aw_rseq ?_ | refine aw_seq ?_ | refine aw_region ?_ | refine aw_skip ?_ | refine ct ?_ | refine cf ?_ | refine d0s ?_ | refine d0r ?_ | refine aw_block ?_ | refine aw_exit ?_ | refine then_ret ?_ | refine then_exit ?_ | refine then_normal ?_ | refine blk_ret ?_ | refine blk_normal ?_ | refine blk_exit ?_ | refine blk_pass rfl ?_ | refine sc hq1 ?_ | refine sc hq0 ?_ | refine sc hC ?_))
        refine sw hb fun H5 hb5 ho5 hl5 => ?_
        refine sq_nil ?_
        refine aw_norm H.length (ebk (epc e')) hb5 rfl rfl rfl (one_of rfl rfl) fun H6 hb6 ho6 hl6 => ?_
        have hin := in_s e'.free (100 + n) (by have := hS2.right.bd.2; omega)
        rw [decide_eq_false hS2.nfree] at hin
        have hrt := right_s e' hS2.right.bd
        rw [decide_eq_true hS2.right] at hrt
        (repeat' (first | (refine sq_id ?_; first | refine sq_nil ?_ | refine sm ?_ | refine sa ?_ | refine ss ?_ | refine st ?_ | refine sf ?_ | refine sp ?_ | refine sq ?_ | refine sl ?_ | refine si ?_ | refine sx ?_ | refine sy ?_ | refine sc hin ?_ | refine sc hrt ?_) | (refine rg_id ?_; first | refine rg_fin ?_ | refine rm ?_ | refine ra ?_ | refine rs ?_ | refine rt ?_ | refine rf ?_ | refine rp ?_ | refine rq ?_ | refine rl ?_ | refine ri ?_ | refine rx ?_ | refine ry ?_ | refine sc hin ?_ | refine sc hrt ?_) | refine aw_rseq ?_ | refine aw_seq ?_ | refine aw_region ?_ | refine aw_skip ?_ | refine ct ?_ | refine cf ?_ | refine d0s ?_ | refine d0r ?_ | refine aw_block ?_ | refine aw_exit ?_ | refine then_ret ?_ | refine then_exit ?_ | refine then_normal ?_ | refine blk_ret ?_ | refine blk_normal ?_ | refine blk_exit ?_ | refine blk_pass rfl ?_ | refine sc hin ?_ | refine sc hrt ?_))
        exact ⟨(e', k + 1), by rw [rstf_eq]; rfl, ⟨hb6, by show k + 1 ≤ _; omega, by show k + 1 ≤ _; omega, hS2⟩, by show _ - (k + 1) < _ - k; omega⟩
      · have hC := advance_s e hbd
        have hS2 := hS.doadvance
        have hq : ∃ q, q = advanceE e := ⟨_, rfl⟩
        obtain ⟨⟨e', b', er⟩, hq⟩ := hq
        rw [← hq] at hC hS2
        dsimp only at hS2
        clear hq
        (repeat' (first | (refine sq_id ?_; first | refine sq_nil ?_ | refine sm ?_ | refine sa ?_ | refine ss ?_ | refine st ?_ | refine sf ?_ | refine sp ?_ | refine sq ?_ | refine sl ?_ | refine si ?_ | refine sx ?_ | refine sy ?_ | refine sc hq1 ?_ | refine sc hq0 ?_ | refine sc hC ?_) | (refine rg_id ?_; first | refine rg_fin ?_ | refine rm ?_ | refine ra ?_ | refine rs ?_ | refine rt ?_ | refine rf ?_ | refine rp ?_ | refine rq ?_ | refine rl ?_ | refine ri ?_ | refine rx ?_ | refine ry ?_ | refine sc hq1 ?_ | refine sc hq0 ?_ | refine sc hC ?_) | refine aw_rseq ?_ | refine aw_seq ?_ | refine aw_region ?_ | refine aw_skip ?_ | refine ct ?_ | refine cf ?_ | refine d0s ?_ | refine d0r ?_ | refine aw_block ?_ | refine aw_exit ?_ | refine then_ret ?_ | refine then_exit ?_ | refine then_normal ?_ | refine blk_ret ?_ | refine blk_normal ?_ | refine blk_exit ?_ | refine blk_pass rfl ?_ | refine sc hq1 ?_ | refine sc hq0 ?_ | refine sc hC ?_))
        refine sw hb fun H5 hb5 ho5 hl5 => ?_
        refine sq_nil ?_
        refine aw_norm H.length (ebk (epc e')) hb5 rfl rfl rfl (one_of rfl rfl) fun H6 hb6 ho6 hl6 => ?_
        have hin := in_s e'.free (100 + n) (by have := hS2.right.bd.2; omega)
        rw [decide_eq_false hS2.nfree] at hin
        have hrt := right_s e' hS2.right.bd
        rw [decide_eq_true hS2.right] at hrt
        (repeat' (first | (refine sq_id ?_; first | refine sq_nil ?_ | refine sm ?_ | refine sa ?_ | refine ss ?_ | refine st ?_ | refine sf ?_ | refine sp ?_ | refine sq ?_ | refine sl ?_ | refine si ?_ | refine sx ?_ | refine sy ?_ | refine sc hin ?_ | refine sc hrt ?_) | (refine rg_id ?_; first | refine rg_fin ?_ | refine rm ?_ | refine ra ?_ | refine rs ?_ | refine rt ?_ | refine rf ?_ | refine rp ?_ | refine rq ?_ | refine rl ?_ | refine ri ?_ | refine rx ?_ | refine ry ?_ | refine sc hin ?_ | refine sc hrt ?_) | refine aw_rseq ?_ | refine aw_seq ?_ | refine aw_region ?_ | refine aw_skip ?_ | refine ct ?_ | refine cf ?_ | refine d0s ?_ | refine d0r ?_ | refine aw_block ?_ | refine aw_exit ?_ | refine then_ret ?_ | refine then_exit ?_ | refine then_normal ?_ | refine blk_ret ?_ | refine blk_normal ?_ | refine blk_exit ?_ | refine blk_pass rfl ?_ | refine sc hin ?_ | refine sc hrt ?_))
        exact ⟨(e', k + 1), by rw [rstf_eq]; rfl, ⟨hb6, by show k + 1 ≤ _; omega, by show k + 1 ≤ _; omega, hS2⟩, by show _ - (k + 1) < _ - k; omega⟩
      · have hC := advance_s e hbd
        have hS2 := hS.doadvance
        have hq : ∃ q, q = advanceE e := ⟨_, rfl⟩
        obtain ⟨⟨e', b', er⟩, hq⟩ := hq
        rw [← hq] at hC hS2
        dsimp only at hS2
        clear hq
        (repeat' (first | (refine sq_id ?_; first | refine sq_nil ?_ | refine sm ?_ | refine sa ?_ | refine ss ?_ | refine st ?_ | refine sf ?_ | refine sp ?_ | refine sq ?_ | refine sl ?_ | refine si ?_ | refine sx ?_ | refine sy ?_ | refine sc hq1 ?_ | refine sc hq0 ?_ | refine sc hC ?_) | (refine rg_id ?_; first | refine rg_fin ?_ | refine rm ?_ | refine ra ?_ | refine rs ?_ | refine rt ?_ | refine rf ?_ | refine rp ?_ | refine rq ?_ | refine rl ?_ | refine ri ?_ | refine rx ?_ | refine ry ?_ | refine sc hq1 ?_ | refine sc hq0 ?_ | refine sc hC ?_) | refine aw_rseq ?_ | refine aw_seq ?_ | refine aw_region ?_ | refine aw_skip ?_ | refine ct ?_ | refine cf ?_ | refine d0s ?_ | refine d0r ?_ | refine aw_block ?_ | refine aw_exit ?_ | refine then_ret ?_ | refine then_exit ?_ | refine then_normal ?_ | refine blk_ret ?_ | refine blk_normal ?_ | refine blk_exit ?_ | refine blk_pass rfl ?_ | refine sc hq1 ?_ | refine sc hq0 ?_ | refine sc hC ?_))
        refine sw hb fun H5 hb5 ho5 hl5 => ?_
        refine sq_nil ?_
        refine aw_norm H.length (ebk (epc e')) hb5 rfl rfl rfl (one_of rfl rfl) fun H6 hb6 ho6 hl6 => ?_
        have hin := in_s e'.free (100 + n) (by have := hS2.right.bd.2; omega)
        rw [decide_eq_false hS2.nfree] at hin
        have hrt := right_s e' hS2.right.bd
        rw [decide_eq_true hS2.right] at hrt
        (repeat' (first | (refine sq_id ?_; first | refine sq_nil ?_ | refine sm ?_ | refine sa ?_ | refine ss ?_ | refine st ?_ | refine sf ?_ | refine sp ?_ | refine sq ?_ | refine sl ?_ | refine si ?_ | refine sx ?_ | refine sy ?_ | refine sc hin ?_ | refine sc hrt ?_) | (refine rg_id ?_; first | refine rg_fin ?_ | refine rm ?_ | refine ra ?_ | refine rs ?_ | refine rt ?_ | refine rf ?_ | refine rp ?_ | refine rq ?_ | refine rl ?_ | refine ri ?_ | refine rx ?_ | refine ry ?_ | refine sc hin ?_ | refine sc hrt ?_) | refine aw_rseq ?_ | refine aw_seq ?_ | refine aw_region ?_ | refine aw_skip ?_ | refine ct ?_ | refine cf ?_ | refine d0s ?_ | refine d0r ?_ | refine aw_block ?_ | refine aw_exit ?_ | refine then_ret ?_ | refine then_exit ?_ | refine then_normal ?_ | refine blk_ret ?_ | refine blk_normal ?_ | refine blk_exit ?_ | refine blk_pass rfl ?_ | refine sc hin ?_ | refine sc hrt ?_))
        exact ⟨(e', k + 1), by rw [rstf_eq]; rfl, ⟨hb6, by show k + 1 ≤ _; omega, by show k + 1 ≤ _; omega, hS2⟩, by show _ - (k + 1) < _ - k; omega⟩
      · have hC := take_s e hbd
        have hS2 := hS.dotake
        have hg := hS.taken (by omega)
        have hq : ∃ q, q = takeE e := ⟨_, rfl⟩
        obtain ⟨⟨e', g, b', er⟩, hq⟩ := hq
        rw [← hq] at hC hS2 hg
        dsimp only at hS2 hg
        clear hq
        (repeat' (first | (refine sq_id ?_; first | refine sq_nil ?_ | refine sm ?_ | refine sa ?_ | refine ss ?_ | refine st ?_ | refine sf ?_ | refine sp ?_ | refine sq ?_ | refine sl ?_ | refine si ?_ | refine sx ?_ | refine sy ?_ | refine sc hq1 ?_ | refine sc hq0 ?_ | refine sc hC ?_) | (refine rg_id ?_; first | refine rg_fin ?_ | refine rm ?_ | refine ra ?_ | refine rs ?_ | refine rt ?_ | refine rf ?_ | refine rp ?_ | refine rq ?_ | refine rl ?_ | refine ri ?_ | refine rx ?_ | refine ry ?_ | refine sc hq1 ?_ | refine sc hq0 ?_ | refine sc hC ?_) | refine aw_rseq ?_ | refine aw_seq ?_ | refine aw_region ?_ | refine aw_skip ?_ | refine ct ?_ | refine cf ?_ | refine d0s ?_ | refine d0r ?_ | refine aw_block ?_ | refine aw_exit ?_ | refine then_ret ?_ | refine then_exit ?_ | refine then_normal ?_ | refine blk_ret ?_ | refine blk_normal ?_ | refine blk_exit ?_ | refine blk_pass rfl ?_ | refine sc hq1 ?_ | refine sc hq0 ?_ | refine sc hC ?_))
        refine sw hb fun H5 hb5 ho5 hl5 => ?_
        refine sa ?_
        refine sq_nil ?_
        refine aw_norm H.length (ebk (epc e')) hb5 rfl rfl rfl (one_of rfl rfl) fun H6 hb6 ho6 hl6 => ?_
        have hin := in_s e'.free (100 + n) (by have := hS2.right.bd.2; omega)
        rw [decide_eq_false hS2.nfree] at hin
        have hrt := right_s e' hS2.right.bd
        rw [decide_eq_true hS2.right] at hrt
        (repeat' (first | (refine sq_id ?_; first | refine sq_nil ?_ | refine sm ?_ | refine sa ?_ | refine ss ?_ | refine st ?_ | refine sf ?_ | refine sp ?_ | refine sq ?_ | refine sl ?_ | refine si ?_ | refine sx ?_ | refine sy ?_ | refine sc hin ?_ | refine sc hrt ?_) | (refine rg_id ?_; first | refine rg_fin ?_ | refine rm ?_ | refine ra ?_ | refine rs ?_ | refine rt ?_ | refine rf ?_ | refine rp ?_ | refine rq ?_ | refine rl ?_ | refine ri ?_ | refine rx ?_ | refine ry ?_ | refine sc hin ?_ | refine sc hrt ?_) | refine aw_rseq ?_ | refine aw_seq ?_ | refine aw_region ?_ | refine aw_skip ?_ | refine ct ?_ | refine cf ?_ | refine d0s ?_ | refine d0r ?_ | refine aw_block ?_ | refine aw_exit ?_ | refine then_ret ?_ | refine then_exit ?_ | refine then_normal ?_ | refine blk_ret ?_ | refine blk_normal ?_ | refine blk_exit ?_ | refine blk_pass rfl ?_ | refine sc hin ?_ | refine sc hrt ?_))
        exact ⟨(e', k + 1), by rw [rstf_eq]; rfl, ⟨hb6, by show k + 1 ≤ _; omega, by show k + 1 ≤ _; omega, hS2⟩, by show _ - (k + 1) < _ - k; omega⟩
    · (repeat' (first | (refine sq_id ?_; first | refine sq_nil ?_ | refine sm ?_ | refine sa ?_ | refine ss ?_ | refine st ?_ | refine sf ?_ | refine sp ?_ | refine sq ?_ | refine sl ?_ | refine si ?_ | refine sx ?_ | refine sy ?_) | (refine rg_id ?_; first | refine rg_fin ?_ | refine rm ?_ | refine ra ?_ | refine rs ?_ | refine rt ?_ | refine rf ?_ | refine rp ?_ | refine rq ?_ | refine rl ?_ | refine ri ?_ | refine rx ?_ | refine ry ?_) | refine aw_rseq ?_ | refine aw_seq ?_ | refine aw_region ?_ | refine aw_skip ?_ | refine ct ?_ | refine cf ?_ | refine d0s ?_ | refine d0r ?_ | refine aw_block ?_ | refine aw_exit ?_ | refine then_ret ?_ | refine then_exit ?_ | refine then_normal ?_ | refine blk_ret ?_ | refine blk_normal ?_ | refine blk_exit ?_ | refine blk_pass rfl ?_))
      ((try refine aw_ret ?_); (repeat (first | refine then_ret ?_ | refine blk_ret ?_)); refine fin_t True.intro rfl rfl ?_)
      exact rfl
  · (repeat' (first | (refine sq_id ?_; first | refine sq_nil ?_ | refine sm ?_ | refine sa ?_ | refine ss ?_ | refine st ?_ | refine sf ?_ | refine sp ?_ | refine sq ?_ | refine sl ?_ | refine si ?_ | refine sx ?_ | refine sy ?_) | (refine rg_id ?_; first | refine rg_fin ?_ | refine rm ?_ | refine ra ?_ | refine rs ?_ | refine rt ?_ | refine rf ?_ | refine rp ?_ | refine rq ?_ | refine rl ?_ | refine ri ?_ | refine rx ?_ | refine ry ?_) | refine aw_rseq ?_ | refine aw_seq ?_ | refine aw_region ?_ | refine aw_skip ?_ | refine ct ?_ | refine cf ?_ | refine d0s ?_ | refine d0r ?_ | refine aw_block ?_ | refine aw_exit ?_ | refine then_ret ?_ | refine then_exit ?_ | refine then_normal ?_ | refine blk_ret ?_ | refine blk_normal ?_ | refine blk_exit ?_ | refine blk_pass rfl ?_))
    ((try refine aw_ret ?_); (repeat (first | refine then_ret ?_ | refine blk_ret ?_)); refine fin_t True.intro rfl rfl ?_)
    exact rfl
theorem safe_s (w : Int) (L M : List (Int × Int × Int)) (hd node : Int) (hw : I64 w) (hL : L.length ≤ maxLen ∧ R64 L) (hM : M.length ≤ maxLen ∧ R64 M) (hh : I64 hd) (hn : I64 node) :
    SC true Try.prog 4 [.i w, rows3 L, rows3 M, .i hd, .i node] [] (fun r _ => r = .b true) := safeH_s [] w L M hd node hw hL hM hh hn
end Go.Proofs.Ytmhepmocnnlhnaa.Ab
