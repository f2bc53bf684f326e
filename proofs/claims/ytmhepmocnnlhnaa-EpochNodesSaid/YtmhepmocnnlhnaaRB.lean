/- EpochNodes. -/
import Derived.Test.YtmhepmocnnlhnaaQW
import Derived.Test.YtmhepmocnnlhnaaRA
namespace Go.Proofs.Ytmhepmocnnlhnaa.Ab
open Go Go.RowKit
set_option maxHeartbeats 16000000 in
theorem nodesH_s (H : AH) (w : Int) (L : List (Int × Int × Int)) (node : Int) (hw : I64 w) (hL : L.length ≤ maxLen ∧ R64 L) (hn : I64 node) :
    SC true Try.prog 6 [.i w, rows3 L, .i node] H (fun r _ => r = .b true) := by
  have hA := awake_s
  have hEp := epochs_s w hw L hL.2 hL.1
  have hI := epochs_inv w L
  generalize epochsE w L = e at *
  have hw5 := pick_bd w 5 (by decide)
  generalize hwl : (1 + pick w 5).toNat = wl at *
  have hwl5 : 1 ≤ wl ∧ wl ≤ 5 := by omega
  obtain ⟨n, hpn, hne, hn0, hn1⟩ := pick_k node 50 hn (by decide)
  refine sc_in TYok Try.func6 (by kernel_rfl) Try.ntmps6 rfl rfl rfl ?_
  (repeat' (first | (refine sq_id ?_; first | refine sq_nil ?_ | refine sm ?_ | refine sa ?_ | refine ss ?_ | refine st ?_ | refine sf ?_ | refine sp ?_ | refine sq ?_ | refine sl ?_ | refine si ?_ | refine sx ?_ | refine sy ?_ | refine sc hA ?_ | refine sc hEp ?_) | (refine rg_id ?_; first | refine rg_fin ?_ | refine rm ?_ | refine ra ?_ | refine rs ?_ | refine rt ?_ | refine rf ?_ | refine rp ?_ | refine rq ?_ | refine rl ?_ | refine ri ?_ | refine rx ?_ | refine ry ?_ | refine sc hA ?_ | refine sc hEp ?_) | refine aw_rseq ?_ | refine aw_seq ?_ | refine aw_region ?_ | refine aw_skip ?_ | refine ct ?_ | refine cf ?_ | refine d0s ?_ | refine d0r ?_ | refine aw_block ?_ | refine aw_exit ?_ | refine then_ret ?_ | refine then_exit ?_ | refine then_normal ?_ | refine blk_ret ?_ | refine blk_normal ?_ | refine blk_exit ?_ | refine blk_pass rfl ?_ | refine sc hA ?_ | refine sc hEp ?_))
  refine nw fun H1 hb1 ho1 hl1 => ?_
  refine sw hb1 fun H2 hb2 ho2 hl2 => ?_
  refine sq_nil ?_
  refine aw_norm H.length (ebk (epc e)) hb2 rfl rfl rfl (one_of rfl rfl) fun H3 hb3 ho3 hl3 => ?_
  (repeat' (first | (refine sq_id ?_; first | refine sq_nil ?_ | refine sm ?_ | refine sa ?_ | refine ss ?_ | refine st ?_ | refine sf ?_ | refine sp ?_ | refine sq ?_ | refine sl ?_ | refine si ?_ | refine sx ?_ | refine sy ?_ | refine sc hpn ?_) | (refine rg_id ?_; first | refine rg_fin ?_ | refine rm ?_ | refine ra ?_ | refine rs ?_ | refine rt ?_ | refine rf ?_ | refine rp ?_ | refine rq ?_ | refine rl ?_ | refine ri ?_ | refine rx ?_ | refine ry ?_ | refine sc hpn ?_) | refine aw_rseq ?_ | refine aw_seq ?_ | refine aw_region ?_ | refine aw_skip ?_ | refine ct ?_ | refine cf ?_ | refine d0s ?_ | refine d0r ?_ | refine aw_block ?_ | refine aw_exit ?_ | refine then_ret ?_ | refine then_exit ?_ | refine then_normal ?_ | refine blk_ret ?_ | refine blk_normal ?_ | refine blk_exit ?_ | refine blk_pass rfl ?_ | refine sc hpn ?_))
  refine aw_for [7, 8, 9, 10] (fun k : Nat => [(7, .b true), (8, .ref H.length 6 0 0), (9, .i (100 + n)), (10, .i k)]) (fun k H' => k ≤ wl ∧ H'[H.length]? = some (some (ebk (epc (unp e k))))) (fun k => wl - k) 0 (by rw [rstf_eq]; rfl) ⟨by omega, hb3⟩ ?_
  clear hb1 hb2 hb3 ho1 ho2 ho3 hl1 hl2 hl3 hEp
  rintro k Hx ⟨hk, hb⟩
  obtain ⟨hU, _, _, hu2⟩ := unp_inv hI k hk
  have hus : unp e (k + 1) = if (unp e k).pins.getD k 0 ≠ 0 then (unpinE (unp e k) k).1 else unp e k := rfl
  have hull := hU.wl
  have hall := unp_all hI
  by_cases hkl : k < wl
  · have hkl' : k < (unp e k).pins.length := by omega
    by_cases hz : (unp e k).pins.getD k 0 = 0
    · rw [if_neg (fun h => h hz)] at hus
      rw [← hus] at hb
      have hz' : (unp e k).pins.getD (badd 0 k) 0 = 0 := hz
      rw [hus] at hb
      generalize unp e k = u at *
      (repeat' (first | (refine sq_id ?_; first | refine sq_nil ?_ | refine sm ?_ | refine sa ?_ | refine ss ?_ | refine st ?_ | refine sf ?_ | refine sp ?_ | refine sq ?_ | refine sl ?_ | refine si ?_ | refine sx ?_ | refine sy ?_) | (refine rg_id ?_; first | refine rg_fin ?_ | refine rm ?_ | refine ra ?_ | refine rs ?_ | refine rt ?_ | refine rf ?_ | refine rp ?_ | refine rq ?_ | refine rl ?_ | refine ri ?_ | refine rx ?_ | refine ry ?_) | refine aw_rseq ?_ | refine aw_seq ?_ | refine aw_region ?_ | refine aw_skip ?_ | refine ct ?_ | refine cf ?_ | refine d0s ?_ | refine d0r ?_ | refine aw_block ?_ | refine aw_exit ?_ | refine then_ret ?_ | refine then_exit ?_ | refine then_normal ?_ | refine blk_ret ?_ | refine blk_normal ?_ | refine blk_exit ?_ | refine blk_pass rfl ?_))
      exact ⟨k + 1, by rw [rstf_eq]; rfl, ⟨by omega, by rw [hus]; exact hb⟩, by omega⟩
    · rw [if_pos hz] at hus
      have hz' : ¬ (unp e k).pins.getD (badd 0 k) 0 = 0 := hz
      generalize unp e k = u at *
      have hC := unpin_s u hU.right.bd k
      (repeat' (first | (refine sq_id ?_; first | refine sq_nil ?_ | refine sm ?_ | refine sa ?_ | refine ss ?_ | refine st ?_ | refine sf ?_ | refine sp ?_ | refine sq ?_ | refine sl ?_ | refine si ?_ | refine sx ?_ | refine sy ?_ | refine sc hC ?_) | (refine rg_id ?_; first | refine rg_fin ?_ | refine rm ?_ | refine ra ?_ | refine rs ?_ | refine rt ?_ | refine rf ?_ | refine rp ?_ | refine rq ?_ | refine rl ?_ | refine ri ?_ | refine rx ?_ | refine ry ?_ | refine sc hC ?_) | refine aw_rseq ?_ | refine aw_seq ?_ | refine aw_region ?_ | refine aw_skip ?_ | refine ct ?_ | refine cf ?_ | refine d0s ?_ | refine d0r ?_ | refine aw_block ?_ | refine aw_exit ?_ | refine then_ret ?_ | refine then_exit ?_ | refine then_normal ?_ | refine blk_ret ?_ | refine blk_normal ?_ | refine blk_exit ?_ | refine blk_pass rfl ?_ | refine sc hC ?_))
      refine sw hb fun H5 hb5 ho5 hl5 => ?_
      refine sq_nil ?_
      refine aw_norm H.length (ebk (epc (unpinE u k).1)) hb5 rfl rfl rfl (one_of rfl rfl) fun H6 hb6 ho6 hl6 => ?_
      (repeat' (first | (refine sq_id ?_; first | refine sq_nil ?_ | refine sm ?_ | refine sa ?_ | refine ss ?_ | refine st ?_ | refine sf ?_ | refine sp ?_ | refine sq ?_ | refine sl ?_ | refine si ?_ | refine sx ?_ | refine sy ?_) | (refine rg_id ?_; first | refine rg_fin ?_ | refine rm ?_ | refine ra ?_ | refine rs ?_ | refine rt ?_ | refine rf ?_ | refine rp ?_ | refine rq ?_ | refine rl ?_ | refine ri ?_ | refine rx ?_ | refine ry ?_) | refine aw_rseq ?_ | refine aw_seq ?_ | refine aw_region ?_ | refine aw_skip ?_ | refine ct ?_ | refine cf ?_ | refine d0s ?_ | refine d0r ?_ | refine aw_block ?_ | refine aw_exit ?_ | refine then_ret ?_ | refine then_exit ?_ | refine then_normal ?_ | refine blk_ret ?_ | refine blk_normal ?_ | refine blk_exit ?_ | refine blk_pass rfl ?_))
      exact ⟨k + 1, by rw [rstf_eq]; rfl, ⟨by omega, by rw [hus]; exact hb6⟩, by omega⟩
  have hkw : k = wl := by omega
  subst hkw
  have hkl' : ¬ k < (unp e k).pins.length := by omega
  clear hus hu2
  generalize unp e k = U at *
  (repeat' (first | (refine sq_id ?_; first | refine sq_nil ?_ | refine sm ?_ | refine sa ?_ | refine ss ?_ | refine st ?_ | refine sf ?_ | refine sp ?_ | refine sq ?_ | refine sl ?_ | refine si ?_ | refine sx ?_ | refine sy ?_) | (refine rg_id ?_; first | refine rg_fin ?_ | refine rm ?_ | refine ra ?_ | refine rs ?_ | refine rt ?_ | refine rf ?_ | refine rp ?_ | refine rq ?_ | refine rl ?_ | refine ri ?_ | refine rx ?_ | refine ry ?_) | refine aw_rseq ?_ | refine aw_seq ?_ | refine aw_region ?_ | refine aw_skip ?_ | refine ct ?_ | refine cf ?_ | refine d0s ?_ | refine d0r ?_ | refine aw_block ?_ | refine aw_exit ?_ | refine then_ret ?_ | refine then_exit ?_ | refine then_normal ?_ | refine blk_ret ?_ | refine blk_normal ?_ | refine blk_exit ?_ | refine blk_pass rfl ?_))
  refine aw_for [7, 8, 9] (fun _ : Ep => [(7, .b true), (8, .ref H.length 6 0 0), (9, .i (100 + n))]) (fun a H' => IsBox H' H.length (epc a) ∧ EI k 40 20 a ∧ ∀ p ∈ a.pins, p = 0) (fun a => a.free.length) U (by rw [rstf_eq]; rfl) ⟨⟨_, hb, rfl, rfl, rfl, rfl⟩, hU, hall⟩ ?_
  clear hb hU hall hkl hkl' hull hI
  rintro V Hm ⟨⟨bm, hbm, q1, q2, q3, q4⟩, hV, hz⟩
  refine aw_norm H.length (ebk (epc V)) hbm q1.symm q2.symm q3.symm (one_of q3 q4) fun Hy hb hoy hly => ?_
  clear hbm q1 q2 q3 q4 hoy hly
  have hyl := (List.getElem?_eq_some_iff.1 hb).1
  by_cases hf : V.free = []
  · have hT := take_s V hV.right.bd
    rw [take_none hV.right hf] at hT
    have hCh := nodes_chain hV hz (100 + n) (by omega) (by omega)
    obtain ⟨a, b, c, c1, c2, d, e1, e2, e3, e4, e5, e6, e7, e8, r1, r2, r3, r4, r5, r6, md, pd, ld⟩ := hCh
    have h1 := pin_s V hV.right.bd 0
    rw [e1] at h1
    have h2 := retire_s a r1.bd 0 (100 + n)
    rw [e2] at h2
    have h3 := retire_s b r2.bd 0 (100 + n)
    rw [e3] at h3
    have h4 := unpin_s b r2.bd 0
    rw [e4] at h4
    have h5 := advance_s c r3.bd
    rw [e5] at h5
    have h6 := advance_s c1 r4.bd
    rw [e6] at h6
    have h7 := pin_s c2 r5.bd 0
    rw [e7] at h7
    have h8 := retire_s d r6.right.bd 0 (100 + n)
    rw [e8] at h8
    have hin := in_s d.free (100 + n) (by have := r6.right.bd.2; omega)
    rw [decide_eq_true md] at hin
    have hTk := Tk.start r6 md pd ld
    clear e1 e2 e3 e4 e5 e6 e7 e8
    (repeat' (first | (refine sq_id ?_; first | refine sq_nil ?_ | refine sm ?_ | refine sa ?_ | refine ss ?_ | refine st ?_ | refine sf ?_ | refine sp ?_ | refine sq ?_ | refine sl ?_ | refine si ?_ | refine sx ?_ | refine sy ?_ | refine sc hT ?_) | (refine rg_id ?_; first | refine rg_fin ?_ | refine rm ?_ | refine ra ?_ | refine rs ?_ | refine rt ?_ | refine rf ?_ | refine rp ?_ | refine rq ?_ | refine rl ?_ | refine ri ?_ | refine rx ?_ | refine ry ?_ | refine sc hT ?_) | refine aw_rseq ?_ | refine aw_seq ?_ | refine aw_region ?_ | refine aw_skip ?_ | refine ct ?_ | refine cf ?_ | refine d0s ?_ | refine d0r ?_ | refine aw_block ?_ | refine aw_exit ?_ | refine then_ret ?_ | refine then_exit ?_ | refine then_normal ?_ | refine blk_ret ?_ | refine blk_normal ?_ | refine blk_exit ?_ | refine blk_pass rfl ?_ | refine sc hT ?_))
    refine nw fun H1a hn1 hoa1 hla1 => ?_
    have hb := hoa1.get0 hb
    refine sw hn1 fun H1 bt ho1 hl1 => ?_
    have hb := ho1.get hb (by simp; omega)
    (repeat' (first | (refine sq_id ?_; first | refine sq_nil ?_ | refine sm ?_ | refine sa ?_ | refine ss ?_ | refine st ?_ | refine sf ?_ | refine sp ?_ | refine sq ?_ | refine sl ?_ | refine si ?_ | refine sx ?_ | refine sy ?_ | refine sc h1 ?_) | (refine rg_id ?_; first | refine rg_fin ?_ | refine rm ?_ | refine ra ?_ | refine rs ?_ | refine rt ?_ | refine rf ?_ | refine rp ?_ | refine rq ?_ | refine rl ?_ | refine ri ?_ | refine rx ?_ | refine ry ?_ | refine sc h1 ?_) | refine aw_rseq ?_ | refine aw_seq ?_ | refine aw_region ?_ | refine aw_skip ?_ | refine ct ?_ | refine cf ?_ | refine d0s ?_ | refine d0r ?_ | refine aw_block ?_ | refine aw_exit ?_ | refine then_ret ?_ | refine then_exit ?_ | refine then_normal ?_ | refine blk_ret ?_ | refine blk_normal ?_ | refine blk_exit ?_ | refine blk_pass rfl ?_ | refine sc h1 ?_))
    refine nw fun H2a hn2 hoa2 hla2 => ?_
    have hb := hoa2.get0 hb
    refine sw hn2 fun H2 ba ho2 hl2 => ?_
    have hb := ho2.get hb (by simp; omega)
    (repeat' (first | (refine sq_id ?_; first | refine sq_nil ?_ | refine sm ?_ | refine sa ?_ | refine ss ?_ | refine st ?_ | refine sf ?_ | refine sp ?_ | refine sq ?_ | refine sl ?_ | refine si ?_ | refine sx ?_ | refine sy ?_ | refine sc h2 ?_) | (refine rg_id ?_; first | refine rg_fin ?_ | refine rm ?_ | refine ra ?_ | refine rs ?_ | refine rt ?_ | refine rf ?_ | refine rp ?_ | refine rq ?_ | refine rl ?_ | refine ri ?_ | refine rx ?_ | refine ry ?_ | refine sc h2 ?_) | refine aw_rseq ?_ | refine aw_seq ?_ | refine aw_region ?_ | refine aw_skip ?_ | refine ct ?_ | refine cf ?_ | refine d0s ?_ | refine d0r ?_ | refine aw_block ?_ | refine aw_exit ?_ | refine then_ret ?_ | refine then_exit ?_ | refine then_normal ?_ | refine blk_ret ?_ | refine blk_normal ?_ | refine blk_exit ?_ | refine blk_pass rfl ?_ | refine sc h2 ?_))
    refine nw fun H3a hn3 hoa3 hla3 => ?_
    have ba := hoa3.get0 ba
    refine sw hn3 fun H3 bb ho3 hl3 => ?_
    have ba := ho3.get ba (by simp; omega)
    (repeat' (first | (refine sq_id ?_; first | refine sq_nil ?_ | refine sm ?_ | refine sa ?_ | refine ss ?_ | refine st ?_ | refine sf ?_ | refine sp ?_ | refine sq ?_ | refine sl ?_ | refine si ?_ | refine sx ?_ | refine sy ?_ | refine sc h3 ?_) | (refine rg_id ?_; first | refine rg_fin ?_ | refine rm ?_ | refine ra ?_ | refine rs ?_ | refine rt ?_ | refine rf ?_ | refine rp ?_ | refine rq ?_ | refine rl ?_ | refine ri ?_ | refine rx ?_ | refine ry ?_ | refine sc h3 ?_) | refine aw_rseq ?_ | refine aw_seq ?_ | refine aw_region ?_ | refine aw_skip ?_ | refine ct ?_ | refine cf ?_ | refine d0s ?_ | refine d0r ?_ | refine aw_block ?_ | refine aw_exit ?_ | refine then_ret ?_ | refine then_exit ?_ | refine then_normal ?_ | refine blk_ret ?_ | refine blk_normal ?_ | refine blk_exit ?_ | refine blk_pass rfl ?_ | refine sc h3 ?_))
    refine nw fun H4a hn4 hoa4 hla4 => ?_
    have bb := hoa4.get0 bb
    refine sw hn4 fun H4 bx ho4 hl4 => ?_
    have bb := ho4.get bb (by simp; omega)
    (repeat' (first | (refine sq_id ?_; first | refine sq_nil ?_ | refine sm ?_ | refine sa ?_ | refine ss ?_ | refine st ?_ | refine sf ?_ | refine sp ?_ | refine sq ?_ | refine sl ?_ | refine si ?_ | refine sx ?_ | refine sy ?_ | refine sc h4 ?_) | (refine rg_id ?_; first | refine rg_fin ?_ | refine rm ?_ | refine ra ?_ | refine rs ?_ | refine rt ?_ | refine rf ?_ | refine rp ?_ | refine rq ?_ | refine rl ?_ | refine ri ?_ | refine rx ?_ | refine ry ?_ | refine sc h4 ?_) | refine aw_rseq ?_ | refine aw_seq ?_ | refine aw_region ?_ | refine aw_skip ?_ | refine ct ?_ | refine cf ?_ | refine d0s ?_ | refine d0r ?_ | refine aw_block ?_ | refine aw_exit ?_ | refine then_ret ?_ | refine then_exit ?_ | refine then_normal ?_ | refine blk_ret ?_ | refine blk_normal ?_ | refine blk_exit ?_ | refine blk_pass rfl ?_ | refine sc h4 ?_))
    refine nw fun H5a hn5 hoa5 hla5 => ?_
    have bb := hoa5.get0 bb
    refine sw hn5 fun H5 bc ho5 hl5 => ?_
    have bb := ho5.get bb (by simp; omega)
    (repeat' (first | (refine sq_id ?_; first | refine sq_nil ?_ | refine sm ?_ | refine sa ?_ | refine ss ?_ | refine st ?_ | refine sf ?_ | refine sp ?_ | refine sq ?_ | refine sl ?_ | refine si ?_ | refine sx ?_ | refine sy ?_ | refine sc h5 ?_) | (refine rg_id ?_; first | refine rg_fin ?_ | refine rm ?_ | refine ra ?_ | refine rs ?_ | refine rt ?_ | refine rf ?_ | refine rp ?_ | refine rq ?_ | refine rl ?_ | refine ri ?_ | refine rx ?_ | refine ry ?_ | refine sc h5 ?_) | refine aw_rseq ?_ | refine aw_seq ?_ | refine aw_region ?_ | refine aw_skip ?_ | refine ct ?_ | refine cf ?_ | refine d0s ?_ | refine d0r ?_ | refine aw_block ?_ | refine aw_exit ?_ | refine then_ret ?_ | refine then_exit ?_ | refine then_normal ?_ | refine blk_ret ?_ | refine blk_normal ?_ | refine blk_exit ?_ | refine blk_pass rfl ?_ | refine sc h5 ?_))
    refine sw bc fun Hs1 bc hs1 hls1 => ?_
    (repeat' (first | (refine sq_id ?_; first | refine sq_nil ?_ | refine sm ?_ | refine sa ?_ | refine ss ?_ | refine st ?_ | refine sf ?_ | refine sp ?_ | refine sq ?_ | refine sl ?_ | refine si ?_ | refine sx ?_ | refine sy ?_ | refine sc h6 ?_) | (refine rg_id ?_; first | refine rg_fin ?_ | refine rm ?_ | refine ra ?_ | refine rs ?_ | refine rt ?_ | refine rf ?_ | refine rp ?_ | refine rq ?_ | refine rl ?_ | refine ri ?_ | refine rx ?_ | refine ry ?_ | refine sc h6 ?_) | refine aw_rseq ?_ | refine aw_seq ?_ | refine aw_region ?_ | refine aw_skip ?_ | refine ct ?_ | refine cf ?_ | refine d0s ?_ | refine d0r ?_ | refine aw_block ?_ | refine aw_exit ?_ | refine then_ret ?_ | refine then_exit ?_ | refine then_normal ?_ | refine blk_ret ?_ | refine blk_normal ?_ | refine blk_exit ?_ | refine blk_pass rfl ?_ | refine sc h6 ?_))
    refine sw bc fun Hs2 bc hs2 hls2 => ?_
    (repeat' (first | (refine sq_id ?_; first | refine sq_nil ?_ | refine sm ?_ | refine sa ?_ | refine ss ?_ | refine st ?_ | refine sf ?_ | refine sp ?_ | refine sq ?_ | refine sl ?_ | refine si ?_ | refine sx ?_ | refine sy ?_ | refine sc h7 ?_) | (refine rg_id ?_; first | refine rg_fin ?_ | refine rm ?_ | refine ra ?_ | refine rs ?_ | refine rt ?_ | refine rf ?_ | refine rp ?_ | refine rq ?_ | refine rl ?_ | refine ri ?_ | refine rx ?_ | refine ry ?_ | refine sc h7 ?_) | refine aw_rseq ?_ | refine aw_seq ?_ | refine aw_region ?_ | refine aw_skip ?_ | refine ct ?_ | refine cf ?_ | refine d0s ?_ | refine d0r ?_ | refine aw_block ?_ | refine aw_exit ?_ | refine then_ret ?_ | refine then_exit ?_ | refine then_normal ?_ | refine blk_ret ?_ | refine blk_normal ?_ | refine blk_exit ?_ | refine blk_pass rfl ?_ | refine sc h7 ?_))
    refine nw fun H6a hn6 hoa6 hla6 => ?_
    have bc := hoa6.get0 bc
    refine sw hn6 fun H6 bd ho6 hl6 => ?_
    have bc := ho6.get bc (by simp; omega)
    (repeat' (first | (refine sq_id ?_; first | refine sq_nil ?_ | refine sm ?_ | refine sa ?_ | refine ss ?_ | refine st ?_ | refine sf ?_ | refine sp ?_ | refine sq ?_ | refine sl ?_ | refine si ?_ | refine sx ?_ | refine sy ?_ | refine sc h8 ?_) | (refine rg_id ?_; first | refine rg_fin ?_ | refine rm ?_ | refine ra ?_ | refine rs ?_ | refine rt ?_ | refine rf ?_ | refine rp ?_ | refine rq ?_ | refine rl ?_ | refine ri ?_ | refine rx ?_ | refine ry ?_ | refine sc h8 ?_) | refine aw_rseq ?_ | refine aw_seq ?_ | refine aw_region ?_ | refine aw_skip ?_ | refine ct ?_ | refine cf ?_ | refine d0s ?_ | refine d0r ?_ | refine aw_block ?_ | refine aw_exit ?_ | refine then_ret ?_ | refine then_exit ?_ | refine then_normal ?_ | refine blk_ret ?_ | refine blk_normal ?_ | refine blk_exit ?_ | refine blk_pass rfl ?_ | refine sc h8 ?_))
    refine nw fun H7a hn7 hoa7 hla7 => ?_
    have bd := hoa7.get0 bd
    refine sw hn7 fun H7 by' ho7 hl7 => ?_
    have bd := ho7.get bd (by simp; omega)
    (repeat' (first | (refine sq_id ?_; first | refine sq_nil ?_ | refine sm ?_ | refine sa ?_ | refine ss ?_ | refine st ?_ | refine sf ?_ | refine sp ?_ | refine sq ?_ | refine sl ?_ | refine si ?_ | refine sx ?_ | refine sy ?_ | refine sc hin ?_) | (refine rg_id ?_; first | refine rg_fin ?_ | refine rm ?_ | refine ra ?_ | refine rs ?_ | refine rt ?_ | refine rf ?_ | refine rp ?_ | refine rq ?_ | refine rl ?_ | refine ri ?_ | refine rx ?_ | refine ry ?_ | refine sc hin ?_) | refine aw_rseq ?_ | refine aw_seq ?_ | refine aw_region ?_ | refine aw_skip ?_ | refine ct ?_ | refine cf ?_ | refine d0s ?_ | refine d0r ?_ | refine aw_block ?_ | refine aw_exit ?_ | refine then_ret ?_ | refine then_exit ?_ | refine then_normal ?_ | refine blk_ret ?_ | refine blk_normal ?_ | refine blk_exit ?_ | refine blk_pass rfl ?_ | refine sc hin ?_))
    refine aw_norm Hs2.length (ebk (epc d)) bd rfl rfl rfl (one_of rfl rfl) fun Hn bd hon hln => ?_
    refine aw_for [7, 9, 23, 27] (fun a : Ep × Nat => [(7, .b true), (9, .i (100 + n)), (23, .ref Hs2.length 6 0 0), (27, .i a.2)]) (fun a H' => H'[Hs2.length]? = some (some (ebk (epc a.1))) ∧ Tk (100 + n) a.2 a.1) (fun a => 60 - a.2) (d, 0) (by rw [rstf_eq]; rfl) ⟨bd, hTk⟩ ?_
    clear hT h1 h2 h3 h4 h5 h6 h7 h8 hin hTk r1 r2 r3 r4 r5 r6 md pd ld
    rintro ⟨d, x⟩ Hz ⟨hb, hk⟩
    dsimp only at hb hk
    have hx43 := hk.lenf
    have hbd := hk.right.bd
    have hin := in_s d.free (100 + n) (by have := hbd.2; omega)
    by_cases hm : (100 + n) ∈ d.free
    · rw [decide_eq_true hm] at hin
      obtain ⟨hk2, ht⟩ := hk.step hm
      have hT := take_s d hbd
      have ht2 : (takeE d).2.2 = (true, 0) := by rw [ht]
      have hpos : 0 < d.free.length := List.length_pos_iff.2 fun k => by rw [k] at hm; cases hm
      clear ht
      obtain ⟨q, hq⟩ : ∃ q, q = takeE d := ⟨_, rfl⟩
      rw [← hq] at hT hk2 ht2
      obtain ⟨V', g, o⟩ := q
      clear hq
      have ht2 : o = (true, 0) := ht2
      subst ht2
      try dsimp only at *
      (repeat' (first | (refine sq_id ?_; first | refine sq_nil ?_ | refine sm ?_ | refine sa ?_ | refine ss ?_ | refine st ?_ | refine sf ?_ | refine sp ?_ | refine sq ?_ | refine sl ?_ | refine si ?_ | refine sx ?_ | refine sy ?_ | refine sc hin ?_ | refine sc hT ?_) | (refine rg_id ?_; first | refine rg_fin ?_ | refine rm ?_ | refine ra ?_ | refine rs ?_ | refine rt ?_ | refine rf ?_ | refine rp ?_ | refine rq ?_ | refine rl ?_ | refine ri ?_ | refine rx ?_ | refine ry ?_ | refine sc hin ?_ | refine sc hT ?_) | refine aw_rseq ?_ | refine aw_seq ?_ | refine aw_region ?_ | refine aw_skip ?_ | refine ct ?_ | refine cf ?_ | refine d0s ?_ | refine d0r ?_ | refine aw_block ?_ | refine aw_exit ?_ | refine then_ret ?_ | refine then_exit ?_ | refine then_normal ?_ | refine blk_ret ?_ | refine blk_normal ?_ | refine blk_exit ?_ | refine blk_pass rfl ?_ | refine sc hin ?_ | refine sc hT ?_))
      refine sw hb fun H5 hb5 ho5 hl5 => ?_
      refine sq_nil ?_
      refine aw_norm Hs2.length (ebk (epc V')) hb5 rfl rfl rfl (one_of rfl rfl) fun H6 hb6 ho6 hl6 => ?_
      (repeat' (first | (refine sq_id ?_; first | refine sq_nil ?_ | refine sm ?_ | refine sa ?_ | refine ss ?_ | refine st ?_ | refine sf ?_ | refine sp ?_ | refine sq ?_ | refine sl ?_ | refine si ?_ | refine sx ?_ | refine sy ?_) | (refine rg_id ?_; first | refine rg_fin ?_ | refine rm ?_ | refine ra ?_ | refine rs ?_ | refine rt ?_ | refine rf ?_ | refine rp ?_ | refine rq ?_ | refine rl ?_ | refine ri ?_ | refine rx ?_ | refine ry ?_) | refine aw_rseq ?_ | refine aw_seq ?_ | refine aw_region ?_ | refine aw_skip ?_ | refine ct ?_ | refine cf ?_ | refine d0s ?_ | refine d0r ?_ | refine aw_block ?_ | refine aw_exit ?_ | refine then_ret ?_ | refine then_exit ?_ | refine then_normal ?_ | refine blk_ret ?_ | refine blk_normal ?_ | refine blk_exit ?_ | refine blk_pass rfl ?_))
      exact ⟨(V', x + 1), by rw [rstf_eq]; rfl, ⟨hb6, hk2⟩, by show 60 - (x + 1) < 60 - x; omega⟩
    · rw [decide_eq_false hm] at hin
      have hR := retire_s d hbd 0 (100 + n)
      rw [hk.done hm (by omega) (by omega)] at hR
      (repeat' (first | (refine sq_id ?_; first | refine sq_nil ?_ | refine sm ?_ | refine sa ?_ | refine ss ?_ | refine st ?_ | refine sf ?_ | refine sp ?_ | refine sq ?_ | refine sl ?_ | refine si ?_ | refine sx ?_ | refine sy ?_ | refine sc hin ?_ | refine sc hR ?_) | (refine rg_id ?_; first | refine rg_fin ?_ | refine rm ?_ | refine ra ?_ | refine rs ?_ | refine rt ?_ | refine rf ?_ | refine rp ?_ | refine rq ?_ | refine rl ?_ | refine ri ?_ | refine rx ?_ | refine ry ?_ | refine sc hin ?_ | refine sc hR ?_) | refine aw_rseq ?_ | refine aw_seq ?_ | refine aw_region ?_ | refine aw_skip ?_ | refine ct ?_ | refine cf ?_ | refine d0s ?_ | refine d0r ?_ | refine aw_block ?_ | refine aw_exit ?_ | refine then_ret ?_ | refine then_exit ?_ | refine then_normal ?_ | refine blk_ret ?_ | refine blk_normal ?_ | refine blk_exit ?_ | refine blk_pass rfl ?_ | refine sc hin ?_ | refine sc hR ?_))
      refine nw fun G1 hn1 hoa1 hla1 => ?_
      refine sw hn1 fun G2 hn2 hoa2 hla2 => ?_
      (repeat' (first | (refine sq_id ?_; first | refine sq_nil ?_ | refine sm ?_ | refine sa ?_ | refine ss ?_ | refine st ?_ | refine sf ?_ | refine sp ?_ | refine sq ?_ | refine sl ?_ | refine si ?_ | refine sx ?_ | refine sy ?_) | (refine rg_id ?_; first | refine rg_fin ?_ | refine rm ?_ | refine ra ?_ | refine rs ?_ | refine rt ?_ | refine rf ?_ | refine rp ?_ | refine rq ?_ | refine rl ?_ | refine ri ?_ | refine rx ?_ | refine ry ?_) | refine aw_rseq ?_ | refine aw_seq ?_ | refine aw_region ?_ | refine aw_skip ?_ | refine ct ?_ | refine cf ?_ | refine d0s ?_ | refine d0r ?_ | refine aw_block ?_ | refine aw_exit ?_ | refine then_ret ?_ | refine then_exit ?_ | refine then_normal ?_ | refine blk_ret ?_ | refine blk_normal ?_ | refine blk_exit ?_ | refine blk_pass rfl ?_))
      ((try refine aw_ret ?_); (repeat (first | refine then_ret ?_ | refine blk_ret ?_)); refine fin_t True.intro rfl rfl ?_)
      exact rfl
  · have hT := take_s V hV.right.bd
    have hI2 := hV.take
    have hz2 : ∀ p ∈ (takeE V).1.pins, p = 0 := by rw [take_ok hV.right hf]; exact hz
    have hlt : (takeE V).1.free.length < V.free.length := by
      rw [take_ok hV.right hf]
      have := List.length_pos_iff.2 hf
      show (V.free.drop 1).length < _
      rw [List.length_drop]
      omega
    have ht2 : (takeE V).2.2 = (true, 0) := by rw [take_ok hV.right hf]
    obtain ⟨q, hq⟩ : ∃ q, q = takeE V := ⟨_, rfl⟩
    rw [← hq] at hT hI2 hz2 hlt ht2
    obtain ⟨V', g, o⟩ := q
    have ht2 : o = (true, 0) := ht2
    subst ht2
    try dsimp only at *
    clear hq
    (repeat' (first | (refine sq_id ?_; first | refine sq_nil ?_ | refine sm ?_ | refine sa ?_ | refine ss ?_ | refine st ?_ | refine sf ?_ | refine sp ?_ | refine sq ?_ | refine sl ?_ | refine si ?_ | refine sx ?_ | refine sy ?_ | refine sc hT ?_) | (refine rg_id ?_; first | refine rg_fin ?_ | refine rm ?_ | refine ra ?_ | refine rs ?_ | refine rt ?_ | refine rf ?_ | refine rp ?_ | refine rq ?_ | refine rl ?_ | refine ri ?_ | refine rx ?_ | refine ry ?_ | refine sc hT ?_) | refine aw_rseq ?_ | refine aw_seq ?_ | refine aw_region ?_ | refine aw_skip ?_ | refine ct ?_ | refine cf ?_ | refine d0s ?_ | refine d0r ?_ | refine aw_block ?_ | refine aw_exit ?_ | refine then_ret ?_ | refine then_exit ?_ | refine then_normal ?_ | refine blk_ret ?_ | refine blk_normal ?_ | refine blk_exit ?_ | refine blk_pass rfl ?_ | refine sc hT ?_))
    refine nw fun H1a hn1 hoa1 hla1 => ?_
    have hb := hoa1.get0 hb
    refine sw hn1 fun H1 ba ho1 hl1 => ?_
    have hb := ho1.get hb (by simp; omega)
    (repeat' (first | (refine sq_id ?_; first | refine sq_nil ?_ | refine sm ?_ | refine sa ?_ | refine ss ?_ | refine st ?_ | refine sf ?_ | refine sp ?_ | refine sq ?_ | refine sl ?_ | refine si ?_ | refine sx ?_ | refine sy ?_) | (refine rg_id ?_; first | refine rg_fin ?_ | refine rm ?_ | refine ra ?_ | refine rs ?_ | refine rt ?_ | refine rf ?_ | refine rp ?_ | refine rq ?_ | refine rl ?_ | refine ri ?_ | refine rx ?_ | refine ry ?_) | refine aw_rseq ?_ | refine aw_seq ?_ | refine aw_region ?_ | refine aw_skip ?_ | refine ct ?_ | refine cf ?_ | refine d0s ?_ | refine d0r ?_ | refine aw_block ?_ | refine aw_exit ?_ | refine then_ret ?_ | refine then_exit ?_ | refine then_normal ?_ | refine blk_ret ?_ | refine blk_normal ?_ | refine blk_exit ?_ | refine blk_pass rfl ?_))
    refine sw hb fun H5 hb5 ho5 hl5 => ?_
    (repeat' (first | (refine sq_id ?_; first | refine sq_nil ?_ | refine sm ?_ | refine sa ?_ | refine ss ?_ | refine st ?_ | refine sf ?_ | refine sp ?_ | refine sq ?_ | refine sl ?_ | refine si ?_ | refine sx ?_ | refine sy ?_) | (refine rg_id ?_; first | refine rg_fin ?_ | refine rm ?_ | refine ra ?_ | refine rs ?_ | refine rt ?_ | refine rf ?_ | refine rp ?_ | refine rq ?_ | refine rl ?_ | refine ri ?_ | refine rx ?_ | refine ry ?_) | refine aw_rseq ?_ | refine aw_seq ?_ | refine aw_region ?_ | refine aw_skip ?_ | refine ct ?_ | refine cf ?_ | refine d0s ?_ | refine d0r ?_ | refine aw_block ?_ | refine aw_exit ?_ | refine then_ret ?_ | refine then_exit ?_ | refine then_normal ?_ | refine blk_ret ?_ | refine blk_normal ?_ | refine blk_exit ?_ | refine blk_pass rfl ?_))
    exact ⟨V', by rw [rstf_eq]; rfl, ⟨⟨_, hb5, rfl, rfl, rfl, rfl⟩, hI2, hz2⟩, hlt⟩
theorem nodesR_s (w : Int) (L : List (Int × Int × Int)) (node : Int) (hw : I64 w) (hL : L.length ≤ maxLen ∧ R64 L) (hn : I64 node) :
    SC true Try.prog 6 [.i w, rows3 L, .i node] [] (fun r _ => r = .b true) := nodesH_s [] w L node hw hL hn
end Go.Proofs.Ytmhepmocnnlhnaa.Ab
