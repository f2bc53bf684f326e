/- The document's own Same, of the same. -/
import Derived.Test.YtmhepmocnnlhnaaQT
namespace Go.Proofs.Ytmhepmocnnlhnaa.Ab
open Go Go.RowKit
set_option maxHeartbeats 4000000 in
theorem refsame_s (e : Ep) (hbd : Bd e) : PS Try.prog 9 [epv e, epv e] (.b true) := by
  obtain ⟨hb1, hb2⟩ := hbd
  have i0 := ints_t e.pins (by omega)
  have i1 := ints_t e.l0 (by omega)
  have i2 := ints_t e.l1 (by omega)
  have i3 := ints_t e.l2 (by omega)
  have i4 := ints_t e.free (by omega)
  refine ps_in TYok Try.func9 (by kernel_rfl) Try.ntmps9 rfl rfl rfl (cl_b _) fun H => ?_
  refine aw_seq ?_
  refine aw_region ?_
  refine nw fun H1 hb1 ho1 hl1 => ?_
  refine nw fun H2 hb2 ho2 hl2 => ?_
  have hb12 := ho2.get0 hb1
  (repeat' (first | (refine sq_id ?_; first | refine sq_nil ?_ | refine sm ?_ | refine sa ?_ | refine ss ?_ | refine st ?_ | refine sf ?_ | refine sp ?_ | refine sq ?_ | refine sl ?_ | refine si ?_ | refine sx ?_ | refine sy ?_) | (refine rg_id ?_; first | refine rg_fin ?_ | refine rm ?_ | refine ra ?_ | refine rs ?_ | refine rt ?_ | refine rf ?_ | refine rp ?_ | refine rq ?_ | refine rl ?_ | refine ri ?_ | refine rx ?_ | refine ry ?_) | refine aw_rseq ?_ | refine aw_seq ?_ | refine aw_region ?_ | refine aw_skip ?_ | refine ct ?_ | refine cf ?_ | refine d0s ?_ | refine d0r ?_ | refine aw_block ?_ | refine aw_exit ?_ | refine then_ret ?_ | refine then_exit ?_ | refine then_normal ?_ | refine blk_ret ?_ | refine blk_normal ?_ | refine blk_exit ?_ | refine blk_pass rfl ?_))
  refine aw_for [2, 3, 5] (fun k : Nat => [(2, .ref H.length 6 0 0), (3, .ref H1.length 6 0 0), (5, .i k)]) (fun k H' => k ≤ 3 ∧ H' = H2) (fun k => 3 - k) 0 (by rw [rstf_eq]; rfl) ⟨by omega, rfl⟩ ?_
  rintro k Hx ⟨hk, rfl⟩
  by_cases hk3 : k < 3
  · rcases (by omega : k = 0 ∨ k = 1 ∨ k = 2) with rfl | rfl | rfl
    · (repeat' (first | (refine sq_id ?_; first | refine sq_nil ?_ | refine sm ?_ | refine sa ?_ | refine ss ?_ | refine st ?_ | refine sf ?_ | refine sp ?_ | refine sq ?_ | refine sl ?_ | refine si ?_ | refine sx ?_ | refine sy ?_ | refine rc i1 ?_ | fail) | (refine rg_id ?_; first | refine rg_fin ?_ | refine rm ?_ | refine ra ?_ | refine rs ?_ | refine rt ?_ | refine rf ?_ | refine rp ?_ | refine rq ?_ | refine rl ?_ | refine ri ?_ | refine rx ?_ | refine ry ?_ | refine rc i1 ?_ | fail) | refine aw_rseq ?_ | refine aw_seq ?_ | refine aw_region ?_ | refine aw_skip ?_ | refine ct ?_ | refine cf ?_ | refine d0s ?_ | refine d0r ?_ | refine aw_block ?_ | refine aw_exit ?_ | refine then_ret ?_ | refine then_exit ?_ | refine then_normal ?_ | refine blk_ret ?_ | refine blk_normal ?_ | refine blk_exit ?_ | refine blk_pass rfl ?_ | refine rc i1 ?_ | fail))
      exact ⟨1, by rw [rstf_eq]; rfl, ⟨by omega, List.append_nil _⟩, by omega⟩
    · (repeat' (first | (refine sq_id ?_; first | refine sq_nil ?_ | refine sm ?_ | refine sa ?_ | refine ss ?_ | refine st ?_ | refine sf ?_ | refine sp ?_ | refine sq ?_ | refine sl ?_ | refine si ?_ | refine sx ?_ | refine sy ?_ | refine rc i2 ?_ | fail) | (refine rg_id ?_; first | refine rg_fin ?_ | refine rm ?_ | refine ra ?_ | refine rs ?_ | refine rt ?_ | refine rf ?_ | refine rp ?_ | refine rq ?_ | refine rl ?_ | refine ri ?_ | refine rx ?_ | refine ry ?_ | refine rc i2 ?_ | fail) | refine aw_rseq ?_ | refine aw_seq ?_ | refine aw_region ?_ | refine aw_skip ?_ | refine ct ?_ | refine cf ?_ | refine d0s ?_ | refine d0r ?_ | refine aw_block ?_ | refine aw_exit ?_ | refine then_ret ?_ | refine then_exit ?_ | refine then_normal ?_ | refine blk_ret ?_ | refine blk_normal ?_ | refine blk_exit ?_ | refine blk_pass rfl ?_ | refine rc i2 ?_ | fail))
      exact ⟨2, by rw [rstf_eq]; rfl, ⟨by omega, List.append_nil _⟩, by omega⟩
    · (repeat' (first | (refine sq_id ?_; first | refine sq_nil ?_ | refine sm ?_ | refine sa ?_ | refine ss ?_ | refine st ?_ | refine sf ?_ | refine sp ?_ | refine sq ?_ | refine sl ?_ | refine si ?_ | refine sx ?_ | refine sy ?_ | refine rc i3 ?_ | fail) | (refine rg_id ?_; first | refine rg_fin ?_ | refine rm ?_ | refine ra ?_ | refine rs ?_ | refine rt ?_ | refine rf ?_ | refine rp ?_ | refine rq ?_ | refine rl ?_ | refine ri ?_ | refine rx ?_ | refine ry ?_ | refine rc i3 ?_ | fail) | refine aw_rseq ?_ | refine aw_seq ?_ | refine aw_region ?_ | refine aw_skip ?_ | refine ct ?_ | refine cf ?_ | refine d0s ?_ | refine d0r ?_ | refine aw_block ?_ | refine aw_exit ?_ | refine then_ret ?_ | refine then_exit ?_ | refine then_normal ?_ | refine blk_ret ?_ | refine blk_normal ?_ | refine blk_exit ?_ | refine blk_pass rfl ?_ | refine rc i3 ?_ | fail))
      exact ⟨3, by rw [rstf_eq]; rfl, ⟨by omega, List.append_nil _⟩, by omega⟩
  · have hk : k = 3 := by omega
    subst hk
    (repeat' (first | (refine sq_id ?_; first | refine sq_nil ?_ | refine sm ?_ | refine sa ?_ | refine ss ?_ | refine st ?_ | refine sf ?_ | refine sp ?_ | refine sq ?_ | refine sl ?_ | refine si ?_ | refine sx ?_ | refine sy ?_ | refine sc i0 ?_ | refine sc i4 ?_ | fail) | (refine rg_id ?_; first | refine rg_fin ?_ | refine rm ?_ | refine ra ?_ | refine rs ?_ | refine rt ?_ | refine rf ?_ | refine rp ?_ | refine rq ?_ | refine rl ?_ | refine ri ?_ | refine rx ?_ | refine ry ?_ | refine sc i0 ?_ | refine sc i4 ?_ | fail) | refine aw_rseq ?_ | refine aw_seq ?_ | refine aw_region ?_ | refine aw_skip ?_ | refine ct ?_ | refine cf ?_ | refine d0s ?_ | refine d0r ?_ | refine aw_block ?_ | refine aw_exit ?_ | refine then_ret ?_ | refine then_exit ?_ | refine then_normal ?_ | refine blk_ret ?_ | refine blk_normal ?_ | refine blk_exit ?_ | refine blk_pass rfl ?_ | refine sc i0 ?_ | refine sc i4 ?_ | fail))
    ((try refine aw_ret ?_); (repeat (first | refine then_ret ?_ | refine blk_ret ?_)); refine fin_t True.intro rfl rfl ?_)
    exact ⟨(ho1.trans0 ho2).ext, rfl⟩
end Go.Proofs.Ytmhepmocnnlhnaa.Ab
