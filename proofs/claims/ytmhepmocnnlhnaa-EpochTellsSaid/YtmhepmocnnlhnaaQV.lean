/- The law's own awake; in. -/
import Derived.Test.YtmhepmocnnlhnaaQU
namespace Go.Proofs.Ytmhepmocnnlhnaa.Ab
open Go Go.RowKit
abbrev threes (x : Int × Int × Int) : List AV := [.i x.1, .i x.2.1, .i x.2.2]
abbrev rows3 (L : List (Int × Int × Int)) : AV := .lst false 3 L.length fun i => threes (L.getD i (0, 0, 0))
def R64 (L : List (Int × Int × Int)) : Prop := ∀ x ∈ L, I64 x.1 ∧ I64 x.2.1 ∧ I64 x.2.2
theorem in_s (xs : List Int) (n : Int) (hx : xs.length ≤ 9223372036854775807) : PS Try.prog 26 [ints xs, .i n] (.b (decide (n ∈ xs))) := by
  refine ps_in TYok Try.func26 (by kernel_rfl) Try.ntmps26 rfl rfl rfl (cl_b _) fun H => ?_
  (repeat' (first | (refine sq_id ?_; first | refine sq_nil ?_ | refine sm ?_ | refine sa ?_ | refine ss ?_ | refine st ?_ | refine sf ?_ | refine sp ?_ | refine sq ?_ | refine sl ?_ | refine si ?_ | refine sx ?_ | refine sy ?_) | (refine rg_id ?_; first | refine rg_fin ?_ | refine rm ?_ | refine ra ?_ | refine rs ?_ | refine rt ?_ | refine rf ?_ | refine rp ?_ | refine rq ?_ | refine rl ?_ | refine ri ?_ | refine rx ?_ | refine ry ?_) | refine aw_rseq ?_ | refine aw_seq ?_ | refine aw_region ?_ | refine aw_skip ?_ | refine ct ?_ | refine cf ?_ | refine aw_block ?_ | refine aw_exit ?_ | refine then_ret ?_ | refine then_exit ?_ | refine then_normal ?_ | refine blk_ret ?_ | refine blk_normal ?_ | refine blk_exit ?_ | refine blk_pass rfl ?_))
  refine aw_for [0, 1, 5] (fun k : Nat => [(0, ints xs), (1, .i n), (5, .i k)]) (fun k H' => k ≤ xs.length ∧ H' = H ∧ ∀ x ∈ xs.take k, x ≠ n) (fun k => xs.length - k) 0 (by rw [rstf_eq]; rfl) ⟨by omega, rfl, by simp⟩ ?_
  rintro k Hx ⟨hk, rfl, hne⟩
  by_cases hkl : k < xs.length
  · by_cases heq : xs.getD k 0 = n
    · have heq' : xs.getD (badd 0 k) 0 = n := heq
      rw [decide_eq_true (heq ▸ mem_getD xs 0 k hkl)]
      (repeat' (first | (refine sq_id ?_; first | refine sq_nil ?_ | refine sm ?_ | refine sa ?_ | refine ss ?_ | refine st ?_ | refine sf ?_ | refine sp ?_ | refine sq ?_ | refine sl ?_ | refine si ?_ | refine sx ?_ | refine sy ?_) | (refine rg_id ?_; first | refine rg_fin ?_ | refine rm ?_ | refine ra ?_ | refine rs ?_ | refine rt ?_ | refine rf ?_ | refine rp ?_ | refine rq ?_ | refine rl ?_ | refine ri ?_ | refine rx ?_ | refine ry ?_) | refine aw_rseq ?_ | refine aw_seq ?_ | refine aw_region ?_ | refine aw_skip ?_ | refine ct ?_ | refine cf ?_ | refine d0s ?_ | refine d0r ?_ | refine aw_block ?_ | refine aw_exit ?_ | refine then_ret ?_ | refine then_exit ?_ | refine then_normal ?_ | refine blk_ret ?_ | refine blk_normal ?_ | refine blk_exit ?_ | refine blk_pass rfl ?_))
      ((try refine aw_ret ?_); (repeat (first | refine then_ret ?_ | refine blk_ret ?_)); refine fin_t True.intro rfl rfl ?_)
      exact ⟨.refl _, rfl⟩
    · have heq' : ¬ xs.getD (badd 0 k) 0 = n := heq
      (repeat' (first | (refine sq_id ?_; first | refine sq_nil ?_ | refine sm ?_ | refine sa ?_ | refine ss ?_ | refine st ?_ | refine sf ?_ | refine sp ?_ | refine sq ?_ | refine sl ?_ | refine si ?_ | refine sx ?_ | refine sy ?_) | (refine rg_id ?_; first | refine rg_fin ?_ | refine rm ?_ | refine ra ?_ | refine rs ?_ | refine rt ?_ | refine rf ?_ | refine rp ?_ | refine rq ?_ | refine rl ?_ | refine ri ?_ | refine rx ?_ | refine ry ?_) | refine aw_rseq ?_ | refine aw_seq ?_ | refine aw_region ?_ | refine aw_skip ?_ | refine ct ?_ | refine cf ?_ | refine d0s ?_ | refine d0r ?_ | refine aw_block ?_ | refine aw_exit ?_ | refine then_ret ?_ | refine then_exit ?_ | refine then_normal ?_ | refine blk_ret ?_ | refine blk_normal ?_ | refine blk_exit ?_ | refine blk_pass rfl ?_))
      exact ⟨k + 1, by rw [rstf_eq]; rfl, ⟨by omega, rfl, fun x hx => by
        rw [List.take_add_one, List.getElem?_eq_getElem hkl] at hx
        rcases List.mem_append.1 hx with h | h
        · exact hne x h
        · simp at h
          rw [h]
          rw [List.getD_eq_getElem?_getD, List.getElem?_eq_getElem hkl] at heq
          exact heq⟩, by omega⟩
  · rw [List.take_of_length_le (by omega)] at hne
    rw [decide_eq_false (fun h => hne n h rfl)]
    (repeat' (first | (refine sq_id ?_; first | refine sq_nil ?_ | refine sm ?_ | refine sa ?_ | refine ss ?_ | refine st ?_ | refine sf ?_ | refine sp ?_ | refine sq ?_ | refine sl ?_ | refine si ?_ | refine sx ?_ | refine sy ?_) | (refine rg_id ?_; first | refine rg_fin ?_ | refine rm ?_ | refine ra ?_ | refine rs ?_ | refine rt ?_ | refine rf ?_ | refine rp ?_ | refine rq ?_ | refine rl ?_ | refine ri ?_ | refine rx ?_ | refine ry ?_) | refine aw_rseq ?_ | refine aw_seq ?_ | refine aw_region ?_ | refine aw_skip ?_ | refine ct ?_ | refine cf ?_ | refine d0s ?_ | refine d0r ?_ | refine aw_block ?_ | refine aw_exit ?_ | refine then_ret ?_ | refine then_exit ?_ | refine then_normal ?_ | refine blk_ret ?_ | refine blk_normal ?_ | refine blk_exit ?_ | refine blk_pass rfl ?_))
    ((try refine aw_ret ?_); (repeat (first | refine then_ret ?_ | refine blk_ret ?_)); refine fin_t True.intro rfl rfl ?_)
    exact ⟨.refl _, rfl⟩
set_option maxHeartbeats 4000000 in
theorem awake_s : PS Try.prog 8 [] (.b true) := by
  have hN : PS Try.prog 10 [.i 2] (epv ⟨0, [0, 0], [], [], [], []⟩) := by
    have := new_s 2
    rwa [show newE 2 = ⟨0, [0, 0], [], [], [], []⟩ from by kernel_rfl] at this
  have h1 : PS Try.prog 14 [epv ⟨0, [0, 0], [], [], [], []⟩, .i 0] (eres (⟨0, [1, 0], [], [], [], []⟩, 0)) := by
    have := pin_s ⟨0, [0, 0], [], [], [], []⟩ ⟨by decide, by decide⟩ 0
    rwa [show pinE ⟨0, [0, 0], [], [], [], []⟩ 0 = (⟨0, [1, 0], [], [], [], []⟩, 0) from by kernel_rfl] at this
  have h2 : PS Try.prog 18 [epv ⟨0, [1, 0], [], [], [], []⟩, .i 0, .i 7] (eres (⟨0, [1, 0], [7], [], [], []⟩, 0)) := by
    have := retire_s ⟨0, [1, 0], [], [], [], []⟩ ⟨by decide, by decide⟩ 0 7
    rwa [show retireE ⟨0, [1, 0], [], [], [], []⟩ 0 7 = (⟨0, [1, 0], [7], [], [], []⟩, 0) from by kernel_rfl] at this
  have h3 : PS Try.prog 20 [epv ⟨0, [1, 0], [7], [], [], []⟩] (ares (⟨1, [1, 0], [7], [], [], []⟩, true, 0)) := by
    have := advance_s ⟨0, [1, 0], [7], [], [], []⟩ ⟨by decide, by decide⟩
    rwa [show advanceE ⟨0, [1, 0], [7], [], [], []⟩ = (⟨1, [1, 0], [7], [], [], []⟩, true, 0) from by kernel_rfl] at this
  have h4 : PS Try.prog 20 [epv ⟨1, [1, 0], [7], [], [], []⟩] (ares (⟨1, [1, 0], [7], [], [], []⟩, false, 0)) := by
    have := advance_s ⟨1, [1, 0], [7], [], [], []⟩ ⟨by decide, by decide⟩
    rwa [show advanceE ⟨1, [1, 0], [7], [], [], []⟩ = (⟨1, [1, 0], [7], [], [], []⟩, false, 0) from by kernel_rfl] at this
  have h5 : PS Try.prog 16 [epv ⟨1, [1, 0], [7], [], [], []⟩, .i 0] (eres (⟨1, [0, 0], [7], [], [], []⟩, 0)) := by
    have := unpin_s ⟨1, [1, 0], [7], [], [], []⟩ ⟨by decide, by decide⟩ 0
    rwa [show unpinE ⟨1, [1, 0], [7], [], [], []⟩ 0 = (⟨1, [0, 0], [7], [], [], []⟩, 0) from by kernel_rfl] at this
  have h6 : PS Try.prog 20 [epv ⟨1, [0, 0], [7], [], [], []⟩] (ares (⟨2, [0, 0], [], [], [], [7]⟩, true, 0)) := by
    have := advance_s ⟨1, [0, 0], [7], [], [], []⟩ ⟨by decide, by decide⟩
    rwa [show advanceE ⟨1, [0, 0], [7], [], [], []⟩ = (⟨2, [0, 0], [], [], [], [7]⟩, true, 0) from by kernel_rfl] at this
  have h7 : PS Try.prog 22 [epv ⟨2, [0, 0], [], [], [], [7]⟩] (tres (⟨2, [0, 0], [], [], [], []⟩, 7, true, 0)) := by
    have := take_s ⟨2, [0, 0], [], [], [], [7]⟩ ⟨by decide, by decide⟩
    rwa [show takeE ⟨2, [0, 0], [], [], [], [7]⟩ = (⟨2, [0, 0], [], [], [], []⟩, 7, true, 0) from by kernel_rfl] at this
  have h8 : PS Try.prog 22 [epv ⟨2, [0, 0], [], [], [], []⟩] (tres (⟨2, [0, 0], [], [], [], []⟩, 0, false, 0)) := by
    have := take_s ⟨2, [0, 0], [], [], [], []⟩ ⟨by decide, by decide⟩
    rwa [show takeE ⟨2, [0, 0], [], [], [], []⟩ = (⟨2, [0, 0], [], [], [], []⟩, 0, false, 0) from by kernel_rfl] at this
  have h9 : PS Try.prog 18 [epv ⟨2, [0, 0], [], [], [], [7]⟩, .i 0, .i 8] (eres (⟨2, [0, 0], [], [], [], [7]⟩, 42)) := by
    have := retire_s ⟨2, [0, 0], [], [], [], [7]⟩ ⟨by decide, by decide⟩ 0 8
    rwa [show retireE ⟨2, [0, 0], [], [], [], [7]⟩ 0 8 = (⟨2, [0, 0], [], [], [], [7]⟩, 42) from by kernel_rfl] at this
  have h10 : PS Try.prog 14 [epv ⟨1, [1, 0], [7], [], [], []⟩, .i 0] (eres (⟨1, [1, 0], [7], [], [], []⟩, 41)) := by
    have := pin_s ⟨1, [1, 0], [7], [], [], []⟩ ⟨by decide, by decide⟩ 0
    rwa [show pinE ⟨1, [1, 0], [7], [], [], []⟩ 0 = (⟨1, [1, 0], [7], [], [], []⟩, 41) from by kernel_rfl] at this
  have hr1 : PS Try.prog 24 [epv ⟨2, [0, 0], [], [], [], []⟩] (.b true) := by
    have := right_s ⟨2, [0, 0], [], [], [], []⟩ ⟨by decide, by decide⟩
    rwa [show decide (RightE ⟨2, [0, 0], [], [], [], []⟩) = true from by kernel_rfl] at this
  have hr2 : PS Try.prog 24 [epv ⟨0, [], [], [], [], []⟩] (.b false) := by
    have := right_s ⟨0, [], [], [], [], []⟩ ⟨by decide, by decide⟩
    rwa [show decide (RightE ⟨0, [], [], [], [], []⟩) = false from by kernel_rfl] at this
  refine ps_in TYok Try.func8 (by kernel_rfl) Try.ntmps8 rfl rfl rfl (cl_b _) fun H => ?_
  (repeat' (first | (refine sq_id ?_; first | refine sq_nil ?_ | refine sm ?_ | refine sa ?_ | refine ss ?_ | refine st ?_ | refine sf ?_ | refine sp ?_ | refine sq ?_ | refine sl ?_ | refine si ?_ | refine sx ?_ | refine sy ?_ | refine sc hN ?_ | refine sc h1 ?_) | (refine rg_id ?_; first | refine rg_fin ?_ | refine rm ?_ | refine ra ?_ | refine rs ?_ | refine rt ?_ | refine rf ?_ | refine rp ?_ | refine rq ?_ | refine rl ?_ | refine ri ?_ | refine rx ?_ | refine ry ?_ | refine sc hN ?_ | refine sc h1 ?_) | refine aw_rseq ?_ | refine aw_seq ?_ | refine aw_region ?_ | refine aw_skip ?_ | refine ct ?_ | refine cf ?_ | refine d0s ?_ | refine d0r ?_ | refine aw_block ?_ | refine aw_exit ?_ | refine then_ret ?_ | refine then_exit ?_ | refine then_normal ?_ | refine blk_ret ?_ | refine blk_normal ?_ | refine blk_exit ?_ | refine blk_pass rfl ?_ | refine sc hN ?_ | refine sc h1 ?_))
  refine nw fun H1a hn1 hoa1 hla1 => ?_
  refine sw hn1 fun H1 ba ho1 hl1 => ?_
  have hE := (hoa1).new ho1 (by omega)
  (repeat' (first | (refine sq_id ?_; first | refine sq_nil ?_ | refine sm ?_ | refine sa ?_ | refine ss ?_ | refine st ?_ | refine sf ?_ | refine sp ?_ | refine sq ?_ | refine sl ?_ | refine si ?_ | refine sx ?_ | refine sy ?_ | refine sc h2 ?_) | (refine rg_id ?_; first | refine rg_fin ?_ | refine rm ?_ | refine ra ?_ | refine rs ?_ | refine rt ?_ | refine rf ?_ | refine rp ?_ | refine rq ?_ | refine rl ?_ | refine ri ?_ | refine rx ?_ | refine ry ?_ | refine sc h2 ?_) | refine aw_rseq ?_ | refine aw_seq ?_ | refine aw_region ?_ | refine aw_skip ?_ | refine ct ?_ | refine cf ?_ | refine d0s ?_ | refine d0r ?_ | refine aw_block ?_ | refine aw_exit ?_ | refine then_ret ?_ | refine then_exit ?_ | refine then_normal ?_ | refine blk_ret ?_ | refine blk_normal ?_ | refine blk_exit ?_ | refine blk_pass rfl ?_ | refine sc h2 ?_))
  refine nw fun H2a hn2 hoa2 hla2 => ?_
  have ba := hoa2.get0 ba
  refine sw hn2 fun H2 bb ho2 hl2 => ?_
  have ba := ho2.get ba (by simp; omega)
  have hE := (hE.trans0 hoa2).new ho2 (by omega)
  (repeat' (first | (refine sq_id ?_; first | refine sq_nil ?_ | refine sm ?_ | refine sa ?_ | refine ss ?_ | refine st ?_ | refine sf ?_ | refine sp ?_ | refine sq ?_ | refine sl ?_ | refine si ?_ | refine sx ?_ | refine sy ?_ | refine sc h3 ?_) | (refine rg_id ?_; first | refine rg_fin ?_ | refine rm ?_ | refine ra ?_ | refine rs ?_ | refine rt ?_ | refine rf ?_ | refine rp ?_ | refine rq ?_ | refine rl ?_ | refine ri ?_ | refine rx ?_ | refine ry ?_ | refine sc h3 ?_) | refine aw_rseq ?_ | refine aw_seq ?_ | refine aw_region ?_ | refine aw_skip ?_ | refine ct ?_ | refine cf ?_ | refine d0s ?_ | refine d0r ?_ | refine aw_block ?_ | refine aw_exit ?_ | refine then_ret ?_ | refine then_exit ?_ | refine then_normal ?_ | refine blk_ret ?_ | refine blk_normal ?_ | refine blk_exit ?_ | refine blk_pass rfl ?_ | refine sc h3 ?_))
  refine nw fun H3a hn3 hoa3 hla3 => ?_
  have ba := hoa3.get0 ba
  have bb := hoa3.get0 bb
  refine sw hn3 fun H3 bc ho3 hl3 => ?_
  have ba := ho3.get ba (by simp; omega)
  have bb := ho3.get bb (by simp; omega)
  have hE := (hE.trans0 hoa3).new ho3 (by omega)
  (repeat' (first | (refine sq_id ?_; first | refine sq_nil ?_ | refine sm ?_ | refine sa ?_ | refine ss ?_ | refine st ?_ | refine sf ?_ | refine sp ?_ | refine sq ?_ | refine sl ?_ | refine si ?_ | refine sx ?_ | refine sy ?_ | refine sc h4 ?_) | (refine rg_id ?_; first | refine rg_fin ?_ | refine rm ?_ | refine ra ?_ | refine rs ?_ | refine rt ?_ | refine rf ?_ | refine rp ?_ | refine rq ?_ | refine rl ?_ | refine ri ?_ | refine rx ?_ | refine ry ?_ | refine sc h4 ?_) | refine aw_rseq ?_ | refine aw_seq ?_ | refine aw_region ?_ | refine aw_skip ?_ | refine ct ?_ | refine cf ?_ | refine d0s ?_ | refine d0r ?_ | refine aw_block ?_ | refine aw_exit ?_ | refine then_ret ?_ | refine then_exit ?_ | refine then_normal ?_ | refine blk_ret ?_ | refine blk_normal ?_ | refine blk_exit ?_ | refine blk_pass rfl ?_ | refine sc h4 ?_))
  refine nw fun H4a hn4 hoa4 hla4 => ?_
  have ba := hoa4.get0 ba
  have bb := hoa4.get0 bb
  have bc := hoa4.get0 bc
  refine sw hn4 fun H4 bs ho4 hl4 => ?_
  have ba := ho4.get ba (by simp; omega)
  have bb := ho4.get bb (by simp; omega)
  have bc := ho4.get bc (by simp; omega)
  have hE := (hE.trans0 hoa4).new ho4 (by omega)
  (repeat' (first | (refine sq_id ?_; first | refine sq_nil ?_ | refine sm ?_ | refine sa ?_ | refine ss ?_ | refine st ?_ | refine sf ?_ | refine sp ?_ | refine sq ?_ | refine sl ?_ | refine si ?_ | refine sx ?_ | refine sy ?_ | refine sc h5 ?_) | (refine rg_id ?_; first | refine rg_fin ?_ | refine rm ?_ | refine ra ?_ | refine rs ?_ | refine rt ?_ | refine rf ?_ | refine rp ?_ | refine rq ?_ | refine rl ?_ | refine ri ?_ | refine rx ?_ | refine ry ?_ | refine sc h5 ?_) | refine aw_rseq ?_ | refine aw_seq ?_ | refine aw_region ?_ | refine aw_skip ?_ | refine ct ?_ | refine cf ?_ | refine d0s ?_ | refine d0r ?_ | refine aw_block ?_ | refine aw_exit ?_ | refine then_ret ?_ | refine then_exit ?_ | refine then_normal ?_ | refine blk_ret ?_ | refine blk_normal ?_ | refine blk_exit ?_ | refine blk_pass rfl ?_ | refine sc h5 ?_))
  refine nw fun H5a hn5 hoa5 hla5 => ?_
  have ba := hoa5.get0 ba
  have bb := hoa5.get0 bb
  have bc := hoa5.get0 bc
  have bs := hoa5.get0 bs
  refine sw hn5 fun H5 bd ho5 hl5 => ?_
  have ba := ho5.get ba (by simp; omega)
  have bb := ho5.get bb (by simp; omega)
  have bc := ho5.get bc (by simp; omega)
  have bs := ho5.get bs (by simp; omega)
  have hE := (hE.trans0 hoa5).new ho5 (by omega)
  (repeat' (first | (refine sq_id ?_; first | refine sq_nil ?_ | refine sm ?_ | refine sa ?_ | refine ss ?_ | refine st ?_ | refine sf ?_ | refine sp ?_ | refine sq ?_ | refine sl ?_ | refine si ?_ | refine sx ?_ | refine sy ?_ | refine sc h6 ?_) | (refine rg_id ?_; first | refine rg_fin ?_ | refine rm ?_ | refine ra ?_ | refine rs ?_ | refine rt ?_ | refine rf ?_ | refine rp ?_ | refine rq ?_ | refine rl ?_ | refine ri ?_ | refine rx ?_ | refine ry ?_ | refine sc h6 ?_) | refine aw_rseq ?_ | refine aw_seq ?_ | refine aw_region ?_ | refine aw_skip ?_ | refine ct ?_ | refine cf ?_ | refine d0s ?_ | refine d0r ?_ | refine aw_block ?_ | refine aw_exit ?_ | refine then_ret ?_ | refine then_exit ?_ | refine then_normal ?_ | refine blk_ret ?_ | refine blk_normal ?_ | refine blk_exit ?_ | refine blk_pass rfl ?_ | refine sc h6 ?_))
  refine sw bd fun Hs bd hs hls => ?_
  have ba := hs.get ba (by simp; omega)
  have bb := hs.get bb (by simp; omega)
  have bc := hs.get bc (by simp; omega)
  have bs := hs.get bs (by simp; omega)
  have hE := hE.new hs (by omega)
  (repeat' (first | (refine sq_id ?_; first | refine sq_nil ?_ | refine sm ?_ | refine sa ?_ | refine ss ?_ | refine st ?_ | refine sf ?_ | refine sp ?_ | refine sq ?_ | refine sl ?_ | refine si ?_ | refine sx ?_ | refine sy ?_ | refine sc h7 ?_) | (refine rg_id ?_; first | refine rg_fin ?_ | refine rm ?_ | refine ra ?_ | refine rs ?_ | refine rt ?_ | refine rf ?_ | refine rp ?_ | refine rq ?_ | refine rl ?_ | refine ri ?_ | refine rx ?_ | refine ry ?_ | refine sc h7 ?_) | refine aw_rseq ?_ | refine aw_seq ?_ | refine aw_region ?_ | refine aw_skip ?_ | refine ct ?_ | refine cf ?_ | refine d0s ?_ | refine d0r ?_ | refine aw_block ?_ | refine aw_exit ?_ | refine then_ret ?_ | refine then_exit ?_ | refine then_normal ?_ | refine blk_ret ?_ | refine blk_normal ?_ | refine blk_exit ?_ | refine blk_pass rfl ?_ | refine sc h7 ?_))
  refine nw fun H6a hn6 hoa6 hla6 => ?_
  have ba := hoa6.get0 ba
  have bb := hoa6.get0 bb
  have bc := hoa6.get0 bc
  have bs := hoa6.get0 bs
  have bd := hoa6.get0 bd
  refine sw hn6 fun H6 bx ho6 hl6 => ?_
  have ba := ho6.get ba (by simp; omega)
  have bb := ho6.get bb (by simp; omega)
  have bc := ho6.get bc (by simp; omega)
  have bs := ho6.get bs (by simp; omega)
  have bd := ho6.get bd (by simp; omega)
  have hE := (hE.trans0 hoa6).new ho6 (by omega)
  (repeat' (first | (refine sq_id ?_; first | refine sq_nil ?_ | refine sm ?_ | refine sa ?_ | refine ss ?_ | refine st ?_ | refine sf ?_ | refine sp ?_ | refine sq ?_ | refine sl ?_ | refine si ?_ | refine sx ?_ | refine sy ?_ | refine sc h8 ?_) | (refine rg_id ?_; first | refine rg_fin ?_ | refine rm ?_ | refine ra ?_ | refine rs ?_ | refine rt ?_ | refine rf ?_ | refine rp ?_ | refine rq ?_ | refine rl ?_ | refine ri ?_ | refine rx ?_ | refine ry ?_ | refine sc h8 ?_) | refine aw_rseq ?_ | refine aw_seq ?_ | refine aw_region ?_ | refine aw_skip ?_ | refine ct ?_ | refine cf ?_ | refine d0s ?_ | refine d0r ?_ | refine aw_block ?_ | refine aw_exit ?_ | refine then_ret ?_ | refine then_exit ?_ | refine then_normal ?_ | refine blk_ret ?_ | refine blk_normal ?_ | refine blk_exit ?_ | refine blk_pass rfl ?_ | refine sc h8 ?_))
  refine nw fun H7a hn7 hoa7 hla7 => ?_
  have ba := hoa7.get0 ba
  have bb := hoa7.get0 bb
  have bc := hoa7.get0 bc
  have bs := hoa7.get0 bs
  have bd := hoa7.get0 bd
  have bx := hoa7.get0 bx
  refine sw hn7 fun H7 by' ho7 hl7 => ?_
  have ba := ho7.get ba (by simp; omega)
  have bb := ho7.get bb (by simp; omega)
  have bc := ho7.get bc (by simp; omega)
  have bs := ho7.get bs (by simp; omega)
  have bd := ho7.get bd (by simp; omega)
  have bx := ho7.get bx (by simp; omega)
  have hE := (hE.trans0 hoa7).new ho7 (by omega)
  (repeat' (first | (refine sq_id ?_; first | refine sq_nil ?_ | refine sm ?_ | refine sa ?_ | refine ss ?_ | refine st ?_ | refine sf ?_ | refine sp ?_ | refine sq ?_ | refine sl ?_ | refine si ?_ | refine sx ?_ | refine sy ?_ | refine sc h9 ?_) | (refine rg_id ?_; first | refine rg_fin ?_ | refine rm ?_ | refine ra ?_ | refine rs ?_ | refine rt ?_ | refine rf ?_ | refine rp ?_ | refine rq ?_ | refine rl ?_ | refine ri ?_ | refine rx ?_ | refine ry ?_ | refine sc h9 ?_) | refine aw_rseq ?_ | refine aw_seq ?_ | refine aw_region ?_ | refine aw_skip ?_ | refine ct ?_ | refine cf ?_ | refine d0s ?_ | refine d0r ?_ | refine aw_block ?_ | refine aw_exit ?_ | refine then_ret ?_ | refine then_exit ?_ | refine then_normal ?_ | refine blk_ret ?_ | refine blk_normal ?_ | refine blk_exit ?_ | refine blk_pass rfl ?_ | refine sc h9 ?_))
  refine nw fun H8a hn8 hoa8 hla8 => ?_
  have ba := hoa8.get0 ba
  have bb := hoa8.get0 bb
  have bc := hoa8.get0 bc
  have bs := hoa8.get0 bs
  have bd := hoa8.get0 bd
  have bx := hoa8.get0 bx
  have by' := hoa8.get0 by'
  refine sw hn8 fun H8 bz ho8 hl8 => ?_
  have ba := ho8.get ba (by simp; omega)
  have bb := ho8.get bb (by simp; omega)
  have bc := ho8.get bc (by simp; omega)
  have bs := ho8.get bs (by simp; omega)
  have bd := ho8.get bd (by simp; omega)
  have bx := ho8.get bx (by simp; omega)
  have by' := ho8.get by' (by simp; omega)
  have hE := (hE.trans0 hoa8).new ho8 (by omega)
  (repeat' (first | (refine sq_id ?_; first | refine sq_nil ?_ | refine sm ?_ | refine sa ?_ | refine ss ?_ | refine st ?_ | refine sf ?_ | refine sp ?_ | refine sq ?_ | refine sl ?_ | refine si ?_ | refine sx ?_ | refine sy ?_ | refine sc h10 ?_) | (refine rg_id ?_; first | refine rg_fin ?_ | refine rm ?_ | refine ra ?_ | refine rs ?_ | refine rt ?_ | refine rf ?_ | refine rp ?_ | refine rq ?_ | refine rl ?_ | refine ri ?_ | refine rx ?_ | refine ry ?_ | refine sc h10 ?_) | refine aw_rseq ?_ | refine aw_seq ?_ | refine aw_region ?_ | refine aw_skip ?_ | refine ct ?_ | refine cf ?_ | refine d0s ?_ | refine d0r ?_ | refine aw_block ?_ | refine aw_exit ?_ | refine then_ret ?_ | refine then_exit ?_ | refine then_normal ?_ | refine blk_ret ?_ | refine blk_normal ?_ | refine blk_exit ?_ | refine blk_pass rfl ?_ | refine sc h10 ?_))
  refine nw fun H9a hn9 hoa9 hla9 => ?_
  have ba := hoa9.get0 ba
  have bb := hoa9.get0 bb
  have bc := hoa9.get0 bc
  have bs := hoa9.get0 bs
  have bd := hoa9.get0 bd
  have bx := hoa9.get0 bx
  have by' := hoa9.get0 by'
  have bz := hoa9.get0 bz
  refine sw hn9 fun H9 bw ho9 hl9 => ?_
  have ba := ho9.get ba (by simp; omega)
  have bb := ho9.get bb (by simp; omega)
  have bc := ho9.get bc (by simp; omega)
  have bs := ho9.get bs (by simp; omega)
  have bd := ho9.get bd (by simp; omega)
  have bx := ho9.get bx (by simp; omega)
  have by' := ho9.get by' (by simp; omega)
  have bz := ho9.get bz (by simp; omega)
  have hE := (hE.trans0 hoa9).new ho9 (by omega)
  (repeat' (first | (refine sq_id ?_; first | refine sq_nil ?_ | refine sm ?_ | refine sa ?_ | refine ss ?_ | refine st ?_ | refine sf ?_ | refine sp ?_ | refine sq ?_ | refine sl ?_ | refine si ?_ | refine sx ?_ | refine sy ?_ | refine sc hr1 ?_ | refine sq_ps rfl rfl rfl hr2 (.cons (le_agg (.cons (Le.refl _) (.cons (le_nil _ _ _) (.cons (le_nil _ _ _) (.cons (le_nil _ _ _) (.cons (le_nil _ _ _) (.cons (le_nil _ _ _) .nil))))))) .nil) ?_) | (refine rg_id ?_; first | refine rg_fin ?_ | refine rm ?_ | refine ra ?_ | refine rs ?_ | refine rt ?_ | refine rf ?_ | refine rp ?_ | refine rq ?_ | refine rl ?_ | refine ri ?_ | refine rx ?_ | refine ry ?_ | refine sc hr1 ?_ | refine sq_ps rfl rfl rfl hr2 (.cons (le_agg (.cons (Le.refl _) (.cons (le_nil _ _ _) (.cons (le_nil _ _ _) (.cons (le_nil _ _ _) (.cons (le_nil _ _ _) (.cons (le_nil _ _ _) .nil))))))) .nil) ?_) | refine aw_rseq ?_ | refine aw_seq ?_ | refine aw_region ?_ | refine aw_skip ?_ | refine ct ?_ | refine cf ?_ | refine d0s ?_ | refine d0r ?_ | refine aw_block ?_ | refine aw_exit ?_ | refine then_ret ?_ | refine then_exit ?_ | refine then_normal ?_ | refine blk_ret ?_ | refine blk_normal ?_ | refine blk_exit ?_ | refine blk_pass rfl ?_ | refine sc hr1 ?_ | refine sq_ps rfl rfl rfl hr2 (.cons (le_agg (.cons (Le.refl _) (.cons (le_nil _ _ _) (.cons (le_nil _ _ _) (.cons (le_nil _ _ _) (.cons (le_nil _ _ _) (.cons (le_nil _ _ _) .nil))))))) .nil) ?_))
  ((try refine aw_ret ?_); (repeat (first | refine then_ret ?_ | refine blk_ret ?_)); refine fin_t True.intro rfl rfl ?_)
  exact ⟨hE.ext, rfl⟩
end Go.Proofs.Ytmhepmocnnlhnaa.Ab
