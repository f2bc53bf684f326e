/- The document's own: node, all, Right, wrong. -/
import Derived.Test.YtmhepmocnnlhnaaQF
namespace Go.Proofs.Ytmhepmocnnlhnaa.Ab
open Go Go.RowKit
theorem refnode_s (n : Int) : PS Try.prog 37 [.i n] (.b (decide (nodeP n))) := by
  refine ps_in TYok Try.func37 (by kernel_rfl) Try.ntmps37 rfl rfl rfl (cl_b _) fun H => ?_
  by_cases h : 0 ≤ n
  · by_cases h2 : n ≤ 1099511627776
    · rw [decide_eq_true (show nodeP n from ⟨h, h2⟩)]
      (repeat' (first | (refine sq_id ?_; first | refine sq_nil ?_ | refine sm ?_ | refine sa ?_ | refine ss ?_ | refine st ?_ | refine sf ?_ | refine sp ?_ | refine sq ?_ | refine sl ?_ | refine si ?_ | refine sx ?_ | refine sy ?_) | (refine rg_id ?_; first | refine rg_fin ?_ | refine rm ?_ | refine ra ?_ | refine rs ?_ | refine rt ?_ | refine rf ?_ | refine rp ?_ | refine rq ?_ | refine rl ?_ | refine ri ?_ | refine rx ?_ | refine ry ?_) | refine aw_rseq ?_ | refine aw_seq ?_ | refine aw_region ?_ | refine aw_skip ?_ | refine ct ?_ | refine cf ?_ | refine d0s ?_ | refine d0r ?_ | refine aw_block ?_ | refine aw_exit ?_ | refine then_ret ?_ | refine then_exit ?_ | refine then_normal ?_ | refine blk_ret ?_ | refine blk_normal ?_ | refine blk_exit ?_ | refine blk_pass rfl ?_))
      ((try refine aw_ret ?_); (repeat (first | refine then_ret ?_ | refine blk_ret ?_)); refine fin_t True.intro rfl rfl ?_)
      exact ⟨.refl _, rfl⟩
    · rw [decide_eq_false (show ¬ nodeP n from fun k => h2 k.2)]
      (repeat' (first | (refine sq_id ?_; first | refine sq_nil ?_ | refine sm ?_ | refine sa ?_ | refine ss ?_ | refine st ?_ | refine sf ?_ | refine sp ?_ | refine sq ?_ | refine sl ?_ | refine si ?_ | refine sx ?_ | refine sy ?_) | (refine rg_id ?_; first | refine rg_fin ?_ | refine rm ?_ | refine ra ?_ | refine rs ?_ | refine rt ?_ | refine rf ?_ | refine rp ?_ | refine rq ?_ | refine rl ?_ | refine ri ?_ | refine rx ?_ | refine ry ?_) | refine aw_rseq ?_ | refine aw_seq ?_ | refine aw_region ?_ | refine aw_skip ?_ | refine ct ?_ | refine cf ?_ | refine d0s ?_ | refine d0r ?_ | refine aw_block ?_ | refine aw_exit ?_ | refine then_ret ?_ | refine then_exit ?_ | refine then_normal ?_ | refine blk_ret ?_ | refine blk_normal ?_ | refine blk_exit ?_ | refine blk_pass rfl ?_))
      ((try refine aw_ret ?_); (repeat (first | refine then_ret ?_ | refine blk_ret ?_)); refine fin_t True.intro rfl rfl ?_)
      exact ⟨.refl _, rfl⟩
  · rw [decide_eq_false (show ¬ nodeP n from fun k => h k.1)]
    (repeat' (first | (refine sq_id ?_; first | refine sq_nil ?_ | refine sm ?_ | refine sa ?_ | refine ss ?_ | refine st ?_ | refine sf ?_ | refine sp ?_ | refine sq ?_ | refine sl ?_ | refine si ?_ | refine sx ?_ | refine sy ?_) | (refine rg_id ?_; first | refine rg_fin ?_ | refine rm ?_ | refine ra ?_ | refine rs ?_ | refine rt ?_ | refine rf ?_ | refine rp ?_ | refine rq ?_ | refine rl ?_ | refine ri ?_ | refine rx ?_ | refine ry ?_) | refine aw_rseq ?_ | refine aw_seq ?_ | refine aw_region ?_ | refine aw_skip ?_ | refine ct ?_ | refine cf ?_ | refine d0s ?_ | refine d0r ?_ | refine aw_block ?_ | refine aw_exit ?_ | refine then_ret ?_ | refine then_exit ?_ | refine then_normal ?_ | refine blk_ret ?_ | refine blk_normal ?_ | refine blk_exit ?_ | refine blk_pass rfl ?_))
    ((try refine aw_ret ?_); (repeat (first | refine then_ret ?_ | refine blk_ret ?_)); refine fin_t True.intro rfl rfl ?_)
    exact ⟨.refl _, rfl⟩
def allK (e : Ep) : Nat → List Int
  | 0 => []
  | 1 => e.l0
  | 2 => e.l0 ++ e.l1
  | _ => e.l0 ++ e.l1 ++ e.l2
abbrev allL (e : Ep) : List Int := allK e 3 ++ e.free
theorem allL_perm (e : Ep) : (allL e).Perm (nodesL e) := by
  show (e.l0 ++ e.l1 ++ e.l2 ++ e.free).Perm (e.free ++ e.l0 ++ e.l1 ++ e.l2)
  have := (List.perm_append_comm (l₁ := e.l0 ++ e.l1 ++ e.l2) (l₂ := e.free))
  simpa [List.append_assoc] using this
theorem refall_s (e : Ep) (hb : Bd e) : PS Try.prog 38 [epv e] (ints (allL e)) := by
  obtain ⟨hb1, hb2⟩ := hb
  refine ps_frz (cl_ints _) fun H => ?_
  refine sc_in TYok Try.func38 (by kernel_rfl) Try.ntmps38 rfl rfl rfl ?_
  refine aw_seq ?_
  refine aw_region ?_
  refine nw fun H1 hb1 ho1 hl1 => ?_
  (repeat' (first | (refine sq_id ?_; first | refine sq_nil ?_ | refine sm ?_ | refine sa ?_ | refine ss ?_ | refine st ?_ | refine sf ?_ | refine sp ?_ | refine sq ?_ | refine sl ?_ | refine si ?_ | refine sx ?_ | refine sy ?_) | (refine rg_id ?_; first | refine rg_fin ?_ | refine rm ?_ | refine ra ?_ | refine rs ?_ | refine rt ?_ | refine rf ?_ | refine rp ?_ | refine rq ?_ | refine rl ?_ | refine ri ?_ | refine rx ?_ | refine ry ?_) | refine aw_rseq ?_ | refine aw_seq ?_ | refine aw_region ?_ | refine aw_skip ?_ | refine ct ?_ | refine cf ?_ | refine d0s ?_ | refine d0r ?_ | refine aw_block ?_ | refine aw_exit ?_ | refine then_ret ?_ | refine then_exit ?_ | refine then_normal ?_ | refine blk_ret ?_ | refine blk_normal ?_ | refine blk_exit ?_ | refine blk_pass rfl ?_))
  refine aw_for [1, 3, 4] (fun s : Nat × AV => [(1, .ref H.length 6 0 0), (3, s.2), (4, .i s.1)])
    (fun s H' => s.1 ≤ 3 ∧ Ext H H' ∧ H'[H.length]? = some (some (ebk (epc e))) ∧ AccL (H.length + 1) H' s.2 (allK e s.1)) (fun s => 3 - s.1) (0, .p (.slice none 0 0)) (by rw [rstf_eq]; rfl) ⟨by simp, ho1.ext, hb1, AccE.nil _ _ _ _ _⟩ ?_
  rintro ⟨k, fa⟩ H3 ⟨hk, hx, hbx, ha⟩
  simp only at hk hx hbx ha
  have hxl := hx.1
  have hbl := (List.getElem?_eq_some_iff.1 hbx).1
  have hne : some H.length ≠ accId fa := fun h => by have := ha.up H.length h.symm; omega
  rcases (by omega : k = 0 ∨ k = 1 ∨ k = 2 ∨ k = 3) with rfl | rfl | rfl | rfl
  · (repeat' (first | (refine sq_id ?_; first | refine sq_nil ?_ | refine sm ?_ | refine sa ?_ | refine ss ?_ | refine st ?_ | refine sf ?_ | refine sp ?_ | refine sq ?_ | refine sl ?_ | refine si ?_ | refine sx ?_ | refine sy ?_ | refine sq_movek (v := fa) rfl rfl rfl ?_ | refine sq_assignk (v := fa) rfl rfl rfl ?_ | refine rg_movek (v := fa) rfl rfl rfl ?_ | refine rg_assignk (v := fa) rfl rfl rfl ?_) | (refine rg_id ?_; first | refine rg_fin ?_ | refine rm ?_ | refine ra ?_ | refine rs ?_ | refine rt ?_ | refine rf ?_ | refine rp ?_ | refine rq ?_ | refine rl ?_ | refine ri ?_ | refine rx ?_ | refine ry ?_ | refine sq_movek (v := fa) rfl rfl rfl ?_ | refine sq_assignk (v := fa) rfl rfl rfl ?_ | refine rg_movek (v := fa) rfl rfl rfl ?_ | refine rg_assignk (v := fa) rfl rfl rfl ?_) | refine aw_rseq ?_ | refine aw_seq ?_ | refine aw_region ?_ | refine aw_skip ?_ | refine ct ?_ | refine cf ?_ | refine d0s ?_ | refine d0r ?_ | refine aw_block ?_ | refine aw_exit ?_ | refine then_ret ?_ | refine then_exit ?_ | refine then_normal ?_ | refine blk_ret ?_ | refine blk_normal ?_ | refine blk_exit ?_ | refine blk_pass rfl ?_ | refine sq_movek (v := fa) rfl rfl rfl ?_ | refine sq_assignk (v := fa) rfl rfl rfl ?_ | refine rg_movek (v := fa) rfl rfl rfl ?_ | refine rg_assignk (v := fa) rfl rfl rfl ?_))
    refine sq_appe TYok TYz rfl rfl rfl rfl rfl rfl rfl (by decide) ha.low (.lst _ _ _ _) (by show (0 + e.l0.length) * 8 ≤ _; omega) (by show 0 + e.l0.length ≤ _; omega) fun fb H4 ha4 ho4 hn4 => ?_
    (repeat' (first | (refine sq_id ?_; first | refine sq_nil ?_ | refine sm ?_ | refine sa ?_ | refine ss ?_ | refine st ?_ | refine sf ?_ | refine sp ?_ | refine sq ?_ | refine sl ?_ | refine si ?_ | refine sx ?_ | refine sy ?_ | refine sq_movek (v := fb) rfl rfl rfl ?_ | refine sq_assignk (v := fb) rfl rfl rfl ?_ | refine rg_movek (v := fb) rfl rfl rfl ?_ | refine rg_assignk (v := fb) rfl rfl rfl ?_) | (refine rg_id ?_; first | refine rg_fin ?_ | refine rm ?_ | refine ra ?_ | refine rs ?_ | refine rt ?_ | refine rf ?_ | refine rp ?_ | refine rq ?_ | refine rl ?_ | refine ri ?_ | refine rx ?_ | refine ry ?_ | refine sq_movek (v := fb) rfl rfl rfl ?_ | refine sq_assignk (v := fb) rfl rfl rfl ?_ | refine rg_movek (v := fb) rfl rfl rfl ?_ | refine rg_assignk (v := fb) rfl rfl rfl ?_) | refine aw_rseq ?_ | refine aw_seq ?_ | refine aw_region ?_ | refine aw_skip ?_ | refine ct ?_ | refine cf ?_ | refine d0s ?_ | refine d0r ?_ | refine aw_block ?_ | refine aw_exit ?_ | refine then_ret ?_ | refine then_exit ?_ | refine then_normal ?_ | refine blk_ret ?_ | refine blk_normal ?_ | refine blk_exit ?_ | refine blk_pass rfl ?_ | refine sq_movek (v := fb) rfl rfl rfl ?_ | refine sq_assignk (v := fb) rfl rfl rfl ?_ | refine rg_movek (v := fb) rfl rfl rfl ?_ | refine rg_assignk (v := fb) rfl rfl rfl ?_))
    exact ⟨(1, fb), by rw [rstf_eq]; rfl, ⟨by simp, hx.oth ho4 (fun i hi => by have := ha.up i hi; omega), (ho4.2 _ hbl hne).trans hbx, ha.grow (AccE.app (a := []) ha4) hn4 (by omega)⟩, by simp⟩
  · (repeat' (first | (refine sq_id ?_; first | refine sq_nil ?_ | refine sm ?_ | refine sa ?_ | refine ss ?_ | refine st ?_ | refine sf ?_ | refine sp ?_ | refine sq ?_ | refine sl ?_ | refine si ?_ | refine sx ?_ | refine sy ?_ | refine sq_movek (v := fa) rfl rfl rfl ?_ | refine sq_assignk (v := fa) rfl rfl rfl ?_ | refine rg_movek (v := fa) rfl rfl rfl ?_ | refine rg_assignk (v := fa) rfl rfl rfl ?_) | (refine rg_id ?_; first | refine rg_fin ?_ | refine rm ?_ | refine ra ?_ | refine rs ?_ | refine rt ?_ | refine rf ?_ | refine rp ?_ | refine rq ?_ | refine rl ?_ | refine ri ?_ | refine rx ?_ | refine ry ?_ | refine sq_movek (v := fa) rfl rfl rfl ?_ | refine sq_assignk (v := fa) rfl rfl rfl ?_ | refine rg_movek (v := fa) rfl rfl rfl ?_ | refine rg_assignk (v := fa) rfl rfl rfl ?_) | refine aw_rseq ?_ | refine aw_seq ?_ | refine aw_region ?_ | refine aw_skip ?_ | refine ct ?_ | refine cf ?_ | refine d0s ?_ | refine d0r ?_ | refine aw_block ?_ | refine aw_exit ?_ | refine then_ret ?_ | refine then_exit ?_ | refine then_normal ?_ | refine blk_ret ?_ | refine blk_normal ?_ | refine blk_exit ?_ | refine blk_pass rfl ?_ | refine sq_movek (v := fa) rfl rfl rfl ?_ | refine sq_assignk (v := fa) rfl rfl rfl ?_ | refine rg_movek (v := fa) rfl rfl rfl ?_ | refine rg_assignk (v := fa) rfl rfl rfl ?_))
    refine sq_appe TYok TYz rfl rfl rfl rfl rfl rfl rfl (by decide) ha.low (.lst _ _ _ _) (by show (e.l0.length + e.l1.length) * 8 ≤ _; omega) (by show e.l0.length + e.l1.length ≤ _; omega) fun fb H4 ha4 ho4 hn4 => ?_
    (repeat' (first | (refine sq_id ?_; first | refine sq_nil ?_ | refine sm ?_ | refine sa ?_ | refine ss ?_ | refine st ?_ | refine sf ?_ | refine sp ?_ | refine sq ?_ | refine sl ?_ | refine si ?_ | refine sx ?_ | refine sy ?_ | refine sq_movek (v := fb) rfl rfl rfl ?_ | refine sq_assignk (v := fb) rfl rfl rfl ?_ | refine rg_movek (v := fb) rfl rfl rfl ?_ | refine rg_assignk (v := fb) rfl rfl rfl ?_) | (refine rg_id ?_; first | refine rg_fin ?_ | refine rm ?_ | refine ra ?_ | refine rs ?_ | refine rt ?_ | refine rf ?_ | refine rp ?_ | refine rq ?_ | refine rl ?_ | refine ri ?_ | refine rx ?_ | refine ry ?_ | refine sq_movek (v := fb) rfl rfl rfl ?_ | refine sq_assignk (v := fb) rfl rfl rfl ?_ | refine rg_movek (v := fb) rfl rfl rfl ?_ | refine rg_assignk (v := fb) rfl rfl rfl ?_) | refine aw_rseq ?_ | refine aw_seq ?_ | refine aw_region ?_ | refine aw_skip ?_ | refine ct ?_ | refine cf ?_ | refine d0s ?_ | refine d0r ?_ | refine aw_block ?_ | refine aw_exit ?_ | refine then_ret ?_ | refine then_exit ?_ | refine then_normal ?_ | refine blk_ret ?_ | refine blk_normal ?_ | refine blk_exit ?_ | refine blk_pass rfl ?_ | refine sq_movek (v := fb) rfl rfl rfl ?_ | refine sq_assignk (v := fb) rfl rfl rfl ?_ | refine rg_movek (v := fb) rfl rfl rfl ?_ | refine rg_assignk (v := fb) rfl rfl rfl ?_))
    exact ⟨(2, fb), by rw [rstf_eq]; rfl, ⟨by simp, hx.oth ho4 (fun i hi => by have := ha.up i hi; omega), (ho4.2 _ hbl hne).trans hbx, ha.grow ha4.app hn4 (by omega)⟩, by simp⟩
  · (repeat' (first | (refine sq_id ?_; first | refine sq_nil ?_ | refine sm ?_ | refine sa ?_ | refine ss ?_ | refine st ?_ | refine sf ?_ | refine sp ?_ | refine sq ?_ | refine sl ?_ | refine si ?_ | refine sx ?_ | refine sy ?_ | refine sq_movek (v := fa) rfl rfl rfl ?_ | refine sq_assignk (v := fa) rfl rfl rfl ?_ | refine rg_movek (v := fa) rfl rfl rfl ?_ | refine rg_assignk (v := fa) rfl rfl rfl ?_) | (refine rg_id ?_; first | refine rg_fin ?_ | refine rm ?_ | refine ra ?_ | refine rs ?_ | refine rt ?_ | refine rf ?_ | refine rp ?_ | refine rq ?_ | refine rl ?_ | refine ri ?_ | refine rx ?_ | refine ry ?_ | refine sq_movek (v := fa) rfl rfl rfl ?_ | refine sq_assignk (v := fa) rfl rfl rfl ?_ | refine rg_movek (v := fa) rfl rfl rfl ?_ | refine rg_assignk (v := fa) rfl rfl rfl ?_) | refine aw_rseq ?_ | refine aw_seq ?_ | refine aw_region ?_ | refine aw_skip ?_ | refine ct ?_ | refine cf ?_ | refine d0s ?_ | refine d0r ?_ | refine aw_block ?_ | refine aw_exit ?_ | refine then_ret ?_ | refine then_exit ?_ | refine then_normal ?_ | refine blk_ret ?_ | refine blk_normal ?_ | refine blk_exit ?_ | refine blk_pass rfl ?_ | refine sq_movek (v := fa) rfl rfl rfl ?_ | refine sq_assignk (v := fa) rfl rfl rfl ?_ | refine rg_movek (v := fa) rfl rfl rfl ?_ | refine rg_assignk (v := fa) rfl rfl rfl ?_))
    refine sq_appe TYok TYz rfl rfl rfl rfl rfl rfl rfl (by decide) ha.low (.lst _ _ _ _) (by show ((e.l0 ++ e.l1).length + e.l2.length) * 8 ≤ _; rw [List.length_append]; omega) (by show (e.l0 ++ e.l1).length + e.l2.length ≤ _; rw [List.length_append]; omega) fun fb H4 ha4 ho4 hn4 => ?_
    (repeat' (first | (refine sq_id ?_; first | refine sq_nil ?_ | refine sm ?_ | refine sa ?_ | refine ss ?_ | refine st ?_ | refine sf ?_ | refine sp ?_ | refine sq ?_ | refine sl ?_ | refine si ?_ | refine sx ?_ | refine sy ?_ | refine sq_movek (v := fb) rfl rfl rfl ?_ | refine sq_assignk (v := fb) rfl rfl rfl ?_ | refine rg_movek (v := fb) rfl rfl rfl ?_ | refine rg_assignk (v := fb) rfl rfl rfl ?_) | (refine rg_id ?_; first | refine rg_fin ?_ | refine rm ?_ | refine ra ?_ | refine rs ?_ | refine rt ?_ | refine rf ?_ | refine rp ?_ | refine rq ?_ | refine rl ?_ | refine ri ?_ | refine rx ?_ | refine ry ?_ | refine sq_movek (v := fb) rfl rfl rfl ?_ | refine sq_assignk (v := fb) rfl rfl rfl ?_ | refine rg_movek (v := fb) rfl rfl rfl ?_ | refine rg_assignk (v := fb) rfl rfl rfl ?_) | refine aw_rseq ?_ | refine aw_seq ?_ | refine aw_region ?_ | refine aw_skip ?_ | refine ct ?_ | refine cf ?_ | refine d0s ?_ | refine d0r ?_ | refine aw_block ?_ | refine aw_exit ?_ | refine then_ret ?_ | refine then_exit ?_ | refine then_normal ?_ | refine blk_ret ?_ | refine blk_normal ?_ | refine blk_exit ?_ | refine blk_pass rfl ?_ | refine sq_movek (v := fb) rfl rfl rfl ?_ | refine sq_assignk (v := fb) rfl rfl rfl ?_ | refine rg_movek (v := fb) rfl rfl rfl ?_ | refine rg_assignk (v := fb) rfl rfl rfl ?_))
    exact ⟨(3, fb), by rw [rstf_eq]; rfl, ⟨by simp, hx.oth ho4 (fun i hi => by have := ha.up i hi; omega), (ho4.2 _ hbl hne).trans hbx, ha.grow ha4.app hn4 (by omega)⟩, by simp⟩
  · (repeat' (first | (refine sq_id ?_; first | refine sq_nil ?_ | refine sm ?_ | refine sa ?_ | refine ss ?_ | refine st ?_ | refine sf ?_ | refine sp ?_ | refine sq ?_ | refine sl ?_ | refine si ?_ | refine sx ?_ | refine sy ?_ | refine sq_movek (v := fa) rfl rfl rfl ?_ | refine sq_assignk (v := fa) rfl rfl rfl ?_ | refine rg_movek (v := fa) rfl rfl rfl ?_ | refine rg_assignk (v := fa) rfl rfl rfl ?_) | (refine rg_id ?_; first | refine rg_fin ?_ | refine rm ?_ | refine ra ?_ | refine rs ?_ | refine rt ?_ | refine rf ?_ | refine rp ?_ | refine rq ?_ | refine rl ?_ | refine ri ?_ | refine rx ?_ | refine ry ?_ | refine sq_movek (v := fa) rfl rfl rfl ?_ | refine sq_assignk (v := fa) rfl rfl rfl ?_ | refine rg_movek (v := fa) rfl rfl rfl ?_ | refine rg_assignk (v := fa) rfl rfl rfl ?_) | refine aw_rseq ?_ | refine aw_seq ?_ | refine aw_region ?_ | refine aw_skip ?_ | refine ct ?_ | refine cf ?_ | refine d0s ?_ | refine d0r ?_ | refine aw_block ?_ | refine aw_exit ?_ | refine then_ret ?_ | refine then_exit ?_ | refine then_normal ?_ | refine blk_ret ?_ | refine blk_normal ?_ | refine blk_exit ?_ | refine blk_pass rfl ?_ | refine sq_movek (v := fa) rfl rfl rfl ?_ | refine sq_assignk (v := fa) rfl rfl rfl ?_ | refine rg_movek (v := fa) rfl rfl rfl ?_ | refine rg_assignk (v := fa) rfl rfl rfl ?_))
    refine sq_appe TYok TYz rfl rfl rfl rfl rfl rfl rfl (by decide) ha.low (.lst _ _ _ _) (by show ((e.l0 ++ e.l1 ++ e.l2).length + e.free.length) * 8 ≤ _; simp only [List.length_append]; omega) (by show (e.l0 ++ e.l1 ++ e.l2).length + e.free.length ≤ _; simp only [List.length_append]; omega) fun fb H4 ha4 ho4 hn4 => ?_
    (repeat' (first | (refine sq_id ?_; first | refine sq_nil ?_ | refine sm ?_ | refine sa ?_ | refine ss ?_ | refine st ?_ | refine sf ?_ | refine sp ?_ | refine sq ?_ | refine sl ?_ | refine si ?_ | refine sx ?_ | refine sy ?_ | refine sq_movek (v := fb) rfl rfl rfl ?_ | refine sq_assignk (v := fb) rfl rfl rfl ?_ | refine rg_movek (v := fb) rfl rfl rfl ?_ | refine rg_assignk (v := fb) rfl rfl rfl ?_) | (refine rg_id ?_; first | refine rg_fin ?_ | refine rm ?_ | refine ra ?_ | refine rs ?_ | refine rt ?_ | refine rf ?_ | refine rp ?_ | refine rq ?_ | refine rl ?_ | refine ri ?_ | refine rx ?_ | refine ry ?_ | refine sq_movek (v := fb) rfl rfl rfl ?_ | refine sq_assignk (v := fb) rfl rfl rfl ?_ | refine rg_movek (v := fb) rfl rfl rfl ?_ | refine rg_assignk (v := fb) rfl rfl rfl ?_) | refine aw_rseq ?_ | refine aw_seq ?_ | refine aw_region ?_ | refine aw_skip ?_ | refine ct ?_ | refine cf ?_ | refine d0s ?_ | refine d0r ?_ | refine aw_block ?_ | refine aw_exit ?_ | refine then_ret ?_ | refine then_exit ?_ | refine then_normal ?_ | refine blk_ret ?_ | refine blk_normal ?_ | refine blk_exit ?_ | refine blk_pass rfl ?_ | refine aw_dec rfl (fun _ => ?_) (fun _ => ?_) | refine sq_movek (v := fb) rfl rfl rfl ?_ | refine sq_assignk (v := fb) rfl rfl rfl ?_ | refine rg_movek (v := fb) rfl rfl rfl ?_ | refine rg_assignk (v := fb) rfl rfl rfl ?_))
    ((try refine aw_ret ?_); (repeat (first | refine then_ret ?_ | refine blk_ret ?_)); refine fin_k True.intro rfl ?_)
    exact ⟨hx.oth ho4 (fun i hi => by have := ha.up i hi; omega), ((ha.grow ha4.app hn4 (by omega)).down (by omega)).frz⟩
theorem rightE_all (e : Ep) : RightE e ↔ nodeP e.now ∧ (1 ≤ e.pins.length ∧ e.pins.length ≤ 64) ∧ (∀ p ∈ e.pins, pinP e.now p) ∧ (allL e).length ≤ 1000 ∧ (allL e).Nodup ∧ ∀ n ∈ allL e, nodeP n := by
  have hp := allL_perm e
  unfold RightE
  rw [hp.length_eq, hp.nodup_iff]
  have : (∀ n ∈ allL e, nodeP n) ↔ ∀ n ∈ nodesL e, nodeP n := ⟨fun h n hn => h n (hp.mem_iff.2 hn), fun h n hn => h n (hp.mem_iff.1 hn)⟩
  rw [this]
theorem take_nodup {l : List Int} {i : Nat} (hi : i < l.length) (h : (l.take i).Nodup) (hn : ∀ k, k < i → l.getD k 0 ≠ l.getD i 0) : (l.take (i + 1)).Nodup := by
  rw [List.take_add_one, List.getElem?_eq_getElem hi]
  refine List.nodup_append.2 ⟨h, by simp, fun a ha b hb => ?_⟩
  simp at hb
  subst hb
  obtain ⟨k, hk, rfl⟩ := List.mem_take_iff_getElem.1 ha
  have := hn k (by omega)
  rw [List.getD_eq_getElem?_getD, List.getD_eq_getElem?_getD, List.getElem?_eq_getElem (by omega), List.getElem?_eq_getElem hi] at this
  exact this
theorem not_nodup {l : List Int} {i k : Nat} (hi : i < l.length) (hk : k < i) (he : l.getD k 0 = l.getD i 0) : ¬ l.Nodup := fun h => by
  rw [List.getD_eq_getElem?_getD, List.getD_eq_getElem?_getD, List.getElem?_eq_getElem (by omega), List.getElem?_eq_getElem hi] at he
  exact (List.pairwise_iff_getElem.1 h) k i (by omega) hi hk he
set_option maxHeartbeats 4000000 in
theorem refright_s (e : Ep) (hbd : Bd e) : PS Try.prog 25 [epv e] (.b (decide (RightE e))) := by
  refine ps_in TYok Try.func25 (by kernel_rfl) Try.ntmps25 rfl rfl rfl (cl_b _) fun H => ?_
  have hA := refall_s e hbd
  have hRA := rightE_all e
  obtain ⟨hb1, hb2⟩ := hbd
  refine aw_seq ?_
  refine aw_region ?_
  refine nw fun H1 hb1 ho1 hl1 => ?_
  by_cases h1 : e.now < 0
  · rw [decide_eq_false (fun k : RightE e => by have := k.1.1; omega)]
    (repeat' (first | (refine sq_id ?_; first | refine sq_nil ?_ | refine sm ?_ | refine sa ?_ | refine ss ?_ | refine st ?_ | refine sf ?_ | refine sp ?_ | refine sq ?_ | refine sl ?_ | refine si ?_ | refine sx ?_ | refine sy ?_) | (refine rg_id ?_; first | refine rg_fin ?_ | refine rm ?_ | refine ra ?_ | refine rs ?_ | refine rt ?_ | refine rf ?_ | refine rp ?_ | refine rq ?_ | refine rl ?_ | refine ri ?_ | refine rx ?_ | refine ry ?_) | refine aw_rseq ?_ | refine aw_seq ?_ | refine aw_region ?_ | refine aw_skip ?_ | refine ct ?_ | refine cf ?_ | refine d0s ?_ | refine d0r ?_ | refine aw_block ?_ | refine aw_exit ?_ | refine then_ret ?_ | refine then_exit ?_ | refine then_normal ?_ | refine blk_ret ?_ | refine blk_normal ?_ | refine blk_exit ?_ | refine blk_pass rfl ?_))
    ((try refine aw_ret ?_); (repeat (first | refine then_ret ?_ | refine blk_ret ?_)); refine fin_t True.intro rfl rfl ?_)
    exact ⟨ho1.ext, rfl⟩
  by_cases h2 : 1099511627776 < e.now
  · rw [decide_eq_false (fun k : RightE e => by have := k.1.2; omega)]
    (repeat' (first | (refine sq_id ?_; first | refine sq_nil ?_ | refine sm ?_ | refine sa ?_ | refine ss ?_ | refine st ?_ | refine sf ?_ | refine sp ?_ | refine sq ?_ | refine sl ?_ | refine si ?_ | refine sx ?_ | refine sy ?_) | (refine rg_id ?_; first | refine rg_fin ?_ | refine rm ?_ | refine ra ?_ | refine rs ?_ | refine rt ?_ | refine rf ?_ | refine rp ?_ | refine rq ?_ | refine rl ?_ | refine ri ?_ | refine rx ?_ | refine ry ?_) | refine aw_rseq ?_ | refine aw_seq ?_ | refine aw_region ?_ | refine aw_skip ?_ | refine ct ?_ | refine cf ?_ | refine d0s ?_ | refine d0r ?_ | refine aw_block ?_ | refine aw_exit ?_ | refine then_ret ?_ | refine then_exit ?_ | refine then_normal ?_ | refine blk_ret ?_ | refine blk_normal ?_ | refine blk_exit ?_ | refine blk_pass rfl ?_))
    ((try refine aw_ret ?_); (repeat (first | refine then_ret ?_ | refine blk_ret ?_)); refine fin_t True.intro rfl rfl ?_)
    exact ⟨ho1.ext, rfl⟩
  by_cases h3 : e.pins.length < 1
  · rw [decide_eq_false (fun k : RightE e => by have := k.2.1.1; omega)]
    (repeat' (first | (refine sq_id ?_; first | refine sq_nil ?_ | refine sm ?_ | refine sa ?_ | refine ss ?_ | refine st ?_ | refine sf ?_ | refine sp ?_ | refine sq ?_ | refine sl ?_ | refine si ?_ | refine sx ?_ | refine sy ?_) | (refine rg_id ?_; first | refine rg_fin ?_ | refine rm ?_ | refine ra ?_ | refine rs ?_ | refine rt ?_ | refine rf ?_ | refine rp ?_ | refine rq ?_ | refine rl ?_ | refine ri ?_ | refine rx ?_ | refine ry ?_) | refine aw_rseq ?_ | refine aw_seq ?_ | refine aw_region ?_ | refine aw_skip ?_ | refine ct ?_ | refine cf ?_ | refine d0s ?_ | refine d0r ?_ | refine aw_block ?_ | refine aw_exit ?_ | refine then_ret ?_ | refine then_exit ?_ | refine then_normal ?_ | refine blk_ret ?_ | refine blk_normal ?_ | refine blk_exit ?_ | refine blk_pass rfl ?_))
    ((try refine aw_ret ?_); (repeat (first | refine then_ret ?_ | refine blk_ret ?_)); refine fin_t True.intro rfl rfl ?_)
    exact ⟨ho1.ext, rfl⟩
  by_cases h4 : 64 < e.pins.length
  · rw [decide_eq_false (fun k : RightE e => by have := k.2.1.2; omega)]
    (repeat' (first | (refine sq_id ?_; first | refine sq_nil ?_ | refine sm ?_ | refine sa ?_ | refine ss ?_ | refine st ?_ | refine sf ?_ | refine sp ?_ | refine sq ?_ | refine sl ?_ | refine si ?_ | refine sx ?_ | refine sy ?_) | (refine rg_id ?_; first | refine rg_fin ?_ | refine rm ?_ | refine ra ?_ | refine rs ?_ | refine rt ?_ | refine rf ?_ | refine rp ?_ | refine rq ?_ | refine rl ?_ | refine ri ?_ | refine rx ?_ | refine ry ?_) | refine aw_rseq ?_ | refine aw_seq ?_ | refine aw_region ?_ | refine aw_skip ?_ | refine ct ?_ | refine cf ?_ | refine d0s ?_ | refine d0r ?_ | refine aw_block ?_ | refine aw_exit ?_ | refine then_ret ?_ | refine then_exit ?_ | refine then_normal ?_ | refine blk_ret ?_ | refine blk_normal ?_ | refine blk_exit ?_ | refine blk_pass rfl ?_))
    ((try refine aw_ret ?_); (repeat (first | refine then_ret ?_ | refine blk_ret ?_)); refine fin_t True.intro rfl rfl ?_)
    exact ⟨ho1.ext, rfl⟩
  (repeat' (first | (refine sq_id ?_; first | refine sq_nil ?_ | refine sm ?_ | refine sa ?_ | refine ss ?_ | refine st ?_ | refine sf ?_ | refine sp ?_ | refine sq ?_ | refine sl ?_ | refine si ?_ | refine sx ?_ | refine sy ?_) | (refine rg_id ?_; first | refine rg_fin ?_ | refine rm ?_ | refine ra ?_ | refine rs ?_ | refine rt ?_ | refine rf ?_ | refine rp ?_ | refine rq ?_ | refine rl ?_ | refine ri ?_ | refine rx ?_ | refine ry ?_) | refine aw_rseq ?_ | refine aw_seq ?_ | refine aw_region ?_ | refine aw_skip ?_ | refine ct ?_ | refine cf ?_ | refine d0s ?_ | refine d0r ?_ | refine aw_block ?_ | refine aw_exit ?_ | refine then_ret ?_ | refine then_exit ?_ | refine then_normal ?_ | refine blk_ret ?_ | refine blk_normal ?_ | refine blk_exit ?_ | refine blk_pass rfl ?_))
  refine aw_for [1, 3] (fun k : Nat => [(1, .ref H.length 6 0 0), (3, .i k)]) (fun k H' => k ≤ e.pins.length ∧ H' = H1 ∧ ∀ p ∈ e.pins.take k, pinP e.now p) (fun k => e.pins.length - k) 0 (by rw [rstf_eq]; rfl) ⟨by omega, rfl, by simp⟩ ?_
  rintro k H2 ⟨hk, rfl, hall⟩
  by_cases hlt : k < e.pins.length
  · have hmem := mem_getD e.pins 0 k hlt
    have next : pinP e.now (e.pins.getD k 0) → ∀ p ∈ e.pins.take (k + 1), pinP e.now p := fun hp p hm => by
      rw [List.take_add_one, List.getElem?_eq_getElem hlt] at hm
      rcases List.mem_append.1 hm with h | h
      · exact hall p h
      · simp at h
        rw [h]
        rw [List.getD_eq_getElem?_getD, List.getElem?_eq_getElem hlt] at hp
        exact hp
    by_cases p1 : e.pins.getD k 0 = 0
    · have p1' : e.pins.getD (badd 0 k) 0 = 0 := p1
      (repeat' (first | (refine sq_id ?_; first | refine sq_nil ?_ | refine sm ?_ | refine sa ?_ | refine ss ?_ | refine st ?_ | refine sf ?_ | refine sp ?_ | refine sq ?_ | refine sl ?_ | refine si ?_ | refine sx ?_ | refine sy ?_) | (refine rg_id ?_; first | refine rg_fin ?_ | refine rm ?_ | refine ra ?_ | refine rs ?_ | refine rt ?_ | refine rf ?_ | refine rp ?_ | refine rq ?_ | refine rl ?_ | refine ri ?_ | refine rx ?_ | refine ry ?_) | refine aw_rseq ?_ | refine aw_seq ?_ | refine aw_region ?_ | refine aw_skip ?_ | refine ct ?_ | refine cf ?_ | refine d0s ?_ | refine d0r ?_ | refine aw_block ?_ | refine aw_exit ?_ | refine then_ret ?_ | refine then_exit ?_ | refine then_normal ?_ | refine blk_ret ?_ | refine blk_normal ?_ | refine blk_exit ?_ | refine blk_pass rfl ?_))
      exact ⟨k + 1, by rw [rstf_eq]; rfl, ⟨by omega, rfl, next (.inl p1)⟩, by omega⟩
    have p1' : ¬ e.pins.getD (badd 0 k) 0 = 0 := p1
    by_cases p2 : e.pins.getD k 0 = e.now
    · have p2' : e.pins.getD (badd 0 k) 0 = e.now := p2
      (repeat' (first | (refine sq_id ?_; first | refine sq_nil ?_ | refine sm ?_ | refine sa ?_ | refine ss ?_ | refine st ?_ | refine sf ?_ | refine sp ?_ | refine sq ?_ | refine sl ?_ | refine si ?_ | refine sx ?_ | refine sy ?_) | (refine rg_id ?_; first | refine rg_fin ?_ | refine rm ?_ | refine ra ?_ | refine rs ?_ | refine rt ?_ | refine rf ?_ | refine rp ?_ | refine rq ?_ | refine rl ?_ | refine ri ?_ | refine rx ?_ | refine ry ?_) | refine aw_rseq ?_ | refine aw_seq ?_ | refine aw_region ?_ | refine aw_skip ?_ | refine ct ?_ | refine cf ?_ | refine d0s ?_ | refine d0r ?_ | refine aw_block ?_ | refine aw_exit ?_ | refine then_ret ?_ | refine then_exit ?_ | refine then_normal ?_ | refine blk_ret ?_ | refine blk_normal ?_ | refine blk_exit ?_ | refine blk_pass rfl ?_))
      exact ⟨k + 1, by rw [rstf_eq]; rfl, ⟨by omega, rfl, next (.inr (.inl p2))⟩, by omega⟩
    have p2' : ¬ e.pins.getD (badd 0 k) 0 = e.now := p2
    by_cases p3 : e.pins.getD k 0 = e.now + 1
    · have p3' : e.pins.getD (badd 0 k) 0 = e.now + 1 := p3
      (repeat' (first | (refine sq_id ?_; first | refine sq_nil ?_ | refine sm ?_ | refine sa ?_ | refine ss ?_ | refine st ?_ | refine sf ?_ | refine sp ?_ | refine sq ?_ | refine sl ?_ | refine si ?_ | refine sx ?_ | refine sy ?_) | (refine rg_id ?_; first | refine rg_fin ?_ | refine rm ?_ | refine ra ?_ | refine rs ?_ | refine rt ?_ | refine rf ?_ | refine rp ?_ | refine rq ?_ | refine rl ?_ | refine ri ?_ | refine rx ?_ | refine ry ?_) | refine aw_rseq ?_ | refine aw_seq ?_ | refine aw_region ?_ | refine aw_skip ?_ | refine ct ?_ | refine cf ?_ | refine d0s ?_ | refine d0r ?_ | refine aw_block ?_ | refine aw_exit ?_ | refine then_ret ?_ | refine then_exit ?_ | refine then_normal ?_ | refine blk_ret ?_ | refine blk_normal ?_ | refine blk_exit ?_ | refine blk_pass rfl ?_))
      exact ⟨k + 1, by rw [rstf_eq]; rfl, ⟨by omega, rfl, next (.inr (.inr p3))⟩, by omega⟩
    have p3' : ¬ e.pins.getD (badd 0 k) 0 = e.now + 1 := p3
    rw [decide_eq_false (fun r : RightE e => by have := r.2.2.1 _ hmem; rcases this with h | h | h; exact p1 h; exact p2 h; exact p3 h)]
    (repeat' (first | (refine sq_id ?_; first | refine sq_nil ?_ | refine sm ?_ | refine sa ?_ | refine ss ?_ | refine st ?_ | refine sf ?_ | refine sp ?_ | refine sq ?_ | refine sl ?_ | refine si ?_ | refine sx ?_ | refine sy ?_) | (refine rg_id ?_; first | refine rg_fin ?_ | refine rm ?_ | refine ra ?_ | refine rs ?_ | refine rt ?_ | refine rf ?_ | refine rp ?_ | refine rq ?_ | refine rl ?_ | refine ri ?_ | refine rx ?_ | refine ry ?_) | refine aw_rseq ?_ | refine aw_seq ?_ | refine aw_region ?_ | refine aw_skip ?_ | refine ct ?_ | refine cf ?_ | refine d0s ?_ | refine d0r ?_ | refine aw_block ?_ | refine aw_exit ?_ | refine then_ret ?_ | refine then_exit ?_ | refine then_normal ?_ | refine blk_ret ?_ | refine blk_normal ?_ | refine blk_exit ?_ | refine blk_pass rfl ?_))
    ((try refine aw_ret ?_); (repeat (first | refine then_ret ?_ | refine blk_ret ?_)); refine fin_t True.intro rfl rfl ?_)
    exact ⟨ho1.ext, rfl⟩
  · rw [List.take_of_length_le (by omega)] at hall
    have hL : (allL e).length = e.l0.length + e.l1.length + e.l2.length + e.free.length := by
      show (e.l0 ++ e.l1 ++ e.l2 ++ e.free).length = _
      simp only [List.length_append]
    have hR : RightE e ↔ (allL e).length ≤ 1000 ∧ (allL e).Nodup ∧ ∀ n ∈ allL e, nodeP n := hRA.trans ⟨fun r => r.2.2.2, fun r => ⟨⟨by omega, by omega⟩, ⟨by omega, by omega⟩, hall, r⟩⟩
    generalize allL e = L at *
    by_cases h10 : 1000 < L.length
    · rw [decide_eq_false (fun r => by have := (hR.1 r).1; omega)]
      (repeat' (first | (refine sq_id ?_; first | refine sq_nil ?_ | refine sm ?_ | refine sa ?_ | refine ss ?_ | refine st ?_ | refine sf ?_ | refine sp ?_ | refine sq ?_ | refine sl ?_ | refine si ?_ | refine sx ?_ | refine sy ?_ | refine sc hA ?_) | (refine rg_id ?_; first | refine rg_fin ?_ | refine rm ?_ | refine ra ?_ | refine rs ?_ | refine rt ?_ | refine rf ?_ | refine rp ?_ | refine rq ?_ | refine rl ?_ | refine ri ?_ | refine rx ?_ | refine ry ?_ | refine sc hA ?_) | refine aw_rseq ?_ | refine aw_seq ?_ | refine aw_region ?_ | refine aw_skip ?_ | refine ct ?_ | refine cf ?_ | refine d0s ?_ | refine d0r ?_ | refine aw_block ?_ | refine aw_exit ?_ | refine then_ret ?_ | refine then_exit ?_ | refine then_normal ?_ | refine blk_ret ?_ | refine blk_normal ?_ | refine blk_exit ?_ | refine blk_pass rfl ?_ | refine sc hA ?_))
      ((try refine aw_ret ?_); (repeat (first | refine then_ret ?_ | refine blk_ret ?_)); refine fin_t True.intro rfl rfl ?_)
      exact ⟨ho1.ext, rfl⟩
    (repeat' (first | (refine sq_id ?_; first | refine sq_nil ?_ | refine sm ?_ | refine sa ?_ | refine ss ?_ | refine st ?_ | refine sf ?_ | refine sp ?_ | refine sq ?_ | refine sl ?_ | refine si ?_ | refine sx ?_ | refine sy ?_ | refine sc hA ?_) | (refine rg_id ?_; first | refine rg_fin ?_ | refine rm ?_ | refine ra ?_ | refine rs ?_ | refine rt ?_ | refine rf ?_ | refine rp ?_ | refine rq ?_ | refine rl ?_ | refine ri ?_ | refine rx ?_ | refine ry ?_ | refine sc hA ?_) | refine aw_rseq ?_ | refine aw_seq ?_ | refine aw_region ?_ | refine aw_skip ?_ | refine ct ?_ | refine cf ?_ | refine d0s ?_ | refine d0r ?_ | refine aw_block ?_ | refine aw_exit ?_ | refine then_ret ?_ | refine then_exit ?_ | refine then_normal ?_ | refine blk_ret ?_ | refine blk_normal ?_ | refine blk_exit ?_ | refine blk_pass rfl ?_ | refine sc hA ?_))
    refine aw_for [1, 5, 6] (fun i : Nat => [(1, .ref H.length 6 0 0), (5, ints L), (6, .i i)]) (fun i H' => i ≤ L.length ∧ H' = H2 ∧ (∀ n ∈ L.take i, nodeP n) ∧ (L.take i).Nodup) (fun i => L.length - i) 0 (by rw [rstf_eq]; rfl) ⟨by omega, rfl, by simp, by simp⟩ ?_
    rintro i H3 ⟨hi, rfl, hnp, hnd⟩
    by_cases hil : i < L.length
    · have hn := refnode_s (L.getD i 0)
      have hmi := mem_getD L 0 i hil
      by_cases hp : nodeP (L.getD i 0)
      · rw [decide_eq_true hp] at hn
        (repeat' (first | (refine sq_id ?_; first | refine sq_nil ?_ | refine sm ?_ | refine sa ?_ | refine ss ?_ | refine st ?_ | refine sf ?_ | refine sp ?_ | refine sq ?_ | refine sl ?_ | refine si ?_ | refine sx ?_ | refine sy ?_ | refine sc hn ?_) | (refine rg_id ?_; first | refine rg_fin ?_ | refine rm ?_ | refine ra ?_ | refine rs ?_ | refine rt ?_ | refine rf ?_ | refine rp ?_ | refine rq ?_ | refine rl ?_ | refine ri ?_ | refine rx ?_ | refine ry ?_ | refine sc hn ?_) | refine aw_rseq ?_ | refine aw_seq ?_ | refine aw_region ?_ | refine aw_skip ?_ | refine ct ?_ | refine cf ?_ | refine d0s ?_ | refine d0r ?_ | refine aw_block ?_ | refine aw_exit ?_ | refine then_ret ?_ | refine then_exit ?_ | refine then_normal ?_ | refine blk_ret ?_ | refine blk_normal ?_ | refine blk_exit ?_ | refine blk_pass rfl ?_ | refine sc hn ?_))
        refine aw_for [1, 5, 6, 7] (fun k : Nat => [(1, .ref H.length 6 0 0), (5, ints L), (6, .i i), (7, .i k)]) (fun k H' => k ≤ i ∧ H' = H3 ∧ ∀ j, j < k → L.getD j 0 ≠ L.getD i 0) (fun k => i - k) 0 (by rw [rstf_eq]; rfl) ⟨by omega, rfl, fun j hj => by omega⟩ ?_
        rintro k2 H4 ⟨hk2, rfl, hne⟩
        by_cases hlt2 : k2 < i
        · by_cases he : L.getD k2 0 = L.getD i 0
          · have he' : L.getD (badd 0 k2) 0 = L.getD (badd 0 i) 0 := he
            have hk2l : k2 < L.length := by omega
            rw [decide_eq_false (fun r => not_nodup hil hlt2 he (hR.1 r).2.1)]
            (repeat' (first | (refine sq_id ?_; first | refine sq_nil ?_ | refine sm ?_ | refine sa ?_ | refine ss ?_ | refine st ?_ | refine sf ?_ | refine sp ?_ | refine sq ?_ | refine sl ?_ | refine si ?_ | refine sx ?_ | refine sy ?_) | (refine rg_id ?_; first | refine rg_fin ?_ | refine rm ?_ | refine ra ?_ | refine rs ?_ | refine rt ?_ | refine rf ?_ | refine rp ?_ | refine rq ?_ | refine rl ?_ | refine ri ?_ | refine rx ?_ | refine ry ?_) | refine aw_rseq ?_ | refine aw_seq ?_ | refine aw_region ?_ | refine aw_skip ?_ | refine ct ?_ | refine cf ?_ | refine d0s ?_ | refine d0r ?_ | refine aw_block ?_ | refine aw_exit ?_ | refine then_ret ?_ | refine then_exit ?_ | refine then_normal ?_ | refine blk_ret ?_ | refine blk_normal ?_ | refine blk_exit ?_ | refine blk_pass rfl ?_))
            ((try refine aw_ret ?_); (repeat (first | refine then_ret ?_ | refine blk_ret ?_)); refine fin_t True.intro rfl rfl ?_)
            exact ⟨by rw [List.append_nil]; exact ho1.ext, rfl⟩
          · have he' : ¬ L.getD (badd 0 k2) 0 = L.getD (badd 0 i) 0 := he
            have hk2l : k2 < L.length := by omega
            (repeat' (first | (refine sq_id ?_; first | refine sq_nil ?_ | refine sm ?_ | refine sa ?_ | refine ss ?_ | refine st ?_ | refine sf ?_ | refine sp ?_ | refine sq ?_ | refine sl ?_ | refine si ?_ | refine sx ?_ | refine sy ?_) | (refine rg_id ?_; first | refine rg_fin ?_ | refine rm ?_ | refine ra ?_ | refine rs ?_ | refine rt ?_ | refine rf ?_ | refine rp ?_ | refine rq ?_ | refine rl ?_ | refine ri ?_ | refine rx ?_ | refine ry ?_) | refine aw_rseq ?_ | refine aw_seq ?_ | refine aw_region ?_ | refine aw_skip ?_ | refine ct ?_ | refine cf ?_ | refine d0s ?_ | refine d0r ?_ | refine aw_block ?_ | refine aw_exit ?_ | refine then_ret ?_ | refine then_exit ?_ | refine then_normal ?_ | refine blk_ret ?_ | refine blk_normal ?_ | refine blk_exit ?_ | refine blk_pass rfl ?_))
            exact ⟨k2 + 1, by rw [rstf_eq]; rfl, ⟨by omega, by rw [List.append_nil], fun j hj => by
              by_cases h : j < k2
              · exact hne j h
              · have : j = k2 := by omega
                subst this; exact he⟩, by omega⟩
        · have hki : k2 = i := by omega
          subst hki
          (repeat' (first | (refine sq_id ?_; first | refine sq_nil ?_ | refine sm ?_ | refine sa ?_ | refine ss ?_ | refine st ?_ | refine sf ?_ | refine sp ?_ | refine sq ?_ | refine sl ?_ | refine si ?_ | refine sx ?_ | refine sy ?_) | (refine rg_id ?_; first | refine rg_fin ?_ | refine rm ?_ | refine ra ?_ | refine rs ?_ | refine rt ?_ | refine rf ?_ | refine rp ?_ | refine rq ?_ | refine rl ?_ | refine ri ?_ | refine rx ?_ | refine ry ?_) | refine aw_rseq ?_ | refine aw_seq ?_ | refine aw_region ?_ | refine aw_skip ?_ | refine ct ?_ | refine cf ?_ | refine d0s ?_ | refine d0r ?_ | refine aw_block ?_ | refine aw_exit ?_ | refine then_ret ?_ | refine then_exit ?_ | refine then_normal ?_ | refine blk_ret ?_ | refine blk_normal ?_ | refine blk_exit ?_ | refine blk_pass rfl ?_))
          exact ⟨k2 + 1, by rw [rstf_eq]; rfl, ⟨by omega, rfl, fun n hm => by
            rw [List.take_add_one, List.getElem?_eq_getElem hil] at hm
            rcases List.mem_append.1 hm with h | h
            · exact hnp n h
            · simp at h
              rw [h]
              rw [List.getD_eq_getElem?_getD, List.getElem?_eq_getElem hil] at hp
              exact hp, take_nodup hil hnd hne⟩, by omega⟩
      · rw [decide_eq_false hp] at hn
        rw [decide_eq_false (fun r => hp ((hR.1 r).2.2 _ hmi))]
        (repeat' (first | (refine sq_id ?_; first | refine sq_nil ?_ | refine sm ?_ | refine sa ?_ | refine ss ?_ | refine st ?_ | refine sf ?_ | refine sp ?_ | refine sq ?_ | refine sl ?_ | refine si ?_ | refine sx ?_ | refine sy ?_ | refine sc hn ?_) | (refine rg_id ?_; first | refine rg_fin ?_ | refine rm ?_ | refine ra ?_ | refine rs ?_ | refine rt ?_ | refine rf ?_ | refine rp ?_ | refine rq ?_ | refine rl ?_ | refine ri ?_ | refine rx ?_ | refine ry ?_ | refine sc hn ?_) | refine aw_rseq ?_ | refine aw_seq ?_ | refine aw_region ?_ | refine aw_skip ?_ | refine ct ?_ | refine cf ?_ | refine d0s ?_ | refine d0r ?_ | refine aw_block ?_ | refine aw_exit ?_ | refine then_ret ?_ | refine then_exit ?_ | refine then_normal ?_ | refine blk_ret ?_ | refine blk_normal ?_ | refine blk_exit ?_ | refine blk_pass rfl ?_ | refine sc hn ?_))
        ((try refine aw_ret ?_); (repeat (first | refine then_ret ?_ | refine blk_ret ?_)); refine fin_t True.intro rfl rfl ?_)
        exact ⟨ho1.ext, rfl⟩
    · rw [List.take_of_length_le (by omega)] at hnp hnd
      rw [decide_eq_true (hR.2 ⟨by omega, hnd, hnp⟩)]
      (repeat' (first | (refine sq_id ?_; first | refine sq_nil ?_ | refine sm ?_ | refine sa ?_ | refine ss ?_ | refine st ?_ | refine sf ?_ | refine sp ?_ | refine sq ?_ | refine sl ?_ | refine si ?_ | refine sx ?_ | refine sy ?_) | (refine rg_id ?_; first | refine rg_fin ?_ | refine rm ?_ | refine ra ?_ | refine rs ?_ | refine rt ?_ | refine rf ?_ | refine rp ?_ | refine rq ?_ | refine rl ?_ | refine ri ?_ | refine rx ?_ | refine ry ?_) | refine aw_rseq ?_ | refine aw_seq ?_ | refine aw_region ?_ | refine aw_skip ?_ | refine ct ?_ | refine cf ?_ | refine d0s ?_ | refine d0r ?_ | refine aw_block ?_ | refine aw_exit ?_ | refine then_ret ?_ | refine then_exit ?_ | refine then_normal ?_ | refine blk_ret ?_ | refine blk_normal ?_ | refine blk_exit ?_ | refine blk_pass rfl ?_))
      ((try refine aw_ret ?_); (repeat (first | refine then_ret ?_ | refine blk_ret ?_)); refine fin_t True.intro rfl rfl ?_)
      exact ⟨ho1.ext, rfl⟩
theorem wrong_s (e : Ep) (hbd : Bd e) (i : Int) : PS Try.prog 31 [epv e, .i i] (.b (!decide (RightE e ∧ 0 ≤ i ∧ i < e.pins.length))) := by
  refine ps_in TYok Try.func31 (by kernel_rfl) Try.ntmps31 rfl rfl rfl (cl_b _) fun H => ?_
  have hR := refright_s e hbd
  refine aw_seq ?_
  refine aw_region ?_
  refine nw fun H1 hb1 ho1 hl1 => ?_
  by_cases h1 : RightE e
  · rw [decide_eq_true h1] at hR
    by_cases h2 : 0 ≤ i
    · by_cases h3 : i < e.pins.length
      · rw [decide_eq_true ⟨h1, h2, h3⟩]
        (repeat' (first | (refine sq_id ?_; first | refine sq_nil ?_ | refine sm ?_ | refine sa ?_ | refine ss ?_ | refine st ?_ | refine sf ?_ | refine sp ?_ | refine sq ?_ | refine sl ?_ | refine si ?_ | refine sx ?_ | refine sy ?_ | refine sc hR ?_) | (refine rg_id ?_; first | refine rg_fin ?_ | refine rm ?_ | refine ra ?_ | refine rs ?_ | refine rt ?_ | refine rf ?_ | refine rp ?_ | refine rq ?_ | refine rl ?_ | refine ri ?_ | refine rx ?_ | refine ry ?_ | refine sc hR ?_) | refine aw_rseq ?_ | refine aw_seq ?_ | refine aw_region ?_ | refine aw_skip ?_ | refine ct ?_ | refine cf ?_ | refine d0s ?_ | refine d0r ?_ | refine aw_block ?_ | refine aw_exit ?_ | refine then_ret ?_ | refine then_exit ?_ | refine then_normal ?_ | refine blk_ret ?_ | refine blk_normal ?_ | refine blk_exit ?_ | refine blk_pass rfl ?_ | refine sc hR ?_))
        ((try refine aw_ret ?_); (repeat (first | refine then_ret ?_ | refine blk_ret ?_)); refine fin_t True.intro rfl rfl ?_)
        exact ⟨ho1.ext, rfl⟩
      · rw [decide_eq_false (fun k => h3 k.2.2)]
        (repeat' (first | (refine sq_id ?_; first | refine sq_nil ?_ | refine sm ?_ | refine sa ?_ | refine ss ?_ | refine st ?_ | refine sf ?_ | refine sp ?_ | refine sq ?_ | refine sl ?_ | refine si ?_ | refine sx ?_ | refine sy ?_ | refine sc hR ?_) | (refine rg_id ?_; first | refine rg_fin ?_ | refine rm ?_ | refine ra ?_ | refine rs ?_ | refine rt ?_ | refine rf ?_ | refine rp ?_ | refine rq ?_ | refine rl ?_ | refine ri ?_ | refine rx ?_ | refine ry ?_ | refine sc hR ?_) | refine aw_rseq ?_ | refine aw_seq ?_ | refine aw_region ?_ | refine aw_skip ?_ | refine ct ?_ | refine cf ?_ | refine d0s ?_ | refine d0r ?_ | refine aw_block ?_ | refine aw_exit ?_ | refine then_ret ?_ | refine then_exit ?_ | refine then_normal ?_ | refine blk_ret ?_ | refine blk_normal ?_ | refine blk_exit ?_ | refine blk_pass rfl ?_ | refine sc hR ?_))
        ((try refine aw_ret ?_); (repeat (first | refine then_ret ?_ | refine blk_ret ?_)); refine fin_t True.intro rfl rfl ?_)
        exact ⟨ho1.ext, rfl⟩
    · rw [decide_eq_false (fun k => h2 k.2.1)]
      (repeat' (first | (refine sq_id ?_; first | refine sq_nil ?_ | refine sm ?_ | refine sa ?_ | refine ss ?_ | refine st ?_ | refine sf ?_ | refine sp ?_ | refine sq ?_ | refine sl ?_ | refine si ?_ | refine sx ?_ | refine sy ?_ | refine sc hR ?_) | (refine rg_id ?_; first | refine rg_fin ?_ | refine rm ?_ | refine ra ?_ | refine rs ?_ | refine rt ?_ | refine rf ?_ | refine rp ?_ | refine rq ?_ | refine rl ?_ | refine ri ?_ | refine rx ?_ | refine ry ?_ | refine sc hR ?_) | refine aw_rseq ?_ | refine aw_seq ?_ | refine aw_region ?_ | refine aw_skip ?_ | refine ct ?_ | refine cf ?_ | refine d0s ?_ | refine d0r ?_ | refine aw_block ?_ | refine aw_exit ?_ | refine then_ret ?_ | refine then_exit ?_ | refine then_normal ?_ | refine blk_ret ?_ | refine blk_normal ?_ | refine blk_exit ?_ | refine blk_pass rfl ?_ | refine sc hR ?_))
      ((try refine aw_ret ?_); (repeat (first | refine then_ret ?_ | refine blk_ret ?_)); refine fin_t True.intro rfl rfl ?_)
      exact ⟨ho1.ext, rfl⟩
  · rw [decide_eq_false h1] at hR
    rw [decide_eq_false (fun k => h1 k.1)]
    (repeat' (first | (refine sq_id ?_; first | refine sq_nil ?_ | refine sm ?_ | refine sa ?_ | refine ss ?_ | refine st ?_ | refine sf ?_ | refine sp ?_ | refine sq ?_ | refine sl ?_ | refine si ?_ | refine sx ?_ | refine sy ?_ | refine sc hR ?_) | (refine rg_id ?_; first | refine rg_fin ?_ | refine rm ?_ | refine ra ?_ | refine rs ?_ | refine rt ?_ | refine rf ?_ | refine rp ?_ | refine rq ?_ | refine rl ?_ | refine ri ?_ | refine rx ?_ | refine ry ?_ | refine sc hR ?_) | refine aw_rseq ?_ | refine aw_seq ?_ | refine aw_region ?_ | refine aw_skip ?_ | refine ct ?_ | refine cf ?_ | refine d0s ?_ | refine d0r ?_ | refine aw_block ?_ | refine aw_exit ?_ | refine then_ret ?_ | refine then_exit ?_ | refine then_normal ?_ | refine blk_ret ?_ | refine blk_normal ?_ | refine blk_exit ?_ | refine blk_pass rfl ?_ | refine sc hR ?_))
    ((try refine aw_ret ?_); (repeat (first | refine then_ret ?_ | refine blk_ret ?_)); refine fin_t True.intro rfl rfl ?_)
    exact ⟨ho1.ext, rfl⟩
end Go.Proofs.Ytmhepmocnnlhnaa.Ab
