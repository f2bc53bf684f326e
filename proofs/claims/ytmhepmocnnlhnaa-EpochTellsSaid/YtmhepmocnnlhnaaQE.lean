/- Epochs: the words; epoch.node, epoch.nodes, epoch.New. -/
import Derived.Test.YtmhepmocnnlhnaaQD
namespace Go.Proofs.Ytmhepmocnnlhnaa.Ab
open Go Go.RowKit
structure Ep where
  now : Int
  pins : List Int
  l0 : List Int
  l1 : List Int
  l2 : List Int
  free : List Int
abbrev epc (e : Ep) : List AV := [.i e.now, ints e.pins, ints e.l0, ints e.l1, ints e.l2, ints e.free]
abbrev epv (e : Ep) : AV := .agg (epc e)
abbrev ebk (cs : List AV) : Blk := ⟨26, 6, 1, fun _ => cs⟩
theorem cl_epc (e : Ep) : ∀ x ∈ epc e, Cl x := fun x hx => by
  simp only [epc, List.mem_cons, List.not_mem_nil, or_false] at hx
  rcases hx with rfl | rfl | rfl | rfl | rfl | rfl
  · exact .p _
  all_goals exact cl_ints _
theorem cl_epv (e : Ep) : Cl (epv e) := .agg _ (cl_epc e)
/-- lists that are small enough -/
def Bd (e : Ep) : Prop := e.pins.length ≤ 100 ∧ e.l0.length + e.l1.length + e.l2.length + e.free.length ≤ 1100
def nodeP (n : Int) : Prop := 0 ≤ n ∧ n ≤ 1099511627776
instance (n : Int) : Decidable (nodeP n) := by unfold nodeP; infer_instance
theorem node_s (n : Int) : PS Try.prog 35 [.i n] (.b (decide (nodeP n))) := by
  refine ps_in TYok Try.func35 (by kernel_rfl) Try.ntmps35 rfl rfl rfl (cl_b _) fun H => ?_
  by_cases h : 0 ≤ n
  · by_cases h2 : n ≤ 1099511627776
    · rw [decide_eq_true (show nodeP n from ⟨h, h2⟩)]
      (repeat' (first | (refine sq_id ?_; first | refine sq_nil ?_ | refine sm ?_ | refine sa ?_ | refine ss ?_ | refine st ?_ | refine sf ?_ | refine sp ?_ | refine sq ?_ | refine sl ?_ | refine si ?_ | refine sx ?_ | refine sy ?_) | (refine rg_id ?_; first | refine rg_fin ?_ | refine rm ?_ | refine ra ?_ | refine rs ?_ | refine rt ?_ | refine rf ?_ | refine rp ?_ | refine rq ?_ | refine rl ?_ | refine ri ?_ | refine rx ?_ | refine ry ?_) | refine aw_rseq ?_ | refine aw_seq ?_ | refine aw_region ?_ | refine aw_skip ?_ | refine ct ?_ | refine cf ?_ | refine d0s ?_ | refine d0r ?_ | refine aw_block ?_ | refine aw_exit ?_ | refine then_ret ?_ | refine then_exit ?_ | refine then_normal ?_ | refine blk_ret ?_ | refine blk_normal ?_ | refine blk_exit ?_ | refine blk_pass rfl ?_))
      ((try refine aw_ret ?_); (repeat (first | refine then_ret ?_ | refine blk_ret ?_)); refine fin_t True.intro rfl rfl ?_)
      exact ⟨.refl _, rfl⟩
    · rw [decide_eq_false (show ¬ nodeP n from fun k => h2 k.2)]
      (repeat' (first | (refine sq_id ?_; first | refine sq_nil ?_ | refine sm ?_ | refine sa ?_ | refine ss ?_ | refine st ?_ | refine sf ?_ | refine sp ?_ | refine sq ?_ | refine sl ?_ | refine si ?_ | refine sx ?_ | refine sy ?_) | (refine rg_id ?_; first | refine rg_fin ?_ | refine rm ?_ | refine ra ?_ | refine rs ?_ | refine rt ?_ | refine rf ?_ | refine rp ?_ | refine rq ?_ | refine rl ?_ | refine ri ?_ | refine rx ?_ | refine ry ?_) | refine aw_rseq ?_ | refine aw_seq ?_ | refine aw_region ?_ | refine aw_skip ?_ | refine ct ?_ | refine cf ?_ | refine d0s ?_ | refine d0r ?_ | refine aw_block ?_ | refine aw_exit ?_ | refine then_ret ?_ | refine then_exit ?_ | refine then_normal ?_ | refine blk_ret ?_ | refine blk_normal ?_ | refine blk_exit ?_ | refine blk_pass rfl ?_))
      ((try refine aw_ret ?_); (repeat (first | refine then_ret ?_ | refine blk_ret ?_)); refine fin_t True.intro rfl rfl ?_)
      exact ⟨.refl _, rfl⟩
  · rw [decide_eq_false (show ¬ nodeP n from fun k => h k.1)]
    (repeat' (first | (refine sq_id ?_; first | refine sq_nil ?_ | refine sm ?_ | refine sa ?_ | refine ss ?_ | refine st ?_ | refine sf ?_ | refine sp ?_ | refine sq ?_ | refine sl ?_ | refine si ?_ | refine sx ?_ | refine sy ?_) | (refine rg_id ?_; first | refine rg_fin ?_ | refine rm ?_ | refine ra ?_ | refine rs ?_ | refine rt ?_ | refine rf ?_ | refine rp ?_ | refine rq ?_ | refine rl ?_ | refine ri ?_ | refine rx ?_ | refine ry ?_) | refine aw_rseq ?_ | refine aw_seq ?_ | refine aw_region ?_ | refine aw_skip ?_ | refine ct ?_ | refine cf ?_ | refine d0s ?_ | refine d0r ?_ | refine aw_block ?_ | refine aw_exit ?_ | refine then_ret ?_ | refine then_exit ?_ | refine then_normal ?_ | refine blk_ret ?_ | refine blk_normal ?_ | refine blk_exit ?_ | refine blk_pass rfl ?_))
    ((try refine aw_ret ?_); (repeat (first | refine then_ret ?_ | refine blk_ret ?_)); refine fin_t True.intro rfl rfl ?_)
    exact ⟨.refl _, rfl⟩
def nodesK (e : Ep) : Nat → List Int
  | 0 => e.free
  | 1 => e.free ++ e.l0
  | 2 => e.free ++ e.l0 ++ e.l1
  | _ => e.free ++ e.l0 ++ e.l1 ++ e.l2
abbrev nodesL (e : Ep) : List Int := nodesK e 3
theorem nodesL_len (e : Ep) : (nodesL e).length = e.free.length + e.l0.length + e.l1.length + e.l2.length := by
  show (e.free ++ e.l0 ++ e.l1 ++ e.l2).length = _
  simp only [List.length_append]
theorem app_cell (a b : List Int) (j : Nat) : (if j < a.length then [AV.i (a.getD j 0)] else [AV.i (b.getD (j - a.length) 0)]) = [AV.i ((a ++ b).getD j 0)] := by
  by_cases h : j < a.length
  · rw [if_pos h, List.getD_eq_getElem?_getD, List.getD_eq_getElem?_getD, List.getElem?_append_left h]
  · rw [if_neg h, List.getD_eq_getElem?_getD, List.getD_eq_getElem?_getD, List.getElem?_append_right (by omega)]
abbrev AccL (k0 : Nat) (H : AH) (v : AV) (xs : List Int) : Prop := AccE k0 H v 3 1 xs.length (fun i => [.i (xs.getD i 0)])
theorem AccE.app {k0 : Nat} {H : AH} {v : AV} {a b : List Int} (h : AccE k0 H v 3 1 (a.length + b.length) (fun j => if j < a.length then [AV.i (a.getD j 0)] else [AV.i (b.getD (j - a.length) 0)])) : AccL k0 H v (a ++ b) := by
  have := h.ext (g' := fun i => [AV.i ((a ++ b).getD i 0)]) fun j _ => app_cell a b j
  rwa [← List.length_append] at this
theorem clonee_s (xs : List Int) (hx : xs.length * 8 ≤ 140737488355328) (H : AH) : SC true Try.prog 48 [ints xs] H (fun r H' => Oth H H' none ∧ AccL H.length H' r xs) := by
  rcases Nat.eq_zero_or_pos xs.length with h | h
  · obtain rfl := List.eq_nil_of_length_eq_zero h
    refine (clone0_s H).mono fun r H' e => ?_
    obtain ⟨rfl, rfl⟩ := e
    exact ⟨⟨Nat.le_refl _, fun _ _ _ => rfl⟩, .inr ⟨rfl, _, rfl⟩⟩
  · refine (clonem_s xs hx h H).mono fun r H' e => ?_
    obtain ⟨rfl, rfl⟩ := e
    exact ⟨oth_app _ _, .inl (.inr ⟨H.length, iblk xs, Nat.le_refl _, rfl, by simp, rfl, rfl, rfl, fun _ _ => rfl⟩)⟩
theorem nodesb_s (e : Ep) (hb : Bd e) (H : AH) : SC true Try.prog 34 [epv e] H (fun r H' => Ext H H' ∧ AccL H.length H' r (nodesL e)) := by
  obtain ⟨hb1, hb2⟩ := hb
  refine sc_in TYok Try.func34 (by kernel_rfl) Try.ntmps34 rfl rfl rfl ?_
  (repeat' (first | (refine sq_id ?_; first | refine sq_nil ?_ | refine sm ?_ | refine sa ?_ | refine ss ?_ | refine st ?_ | refine sf ?_ | refine sp ?_ | refine sq ?_ | refine sl ?_ | refine si ?_ | refine sx ?_ | refine sy ?_ | refine sq_newk TYok TYz false rfl rfl rfl True.intro fun H1 hb1 ho1 hl1 => ?_) | (refine rg_id ?_; first | refine rg_fin ?_ | refine rm ?_ | refine ra ?_ | refine rs ?_ | refine rt ?_ | refine rf ?_ | refine rp ?_ | refine rq ?_ | refine rl ?_ | refine ri ?_ | refine rx ?_ | refine ry ?_ | refine sq_newk TYok TYz false rfl rfl rfl True.intro fun H1 hb1 ho1 hl1 => ?_) | refine aw_rseq ?_ | refine aw_seq ?_ | refine aw_region ?_ | refine aw_skip ?_ | refine ct ?_ | refine cf ?_ | refine d0s ?_ | refine d0r ?_ | refine aw_block ?_ | refine aw_exit ?_ | refine then_ret ?_ | refine then_exit ?_ | refine then_normal ?_ | refine blk_ret ?_ | refine blk_normal ?_ | refine blk_exit ?_ | refine blk_pass rfl ?_ | refine sq_newk TYok TYz false rfl rfl rfl True.intro fun H1 hb1 ho1 hl1 => ?_))
  refine sq_call rfl rfl rfl (LeL.refl _) ((clonee_s e.free (by omega) _).mono fun fa H2 he => ?_)
  obtain ⟨ho2, ha⟩ := he
  have hbx := ho2.get0 hb1
  (repeat' (first | (refine sq_id ?_; first | refine sq_nil ?_ | refine sm ?_ | refine sa ?_ | refine ss ?_ | refine st ?_ | refine sf ?_ | refine sp ?_ | refine sq ?_ | refine sl ?_ | refine si ?_ | refine sx ?_ | refine sy ?_ | refine sq_movek (v := fa) rfl rfl rfl ?_ | refine sq_assignk (v := fa) rfl rfl rfl ?_ | refine rg_movek (v := fa) rfl rfl rfl ?_ | refine rg_assignk (v := fa) rfl rfl rfl ?_) | (refine rg_id ?_; first | refine rg_fin ?_ | refine rm ?_ | refine ra ?_ | refine rs ?_ | refine rt ?_ | refine rf ?_ | refine rp ?_ | refine rq ?_ | refine rl ?_ | refine ri ?_ | refine rx ?_ | refine ry ?_ | refine sq_movek (v := fa) rfl rfl rfl ?_ | refine sq_assignk (v := fa) rfl rfl rfl ?_ | refine rg_movek (v := fa) rfl rfl rfl ?_ | refine rg_assignk (v := fa) rfl rfl rfl ?_) | refine aw_rseq ?_ | refine aw_seq ?_ | refine aw_region ?_ | refine aw_skip ?_ | refine ct ?_ | refine cf ?_ | refine d0s ?_ | refine d0r ?_ | refine aw_block ?_ | refine aw_exit ?_ | refine then_ret ?_ | refine then_exit ?_ | refine then_normal ?_ | refine blk_ret ?_ | refine blk_normal ?_ | refine blk_exit ?_ | refine blk_pass rfl ?_ | refine sq_movek (v := fa) rfl rfl rfl ?_ | refine sq_assignk (v := fa) rfl rfl rfl ?_ | refine rg_movek (v := fa) rfl rfl rfl ?_ | refine rg_assignk (v := fa) rfl rfl rfl ?_))
  refine aw_for [3, 10, 11] (fun s : Nat × AV => [(3, s.2), (10, .agg [ints e.l0, ints e.l1, ints e.l2]), (11, .i s.1)])
    (fun s H' => s.1 ≤ 3 ∧ Ext H H' ∧ AccL H.length H' s.2 (nodesK e s.1)) (fun s => 3 - s.1) (0, fa) (by rw [rstf_eq]; rfl) ⟨by omega, ho1.ext.trans ho2.ext, ha.down (by omega)⟩ ?_
  rintro ⟨k, fa⟩ H3 ⟨hk, hx, ha⟩
  simp only at hk hx ha
  rcases (by omega : k = 0 ∨ k = 1 ∨ k = 2 ∨ k = 3) with rfl | rfl | rfl | rfl
  · (repeat' (first | (refine sq_id ?_; first | refine sq_nil ?_ | refine sm ?_ | refine sa ?_ | refine ss ?_ | refine st ?_ | refine sf ?_ | refine sp ?_ | refine sq ?_ | refine sl ?_ | refine si ?_ | refine sx ?_ | refine sy ?_ | refine sq_movek (v := fa) rfl rfl rfl ?_ | refine sq_assignk (v := fa) rfl rfl rfl ?_ | refine rg_movek (v := fa) rfl rfl rfl ?_ | refine rg_assignk (v := fa) rfl rfl rfl ?_) | (refine rg_id ?_; first | refine rg_fin ?_ | refine rm ?_ | refine ra ?_ | refine rs ?_ | refine rt ?_ | refine rf ?_ | refine rp ?_ | refine rq ?_ | refine rl ?_ | refine ri ?_ | refine rx ?_ | refine ry ?_ | refine sq_movek (v := fa) rfl rfl rfl ?_ | refine sq_assignk (v := fa) rfl rfl rfl ?_ | refine rg_movek (v := fa) rfl rfl rfl ?_ | refine rg_assignk (v := fa) rfl rfl rfl ?_) | refine aw_rseq ?_ | refine aw_seq ?_ | refine aw_region ?_ | refine aw_skip ?_ | refine ct ?_ | refine cf ?_ | refine d0s ?_ | refine d0r ?_ | refine aw_block ?_ | refine aw_exit ?_ | refine then_ret ?_ | refine then_exit ?_ | refine then_normal ?_ | refine blk_ret ?_ | refine blk_normal ?_ | refine blk_exit ?_ | refine blk_pass rfl ?_ | refine sq_movek (v := fa) rfl rfl rfl ?_ | refine sq_assignk (v := fa) rfl rfl rfl ?_ | refine rg_movek (v := fa) rfl rfl rfl ?_ | refine rg_assignk (v := fa) rfl rfl rfl ?_))
    refine sq_appe TYok TYz rfl rfl rfl rfl rfl rfl rfl (by decide) ha.low (.lst _ _ _ _) (by show (e.free.length + e.l0.length) * 8 ≤ _; omega) (by show e.free.length + e.l0.length ≤ _; omega) fun fb H4 ha4 ho4 hn4 => ?_
    (repeat' (first | (refine sq_id ?_; first | refine sq_nil ?_ | refine sm ?_ | refine sa ?_ | refine ss ?_ | refine st ?_ | refine sf ?_ | refine sp ?_ | refine sq ?_ | refine sl ?_ | refine si ?_ | refine sx ?_ | refine sy ?_ | refine sq_movek (v := fb) rfl rfl rfl ?_ | refine sq_assignk (v := fb) rfl rfl rfl ?_ | refine rg_movek (v := fb) rfl rfl rfl ?_ | refine rg_assignk (v := fb) rfl rfl rfl ?_) | (refine rg_id ?_; first | refine rg_fin ?_ | refine rm ?_ | refine ra ?_ | refine rs ?_ | refine rt ?_ | refine rf ?_ | refine rp ?_ | refine rq ?_ | refine rl ?_ | refine ri ?_ | refine rx ?_ | refine ry ?_ | refine sq_movek (v := fb) rfl rfl rfl ?_ | refine sq_assignk (v := fb) rfl rfl rfl ?_ | refine rg_movek (v := fb) rfl rfl rfl ?_ | refine rg_assignk (v := fb) rfl rfl rfl ?_) | refine aw_rseq ?_ | refine aw_seq ?_ | refine aw_region ?_ | refine aw_skip ?_ | refine ct ?_ | refine cf ?_ | refine d0s ?_ | refine d0r ?_ | refine aw_block ?_ | refine aw_exit ?_ | refine then_ret ?_ | refine then_exit ?_ | refine then_normal ?_ | refine blk_ret ?_ | refine blk_normal ?_ | refine blk_exit ?_ | refine blk_pass rfl ?_ | refine sq_movek (v := fb) rfl rfl rfl ?_ | refine sq_assignk (v := fb) rfl rfl rfl ?_ | refine rg_movek (v := fb) rfl rfl rfl ?_ | refine rg_assignk (v := fb) rfl rfl rfl ?_))
    exact ⟨(1, fb), by rw [rstf_eq]; rfl, ⟨by simp, hx.oth ho4 ha.up, ha.grow ha4.app hn4 hx.1⟩, by simp⟩
  · (repeat' (first | (refine sq_id ?_; first | refine sq_nil ?_ | refine sm ?_ | refine sa ?_ | refine ss ?_ | refine st ?_ | refine sf ?_ | refine sp ?_ | refine sq ?_ | refine sl ?_ | refine si ?_ | refine sx ?_ | refine sy ?_ | refine sq_movek (v := fa) rfl rfl rfl ?_ | refine sq_assignk (v := fa) rfl rfl rfl ?_ | refine rg_movek (v := fa) rfl rfl rfl ?_ | refine rg_assignk (v := fa) rfl rfl rfl ?_) | (refine rg_id ?_; first | refine rg_fin ?_ | refine rm ?_ | refine ra ?_ | refine rs ?_ | refine rt ?_ | refine rf ?_ | refine rp ?_ | refine rq ?_ | refine rl ?_ | refine ri ?_ | refine rx ?_ | refine ry ?_ | refine sq_movek (v := fa) rfl rfl rfl ?_ | refine sq_assignk (v := fa) rfl rfl rfl ?_ | refine rg_movek (v := fa) rfl rfl rfl ?_ | refine rg_assignk (v := fa) rfl rfl rfl ?_) | refine aw_rseq ?_ | refine aw_seq ?_ | refine aw_region ?_ | refine aw_skip ?_ | refine ct ?_ | refine cf ?_ | refine d0s ?_ | refine d0r ?_ | refine aw_block ?_ | refine aw_exit ?_ | refine then_ret ?_ | refine then_exit ?_ | refine then_normal ?_ | refine blk_ret ?_ | refine blk_normal ?_ | refine blk_exit ?_ | refine blk_pass rfl ?_ | refine sq_movek (v := fa) rfl rfl rfl ?_ | refine sq_assignk (v := fa) rfl rfl rfl ?_ | refine rg_movek (v := fa) rfl rfl rfl ?_ | refine rg_assignk (v := fa) rfl rfl rfl ?_))
    refine sq_appe TYok TYz rfl rfl rfl rfl rfl rfl rfl (by decide) ha.low (.lst _ _ _ _) (by show ((e.free ++ e.l0).length + e.l1.length) * 8 ≤ _; rw [List.length_append]; omega) (by show (e.free ++ e.l0).length + e.l1.length ≤ _; rw [List.length_append]; omega) fun fb H4 ha4 ho4 hn4 => ?_
    (repeat' (first | (refine sq_id ?_; first | refine sq_nil ?_ | refine sm ?_ | refine sa ?_ | refine ss ?_ | refine st ?_ | refine sf ?_ | refine sp ?_ | refine sq ?_ | refine sl ?_ | refine si ?_ | refine sx ?_ | refine sy ?_ | refine sq_movek (v := fb) rfl rfl rfl ?_ | refine sq_assignk (v := fb) rfl rfl rfl ?_ | refine rg_movek (v := fb) rfl rfl rfl ?_ | refine rg_assignk (v := fb) rfl rfl rfl ?_) | (refine rg_id ?_; first | refine rg_fin ?_ | refine rm ?_ | refine ra ?_ | refine rs ?_ | refine rt ?_ | refine rf ?_ | refine rp ?_ | refine rq ?_ | refine rl ?_ | refine ri ?_ | refine rx ?_ | refine ry ?_ | refine sq_movek (v := fb) rfl rfl rfl ?_ | refine sq_assignk (v := fb) rfl rfl rfl ?_ | refine rg_movek (v := fb) rfl rfl rfl ?_ | refine rg_assignk (v := fb) rfl rfl rfl ?_) | refine aw_rseq ?_ | refine aw_seq ?_ | refine aw_region ?_ | refine aw_skip ?_ | refine ct ?_ | refine cf ?_ | refine d0s ?_ | refine d0r ?_ | refine aw_block ?_ | refine aw_exit ?_ | refine then_ret ?_ | refine then_exit ?_ | refine then_normal ?_ | refine blk_ret ?_ | refine blk_normal ?_ | refine blk_exit ?_ | refine blk_pass rfl ?_ | refine sq_movek (v := fb) rfl rfl rfl ?_ | refine sq_assignk (v := fb) rfl rfl rfl ?_ | refine rg_movek (v := fb) rfl rfl rfl ?_ | refine rg_assignk (v := fb) rfl rfl rfl ?_))
    exact ⟨(2, fb), by rw [rstf_eq]; rfl, ⟨by simp, hx.oth ho4 ha.up, ha.grow ha4.app hn4 hx.1⟩, by simp⟩
  · (repeat' (first | (refine sq_id ?_; first | refine sq_nil ?_ | refine sm ?_ | refine sa ?_ | refine ss ?_ | refine st ?_ | refine sf ?_ | refine sp ?_ | refine sq ?_ | refine sl ?_ | refine si ?_ | refine sx ?_ | refine sy ?_ | refine sq_movek (v := fa) rfl rfl rfl ?_ | refine sq_assignk (v := fa) rfl rfl rfl ?_ | refine rg_movek (v := fa) rfl rfl rfl ?_ | refine rg_assignk (v := fa) rfl rfl rfl ?_) | (refine rg_id ?_; first | refine rg_fin ?_ | refine rm ?_ | refine ra ?_ | refine rs ?_ | refine rt ?_ | refine rf ?_ | refine rp ?_ | refine rq ?_ | refine rl ?_ | refine ri ?_ | refine rx ?_ | refine ry ?_ | refine sq_movek (v := fa) rfl rfl rfl ?_ | refine sq_assignk (v := fa) rfl rfl rfl ?_ | refine rg_movek (v := fa) rfl rfl rfl ?_ | refine rg_assignk (v := fa) rfl rfl rfl ?_) | refine aw_rseq ?_ | refine aw_seq ?_ | refine aw_region ?_ | refine aw_skip ?_ | refine ct ?_ | refine cf ?_ | refine d0s ?_ | refine d0r ?_ | refine aw_block ?_ | refine aw_exit ?_ | refine then_ret ?_ | refine then_exit ?_ | refine then_normal ?_ | refine blk_ret ?_ | refine blk_normal ?_ | refine blk_exit ?_ | refine blk_pass rfl ?_ | refine sq_movek (v := fa) rfl rfl rfl ?_ | refine sq_assignk (v := fa) rfl rfl rfl ?_ | refine rg_movek (v := fa) rfl rfl rfl ?_ | refine rg_assignk (v := fa) rfl rfl rfl ?_))
    refine sq_appe TYok TYz rfl rfl rfl rfl rfl rfl rfl (by decide) ha.low (.lst _ _ _ _) (by show ((e.free ++ e.l0 ++ e.l1).length + e.l2.length) * 8 ≤ _; simp only [List.length_append]; omega) (by show (e.free ++ e.l0 ++ e.l1).length + e.l2.length ≤ _; simp only [List.length_append]; omega) fun fb H4 ha4 ho4 hn4 => ?_
    (repeat' (first | (refine sq_id ?_; first | refine sq_nil ?_ | refine sm ?_ | refine sa ?_ | refine ss ?_ | refine st ?_ | refine sf ?_ | refine sp ?_ | refine sq ?_ | refine sl ?_ | refine si ?_ | refine sx ?_ | refine sy ?_ | refine sq_movek (v := fb) rfl rfl rfl ?_ | refine sq_assignk (v := fb) rfl rfl rfl ?_ | refine rg_movek (v := fb) rfl rfl rfl ?_ | refine rg_assignk (v := fb) rfl rfl rfl ?_) | (refine rg_id ?_; first | refine rg_fin ?_ | refine rm ?_ | refine ra ?_ | refine rs ?_ | refine rt ?_ | refine rf ?_ | refine rp ?_ | refine rq ?_ | refine rl ?_ | refine ri ?_ | refine rx ?_ | refine ry ?_ | refine sq_movek (v := fb) rfl rfl rfl ?_ | refine sq_assignk (v := fb) rfl rfl rfl ?_ | refine rg_movek (v := fb) rfl rfl rfl ?_ | refine rg_assignk (v := fb) rfl rfl rfl ?_) | refine aw_rseq ?_ | refine aw_seq ?_ | refine aw_region ?_ | refine aw_skip ?_ | refine ct ?_ | refine cf ?_ | refine d0s ?_ | refine d0r ?_ | refine aw_block ?_ | refine aw_exit ?_ | refine then_ret ?_ | refine then_exit ?_ | refine then_normal ?_ | refine blk_ret ?_ | refine blk_normal ?_ | refine blk_exit ?_ | refine blk_pass rfl ?_ | refine sq_movek (v := fb) rfl rfl rfl ?_ | refine sq_assignk (v := fb) rfl rfl rfl ?_ | refine rg_movek (v := fb) rfl rfl rfl ?_ | refine rg_assignk (v := fb) rfl rfl rfl ?_))
    exact ⟨(3, fb), by rw [rstf_eq]; rfl, ⟨by simp, hx.oth ho4 ha.up, ha.grow ha4.app hn4 hx.1⟩, by simp⟩
  · (repeat' (first | (refine sq_id ?_; first | refine sq_nil ?_ | refine sm ?_ | refine sa ?_ | refine ss ?_ | refine st ?_ | refine sf ?_ | refine sp ?_ | refine sq ?_ | refine sl ?_ | refine si ?_ | refine sx ?_ | refine sy ?_ | refine sq_movek (v := fa) rfl rfl rfl ?_ | refine sq_assignk (v := fa) rfl rfl rfl ?_ | refine rg_movek (v := fa) rfl rfl rfl ?_ | refine rg_assignk (v := fa) rfl rfl rfl ?_) | (refine rg_id ?_; first | refine rg_fin ?_ | refine rm ?_ | refine ra ?_ | refine rs ?_ | refine rt ?_ | refine rf ?_ | refine rp ?_ | refine rq ?_ | refine rl ?_ | refine ri ?_ | refine rx ?_ | refine ry ?_ | refine sq_movek (v := fa) rfl rfl rfl ?_ | refine sq_assignk (v := fa) rfl rfl rfl ?_ | refine rg_movek (v := fa) rfl rfl rfl ?_ | refine rg_assignk (v := fa) rfl rfl rfl ?_) | refine aw_rseq ?_ | refine aw_seq ?_ | refine aw_region ?_ | refine aw_skip ?_ | refine ct ?_ | refine cf ?_ | refine d0s ?_ | refine d0r ?_ | refine aw_block ?_ | refine aw_exit ?_ | refine then_ret ?_ | refine then_exit ?_ | refine then_normal ?_ | refine blk_ret ?_ | refine blk_normal ?_ | refine blk_exit ?_ | refine blk_pass rfl ?_ | refine aw_dec rfl (fun _ => ?_) (fun _ => ?_) | refine sq_movek (v := fa) rfl rfl rfl ?_ | refine sq_assignk (v := fa) rfl rfl rfl ?_ | refine rg_movek (v := fa) rfl rfl rfl ?_ | refine rg_assignk (v := fa) rfl rfl rfl ?_))
    ((try refine aw_ret ?_); (repeat (first | refine then_ret ?_ | refine blk_ret ?_)); refine fin_k True.intro rfl ?_)
    exact ⟨hx, ha⟩
theorem nodes_s (e : Ep) (hb : Bd e) : PS Try.prog 34 [epv e] (ints (nodesL e)) :=
  ps_frz (cl_ints _) fun H => (nodesb_s e hb H).mono fun _ _ h => ⟨h.1, h.2.frz⟩
def newE (w : Int) : Ep := if 1 ≤ w ∧ w ≤ 64 then ⟨0, List.replicate w.toNat 0, [], [], [], []⟩ else ⟨0, [], [], [], [], []⟩
theorem new_s (w : Int) : PS Try.prog 10 [.i w] (epv (newE w)) := by
  refine ps_frz (cl_epv _) fun H => ?_
  refine sc_in TYok Try.func10 (by kernel_rfl) Try.ntmps10 rfl rfl rfl ?_
  by_cases h1 : 1 ≤ w
  · by_cases h2 : w ≤ 64
    · obtain ⟨n, rfl⟩ := Int.eq_ofNat_of_zero_le (show 0 ≤ w by omega)
      refine aw_seq ?_
      refine aw_region ?_
      refine sq_newk TYok TYz false rfl rfl rfl True.intro fun H1 hb1 ho1 hl1 => ?_
      (repeat' (first | (refine sq_id ?_; first | refine sq_nil ?_ | refine sm ?_ | refine sa ?_ | refine ss ?_ | refine st ?_ | refine sf ?_ | refine sp ?_ | refine sq ?_ | refine sl ?_ | refine si ?_ | refine sx ?_ | refine sy ?_ | refine sq_newk TYok TYz false rfl rfl rfl sd fun H2 hb2 ho2 hl2 => ?_) | (refine rg_id ?_; first | refine rg_fin ?_ | refine rm ?_ | refine ra ?_ | refine rs ?_ | refine rt ?_ | refine rf ?_ | refine rp ?_ | refine rq ?_ | refine rl ?_ | refine ri ?_ | refine rx ?_ | refine ry ?_ | refine sq_newk TYok TYz false rfl rfl rfl sd fun H2 hb2 ho2 hl2 => ?_) | refine aw_rseq ?_ | refine aw_seq ?_ | refine aw_region ?_ | refine aw_skip ?_ | refine ct ?_ | refine cf ?_ | refine d0s ?_ | refine d0r ?_ | refine aw_block ?_ | refine aw_exit ?_ | refine then_ret ?_ | refine then_exit ?_ | refine then_normal ?_ | refine blk_ret ?_ | refine blk_normal ?_ | refine blk_exit ?_ | refine blk_pass rfl ?_ | refine sq_newk TYok TYz false rfl rfl rfl sd fun H2 hb2 ho2 hl2 => ?_))
      refine sq_storek TYok rfl rfl rfl (ho2.get0 hb1) rfl Nat.zero_lt_one rfl rfl rfl (by exact Nat.le_refl 6) fun H3 hb3 ho3 hl3 => ?_
      (repeat' (first | (refine sq_id ?_; first | refine sq_nil ?_ | refine sm ?_ | refine sa ?_ | refine ss ?_ | refine st ?_ | refine sf ?_ | refine sp ?_ | refine sq ?_ | refine sl ?_ | refine si ?_ | refine sx ?_ | refine sy ?_) | (refine rg_id ?_; first | refine rg_fin ?_ | refine rm ?_ | refine ra ?_ | refine rs ?_ | refine rt ?_ | refine rf ?_ | refine rp ?_ | refine rq ?_ | refine rl ?_ | refine ri ?_ | refine rx ?_ | refine ry ?_) | refine aw_rseq ?_ | refine aw_seq ?_ | refine aw_region ?_ | refine aw_skip ?_ | refine ct ?_ | refine cf ?_ | refine d0s ?_ | refine d0r ?_ | refine aw_block ?_ | refine aw_exit ?_ | refine then_ret ?_ | refine then_exit ?_ | refine then_normal ?_ | refine blk_ret ?_ | refine blk_normal ?_ | refine blk_exit ?_ | refine blk_pass rfl ?_ | refine aw_dec rfl (fun _ => ?_) (fun _ => ?_)))
      ((try refine aw_ret ?_); (repeat (first | refine then_ret ?_ | refine blk_ret ?_)))
      refine ⟨True.intro, _, .cell _ _ _ _ _ _ _ _ _ rfl hb3 rfl Nat.zero_lt_one rfl .nil, ?_⟩
      have hrl : (List.replicate (n : Int).toNat (0 : Int)).length = n := by rw [List.length_replicate]; rfl
      refine ⟨(ho1.ext.trans ho2.ext).oth ho3 (by rintro _ ⟨⟩; exact Nat.le_refl _), ?_⟩
      rw [newE, if_pos ⟨h1, h2⟩]
      refine FrzL.agg (.cons (.le (Le.refl _)) (.cons (.acc (.inr ⟨H1.length, _, by omega, by rw [hrl], ho3.get hb2 (by simp; omega), rfl, rfl, by rw [hrl], fun j hj => ?_⟩)) (.cons (.le (le_nil _ _ _)) (.cons (.le (le_nil _ _ _)) (.cons (.le (le_nil _ _ _)) (.cons (.le (le_nil _ _ _)) .nil))))))
      rw [hrl] at hj
      show [AV.p (.int .i64 0)] = [AV.i _]
      rw [List.getD_eq_getElem?_getD, List.getElem?_replicate]
      split <;> rfl
    · refine aw_seq ?_
      refine aw_region ?_
      refine sq_newk TYok TYz false rfl rfl rfl True.intro fun H1 hb1 ho1 hl1 => ?_
      (repeat' (first | (refine sq_id ?_; first | refine sq_nil ?_ | refine sm ?_ | refine sa ?_ | refine ss ?_ | refine st ?_ | refine sf ?_ | refine sp ?_ | refine sq ?_ | refine sl ?_ | refine si ?_ | refine sx ?_ | refine sy ?_) | (refine rg_id ?_; first | refine rg_fin ?_ | refine rm ?_ | refine ra ?_ | refine rs ?_ | refine rt ?_ | refine rf ?_ | refine rp ?_ | refine rq ?_ | refine rl ?_ | refine ri ?_ | refine rx ?_ | refine ry ?_) | refine aw_rseq ?_ | refine aw_seq ?_ | refine aw_region ?_ | refine aw_skip ?_ | refine ct ?_ | refine cf ?_ | refine d0s ?_ | refine d0r ?_ | refine aw_block ?_ | refine aw_exit ?_ | refine then_ret ?_ | refine then_exit ?_ | refine then_normal ?_ | refine blk_ret ?_ | refine blk_normal ?_ | refine blk_exit ?_ | refine blk_pass rfl ?_))
      refine sq_storek TYok rfl rfl rfl hb1 rfl Nat.zero_lt_one rfl rfl rfl (by exact Nat.le_refl 6) fun H3 hb3 ho3 hl3 => ?_
      (repeat' (first | (refine sq_id ?_; first | refine sq_nil ?_ | refine sm ?_ | refine sa ?_ | refine ss ?_ | refine st ?_ | refine sf ?_ | refine sp ?_ | refine sq ?_ | refine sl ?_ | refine si ?_ | refine sx ?_ | refine sy ?_) | (refine rg_id ?_; first | refine rg_fin ?_ | refine rm ?_ | refine ra ?_ | refine rs ?_ | refine rt ?_ | refine rf ?_ | refine rp ?_ | refine rq ?_ | refine rl ?_ | refine ri ?_ | refine rx ?_ | refine ry ?_) | refine aw_rseq ?_ | refine aw_seq ?_ | refine aw_region ?_ | refine aw_skip ?_ | refine ct ?_ | refine cf ?_ | refine d0s ?_ | refine d0r ?_ | refine aw_block ?_ | refine aw_exit ?_ | refine then_ret ?_ | refine then_exit ?_ | refine then_normal ?_ | refine blk_ret ?_ | refine blk_normal ?_ | refine blk_exit ?_ | refine blk_pass rfl ?_ | refine aw_dec rfl (fun _ => ?_) (fun _ => ?_)))
      ((try refine aw_ret ?_); (repeat (first | refine then_ret ?_ | refine blk_ret ?_)))
      refine ⟨True.intro, _, .cell _ _ _ _ _ _ _ _ _ rfl hb3 rfl Nat.zero_lt_one rfl .nil, ho1.ext.oth ho3 (by rintro _ ⟨⟩; exact Nat.le_refl _), ?_⟩
      rw [newE, if_neg (fun k => h2 k.2)]
      exact .le (le_agg (.cons (Le.refl _) (.cons (le_nil _ _ _) (.cons (le_nil _ _ _) (.cons (le_nil _ _ _) (.cons (le_nil _ _ _) (.cons (le_nil _ _ _) .nil)))))))
  · refine aw_seq ?_
    refine aw_region ?_
    refine sq_newk TYok TYz false rfl rfl rfl True.intro fun H1 hb1 ho1 hl1 => ?_
    (repeat' (first | (refine sq_id ?_; first | refine sq_nil ?_ | refine sm ?_ | refine sa ?_ | refine ss ?_ | refine st ?_ | refine sf ?_ | refine sp ?_ | refine sq ?_ | refine sl ?_ | refine si ?_ | refine sx ?_ | refine sy ?_) | (refine rg_id ?_; first | refine rg_fin ?_ | refine rm ?_ | refine ra ?_ | refine rs ?_ | refine rt ?_ | refine rf ?_ | refine rp ?_ | refine rq ?_ | refine rl ?_ | refine ri ?_ | refine rx ?_ | refine ry ?_) | refine aw_rseq ?_ | refine aw_seq ?_ | refine aw_region ?_ | refine aw_skip ?_ | refine ct ?_ | refine cf ?_ | refine d0s ?_ | refine d0r ?_ | refine aw_block ?_ | refine aw_exit ?_ | refine then_ret ?_ | refine then_exit ?_ | refine then_normal ?_ | refine blk_ret ?_ | refine blk_normal ?_ | refine blk_exit ?_ | refine blk_pass rfl ?_))
    refine sq_storek TYok rfl rfl rfl hb1 rfl Nat.zero_lt_one rfl rfl rfl (by exact Nat.le_refl 6) fun H3 hb3 ho3 hl3 => ?_
    (repeat' (first | (refine sq_id ?_; first | refine sq_nil ?_ | refine sm ?_ | refine sa ?_ | refine ss ?_ | refine st ?_ | refine sf ?_ | refine sp ?_ | refine sq ?_ | refine sl ?_ | refine si ?_ | refine sx ?_ | refine sy ?_) | (refine rg_id ?_; first | refine rg_fin ?_ | refine rm ?_ | refine ra ?_ | refine rs ?_ | refine rt ?_ | refine rf ?_ | refine rp ?_ | refine rq ?_ | refine rl ?_ | refine ri ?_ | refine rx ?_ | refine ry ?_) | refine aw_rseq ?_ | refine aw_seq ?_ | refine aw_region ?_ | refine aw_skip ?_ | refine ct ?_ | refine cf ?_ | refine d0s ?_ | refine d0r ?_ | refine aw_block ?_ | refine aw_exit ?_ | refine then_ret ?_ | refine then_exit ?_ | refine then_normal ?_ | refine blk_ret ?_ | refine blk_normal ?_ | refine blk_exit ?_ | refine blk_pass rfl ?_ | refine aw_dec rfl (fun _ => ?_) (fun _ => ?_)))
    ((try refine aw_ret ?_); (repeat (first | refine then_ret ?_ | refine blk_ret ?_)))
    refine ⟨True.intro, _, .cell _ _ _ _ _ _ _ _ _ rfl hb3 rfl Nat.zero_lt_one rfl .nil, ho1.ext.oth ho3 (by rintro _ ⟨⟩; exact Nat.le_refl _), ?_⟩
    rw [newE, if_neg (fun k => h1 k.1)]
    exact .le (le_agg (.cons (Le.refl _) (.cons (le_nil _ _ _) (.cons (le_nil _ _ _) (.cons (le_nil _ _ _) (.cons (le_nil _ _ _) (.cons (le_nil _ _ _) .nil)))))))
theorem refnew_s (w : Int) : PS Try.prog 11 [.i w] (epv (newE w)) := by
  refine ps_frz (cl_epv _) fun H => ?_
  refine sc_in TYok Try.func11 (by kernel_rfl) Try.ntmps11 rfl rfl rfl ?_
  by_cases h1 : 1 ≤ w
  · by_cases h2 : w ≤ 64
    · obtain ⟨n, rfl⟩ := Int.eq_ofNat_of_zero_le (show 0 ≤ w by omega)
      refine aw_seq ?_
      refine aw_region ?_
      refine sq_newk TYok TYz false rfl rfl rfl True.intro fun H1 hb1 ho1 hl1 => ?_
      (repeat' (first | (refine sq_id ?_; first | refine sq_nil ?_ | refine sm ?_ | refine sa ?_ | refine ss ?_ | refine st ?_ | refine sf ?_ | refine sp ?_ | refine sq ?_ | refine sl ?_ | refine si ?_ | refine sx ?_ | refine sy ?_ | refine sq_newk TYok TYz false rfl rfl rfl sd fun H2 hb2 ho2 hl2 => ?_) | (refine rg_id ?_; first | refine rg_fin ?_ | refine rm ?_ | refine ra ?_ | refine rs ?_ | refine rt ?_ | refine rf ?_ | refine rp ?_ | refine rq ?_ | refine rl ?_ | refine ri ?_ | refine rx ?_ | refine ry ?_ | refine sq_newk TYok TYz false rfl rfl rfl sd fun H2 hb2 ho2 hl2 => ?_) | refine aw_rseq ?_ | refine aw_seq ?_ | refine aw_region ?_ | refine aw_skip ?_ | refine ct ?_ | refine cf ?_ | refine d0s ?_ | refine d0r ?_ | refine aw_block ?_ | refine aw_exit ?_ | refine then_ret ?_ | refine then_exit ?_ | refine then_normal ?_ | refine blk_ret ?_ | refine blk_normal ?_ | refine blk_exit ?_ | refine blk_pass rfl ?_ | refine sq_newk TYok TYz false rfl rfl rfl sd fun H2 hb2 ho2 hl2 => ?_))
      refine sq_storek TYok rfl rfl rfl (ho2.get0 hb1) rfl Nat.zero_lt_one rfl rfl rfl (by exact Nat.le_refl 6) fun H3 hb3 ho3 hl3 => ?_
      (repeat' (first | (refine sq_id ?_; first | refine sq_nil ?_ | refine sm ?_ | refine sa ?_ | refine ss ?_ | refine st ?_ | refine sf ?_ | refine sp ?_ | refine sq ?_ | refine sl ?_ | refine si ?_ | refine sx ?_ | refine sy ?_) | (refine rg_id ?_; first | refine rg_fin ?_ | refine rm ?_ | refine ra ?_ | refine rs ?_ | refine rt ?_ | refine rf ?_ | refine rp ?_ | refine rq ?_ | refine rl ?_ | refine ri ?_ | refine rx ?_ | refine ry ?_) | refine aw_rseq ?_ | refine aw_seq ?_ | refine aw_region ?_ | refine aw_skip ?_ | refine ct ?_ | refine cf ?_ | refine d0s ?_ | refine d0r ?_ | refine aw_block ?_ | refine aw_exit ?_ | refine then_ret ?_ | refine then_exit ?_ | refine then_normal ?_ | refine blk_ret ?_ | refine blk_normal ?_ | refine blk_exit ?_ | refine blk_pass rfl ?_ | refine aw_dec rfl (fun _ => ?_) (fun _ => ?_)))
      ((try refine aw_ret ?_); (repeat (first | refine then_ret ?_ | refine blk_ret ?_)))
      refine ⟨True.intro, _, .cell _ _ _ _ _ _ _ _ _ rfl hb3 rfl Nat.zero_lt_one rfl .nil, ?_⟩
      have hrl : (List.replicate (n : Int).toNat (0 : Int)).length = n := by rw [List.length_replicate]; rfl
      refine ⟨(ho1.ext.trans ho2.ext).oth ho3 (by rintro _ ⟨⟩; exact Nat.le_refl _), ?_⟩
      rw [newE, if_pos ⟨h1, h2⟩]
      refine FrzL.agg (.cons (.le (Le.refl _)) (.cons (.acc (.inr ⟨H1.length, _, by omega, by rw [hrl], ho3.get hb2 (by simp; omega), rfl, rfl, by rw [hrl], fun j hj => ?_⟩)) (.cons (.le (le_nil _ _ _)) (.cons (.le (le_nil _ _ _)) (.cons (.le (le_nil _ _ _)) (.cons (.le (le_nil _ _ _)) .nil))))))
      rw [hrl] at hj
      show [AV.p (.int .i64 0)] = [AV.i _]
      rw [List.getD_eq_getElem?_getD, List.getElem?_replicate]
      split <;> rfl
    · refine aw_seq ?_
      refine aw_region ?_
      refine sq_newk TYok TYz false rfl rfl rfl True.intro fun H1 hb1 ho1 hl1 => ?_
      (repeat' (first | (refine sq_id ?_; first | refine sq_nil ?_ | refine sm ?_ | refine sa ?_ | refine ss ?_ | refine st ?_ | refine sf ?_ | refine sp ?_ | refine sq ?_ | refine sl ?_ | refine si ?_ | refine sx ?_ | refine sy ?_) | (refine rg_id ?_; first | refine rg_fin ?_ | refine rm ?_ | refine ra ?_ | refine rs ?_ | refine rt ?_ | refine rf ?_ | refine rp ?_ | refine rq ?_ | refine rl ?_ | refine ri ?_ | refine rx ?_ | refine ry ?_) | refine aw_rseq ?_ | refine aw_seq ?_ | refine aw_region ?_ | refine aw_skip ?_ | refine ct ?_ | refine cf ?_ | refine d0s ?_ | refine d0r ?_ | refine aw_block ?_ | refine aw_exit ?_ | refine then_ret ?_ | refine then_exit ?_ | refine then_normal ?_ | refine blk_ret ?_ | refine blk_normal ?_ | refine blk_exit ?_ | refine blk_pass rfl ?_))
      refine sq_storek TYok rfl rfl rfl hb1 rfl Nat.zero_lt_one rfl rfl rfl (by exact Nat.le_refl 6) fun H3 hb3 ho3 hl3 => ?_
      (repeat' (first | (refine sq_id ?_; first | refine sq_nil ?_ | refine sm ?_ | refine sa ?_ | refine ss ?_ | refine st ?_ | refine sf ?_ | refine sp ?_ | refine sq ?_ | refine sl ?_ | refine si ?_ | refine sx ?_ | refine sy ?_) | (refine rg_id ?_; first | refine rg_fin ?_ | refine rm ?_ | refine ra ?_ | refine rs ?_ | refine rt ?_ | refine rf ?_ | refine rp ?_ | refine rq ?_ | refine rl ?_ | refine ri ?_ | refine rx ?_ | refine ry ?_) | refine aw_rseq ?_ | refine aw_seq ?_ | refine aw_region ?_ | refine aw_skip ?_ | refine ct ?_ | refine cf ?_ | refine d0s ?_ | refine d0r ?_ | refine aw_block ?_ | refine aw_exit ?_ | refine then_ret ?_ | refine then_exit ?_ | refine then_normal ?_ | refine blk_ret ?_ | refine blk_normal ?_ | refine blk_exit ?_ | refine blk_pass rfl ?_ | refine aw_dec rfl (fun _ => ?_) (fun _ => ?_)))
      ((try refine aw_ret ?_); (repeat (first | refine then_ret ?_ | refine blk_ret ?_)))
      refine ⟨True.intro, _, .cell _ _ _ _ _ _ _ _ _ rfl hb3 rfl Nat.zero_lt_one rfl .nil, ho1.ext.oth ho3 (by rintro _ ⟨⟩; exact Nat.le_refl _), ?_⟩
      rw [newE, if_neg (fun k => h2 k.2)]
      exact .le (le_agg (.cons (Le.refl _) (.cons (le_nil _ _ _) (.cons (le_nil _ _ _) (.cons (le_nil _ _ _) (.cons (le_nil _ _ _) (.cons (le_nil _ _ _) .nil)))))))
  · refine aw_seq ?_
    refine aw_region ?_
    refine sq_newk TYok TYz false rfl rfl rfl True.intro fun H1 hb1 ho1 hl1 => ?_
    (repeat' (first | (refine sq_id ?_; first | refine sq_nil ?_ | refine sm ?_ | refine sa ?_ | refine ss ?_ | refine st ?_ | refine sf ?_ | refine sp ?_ | refine sq ?_ | refine sl ?_ | refine si ?_ | refine sx ?_ | refine sy ?_) | (refine rg_id ?_; first | refine rg_fin ?_ | refine rm ?_ | refine ra ?_ | refine rs ?_ | refine rt ?_ | refine rf ?_ | refine rp ?_ | refine rq ?_ | refine rl ?_ | refine ri ?_ | refine rx ?_ | refine ry ?_) | refine aw_rseq ?_ | refine aw_seq ?_ | refine aw_region ?_ | refine aw_skip ?_ | refine ct ?_ | refine cf ?_ | refine d0s ?_ | refine d0r ?_ | refine aw_block ?_ | refine aw_exit ?_ | refine then_ret ?_ | refine then_exit ?_ | refine then_normal ?_ | refine blk_ret ?_ | refine blk_normal ?_ | refine blk_exit ?_ | refine blk_pass rfl ?_))
    refine sq_storek TYok rfl rfl rfl hb1 rfl Nat.zero_lt_one rfl rfl rfl (by exact Nat.le_refl 6) fun H3 hb3 ho3 hl3 => ?_
    (repeat' (first | (refine sq_id ?_; first | refine sq_nil ?_ | refine sm ?_ | refine sa ?_ | refine ss ?_ | refine st ?_ | refine sf ?_ | refine sp ?_ | refine sq ?_ | refine sl ?_ | refine si ?_ | refine sx ?_ | refine sy ?_) | (refine rg_id ?_; first | refine rg_fin ?_ | refine rm ?_ | refine ra ?_ | refine rs ?_ | refine rt ?_ | refine rf ?_ | refine rp ?_ | refine rq ?_ | refine rl ?_ | refine ri ?_ | refine rx ?_ | refine ry ?_) | refine aw_rseq ?_ | refine aw_seq ?_ | refine aw_region ?_ | refine aw_skip ?_ | refine ct ?_ | refine cf ?_ | refine d0s ?_ | refine d0r ?_ | refine aw_block ?_ | refine aw_exit ?_ | refine then_ret ?_ | refine then_exit ?_ | refine then_normal ?_ | refine blk_ret ?_ | refine blk_normal ?_ | refine blk_exit ?_ | refine blk_pass rfl ?_ | refine aw_dec rfl (fun _ => ?_) (fun _ => ?_)))
    ((try refine aw_ret ?_); (repeat (first | refine then_ret ?_ | refine blk_ret ?_)))
    refine ⟨True.intro, _, .cell _ _ _ _ _ _ _ _ _ rfl hb3 rfl Nat.zero_lt_one rfl .nil, ho1.ext.oth ho3 (by rintro _ ⟨⟩; exact Nat.le_refl _), ?_⟩
    rw [newE, if_neg (fun k => h1 k.1)]
    exact .le (le_agg (.cons (Le.refl _) (.cons (le_nil _ _ _) (.cons (le_nil _ _ _) (.cons (le_nil _ _ _) (.cons (le_nil _ _ _) (.cons (le_nil _ _ _) .nil)))))))
end Go.Proofs.Ytmhepmocnnlhnaa.Ab
