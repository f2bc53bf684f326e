/- epoch.Right. -/
import Derived.Test.YtmhepmocnnlhnaaQE
namespace Go.Proofs.Ytmhepmocnnlhnaa.Ab
open Go Go.RowKit
theorem adj_nodup {zs : List Int} (hs : zs.Pairwise (· ≤ ·)) : (∀ j (h : j + 1 < zs.length), zs[j + 1] ≠ zs[j]) ↔ zs.Nodup := by
  rw [List.pairwise_iff_getElem] at hs
  unfold List.Nodup
  rw [List.pairwise_iff_getElem]
  constructor
  · intro h i j hi hj hij
    have h1 := h (j - 1) (by omega)
    have e : zs[j - 1 + 1]'(by omega) = zs[j] := by congr 1; omega
    rw [e] at h1
    have h2 := hs (j - 1) j (by omega) hj (by omega)
    rcases Nat.lt_or_ge i (j - 1) with h3 | h3
    · have := hs i (j - 1) hi (by omega) h3
      omega
    · have e2 : zs[i] = zs[j - 1]'(by omega) := by congr 1; omega
      omega
  · intro h j hj
    exact (h j (j + 1) (by omega) hj (by omega)).symm
theorem comp_len (zs : List Int) : (Lib.compact zs).length = zs.length ↔ ∀ j (h : j + 1 < zs.length), zs[j + 1] ≠ zs[j] := by
  unfold Lib.compact Lib.compactUpTo
  rw [List.length_map]
  have h0 : zs.length = (List.range zs.length).length := by simp
  rw [show ((List.filter (Lib.keeps zs.toArray) (List.range zs.length)).length = zs.length ↔ (List.filter (Lib.keeps zs.toArray) (List.range zs.length)).length = (List.range zs.length).length) by rw [List.length_range]]
  rw [List.length_filter_eq_length_iff]
  constructor
  · intro h j hj
    have := h (j + 1) (List.mem_range.2 hj)
    unfold Lib.keeps at this
    rw [decide_eq_true_iff] at this
    rcases this with h | h
    · omega
    · rw [Nat.add_sub_cancel] at h
      rw [getElem!_pos _ _ (by simpa using hj), getElem!_pos _ _ (by simp; omega)] at h
      simpa using h
  · intro h j hj
    have hj := List.mem_range.1 hj
    unfold Lib.keeps
    rw [decide_eq_true_iff]
    rcases Nat.eq_zero_or_pos j with h0 | h0
    · exact .inl h0
    · right
      rw [getElem!_pos _ _ (by simpa using hj), getElem!_pos _ _ (by simp; omega)]
      have := h (j - 1) (by omega)
      have e : zs[j - 1 + 1]'(by omega) = zs[j] := by congr 1; omega
      rw [e] at this
      simpa using this
theorem sortL_len (L : List Int) : (sortL L).length = L.length := by simp
theorem sortL_perm (L : List Int) : (sortL L).Perm L := List.mergeSort_perm ..
theorem sortL_sorted (L : List Int) : (sortL L).Pairwise (· ≤ ·) := by
  have := List.pairwise_mergeSort (le := fun x y : Int => decide (x ≤ y)) (fun a b c h1 h2 => by simp only [decide_eq_true_iff] at *; omega) (fun a b => by simp only [Bool.or_eq_true, decide_eq_true_iff]; omega) L
  exact this.imp fun h => of_decide_eq_true h
theorem comp_sort (L : List Int) : (Lib.compact (sortL L)).length = L.length ↔ L.Nodup := by
  rw [← (sortL_perm L).nodup_iff, ← adj_nodup (sortL_sorted L), ← comp_len, sortL_len]
theorem comp_same (L : List Int) (h : L.Nodup) : compL (sortL L) = sortL L := by
  have h1 := (comp_len (sortL L)).1 (by rw [(comp_sort L).2 h, sortL_len])
  have : Lib.compact (sortL L) = sortL L := Lib.compact_all _ fun j hj => by
    unfold Lib.keeps
    rw [decide_eq_true_iff]
    rcases Nat.eq_zero_or_pos j with h0 | h0
    · exact .inl h0
    · right
      rw [getElem!_pos _ _ (by simpa using hj), getElem!_pos _ _ (by simp; simp at hj; omega)]
      have := h1 (j - 1) (by omega)
      have e : (sortL L)[j - 1 + 1]'(by omega) = (sortL L)[j] := by congr 1; omega
      rw [e] at this
      simpa using this
  unfold compL
  rw [this, Nat.sub_self, List.replicate_zero, List.append_nil]
def pinP (now p : Int) : Prop := p = 0 ∨ p = now ∨ p = now + 1
instance (now p : Int) : Decidable (pinP now p) := by unfold pinP; infer_instance
/-- may epochs be? -/
def RightE (e : Ep) : Prop := nodeP e.now ∧ (1 ≤ e.pins.length ∧ e.pins.length ≤ 64) ∧ (∀ p ∈ e.pins, pinP e.now p) ∧ (nodesL e).length ≤ 1000 ∧ (nodesL e).Nodup ∧ ∀ n ∈ nodesL e, nodeP n
instance (e : Ep) : Decidable (RightE e) := by unfold RightE; infer_instance
theorem right1_s (n : Int) : PS Try.prog 46 [.i n] (.b (!decide (nodeP n))) := by
  refine ps_in TYok Try.func46 (by kernel_rfl) Try.ntmps46 rfl rfl rfl (cl_b _) fun H => ?_
  (repeat' (first | (refine sq_id ?_; first | refine sq_nil ?_ | refine sm ?_ | refine sa ?_ | refine ss ?_ | refine st ?_ | refine sf ?_ | refine sp ?_ | refine sq ?_ | refine sl ?_ | refine si ?_ | refine sx ?_ | refine sy ?_ | refine sq_ps rfl rfl rfl (node_s n) (LeL.refl _) ?_) | (refine rg_id ?_; first | refine rg_fin ?_ | refine rm ?_ | refine ra ?_ | refine rs ?_ | refine rt ?_ | refine rf ?_ | refine rp ?_ | refine rq ?_ | refine rl ?_ | refine ri ?_ | refine rx ?_ | refine ry ?_ | refine sq_ps rfl rfl rfl (node_s n) (LeL.refl _) ?_) | refine aw_rseq ?_ | refine aw_seq ?_ | refine aw_region ?_ | refine aw_skip ?_ | refine ct ?_ | refine cf ?_ | refine d0s ?_ | refine d0r ?_ | refine aw_block ?_ | refine aw_exit ?_ | refine then_ret ?_ | refine then_exit ?_ | refine then_normal ?_ | refine blk_ret ?_ | refine blk_normal ?_ | refine blk_exit ?_ | refine blk_pass rfl ?_ | refine sq_ps rfl rfl rfl (node_s n) (LeL.refl _) ?_))
  ((try refine aw_ret ?_); (repeat (first | refine then_ret ?_ | refine blk_ret ?_)); refine fin_t True.intro rfl rfl ?_)
  exact ⟨.refl _, rfl⟩
theorem any_not (L : List Int) : L.any (fun n => !decide (nodeP n)) = !decide (∀ n ∈ L, nodeP n) := by
  by_cases h : ∀ n ∈ L, nodeP n
  · rw [decide_eq_true h, List.any_eq_false.2 fun n hn => by rw [decide_eq_true (h n hn)]; decide]; rfl
  · rw [decide_eq_false h]
    refine List.any_eq_true.2 ?_
    have : ∃ n, n ∈ L ∧ ¬ nodeP n := by
      refine Classical.byContradiction fun k => h fun n hn => Classical.byContradiction fun k2 => k ⟨n, hn, k2⟩
    obtain ⟨n, hn, h2⟩ := this
    exact ⟨n, hn, by rw [decide_eq_false h2]; rfl⟩
set_option maxHeartbeats 4000000 in
theorem right_s (e : Ep) (hbd : Bd e) : PS Try.prog 24 [epv e] (.b (decide (RightE e))) := by
  refine ps_in TYok Try.func24 (by kernel_rfl) Try.ntmps24 rfl rfl rfl (cl_b _) fun H => ?_
  have hN := node_s e.now
  have hnb := nodesb_s e hbd
  obtain ⟨hb1, hb2⟩ := hbd
  refine aw_seq ?_
  refine aw_region ?_
  refine sq_newk TYok TYz false rfl rfl rfl True.intro fun H1 hb1 ho1 hl1 => ?_
  by_cases h1 : nodeP e.now
  · rw [decide_eq_true h1] at hN
    by_cases h2 : e.pins.length < 1
    · rw [decide_eq_false (fun k : RightE e => by have := k.2.1.1; omega)]
      (repeat' (first | (refine sq_id ?_; first | refine sq_nil ?_ | refine sm ?_ | refine sa ?_ | refine ss ?_ | refine st ?_ | refine sf ?_ | refine sp ?_ | refine sq ?_ | refine sl ?_ | refine si ?_ | refine sx ?_ | refine sy ?_ | refine sq_ps rfl rfl rfl hN (LeL.refl _) ?_) | (refine rg_id ?_; first | refine rg_fin ?_ | refine rm ?_ | refine ra ?_ | refine rs ?_ | refine rt ?_ | refine rf ?_ | refine rp ?_ | refine rq ?_ | refine rl ?_ | refine ri ?_ | refine rx ?_ | refine ry ?_ | refine sq_ps rfl rfl rfl hN (LeL.refl _) ?_) | refine aw_rseq ?_ | refine aw_seq ?_ | refine aw_region ?_ | refine aw_skip ?_ | refine ct ?_ | refine cf ?_ | refine d0s ?_ | refine d0r ?_ | refine aw_block ?_ | refine aw_exit ?_ | refine then_ret ?_ | refine then_exit ?_ | refine then_normal ?_ | refine blk_ret ?_ | refine blk_normal ?_ | refine blk_exit ?_ | refine blk_pass rfl ?_ | refine sq_ps rfl rfl rfl hN (LeL.refl _) ?_))
      ((try refine aw_ret ?_); (repeat (first | refine then_ret ?_ | refine blk_ret ?_)); refine fin_t True.intro rfl rfl ?_)
      exact ⟨ho1.ext, rfl⟩
    by_cases h3 : 64 < e.pins.length
    · rw [decide_eq_false (fun k : RightE e => by have := k.2.1.2; omega)]
      (repeat' (first | (refine sq_id ?_; first | refine sq_nil ?_ | refine sm ?_ | refine sa ?_ | refine ss ?_ | refine st ?_ | refine sf ?_ | refine sp ?_ | refine sq ?_ | refine sl ?_ | refine si ?_ | refine sx ?_ | refine sy ?_ | refine sq_ps rfl rfl rfl hN (LeL.refl _) ?_) | (refine rg_id ?_; first | refine rg_fin ?_ | refine rm ?_ | refine ra ?_ | refine rs ?_ | refine rt ?_ | refine rf ?_ | refine rp ?_ | refine rq ?_ | refine rl ?_ | refine ri ?_ | refine rx ?_ | refine ry ?_ | refine sq_ps rfl rfl rfl hN (LeL.refl _) ?_) | refine aw_rseq ?_ | refine aw_seq ?_ | refine aw_region ?_ | refine aw_skip ?_ | refine ct ?_ | refine cf ?_ | refine d0s ?_ | refine d0r ?_ | refine aw_block ?_ | refine aw_exit ?_ | refine then_ret ?_ | refine then_exit ?_ | refine then_normal ?_ | refine blk_ret ?_ | refine blk_normal ?_ | refine blk_exit ?_ | refine blk_pass rfl ?_ | refine sq_ps rfl rfl rfl hN (LeL.refl _) ?_))
      ((try refine aw_ret ?_); (repeat (first | refine then_ret ?_ | refine blk_ret ?_)); refine fin_t True.intro rfl rfl ?_)
      exact ⟨ho1.ext, rfl⟩
    (repeat' (first | (refine sq_id ?_; first | refine sq_nil ?_ | refine sm ?_ | refine sa ?_ | refine ss ?_ | refine st ?_ | refine sf ?_ | refine sp ?_ | refine sq ?_ | refine sl ?_ | refine si ?_ | refine sx ?_ | refine sy ?_ | refine sq_ps rfl rfl rfl hN (LeL.refl _) ?_) | (refine rg_id ?_; first | refine rg_fin ?_ | refine rm ?_ | refine ra ?_ | refine rs ?_ | refine rt ?_ | refine rf ?_ | refine rp ?_ | refine rq ?_ | refine rl ?_ | refine ri ?_ | refine rx ?_ | refine ry ?_ | refine sq_ps rfl rfl rfl hN (LeL.refl _) ?_) | refine aw_rseq ?_ | refine aw_seq ?_ | refine aw_region ?_ | refine aw_skip ?_ | refine ct ?_ | refine cf ?_ | refine d0s ?_ | refine d0r ?_ | refine aw_block ?_ | refine aw_exit ?_ | refine then_ret ?_ | refine then_exit ?_ | refine then_normal ?_ | refine blk_ret ?_ | refine blk_normal ?_ | refine blk_exit ?_ | refine blk_pass rfl ?_ | refine sq_ps rfl rfl rfl hN (LeL.refl _) ?_))
    refine aw_for [1, 23, 24, 25] (fun k : Nat => [(1, .ref H.length 6 0 0), (23, ints e.pins), (24, .i e.pins.length), (25, .i k)]) (fun k H' => k ≤ e.pins.length ∧ H' = H1 ∧ ∀ p ∈ e.pins.take k, pinP e.now p) (fun k => e.pins.length - k) 0 (by rw [rstf_eq]; rfl) ⟨by omega, rfl, by simp⟩ ?_
    rintro k H2 ⟨hk, rfl, hall⟩
    obtain ⟨n0, n1⟩ := h1
    by_cases hlt : k < e.pins.length
    · have hmem := mem_getD e.pins 0 k hlt
      have next : pinP e.now (e.pins.getD k 0) → ∀ p ∈ e.pins.take (k + 1), pinP e.now p := fun hp p hm => by
        rw [List.take_add_one, List.getElem?_eq_getElem hlt] at hm
        rcases List.mem_append.1 hm with h | h
        · exact hall p h
        · simp at h
          rw [h]
          rw [List.getD_eq_getElem?_getD, List.getElem?_eq_getElem hlt] at hp
          exact hp
      by_cases p1 : e.pins.getD k 0 = 0
      · have p1' : e.pins.getD (badd 0 k) 0 = 0 := p1
        (repeat' (first | (refine sq_id ?_; first | refine sq_nil ?_ | refine sm ?_ | refine sa ?_ | refine ss ?_ | refine st ?_ | refine sf ?_ | refine sp ?_ | refine sq ?_ | refine sl ?_ | refine si ?_ | refine sx ?_ | refine sy ?_) | (refine rg_id ?_; first | refine rg_fin ?_ | refine rm ?_ | refine ra ?_ | refine rs ?_ | refine rt ?_ | refine rf ?_ | refine rp ?_ | refine rq ?_ | refine rl ?_ | refine ri ?_ | refine rx ?_ | refine ry ?_) | refine aw_rseq ?_ | refine aw_seq ?_ | refine aw_region ?_ | refine aw_skip ?_ | refine ct ?_ | refine cf ?_ | refine d0s ?_ | refine d0r ?_ | refine aw_block ?_ | refine aw_exit ?_ | refine then_ret ?_ | refine then_exit ?_ | refine then_normal ?_ | refine blk_ret ?_ | refine blk_normal ?_ | refine blk_exit ?_ | refine blk_pass rfl ?_))
        exact ⟨k + 1, by rw [rstf_eq]; rfl, ⟨by omega, rfl, next (.inl p1)⟩, by omega⟩
      have p1' : ¬ e.pins.getD (badd 0 k) 0 = 0 := p1
      by_cases p2 : e.pins.getD k 0 = e.now
      · have p2' : e.pins.getD (badd 0 k) 0 = e.now := p2
        (repeat' (first | (refine sq_id ?_; first | refine sq_nil ?_ | refine sm ?_ | refine sa ?_ | refine ss ?_ | refine st ?_ | refine sf ?_ | refine sp ?_ | refine sq ?_ | refine sl ?_ | refine si ?_ | refine sx ?_ | refine sy ?_) | (refine rg_id ?_; first | refine rg_fin ?_ | refine rm ?_ | refine ra ?_ | refine rs ?_ | refine rt ?_ | refine rf ?_ | refine rp ?_ | refine rq ?_ | refine rl ?_ | refine ri ?_ | refine rx ?_ | refine ry ?_) | refine aw_rseq ?_ | refine aw_seq ?_ | refine aw_region ?_ | refine aw_skip ?_ | refine ct ?_ | refine cf ?_ | refine d0s ?_ | refine d0r ?_ | refine aw_block ?_ | refine aw_exit ?_ | refine then_ret ?_ | refine then_exit ?_ | refine then_normal ?_ | refine blk_ret ?_ | refine blk_normal ?_ | refine blk_exit ?_ | refine blk_pass rfl ?_))
        exact ⟨k + 1, by rw [rstf_eq]; rfl, ⟨by omega, rfl, next (.inr (.inl p2))⟩, by omega⟩
      have p2' : ¬ e.pins.getD (badd 0 k) 0 = e.now := p2
      by_cases p3 : e.pins.getD k 0 = e.now + 1
      · have p3' : e.pins.getD (badd 0 k) 0 = e.now + 1 := p3
        (repeat' (first | (refine sq_id ?_; first | refine sq_nil ?_ | refine sm ?_ | refine sa ?_ | refine ss ?_ | refine st ?_ | refine sf ?_ | refine sp ?_ | refine sq ?_ | refine sl ?_ | refine si ?_ | refine sx ?_ | refine sy ?_) | (refine rg_id ?_; first | refine rg_fin ?_ | refine rm ?_ | refine ra ?_ | refine rs ?_ | refine rt ?_ | refine rf ?_ | refine rp ?_ | refine rq ?_ | refine rl ?_ | refine ri ?_ | refine rx ?_ | refine ry ?_) | refine aw_rseq ?_ | refine aw_seq ?_ | refine aw_region ?_ | refine aw_skip ?_ | refine ct ?_ | refine cf ?_ | refine d0s ?_ | refine d0r ?_ | refine aw_block ?_ | refine aw_exit ?_ | refine then_ret ?_ | refine then_exit ?_ | refine then_normal ?_ | refine blk_ret ?_ | refine blk_normal ?_ | refine blk_exit ?_ | refine blk_pass rfl ?_))
        exact ⟨k + 1, by rw [rstf_eq]; rfl, ⟨by omega, rfl, next (.inr (.inr p3))⟩, by omega⟩
      have p3' : ¬ e.pins.getD (badd 0 k) 0 = e.now + 1 := p3
      rw [decide_eq_false (fun r : RightE e => by have := r.2.2.1 _ hmem; rcases this with h | h | h; exact p1 h; exact p2 h; exact p3 h)]
      (repeat' (first | (refine sq_id ?_; first | refine sq_nil ?_ | refine sm ?_ | refine sa ?_ | refine ss ?_ | refine st ?_ | refine sf ?_ | refine sp ?_ | refine sq ?_ | refine sl ?_ | refine si ?_ | refine sx ?_ | refine sy ?_) | (refine rg_id ?_; first | refine rg_fin ?_ | refine rm ?_ | refine ra ?_ | refine rs ?_ | refine rt ?_ | refine rf ?_ | refine rp ?_ | refine rq ?_ | refine rl ?_ | refine ri ?_ | refine rx ?_ | refine ry ?_) | refine aw_rseq ?_ | refine aw_seq ?_ | refine aw_region ?_ | refine aw_skip ?_ | refine ct ?_ | refine cf ?_ | refine d0s ?_ | refine d0r ?_ | refine aw_block ?_ | refine aw_exit ?_ | refine then_ret ?_ | refine then_exit ?_ | refine then_normal ?_ | refine blk_ret ?_ | refine blk_normal ?_ | refine blk_exit ?_ | refine blk_pass rfl ?_))
      ((try refine aw_ret ?_); (repeat (first | refine then_ret ?_ | refine blk_ret ?_)); refine fin_t True.intro rfl rfl ?_)
      exact ⟨ho1.ext, rfl⟩
    · rw [List.take_of_length_le (by omega)] at hall
      (repeat' (first | (refine sq_id ?_; first | refine sq_nil ?_ | refine sm ?_ | refine sa ?_ | refine ss ?_ | refine st ?_ | refine sf ?_ | refine sp ?_ | refine sq ?_ | refine sl ?_ | refine si ?_ | refine sx ?_ | refine sy ?_) | (refine rg_id ?_; first | refine rg_fin ?_ | refine rm ?_ | refine ra ?_ | refine rs ?_ | refine rt ?_ | refine rf ?_ | refine rp ?_ | refine rq ?_ | refine rl ?_ | refine ri ?_ | refine rx ?_ | refine ry ?_) | refine aw_rseq ?_ | refine aw_seq ?_ | refine aw_region ?_ | refine aw_skip ?_ | refine ct ?_ | refine cf ?_ | refine d0s ?_ | refine d0r ?_ | refine aw_block ?_ | refine aw_exit ?_ | refine then_ret ?_ | refine then_exit ?_ | refine then_normal ?_ | refine blk_ret ?_ | refine blk_normal ?_ | refine blk_exit ?_ | refine blk_pass rfl ?_))
      refine sq_call rfl rfl rfl (LeL.refl _) ((hnb _).mono fun fa H3 he => ?_)
      obtain ⟨hx3, ha⟩ := he
      have hx := ho1.ext.trans hx3
      have hL := nodesL_len e
      have hR : RightE e ↔ (nodesL e).length ≤ 1000 ∧ (nodesL e).Nodup ∧ ∀ n ∈ nodesL e, nodeP n := ⟨fun r => r.2.2.2, fun r => ⟨⟨n0, n1⟩, ⟨by omega, by omega⟩, hall, r⟩⟩
      generalize nodesL e = L at *
      rcases ha with (⟨hz, rfl⟩ | ⟨id, b, hk2, rfl, hb, he1, he2, he3, he4⟩) | ⟨hz, g', rfl⟩
      · obtain rfl := List.eq_nil_of_length_eq_zero hz
        rw [decide_eq_true (hR.2 ⟨by simp, by simp, by simp⟩)]
        have hc := containsfunc_s [] 46 [] (fun n => !decide (nodeP n)) (by simp) H3 (.lst true []) (fun x hx => right1_s x H3)
        (repeat' (first | (refine sq_id ?_; first | refine sq_nil ?_ | refine sm ?_ | refine sa ?_ | refine ss ?_ | refine st ?_ | refine sf ?_ | refine sp ?_ | refine sq ?_ | refine sl ?_ | refine si ?_ | refine sx ?_ | refine sy ?_) | (refine rg_id ?_; first | refine rg_fin ?_ | refine rm ?_ | refine ra ?_ | refine rs ?_ | refine rt ?_ | refine rf ?_ | refine rp ?_ | refine rq ?_ | refine rl ?_ | refine ri ?_ | refine rx ?_ | refine ry ?_) | refine aw_rseq ?_ | refine aw_seq ?_ | refine aw_region ?_ | refine aw_skip ?_ | refine ct ?_ | refine cf ?_ | refine d0s ?_ | refine d0r ?_ | refine aw_block ?_ | refine aw_exit ?_ | refine then_ret ?_ | refine then_exit ?_ | refine then_normal ?_ | refine blk_ret ?_ | refine blk_normal ?_ | refine blk_exit ?_ | refine blk_pass rfl ?_))
        refine sq_ps rfl rfl rfl (sort0_s true fun _ => []) (.cons (le_nil _ _ _) .nil) ?_
        (repeat' (first | (refine sq_id ?_; first | refine sq_nil ?_ | refine sm ?_ | refine sa ?_ | refine ss ?_ | refine st ?_ | refine sf ?_ | refine sp ?_ | refine sq ?_ | refine sl ?_ | refine si ?_ | refine sx ?_ | refine sy ?_) | (refine rg_id ?_; first | refine rg_fin ?_ | refine rm ?_ | refine ra ?_ | refine rs ?_ | refine rt ?_ | refine rf ?_ | refine rp ?_ | refine rq ?_ | refine rl ?_ | refine ri ?_ | refine rx ?_ | refine ry ?_) | refine aw_rseq ?_ | refine aw_seq ?_ | refine aw_region ?_ | refine aw_skip ?_ | refine ct ?_ | refine cf ?_ | refine d0s ?_ | refine d0r ?_ | refine aw_block ?_ | refine aw_exit ?_ | refine then_ret ?_ | refine then_exit ?_ | refine then_normal ?_ | refine blk_ret ?_ | refine blk_normal ?_ | refine blk_exit ?_ | refine blk_pass rfl ?_))
        refine sq_ps rfl rfl rfl (compact0_s true fun _ => []) (.cons (le_nil _ _ _) .nil) ?_
        (repeat' (first | (refine sq_id ?_; first | refine sq_nil ?_ | refine sm ?_ | refine sa ?_ | refine ss ?_ | refine st ?_ | refine sf ?_ | refine sp ?_ | refine sq ?_ | refine sl ?_ | refine si ?_ | refine sx ?_ | refine sy ?_) | (refine rg_id ?_; first | refine rg_fin ?_ | refine rm ?_ | refine ra ?_ | refine rs ?_ | refine rt ?_ | refine rf ?_ | refine rp ?_ | refine rq ?_ | refine rl ?_ | refine ri ?_ | refine rx ?_ | refine ry ?_) | refine aw_rseq ?_ | refine aw_seq ?_ | refine aw_region ?_ | refine aw_skip ?_ | refine ct ?_ | refine cf ?_ | refine d0s ?_ | refine d0r ?_ | refine aw_block ?_ | refine aw_exit ?_ | refine then_ret ?_ | refine then_exit ?_ | refine then_normal ?_ | refine blk_ret ?_ | refine blk_normal ?_ | refine blk_exit ?_ | refine blk_pass rfl ?_))
        refine sq_call rfl rfl rfl (.cons (le_nil _ _ _) (.cons (.refl _) .nil)) (hc.mono fun r H4 he => ?_)
        obtain ⟨rfl, rfl⟩ := he
        (repeat' (first | (refine sq_id ?_; first | refine sq_nil ?_ | refine sm ?_ | refine sa ?_ | refine ss ?_ | refine st ?_ | refine sf ?_ | refine sp ?_ | refine sq ?_ | refine sl ?_ | refine si ?_ | refine sx ?_ | refine sy ?_) | (refine rg_id ?_; first | refine rg_fin ?_ | refine rm ?_ | refine ra ?_ | refine rs ?_ | refine rt ?_ | refine rf ?_ | refine rp ?_ | refine rq ?_ | refine rl ?_ | refine ri ?_ | refine rx ?_ | refine ry ?_) | refine aw_rseq ?_ | refine aw_seq ?_ | refine aw_region ?_ | refine aw_skip ?_ | refine ct ?_ | refine cf ?_ | refine d0s ?_ | refine d0r ?_ | refine aw_block ?_ | refine aw_exit ?_ | refine then_ret ?_ | refine then_exit ?_ | refine then_normal ?_ | refine blk_ret ?_ | refine blk_normal ?_ | refine blk_exit ?_ | refine blk_pass rfl ?_))
        ((try refine aw_ret ?_); (repeat (first | refine then_ret ?_ | refine blk_ret ?_)); refine fin_t True.intro rfl rfl ?_)
        exact ⟨hx, rfl⟩
      · refine sq_assign rfl rfl rfl ?_
        refine sq_nil ?_
        refine aw_norm id (iblk L) hb he1.symm he2.symm he3.symm (fun i hi => he4 i (by omega)) fun H4 hb4 ho4 hl4 => ?_
        have hc0 := fun H5 (hb5 : H5[id]? = some (some (iblk (sortL L)))) => containsfunc_s (sortL L) 46 [] (fun n => !decide (nodeP n)) (by simp; omega) H5 (.arr id _ hb5) (fun x hx => right1_s x H5)
        rw [any_not] at hc0
        have hpm : (∀ n ∈ sortL L, nodeP n) ↔ ∀ n ∈ L, nodeP n := ⟨fun h n hn => h n ((sortL_perm L).mem_iff.2 hn), fun h n hn => h n ((sortL_perm L).mem_iff.1 hn)⟩
        (repeat' (first | (refine sq_id ?_; first | refine sq_nil ?_ | refine sm ?_ | refine sa ?_ | refine ss ?_ | refine st ?_ | refine sf ?_ | refine sp ?_ | refine sq ?_ | refine sl ?_ | refine si ?_ | refine sx ?_ | refine sy ?_) | (refine rg_id ?_; first | refine rg_fin ?_ | refine rm ?_ | refine ra ?_ | refine rs ?_ | refine rt ?_ | refine rf ?_ | refine rp ?_ | refine rq ?_ | refine rl ?_ | refine ri ?_ | refine rx ?_ | refine ry ?_) | refine aw_rseq ?_ | refine aw_seq ?_ | refine aw_region ?_ | refine aw_skip ?_ | refine ct ?_ | refine cf ?_ | refine d0s ?_ | refine d0r ?_ | refine aw_block ?_ | refine aw_exit ?_ | refine then_ret ?_ | refine then_exit ?_ | refine then_normal ?_ | refine blk_ret ?_ | refine blk_normal ?_ | refine blk_exit ?_ | refine blk_pass rfl ?_))
        refine sq_call rfl rfl rfl (LeL.refl _) ((sort_s hb4 (by omega)).mono fun r H5 he => ?_)
        obtain ⟨rfl, rfl⟩ := he
        have hb5 : (H4.set id (some (iblk (sortL L))))[id]? = some (some (iblk (sortL L))) := by rw [List.getElem?_set]; simp [(List.getElem?_eq_some_iff.1 hb4).1]
        have hx5 : Ext H (H4.set id (some (iblk (sortL L)))) := (hx.oth ho4 (by rintro _ ⟨⟩; omega)).set (by omega) _
        generalize H4.set id (some (iblk (sortL L))) = H5 at hb5 hx5
        have hle : Le (.arr id 1 0 L.length) (.arr id 1 0 (sortL L).length) := by rw [sortL_len]; exact Le.refl _
        by_cases h10 : L.length ≤ 1000
        · have hcl := compact_s hb5 (by rw [sortL_len]; omega)
          by_cases hnd : L.Nodup
          · have hlen := (comp_sort L).2 hnd
            rw [comp_same L hnd, hlen] at hcl
            (repeat' (first | (refine sq_id ?_; first | refine sq_nil ?_ | refine sm ?_ | refine sa ?_ | refine ss ?_ | refine st ?_ | refine sf ?_ | refine sp ?_ | refine sq ?_ | refine sl ?_ | refine si ?_ | refine sx ?_ | refine sy ?_) | (refine rg_id ?_; first | refine rg_fin ?_ | refine rm ?_ | refine ra ?_ | refine rs ?_ | refine rt ?_ | refine rf ?_ | refine rp ?_ | refine rq ?_ | refine rl ?_ | refine ri ?_ | refine rx ?_ | refine ry ?_) | refine aw_rseq ?_ | refine aw_seq ?_ | refine aw_region ?_ | refine aw_skip ?_ | refine ct ?_ | refine cf ?_ | refine d0s ?_ | refine d0r ?_ | refine aw_block ?_ | refine aw_exit ?_ | refine then_ret ?_ | refine then_exit ?_ | refine then_normal ?_ | refine blk_ret ?_ | refine blk_normal ?_ | refine blk_exit ?_ | refine blk_pass rfl ?_))
            refine sq_call rfl rfl rfl (.cons hle .nil) (hcl.mono fun r H6 he => ?_)
            obtain ⟨rfl, rfl⟩ := he
            have hb6 : (H5.set id (some (iblk (sortL L))))[id]? = some (some (iblk (sortL L))) := by rw [List.getElem?_set]; simp [(List.getElem?_eq_some_iff.1 hb5).1]
            have hx6 := hx5.set (show H.length ≤ id by omega) (some (iblk (sortL L)))
            generalize H5.set id (some (iblk (sortL L))) = H6 at hb6 hx6
            have hc := hc0 H6 hb6
            by_cases hall2 : ∀ n ∈ L, nodeP n
            · rw [decide_eq_true (hpm.2 hall2)] at hc
              rw [decide_eq_true (hR.2 ⟨h10, hnd, hall2⟩)]
              (repeat' (first | (refine sq_id ?_; first | refine sq_nil ?_ | refine sm ?_ | refine sa ?_ | refine ss ?_ | refine st ?_ | refine sf ?_ | refine sp ?_ | refine sq ?_ | refine sl ?_ | refine si ?_ | refine sx ?_ | refine sy ?_) | (refine rg_id ?_; first | refine rg_fin ?_ | refine rm ?_ | refine ra ?_ | refine rs ?_ | refine rt ?_ | refine rf ?_ | refine rp ?_ | refine rq ?_ | refine rl ?_ | refine ri ?_ | refine rx ?_ | refine ry ?_) | refine aw_rseq ?_ | refine aw_seq ?_ | refine aw_region ?_ | refine aw_skip ?_ | refine ct ?_ | refine cf ?_ | refine d0s ?_ | refine d0r ?_ | refine aw_block ?_ | refine aw_exit ?_ | refine then_ret ?_ | refine then_exit ?_ | refine then_normal ?_ | refine blk_ret ?_ | refine blk_normal ?_ | refine blk_exit ?_ | refine blk_pass rfl ?_))
              refine sq_call rfl rfl rfl (.cons hle (.cons (.refl _) .nil)) (hc.mono fun r H7 he => ?_)
              obtain ⟨rfl, rfl⟩ := he
              (repeat' (first | (refine sq_id ?_; first | refine sq_nil ?_ | refine sm ?_ | refine sa ?_ | refine ss ?_ | refine st ?_ | refine sf ?_ | refine sp ?_ | refine sq ?_ | refine sl ?_ | refine si ?_ | refine sx ?_ | refine sy ?_) | (refine rg_id ?_; first | refine rg_fin ?_ | refine rm ?_ | refine ra ?_ | refine rs ?_ | refine rt ?_ | refine rf ?_ | refine rp ?_ | refine rq ?_ | refine rl ?_ | refine ri ?_ | refine rx ?_ | refine ry ?_) | refine aw_rseq ?_ | refine aw_seq ?_ | refine aw_region ?_ | refine aw_skip ?_ | refine ct ?_ | refine cf ?_ | refine d0s ?_ | refine d0r ?_ | refine aw_block ?_ | refine aw_exit ?_ | refine then_ret ?_ | refine then_exit ?_ | refine then_normal ?_ | refine blk_ret ?_ | refine blk_normal ?_ | refine blk_exit ?_ | refine blk_pass rfl ?_))
              ((try refine aw_ret ?_); (repeat (first | refine then_ret ?_ | refine blk_ret ?_)); refine fin_t True.intro rfl rfl ?_)
              exact ⟨hx6, rfl⟩
            · rw [decide_eq_false (fun k => hall2 (hpm.1 k))] at hc
              rw [decide_eq_false (fun k => hall2 (hR.1 k).2.2)]
              (repeat' (first | (refine sq_id ?_; first | refine sq_nil ?_ | refine sm ?_ | refine sa ?_ | refine ss ?_ | refine st ?_ | refine sf ?_ | refine sp ?_ | refine sq ?_ | refine sl ?_ | refine si ?_ | refine sx ?_ | refine sy ?_) | (refine rg_id ?_; first | refine rg_fin ?_ | refine rm ?_ | refine ra ?_ | refine rs ?_ | refine rt ?_ | refine rf ?_ | refine rp ?_ | refine rq ?_ | refine rl ?_ | refine ri ?_ | refine rx ?_ | refine ry ?_) | refine aw_rseq ?_ | refine aw_seq ?_ | refine aw_region ?_ | refine aw_skip ?_ | refine ct ?_ | refine cf ?_ | refine d0s ?_ | refine d0r ?_ | refine aw_block ?_ | refine aw_exit ?_ | refine then_ret ?_ | refine then_exit ?_ | refine then_normal ?_ | refine blk_ret ?_ | refine blk_normal ?_ | refine blk_exit ?_ | refine blk_pass rfl ?_))
              refine sq_call rfl rfl rfl (.cons hle (.cons (.refl _) .nil)) (hc.mono fun r H7 he => ?_)
              obtain ⟨rfl, rfl⟩ := he
              (repeat' (first | (refine sq_id ?_; first | refine sq_nil ?_ | refine sm ?_ | refine sa ?_ | refine ss ?_ | refine st ?_ | refine sf ?_ | refine sp ?_ | refine sq ?_ | refine sl ?_ | refine si ?_ | refine sx ?_ | refine sy ?_) | (refine rg_id ?_; first | refine rg_fin ?_ | refine rm ?_ | refine ra ?_ | refine rs ?_ | refine rt ?_ | refine rf ?_ | refine rp ?_ | refine rq ?_ | refine rl ?_ | refine ri ?_ | refine rx ?_ | refine ry ?_) | refine aw_rseq ?_ | refine aw_seq ?_ | refine aw_region ?_ | refine aw_skip ?_ | refine ct ?_ | refine cf ?_ | refine d0s ?_ | refine d0r ?_ | refine aw_block ?_ | refine aw_exit ?_ | refine then_ret ?_ | refine then_exit ?_ | refine then_normal ?_ | refine blk_ret ?_ | refine blk_normal ?_ | refine blk_exit ?_ | refine blk_pass rfl ?_))
              ((try refine aw_ret ?_); (repeat (first | refine then_ret ?_ | refine blk_ret ?_)); refine fin_t True.intro rfl rfl ?_)
              exact ⟨hx6, rfl⟩
          · have hlen : ¬ (Lib.compact (sortL L)).length = L.length := fun k => hnd ((comp_sort L).1 k)
            rw [decide_eq_false (fun k => hnd (hR.1 k).2.1)]
            generalize (Lib.compact (sortL L)).length = cl at *
            (repeat' (first | (refine sq_id ?_; first | refine sq_nil ?_ | refine sm ?_ | refine sa ?_ | refine ss ?_ | refine st ?_ | refine sf ?_ | refine sp ?_ | refine sq ?_ | refine sl ?_ | refine si ?_ | refine sx ?_ | refine sy ?_) | (refine rg_id ?_; first | refine rg_fin ?_ | refine rm ?_ | refine ra ?_ | refine rs ?_ | refine rt ?_ | refine rf ?_ | refine rp ?_ | refine rq ?_ | refine rl ?_ | refine ri ?_ | refine rx ?_ | refine ry ?_) | refine aw_rseq ?_ | refine aw_seq ?_ | refine aw_region ?_ | refine aw_skip ?_ | refine ct ?_ | refine cf ?_ | refine d0s ?_ | refine d0r ?_ | refine aw_block ?_ | refine aw_exit ?_ | refine then_ret ?_ | refine then_exit ?_ | refine then_normal ?_ | refine blk_ret ?_ | refine blk_normal ?_ | refine blk_exit ?_ | refine blk_pass rfl ?_))
            refine sq_call rfl rfl rfl (.cons hle .nil) (hcl.mono fun r H6 he => ?_)
            obtain ⟨rfl, rfl⟩ := he
            have hx6 := hx5.set (show H.length ≤ id by omega) (some (iblk (compL (sortL L))))
            generalize H5.set id (some (iblk (compL (sortL L)))) = H6 at hx6
            (repeat' (first | (refine sq_id ?_; first | refine sq_nil ?_ | refine sm ?_ | refine sa ?_ | refine ss ?_ | refine st ?_ | refine sf ?_ | refine sp ?_ | refine sq ?_ | refine sl ?_ | refine si ?_ | refine sx ?_ | refine sy ?_) | (refine rg_id ?_; first | refine rg_fin ?_ | refine rm ?_ | refine ra ?_ | refine rs ?_ | refine rt ?_ | refine rf ?_ | refine rp ?_ | refine rq ?_ | refine rl ?_ | refine ri ?_ | refine rx ?_ | refine ry ?_) | refine aw_rseq ?_ | refine aw_seq ?_ | refine aw_region ?_ | refine aw_skip ?_ | refine ct ?_ | refine cf ?_ | refine d0s ?_ | refine d0r ?_ | refine aw_block ?_ | refine aw_exit ?_ | refine then_ret ?_ | refine then_exit ?_ | refine then_normal ?_ | refine blk_ret ?_ | refine blk_normal ?_ | refine blk_exit ?_ | refine blk_pass rfl ?_))
            ((try refine aw_ret ?_); (repeat (first | refine then_ret ?_ | refine blk_ret ?_)); refine fin_t True.intro rfl rfl ?_)
            exact ⟨hx6, rfl⟩
        · rw [decide_eq_false (fun k => h10 (hR.1 k).1)]
          (repeat' (first | (refine sq_id ?_; first | refine sq_nil ?_ | refine sm ?_ | refine sa ?_ | refine ss ?_ | refine st ?_ | refine sf ?_ | refine sp ?_ | refine sq ?_ | refine sl ?_ | refine si ?_ | refine sx ?_ | refine sy ?_) | (refine rg_id ?_; first | refine rg_fin ?_ | refine rm ?_ | refine ra ?_ | refine rs ?_ | refine rt ?_ | refine rf ?_ | refine rp ?_ | refine rq ?_ | refine rl ?_ | refine ri ?_ | refine rx ?_ | refine ry ?_) | refine aw_rseq ?_ | refine aw_seq ?_ | refine aw_region ?_ | refine aw_skip ?_ | refine ct ?_ | refine cf ?_ | refine d0s ?_ | refine d0r ?_ | refine aw_block ?_ | refine aw_exit ?_ | refine then_ret ?_ | refine then_exit ?_ | refine then_normal ?_ | refine blk_ret ?_ | refine blk_normal ?_ | refine blk_exit ?_ | refine blk_pass rfl ?_))
          ((try refine aw_ret ?_); (repeat (first | refine then_ret ?_ | refine blk_ret ?_)); refine fin_t True.intro rfl rfl ?_)
          exact ⟨hx5, rfl⟩
      · obtain rfl := List.eq_nil_of_length_eq_zero hz
        rw [decide_eq_true (hR.2 ⟨by simp, by simp, by simp⟩)]
        have hle : Le (.lst true 1 0 g') (.lst true 1 ([] : List Int).length fun i => [.i (([] : List Int).getD i 0)]) := le_lst (fun h => h) fun i hi => by omega
        have hc := containsfunc_s [] 46 [] (fun n => !decide (nodeP n)) (by simp) H3 (.lst true []) (fun x hx => right1_s x H3)
        (repeat' (first | (refine sq_id ?_; first | refine sq_nil ?_ | refine sm ?_ | refine sa ?_ | refine ss ?_ | refine st ?_ | refine sf ?_ | refine sp ?_ | refine sq ?_ | refine sl ?_ | refine si ?_ | refine sx ?_ | refine sy ?_) | (refine rg_id ?_; first | refine rg_fin ?_ | refine rm ?_ | refine ra ?_ | refine rs ?_ | refine rt ?_ | refine rf ?_ | refine rp ?_ | refine rq ?_ | refine rl ?_ | refine ri ?_ | refine rx ?_ | refine ry ?_) | refine aw_rseq ?_ | refine aw_seq ?_ | refine aw_region ?_ | refine aw_skip ?_ | refine ct ?_ | refine cf ?_ | refine d0s ?_ | refine d0r ?_ | refine aw_block ?_ | refine aw_exit ?_ | refine then_ret ?_ | refine then_exit ?_ | refine then_normal ?_ | refine blk_ret ?_ | refine blk_normal ?_ | refine blk_exit ?_ | refine blk_pass rfl ?_))
        refine sq_ps rfl rfl rfl (sort0_s true g') (LeL.refl _) ?_
        (repeat' (first | (refine sq_id ?_; first | refine sq_nil ?_ | refine sm ?_ | refine sa ?_ | refine ss ?_ | refine st ?_ | refine sf ?_ | refine sp ?_ | refine sq ?_ | refine sl ?_ | refine si ?_ | refine sx ?_ | refine sy ?_) | (refine rg_id ?_; first | refine rg_fin ?_ | refine rm ?_ | refine ra ?_ | refine rs ?_ | refine rt ?_ | refine rf ?_ | refine rp ?_ | refine rq ?_ | refine rl ?_ | refine ri ?_ | refine rx ?_ | refine ry ?_) | refine aw_rseq ?_ | refine aw_seq ?_ | refine aw_region ?_ | refine aw_skip ?_ | refine ct ?_ | refine cf ?_ | refine d0s ?_ | refine d0r ?_ | refine aw_block ?_ | refine aw_exit ?_ | refine then_ret ?_ | refine then_exit ?_ | refine then_normal ?_ | refine blk_ret ?_ | refine blk_normal ?_ | refine blk_exit ?_ | refine blk_pass rfl ?_))
        refine sq_ps rfl rfl rfl (compact0_s true g') (LeL.refl _) ?_
        (repeat' (first | (refine sq_id ?_; first | refine sq_nil ?_ | refine sm ?_ | refine sa ?_ | refine ss ?_ | refine st ?_ | refine sf ?_ | refine sp ?_ | refine sq ?_ | refine sl ?_ | refine si ?_ | refine sx ?_ | refine sy ?_) | (refine rg_id ?_; first | refine rg_fin ?_ | refine rm ?_ | refine ra ?_ | refine rs ?_ | refine rt ?_ | refine rf ?_ | refine rp ?_ | refine rq ?_ | refine rl ?_ | refine ri ?_ | refine rx ?_ | refine ry ?_) | refine aw_rseq ?_ | refine aw_seq ?_ | refine aw_region ?_ | refine aw_skip ?_ | refine ct ?_ | refine cf ?_ | refine d0s ?_ | refine d0r ?_ | refine aw_block ?_ | refine aw_exit ?_ | refine then_ret ?_ | refine then_exit ?_ | refine then_normal ?_ | refine blk_ret ?_ | refine blk_normal ?_ | refine blk_exit ?_ | refine blk_pass rfl ?_))
        refine sq_call rfl rfl rfl (.cons hle (.cons (.refl _) .nil)) (hc.mono fun r H4 he => ?_)
        obtain ⟨rfl, rfl⟩ := he
        (repeat' (first | (refine sq_id ?_; first | refine sq_nil ?_ | refine sm ?_ | refine sa ?_ | refine ss ?_ | refine st ?_ | refine sf ?_ | refine sp ?_ | refine sq ?_ | refine sl ?_ | refine si ?_ | refine sx ?_ | refine sy ?_) | (refine rg_id ?_; first | refine rg_fin ?_ | refine rm ?_ | refine ra ?_ | refine rs ?_ | refine rt ?_ | refine rf ?_ | refine rp ?_ | refine rq ?_ | refine rl ?_ | refine ri ?_ | refine rx ?_ | refine ry ?_) | refine aw_rseq ?_ | refine aw_seq ?_ | refine aw_region ?_ | refine aw_skip ?_ | refine ct ?_ | refine cf ?_ | refine d0s ?_ | refine d0r ?_ | refine aw_block ?_ | refine aw_exit ?_ | refine then_ret ?_ | refine then_exit ?_ | refine then_normal ?_ | refine blk_ret ?_ | refine blk_normal ?_ | refine blk_exit ?_ | refine blk_pass rfl ?_))
        ((try refine aw_ret ?_); (repeat (first | refine then_ret ?_ | refine blk_ret ?_)); refine fin_t True.intro rfl rfl ?_)
        exact ⟨hx, rfl⟩
  · rw [decide_eq_false h1] at hN
    rw [decide_eq_false (fun r : RightE e => h1 r.1)]
    (repeat' (first | (refine sq_id ?_; first | refine sq_nil ?_ | refine sm ?_ | refine sa ?_ | refine ss ?_ | refine st ?_ | refine sf ?_ | refine sp ?_ | refine sq ?_ | refine sl ?_ | refine si ?_ | refine sx ?_ | refine sy ?_ | refine sq_ps rfl rfl rfl hN (LeL.refl _) ?_) | (refine rg_id ?_; first | refine rg_fin ?_ | refine rm ?_ | refine ra ?_ | refine rs ?_ | refine rt ?_ | refine rf ?_ | refine rp ?_ | refine rq ?_ | refine rl ?_ | refine ri ?_ | refine rx ?_ | refine ry ?_ | refine sq_ps rfl rfl rfl hN (LeL.refl _) ?_) | refine aw_rseq ?_ | refine aw_seq ?_ | refine aw_region ?_ | refine aw_skip ?_ | refine ct ?_ | refine cf ?_ | refine d0s ?_ | refine d0r ?_ | refine aw_block ?_ | refine aw_exit ?_ | refine then_ret ?_ | refine then_exit ?_ | refine then_normal ?_ | refine blk_ret ?_ | refine blk_normal ?_ | refine blk_exit ?_ | refine blk_pass rfl ?_ | refine sq_ps rfl rfl rfl hN (LeL.refl _) ?_))
    ((try refine aw_ret ?_); (repeat (first | refine then_ret ?_ | refine blk_ret ?_)); refine fin_t True.intro rfl rfl ?_)
    exact ⟨ho1.ext, rfl⟩
end Go.Proofs.Ytmhepmocnnlhnaa.Ab
