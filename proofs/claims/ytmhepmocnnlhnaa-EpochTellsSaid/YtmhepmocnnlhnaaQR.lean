/- The document's own: Pin, Unpin, Retire, Advance, Take. -/
import Derived.Test.YtmhepmocnnlhnaaQQ
import Derived.Test.YtmhepmocnnlhnaaQL
import Derived.Test.YtmhepmocnnlhnaaFI
namespace Go.Proofs.Ytmhepmocnnlhnaa.Ab
open Go Go.RowKit
theorem Own5.ids {k : Nat} {H : AH} {e : Ep} {a0 a1 a2 a3 a4 : AV} (h : Own5 k H e a0 a1 a2 a3 a4) : ∀ a ∈ [a0, a1, a2, a3, a4], ∀ i, accId a = some i → k ≤ i ∧ i < H.length := fun a ha i hi => by
  simp only [List.mem_cons, List.not_mem_nil, or_false] at ha
  rcases ha with rfl | rfl | rfl | rfl | rfl
  · exact ⟨h.h0.up i hi, h.t0 i hi⟩
  · exact ⟨h.h1.up i hi, h.t1 i hi⟩
  · exact ⟨h.h2.up i hi, h.t2 i hi⟩
  · exact ⟨h.h3.up i hi, h.t3 i hi⟩
  · exact ⟨h.h4.up i hi, h.t4 i hi⟩
/-- the result of a change that is told as epochs and an error -/
theorem fin_ref {H G G' : AH} {k id : Nat} {e : Ep} {er : Int} {a0 a1 a2 a3 a4 : AV} (hE : Oth H G none) (hO : Own5 k G e a0 a1 a2 a3 a4) (ho : Oth G G' (some id)) (h1 : H.length ≤ id) (h2 : id < k) : Ext H G' ∧ Frz H.length G' (.tup [.agg (cells5 e.now a0 a1 a2 a3 a4), .i er]) (eres (e, er)) :=
  ⟨(hE.new ho h1).ext, FrzL.tup (.cons ((hO.keepO ho (fun a ha i hi => by have := (hO.ids a ha i hi).1; simp; omega)).frz.low (by omega)) (.cons (.le (Le.refl _)) .nil))⟩
set_option maxHeartbeats 4000000 in
theorem refpin_s (e : Ep) (hbd : Bd e) (i : Int) : PS Try.prog 15 [epv e, .i i] (eres (pinE e i)) := by
  refine ps_frz (cl_eres _) fun H => ?_
  have hW := wrong_s e hbd i
  refine sc_in TYok Try.func15 (by kernel_rfl) Try.ntmps15 rfl rfl rfl ?_
  refine aw_seq ?_
  refine aw_region ?_
  refine nw fun H1 hb1 ho1 hl1 => ?_
  refine nw fun H2 hb2 ho2 hl2 => ?_
  have hb12 := ho2.get0 hb1
  (repeat' (first | (refine sq_id ?_; first | refine sq_nil ?_ | refine sm ?_ | refine sa ?_ | refine ss ?_ | refine st ?_ | refine sf ?_ | refine sp ?_ | refine sq ?_ | refine sl ?_ | refine si ?_ | refine sx ?_ | refine sy ?_) | (refine rg_id ?_; first | refine rg_fin ?_ | refine rm ?_ | refine ra ?_ | refine rs ?_ | refine rt ?_ | refine rf ?_ | refine rp ?_ | refine rq ?_ | refine rl ?_ | refine ri ?_ | refine rx ?_ | refine ry ?_) | refine aw_rseq ?_ | refine aw_seq ?_ | refine aw_region ?_ | refine aw_skip ?_ | refine ct ?_ | refine cf ?_ | refine d0s ?_ | refine d0r ?_ | refine aw_block ?_ | refine aw_exit ?_ | refine then_ret ?_ | refine then_exit ?_ | refine then_normal ?_ | refine blk_ret ?_ | refine blk_normal ?_ | refine blk_exit ?_ | refine blk_pass rfl ?_))
  refine sq_call rfl rfl rfl (LeL.refl _) ((refown_s e hbd H2).mono fun r H3 he => ?_)
  obtain ⟨ho3, a0, a1, a2, a3, a4, rfl, hO⟩ := he
  have hids := hO.ids
  have hl3 := ho3.1
  refine nw fun H4 hb4 ho4 hl4 => ?_
  refine sw hb4 fun H5 hb5 ho5 hl5 => ?_
  refine sq_nil ?_
  refine aw_norm H3.length (ebk (cells5 e.now a0 a1 a2 a3 a4)) hb5 rfl rfl rfl (one_of rfl rfl) fun H6 hb6 ho6 hl6 => ?_
  have hE6 : Oth H H6 none := ((((ho1.trans0 ho2).trans0 ho3).trans0 ho4).new ho5 (by omega)).new ho6 (by omega)
  have hb16 := ho6.get (ho5.get (ho4.get0 (ho3.get0 hb12)) (by simp; omega)) (by simp; omega)
  have hr6 := ho6.get (ho5.get (ho4.get0 (ho3.get0 hb2)) (by simp; omega)) (by simp; omega)
  have hO6 : Own5 H2.length H6 e a0 a1 a2 a3 a4 := ((hO.keepO ho4 (fun _ _ _ _ => by simp)).keepO ho5 (fun a ha i hi => by have := hids a ha i hi; simp; omega)).keepO ho6 (fun a ha i hi => by have := hids a ha i hi; simp; omega)

  by_cases hok : RightE e ∧ 0 ≤ i ∧ i < e.pins.length
  · have hok2 := hok
    rw [decide_eq_true hok] at hW
    obtain ⟨hr, i0, i1⟩ := hok
    obtain ⟨⟨n0, n1⟩, _⟩ := hr
    obtain ⟨j, rfl⟩ := Int.eq_ofNat_of_zero_le i0
    have hj : j < e.pins.length := by omega
    have hok' : RightE e ∧ 0 ≤ (j : Int) ∧ (j : Int) < e.pins.length := hok2
    by_cases hp : e.pins.getD j 0 = 0
    · have hp' : e.pins.getD (badd 0 j) 0 = 0 := hp
      have e1 : pinE e j = ({ e with pins := e.pins.set j (e.now + 1) }, 0) := by
        unfold pinE pinop
        rw [if_pos hok', Int.toNat_natCast, if_pos (by dsimp only; rw [if_pos hp])]
      rw [e1]
      rcases id hO6.h0 with (⟨hz, _⟩ | ⟨id, b, hk, ha, hb, q1, q2, q3, q4⟩) | ⟨hz, _⟩
      · omega
      · subst ha
        refine aw_norm id (iblk e.pins) hb q1.symm q2.symm q3.symm (fun i hi => q4 i (by omega)) fun H7 hb7 ho7 hl7 => ?_
        have hid := hids _ (List.mem_cons_self ..) id rfl
        have hb6 := ho7.get hb6 (by simp; omega)
        have hb16 := ho7.get hb16 (by simp; omega)
        have hr7 := ho7.get hr6 (by simp; omega)
        (repeat' (first | (refine sq_id ?_; first | refine sq_nil ?_ | refine sm ?_ | refine sa ?_ | refine ss ?_ | refine st ?_ | refine sf ?_ | refine sp ?_ | refine sq ?_ | refine sl ?_ | refine si ?_ | refine sx ?_ | refine sy ?_ | refine sc hW ?_ | refine sq_load (v := .arr id 1 0 e.pins.length) TYok rfl rfl rfl hb6 rfl Nat.zero_lt_one (apart_sl _ _) ?_) | (refine rg_id ?_; first | refine rg_fin ?_ | refine rm ?_ | refine ra ?_ | refine rs ?_ | refine rt ?_ | refine rf ?_ | refine rp ?_ | refine rq ?_ | refine rl ?_ | refine ri ?_ | refine rx ?_ | refine ry ?_ | refine sc hW ?_ | refine sq_load (v := .arr id 1 0 e.pins.length) TYok rfl rfl rfl hb6 rfl Nat.zero_lt_one (apart_sl _ _) ?_) | refine aw_rseq ?_ | refine aw_seq ?_ | refine aw_region ?_ | refine aw_skip ?_ | refine ct ?_ | refine cf ?_ | refine d0s ?_ | refine d0r ?_ | refine aw_block ?_ | refine aw_exit ?_ | refine then_ret ?_ | refine then_exit ?_ | refine then_normal ?_ | refine blk_ret ?_ | refine blk_normal ?_ | refine blk_exit ?_ | refine blk_pass rfl ?_ | refine sc hW ?_ | refine sq_load (v := .arr id 1 0 e.pins.length) TYok rfl rfl rfl hb6 rfl Nat.zero_lt_one (apart_sl _ _) ?_))
        refine sq_storek TYok rfl rfl rfl hb7 rfl (by show j < e.pins.length; exact hj) rfl rfl rfl (Nat.le_of_ble_eq_true rfl) fun H9 hb9 ho9 hl9 => ?_
        refine sq_nil ?_
        refine aw_norm id (iblk (e.pins.set j (e.now + 1))) hb9 rfl rfl (by show (List.set _ _ _).length = e.pins.length; rw [List.length_set]) (fun i _ => put_int e.pins j _ hj i) fun H10 hb10 ho10 hl10 => ?_
        have hb6 := ho10.get (ho9.get hb6 (by simp; omega)) (by simp; omega)
        have hr6 := ho10.get (ho9.get hr7 (by simp; omega)) (by simp; omega)
        have hO6 : Own5 H2.length H10 { e with pins := e.pins.set j (e.now + 1) } (.arr id 1 0 e.pins.length) a1 a2 a3 a4 :=
          hO6.r0 (H' := H10) (r := .arr id 1 0 e.pins.length) (xs := e.pins.set j (e.now + 1)) ((ho7.app ho9 (.inl rfl)).app ho10 (.inl rfl)) (.inl (.inr ⟨id, _, hid.1, by rw [List.length_set], hb10, rfl, rfl, rfl, fun _ _ => rfl⟩)) (.inr (.inl rfl))
        have hE6 : Oth H H10 none := ((hE6.new ho7 (by omega)).new ho9 (by omega)).new ho10 (by omega)
        (repeat' (first | (refine sq_id ?_; first | refine sq_nil ?_ | refine sm ?_ | refine sa ?_ | refine ss ?_ | refine st ?_ | refine sf ?_ | refine sp ?_ | refine sq ?_ | refine sl ?_ | refine si ?_ | refine sx ?_ | refine sy ?_ | refine sq_load (v := .agg (cells5 e.now (.arr id 1 0 e.pins.length) a1 a2 a3 a4)) TYok rfl rfl rfl hb6 rfl Nat.zero_lt_one (apart_ep _ rfl) ?_) | (refine rg_id ?_; first | refine rg_fin ?_ | refine rm ?_ | refine ra ?_ | refine rs ?_ | refine rt ?_ | refine rf ?_ | refine rp ?_ | refine rq ?_ | refine rl ?_ | refine ri ?_ | refine rx ?_ | refine ry ?_ | refine sq_load (v := .agg (cells5 e.now (.arr id 1 0 e.pins.length) a1 a2 a3 a4)) TYok rfl rfl rfl hb6 rfl Nat.zero_lt_one (apart_ep _ rfl) ?_) | refine aw_rseq ?_ | refine aw_seq ?_ | refine aw_region ?_ | refine aw_skip ?_ | refine ct ?_ | refine cf ?_ | refine d0s ?_ | refine d0r ?_ | refine aw_block ?_ | refine aw_exit ?_ | refine then_ret ?_ | refine then_exit ?_ | refine then_normal ?_ | refine blk_ret ?_ | refine blk_normal ?_ | refine blk_exit ?_ | refine blk_pass rfl ?_ | refine sq_load (v := .agg (cells5 e.now (.arr id 1 0 e.pins.length) a1 a2 a3 a4)) TYok rfl rfl rfl hb6 rfl Nat.zero_lt_one (apart_ep _ rfl) ?_))
        refine sw hr6 fun H8 hb8 ho8 hl8 => ?_
        (repeat' (first | (refine sq_id ?_; first | refine sq_nil ?_ | refine sm ?_ | refine sa ?_ | refine ss ?_ | refine st ?_ | refine sf ?_ | refine sp ?_ | refine sq ?_ | refine sl ?_ | refine si ?_ | refine sx ?_ | refine sy ?_) | (refine rg_id ?_; first | refine rg_fin ?_ | refine rm ?_ | refine ra ?_ | refine rs ?_ | refine rt ?_ | refine rf ?_ | refine rp ?_ | refine rq ?_ | refine rl ?_ | refine ri ?_ | refine rx ?_ | refine ry ?_) | refine aw_rseq ?_ | refine aw_seq ?_ | refine aw_region ?_ | refine aw_skip ?_ | refine ct ?_ | refine cf ?_ | refine d0s ?_ | refine d0r ?_ | refine aw_block ?_ | refine aw_exit ?_ | refine then_ret ?_ | refine then_exit ?_ | refine then_normal ?_ | refine blk_ret ?_ | refine blk_normal ?_ | refine blk_exit ?_ | refine blk_pass rfl ?_ | refine aw_dec rfl (fun _ => ?_) (fun _ => ?_)))
        ((try refine aw_ret ?_); (repeat (first | refine then_ret ?_ | refine blk_ret ?_)))
        exact ⟨True.intro, _, .cell _ _ _ _ _ _ _ _ _ rfl hb8 rfl Nat.zero_lt_one (by show apart TY _ (splice _ 0 (cells5 e.now (.arr id 1 0 e.pins.length) a1 a2 a3 a4)) = _; rw [splice_all (by rfl)]; exact apart_ep _ rfl) (.tmp _ _ _ .nil), fin_ref hE6 hO6 ho8 (by omega) (by omega)⟩
      · omega
    · have hp' : ¬ e.pins.getD (badd 0 j) 0 = 0 := hp
      have e1 : pinE e j = (e, 41) := by
        unfold pinE pinop
        rw [if_pos hok', Int.toNat_natCast, if_neg (by dsimp only; rw [if_neg hp]; decide)]
        simp only [if_neg hp]
      rw [e1]
      (repeat' (first | (refine sq_id ?_; first | refine sq_nil ?_ | refine sm ?_ | refine sa ?_ | refine ss ?_ | refine st ?_ | refine sf ?_ | refine sp ?_ | refine sq ?_ | refine sl ?_ | refine si ?_ | refine sx ?_ | refine sy ?_ | refine sc hW ?_ | refine sq_load (v := .agg (cells5 e.now a0 a1 a2 a3 a4)) TYok rfl rfl rfl hb6 rfl Nat.zero_lt_one (apart_ep _ rfl) ?_) | (refine rg_id ?_; first | refine rg_fin ?_ | refine rm ?_ | refine ra ?_ | refine rs ?_ | refine rt ?_ | refine rf ?_ | refine rp ?_ | refine rq ?_ | refine rl ?_ | refine ri ?_ | refine rx ?_ | refine ry ?_ | refine sc hW ?_ | refine sq_load (v := .agg (cells5 e.now a0 a1 a2 a3 a4)) TYok rfl rfl rfl hb6 rfl Nat.zero_lt_one (apart_ep _ rfl) ?_) | refine aw_rseq ?_ | refine aw_seq ?_ | refine aw_region ?_ | refine aw_skip ?_ | refine ct ?_ | refine cf ?_ | refine d0s ?_ | refine d0r ?_ | refine aw_block ?_ | refine aw_exit ?_ | refine then_ret ?_ | refine then_exit ?_ | refine then_normal ?_ | refine blk_ret ?_ | refine blk_normal ?_ | refine blk_exit ?_ | refine blk_pass rfl ?_ | refine sc hW ?_ | refine sq_load (v := .agg (cells5 e.now a0 a1 a2 a3 a4)) TYok rfl rfl rfl hb6 rfl Nat.zero_lt_one (apart_ep _ rfl) ?_))
      refine sw hr6 fun H8 hb8 ho8 hl8 => ?_
      (repeat' (first | (refine sq_id ?_; first | refine sq_nil ?_ | refine sm ?_ | refine sa ?_ | refine ss ?_ | refine st ?_ | refine sf ?_ | refine sp ?_ | refine sq ?_ | refine sl ?_ | refine si ?_ | refine sx ?_ | refine sy ?_) | (refine rg_id ?_; first | refine rg_fin ?_ | refine rm ?_ | refine ra ?_ | refine rs ?_ | refine rt ?_ | refine rf ?_ | refine rp ?_ | refine rq ?_ | refine rl ?_ | refine ri ?_ | refine rx ?_ | refine ry ?_) | refine aw_rseq ?_ | refine aw_seq ?_ | refine aw_region ?_ | refine aw_skip ?_ | refine ct ?_ | refine cf ?_ | refine d0s ?_ | refine d0r ?_ | refine aw_block ?_ | refine aw_exit ?_ | refine then_ret ?_ | refine then_exit ?_ | refine then_normal ?_ | refine blk_ret ?_ | refine blk_normal ?_ | refine blk_exit ?_ | refine blk_pass rfl ?_ | refine aw_dec rfl (fun _ => ?_) (fun _ => ?_)))
      ((try refine aw_ret ?_); (repeat (first | refine then_ret ?_ | refine blk_ret ?_)))
      exact ⟨True.intro, _, .cell _ _ _ _ _ _ _ _ _ rfl hb8 rfl Nat.zero_lt_one (by show apart TY _ (splice _ 0 (cells5 e.now a0 a1 a2 a3 a4)) = _; rw [splice_all (by rfl)]; exact apart_ep _ rfl) (.tmp _ _ _ .nil), fin_ref hE6 hO6 ho8 (by omega) (by omega)⟩
  · have e1 : pinE e i = (e, 1) := if_neg hok
    rw [decide_eq_false hok] at hW
    rw [e1]
    (repeat' (first | (refine sq_id ?_; first | refine sq_nil ?_ | refine sm ?_ | refine sa ?_ | refine ss ?_ | refine st ?_ | refine sf ?_ | refine sp ?_ | refine sq ?_ | refine sl ?_ | refine si ?_ | refine sx ?_ | refine sy ?_ | refine sc hW ?_ | refine sq_load (v := .agg (cells5 e.now a0 a1 a2 a3 a4)) TYok rfl rfl rfl hb6 rfl Nat.zero_lt_one (apart_ep _ rfl) ?_) | (refine rg_id ?_; first | refine rg_fin ?_ | refine rm ?_ | refine ra ?_ | refine rs ?_ | refine rt ?_ | refine rf ?_ | refine rp ?_ | refine rq ?_ | refine rl ?_ | refine ri ?_ | refine rx ?_ | refine ry ?_ | refine sc hW ?_ | refine sq_load (v := .agg (cells5 e.now a0 a1 a2 a3 a4)) TYok rfl rfl rfl hb6 rfl Nat.zero_lt_one (apart_ep _ rfl) ?_) | refine aw_rseq ?_ | refine aw_seq ?_ | refine aw_region ?_ | refine aw_skip ?_ | refine ct ?_ | refine cf ?_ | refine d0s ?_ | refine d0r ?_ | refine aw_block ?_ | refine aw_exit ?_ | refine then_ret ?_ | refine then_exit ?_ | refine then_normal ?_ | refine blk_ret ?_ | refine blk_normal ?_ | refine blk_exit ?_ | refine blk_pass rfl ?_ | refine sc hW ?_ | refine sq_load (v := .agg (cells5 e.now a0 a1 a2 a3 a4)) TYok rfl rfl rfl hb6 rfl Nat.zero_lt_one (apart_ep _ rfl) ?_))
    refine sw hr6 fun H8 hb8 ho8 hl8 => ?_
    (repeat' (first | (refine sq_id ?_; first | refine sq_nil ?_ | refine sm ?_ | refine sa ?_ | refine ss ?_ | refine st ?_ | refine sf ?_ | refine sp ?_ | refine sq ?_ | refine sl ?_ | refine si ?_ | refine sx ?_ | refine sy ?_) | (refine rg_id ?_; first | refine rg_fin ?_ | refine rm ?_ | refine ra ?_ | refine rs ?_ | refine rt ?_ | refine rf ?_ | refine rp ?_ | refine rq ?_ | refine rl ?_ | refine ri ?_ | refine rx ?_ | refine ry ?_) | refine aw_rseq ?_ | refine aw_seq ?_ | refine aw_region ?_ | refine aw_skip ?_ | refine ct ?_ | refine cf ?_ | refine d0s ?_ | refine d0r ?_ | refine aw_block ?_ | refine aw_exit ?_ | refine then_ret ?_ | refine then_exit ?_ | refine then_normal ?_ | refine blk_ret ?_ | refine blk_normal ?_ | refine blk_exit ?_ | refine blk_pass rfl ?_ | refine aw_dec rfl (fun _ => ?_) (fun _ => ?_)))
    ((try refine aw_ret ?_); (repeat (first | refine then_ret ?_ | refine blk_ret ?_)))
    exact ⟨True.intro, _, .cell _ _ _ _ _ _ _ _ _ rfl hb8 rfl Nat.zero_lt_one (by show apart TY _ (splice _ 0 (cells5 e.now a0 a1 a2 a3 a4)) = _; rw [splice_all (by rfl)]; exact apart_ep _ rfl) (.tmp _ _ _ .nil), fin_ref hE6 hO6 ho8 (by omega) (by omega)⟩
set_option maxHeartbeats 4000000 in
theorem refunpin_s (e : Ep) (hbd : Bd e) (i : Int) : PS Try.prog 17 [epv e, .i i] (eres (unpinE e i)) := by
  refine ps_frz (cl_eres _) fun H => ?_
  have hW := wrong_s e hbd i
  refine sc_in TYok Try.func17 (by kernel_rfl) Try.ntmps17 rfl rfl rfl ?_
  refine aw_seq ?_
  refine aw_region ?_
  refine nw fun H1 hb1 ho1 hl1 => ?_
  refine nw fun H2 hb2 ho2 hl2 => ?_
  have hb12 := ho2.get0 hb1
  (repeat' (first | (refine sq_id ?_; first | refine sq_nil ?_ | refine sm ?_ | refine sa ?_ | refine ss ?_ | refine st ?_ | refine sf ?_ | refine sp ?_ | refine sq ?_ | refine sl ?_ | refine si ?_ | refine sx ?_ | refine sy ?_) | (refine rg_id ?_; first | refine rg_fin ?_ | refine rm ?_ | refine ra ?_ | refine rs ?_ | refine rt ?_ | refine rf ?_ | refine rp ?_ | refine rq ?_ | refine rl ?_ | refine ri ?_ | refine rx ?_ | refine ry ?_) | refine aw_rseq ?_ | refine aw_seq ?_ | refine aw_region ?_ | refine aw_skip ?_ | refine ct ?_ | refine cf ?_ | refine d0s ?_ | refine d0r ?_ | refine aw_block ?_ | refine aw_exit ?_ | refine then_ret ?_ | refine then_exit ?_ | refine then_normal ?_ | refine blk_ret ?_ | refine blk_normal ?_ | refine blk_exit ?_ | refine blk_pass rfl ?_))
  refine sq_call rfl rfl rfl (LeL.refl _) ((refown_s e hbd H2).mono fun r H3 he => ?_)
  obtain ⟨ho3, a0, a1, a2, a3, a4, rfl, hO⟩ := he
  have hids := hO.ids
  have hl3 := ho3.1
  refine nw fun H4 hb4 ho4 hl4 => ?_
  refine sw hb4 fun H5 hb5 ho5 hl5 => ?_
  refine sq_nil ?_
  refine aw_norm H3.length (ebk (cells5 e.now a0 a1 a2 a3 a4)) hb5 rfl rfl rfl (one_of rfl rfl) fun H6 hb6 ho6 hl6 => ?_
  have hE6 : Oth H H6 none := ((((ho1.trans0 ho2).trans0 ho3).trans0 ho4).new ho5 (by omega)).new ho6 (by omega)
  have hb16 := ho6.get (ho5.get (ho4.get0 (ho3.get0 hb12)) (by simp; omega)) (by simp; omega)
  have hr6 := ho6.get (ho5.get (ho4.get0 (ho3.get0 hb2)) (by simp; omega)) (by simp; omega)
  have hO6 : Own5 H2.length H6 e a0 a1 a2 a3 a4 := ((hO.keepO ho4 (fun _ _ _ _ => by simp)).keepO ho5 (fun a ha i hi => by have := hids a ha i hi; simp; omega)).keepO ho6 (fun a ha i hi => by have := hids a ha i hi; simp; omega)

  by_cases hok : RightE e ∧ 0 ≤ i ∧ i < e.pins.length
  · have hok2 := hok
    rw [decide_eq_true hok] at hW
    obtain ⟨hr, i0, i1⟩ := hok
    obtain ⟨⟨n0, n1⟩, _⟩ := hr
    obtain ⟨j, rfl⟩ := Int.eq_ofNat_of_zero_le i0
    have hj : j < e.pins.length := by omega
    have hok' : RightE e ∧ 0 ≤ (j : Int) ∧ (j : Int) < e.pins.length := hok2
    by_cases hp : e.pins.getD j 0 = 0
    · have hp' : e.pins.getD (badd 0 j) 0 = 0 := hp
      have e1 : unpinE e j = (e, 42) := by
        unfold unpinE pinop
        rw [if_pos hok', Int.toNat_natCast, if_neg (by dsimp only; rw [if_pos hp]; decide)]
        simp only [if_pos hp]
      rw [e1]
      (repeat' (first | (refine sq_id ?_; first | refine sq_nil ?_ | refine sm ?_ | refine sa ?_ | refine ss ?_ | refine st ?_ | refine sf ?_ | refine sp ?_ | refine sq ?_ | refine sl ?_ | refine si ?_ | refine sx ?_ | refine sy ?_ | refine sc hW ?_ | refine sq_load (v := .agg (cells5 e.now a0 a1 a2 a3 a4)) TYok rfl rfl rfl hb6 rfl Nat.zero_lt_one (apart_ep _ rfl) ?_) | (refine rg_id ?_; first | refine rg_fin ?_ | refine rm ?_ | refine ra ?_ | refine rs ?_ | refine rt ?_ | refine rf ?_ | refine rp ?_ | refine rq ?_ | refine rl ?_ | refine ri ?_ | refine rx ?_ | refine ry ?_ | refine sc hW ?_ | refine sq_load (v := .agg (cells5 e.now a0 a1 a2 a3 a4)) TYok rfl rfl rfl hb6 rfl Nat.zero_lt_one (apart_ep _ rfl) ?_) | refine aw_rseq ?_ | refine aw_seq ?_ | refine aw_region ?_ | refine aw_skip ?_ | refine ct ?_ | refine cf ?_ | refine d0s ?_ | refine d0r ?_ | refine aw_block ?_ | refine aw_exit ?_ | refine then_ret ?_ | refine then_exit ?_ | refine then_normal ?_ | refine blk_ret ?_ | refine blk_normal ?_ | refine blk_exit ?_ | refine blk_pass rfl ?_ | refine sc hW ?_ | refine sq_load (v := .agg (cells5 e.now a0 a1 a2 a3 a4)) TYok rfl rfl rfl hb6 rfl Nat.zero_lt_one (apart_ep _ rfl) ?_))
      refine sw hr6 fun H8 hb8 ho8 hl8 => ?_
      (repeat' (first | (refine sq_id ?_; first | refine sq_nil ?_ | refine sm ?_ | refine sa ?_ | refine ss ?_ | refine st ?_ | refine sf ?_ | refine sp ?_ | refine sq ?_ | refine sl ?_ | refine si ?_ | refine sx ?_ | refine sy ?_) | (refine rg_id ?_; first | refine rg_fin ?_ | refine rm ?_ | refine ra ?_ | refine rs ?_ | refine rt ?_ | refine rf ?_ | refine rp ?_ | refine rq ?_ | refine rl ?_ | refine ri ?_ | refine rx ?_ | refine ry ?_) | refine aw_rseq ?_ | refine aw_seq ?_ | refine aw_region ?_ | refine aw_skip ?_ | refine ct ?_ | refine cf ?_ | refine d0s ?_ | refine d0r ?_ | refine aw_block ?_ | refine aw_exit ?_ | refine then_ret ?_ | refine then_exit ?_ | refine then_normal ?_ | refine blk_ret ?_ | refine blk_normal ?_ | refine blk_exit ?_ | refine blk_pass rfl ?_ | refine aw_dec rfl (fun _ => ?_) (fun _ => ?_)))
      ((try refine aw_ret ?_); (repeat (first | refine then_ret ?_ | refine blk_ret ?_)))
      exact ⟨True.intro, _, .cell _ _ _ _ _ _ _ _ _ rfl hb8 rfl Nat.zero_lt_one (by show apart TY _ (splice _ 0 (cells5 e.now a0 a1 a2 a3 a4)) = _; rw [splice_all (by rfl)]; exact apart_ep _ rfl) (.tmp _ _ _ .nil), fin_ref hE6 hO6 ho8 (by omega) (by omega)⟩
    · have hp' : ¬ e.pins.getD (badd 0 j) 0 = 0 := hp
      have e1 : unpinE e j = ({ e with pins := e.pins.set j 0 }, 0) := by
        unfold unpinE pinop
        rw [if_pos hok', Int.toNat_natCast, if_pos (by dsimp only; rw [if_neg hp])]
      rw [e1]
      rcases id hO6.h0 with (⟨hz, _⟩ | ⟨id, b, hk, ha, hb, q1, q2, q3, q4⟩) | ⟨hz, _⟩
      · omega
      · subst ha
        refine aw_norm id (iblk e.pins) hb q1.symm q2.symm q3.symm (fun i hi => q4 i (by omega)) fun H7 hb7 ho7 hl7 => ?_
        have hid := hids _ (List.mem_cons_self ..) id rfl
        have hb6 := ho7.get hb6 (by simp; omega)
        have hb16 := ho7.get hb16 (by simp; omega)
        have hr7 := ho7.get hr6 (by simp; omega)
        (repeat' (first | (refine sq_id ?_; first | refine sq_nil ?_ | refine sm ?_ | refine sa ?_ | refine ss ?_ | refine st ?_ | refine sf ?_ | refine sp ?_ | refine sq ?_ | refine sl ?_ | refine si ?_ | refine sx ?_ | refine sy ?_ | refine sc hW ?_ | refine sq_load (v := .arr id 1 0 e.pins.length) TYok rfl rfl rfl hb6 rfl Nat.zero_lt_one (apart_sl _ _) ?_) | (refine rg_id ?_; first | refine rg_fin ?_ | refine rm ?_ | refine ra ?_ | refine rs ?_ | refine rt ?_ | refine rf ?_ | refine rp ?_ | refine rq ?_ | refine rl ?_ | refine ri ?_ | refine rx ?_ | refine ry ?_ | refine sc hW ?_ | refine sq_load (v := .arr id 1 0 e.pins.length) TYok rfl rfl rfl hb6 rfl Nat.zero_lt_one (apart_sl _ _) ?_) | refine aw_rseq ?_ | refine aw_seq ?_ | refine aw_region ?_ | refine aw_skip ?_ | refine ct ?_ | refine cf ?_ | refine d0s ?_ | refine d0r ?_ | refine aw_block ?_ | refine aw_exit ?_ | refine then_ret ?_ | refine then_exit ?_ | refine then_normal ?_ | refine blk_ret ?_ | refine blk_normal ?_ | refine blk_exit ?_ | refine blk_pass rfl ?_ | refine sc hW ?_ | refine sq_load (v := .arr id 1 0 e.pins.length) TYok rfl rfl rfl hb6 rfl Nat.zero_lt_one (apart_sl _ _) ?_))
        refine sq_storek TYok rfl rfl rfl hb7 rfl (by show j < e.pins.length; exact hj) rfl rfl rfl (Nat.le_of_ble_eq_true rfl) fun H9 hb9 ho9 hl9 => ?_
        refine sq_nil ?_
        refine aw_norm id (iblk (e.pins.set j 0)) hb9 rfl rfl (by show (List.set _ _ _).length = e.pins.length; rw [List.length_set]) (fun i _ => put_int e.pins j _ hj i) fun H10 hb10 ho10 hl10 => ?_
        have hb6 := ho10.get (ho9.get hb6 (by simp; omega)) (by simp; omega)
        have hr6 := ho10.get (ho9.get hr7 (by simp; omega)) (by simp; omega)
        have hO6 : Own5 H2.length H10 { e with pins := e.pins.set j 0 } (.arr id 1 0 e.pins.length) a1 a2 a3 a4 :=
          hO6.r0 (H' := H10) (r := .arr id 1 0 e.pins.length) (xs := e.pins.set j 0) ((ho7.app ho9 (.inl rfl)).app ho10 (.inl rfl)) (.inl (.inr ⟨id, _, hid.1, by rw [List.length_set], hb10, rfl, rfl, rfl, fun _ _ => rfl⟩)) (.inr (.inl rfl))
        have hE6 : Oth H H10 none := ((hE6.new ho7 (by omega)).new ho9 (by omega)).new ho10 (by omega)
        (repeat' (first | (refine sq_id ?_; first | refine sq_nil ?_ | refine sm ?_ | refine sa ?_ | refine ss ?_ | refine st ?_ | refine sf ?_ | refine sp ?_ | refine sq ?_ | refine sl ?_ | refine si ?_ | refine sx ?_ | refine sy ?_ | refine sq_load (v := .agg (cells5 e.now (.arr id 1 0 e.pins.length) a1 a2 a3 a4)) TYok rfl rfl rfl hb6 rfl Nat.zero_lt_one (apart_ep _ rfl) ?_) | (refine rg_id ?_; first | refine rg_fin ?_ | refine rm ?_ | refine ra ?_ | refine rs ?_ | refine rt ?_ | refine rf ?_ | refine rp ?_ | refine rq ?_ | refine rl ?_ | refine ri ?_ | refine rx ?_ | refine ry ?_ | refine sq_load (v := .agg (cells5 e.now (.arr id 1 0 e.pins.length) a1 a2 a3 a4)) TYok rfl rfl rfl hb6 rfl Nat.zero_lt_one (apart_ep _ rfl) ?_) | refine aw_rseq ?_ | refine aw_seq ?_ | refine aw_region ?_ | refine aw_skip ?_ | refine ct ?_ | refine cf ?_ | refine d0s ?_ | refine d0r ?_ | refine aw_block ?_ | refine aw_exit ?_ | refine then_ret ?_ | refine then_exit ?_ | refine then_normal ?_ | refine blk_ret ?_ | refine blk_normal ?_ | refine blk_exit ?_ | refine blk_pass rfl ?_ | refine sq_load (v := .agg (cells5 e.now (.arr id 1 0 e.pins.length) a1 a2 a3 a4)) TYok rfl rfl rfl hb6 rfl Nat.zero_lt_one (apart_ep _ rfl) ?_))
        refine sw hr6 fun H8 hb8 ho8 hl8 => ?_
        (repeat' (first | (refine sq_id ?_; first | refine sq_nil ?_ | refine sm ?_ | refine sa ?_ | refine ss ?_ | refine st ?_ | refine sf ?_ | refine sp ?_ | refine sq ?_ | refine sl ?_ | refine si ?_ | refine sx ?_ | refine sy ?_) | (refine rg_id ?_; first | refine rg_fin ?_ | refine rm ?_ | refine ra ?_ | refine rs ?_ | refine rt ?_ | refine rf ?_ | refine rp ?_ | refine rq ?_ | refine rl ?_ | refine ri ?_ | refine rx ?_ | refine ry ?_) | refine aw_rseq ?_ | refine aw_seq ?_ | refine aw_region ?_ | refine aw_skip ?_ | refine ct ?_ | refine cf ?_ | refine d0s ?_ | refine d0r ?_ | refine aw_block ?_ | refine aw_exit ?_ | refine then_ret ?_ | refine then_exit ?_ | refine then_normal ?_ | refine blk_ret ?_ | refine blk_normal ?_ | refine blk_exit ?_ | refine blk_pass rfl ?_ | refine aw_dec rfl (fun _ => ?_) (fun _ => ?_)))
        ((try refine aw_ret ?_); (repeat (first | refine then_ret ?_ | refine blk_ret ?_)))
        exact ⟨True.intro, _, .cell _ _ _ _ _ _ _ _ _ rfl hb8 rfl Nat.zero_lt_one (by show apart TY _ (splice _ 0 (cells5 e.now (.arr id 1 0 e.pins.length) a1 a2 a3 a4)) = _; rw [splice_all (by rfl)]; exact apart_ep _ rfl) (.tmp _ _ _ .nil), fin_ref hE6 hO6 ho8 (by omega) (by omega)⟩
      · omega
  · have e1 : unpinE e i = (e, 1) := if_neg hok
    rw [decide_eq_false hok] at hW
    rw [e1]
    (repeat' (first | (refine sq_id ?_; first | refine sq_nil ?_ | refine sm ?_ | refine sa ?_ | refine ss ?_ | refine st ?_ | refine sf ?_ | refine sp ?_ | refine sq ?_ | refine sl ?_ | refine si ?_ | refine sx ?_ | refine sy ?_ | refine sc hW ?_ | refine sq_load (v := .agg (cells5 e.now a0 a1 a2 a3 a4)) TYok rfl rfl rfl hb6 rfl Nat.zero_lt_one (apart_ep _ rfl) ?_) | (refine rg_id ?_; first | refine rg_fin ?_ | refine rm ?_ | refine ra ?_ | refine rs ?_ | refine rt ?_ | refine rf ?_ | refine rp ?_ | refine rq ?_ | refine rl ?_ | refine ri ?_ | refine rx ?_ | refine ry ?_ | refine sc hW ?_ | refine sq_load (v := .agg (cells5 e.now a0 a1 a2 a3 a4)) TYok rfl rfl rfl hb6 rfl Nat.zero_lt_one (apart_ep _ rfl) ?_) | refine aw_rseq ?_ | refine aw_seq ?_ | refine aw_region ?_ | refine aw_skip ?_ | refine ct ?_ | refine cf ?_ | refine d0s ?_ | refine d0r ?_ | refine aw_block ?_ | refine aw_exit ?_ | refine then_ret ?_ | refine then_exit ?_ | refine then_normal ?_ | refine blk_ret ?_ | refine blk_normal ?_ | refine blk_exit ?_ | refine blk_pass rfl ?_ | refine sc hW ?_ | refine sq_load (v := .agg (cells5 e.now a0 a1 a2 a3 a4)) TYok rfl rfl rfl hb6 rfl Nat.zero_lt_one (apart_ep _ rfl) ?_))
    refine sw hr6 fun H8 hb8 ho8 hl8 => ?_
    (repeat' (first | (refine sq_id ?_; first | refine sq_nil ?_ | refine sm ?_ | refine sa ?_ | refine ss ?_ | refine st ?_ | refine sf ?_ | refine sp ?_ | refine sq ?_ | refine sl ?_ | refine si ?_ | refine sx ?_ | refine sy ?_) | (refine rg_id ?_; first | refine rg_fin ?_ | refine rm ?_ | refine ra ?_ | refine rs ?_ | refine rt ?_ | refine rf ?_ | refine rp ?_ | refine rq ?_ | refine rl ?_ | refine ri ?_ | refine rx ?_ | refine ry ?_) | refine aw_rseq ?_ | refine aw_seq ?_ | refine aw_region ?_ | refine aw_skip ?_ | refine ct ?_ | refine cf ?_ | refine d0s ?_ | refine d0r ?_ | refine aw_block ?_ | refine aw_exit ?_ | refine then_ret ?_ | refine then_exit ?_ | refine then_normal ?_ | refine blk_ret ?_ | refine blk_normal ?_ | refine blk_exit ?_ | refine blk_pass rfl ?_ | refine aw_dec rfl (fun _ => ?_) (fun _ => ?_)))
    ((try refine aw_ret ?_); (repeat (first | refine then_ret ?_ | refine blk_ret ?_)))
    exact ⟨True.intro, _, .cell _ _ _ _ _ _ _ _ _ rfl hb8 rfl Nat.zero_lt_one (by show apart TY _ (splice _ 0 (cells5 e.now a0 a1 a2 a3 a4)) = _; rw [splice_all (by rfl)]; exact apart_ep _ rfl) (.tmp _ _ _ .nil), fin_ref hE6 hO6 ho8 (by omega) (by omega)⟩
end Go.Proofs.Ytmhepmocnnlhnaa.Ab
