/- The document's own: Advance, Take. -/
import Derived.Test.YtmhepmocnnlhnaaQS
import Derived.Test.YtmhepmocnnlhnaaQO
namespace Go.Proofs.Ytmhepmocnnlhnaa.Ab
open Go Go.RowKit
theorem AccE.src {k0 : Nat} {H : AH} {v : AV} {e sz n : Nat} {g : Nat → List AV} (h : AccE k0 H v e sz n g) : ∃ g', Src H v sz n g' ∧ ∀ j, j < n → g' j = g j := by
  rcases h with (⟨rfl, rfl⟩ | ⟨id, b, _, rfl, hb, h1, h2, h3, h4⟩) | ⟨rfl, g', rfl⟩
  · exact ⟨g, .nil sz g, fun _ _ => rfl⟩
  · exact ⟨g, .arr id sz 0 n b g hb h2 (by omega) (fun j hj => by rw [Nat.zero_add]; exact (h4 j hj).symm), fun _ _ => rfl⟩
  · exact ⟨g', .lst _ _ _ _, fun j hj => by omega⟩
theorem Own5.setnow {k : Nat} {H : AH} {e : Ep} {a0 a1 a2 a3 a4 : AV} (h : Own5 k H e a0 a1 a2 a3 a4) (m : Int) : Own5 k H { e with now := m } a0 a1 a2 a3 a4 :=
  ⟨h.h0, h.h1, h.h2, h.h3, h.h4, h.s01, h.s02, h.s03, h.s04, h.s12, h.s13, h.s14, h.s23, h.s24, h.s34, h.t0, h.t1, h.t2, h.t3, h.t4⟩
theorem frzL_refl (k : Nat) (H : AH) (rs : List AV) : FrzL k H rs rs := by
  induction rs with
  | nil => exact .nil
  | cons a l ih => exact .cons (.le (Le.refl _)) ih
theorem fin_refs {H G G' : AH} {k id : Nat} {e : Ep} {rs : List AV} {a0 a1 a2 a3 a4 : AV} (hE : Oth H G none) (hO : Own5 k G e a0 a1 a2 a3 a4) (ho : Oth G G' (some id)) (h1 : H.length ≤ id) (h2 : id < k) : Ext H G' ∧ Frz H.length G' (.tup (.agg (cells5 e.now a0 a1 a2 a3 a4) :: rs)) (.tup (epv e :: rs)) :=
  ⟨(hE.new ho h1).ext, FrzL.tup (.cons ((hO.keepO ho (fun a ha i hi => by have := (hO.ids a ha i hi).1; simp; omega)).frz.low (by omega)) (frzL_refl _ _ _))⟩
set_option maxHeartbeats 8000000 in
theorem refadvance_s (e : Ep) (hbd : Bd e) : PS Try.prog 21 [epv e] (ares (advanceE e)) := by
  refine ps_frz (cl_ares _) fun H => ?_
  have hR := refright_s e hbd
  have hbd' := hbd
  obtain ⟨hbd1, hbd2⟩ := hbd'
  refine sc_in TYok Try.func21 (by kernel_rfl) Try.ntmps21 rfl rfl rfl ?_
  refine aw_seq ?_
  refine aw_region ?_
  refine nw fun H1 hb1 ho1 hl1 => ?_
  refine nw fun H2 hb2 ho2 hl2 => ?_
  have hb12 := ho2.get0 hb1
  (repeat' (first | (refine sq_id ?_; first | refine sq_nil ?_ | refine sm ?_ | refine sa ?_ | refine ss ?_ | refine st ?_ | refine sf ?_ | refine sp ?_ | refine sq ?_ | refine sl ?_ | refine si ?_ | refine sx ?_ | refine sy ?_) | (refine rg_id ?_; first | refine rg_fin ?_ | refine rm ?_ | refine ra ?_ | refine rs ?_ | refine rt ?_ | refine rf ?_ | refine rp ?_ | refine rq ?_ | refine rl ?_ | refine ri ?_ | refine rx ?_ | refine ry ?_) | refine aw_rseq ?_ | refine aw_seq ?_ | refine aw_region ?_ | refine aw_skip ?_ | refine ct ?_ | refine cf ?_ | refine d0s ?_ | refine d0r ?_ | refine aw_block ?_ | refine aw_exit ?_ | refine then_ret ?_ | refine then_exit ?_ | refine then_normal ?_ | refine blk_ret ?_ | refine blk_normal ?_ | refine blk_exit ?_ | refine blk_pass rfl ?_))
  refine sq_call rfl rfl rfl (LeL.refl _) ((refown_s e hbd H2).mono fun r H3 he => ?_)
  obtain ⟨ho3, a0, a1, a2, a3, a4, rfl, hO⟩ := he
  have hids := hO.ids
  have hl3 := ho3.1
  refine nw fun H4 hb4 ho4 hl4 => ?_
  refine sw hb4 fun H5 hb5 ho5 hl5 => ?_
  refine sq_nil ?_
  refine aw_norm H3.length (ebk (cells5 e.now a0 a1 a2 a3 a4)) hb5 rfl rfl rfl (one_of rfl rfl) fun H6 hb6 ho6 hl6 => ?_
  have hE6 : Oth H H6 none := ((((ho1.trans0 ho2).trans0 ho3).trans0 ho4).new ho5 (by omega)).new ho6 (by omega)
  have hb16 := ho6.get (ho5.get (ho4.get0 (ho3.get0 hb12)) (by simp; omega)) (by simp; omega)
  have hr6 := ho6.get (ho5.get (ho4.get0 (ho3.get0 hb2)) (by simp; omega)) (by simp; omega)
  have hO6 : Own5 H2.length H6 e a0 a1 a2 a3 a4 := ((hO.keepO ho4 (fun _ _ _ _ => by simp)).keepO ho5 (fun a ha i hi => by have := hids a ha i hi; simp; omega)).keepO ho6 (fun a ha i hi => by have := hids a ha i hi; simp; omega)

  by_cases hr : RightE e
  · rw [decide_eq_true hr] at hR
    have hr0 := hr
    obtain ⟨⟨n0, n1⟩, _⟩ := hr0
    have hblk : blockedB e = true → advanceE e = (e, false, 0) := fun h => by unfold advanceE; rw [if_pos hr, if_pos h]
    have hgo : blockedB e = false → advanceE e = (advT e, true, 0) := fun h => by unfold advanceE; rw [if_pos hr, if_neg (by rw [h]; decide)]
    (repeat' (first | (refine sq_id ?_; first | refine sq_nil ?_ | refine sm ?_ | refine sa ?_ | refine ss ?_ | refine st ?_ | refine sf ?_ | refine sp ?_ | refine sq ?_ | refine sl ?_ | refine si ?_ | refine sx ?_ | refine sy ?_ | refine sc hR ?_) | (refine rg_id ?_; first | refine rg_fin ?_ | refine rm ?_ | refine ra ?_ | refine rs ?_ | refine rt ?_ | refine rf ?_ | refine rp ?_ | refine rq ?_ | refine rl ?_ | refine ri ?_ | refine rx ?_ | refine ry ?_ | refine sc hR ?_) | refine aw_rseq ?_ | refine aw_seq ?_ | refine aw_region ?_ | refine aw_skip ?_ | refine ct ?_ | refine cf ?_ | refine d0s ?_ | refine d0r ?_ | refine aw_block ?_ | refine aw_exit ?_ | refine then_ret ?_ | refine then_exit ?_ | refine then_normal ?_ | refine blk_ret ?_ | refine blk_normal ?_ | refine blk_exit ?_ | refine blk_pass rfl ?_ | refine sc hR ?_))
    refine aw_for [1, 2, 5, 6] (fun k : Nat => [(1, .ref H.length 6 0 0), (2, .ref H1.length 6 0 0), (5, .ref H3.length 6 0 0), (6, .i k)]) (fun k H' => k ≤ e.pins.length ∧ H' = H6 ∧ ∀ x ∈ e.pins.take k, ¬ (x ≠ 0 ∧ x ≠ e.now + 1)) (fun k => e.pins.length - k) 0 (by rw [rstf_eq]; rfl) ⟨by omega, rfl, by simp⟩ ?_
    rintro k Hx ⟨hk, rfl, hne⟩
    by_cases hkl : k < e.pins.length
    · have hnext : ∀ (h : ¬ (e.pins.getD k 0 ≠ 0 ∧ e.pins.getD k 0 ≠ e.now + 1)), ∀ x ∈ e.pins.take (k + 1), ¬ (x ≠ 0 ∧ x ≠ e.now + 1) := fun h x hx => by
        rw [List.take_add_one, List.getElem?_eq_getElem hkl] at hx
        rcases List.mem_append.1 hx with h2 | h2
        · exact hne x h2
        · simp at h2
          rw [List.getD_eq_getElem?_getD, List.getElem?_eq_getElem hkl] at h
          rw [h2]
          exact h
      by_cases hp : e.pins.getD k 0 = 0
      · have hp' : e.pins.getD (badd 0 k) 0 = 0 := hp
        (repeat' (first | (refine sq_id ?_; first | refine sq_nil ?_ | refine sm ?_ | refine sa ?_ | refine ss ?_ | refine st ?_ | refine sf ?_ | refine sp ?_ | refine sq ?_ | refine sl ?_ | refine si ?_ | refine sx ?_ | refine sy ?_) | (refine rg_id ?_; first | refine rg_fin ?_ | refine rm ?_ | refine ra ?_ | refine rs ?_ | refine rt ?_ | refine rf ?_ | refine rp ?_ | refine rq ?_ | refine rl ?_ | refine ri ?_ | refine rx ?_ | refine ry ?_) | refine aw_rseq ?_ | refine aw_seq ?_ | refine aw_region ?_ | refine aw_skip ?_ | refine ct ?_ | refine cf ?_ | refine d0s ?_ | refine d0r ?_ | refine aw_block ?_ | refine aw_exit ?_ | refine then_ret ?_ | refine then_exit ?_ | refine then_normal ?_ | refine blk_ret ?_ | refine blk_normal ?_ | refine blk_exit ?_ | refine blk_pass rfl ?_))
        exact ⟨k + 1, by rw [rstf_eq]; rfl, ⟨by omega, List.append_nil _, hnext fun h => h.1 hp⟩, by omega⟩
      · have hp' : ¬ e.pins.getD (badd 0 k) 0 = 0 := hp
        by_cases hq : e.pins.getD k 0 = e.now + 1
        · have hq' : e.pins.getD (badd 0 k) 0 = e.now + 1 := hq
          (repeat' (first | (refine sq_id ?_; first | refine sq_nil ?_ | refine sm ?_ | refine sa ?_ | refine ss ?_ | refine st ?_ | refine sf ?_ | refine sp ?_ | refine sq ?_ | refine sl ?_ | refine si ?_ | refine sx ?_ | refine sy ?_) | (refine rg_id ?_; first | refine rg_fin ?_ | refine rm ?_ | refine ra ?_ | refine rs ?_ | refine rt ?_ | refine rf ?_ | refine rp ?_ | refine rq ?_ | refine rl ?_ | refine ri ?_ | refine rx ?_ | refine ry ?_) | refine aw_rseq ?_ | refine aw_seq ?_ | refine aw_region ?_ | refine aw_skip ?_ | refine ct ?_ | refine cf ?_ | refine d0s ?_ | refine d0r ?_ | refine aw_block ?_ | refine aw_exit ?_ | refine then_ret ?_ | refine then_exit ?_ | refine then_normal ?_ | refine blk_ret ?_ | refine blk_normal ?_ | refine blk_exit ?_ | refine blk_pass rfl ?_))
          exact ⟨k + 1, by rw [rstf_eq]; rfl, ⟨by omega, List.append_nil _, hnext fun h => h.2 hq⟩, by omega⟩
        · have hq' : ¬ e.pins.getD (badd 0 k) 0 = e.now + 1 := hq
          have hb : blockedB e = true := by
            unfold blockedB behindB
            rw [Bool.or_eq_true, List.any_eq_true]
            exact .inl ⟨_, mem_getD e.pins 0 k hkl, decide_eq_true ⟨hp, hq⟩⟩
          rw [hblk hb]
          (repeat' (first | (refine sq_id ?_; first | refine sq_nil ?_ | refine sm ?_ | refine sa ?_ | refine ss ?_ | refine st ?_ | refine sf ?_ | refine sp ?_ | refine sq ?_ | refine sl ?_ | refine si ?_ | refine sx ?_ | refine sy ?_ | fail) | (refine rg_id ?_; first | refine rg_fin ?_ | refine rm ?_ | refine ra ?_ | refine rs ?_ | refine rt ?_ | refine rf ?_ | refine rp ?_ | refine rq ?_ | refine rl ?_ | refine ri ?_ | refine rx ?_ | refine ry ?_ | fail) | refine aw_rseq ?_ | refine aw_seq ?_ | refine aw_region ?_ | refine aw_skip ?_ | refine ct ?_ | refine cf ?_ | refine d0s ?_ | refine d0r ?_ | refine aw_block ?_ | refine aw_exit ?_ | refine then_ret ?_ | refine then_exit ?_ | refine then_normal ?_ | refine blk_ret ?_ | refine blk_normal ?_ | refine blk_exit ?_ | refine blk_pass rfl ?_ | fail))
          rw [List.append_nil]
          (repeat' (first | (refine sq_id ?_; first | refine sq_nil ?_ | refine sm ?_ | refine sa ?_ | refine ss ?_ | refine st ?_ | refine sf ?_ | refine sp ?_ | refine sq ?_ | refine sl ?_ | refine si ?_ | refine sx ?_ | refine sy ?_ | refine sq_load (v := .agg (cells5 e.now a0 a1 a2 a3 a4)) TYok rfl rfl rfl hb6 rfl Nat.zero_lt_one (apart_ep _ rfl) ?_) | (refine rg_id ?_; first | refine rg_fin ?_ | refine rm ?_ | refine ra ?_ | refine rs ?_ | refine rt ?_ | refine rf ?_ | refine rp ?_ | refine rq ?_ | refine rl ?_ | refine ri ?_ | refine rx ?_ | refine ry ?_ | refine sq_load (v := .agg (cells5 e.now a0 a1 a2 a3 a4)) TYok rfl rfl rfl hb6 rfl Nat.zero_lt_one (apart_ep _ rfl) ?_) | refine aw_rseq ?_ | refine aw_seq ?_ | refine aw_region ?_ | refine aw_skip ?_ | refine ct ?_ | refine cf ?_ | refine d0s ?_ | refine d0r ?_ | refine aw_block ?_ | refine aw_exit ?_ | refine then_ret ?_ | refine then_exit ?_ | refine then_normal ?_ | refine blk_ret ?_ | refine blk_normal ?_ | refine blk_exit ?_ | refine blk_pass rfl ?_ | refine sq_load (v := .agg (cells5 e.now a0 a1 a2 a3 a4)) TYok rfl rfl rfl hb6 rfl Nat.zero_lt_one (apart_ep _ rfl) ?_))
          refine sw hr6 fun H8 hb8 ho8 hl8 => ?_
          (repeat' (first | (refine sq_id ?_; first | refine sq_nil ?_ | refine sm ?_ | refine sa ?_ | refine ss ?_ | refine st ?_ | refine sf ?_ | refine sp ?_ | refine sq ?_ | refine sl ?_ | refine si ?_ | refine sx ?_ | refine sy ?_) | (refine rg_id ?_; first | refine rg_fin ?_ | refine rm ?_ | refine ra ?_ | refine rs ?_ | refine rt ?_ | refine rf ?_ | refine rp ?_ | refine rq ?_ | refine rl ?_ | refine ri ?_ | refine rx ?_ | refine ry ?_) | refine aw_rseq ?_ | refine aw_seq ?_ | refine aw_region ?_ | refine aw_skip ?_ | refine ct ?_ | refine cf ?_ | refine d0s ?_ | refine d0r ?_ | refine aw_block ?_ | refine aw_exit ?_ | refine then_ret ?_ | refine then_exit ?_ | refine then_normal ?_ | refine blk_ret ?_ | refine blk_normal ?_ | refine blk_exit ?_ | refine blk_pass rfl ?_ | refine aw_dec rfl (fun _ => ?_) (fun _ => ?_)))
          ((try refine aw_ret ?_); (repeat (first | refine then_ret ?_ | refine blk_ret ?_)))
          exact ⟨True.intro, _, .cell _ _ _ _ _ _ _ _ _ rfl hb8 rfl Nat.zero_lt_one (by show apart TY _ (splice _ 0 (cells5 e.now a0 a1 a2 a3 a4)) = _; rw [splice_all (by rfl)]; exact apart_ep _ rfl) (.tmp _ _ _ (.tmp _ _ _ .nil)), fin_refs hE6 hO6 ho8 (by omega) (by omega)⟩
    · rw [List.take_of_length_le (by omega)] at hne
      have hB : behindB e = false := by
        unfold behindB
        rw [List.any_eq_false]
        exact fun x hx h => hne x hx (of_decide_eq_true h)
      by_cases hx : e.now = 1099511627776
      · rw [hblk (by unfold blockedB; rw [hB, decide_eq_true hx]; rfl)]
        (repeat' (first | (refine sq_id ?_; first | refine sq_nil ?_ | refine sm ?_ | refine sa ?_ | refine ss ?_ | refine st ?_ | refine sf ?_ | refine sp ?_ | refine sq ?_ | refine sl ?_ | refine si ?_ | refine sx ?_ | refine sy ?_ | refine sq_load (v := .agg (cells5 e.now a0 a1 a2 a3 a4)) TYok rfl rfl rfl hb6 rfl Nat.zero_lt_one (apart_ep _ rfl) ?_) | (refine rg_id ?_; first | refine rg_fin ?_ | refine rm ?_ | refine ra ?_ | refine rs ?_ | refine rt ?_ | refine rf ?_ | refine rp ?_ | refine rq ?_ | refine rl ?_ | refine ri ?_ | refine rx ?_ | refine ry ?_ | refine sq_load (v := .agg (cells5 e.now a0 a1 a2 a3 a4)) TYok rfl rfl rfl hb6 rfl Nat.zero_lt_one (apart_ep _ rfl) ?_) | refine aw_rseq ?_ | refine aw_seq ?_ | refine aw_region ?_ | refine aw_skip ?_ | refine ct ?_ | refine cf ?_ | refine d0s ?_ | refine d0r ?_ | refine aw_block ?_ | refine aw_exit ?_ | refine then_ret ?_ | refine then_exit ?_ | refine then_normal ?_ | refine blk_ret ?_ | refine blk_normal ?_ | refine blk_exit ?_ | refine blk_pass rfl ?_ | refine sq_load (v := .agg (cells5 e.now a0 a1 a2 a3 a4)) TYok rfl rfl rfl hb6 rfl Nat.zero_lt_one (apart_ep _ rfl) ?_))
        refine sw hr6 fun H8 hb8 ho8 hl8 => ?_
        (repeat' (first | (refine sq_id ?_; first | refine sq_nil ?_ | refine sm ?_ | refine sa ?_ | refine ss ?_ | refine st ?_ | refine sf ?_ | refine sp ?_ | refine sq ?_ | refine sl ?_ | refine si ?_ | refine sx ?_ | refine sy ?_) | (refine rg_id ?_; first | refine rg_fin ?_ | refine rm ?_ | refine ra ?_ | refine rs ?_ | refine rt ?_ | refine rf ?_ | refine rp ?_ | refine rq ?_ | refine rl ?_ | refine ri ?_ | refine rx ?_ | refine ry ?_) | refine aw_rseq ?_ | refine aw_seq ?_ | refine aw_region ?_ | refine aw_skip ?_ | refine ct ?_ | refine cf ?_ | refine d0s ?_ | refine d0r ?_ | refine aw_block ?_ | refine aw_exit ?_ | refine then_ret ?_ | refine then_exit ?_ | refine then_normal ?_ | refine blk_ret ?_ | refine blk_normal ?_ | refine blk_exit ?_ | refine blk_pass rfl ?_ | refine aw_dec rfl (fun _ => ?_) (fun _ => ?_)))
        ((try refine aw_ret ?_); (repeat (first | refine then_ret ?_ | refine blk_ret ?_)))
        exact ⟨True.intro, _, .cell _ _ _ _ _ _ _ _ _ rfl hb8 rfl Nat.zero_lt_one (by show apart TY _ (splice _ 0 (cells5 e.now a0 a1 a2 a3 a4)) = _; rw [splice_all (by rfl)]; exact apart_ep _ rfl) (.tmp _ _ _ (.tmp _ _ _ .nil)), fin_refs hE6 hO6 ho8 (by omega) (by omega)⟩
      rw [hgo (by unfold blockedB; rw [hB, decide_eq_false hx]; rfl)]
      clear hblk hgo hR hne
      (repeat' (first | (refine sq_id ?_; first | refine sq_nil ?_ | refine sm ?_ | refine sa ?_ | refine ss ?_ | refine st ?_ | refine sf ?_ | refine sp ?_ | refine sq ?_ | refine sl ?_ | refine si ?_ | refine sx ?_ | refine sy ?_ | fail) | (refine rg_id ?_; first | refine rg_fin ?_ | refine rm ?_ | refine ra ?_ | refine rs ?_ | refine rt ?_ | refine rf ?_ | refine rp ?_ | refine rq ?_ | refine rl ?_ | refine ri ?_ | refine rx ?_ | refine ry ?_ | fail) | refine aw_rseq ?_ | refine aw_seq ?_ | refine aw_region ?_ | refine aw_skip ?_ | refine ct ?_ | refine cf ?_ | refine d0s ?_ | refine d0r ?_ | refine aw_block ?_ | refine aw_exit ?_ | refine then_ret ?_ | refine then_exit ?_ | refine then_normal ?_ | refine blk_ret ?_ | refine blk_normal ?_ | refine blk_exit ?_ | refine blk_pass rfl ?_ | fail))
      refine sw hb6 fun H7 hb7 ho7 hl7 => ?_
      refine sq_nil ?_
      have hid := hO6.ids
      refine aw_norm H3.length (ebk (cells5 (e.now + 1) a0 a1 a2 a3 a4)) hb7 rfl rfl rfl (one_of rfl rfl) fun H8 hb8 ho8 hl8 => ?_
      have hb18 := ho8.get (ho7.get hb16 (by simp; omega)) (by simp; omega)
      have hr8 := ho8.get (ho7.get hr6 (by simp; omega)) (by simp; omega)
      have hE8 : Oth H H8 none := (hE6.new ho7 (by omega)).new ho8 (by omega)
      have hO8 : Own5 H2.length H8 { e with now := e.now + 1 } a0 a1 a2 a3 a4 := ((hO6.keepO ho7 (fun a ha i hi => by have := hids a ha i hi; simp; omega)).keepO ho8 (fun a ha i hi => by have := hids a ha i hi; simp; omega)).setnow (e.now + 1)
      clear hE6 hO6 hr6 hb6 hb16 hb7 ho7 ho8 hid
      rcases (by omega : (e.now + 2) % 3 = 0 ∨ (e.now + 2) % 3 = 1 ∨ (e.now + 2) % 3 = 2) with hk3 | hk3 | hk3
      · have hadd : advT e = { e with now := e.now + 1, l0 := [], free := e.free ++ e.l0 } := by unfold advT; rw [if_pos hk3]
        have hk4 : (e.now + 1 + 1) % 3 = 0 := by omega
        rw [hadd]
        obtain ⟨g', hsr, hg'⟩ := hO8.h1.src
        refine aw_seq ?_
        refine aw_region ?_
        refine sp ?_
        refine sl ?_
        refine sp ?_
        refine sq_remk TYok TYz rfl rfl rfl rfl sd hk4 ?_
        refine sa ?_
        refine sq_nil ?_
        refine aw_seq ?_
        refine' aw_one 6 8 [_, _, _, _, _, _] [_] _ _ (fun r H9 => AccL H2.length H9 r (e.free ++ e.l0) ∧ Oth H8 H9 (accId a4) ∧ (accId r = none ∨ accId r = accId a4 ∨ ∃ x, accId r = some x ∧ H8.length ≤ x)) rfl rfl (by kernel_rfl) (by kernel_rfl) (by kernel_rfl) rfl rfl rfl rfl ?_ ?_ ?_ ?_
        rotate_left 7
        ·
          refine fa_s (sp (sq_nil ⟨?_, rfl⟩)) ?_
          · exact rfl
          refine fa_s (sq_load (v := a4) TYok rfl rfl rfl hb8 rfl Nat.zero_lt_one (apart_sl _ _) (sq_nil ⟨?_, rfl⟩)) ?_
          · exact rfl
          refine fa_s (sm (sq_nil ⟨?_, rfl⟩)) ?_
          · exact rfl
          refine fa_s (sp (sq_nil ⟨?_, rfl⟩)) ?_
          · exact rfl
          refine fa_s (sy (sq_nil ⟨?_, rfl⟩)) ?_
          · exact rfl
          refine fa_s (sq_load (v := a1) TYok rfl rfl rfl hb8 rfl Nat.zero_lt_one (apart_sl _ _) (sq_nil ⟨?_, rfl⟩)) ?_
          · exact rfl
          refine fa_p rfl ?_
          refine fa_s (sp (sq_nil ⟨?_, rfl⟩)) ?_
          · exact rfl
          exact True.intro
        · intro o ho
          obtain rfl := Option.some.inj ho
          refine sq_appe TYok TYz rfl rfl rfl rfl rfl rfl rfl (by decide) hO8.h4.low hsr (by show (e.free.length + e.l0.length) * 8 ≤ _; omega) (by show e.free.length + e.l0.length ≤ _; omega) fun r H9 ha9 ho9 hn9 => ?_
          refine sq_nil ⟨r, rfl, ?_, ho9, .inr hn9⟩
          exact hO8.h4.grow (AccE.app (ha9.ext fun j hj => by
            split
            · rfl
            · exact hg' _ (by omega))) hn9 (by omega)
        · rintro r H9 ⟨har, ho9, hn9⟩
          have hni : some H3.length ≠ accId a4 := fun h => by have := (hids _ (by simp) _ h.symm).2; omega
          have hb9 := ho9.get hb8 hni
          refine fa_s (sp (sq_nil ⟨?_, rfl⟩)) ?_
          · exact rfl
          refine fa_s (sq_load (v := a4) TYok rfl rfl rfl hb9 rfl Nat.zero_lt_one (apart_sl _ _) (sq_nil ⟨?_, rfl⟩)) ?_
          · exact rfl
          refine fa_s (sm (sq_nil ⟨?_, rfl⟩)) ?_
          · exact rfl
          refine fa_s (sp (sq_nil ⟨?_, rfl⟩)) ?_
          · exact rfl
          refine fa_s (sy (sq_nil ⟨?_, rfl⟩)) ?_
          · exact rfl
          refine fa_s (sq_load (v := a1) TYok rfl rfl rfl hb9 rfl Nat.zero_lt_one (apart_sl _ _) (sq_nil ⟨?_, rfl⟩)) ?_
          · exact rfl
          refine fa_p rfl ?_
          refine fa_s (sp (sq_nil ⟨?_, rfl⟩)) ?_
          · exact rfl
          exact True.intro
        · rintro r H9 ⟨har, ho9, hn9⟩
          have hni : some H3.length ≠ accId a4 := fun h => by have := (hids _ (by simp) _ h.symm).2; omega
          have hni3 : some H1.length ≠ accId a4 := fun h => by have := (hids _ (by simp) _ h.symm).1; omega
          have hb9 := ho9.get hb8 hni
          have hr9 := ho9.get hr8 hni3
          have hl9 := ho9.1
          refine y1 8 ?_
          refine sq_storek TYok rfl rfl rfl hb9 rfl Nat.zero_lt_one rfl har.cells rfl (Nat.le_of_ble_eq_true rfl) fun H10 hb10 ho10 hl10 => ?_
          refine sq_nil ?_
          refine yd ?_
          refine then_normal ?_
          refine aw_norm H3.length (ebk (cells5 (e.now + 1) a0 a1 a2 a3 r)) hb10 rfl rfl rfl (one_of rfl rfl) fun H11 hb11 ho11 hl11 => ?_
          (repeat' (first | (refine sq_id ?_; first | refine sq_nil ?_ | refine sm ?_ | refine sa ?_ | refine ss ?_ | refine st ?_ | refine sf ?_ | refine sp ?_ | refine sq ?_ | refine sl ?_ | refine si ?_ | refine sx ?_ | refine sy ?_ | fail) | (refine rg_id ?_; first | refine rg_fin ?_ | refine rm ?_ | refine ra ?_ | refine rs ?_ | refine rt ?_ | refine rf ?_ | refine rp ?_ | refine rq ?_ | refine rl ?_ | refine ri ?_ | refine rx ?_ | refine ry ?_ | fail) | refine aw_rseq ?_ | refine aw_seq ?_ | refine aw_region ?_ | refine aw_skip ?_ | refine ct ?_ | refine cf ?_ | refine d0s ?_ | refine d0r ?_ | refine aw_block ?_ | refine aw_exit ?_ | refine then_ret ?_ | refine then_exit ?_ | refine then_normal ?_ | refine blk_ret ?_ | refine blk_normal ?_ | refine blk_exit ?_ | refine blk_pass rfl ?_ | fail))
          refine sw hb11 fun H12 hb12 ho12 hl12 => ?_
          refine sq_nil ?_
          refine aw_norm H3.length (ebk (cells5 (e.now + 1) a0 (.p (.slice none 0 0)) a2 a3 r)) hb12 rfl rfl rfl (one_of rfl rfl) fun H13 hb6 ho13 hl13 => ?_
          have hnr : accId r ≠ some H3.length := by
            rcases hn9 with h | h | ⟨x, h, h2⟩
            · rw [h]; exact fun k => by cases k
            · rw [h]; exact fun k => hni k.symm
            · rw [h]; exact fun k => by cases k; omega
          have hno : ∀ a ∈ [a0, a1, a2, a3, r], ∀ i, accId a = some i → some i ≠ some H3.length := fun a ha i hi => by
            have : accId a ≠ some H3.length := by
              simp only [List.mem_cons, List.not_mem_nil, or_false] at ha
              rcases ha with rfl | rfl | rfl | rfl | rfl
              all_goals first | exact hnr | exact fun h => by have := (hids _ (by simp) _ h).2; omega
            exact fun k => this (hi.trans k)
          have hO9 : Own5 H2.length H9 { e with now := e.now + 1, free := e.free ++ e.l0 } a0 a1 a2 a3 r := hO8.r4 ho9 har hn9
          have hO13 : Own5 H2.length H13 { e with now := e.now + 1, free := e.free ++ e.l0 } a0 a1 a2 a3 r := (((hO9.keepO ho10 hno).keepO ho11 hno).keepO ho12 hno).keepO ho13 hno
          have hO6 : Own5 H2.length H13 { e with now := e.now + 1, l0 := [], free := e.free ++ e.l0 } a0 (.p (.slice none 0 0)) a2 a3 r := hO13.r1 (r := .p (.slice none 0 0)) (xs := []) ⟨Nat.le_refl _, fun _ _ _ => rfl⟩ (AccE.nil _ _ _ _ _) (.inl rfl)
          have hr6 := ho13.get (ho12.get (ho11.get (ho10.get hr9 (by simp; omega)) (by simp; omega)) (by simp; omega)) (by simp; omega)
          have hE6 : Oth H H13 none := ((((hE8.newx ho9 (fun i hi => by have := (hids _ (by simp) _ hi).1; omega)).new ho10 (by omega)).new ho11 (by omega)).new ho12 (by omega)).new ho13 (by omega)
          (repeat' (first | (refine sq_id ?_; first | refine sq_nil ?_ | refine sm ?_ | refine sa ?_ | refine ss ?_ | refine st ?_ | refine sf ?_ | refine sp ?_ | refine sq ?_ | refine sl ?_ | refine si ?_ | refine sx ?_ | refine sy ?_ | refine sq_load (v := .agg (cells5 (e.now + 1) a0 (.p (.slice none 0 0)) a2 a3 r)) TYok rfl rfl rfl hb6 rfl Nat.zero_lt_one (apart_ep _ rfl) ?_) | (refine rg_id ?_; first | refine rg_fin ?_ | refine rm ?_ | refine ra ?_ | refine rs ?_ | refine rt ?_ | refine rf ?_ | refine rp ?_ | refine rq ?_ | refine rl ?_ | refine ri ?_ | refine rx ?_ | refine ry ?_ | refine sq_load (v := .agg (cells5 (e.now + 1) a0 (.p (.slice none 0 0)) a2 a3 r)) TYok rfl rfl rfl hb6 rfl Nat.zero_lt_one (apart_ep _ rfl) ?_) | refine aw_rseq ?_ | refine aw_seq ?_ | refine aw_region ?_ | refine aw_skip ?_ | refine ct ?_ | refine cf ?_ | refine d0s ?_ | refine d0r ?_ | refine aw_block ?_ | refine aw_exit ?_ | refine then_ret ?_ | refine then_exit ?_ | refine then_normal ?_ | refine blk_ret ?_ | refine blk_normal ?_ | refine blk_exit ?_ | refine blk_pass rfl ?_ | refine sq_load (v := .agg (cells5 (e.now + 1) a0 (.p (.slice none 0 0)) a2 a3 r)) TYok rfl rfl rfl hb6 rfl Nat.zero_lt_one (apart_ep _ rfl) ?_))
          refine sw hr6 fun H8 hb8 ho8 hl8 => ?_
          (repeat' (first | (refine sq_id ?_; first | refine sq_nil ?_ | refine sm ?_ | refine sa ?_ | refine ss ?_ | refine st ?_ | refine sf ?_ | refine sp ?_ | refine sq ?_ | refine sl ?_ | refine si ?_ | refine sx ?_ | refine sy ?_) | (refine rg_id ?_; first | refine rg_fin ?_ | refine rm ?_ | refine ra ?_ | refine rs ?_ | refine rt ?_ | refine rf ?_ | refine rp ?_ | refine rq ?_ | refine rl ?_ | refine ri ?_ | refine rx ?_ | refine ry ?_) | refine aw_rseq ?_ | refine aw_seq ?_ | refine aw_region ?_ | refine aw_skip ?_ | refine ct ?_ | refine cf ?_ | refine d0s ?_ | refine d0r ?_ | refine aw_block ?_ | refine aw_exit ?_ | refine then_ret ?_ | refine then_exit ?_ | refine then_normal ?_ | refine blk_ret ?_ | refine blk_normal ?_ | refine blk_exit ?_ | refine blk_pass rfl ?_ | refine aw_dec rfl (fun _ => ?_) (fun _ => ?_)))
          ((try refine aw_ret ?_); (repeat (first | refine then_ret ?_ | refine blk_ret ?_)))
          exact ⟨True.intro, _, .cell _ _ _ _ _ _ _ _ _ rfl hb8 rfl Nat.zero_lt_one (by show apart TY _ (splice _ 0 (cells5 (e.now + 1) a0 (.p (.slice none 0 0)) a2 a3 r)) = _; rw [splice_all (by rfl)]; exact apart_ep _ rfl) (.tmp _ _ _ (.tmp _ _ _ .nil)), fin_refs hE6 hO6 ho8 (by omega) (by omega)⟩
      · have hadd : advT e = { e with now := e.now + 1, l1 := [], free := e.free ++ e.l1 } := by unfold advT; rw [if_neg (by omega), if_pos hk3]
        have hk4 : (e.now + 1 + 1) % 3 = 1 := by omega
        rw [hadd]
        obtain ⟨g', hsr, hg'⟩ := hO8.h2.src
        refine aw_seq ?_
        refine aw_region ?_
        refine sp ?_
        refine sl ?_
        refine sp ?_
        refine sq_remk TYok TYz rfl rfl rfl rfl sd hk4 ?_
        refine sa ?_
        refine sq_nil ?_
        refine aw_seq ?_
        refine' aw_one 6 8 [_, _, _, _, _, _] [_] _ _ (fun r H9 => AccL H2.length H9 r (e.free ++ e.l1) ∧ Oth H8 H9 (accId a4) ∧ (accId r = none ∨ accId r = accId a4 ∨ ∃ x, accId r = some x ∧ H8.length ≤ x)) rfl rfl (by kernel_rfl) (by kernel_rfl) (by kernel_rfl) rfl rfl rfl rfl ?_ ?_ ?_ ?_
        rotate_left 7
        ·
          refine fa_s (sp (sq_nil ⟨?_, rfl⟩)) ?_
          · exact rfl
          refine fa_s (sq_load (v := a4) TYok rfl rfl rfl hb8 rfl Nat.zero_lt_one (apart_sl _ _) (sq_nil ⟨?_, rfl⟩)) ?_
          · exact rfl
          refine fa_s (sm (sq_nil ⟨?_, rfl⟩)) ?_
          · exact rfl
          refine fa_s (sp (sq_nil ⟨?_, rfl⟩)) ?_
          · exact rfl
          refine fa_s (sy (sq_nil ⟨?_, rfl⟩)) ?_
          · exact rfl
          refine fa_s (sq_load (v := a2) TYok rfl rfl rfl hb8 rfl Nat.zero_lt_one (apart_sl _ _) (sq_nil ⟨?_, rfl⟩)) ?_
          · exact rfl
          refine fa_p rfl ?_
          refine fa_s (sp (sq_nil ⟨?_, rfl⟩)) ?_
          · exact rfl
          exact True.intro
        · intro o ho
          obtain rfl := Option.some.inj ho
          refine sq_appe TYok TYz rfl rfl rfl rfl rfl rfl rfl (by decide) hO8.h4.low hsr (by show (e.free.length + e.l1.length) * 8 ≤ _; omega) (by show e.free.length + e.l1.length ≤ _; omega) fun r H9 ha9 ho9 hn9 => ?_
          refine sq_nil ⟨r, rfl, ?_, ho9, .inr hn9⟩
          exact hO8.h4.grow (AccE.app (ha9.ext fun j hj => by
            split
            · rfl
            · exact hg' _ (by omega))) hn9 (by omega)
        · rintro r H9 ⟨har, ho9, hn9⟩
          have hni : some H3.length ≠ accId a4 := fun h => by have := (hids _ (by simp) _ h.symm).2; omega
          have hb9 := ho9.get hb8 hni
          refine fa_s (sp (sq_nil ⟨?_, rfl⟩)) ?_
          · exact rfl
          refine fa_s (sq_load (v := a4) TYok rfl rfl rfl hb9 rfl Nat.zero_lt_one (apart_sl _ _) (sq_nil ⟨?_, rfl⟩)) ?_
          · exact rfl
          refine fa_s (sm (sq_nil ⟨?_, rfl⟩)) ?_
          · exact rfl
          refine fa_s (sp (sq_nil ⟨?_, rfl⟩)) ?_
          · exact rfl
          refine fa_s (sy (sq_nil ⟨?_, rfl⟩)) ?_
          · exact rfl
          refine fa_s (sq_load (v := a2) TYok rfl rfl rfl hb9 rfl Nat.zero_lt_one (apart_sl _ _) (sq_nil ⟨?_, rfl⟩)) ?_
          · exact rfl
          refine fa_p rfl ?_
          refine fa_s (sp (sq_nil ⟨?_, rfl⟩)) ?_
          · exact rfl
          exact True.intro
        · rintro r H9 ⟨har, ho9, hn9⟩
          have hni : some H3.length ≠ accId a4 := fun h => by have := (hids _ (by simp) _ h.symm).2; omega
          have hni3 : some H1.length ≠ accId a4 := fun h => by have := (hids _ (by simp) _ h.symm).1; omega
          have hb9 := ho9.get hb8 hni
          have hr9 := ho9.get hr8 hni3
          have hl9 := ho9.1
          refine y1 8 ?_
          refine sq_storek TYok rfl rfl rfl hb9 rfl Nat.zero_lt_one rfl har.cells rfl (Nat.le_of_ble_eq_true rfl) fun H10 hb10 ho10 hl10 => ?_
          refine sq_nil ?_
          refine yd ?_
          refine then_normal ?_
          refine aw_norm H3.length (ebk (cells5 (e.now + 1) a0 a1 a2 a3 r)) hb10 rfl rfl rfl (one_of rfl rfl) fun H11 hb11 ho11 hl11 => ?_
          (repeat' (first | (refine sq_id ?_; first | refine sq_nil ?_ | refine sm ?_ | refine sa ?_ | refine ss ?_ | refine st ?_ | refine sf ?_ | refine sp ?_ | refine sq ?_ | refine sl ?_ | refine si ?_ | refine sx ?_ | refine sy ?_ | fail) | (refine rg_id ?_; first | refine rg_fin ?_ | refine rm ?_ | refine ra ?_ | refine rs ?_ | refine rt ?_ | refine rf ?_ | refine rp ?_ | refine rq ?_ | refine rl ?_ | refine ri ?_ | refine rx ?_ | refine ry ?_ | fail) | refine aw_rseq ?_ | refine aw_seq ?_ | refine aw_region ?_ | refine aw_skip ?_ | refine ct ?_ | refine cf ?_ | refine d0s ?_ | refine d0r ?_ | refine aw_block ?_ | refine aw_exit ?_ | refine then_ret ?_ | refine then_exit ?_ | refine then_normal ?_ | refine blk_ret ?_ | refine blk_normal ?_ | refine blk_exit ?_ | refine blk_pass rfl ?_ | fail))
          refine sw hb11 fun H12 hb12 ho12 hl12 => ?_
          refine sq_nil ?_
          refine aw_norm H3.length (ebk (cells5 (e.now + 1) a0 a1 (.p (.slice none 0 0)) a3 r)) hb12 rfl rfl rfl (one_of rfl rfl) fun H13 hb6 ho13 hl13 => ?_
          have hnr : accId r ≠ some H3.length := by
            rcases hn9 with h | h | ⟨x, h, h2⟩
            · rw [h]; exact fun k => by cases k
            · rw [h]; exact fun k => hni k.symm
            · rw [h]; exact fun k => by cases k; omega
          have hno : ∀ a ∈ [a0, a1, a2, a3, r], ∀ i, accId a = some i → some i ≠ some H3.length := fun a ha i hi => by
            have : accId a ≠ some H3.length := by
              simp only [List.mem_cons, List.not_mem_nil, or_false] at ha
              rcases ha with rfl | rfl | rfl | rfl | rfl
              all_goals first | exact hnr | exact fun h => by have := (hids _ (by simp) _ h).2; omega
            exact fun k => this (hi.trans k)
          have hO9 : Own5 H2.length H9 { e with now := e.now + 1, free := e.free ++ e.l1 } a0 a1 a2 a3 r := hO8.r4 ho9 har hn9
          have hO13 : Own5 H2.length H13 { e with now := e.now + 1, free := e.free ++ e.l1 } a0 a1 a2 a3 r := (((hO9.keepO ho10 hno).keepO ho11 hno).keepO ho12 hno).keepO ho13 hno
          have hO6 : Own5 H2.length H13 { e with now := e.now + 1, l1 := [], free := e.free ++ e.l1 } a0 a1 (.p (.slice none 0 0)) a3 r := hO13.r2 (r := .p (.slice none 0 0)) (xs := []) ⟨Nat.le_refl _, fun _ _ _ => rfl⟩ (AccE.nil _ _ _ _ _) (.inl rfl)
          have hr6 := ho13.get (ho12.get (ho11.get (ho10.get hr9 (by simp; omega)) (by simp; omega)) (by simp; omega)) (by simp; omega)
          have hE6 : Oth H H13 none := ((((hE8.newx ho9 (fun i hi => by have := (hids _ (by simp) _ hi).1; omega)).new ho10 (by omega)).new ho11 (by omega)).new ho12 (by omega)).new ho13 (by omega)
          (repeat' (first | (refine sq_id ?_; first | refine sq_nil ?_ | refine sm ?_ | refine sa ?_ | refine ss ?_ | refine st ?_ | refine sf ?_ | refine sp ?_ | refine sq ?_ | refine sl ?_ | refine si ?_ | refine sx ?_ | refine sy ?_ | refine sq_load (v := .agg (cells5 (e.now + 1) a0 a1 (.p (.slice none 0 0)) a3 r)) TYok rfl rfl rfl hb6 rfl Nat.zero_lt_one (apart_ep _ rfl) ?_) | (refine rg_id ?_; first | refine rg_fin ?_ | refine rm ?_ | refine ra ?_ | refine rs ?_ | refine rt ?_ | refine rf ?_ | refine rp ?_ | refine rq ?_ | refine rl ?_ | refine ri ?_ | refine rx ?_ | refine ry ?_ | refine sq_load (v := .agg (cells5 (e.now + 1) a0 a1 (.p (.slice none 0 0)) a3 r)) TYok rfl rfl rfl hb6 rfl Nat.zero_lt_one (apart_ep _ rfl) ?_) | refine aw_rseq ?_ | refine aw_seq ?_ | refine aw_region ?_ | refine aw_skip ?_ | refine ct ?_ | refine cf ?_ | refine d0s ?_ | refine d0r ?_ | refine aw_block ?_ | refine aw_exit ?_ | refine then_ret ?_ | refine then_exit ?_ | refine then_normal ?_ | refine blk_ret ?_ | refine blk_normal ?_ | refine blk_exit ?_ | refine blk_pass rfl ?_ | refine sq_load (v := .agg (cells5 (e.now + 1) a0 a1 (.p (.slice none 0 0)) a3 r)) TYok rfl rfl rfl hb6 rfl Nat.zero_lt_one (apart_ep _ rfl) ?_))
          refine sw hr6 fun H8 hb8 ho8 hl8 => ?_
          (repeat' (first | (refine sq_id ?_; first | refine sq_nil ?_ | refine sm ?_ | refine sa ?_ | refine ss ?_ | refine st ?_ | refine sf ?_ | refine sp ?_ | refine sq ?_ | refine sl ?_ | refine si ?_ | refine sx ?_ | refine sy ?_) | (refine rg_id ?_; first | refine rg_fin ?_ | refine rm ?_ | refine ra ?_ | refine rs ?_ | refine rt ?_ | refine rf ?_ | refine rp ?_ | refine rq ?_ | refine rl ?_ | refine ri ?_ | refine rx ?_ | refine ry ?_) | refine aw_rseq ?_ | refine aw_seq ?_ | refine aw_region ?_ | refine aw_skip ?_ | refine ct ?_ | refine cf ?_ | refine d0s ?_ | refine d0r ?_ | refine aw_block ?_ | refine aw_exit ?_ | refine then_ret ?_ | refine then_exit ?_ | refine then_normal ?_ | refine blk_ret ?_ | refine blk_normal ?_ | refine blk_exit ?_ | refine blk_pass rfl ?_ | refine aw_dec rfl (fun _ => ?_) (fun _ => ?_)))
          ((try refine aw_ret ?_); (repeat (first | refine then_ret ?_ | refine blk_ret ?_)))
          exact ⟨True.intro, _, .cell _ _ _ _ _ _ _ _ _ rfl hb8 rfl Nat.zero_lt_one (by show apart TY _ (splice _ 0 (cells5 (e.now + 1) a0 a1 (.p (.slice none 0 0)) a3 r)) = _; rw [splice_all (by rfl)]; exact apart_ep _ rfl) (.tmp _ _ _ (.tmp _ _ _ .nil)), fin_refs hE6 hO6 ho8 (by omega) (by omega)⟩
      · have hadd : advT e = { e with now := e.now + 1, l2 := [], free := e.free ++ e.l2 } := by unfold advT; rw [if_neg (by omega), if_neg (by omega)]
        have hk4 : (e.now + 1 + 1) % 3 = 2 := by omega
        rw [hadd]
        obtain ⟨g', hsr, hg'⟩ := hO8.h3.src
        refine aw_seq ?_
        refine aw_region ?_
        refine sp ?_
        refine sl ?_
        refine sp ?_
        refine sq_remk TYok TYz rfl rfl rfl rfl sd hk4 ?_
        refine sa ?_
        refine sq_nil ?_
        refine aw_seq ?_
        refine' aw_one 6 8 [_, _, _, _, _, _] [_] _ _ (fun r H9 => AccL H2.length H9 r (e.free ++ e.l2) ∧ Oth H8 H9 (accId a4) ∧ (accId r = none ∨ accId r = accId a4 ∨ ∃ x, accId r = some x ∧ H8.length ≤ x)) rfl rfl (by kernel_rfl) (by kernel_rfl) (by kernel_rfl) rfl rfl rfl rfl ?_ ?_ ?_ ?_
        rotate_left 7
        ·
          refine fa_s (sp (sq_nil ⟨?_, rfl⟩)) ?_
          · exact rfl
          refine fa_s (sq_load (v := a4) TYok rfl rfl rfl hb8 rfl Nat.zero_lt_one (apart_sl _ _) (sq_nil ⟨?_, rfl⟩)) ?_
          · exact rfl
          refine fa_s (sm (sq_nil ⟨?_, rfl⟩)) ?_
          · exact rfl
          refine fa_s (sp (sq_nil ⟨?_, rfl⟩)) ?_
          · exact rfl
          refine fa_s (sy (sq_nil ⟨?_, rfl⟩)) ?_
          · exact rfl
          refine fa_s (sq_load (v := a3) TYok rfl rfl rfl hb8 rfl Nat.zero_lt_one (apart_sl _ _) (sq_nil ⟨?_, rfl⟩)) ?_
          · exact rfl
          refine fa_p rfl ?_
          refine fa_s (sp (sq_nil ⟨?_, rfl⟩)) ?_
          · exact rfl
          exact True.intro
        · intro o ho
          obtain rfl := Option.some.inj ho
          refine sq_appe TYok TYz rfl rfl rfl rfl rfl rfl rfl (by decide) hO8.h4.low hsr (by show (e.free.length + e.l2.length) * 8 ≤ _; omega) (by show e.free.length + e.l2.length ≤ _; omega) fun r H9 ha9 ho9 hn9 => ?_
          refine sq_nil ⟨r, rfl, ?_, ho9, .inr hn9⟩
          exact hO8.h4.grow (AccE.app (ha9.ext fun j hj => by
            split
            · rfl
            · exact hg' _ (by omega))) hn9 (by omega)
        · rintro r H9 ⟨har, ho9, hn9⟩
          have hni : some H3.length ≠ accId a4 := fun h => by have := (hids _ (by simp) _ h.symm).2; omega
          have hb9 := ho9.get hb8 hni
          refine fa_s (sp (sq_nil ⟨?_, rfl⟩)) ?_
          · exact rfl
          refine fa_s (sq_load (v := a4) TYok rfl rfl rfl hb9 rfl Nat.zero_lt_one (apart_sl _ _) (sq_nil ⟨?_, rfl⟩)) ?_
          · exact rfl
          refine fa_s (sm (sq_nil ⟨?_, rfl⟩)) ?_
          · exact rfl
          refine fa_s (sp (sq_nil ⟨?_, rfl⟩)) ?_
          · exact rfl
          refine fa_s (sy (sq_nil ⟨?_, rfl⟩)) ?_
          · exact rfl
          refine fa_s (sq_load (v := a3) TYok rfl rfl rfl hb9 rfl Nat.zero_lt_one (apart_sl _ _) (sq_nil ⟨?_, rfl⟩)) ?_
          · exact rfl
          refine fa_p rfl ?_
          refine fa_s (sp (sq_nil ⟨?_, rfl⟩)) ?_
          · exact rfl
          exact True.intro
        · rintro r H9 ⟨har, ho9, hn9⟩
          have hni : some H3.length ≠ accId a4 := fun h => by have := (hids _ (by simp) _ h.symm).2; omega
          have hni3 : some H1.length ≠ accId a4 := fun h => by have := (hids _ (by simp) _ h.symm).1; omega
          have hb9 := ho9.get hb8 hni
          have hr9 := ho9.get hr8 hni3
          have hl9 := ho9.1
          refine y1 8 ?_
          refine sq_storek TYok rfl rfl rfl hb9 rfl Nat.zero_lt_one rfl har.cells rfl (Nat.le_of_ble_eq_true rfl) fun H10 hb10 ho10 hl10 => ?_
          refine sq_nil ?_
          refine yd ?_
          refine then_normal ?_
          refine aw_norm H3.length (ebk (cells5 (e.now + 1) a0 a1 a2 a3 r)) hb10 rfl rfl rfl (one_of rfl rfl) fun H11 hb11 ho11 hl11 => ?_
          (repeat' (first | (refine sq_id ?_; first | refine sq_nil ?_ | refine sm ?_ | refine sa ?_ | refine ss ?_ | refine st ?_ | refine sf ?_ | refine sp ?_ | refine sq ?_ | refine sl ?_ | refine si ?_ | refine sx ?_ | refine sy ?_ | fail) | (refine rg_id ?_; first | refine rg_fin ?_ | refine rm ?_ | refine ra ?_ | refine rs ?_ | refine rt ?_ | refine rf ?_ | refine rp ?_ | refine rq ?_ | refine rl ?_ | refine ri ?_ | refine rx ?_ | refine ry ?_ | fail) | refine aw_rseq ?_ | refine aw_seq ?_ | refine aw_region ?_ | refine aw_skip ?_ | refine ct ?_ | refine cf ?_ | refine d0s ?_ | refine d0r ?_ | refine aw_block ?_ | refine aw_exit ?_ | refine then_ret ?_ | refine then_exit ?_ | refine then_normal ?_ | refine blk_ret ?_ | refine blk_normal ?_ | refine blk_exit ?_ | refine blk_pass rfl ?_ | fail))
          refine sw hb11 fun H12 hb12 ho12 hl12 => ?_
          refine sq_nil ?_
          refine aw_norm H3.length (ebk (cells5 (e.now + 1) a0 a1 a2 (.p (.slice none 0 0)) r)) hb12 rfl rfl rfl (one_of rfl rfl) fun H13 hb6 ho13 hl13 => ?_
          have hnr : accId r ≠ some H3.length := by
            rcases hn9 with h | h | ⟨x, h, h2⟩
            · rw [h]; exact fun k => by cases k
            · rw [h]; exact fun k => hni k.symm
            · rw [h]; exact fun k => by cases k; omega
          have hno : ∀ a ∈ [a0, a1, a2, a3, r], ∀ i, accId a = some i → some i ≠ some H3.length := fun a ha i hi => by
            have : accId a ≠ some H3.length := by
              simp only [List.mem_cons, List.not_mem_nil, or_false] at ha
              rcases ha with rfl | rfl | rfl | rfl | rfl
              all_goals first | exact hnr | exact fun h => by have := (hids _ (by simp) _ h).2; omega
            exact fun k => this (hi.trans k)
          have hO9 : Own5 H2.length H9 { e with now := e.now + 1, free := e.free ++ e.l2 } a0 a1 a2 a3 r := hO8.r4 ho9 har hn9
          have hO13 : Own5 H2.length H13 { e with now := e.now + 1, free := e.free ++ e.l2 } a0 a1 a2 a3 r := (((hO9.keepO ho10 hno).keepO ho11 hno).keepO ho12 hno).keepO ho13 hno
          have hO6 : Own5 H2.length H13 { e with now := e.now + 1, l2 := [], free := e.free ++ e.l2 } a0 a1 a2 (.p (.slice none 0 0)) r := hO13.r3 (r := .p (.slice none 0 0)) (xs := []) ⟨Nat.le_refl _, fun _ _ _ => rfl⟩ (AccE.nil _ _ _ _ _) (.inl rfl)
          have hr6 := ho13.get (ho12.get (ho11.get (ho10.get hr9 (by simp; omega)) (by simp; omega)) (by simp; omega)) (by simp; omega)
          have hE6 : Oth H H13 none := ((((hE8.newx ho9 (fun i hi => by have := (hids _ (by simp) _ hi).1; omega)).new ho10 (by omega)).new ho11 (by omega)).new ho12 (by omega)).new ho13 (by omega)
          (repeat' (first | (refine sq_id ?_; first | refine sq_nil ?_ | refine sm ?_ | refine sa ?_ | refine ss ?_ | refine st ?_ | refine sf ?_ | refine sp ?_ | refine sq ?_ | refine sl ?_ | refine si ?_ | refine sx ?_ | refine sy ?_ | refine sq_load (v := .agg (cells5 (e.now + 1) a0 a1 a2 (.p (.slice none 0 0)) r)) TYok rfl rfl rfl hb6 rfl Nat.zero_lt_one (apart_ep _ rfl) ?_) | (refine rg_id ?_; first | refine rg_fin ?_ | refine rm ?_ | refine ra ?_ | refine rs ?_ | refine rt ?_ | refine rf ?_ | refine rp ?_ | refine rq ?_ | refine rl ?_ | refine ri ?_ | refine rx ?_ | refine ry ?_ | refine sq_load (v := .agg (cells5 (e.now + 1) a0 a1 a2 (.p (.slice none 0 0)) r)) TYok rfl rfl rfl hb6 rfl Nat.zero_lt_one (apart_ep _ rfl) ?_) | refine aw_rseq ?_ | refine aw_seq ?_ | refine aw_region ?_ | refine aw_skip ?_ | refine ct ?_ | refine cf ?_ | refine d0s ?_ | refine d0r ?_ | refine aw_block ?_ | refine aw_exit ?_ | refine then_ret ?_ | refine then_exit ?_ | refine then_normal ?_ | refine blk_ret ?_ | refine blk_normal ?_ | refine blk_exit ?_ | refine blk_pass rfl ?_ | refine sq_load (v := .agg (cells5 (e.now + 1) a0 a1 a2 (.p (.slice none 0 0)) r)) TYok rfl rfl rfl hb6 rfl Nat.zero_lt_one (apart_ep _ rfl) ?_))
          refine sw hr6 fun H8 hb8 ho8 hl8 => ?_
          (repeat' (first | (refine sq_id ?_; first | refine sq_nil ?_ | refine sm ?_ | refine sa ?_ | refine ss ?_ | refine st ?_ | refine sf ?_ | refine sp ?_ | refine sq ?_ | refine sl ?_ | refine si ?_ | refine sx ?_ | refine sy ?_) | (refine rg_id ?_; first | refine rg_fin ?_ | refine rm ?_ | refine ra ?_ | refine rs ?_ | refine rt ?_ | refine rf ?_ | refine rp ?_ | refine rq ?_ | refine rl ?_ | refine ri ?_ | refine rx ?_ | refine ry ?_) | refine aw_rseq ?_ | refine aw_seq ?_ | refine aw_region ?_ | refine aw_skip ?_ | refine ct ?_ | refine cf ?_ | refine d0s ?_ | refine d0r ?_ | refine aw_block ?_ | refine aw_exit ?_ | refine then_ret ?_ | refine then_exit ?_ | refine then_normal ?_ | refine blk_ret ?_ | refine blk_normal ?_ | refine blk_exit ?_ | refine blk_pass rfl ?_ | refine aw_dec rfl (fun _ => ?_) (fun _ => ?_)))
          ((try refine aw_ret ?_); (repeat (first | refine then_ret ?_ | refine blk_ret ?_)))
          exact ⟨True.intro, _, .cell _ _ _ _ _ _ _ _ _ rfl hb8 rfl Nat.zero_lt_one (by show apart TY _ (splice _ 0 (cells5 (e.now + 1) a0 a1 a2 (.p (.slice none 0 0)) r)) = _; rw [splice_all (by rfl)]; exact apart_ep _ rfl) (.tmp _ _ _ (.tmp _ _ _ .nil)), fin_refs hE6 hO6 ho8 (by omega) (by omega)⟩
  · have e1 : advanceE e = (e, false, 1) := if_neg hr
    rw [decide_eq_false hr] at hR
    rw [e1]
    (repeat' (first | (refine sq_id ?_; first | refine sq_nil ?_ | refine sm ?_ | refine sa ?_ | refine ss ?_ | refine st ?_ | refine sf ?_ | refine sp ?_ | refine sq ?_ | refine sl ?_ | refine si ?_ | refine sx ?_ | refine sy ?_ | refine sc hR ?_ | refine sq_load (v := .agg (cells5 e.now a0 a1 a2 a3 a4)) TYok rfl rfl rfl hb6 rfl Nat.zero_lt_one (apart_ep _ rfl) ?_) | (refine rg_id ?_; first | refine rg_fin ?_ | refine rm ?_ | refine ra ?_ | refine rs ?_ | refine rt ?_ | refine rf ?_ | refine rp ?_ | refine rq ?_ | refine rl ?_ | refine ri ?_ | refine rx ?_ | refine ry ?_ | refine sc hR ?_ | refine sq_load (v := .agg (cells5 e.now a0 a1 a2 a3 a4)) TYok rfl rfl rfl hb6 rfl Nat.zero_lt_one (apart_ep _ rfl) ?_) | refine aw_rseq ?_ | refine aw_seq ?_ | refine aw_region ?_ | refine aw_skip ?_ | refine ct ?_ | refine cf ?_ | refine d0s ?_ | refine d0r ?_ | refine aw_block ?_ | refine aw_exit ?_ | refine then_ret ?_ | refine then_exit ?_ | refine then_normal ?_ | refine blk_ret ?_ | refine blk_normal ?_ | refine blk_exit ?_ | refine blk_pass rfl ?_ | refine sc hR ?_ | refine sq_load (v := .agg (cells5 e.now a0 a1 a2 a3 a4)) TYok rfl rfl rfl hb6 rfl Nat.zero_lt_one (apart_ep _ rfl) ?_))
    refine sw hr6 fun H8 hb8 ho8 hl8 => ?_
    (repeat' (first | (refine sq_id ?_; first | refine sq_nil ?_ | refine sm ?_ | refine sa ?_ | refine ss ?_ | refine st ?_ | refine sf ?_ | refine sp ?_ | refine sq ?_ | refine sl ?_ | refine si ?_ | refine sx ?_ | refine sy ?_) | (refine rg_id ?_; first | refine rg_fin ?_ | refine rm ?_ | refine ra ?_ | refine rs ?_ | refine rt ?_ | refine rf ?_ | refine rp ?_ | refine rq ?_ | refine rl ?_ | refine ri ?_ | refine rx ?_ | refine ry ?_) | refine aw_rseq ?_ | refine aw_seq ?_ | refine aw_region ?_ | refine aw_skip ?_ | refine ct ?_ | refine cf ?_ | refine d0s ?_ | refine d0r ?_ | refine aw_block ?_ | refine aw_exit ?_ | refine then_ret ?_ | refine then_exit ?_ | refine then_normal ?_ | refine blk_ret ?_ | refine blk_normal ?_ | refine blk_exit ?_ | refine blk_pass rfl ?_ | refine aw_dec rfl (fun _ => ?_) (fun _ => ?_)))
    ((try refine aw_ret ?_); (repeat (first | refine then_ret ?_ | refine blk_ret ?_)))
    exact ⟨True.intro, _, .cell _ _ _ _ _ _ _ _ _ rfl hb8 rfl Nat.zero_lt_one (by show apart TY _ (splice _ 0 (cells5 e.now a0 a1 a2 a3 a4)) = _; rw [splice_all (by rfl)]; exact apart_ep _ rfl) (.tmp _ _ _ (.tmp _ _ _ .nil)), fin_refs hE6 hO6 ho8 (by omega) (by omega)⟩
theorem refownp_s (e : Ep) (hbd : Bd e) : PS Try.prog 30 [epv e] (epv e) :=
  ps_frz (cl_epv e) fun H => (refown_s e hbd H).mono fun r H' he => by
    obtain ⟨ho, a0, a1, a2, a3, a4, rfl, hO⟩ := he
    exact ⟨ho.ext, hO.frz⟩
set_option maxHeartbeats 8000000 in
theorem reftake_s (e : Ep) (hbd : Bd e) : PS Try.prog 23 [epv e] (tres (takeE e)) := by
  refine ps_frz (cl_tres _) fun H => ?_
  have hR := refright_s e hbd
  have hO := refownp_s e hbd
  have hbd' := hbd
  obtain ⟨hbd1, hbd2⟩ := hbd'
  refine sc_in TYok Try.func23 (by kernel_rfl) Try.ntmps23 rfl rfl rfl ?_
  refine aw_seq ?_
  refine aw_region ?_
  refine nw fun H1 hb1 ho1 hl1 => ?_
  refine nw fun H2 hb2 ho2 hl2 => ?_
  have hb12 := ho2.get0 hb1
  (repeat' (first | (refine sq_id ?_; first | refine sq_nil ?_ | refine sm ?_ | refine sa ?_ | refine ss ?_ | refine st ?_ | refine sf ?_ | refine sp ?_ | refine sq ?_ | refine sl ?_ | refine si ?_ | refine sx ?_ | refine sy ?_ | refine sc hO ?_) | (refine rg_id ?_; first | refine rg_fin ?_ | refine rm ?_ | refine ra ?_ | refine rs ?_ | refine rt ?_ | refine rf ?_ | refine rp ?_ | refine rq ?_ | refine rl ?_ | refine ri ?_ | refine rx ?_ | refine ry ?_ | refine sc hO ?_) | refine aw_rseq ?_ | refine aw_seq ?_ | refine aw_region ?_ | refine aw_skip ?_ | refine ct ?_ | refine cf ?_ | refine d0s ?_ | refine d0r ?_ | refine aw_block ?_ | refine aw_exit ?_ | refine then_ret ?_ | refine then_exit ?_ | refine then_normal ?_ | refine blk_ret ?_ | refine blk_normal ?_ | refine blk_exit ?_ | refine blk_pass rfl ?_ | refine sc hO ?_))
  refine nw fun H4 hb4 ho4 hl4 => ?_
  refine sw hb4 fun H5 hb5 ho5 hl5 => ?_
  refine sq_nil ?_
  refine aw_norm H2.length (ebk (epc e)) hb5 rfl rfl rfl (one_of rfl rfl) fun H6 hb6 ho6 hl6 => ?_
  have hE6 : Oth H H6 none := (((ho1.trans0 ho2).trans0 ho4).new ho5 (by omega)).new ho6 (by omega)
  have hb16 := ho6.get (ho5.get (ho4.get0 hb12) (by simp; omega)) (by simp; omega)
  have hr6 := ho6.get (ho5.get (ho4.get0 hb2) (by simp; omega)) (by simp; omega)
  have fin : ∀ (G G' : AH) (e' : Ep) (cs rs : List AV), Oth H G none → Oth G G' (some H1.length) → LeL cs (epc e') → Ext H G' ∧ Frz H.length G' (.tup (.agg cs :: rs)) (.tup (epv e' :: rs)) := fun G G' e' cs rs hE ho hle =>
    ⟨(hE.new ho (by omega)).ext, FrzL.tup (.cons (.le (le_agg hle)) (frzL_refl _ _ _))⟩
  by_cases hr : RightE e
  · rw [decide_eq_true hr] at hR
    rcases Nat.eq_zero_or_pos e.free.length with h0 | h0
    · have hf := List.eq_nil_of_length_eq_zero h0
      have e1 : takeE e = (e, 0, false, 0) := by unfold takeE; rw [if_pos hr, if_pos hf]
      rw [e1]
      (repeat' (first | (refine sq_id ?_; first | refine sq_nil ?_ | refine sm ?_ | refine sa ?_ | refine ss ?_ | refine st ?_ | refine sf ?_ | refine sp ?_ | refine sq ?_ | refine sl ?_ | refine si ?_ | refine sx ?_ | refine sy ?_ | refine sc hR ?_) | (refine rg_id ?_; first | refine rg_fin ?_ | refine rm ?_ | refine ra ?_ | refine rs ?_ | refine rt ?_ | refine rf ?_ | refine rp ?_ | refine rq ?_ | refine rl ?_ | refine ri ?_ | refine rx ?_ | refine ry ?_ | refine sc hR ?_) | refine aw_rseq ?_ | refine aw_seq ?_ | refine aw_region ?_ | refine aw_skip ?_ | refine ct ?_ | refine cf ?_ | refine d0s ?_ | refine d0r ?_ | refine aw_block ?_ | refine aw_exit ?_ | refine then_ret ?_ | refine then_exit ?_ | refine then_normal ?_ | refine blk_ret ?_ | refine blk_normal ?_ | refine blk_exit ?_ | refine blk_pass rfl ?_ | refine sc hR ?_))
      refine sw hr6 fun H8 hb8 ho8 hl8 => ?_
      (repeat' (first | (refine sq_id ?_; first | refine sq_nil ?_ | refine sm ?_ | refine sa ?_ | refine ss ?_ | refine st ?_ | refine sf ?_ | refine sp ?_ | refine sq ?_ | refine sl ?_ | refine si ?_ | refine sx ?_ | refine sy ?_) | (refine rg_id ?_; first | refine rg_fin ?_ | refine rm ?_ | refine ra ?_ | refine rs ?_ | refine rt ?_ | refine rf ?_ | refine rp ?_ | refine rq ?_ | refine rl ?_ | refine ri ?_ | refine rx ?_ | refine ry ?_) | refine aw_rseq ?_ | refine aw_seq ?_ | refine aw_region ?_ | refine aw_skip ?_ | refine ct ?_ | refine cf ?_ | refine d0s ?_ | refine d0r ?_ | refine aw_block ?_ | refine aw_exit ?_ | refine then_ret ?_ | refine then_exit ?_ | refine then_normal ?_ | refine blk_ret ?_ | refine blk_normal ?_ | refine blk_exit ?_ | refine blk_pass rfl ?_ | refine aw_dec rfl (fun _ => ?_) (fun _ => ?_)))
      ((try refine aw_ret ?_); (repeat (first | refine then_ret ?_ | refine blk_ret ?_)))
      exact ⟨True.intro, _, .cell _ _ _ _ _ _ _ _ _ rfl hb8 rfl Nat.zero_lt_one rfl (.tmp _ _ _ (.tmp _ _ _ (.tmp _ _ _ .nil))), fin _ _ _ _ _ hE6 ho8 (LeL.refl _)⟩
    · have hf : e.free ≠ [] := fun h => by rw [h] at h0; cases h0
      have e1 : takeE e = ({ e with free := e.free.drop 1 }, e.free.getD 0 0, true, 0) := by unfold takeE; rw [if_pos hr, if_neg hf]
      rw [e1]
      (repeat' (first | (refine sq_id ?_; first | refine sq_nil ?_ | refine sm ?_ | refine sa ?_ | refine ss ?_ | refine st ?_ | refine sf ?_ | refine sp ?_ | refine sq ?_ | refine sl ?_ | refine si ?_ | refine sx ?_ | refine sy ?_ | refine sc hR ?_ | refine sq_slice TYok rfl rfl rfl rfl rfl rfl (by exact ⟨_, rfl⟩) (by rfl) (by omega) ?_) | (refine rg_id ?_; first | refine rg_fin ?_ | refine rm ?_ | refine ra ?_ | refine rs ?_ | refine rt ?_ | refine rf ?_ | refine rp ?_ | refine rq ?_ | refine rl ?_ | refine ri ?_ | refine rx ?_ | refine ry ?_ | refine sc hR ?_ | refine sq_slice TYok rfl rfl rfl rfl rfl rfl (by exact ⟨_, rfl⟩) (by rfl) (by omega) ?_) | refine aw_rseq ?_ | refine aw_seq ?_ | refine aw_region ?_ | refine aw_skip ?_ | refine ct ?_ | refine cf ?_ | refine d0s ?_ | refine d0r ?_ | refine aw_block ?_ | refine aw_exit ?_ | refine then_ret ?_ | refine then_exit ?_ | refine then_normal ?_ | refine blk_ret ?_ | refine blk_normal ?_ | refine blk_exit ?_ | refine blk_pass rfl ?_ | refine sc hR ?_ | refine sq_slice TYok rfl rfl rfl rfl rfl rfl (by exact ⟨_, rfl⟩) (by rfl) (by omega) ?_))
      refine sw hb6 fun H7 hb7 ho7 hl7 => ?_
      refine sq_nil ?_
      refine aw_norm H2.length (ebk [.i e.now, ints e.pins, ints e.l0, ints e.l1, ints e.l2, .lst false 1 ((e.free.length : Int).toNat - (1 : Int).toNat) fun i => [AV.i (e.free.getD ((1 : Int).toNat + i) 0)]]) hb7 rfl rfl rfl (one_of rfl rfl) fun H8 hb8 ho8 hl8 => ?_
      have hE8 : Oth H H8 none := (hE6.new ho7 (by omega)).new ho8 (by omega)
      have hb18 := ho8.get (ho7.get hb16 (by simp; omega)) (by simp; omega)
      have hr8 := ho8.get (ho7.get hr6 (by simp; omega)) (by simp; omega)
      refine aw_seq ?_
      refine yall 9 ?_
      refine ye 1 ?_
      refine sp ?_
      refine sq_nil ?_
      refine y2 0 2 ?_ ?_
      first | refine sq_load (v := .agg [.i e.now, ints e.pins, ints e.l0, ints e.l1, ints e.l2, .lst false 1 ((e.free.length : Int).toNat - (1 : Int).toNat) fun i => [AV.i (e.free.getD ((1 : Int).toNat + i) 0)]]) TYok rfl rfl rfl hb8 rfl Nat.zero_lt_one (apart_ep _ rfl) ?_
      refine sq_nil ?_
      refine y2 2 5 ?_ ?_
      first | refine sl ?_ | refine sp ?_ | refine sq_load TYok rfl rfl rfl (g1.get hb18 (by simp; omega)) rfl Nat.zero_lt_one rfl ?_
      refine sq_nil ?_
      refine y2 3 5 ?_ ?_
      first | refine sp ?_ | refine sx ?_ | refine sy ?_
      refine sq_nil ?_
      refine y2 4 5 ?_ ?_
      first | refine sl ?_ | refine sp ?_ | refine sq_load TYok rfl rfl rfl (g1.get hb18 (by simp; omega)) rfl Nat.zero_lt_one rfl ?_
      refine sq_nil ?_
      refine y1 5 ?_
      refine sw hr8 fun G1 gb1 g1 gl1 => ?_
      refine sq_nil ?_
      refine ye 6 ?_
      refine sa ?_
      refine sq_nil ?_
      refine ye 7 ?_
      refine sa ?_
      refine sq_nil ?_
      refine ye 8 ?_
      refine sa ?_
      refine sq_nil ?_
      refine yd ?_
      exact then_normal (aw_ret ⟨True.intro, _, .cell _ _ _ _ _ _ _ _ _ rfl gb1 rfl Nat.zero_lt_one rfl (.tmp _ _ _ (.tmp _ _ _ (.tmp _ _ _ .nil))), fin _ _ { e with free := e.free.drop 1 } _ _ hE8 g1 (.cons (Le.refl _) (.cons (Le.refl _) (.cons (Le.refl _) (.cons (Le.refl _) (.cons (Le.refl _) (.cons (le_tail1 e.free _ (by rw [List.length_drop]; omega)) .nil))))))⟩)
      refine sw hr8 fun G1 gb1 g1 gl1 => ?_
      refine sq_nil ?_
      refine y1 4 ?_
      first | refine sl ?_ | refine sp ?_ | refine sq_load TYok rfl rfl rfl (g1.get hb18 (by simp; omega)) rfl Nat.zero_lt_one rfl ?_
      refine sq_nil ?_
      refine ye 6 ?_
      refine sa ?_
      refine sq_nil ?_
      refine ye 7 ?_
      refine sa ?_
      refine sq_nil ?_
      refine ye 8 ?_
      refine sa ?_
      refine sq_nil ?_
      refine yd ?_
      exact then_normal (aw_ret ⟨True.intro, _, .cell _ _ _ _ _ _ _ _ _ rfl gb1 rfl Nat.zero_lt_one rfl (.tmp _ _ _ (.tmp _ _ _ (.tmp _ _ _ .nil))), fin _ _ { e with free := e.free.drop 1 } _ _ hE8 g1 (.cons (Le.refl _) (.cons (Le.refl _) (.cons (Le.refl _) (.cons (Le.refl _) (.cons (Le.refl _) (.cons (le_tail1 e.free _ (by rw [List.length_drop]; omega)) .nil))))))⟩)
      refine sw hr8 fun G1 gb1 g1 gl1 => ?_
      refine sq_nil ?_
      refine y1 3 ?_
      first | refine sp ?_ | refine sx ?_ | refine sy ?_
      refine sq_nil ?_
      refine y1 4 ?_
      first | refine sl ?_ | refine sp ?_ | refine sq_load TYok rfl rfl rfl (g1.get hb18 (by simp; omega)) rfl Nat.zero_lt_one rfl ?_
      refine sq_nil ?_
      refine ye 6 ?_
      refine sa ?_
      refine sq_nil ?_
      refine ye 7 ?_
      refine sa ?_
      refine sq_nil ?_
      refine ye 8 ?_
      refine sa ?_
      refine sq_nil ?_
      refine yd ?_
      exact then_normal (aw_ret ⟨True.intro, _, .cell _ _ _ _ _ _ _ _ _ rfl gb1 rfl Nat.zero_lt_one rfl (.tmp _ _ _ (.tmp _ _ _ (.tmp _ _ _ .nil))), fin _ _ { e with free := e.free.drop 1 } _ _ hE8 g1 (.cons (Le.refl _) (.cons (Le.refl _) (.cons (Le.refl _) (.cons (Le.refl _) (.cons (Le.refl _) (.cons (le_tail1 e.free _ (by rw [List.length_drop]; omega)) .nil))))))⟩)
      refine sw hr8 fun G1 gb1 g1 gl1 => ?_
      refine sq_nil ?_
      refine y1 2 ?_
      first | refine sl ?_ | refine sp ?_ | refine sq_load TYok rfl rfl rfl (g1.get hb18 (by simp; omega)) rfl Nat.zero_lt_one rfl ?_
      refine sq_nil ?_
      refine y1 3 ?_
      first | refine sp ?_ | refine sx ?_ | refine sy ?_
      refine sq_nil ?_
      refine y1 4 ?_
      first | refine sl ?_ | refine sp ?_ | refine sq_load TYok rfl rfl rfl (g1.get hb18 (by simp; omega)) rfl Nat.zero_lt_one rfl ?_
      refine sq_nil ?_
      refine ye 6 ?_
      refine sa ?_
      refine sq_nil ?_
      refine ye 7 ?_
      refine sa ?_
      refine sq_nil ?_
      refine ye 8 ?_
      refine sa ?_
      refine sq_nil ?_
      refine yd ?_
      exact then_normal (aw_ret ⟨True.intro, _, .cell _ _ _ _ _ _ _ _ _ rfl gb1 rfl Nat.zero_lt_one rfl (.tmp _ _ _ (.tmp _ _ _ (.tmp _ _ _ .nil))), fin _ _ { e with free := e.free.drop 1 } _ _ hE8 g1 (.cons (Le.refl _) (.cons (Le.refl _) (.cons (Le.refl _) (.cons (Le.refl _) (.cons (Le.refl _) (.cons (le_tail1 e.free _ (by rw [List.length_drop]; omega)) .nil))))))⟩)
      first | refine sl ?_ | refine sp ?_ | refine sq_load TYok rfl rfl rfl (g1.get hb18 (by simp; omega)) rfl Nat.zero_lt_one rfl ?_
      refine sq_nil ?_
      refine y2 0 3 ?_ ?_
      first | refine sq_load (v := .agg [.i e.now, ints e.pins, ints e.l0, ints e.l1, ints e.l2, .lst false 1 ((e.free.length : Int).toNat - (1 : Int).toNat) fun i => [AV.i (e.free.getD ((1 : Int).toNat + i) 0)]]) TYok rfl rfl rfl hb8 rfl Nat.zero_lt_one (apart_ep _ rfl) ?_
      refine sq_nil ?_
      refine y2 3 5 ?_ ?_
      first | refine sp ?_ | refine sx ?_ | refine sy ?_
      refine sq_nil ?_
      refine y2 4 5 ?_ ?_
      first | refine sl ?_ | refine sp ?_ | refine sq_load TYok rfl rfl rfl (g1.get hb18 (by simp; omega)) rfl Nat.zero_lt_one rfl ?_
      refine sq_nil ?_
      refine y1 5 ?_
      refine sw hr8 fun G1 gb1 g1 gl1 => ?_
      refine sq_nil ?_
      refine ye 6 ?_
      refine sa ?_
      refine sq_nil ?_
      refine ye 7 ?_
      refine sa ?_
      refine sq_nil ?_
      refine ye 8 ?_
      refine sa ?_
      refine sq_nil ?_
      refine yd ?_
      exact then_normal (aw_ret ⟨True.intro, _, .cell _ _ _ _ _ _ _ _ _ rfl gb1 rfl Nat.zero_lt_one rfl (.tmp _ _ _ (.tmp _ _ _ (.tmp _ _ _ .nil))), fin _ _ { e with free := e.free.drop 1 } _ _ hE8 g1 (.cons (Le.refl _) (.cons (Le.refl _) (.cons (Le.refl _) (.cons (Le.refl _) (.cons (Le.refl _) (.cons (le_tail1 e.free _ (by rw [List.length_drop]; omega)) .nil))))))⟩)
      refine sw hr8 fun G1 gb1 g1 gl1 => ?_
      refine sq_nil ?_
      refine y1 4 ?_
      first | refine sl ?_ | refine sp ?_ | refine sq_load TYok rfl rfl rfl (g1.get hb18 (by simp; omega)) rfl Nat.zero_lt_one rfl ?_
      refine sq_nil ?_
      refine ye 6 ?_
      refine sa ?_
      refine sq_nil ?_
      refine ye 7 ?_
      refine sa ?_
      refine sq_nil ?_
      refine ye 8 ?_
      refine sa ?_
      refine sq_nil ?_
      refine yd ?_
      exact then_normal (aw_ret ⟨True.intro, _, .cell _ _ _ _ _ _ _ _ _ rfl gb1 rfl Nat.zero_lt_one rfl (.tmp _ _ _ (.tmp _ _ _ (.tmp _ _ _ .nil))), fin _ _ { e with free := e.free.drop 1 } _ _ hE8 g1 (.cons (Le.refl _) (.cons (Le.refl _) (.cons (Le.refl _) (.cons (Le.refl _) (.cons (Le.refl _) (.cons (le_tail1 e.free _ (by rw [List.length_drop]; omega)) .nil))))))⟩)
      refine sw hr8 fun G1 gb1 g1 gl1 => ?_
      refine sq_nil ?_
      refine y1 3 ?_
      first | refine sp ?_ | refine sx ?_ | refine sy ?_
      refine sq_nil ?_
      refine y1 4 ?_
      first | refine sl ?_ | refine sp ?_ | refine sq_load TYok rfl rfl rfl (g1.get hb18 (by simp; omega)) rfl Nat.zero_lt_one rfl ?_
      refine sq_nil ?_
      refine ye 6 ?_
      refine sa ?_
      refine sq_nil ?_
      refine ye 7 ?_
      refine sa ?_
      refine sq_nil ?_
      refine ye 8 ?_
      refine sa ?_
      refine sq_nil ?_
      refine yd ?_
      exact then_normal (aw_ret ⟨True.intro, _, .cell _ _ _ _ _ _ _ _ _ rfl gb1 rfl Nat.zero_lt_one rfl (.tmp _ _ _ (.tmp _ _ _ (.tmp _ _ _ .nil))), fin _ _ { e with free := e.free.drop 1 } _ _ hE8 g1 (.cons (Le.refl _) (.cons (Le.refl _) (.cons (Le.refl _) (.cons (Le.refl _) (.cons (Le.refl _) (.cons (le_tail1 e.free _ (by rw [List.length_drop]; omega)) .nil))))))⟩)
      first | refine sp ?_ | refine sx ?_ | refine sy ?_
      refine sq_nil ?_
      refine y2 0 4 ?_ ?_
      first | refine sq_load (v := .agg [.i e.now, ints e.pins, ints e.l0, ints e.l1, ints e.l2, .lst false 1 ((e.free.length : Int).toNat - (1 : Int).toNat) fun i => [AV.i (e.free.getD ((1 : Int).toNat + i) 0)]]) TYok rfl rfl rfl hb8 rfl Nat.zero_lt_one (apart_ep _ rfl) ?_
      refine sq_nil ?_
      refine y2 4 5 ?_ ?_
      first | refine sl ?_ | refine sp ?_ | refine sq_load TYok rfl rfl rfl (g1.get hb18 (by simp; omega)) rfl Nat.zero_lt_one rfl ?_
      refine sq_nil ?_
      refine y1 5 ?_
      refine sw hr8 fun G1 gb1 g1 gl1 => ?_
      refine sq_nil ?_
      refine ye 6 ?_
      refine sa ?_
      refine sq_nil ?_
      refine ye 7 ?_
      refine sa ?_
      refine sq_nil ?_
      refine ye 8 ?_
      refine sa ?_
      refine sq_nil ?_
      refine yd ?_
      exact then_normal (aw_ret ⟨True.intro, _, .cell _ _ _ _ _ _ _ _ _ rfl gb1 rfl Nat.zero_lt_one rfl (.tmp _ _ _ (.tmp _ _ _ (.tmp _ _ _ .nil))), fin _ _ { e with free := e.free.drop 1 } _ _ hE8 g1 (.cons (Le.refl _) (.cons (Le.refl _) (.cons (Le.refl _) (.cons (Le.refl _) (.cons (Le.refl _) (.cons (le_tail1 e.free _ (by rw [List.length_drop]; omega)) .nil))))))⟩)
      refine sw hr8 fun G1 gb1 g1 gl1 => ?_
      refine sq_nil ?_
      refine y1 4 ?_
      first | refine sl ?_ | refine sp ?_ | refine sq_load TYok rfl rfl rfl (g1.get hb18 (by simp; omega)) rfl Nat.zero_lt_one rfl ?_
      refine sq_nil ?_
      refine ye 6 ?_
      refine sa ?_
      refine sq_nil ?_
      refine ye 7 ?_
      refine sa ?_
      refine sq_nil ?_
      refine ye 8 ?_
      refine sa ?_
      refine sq_nil ?_
      refine yd ?_
      exact then_normal (aw_ret ⟨True.intro, _, .cell _ _ _ _ _ _ _ _ _ rfl gb1 rfl Nat.zero_lt_one rfl (.tmp _ _ _ (.tmp _ _ _ (.tmp _ _ _ .nil))), fin _ _ { e with free := e.free.drop 1 } _ _ hE8 g1 (.cons (Le.refl _) (.cons (Le.refl _) (.cons (Le.refl _) (.cons (Le.refl _) (.cons (Le.refl _) (.cons (le_tail1 e.free _ (by rw [List.length_drop]; omega)) .nil))))))⟩)
      first | refine sl ?_ | refine sp ?_ | refine sq_load TYok rfl rfl rfl (g1.get hb18 (by simp; omega)) rfl Nat.zero_lt_one rfl ?_
      refine sq_nil ?_
      refine y1 0 ?_
      first | refine sq_load (v := .agg [.i e.now, ints e.pins, ints e.l0, ints e.l1, ints e.l2, .lst false 1 ((e.free.length : Int).toNat - (1 : Int).toNat) fun i => [AV.i (e.free.getD ((1 : Int).toNat + i) 0)]]) TYok rfl rfl rfl hb8 rfl Nat.zero_lt_one (apart_ep _ rfl) ?_
      refine sq_nil ?_
      refine y1 5 ?_
      refine sw hr8 fun G1 gb1 g1 gl1 => ?_
      refine sq_nil ?_
      refine ye 6 ?_
      refine sa ?_
      refine sq_nil ?_
      refine ye 7 ?_
      refine sa ?_
      refine sq_nil ?_
      refine ye 8 ?_
      refine sa ?_
      refine sq_nil ?_
      refine yd ?_
      exact then_normal (aw_ret ⟨True.intro, _, .cell _ _ _ _ _ _ _ _ _ rfl gb1 rfl Nat.zero_lt_one rfl (.tmp _ _ _ (.tmp _ _ _ (.tmp _ _ _ .nil))), fin _ _ { e with free := e.free.drop 1 } _ _ hE8 g1 (.cons (Le.refl _) (.cons (Le.refl _) (.cons (Le.refl _) (.cons (Le.refl _) (.cons (Le.refl _) (.cons (le_tail1 e.free _ (by rw [List.length_drop]; omega)) .nil))))))⟩)
  · have e1 : takeE e = (e, 0, false, 1) := if_neg hr
    rw [decide_eq_false hr] at hR
    rw [e1]
    (repeat' (first | (refine sq_id ?_; first | refine sq_nil ?_ | refine sm ?_ | refine sa ?_ | refine ss ?_ | refine st ?_ | refine sf ?_ | refine sp ?_ | refine sq ?_ | refine sl ?_ | refine si ?_ | refine sx ?_ | refine sy ?_ | refine sc hR ?_) | (refine rg_id ?_; first | refine rg_fin ?_ | refine rm ?_ | refine ra ?_ | refine rs ?_ | refine rt ?_ | refine rf ?_ | refine rp ?_ | refine rq ?_ | refine rl ?_ | refine ri ?_ | refine rx ?_ | refine ry ?_ | refine sc hR ?_) | refine aw_rseq ?_ | refine aw_seq ?_ | refine aw_region ?_ | refine aw_skip ?_ | refine ct ?_ | refine cf ?_ | refine d0s ?_ | refine d0r ?_ | refine aw_block ?_ | refine aw_exit ?_ | refine then_ret ?_ | refine then_exit ?_ | refine then_normal ?_ | refine blk_ret ?_ | refine blk_normal ?_ | refine blk_exit ?_ | refine blk_pass rfl ?_ | refine sc hR ?_))
    refine sw hr6 fun H8 hb8 ho8 hl8 => ?_
    (repeat' (first | (refine sq_id ?_; first | refine sq_nil ?_ | refine sm ?_ | refine sa ?_ | refine ss ?_ | refine st ?_ | refine sf ?_ | refine sp ?_ | refine sq ?_ | refine sl ?_ | refine si ?_ | refine sx ?_ | refine sy ?_) | (refine rg_id ?_; first | refine rg_fin ?_ | refine rm ?_ | refine ra ?_ | refine rs ?_ | refine rt ?_ | refine rf ?_ | refine rp ?_ | refine rq ?_ | refine rl ?_ | refine ri ?_ | refine rx ?_ | refine ry ?_) | refine aw_rseq ?_ | refine aw_seq ?_ | refine aw_region ?_ | refine aw_skip ?_ | refine ct ?_ | refine cf ?_ | refine d0s ?_ | refine d0r ?_ | refine aw_block ?_ | refine aw_exit ?_ | refine then_ret ?_ | refine then_exit ?_ | refine then_normal ?_ | refine blk_ret ?_ | refine blk_normal ?_ | refine blk_exit ?_ | refine blk_pass rfl ?_ | refine aw_dec rfl (fun _ => ?_) (fun _ => ?_)))
    ((try refine aw_ret ?_); (repeat (first | refine then_ret ?_ | refine blk_ret ?_)))
    exact ⟨True.intro, _, .cell _ _ _ _ _ _ _ _ _ rfl hb8 rfl Nat.zero_lt_one rfl (.tmp _ _ _ (.tmp _ _ _ (.tmp _ _ _ .nil))), fin _ _ _ _ _ hE6 ho8 (LeL.refl _)⟩
end Go.Proofs.Ytmhepmocnnlhnaa.Ab
