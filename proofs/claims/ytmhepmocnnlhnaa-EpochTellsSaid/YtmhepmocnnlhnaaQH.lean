/- epoch.change, epoch.worker. -/
import Derived.Test.YtmhepmocnnlhnaaQG
namespace Go.Proofs.Ytmhepmocnnlhnaa.Ab
open Go Go.RowKit
theorem apart_ep (cs : List AV) (h : cs.length = 6) : apart TY 26 cs = some (.agg cs) := by
  show (bif Nat.ble 6 cs.length then fl (cs.take 6) fun l => some (AV.agg l) else none) = _
  rw [h]
  show fl (cs.take 6) _ = _
  rw [fl_eq, List.take_of_length_le (by omega)]
theorem splice_all {cs new : List AV} (h : cs.length = new.length) : splice cs 0 new = new := by
  unfold splice
  rw [List.take_zero, List.nil_append, Nat.zero_add, List.drop_of_length_le (by omega), List.append_nil]
theorem IsBox.keep {H H' : AH} {id : Nat} {cs : List AV} (h : IsBox H id cs) (he : H'[id]? = H[id]?) : IsBox H' id cs := by
  obtain ⟨b, hb, h⟩ := h
  exact ⟨b, he.trans hb, h⟩
/-- all but what lies in between -/
def Rest (lo hi : Nat) (H H' : AH) : Prop := H.length ≤ H'.length ∧ ∀ j, j < H.length → (j < lo ∨ hi ≤ j) → H'[j]? = H[j]?
theorem Oth.rest {lo hi : Nat} {H H' : AH} {id : Nat} (h : Oth H H' (some id)) (h1 : lo ≤ id) (h2 : id < hi) : Rest lo hi H H' :=
  ⟨h.1, fun j hj hc => h.2 j hj (by simp; omega)⟩
theorem ownF_s (e : Ep) (hbd : Bd e) : PS Try.prog 50 [epv e] (epv e) := by
  obtain ⟨hb1, hb2⟩ := hbd
  intro H
  refine (sc_pure (K := fun r => r = epv e) ((ownA_s e ⟨hb1, hb2⟩ (clone_s e.pins (by omega)) (clone_s e.l0 (by omega)) (clone_s e.l1 (by omega)) (clone_s e.l2 (by omega)) (clone_s e.free (by omega)) H).mono fun r H' ⟨ho, m, hr⟩ => ?_))
  subst hr
  exact ⟨ho.ext, cl_epv e, rfl⟩
set_option maxHeartbeats 4000000 in
theorem change_s (e : Ep) (hbd : Bd e) {f : FuncId} {cs : List AV} {cells : Nat → List AV} {Fact : Nat → Nat → AH → Prop} (hl : ∀ m, (cells m).length = 6) (hst : ∀ k m H H', Fact k m H → Rest 0 k H H' → Fact k m H')
    (hown : ∀ H, SC true Try.prog 50 [epv e] H (fun r H' => Oth H H' none ∧ ∃ m : Nat, r = .agg (cells m) ∧ Fact H.length m H')) (H : AH) (Q : AV → AH → Prop)
    (hN : ¬ RightE e → ∀ k m H', Oth H H' none → H.length ≤ k → Fact k m H' → Q (.tup [.agg (cells m), .i 1]) H')
    (hY : RightE e → ∀ k id m H0 H1, Oth H H1 none → H.length + 2 = k → Fact k m H0 → k ≤ id → id = H0.length → Fact k m H1 → IsBox H1 id (cells m) → SC true Try.prog f (.ref id 6 0 0 :: cs) H1 (fun r H2 => ∃ er, r = .i er ∧ H1.length ≤ H2.length ∧ (∀ j, H.length ≤ j → j < k → H2[j]? = H1[j]?) ∧
      (er ≠ 0 → ∀ H3, Rest H.length k H2 H3 → Q (.tup [epv e, .i er]) H3) ∧ (er = 0 → ∃ cs', cs'.length = 6 ∧ IsBox H2 id cs' ∧ ∀ H3, Rest H.length k H2 H3 → Q (.tup [.agg cs', .i 0]) H3))) :
    SC true Try.prog 39 [epv e, .fn (.func f) [] cs] H Q := by
  refine sc_in TYok Try.func39 (by kernel_rfl) Try.ntmps39 rfl rfl rfl ?_
  have hR := right_s e hbd
  have hO := ownF_s e hbd
  refine aw_seq ?_
  refine aw_region ?_
  refine nw fun H1 hb1 ho1 hl1 => ?_
  refine nw fun H2 hb2 ho2 hl2 => ?_
  have hb12 := ho2.get0 hb1
  (repeat' (first | (refine sq_id ?_; first | refine sq_nil ?_ | refine sm ?_ | refine sa ?_ | refine ss ?_ | refine st ?_ | refine sf ?_ | refine sp ?_ | refine sq ?_ | refine sl ?_ | refine si ?_ | refine sx ?_ | refine sy ?_) | (refine rg_id ?_; first | refine rg_fin ?_ | refine rm ?_ | refine ra ?_ | refine rs ?_ | refine rt ?_ | refine rf ?_ | refine rp ?_ | refine rq ?_ | refine rl ?_ | refine ri ?_ | refine rx ?_ | refine ry ?_) | refine aw_rseq ?_ | refine aw_seq ?_ | refine aw_region ?_ | refine aw_skip ?_ | refine ct ?_ | refine cf ?_ | refine d0s ?_ | refine d0r ?_ | refine aw_block ?_ | refine aw_exit ?_ | refine then_ret ?_ | refine then_exit ?_ | refine then_normal ?_ | refine blk_ret ?_ | refine blk_normal ?_ | refine blk_exit ?_ | refine blk_pass rfl ?_))
  refine sq_call rfl rfl rfl (LeL.refl _) ((hown H2).mono fun r H3 he => ?_)
  obtain ⟨ho3, m, rfl, hF⟩ := he
  have hlen3 := ho3.1
  refine nw fun H4 hb4 ho4 hl4 => ?_
  refine sq_storek TYok rfl rfl rfl hb4 rfl Nat.zero_lt_one rfl rfl (hl m) (by rw [hl]; exact Nat.le_refl 6) fun H5 hb5 ho5 hl5 => ?_
  have hbx : IsBox H5 H3.length (cells m) := ⟨_, hb5, rfl, rfl, rfl, splice_all (by rw [hl]; rfl)⟩
  have hbx' := hbx
  have hk : H.length + 2 = H2.length := by omega
  have hb1e := ho5.get (ho4.get0 (ho3.get0 hb12)) (by simp; omega)
  have hb2e := ho5.get (ho4.get0 (ho3.get0 hb2)) (by simp; omega)
  have ho15 : Oth H H5 none := (((ho1.trans0 ho2).trans0 ho3).trans0 ho4).new ho5 (by omega)
  have hF5 : Fact H2.length m H5 := hst _ _ _ _ hF ⟨by omega, fun j hj _ => by
    rw [ho5.2 j (by omega) (by simp; omega), ho4.2 j hj (by simp)]⟩
  by_cases hright : RightE e
  · rw [decide_eq_true hright] at hR
    (repeat' (first | (refine sq_id ?_; first | refine sq_nil ?_ | refine sm ?_ | refine sa ?_ | refine ss ?_ | refine st ?_ | refine sf ?_ | refine sp ?_ | refine sq ?_ | refine sl ?_ | refine si ?_ | refine sx ?_ | refine sy ?_ | refine sc hR ?_) | (refine rg_id ?_; first | refine rg_fin ?_ | refine rm ?_ | refine ra ?_ | refine rs ?_ | refine rt ?_ | refine rf ?_ | refine rp ?_ | refine rq ?_ | refine rl ?_ | refine ri ?_ | refine rx ?_ | refine ry ?_ | refine sc hR ?_) | refine aw_rseq ?_ | refine aw_seq ?_ | refine aw_region ?_ | refine aw_skip ?_ | refine ct ?_ | refine cf ?_ | refine d0s ?_ | refine d0r ?_ | refine aw_block ?_ | refine aw_exit ?_ | refine then_ret ?_ | refine then_exit ?_ | refine then_normal ?_ | refine blk_ret ?_ | refine blk_normal ?_ | refine blk_exit ?_ | refine blk_pass rfl ?_ | refine sc hR ?_))
    refine sq_callv rfl rfl rfl rfl (LeL.refl _) ((hY hright H2.length H3.length m H3 H5 ho15 hk hF hlen3 rfl hF5 hbx).mono fun r H6 he => ?_)
    obtain ⟨er, rfl, hlen6, hkeep, hq1, hq2⟩ := he
    have hb1f := (hkeep H.length (Nat.le_refl _) (by omega)).trans hb1e
    have hb2f := (hkeep H1.length (by omega) (by omega)).trans hb2e
    by_cases her : er = 0
    · subst her
      obtain ⟨cs', hcl, ⟨b, hbb, e1, e2, e3, e4⟩, hq⟩ := hq2 rfl
      (repeat' (first | (refine sq_id ?_; first | refine sq_nil ?_ | refine sm ?_ | refine sa ?_ | refine ss ?_ | refine st ?_ | refine sf ?_ | refine sp ?_ | refine sq ?_ | refine sl ?_ | refine si ?_ | refine sx ?_ | refine sy ?_) | (refine rg_id ?_; first | refine rg_fin ?_ | refine rm ?_ | refine ra ?_ | refine rs ?_ | refine rt ?_ | refine rf ?_ | refine rp ?_ | refine rq ?_ | refine rl ?_ | refine ri ?_ | refine rx ?_ | refine ry ?_) | refine aw_rseq ?_ | refine aw_seq ?_ | refine aw_region ?_ | refine aw_skip ?_ | refine ct ?_ | refine cf ?_ | refine d0s ?_ | refine d0r ?_ | refine aw_block ?_ | refine aw_exit ?_ | refine then_ret ?_ | refine then_exit ?_ | refine then_normal ?_ | refine blk_ret ?_ | refine blk_normal ?_ | refine blk_exit ?_ | refine blk_pass rfl ?_))
      refine sq_load (v := .agg cs') TYok rfl rfl rfl hbb e2 (by omega) (by rw [e4]; exact apart_ep cs' hcl) ?_
      refine sq_storek TYok rfl rfl rfl hb2f rfl Nat.zero_lt_one rfl rfl hcl (by rw [hcl]; exact Nat.le_refl 6) fun H7 hb7 ho7 hl7 => ?_
      (repeat' (first | (refine sq_id ?_; first | refine sq_nil ?_ | refine sm ?_ | refine sa ?_ | refine ss ?_ | refine st ?_ | refine sf ?_ | refine sp ?_ | refine sq ?_ | refine sl ?_ | refine si ?_ | refine sx ?_ | refine sy ?_) | (refine rg_id ?_; first | refine rg_fin ?_ | refine rm ?_ | refine ra ?_ | refine rs ?_ | refine rt ?_ | refine rf ?_ | refine rp ?_ | refine rq ?_ | refine rl ?_ | refine ri ?_ | refine rx ?_ | refine ry ?_) | refine aw_rseq ?_ | refine aw_seq ?_ | refine aw_region ?_ | refine aw_skip ?_ | refine ct ?_ | refine cf ?_ | refine d0s ?_ | refine d0r ?_ | refine aw_block ?_ | refine aw_exit ?_ | refine then_ret ?_ | refine then_exit ?_ | refine then_normal ?_ | refine blk_ret ?_ | refine blk_normal ?_ | refine blk_exit ?_ | refine blk_pass rfl ?_ | refine aw_dec rfl (fun _ => ?_) (fun _ => ?_)))
      ((try refine aw_ret ?_); (repeat (first | refine then_ret ?_ | refine blk_ret ?_)))
      exact ⟨True.intro, _, .cell _ _ _ _ _ _ _ _ _ rfl hb7 rfl Nat.zero_lt_one (by show apart TY _ (splice _ 0 cs') = _; rw [splice_all (by rw [hcl]; rfl)]; exact apart_ep cs' hcl) (.tmp _ _ _ .nil), hq H7 (ho7.rest (by omega) (by omega))⟩
    · (repeat' (first | (refine sq_id ?_; first | refine sq_nil ?_ | refine sm ?_ | refine sa ?_ | refine ss ?_ | refine st ?_ | refine sf ?_ | refine sp ?_ | refine sq ?_ | refine sl ?_ | refine si ?_ | refine sx ?_ | refine sy ?_ | refine sc hO ?_) | (refine rg_id ?_; first | refine rg_fin ?_ | refine rm ?_ | refine ra ?_ | refine rs ?_ | refine rt ?_ | refine rf ?_ | refine rp ?_ | refine rq ?_ | refine rl ?_ | refine ri ?_ | refine rx ?_ | refine ry ?_ | refine sc hO ?_) | refine aw_rseq ?_ | refine aw_seq ?_ | refine aw_region ?_ | refine aw_skip ?_ | refine ct ?_ | refine cf ?_ | refine d0s ?_ | refine d0r ?_ | refine aw_block ?_ | refine aw_exit ?_ | refine then_ret ?_ | refine then_exit ?_ | refine then_normal ?_ | refine blk_ret ?_ | refine blk_normal ?_ | refine blk_exit ?_ | refine blk_pass rfl ?_ | refine sc hO ?_))
      refine sw hb2f fun H7 hb7 ho7 hl7 => ?_
      (repeat' (first | (refine sq_id ?_; first | refine sq_nil ?_ | refine sm ?_ | refine sa ?_ | refine ss ?_ | refine st ?_ | refine sf ?_ | refine sp ?_ | refine sq ?_ | refine sl ?_ | refine si ?_ | refine sx ?_ | refine sy ?_) | (refine rg_id ?_; first | refine rg_fin ?_ | refine rm ?_ | refine ra ?_ | refine rs ?_ | refine rt ?_ | refine rf ?_ | refine rp ?_ | refine rq ?_ | refine rl ?_ | refine ri ?_ | refine rx ?_ | refine ry ?_) | refine aw_rseq ?_ | refine aw_seq ?_ | refine aw_region ?_ | refine aw_skip ?_ | refine ct ?_ | refine cf ?_ | refine d0s ?_ | refine d0r ?_ | refine aw_block ?_ | refine aw_exit ?_ | refine then_ret ?_ | refine then_exit ?_ | refine then_normal ?_ | refine blk_ret ?_ | refine blk_normal ?_ | refine blk_exit ?_ | refine blk_pass rfl ?_ | refine aw_dec rfl (fun _ => ?_) (fun _ => ?_)))
      ((try refine aw_ret ?_); (repeat (first | refine then_ret ?_ | refine blk_ret ?_)))
      exact ⟨True.intro, _, .cell _ _ _ _ _ _ _ _ _ rfl hb7 rfl Nat.zero_lt_one rfl (.tmp _ _ _ .nil), hq1 her H7 (ho7.rest (by omega) (by omega))⟩
  · rw [decide_eq_false hright] at hR
    obtain ⟨b, hbb, e1, e2, e3, e4⟩ := hbx
    (repeat' (first | (refine sq_id ?_; first | refine sq_nil ?_ | refine sm ?_ | refine sa ?_ | refine ss ?_ | refine st ?_ | refine sf ?_ | refine sp ?_ | refine sq ?_ | refine sl ?_ | refine si ?_ | refine sx ?_ | refine sy ?_ | refine sc hR ?_) | (refine rg_id ?_; first | refine rg_fin ?_ | refine rm ?_ | refine ra ?_ | refine rs ?_ | refine rt ?_ | refine rf ?_ | refine rp ?_ | refine rq ?_ | refine rl ?_ | refine ri ?_ | refine rx ?_ | refine ry ?_ | refine sc hR ?_) | refine aw_rseq ?_ | refine aw_seq ?_ | refine aw_region ?_ | refine aw_skip ?_ | refine ct ?_ | refine cf ?_ | refine d0s ?_ | refine d0r ?_ | refine aw_block ?_ | refine aw_exit ?_ | refine then_ret ?_ | refine then_exit ?_ | refine then_normal ?_ | refine blk_ret ?_ | refine blk_normal ?_ | refine blk_exit ?_ | refine blk_pass rfl ?_ | refine sc hR ?_))
    refine sq_load (v := .agg (cells m)) TYok rfl rfl rfl hbb e2 (by omega) (by rw [e4]; exact apart_ep _ (hl m)) ?_
    refine sq_storek TYok rfl rfl rfl hb2e rfl Nat.zero_lt_one rfl rfl (hl m) (by rw [hl]; exact Nat.le_refl 6) fun H7 hb7 ho7 hl7 => ?_
    (repeat' (first | (refine sq_id ?_; first | refine sq_nil ?_ | refine sm ?_ | refine sa ?_ | refine ss ?_ | refine st ?_ | refine sf ?_ | refine sp ?_ | refine sq ?_ | refine sl ?_ | refine si ?_ | refine sx ?_ | refine sy ?_) | (refine rg_id ?_; first | refine rg_fin ?_ | refine rm ?_ | refine ra ?_ | refine rs ?_ | refine rt ?_ | refine rf ?_ | refine rp ?_ | refine rq ?_ | refine rl ?_ | refine ri ?_ | refine rx ?_ | refine ry ?_) | refine aw_rseq ?_ | refine aw_seq ?_ | refine aw_region ?_ | refine aw_skip ?_ | refine ct ?_ | refine cf ?_ | refine d0s ?_ | refine d0r ?_ | refine aw_block ?_ | refine aw_exit ?_ | refine then_ret ?_ | refine then_exit ?_ | refine then_normal ?_ | refine blk_ret ?_ | refine blk_normal ?_ | refine blk_exit ?_ | refine blk_pass rfl ?_ | refine aw_dec rfl (fun _ => ?_) (fun _ => ?_)))
    ((try refine aw_ret ?_); (repeat (first | refine then_ret ?_ | refine blk_ret ?_)))
    refine ⟨True.intro, _, .cell _ _ _ _ _ _ _ _ _ rfl hb7 rfl Nat.zero_lt_one (by show apart TY _ (splice _ 0 (cells m)) = _; rw [splice_all (by rw [hl]; rfl)]; exact apart_ep _ (hl m)) (.tmp _ _ _ .nil), ?_⟩
    exact hN hright H2.length m H7 (ho15.new ho7 (by omega)) (by omega) (hst _ _ _ _ hF5 (ho7.rest (Nat.zero_le _) (by omega)))
end Go.Proofs.Ytmhepmocnnlhnaa.Ab
