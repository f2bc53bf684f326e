/- epoch.own: a copy in memory of its own. -/
import Derived.Test.YtmhepmocnnlhnaaQF
import Derived.Test.YtmhepmocnnlhnaaFG
namespace Go.Proofs.Ytmhepmocnnlhnaa.Ab
open Go Go.RowKit
/-- a block that holds epochs -/
def IsBox (H : AH) (id : Nat) (cs : List AV) : Prop := ∃ b, H[id]? = some (some b) ∧ b.ety = 26 ∧ b.sz = 6 ∧ b.n = 1 ∧ b.g 0 = cs
theorem one_of {b : Blk} {cs : List AV} (hn : b.n = 1) (h : b.g 0 = cs) : ∀ i, i < b.n → b.g i = cs := fun i hi => by
  have : i = 0 := by omega
  subst this; exact h
set_option maxHeartbeats 4000000 in
theorem ownA_s (e : Ep) (hbd : Bd e) {t0 : Bool} {n0 : Nat} {g0 : Nat → List AV} (c0 : PS Try.prog 48 [ints e.pins] (.lst t0 1 n0 g0)) {t1 : Bool} {n1 : Nat} {g1 : Nat → List AV} (c1 : PS Try.prog 48 [ints e.l0] (.lst t1 1 n1 g1)) {t2 : Bool} {n2 : Nat} {g2 : Nat → List AV} (c2 : PS Try.prog 48 [ints e.l1] (.lst t2 1 n2 g2)) {t3 : Bool} {n3 : Nat} {g3 : Nat → List AV} (c3 : PS Try.prog 48 [ints e.l2] (.lst t3 1 n3 g3)) {t4 : Bool} {n4 : Nat} {g4 : Nat → List AV} (c4 : PS Try.prog 48 [ints e.free] (.lst t4 1 n4 g4)) (H : AH) : SC true Try.prog 50 [epv e] H (fun r H' => Oth H H' none ∧ ∃ m : Nat, r = .agg [.i e.now, .lst t0 1 n0 g0, .lst t1 1 n1 g1, .lst t2 1 n2 g2, .lst t3 1 n3 g3, .lst t4 1 n4 g4]) := by
  obtain ⟨hb1, hb2⟩ := hbd
  refine sc_in TYok Try.func50 (by kernel_rfl) Try.ntmps50 rfl rfl rfl ?_
  refine aw_seq ?_
  refine aw_region ?_
  refine nw fun H1 hb1 ho1 hl1 => ?_
  refine nw fun H2 hb2 ho2 hl2 => ?_
  refine sq_nil ?_
  have hbx := ho2.get0 hb1
  have ho12 := ho1.trans0 ho2
  have hl12 : H2.length = H.length + 2 := by omega
  refine aw_seq ?_
  refine aw_mid [1, 2] (fun _ : Nat => [(1, .ref H.length 6 0 0), (2, .ref H1.length 6 0 0)]) (fun m H' => Oth H H' none ∧ IsBox H' H.length [.i e.now, .lst t0 1 n0 g0, ints e.l0, ints e.l1, ints e.l2, .lst t4 1 n4 g4] ∧ (∃ b, H'[H1.length]? = some (some b) ∧ b.sz = 6 ∧ b.n = 1)) ?_ ?_
  ·
    refine yall 10 ?_
    refine ye 0 ?_
    refine sp ?_
    refine sq_nil ?_
    refine ye 3 ?_
    refine sp ?_
    refine sq_nil ?_
    refine y2 1 4 ?_ ?_
    refine sl ?_
    refine sq_nil ?_
    refine y2 2 4 ?_ ?_
    refine sc c0 ?_
    refine sq_nil ?_
    refine y1 4 ?_
    refine sl ?_
    refine sq_nil ?_
    refine ye 6 ?_
    refine sp ?_
    refine sq_nil ?_
    refine y1 5 ?_
    refine sc c4 ?_
    refine sq_nil ?_
    refine y1 7 ?_
    refine sw hbx fun H5 hb5 ho5 hl5 => ?_
    refine sq_nil ?_
    refine ye 8 ?_
    refine sp ?_
    refine sq_nil ?_
    refine y1 9 ?_
    refine sw hb5 fun H6 hb6 ho6 hl6 => ?_
    refine sq_nil ?_
    refine yd ?_
    exact then_normal ⟨0, _, by rw [rstf_eq]; rfl, .refl _, (ho12.new ho5 (Nat.le_refl _)).new ho6 (Nat.le_refl _), ⟨_, hb6, rfl, rfl, rfl, rfl⟩, ⟨_, ho6.get (ho5.get hb2 (by simp; omega)) (by simp; omega), rfl, rfl⟩⟩
    refine sl ?_
    refine sq_nil ?_
    refine y1 2 ?_
    refine sc c0 ?_
    refine sq_nil ?_
    refine ye 6 ?_
    refine sp ?_
    refine sq_nil ?_
    refine y1 5 ?_
    refine sc c4 ?_
    refine sq_nil ?_
    refine y1 7 ?_
    refine sw hbx fun H5 hb5 ho5 hl5 => ?_
    refine sq_nil ?_
    refine ye 8 ?_
    refine sp ?_
    refine sq_nil ?_
    refine y1 9 ?_
    refine sw hb5 fun H6 hb6 ho6 hl6 => ?_
    refine sq_nil ?_
    refine yd ?_
    exact then_normal ⟨0, _, by rw [rstf_eq]; rfl, .refl _, (ho12.new ho5 (Nat.le_refl _)).new ho6 (Nat.le_refl _), ⟨_, hb6, rfl, rfl, rfl, rfl⟩, ⟨_, ho6.get (ho5.get hb2 (by simp; omega)) (by simp; omega), rfl, rfl⟩⟩
    refine sl ?_
    refine sq_nil ?_
    refine y1 1 ?_
    refine sl ?_
    refine sq_nil ?_
    refine y1 2 ?_
    refine sc c0 ?_
    refine sq_nil ?_
    refine ye 6 ?_
    refine sp ?_
    refine sq_nil ?_
    refine y1 5 ?_
    refine sc c4 ?_
    refine sq_nil ?_
    refine y1 7 ?_
    refine sw hbx fun H5 hb5 ho5 hl5 => ?_
    refine sq_nil ?_
    refine ye 8 ?_
    refine sp ?_
    refine sq_nil ?_
    refine y1 9 ?_
    refine sw hb5 fun H6 hb6 ho6 hl6 => ?_
    refine sq_nil ?_
    refine yd ?_
    exact then_normal ⟨0, _, by rw [rstf_eq]; rfl, .refl _, (ho12.new ho5 (Nat.le_refl _)).new ho6 (Nat.le_refl _), ⟨_, hb6, rfl, rfl, rfl, rfl⟩, ⟨_, ho6.get (ho5.get hb2 (by simp; omega)) (by simp; omega), rfl, rfl⟩⟩
  rintro m H3 ⟨ho, ⟨b, hb, e1, e2, e3, e4⟩, ⟨b2, hr, s1, s2⟩⟩
  have hlen := ho.1
  have hidlt := (List.getElem?_eq_some_iff.1 hr).1
  refine aw_norm H.length (ebk [.i e.now, .lst t0 1 n0 g0, ints e.l0, ints e.l1, ints e.l2, .lst t4 1 n4 g4]) hb e1.symm e2.symm e3.symm (one_of e3 e4) fun H4 hb4 ho4 hl4 => ?_
  have hr4 := ho4.get hr (by simp; omega)
  (repeat' (first | (refine sq_id ?_; first | refine sq_nil ?_ | refine sm ?_ | refine sa ?_ | refine ss ?_ | refine st ?_ | refine sf ?_ | refine sp ?_ | refine sq ?_ | refine sl ?_ | refine si ?_ | refine sx ?_ | refine sy ?_) | (refine rg_id ?_; first | refine rg_fin ?_ | refine rm ?_ | refine ra ?_ | refine rs ?_ | refine rt ?_ | refine rf ?_ | refine rp ?_ | refine rq ?_ | refine rl ?_ | refine ri ?_ | refine rx ?_ | refine ry ?_) | refine aw_rseq ?_ | refine aw_seq ?_ | refine aw_region ?_ | refine aw_skip ?_ | refine ct ?_ | refine cf ?_ | refine d0s ?_ | refine d0r ?_ | refine aw_block ?_ | refine aw_exit ?_ | refine then_ret ?_ | refine then_exit ?_ | refine then_normal ?_ | refine blk_ret ?_ | refine blk_normal ?_ | refine blk_exit ?_ | refine blk_pass rfl ?_))
  refine aw_for [1, 2, 14, 15] (fun s : Nat × Nat => [(1, .ref H.length 6 0 0), (2, .ref H1.length 6 0 0), (14, .agg [ints e.l0, ints e.l1, ints e.l2]), (15, .i s.1)])
    (fun s H' => s.1 ≤ 3 ∧ (s.1 = 0 → Oth H H' none ∧ IsBox H' H.length [.i e.now, .lst t0 1 n0 g0, ints e.l0, ints e.l1, ints e.l2, .lst t4 1 n4 g4] ∧ (∃ b, H'[H1.length]? = some (some b) ∧ b.sz = 6 ∧ b.n = 1)) ∧ (s.1 = 1 → Oth H H' none ∧ IsBox H' H.length [.i e.now, .lst t0 1 n0 g0, .lst t1 1 n1 g1, ints e.l1, ints e.l2, .lst t4 1 n4 g4] ∧ (∃ b, H'[H1.length]? = some (some b) ∧ b.sz = 6 ∧ b.n = 1)) ∧ (s.1 = 2 → Oth H H' none ∧ IsBox H' H.length [.i e.now, .lst t0 1 n0 g0, .lst t1 1 n1 g1, .lst t2 1 n2 g2, ints e.l2, .lst t4 1 n4 g4] ∧ (∃ b, H'[H1.length]? = some (some b) ∧ b.sz = 6 ∧ b.n = 1)) ∧ (s.1 = 3 → Oth H H' none ∧ IsBox H' H.length [.i e.now, .lst t0 1 n0 g0, .lst t1 1 n1 g1, .lst t2 1 n2 g2, .lst t3 1 n3 g3, .lst t4 1 n4 g4] ∧ (∃ b, H'[H1.length]? = some (some b) ∧ b.sz = 6 ∧ b.n = 1))) (fun s => 3 - s.1) (0, m) (by rw [rstf_eq]; rfl) ⟨by simp, fun _ => ⟨ho.new ho4 (Nat.le_refl _), ⟨_, hb4, rfl, rfl, rfl, rfl⟩, ⟨_, hr4, s1, s2⟩⟩, fun h => by simp at h, fun h => by simp at h, fun h => by simp at h⟩ ?_
  clear hb hr ho hb4 hr4 ho4 e4 hidlt
  rintro ⟨k, m⟩ H5 ⟨hk, i0, i1, i2, i3⟩
  simp only at hk i0 i1 i2 i3
  rcases (by omega : k = 0 ∨ k = 1 ∨ k = 2 ∨ k = 3) with rfl | rfl | rfl | rfl
  · obtain ⟨ho, ⟨b, hb, e1, e2, e3, e4⟩, ⟨b2, hr, s1, s2⟩⟩ := i0 rfl
    have hlen := ho.1
    refine aw_norm H.length (ebk [.i e.now, .lst t0 1 n0 g0, ints e.l0, ints e.l1, ints e.l2, .lst t4 1 n4 g4]) hb e1.symm e2.symm e3.symm (one_of e3 e4) fun H6 hb6 ho6 hl6 => ?_
    have hr6 := ho6.get hr (by simp; omega)
    (repeat' (first | (refine sq_id ?_; first | refine sq_nil ?_ | refine sm ?_ | refine sa ?_ | refine ss ?_ | refine st ?_ | refine sf ?_ | refine sp ?_ | refine sq ?_ | refine sl ?_ | refine si ?_ | refine sx ?_ | refine sy ?_ | refine sc c1 ?_) | (refine rg_id ?_; first | refine rg_fin ?_ | refine rm ?_ | refine ra ?_ | refine rs ?_ | refine rt ?_ | refine rf ?_ | refine rp ?_ | refine rq ?_ | refine rl ?_ | refine ri ?_ | refine rx ?_ | refine ry ?_ | refine sc c1 ?_) | refine aw_rseq ?_ | refine aw_seq ?_ | refine aw_region ?_ | refine aw_skip ?_ | refine ct ?_ | refine cf ?_ | refine d0s ?_ | refine d0r ?_ | refine aw_block ?_ | refine aw_exit ?_ | refine then_ret ?_ | refine then_exit ?_ | refine then_normal ?_ | refine blk_ret ?_ | refine blk_normal ?_ | refine blk_exit ?_ | refine blk_pass rfl ?_ | refine sc c1 ?_))
    have hb7 := hb6
    have hr7 := hr6
    have hx7 := ho.new ho6 (Nat.le_refl _)
    refine sw hb7 fun H8 hb8 ho8 hl8 => ?_
    (repeat' (first | (refine sq_id ?_; first | refine sq_nil ?_ | refine sm ?_ | refine sa ?_ | refine ss ?_ | refine st ?_ | refine sf ?_ | refine sp ?_ | refine sq ?_ | refine sl ?_ | refine si ?_ | refine sx ?_ | refine sy ?_) | (refine rg_id ?_; first | refine rg_fin ?_ | refine rm ?_ | refine ra ?_ | refine rs ?_ | refine rt ?_ | refine rf ?_ | refine rp ?_ | refine rq ?_ | refine rl ?_ | refine ri ?_ | refine rx ?_ | refine ry ?_) | refine aw_rseq ?_ | refine aw_seq ?_ | refine aw_region ?_ | refine aw_skip ?_ | refine ct ?_ | refine cf ?_ | refine d0s ?_ | refine d0r ?_ | refine aw_block ?_ | refine aw_exit ?_ | refine then_ret ?_ | refine then_exit ?_ | refine then_normal ?_ | refine blk_ret ?_ | refine blk_normal ?_ | refine blk_exit ?_ | refine blk_pass rfl ?_))
    exact ⟨(1, m), by rw [rstf_eq]; rfl, ⟨by simp, fun h => by simp at h, fun _ => ⟨hx7.new ho8 (Nat.le_refl _), ⟨_, hb8, rfl, rfl, rfl, rfl⟩, ⟨_, ho8.get hr7 (by simp; omega), s1, s2⟩⟩, fun h => by simp at h, fun h => by simp at h⟩, by simp⟩
  · obtain ⟨ho, ⟨b, hb, e1, e2, e3, e4⟩, ⟨b2, hr, s1, s2⟩⟩ := i1 rfl
    have hlen := ho.1
    refine aw_norm H.length (ebk [.i e.now, .lst t0 1 n0 g0, .lst t1 1 n1 g1, ints e.l1, ints e.l2, .lst t4 1 n4 g4]) hb e1.symm e2.symm e3.symm (one_of e3 e4) fun H6 hb6 ho6 hl6 => ?_
    have hr6 := ho6.get hr (by simp; omega)
    (repeat' (first | (refine sq_id ?_; first | refine sq_nil ?_ | refine sm ?_ | refine sa ?_ | refine ss ?_ | refine st ?_ | refine sf ?_ | refine sp ?_ | refine sq ?_ | refine sl ?_ | refine si ?_ | refine sx ?_ | refine sy ?_ | refine sc c2 ?_) | (refine rg_id ?_; first | refine rg_fin ?_ | refine rm ?_ | refine ra ?_ | refine rs ?_ | refine rt ?_ | refine rf ?_ | refine rp ?_ | refine rq ?_ | refine rl ?_ | refine ri ?_ | refine rx ?_ | refine ry ?_ | refine sc c2 ?_) | refine aw_rseq ?_ | refine aw_seq ?_ | refine aw_region ?_ | refine aw_skip ?_ | refine ct ?_ | refine cf ?_ | refine d0s ?_ | refine d0r ?_ | refine aw_block ?_ | refine aw_exit ?_ | refine then_ret ?_ | refine then_exit ?_ | refine then_normal ?_ | refine blk_ret ?_ | refine blk_normal ?_ | refine blk_exit ?_ | refine blk_pass rfl ?_ | refine sc c2 ?_))
    have hb7 := hb6
    have hr7 := hr6
    have hx7 := ho.new ho6 (Nat.le_refl _)
    refine sw hb7 fun H8 hb8 ho8 hl8 => ?_
    (repeat' (first | (refine sq_id ?_; first | refine sq_nil ?_ | refine sm ?_ | refine sa ?_ | refine ss ?_ | refine st ?_ | refine sf ?_ | refine sp ?_ | refine sq ?_ | refine sl ?_ | refine si ?_ | refine sx ?_ | refine sy ?_) | (refine rg_id ?_; first | refine rg_fin ?_ | refine rm ?_ | refine ra ?_ | refine rs ?_ | refine rt ?_ | refine rf ?_ | refine rp ?_ | refine rq ?_ | refine rl ?_ | refine ri ?_ | refine rx ?_ | refine ry ?_) | refine aw_rseq ?_ | refine aw_seq ?_ | refine aw_region ?_ | refine aw_skip ?_ | refine ct ?_ | refine cf ?_ | refine d0s ?_ | refine d0r ?_ | refine aw_block ?_ | refine aw_exit ?_ | refine then_ret ?_ | refine then_exit ?_ | refine then_normal ?_ | refine blk_ret ?_ | refine blk_normal ?_ | refine blk_exit ?_ | refine blk_pass rfl ?_))
    exact ⟨(2, m), by rw [rstf_eq]; rfl, ⟨by simp, fun h => by simp at h, fun h => by simp at h, fun _ => ⟨hx7.new ho8 (Nat.le_refl _), ⟨_, hb8, rfl, rfl, rfl, rfl⟩, ⟨_, ho8.get hr7 (by simp; omega), s1, s2⟩⟩, fun h => by simp at h⟩, by simp⟩
  · obtain ⟨ho, ⟨b, hb, e1, e2, e3, e4⟩, ⟨b2, hr, s1, s2⟩⟩ := i2 rfl
    have hlen := ho.1
    refine aw_norm H.length (ebk [.i e.now, .lst t0 1 n0 g0, .lst t1 1 n1 g1, .lst t2 1 n2 g2, ints e.l2, .lst t4 1 n4 g4]) hb e1.symm e2.symm e3.symm (one_of e3 e4) fun H6 hb6 ho6 hl6 => ?_
    have hr6 := ho6.get hr (by simp; omega)
    (repeat' (first | (refine sq_id ?_; first | refine sq_nil ?_ | refine sm ?_ | refine sa ?_ | refine ss ?_ | refine st ?_ | refine sf ?_ | refine sp ?_ | refine sq ?_ | refine sl ?_ | refine si ?_ | refine sx ?_ | refine sy ?_ | refine sc c3 ?_) | (refine rg_id ?_; first | refine rg_fin ?_ | refine rm ?_ | refine ra ?_ | refine rs ?_ | refine rt ?_ | refine rf ?_ | refine rp ?_ | refine rq ?_ | refine rl ?_ | refine ri ?_ | refine rx ?_ | refine ry ?_ | refine sc c3 ?_) | refine aw_rseq ?_ | refine aw_seq ?_ | refine aw_region ?_ | refine aw_skip ?_ | refine ct ?_ | refine cf ?_ | refine d0s ?_ | refine d0r ?_ | refine aw_block ?_ | refine aw_exit ?_ | refine then_ret ?_ | refine then_exit ?_ | refine then_normal ?_ | refine blk_ret ?_ | refine blk_normal ?_ | refine blk_exit ?_ | refine blk_pass rfl ?_ | refine sc c3 ?_))
    have hb7 := hb6
    have hr7 := hr6
    have hx7 := ho.new ho6 (Nat.le_refl _)
    refine sw hb7 fun H8 hb8 ho8 hl8 => ?_
    (repeat' (first | (refine sq_id ?_; first | refine sq_nil ?_ | refine sm ?_ | refine sa ?_ | refine ss ?_ | refine st ?_ | refine sf ?_ | refine sp ?_ | refine sq ?_ | refine sl ?_ | refine si ?_ | refine sx ?_ | refine sy ?_) | (refine rg_id ?_; first | refine rg_fin ?_ | refine rm ?_ | refine ra ?_ | refine rs ?_ | refine rt ?_ | refine rf ?_ | refine rp ?_ | refine rq ?_ | refine rl ?_ | refine ri ?_ | refine rx ?_ | refine ry ?_) | refine aw_rseq ?_ | refine aw_seq ?_ | refine aw_region ?_ | refine aw_skip ?_ | refine ct ?_ | refine cf ?_ | refine d0s ?_ | refine d0r ?_ | refine aw_block ?_ | refine aw_exit ?_ | refine then_ret ?_ | refine then_exit ?_ | refine then_normal ?_ | refine blk_ret ?_ | refine blk_normal ?_ | refine blk_exit ?_ | refine blk_pass rfl ?_))
    exact ⟨(3, m), by rw [rstf_eq]; rfl, ⟨by simp, fun h => by simp at h, fun h => by simp at h, fun h => by simp at h, fun _ => ⟨hx7.new ho8 (Nat.le_refl _), ⟨_, hb8, rfl, rfl, rfl, rfl⟩, ⟨_, ho8.get hr7 (by simp; omega), s1, s2⟩⟩⟩, by simp⟩
  · obtain ⟨ho, ⟨b, hb, e1, e2, e3, e4⟩, ⟨b2, hr, s1, s2⟩⟩ := i3 rfl
    have hlen := ho.1
    refine aw_norm H.length (ebk [.i e.now, .lst t0 1 n0 g0, .lst t1 1 n1 g1, .lst t2 1 n2 g2, .lst t3 1 n3 g3, .lst t4 1 n4 g4]) hb e1.symm e2.symm e3.symm (one_of e3 e4) fun H6 hb6 ho6 hl6 => ?_
    have hr6 := ho6.get hr (by simp; omega)
    (repeat' (first | (refine sq_id ?_; first | refine sq_nil ?_ | refine sm ?_ | refine sa ?_ | refine ss ?_ | refine st ?_ | refine sf ?_ | refine sp ?_ | refine sq ?_ | refine sl ?_ | refine si ?_ | refine sx ?_ | refine sy ?_) | (refine rg_id ?_; first | refine rg_fin ?_ | refine rm ?_ | refine ra ?_ | refine rs ?_ | refine rt ?_ | refine rf ?_ | refine rp ?_ | refine rq ?_ | refine rl ?_ | refine ri ?_ | refine rx ?_ | refine ry ?_) | refine aw_rseq ?_ | refine aw_seq ?_ | refine aw_region ?_ | refine aw_skip ?_ | refine ct ?_ | refine cf ?_ | refine d0s ?_ | refine d0r ?_ | refine aw_block ?_ | refine aw_exit ?_ | refine then_ret ?_ | refine then_exit ?_ | refine then_normal ?_ | refine blk_ret ?_ | refine blk_normal ?_ | refine blk_exit ?_ | refine blk_pass rfl ?_))
    refine sq_storek TYok rfl rfl rfl hr6 s1 (by omega) rfl rfl rfl (Nat.le_of_ble_eq_true rfl) fun H7 hb7 ho7 hl7 => ?_
    (repeat' (first | (refine sq_id ?_; first | refine sq_nil ?_ | refine sm ?_ | refine sa ?_ | refine ss ?_ | refine st ?_ | refine sf ?_ | refine sp ?_ | refine sq ?_ | refine sl ?_ | refine si ?_ | refine sx ?_ | refine sy ?_) | (refine rg_id ?_; first | refine rg_fin ?_ | refine rm ?_ | refine ra ?_ | refine rs ?_ | refine rt ?_ | refine rf ?_ | refine rp ?_ | refine rq ?_ | refine rl ?_ | refine ri ?_ | refine rx ?_ | refine ry ?_) | refine aw_rseq ?_ | refine aw_seq ?_ | refine aw_region ?_ | refine aw_skip ?_ | refine ct ?_ | refine cf ?_ | refine d0s ?_ | refine d0r ?_ | refine aw_block ?_ | refine aw_exit ?_ | refine then_ret ?_ | refine then_exit ?_ | refine then_normal ?_ | refine blk_ret ?_ | refine blk_normal ?_ | refine blk_exit ?_ | refine blk_pass rfl ?_ | refine aw_dec rfl (fun _ => ?_) (fun _ => ?_)))
    ((try refine aw_ret ?_); (repeat (first | refine then_ret ?_ | refine blk_ret ?_)))
    exact ⟨True.intro, _, .cell _ _ _ _ _ _ _ _ _ rfl hb7 s1 (by show 0 < b2.n; omega) rfl .nil, (ho.new ho6 (Nat.le_refl _)).new ho7 (by omega), m, rfl⟩
set_option maxHeartbeats 4000000 in
theorem ownP_s (e : Ep) (hbd : Bd e) {t1 : Bool} {n1 : Nat} {g1 : Nat → List AV} (c1 : PS Try.prog 48 [ints e.l0] (.lst t1 1 n1 g1)) {t2 : Bool} {n2 : Nat} {g2 : Nat → List AV} (c2 : PS Try.prog 48 [ints e.l1] (.lst t2 1 n2 g2)) {t3 : Bool} {n3 : Nat} {g3 : Nat → List AV} (c3 : PS Try.prog 48 [ints e.l2] (.lst t3 1 n3 g3)) {t4 : Bool} {n4 : Nat} {g4 : Nat → List AV} (c4 : PS Try.prog 48 [ints e.free] (.lst t4 1 n4 g4)) (h0 : 0 < e.pins.length) (H : AH) : SC true Try.prog 50 [epv e] H (fun r H' => Oth H H' none ∧ ∃ m : Nat, r = .agg [.i e.now, .arr m 1 0 e.pins.length, .lst t1 1 n1 g1, .lst t2 1 n2 g2, .lst t3 1 n3 g3, .lst t4 1 n4 g4] ∧ H.length ≤ m ∧ H'[m]? = some (some (iblk e.pins))) := by
  obtain ⟨hb1, hb2⟩ := hbd
  refine sc_in TYok Try.func50 (by kernel_rfl) Try.ntmps50 rfl rfl rfl ?_
  refine aw_seq ?_
  refine aw_region ?_
  refine nw fun H1 hb1 ho1 hl1 => ?_
  refine nw fun H2 hb2 ho2 hl2 => ?_
  refine sq_nil ?_
  have hbx := ho2.get0 hb1
  have ho12 := ho1.trans0 ho2
  have hl12 : H2.length = H.length + 2 := by omega
  refine aw_seq ?_
  refine aw_mid [1, 2] (fun _ : Nat => [(1, .ref H.length 6 0 0), (2, .ref H1.length 6 0 0)]) (fun m H' => Oth H H' none ∧ IsBox H' H.length [.i e.now, .arr m 1 0 e.pins.length, ints e.l0, ints e.l1, ints e.l2, .lst t4 1 n4 g4] ∧ (∃ b, H'[H1.length]? = some (some b) ∧ b.sz = 6 ∧ b.n = 1) ∧ H.length + 2 ≤ m ∧ H'[m]? = some (some (iblk e.pins))) ?_ ?_
  ·
    refine yall 10 ?_
    refine ye 0 ?_
    refine sp ?_
    refine sq_nil ?_
    refine ye 3 ?_
    refine sp ?_
    refine sq_nil ?_
    refine y2 1 4 ?_ ?_
    refine sl ?_
    refine sq_nil ?_
    refine y2 2 4 ?_ ?_
    refine sq_mk (r := fun m => .arr m 1 0 e.pins.length) (b := iblk e.pins) rfl rfl rfl (clonem_s e.pins (by omega) h0) (LeL.refl _) fun H3 hm3 ho3 hl3 => ?_
    have hbx := ho3.get0 hbx
    refine sq_nil ?_
    refine y1 4 ?_
    refine sl ?_
    refine sq_nil ?_
    refine ye 6 ?_
    refine sp ?_
    refine sq_nil ?_
    refine y1 5 ?_
    refine sc c4 ?_
    refine sq_nil ?_
    refine y1 7 ?_
    refine sw hbx fun H5 hb5 ho5 hl5 => ?_
    refine sq_nil ?_
    refine ye 8 ?_
    refine sp ?_
    refine sq_nil ?_
    refine y1 9 ?_
    refine sw hb5 fun H6 hb6 ho6 hl6 => ?_
    refine sq_nil ?_
    refine yd ?_
    exact then_normal ⟨H2.length, _, by rw [rstf_eq]; rfl, .refl _, ((ho12.trans0 ho3).new ho5 (Nat.le_refl _)).new ho6 (Nat.le_refl _), ⟨_, hb6, rfl, rfl, rfl, rfl⟩, ⟨_, ho6.get (ho5.get (ho3.get0 hb2) (by simp; omega)) (by simp; omega), rfl, rfl⟩, by omega, ho6.get (ho5.get hm3 (by simp; omega)) (by simp; omega)⟩
    refine sl ?_
    refine sq_nil ?_
    refine y1 2 ?_
    refine sq_mk (r := fun m => .arr m 1 0 e.pins.length) (b := iblk e.pins) rfl rfl rfl (clonem_s e.pins (by omega) h0) (LeL.refl _) fun H3 hm3 ho3 hl3 => ?_
    have hbx := ho3.get0 hbx
    refine sq_nil ?_
    refine ye 6 ?_
    refine sp ?_
    refine sq_nil ?_
    refine y1 5 ?_
    refine sc c4 ?_
    refine sq_nil ?_
    refine y1 7 ?_
    refine sw hbx fun H5 hb5 ho5 hl5 => ?_
    refine sq_nil ?_
    refine ye 8 ?_
    refine sp ?_
    refine sq_nil ?_
    refine y1 9 ?_
    refine sw hb5 fun H6 hb6 ho6 hl6 => ?_
    refine sq_nil ?_
    refine yd ?_
    exact then_normal ⟨H2.length, _, by rw [rstf_eq]; rfl, .refl _, ((ho12.trans0 ho3).new ho5 (Nat.le_refl _)).new ho6 (Nat.le_refl _), ⟨_, hb6, rfl, rfl, rfl, rfl⟩, ⟨_, ho6.get (ho5.get (ho3.get0 hb2) (by simp; omega)) (by simp; omega), rfl, rfl⟩, by omega, ho6.get (ho5.get hm3 (by simp; omega)) (by simp; omega)⟩
    refine sl ?_
    refine sq_nil ?_
    refine y1 1 ?_
    refine sl ?_
    refine sq_nil ?_
    refine y1 2 ?_
    refine sq_mk (r := fun m => .arr m 1 0 e.pins.length) (b := iblk e.pins) rfl rfl rfl (clonem_s e.pins (by omega) h0) (LeL.refl _) fun H3 hm3 ho3 hl3 => ?_
    have hbx := ho3.get0 hbx
    refine sq_nil ?_
    refine ye 6 ?_
    refine sp ?_
    refine sq_nil ?_
    refine y1 5 ?_
    refine sc c4 ?_
    refine sq_nil ?_
    refine y1 7 ?_
    refine sw hbx fun H5 hb5 ho5 hl5 => ?_
    refine sq_nil ?_
    refine ye 8 ?_
    refine sp ?_
    refine sq_nil ?_
    refine y1 9 ?_
    refine sw hb5 fun H6 hb6 ho6 hl6 => ?_
    refine sq_nil ?_
    refine yd ?_
    exact then_normal ⟨H2.length, _, by rw [rstf_eq]; rfl, .refl _, ((ho12.trans0 ho3).new ho5 (Nat.le_refl _)).new ho6 (Nat.le_refl _), ⟨_, hb6, rfl, rfl, rfl, rfl⟩, ⟨_, ho6.get (ho5.get (ho3.get0 hb2) (by simp; omega)) (by simp; omega), rfl, rfl⟩, by omega, ho6.get (ho5.get hm3 (by simp; omega)) (by simp; omega)⟩
  rintro m H3 ⟨ho, ⟨b, hb, e1, e2, e3, e4⟩, ⟨b2, hr, s1, s2⟩, hm0, hm⟩
  have hlen := ho.1
  have hidlt := (List.getElem?_eq_some_iff.1 hr).1
  refine aw_norm H.length (ebk [.i e.now, .arr m 1 0 e.pins.length, ints e.l0, ints e.l1, ints e.l2, .lst t4 1 n4 g4]) hb e1.symm e2.symm e3.symm (one_of e3 e4) fun H4 hb4 ho4 hl4 => ?_
  have hr4 := ho4.get hr (by simp; omega)
  have hm4 := ho4.get hm (by simp; omega)
  (repeat' (first | (refine sq_id ?_; first | refine sq_nil ?_ | refine sm ?_ | refine sa ?_ | refine ss ?_ | refine st ?_ | refine sf ?_ | refine sp ?_ | refine sq ?_ | refine sl ?_ | refine si ?_ | refine sx ?_ | refine sy ?_) | (refine rg_id ?_; first | refine rg_fin ?_ | refine rm ?_ | refine ra ?_ | refine rs ?_ | refine rt ?_ | refine rf ?_ | refine rp ?_ | refine rq ?_ | refine rl ?_ | refine ri ?_ | refine rx ?_ | refine ry ?_) | refine aw_rseq ?_ | refine aw_seq ?_ | refine aw_region ?_ | refine aw_skip ?_ | refine ct ?_ | refine cf ?_ | refine d0s ?_ | refine d0r ?_ | refine aw_block ?_ | refine aw_exit ?_ | refine then_ret ?_ | refine then_exit ?_ | refine then_normal ?_ | refine blk_ret ?_ | refine blk_normal ?_ | refine blk_exit ?_ | refine blk_pass rfl ?_))
  refine aw_for [1, 2, 14, 15] (fun s : Nat × Nat => [(1, .ref H.length 6 0 0), (2, .ref H1.length 6 0 0), (14, .agg [ints e.l0, ints e.l1, ints e.l2]), (15, .i s.1)])
    (fun s H' => s.1 ≤ 3 ∧ (s.1 = 0 → Oth H H' none ∧ IsBox H' H.length [.i e.now, .arr s.2 1 0 e.pins.length, ints e.l0, ints e.l1, ints e.l2, .lst t4 1 n4 g4] ∧ (∃ b, H'[H1.length]? = some (some b) ∧ b.sz = 6 ∧ b.n = 1) ∧ H.length + 2 ≤ s.2 ∧ H'[s.2]? = some (some (iblk e.pins))) ∧ (s.1 = 1 → Oth H H' none ∧ IsBox H' H.length [.i e.now, .arr s.2 1 0 e.pins.length, .lst t1 1 n1 g1, ints e.l1, ints e.l2, .lst t4 1 n4 g4] ∧ (∃ b, H'[H1.length]? = some (some b) ∧ b.sz = 6 ∧ b.n = 1) ∧ H.length + 2 ≤ s.2 ∧ H'[s.2]? = some (some (iblk e.pins))) ∧ (s.1 = 2 → Oth H H' none ∧ IsBox H' H.length [.i e.now, .arr s.2 1 0 e.pins.length, .lst t1 1 n1 g1, .lst t2 1 n2 g2, ints e.l2, .lst t4 1 n4 g4] ∧ (∃ b, H'[H1.length]? = some (some b) ∧ b.sz = 6 ∧ b.n = 1) ∧ H.length + 2 ≤ s.2 ∧ H'[s.2]? = some (some (iblk e.pins))) ∧ (s.1 = 3 → Oth H H' none ∧ IsBox H' H.length [.i e.now, .arr s.2 1 0 e.pins.length, .lst t1 1 n1 g1, .lst t2 1 n2 g2, .lst t3 1 n3 g3, .lst t4 1 n4 g4] ∧ (∃ b, H'[H1.length]? = some (some b) ∧ b.sz = 6 ∧ b.n = 1) ∧ H.length + 2 ≤ s.2 ∧ H'[s.2]? = some (some (iblk e.pins)))) (fun s => 3 - s.1) (0, m) (by rw [rstf_eq]; rfl) ⟨by simp, fun _ => ⟨ho.new ho4 (Nat.le_refl _), ⟨_, hb4, rfl, rfl, rfl, rfl⟩, ⟨_, hr4, s1, s2⟩, hm0, hm4⟩, fun h => by simp at h, fun h => by simp at h, fun h => by simp at h⟩ ?_
  clear hb hr ho hm0 hm4 hm hb4 hr4 ho4 e4 hidlt
  rintro ⟨k, m⟩ H5 ⟨hk, i0, i1, i2, i3⟩
  simp only at hk i0 i1 i2 i3
  rcases (by omega : k = 0 ∨ k = 1 ∨ k = 2 ∨ k = 3) with rfl | rfl | rfl | rfl
  · obtain ⟨ho, ⟨b, hb, e1, e2, e3, e4⟩, ⟨b2, hr, s1, s2⟩, hm0, hm⟩ := i0 rfl
    have hlen := ho.1
    refine aw_norm H.length (ebk [.i e.now, .arr m 1 0 e.pins.length, ints e.l0, ints e.l1, ints e.l2, .lst t4 1 n4 g4]) hb e1.symm e2.symm e3.symm (one_of e3 e4) fun H6 hb6 ho6 hl6 => ?_
    have hr6 := ho6.get hr (by simp; omega)
    have hm6 := ho6.get hm (by simp; omega)
    (repeat' (first | (refine sq_id ?_; first | refine sq_nil ?_ | refine sm ?_ | refine sa ?_ | refine ss ?_ | refine st ?_ | refine sf ?_ | refine sp ?_ | refine sq ?_ | refine sl ?_ | refine si ?_ | refine sx ?_ | refine sy ?_ | refine sc c1 ?_) | (refine rg_id ?_; first | refine rg_fin ?_ | refine rm ?_ | refine ra ?_ | refine rs ?_ | refine rt ?_ | refine rf ?_ | refine rp ?_ | refine rq ?_ | refine rl ?_ | refine ri ?_ | refine rx ?_ | refine ry ?_ | refine sc c1 ?_) | refine aw_rseq ?_ | refine aw_seq ?_ | refine aw_region ?_ | refine aw_skip ?_ | refine ct ?_ | refine cf ?_ | refine d0s ?_ | refine d0r ?_ | refine aw_block ?_ | refine aw_exit ?_ | refine then_ret ?_ | refine then_exit ?_ | refine then_normal ?_ | refine blk_ret ?_ | refine blk_normal ?_ | refine blk_exit ?_ | refine blk_pass rfl ?_ | refine sc c1 ?_))
    have hb7 := hb6
    have hr7 := hr6
    have hm7 := hm6
    have hx7 := ho.new ho6 (Nat.le_refl _)
    refine sw hb7 fun H8 hb8 ho8 hl8 => ?_
    (repeat' (first | (refine sq_id ?_; first | refine sq_nil ?_ | refine sm ?_ | refine sa ?_ | refine ss ?_ | refine st ?_ | refine sf ?_ | refine sp ?_ | refine sq ?_ | refine sl ?_ | refine si ?_ | refine sx ?_ | refine sy ?_) | (refine rg_id ?_; first | refine rg_fin ?_ | refine rm ?_ | refine ra ?_ | refine rs ?_ | refine rt ?_ | refine rf ?_ | refine rp ?_ | refine rq ?_ | refine rl ?_ | refine ri ?_ | refine rx ?_ | refine ry ?_) | refine aw_rseq ?_ | refine aw_seq ?_ | refine aw_region ?_ | refine aw_skip ?_ | refine ct ?_ | refine cf ?_ | refine d0s ?_ | refine d0r ?_ | refine aw_block ?_ | refine aw_exit ?_ | refine then_ret ?_ | refine then_exit ?_ | refine then_normal ?_ | refine blk_ret ?_ | refine blk_normal ?_ | refine blk_exit ?_ | refine blk_pass rfl ?_))
    exact ⟨(1, m), by rw [rstf_eq]; rfl, ⟨by simp, fun h => by simp at h, fun _ => ⟨hx7.new ho8 (Nat.le_refl _), ⟨_, hb8, rfl, rfl, rfl, rfl⟩, ⟨_, ho8.get hr7 (by simp; omega), s1, s2⟩, by omega, ho8.get hm7 (by simp; omega)⟩, fun h => by simp at h, fun h => by simp at h⟩, by simp⟩
  · obtain ⟨ho, ⟨b, hb, e1, e2, e3, e4⟩, ⟨b2, hr, s1, s2⟩, hm0, hm⟩ := i1 rfl
    have hlen := ho.1
    refine aw_norm H.length (ebk [.i e.now, .arr m 1 0 e.pins.length, .lst t1 1 n1 g1, ints e.l1, ints e.l2, .lst t4 1 n4 g4]) hb e1.symm e2.symm e3.symm (one_of e3 e4) fun H6 hb6 ho6 hl6 => ?_
    have hr6 := ho6.get hr (by simp; omega)
    have hm6 := ho6.get hm (by simp; omega)
    (repeat' (first | (refine sq_id ?_; first | refine sq_nil ?_ | refine sm ?_ | refine sa ?_ | refine ss ?_ | refine st ?_ | refine sf ?_ | refine sp ?_ | refine sq ?_ | refine sl ?_ | refine si ?_ | refine sx ?_ | refine sy ?_ | refine sc c2 ?_) | (refine rg_id ?_; first | refine rg_fin ?_ | refine rm ?_ | refine ra ?_ | refine rs ?_ | refine rt ?_ | refine rf ?_ | refine rp ?_ | refine rq ?_ | refine rl ?_ | refine ri ?_ | refine rx ?_ | refine ry ?_ | refine sc c2 ?_) | refine aw_rseq ?_ | refine aw_seq ?_ | refine aw_region ?_ | refine aw_skip ?_ | refine ct ?_ | refine cf ?_ | refine d0s ?_ | refine d0r ?_ | refine aw_block ?_ | refine aw_exit ?_ | refine then_ret ?_ | refine then_exit ?_ | refine then_normal ?_ | refine blk_ret ?_ | refine blk_normal ?_ | refine blk_exit ?_ | refine blk_pass rfl ?_ | refine sc c2 ?_))
    have hb7 := hb6
    have hr7 := hr6
    have hm7 := hm6
    have hx7 := ho.new ho6 (Nat.le_refl _)
    refine sw hb7 fun H8 hb8 ho8 hl8 => ?_
    (repeat' (first | (refine sq_id ?_; first | refine sq_nil ?_ | refine sm ?_ | refine sa ?_ | refine ss ?_ | refine st ?_ | refine sf ?_ | refine sp ?_ | refine sq ?_ | refine sl ?_ | refine si ?_ | refine sx ?_ | refine sy ?_) | (refine rg_id ?_; first | refine rg_fin ?_ | refine rm ?_ | refine ra ?_ | refine rs ?_ | refine rt ?_ | refine rf ?_ | refine rp ?_ | refine rq ?_ | refine rl ?_ | refine ri ?_ | refine rx ?_ | refine ry ?_) | refine aw_rseq ?_ | refine aw_seq ?_ | refine aw_region ?_ | refine aw_skip ?_ | refine ct ?_ | refine cf ?_ | refine d0s ?_ | refine d0r ?_ | refine aw_block ?_ | refine aw_exit ?_ | refine then_ret ?_ | refine then_exit ?_ | refine then_normal ?_ | refine blk_ret ?_ | refine blk_normal ?_ | refine blk_exit ?_ | refine blk_pass rfl ?_))
    exact ⟨(2, m), by rw [rstf_eq]; rfl, ⟨by simp, fun h => by simp at h, fun h => by simp at h, fun _ => ⟨hx7.new ho8 (Nat.le_refl _), ⟨_, hb8, rfl, rfl, rfl, rfl⟩, ⟨_, ho8.get hr7 (by simp; omega), s1, s2⟩, by omega, ho8.get hm7 (by simp; omega)⟩, fun h => by simp at h⟩, by simp⟩
  · obtain ⟨ho, ⟨b, hb, e1, e2, e3, e4⟩, ⟨b2, hr, s1, s2⟩, hm0, hm⟩ := i2 rfl
    have hlen := ho.1
    refine aw_norm H.length (ebk [.i e.now, .arr m 1 0 e.pins.length, .lst t1 1 n1 g1, .lst t2 1 n2 g2, ints e.l2, .lst t4 1 n4 g4]) hb e1.symm e2.symm e3.symm (one_of e3 e4) fun H6 hb6 ho6 hl6 => ?_
    have hr6 := ho6.get hr (by simp; omega)
    have hm6 := ho6.get hm (by simp; omega)
    (repeat' (first | (refine sq_id ?_; first | refine sq_nil ?_ | refine sm ?_ | refine sa ?_ | refine ss ?_ | refine st ?_ | refine sf ?_ | refine sp ?_ | refine sq ?_ | refine sl ?_ | refine si ?_ | refine sx ?_ | refine sy ?_ | refine sc c3 ?_) | (refine rg_id ?_; first | refine rg_fin ?_ | refine rm ?_ | refine ra ?_ | refine rs ?_ | refine rt ?_ | refine rf ?_ | refine rp ?_ | refine rq ?_ | refine rl ?_ | refine ri ?_ | refine rx ?_ | refine ry ?_ | refine sc c3 ?_) | refine aw_rseq ?_ | refine aw_seq ?_ | refine aw_region ?_ | refine aw_skip ?_ | refine ct ?_ | refine cf ?_ | refine d0s ?_ | refine d0r ?_ | refine aw_block ?_ | refine aw_exit ?_ | refine then_ret ?_ | refine then_exit ?_ | refine then_normal ?_ | refine blk_ret ?_ | refine blk_normal ?_ | refine blk_exit ?_ | refine blk_pass rfl ?_ | refine sc c3 ?_))
    have hb7 := hb6
    have hr7 := hr6
    have hm7 := hm6
    have hx7 := ho.new ho6 (Nat.le_refl _)
    refine sw hb7 fun H8 hb8 ho8 hl8 => ?_
    (repeat' (first | (refine sq_id ?_; first | refine sq_nil ?_ | refine sm ?_ | refine sa ?_ | refine ss ?_ | refine st ?_ | refine sf ?_ | refine sp ?_ | refine sq ?_ | refine sl ?_ | refine si ?_ | refine sx ?_ | refine sy ?_) | (refine rg_id ?_; first | refine rg_fin ?_ | refine rm ?_ | refine ra ?_ | refine rs ?_ | refine rt ?_ | refine rf ?_ | refine rp ?_ | refine rq ?_ | refine rl ?_ | refine ri ?_ | refine rx ?_ | refine ry ?_) | refine aw_rseq ?_ | refine aw_seq ?_ | refine aw_region ?_ | refine aw_skip ?_ | refine ct ?_ | refine cf ?_ | refine d0s ?_ | refine d0r ?_ | refine aw_block ?_ | refine aw_exit ?_ | refine then_ret ?_ | refine then_exit ?_ | refine then_normal ?_ | refine blk_ret ?_ | refine blk_normal ?_ | refine blk_exit ?_ | refine blk_pass rfl ?_))
    exact ⟨(3, m), by rw [rstf_eq]; rfl, ⟨by simp, fun h => by simp at h, fun h => by simp at h, fun h => by simp at h, fun _ => ⟨hx7.new ho8 (Nat.le_refl _), ⟨_, hb8, rfl, rfl, rfl, rfl⟩, ⟨_, ho8.get hr7 (by simp; omega), s1, s2⟩, by omega, ho8.get hm7 (by simp; omega)⟩⟩, by simp⟩
  · obtain ⟨ho, ⟨b, hb, e1, e2, e3, e4⟩, ⟨b2, hr, s1, s2⟩, hm0, hm⟩ := i3 rfl
    have hlen := ho.1
    refine aw_norm H.length (ebk [.i e.now, .arr m 1 0 e.pins.length, .lst t1 1 n1 g1, .lst t2 1 n2 g2, .lst t3 1 n3 g3, .lst t4 1 n4 g4]) hb e1.symm e2.symm e3.symm (one_of e3 e4) fun H6 hb6 ho6 hl6 => ?_
    have hr6 := ho6.get hr (by simp; omega)
    (repeat' (first | (refine sq_id ?_; first | refine sq_nil ?_ | refine sm ?_ | refine sa ?_ | refine ss ?_ | refine st ?_ | refine sf ?_ | refine sp ?_ | refine sq ?_ | refine sl ?_ | refine si ?_ | refine sx ?_ | refine sy ?_) | (refine rg_id ?_; first | refine rg_fin ?_ | refine rm ?_ | refine ra ?_ | refine rs ?_ | refine rt ?_ | refine rf ?_ | refine rp ?_ | refine rq ?_ | refine rl ?_ | refine ri ?_ | refine rx ?_ | refine ry ?_) | refine aw_rseq ?_ | refine aw_seq ?_ | refine aw_region ?_ | refine aw_skip ?_ | refine ct ?_ | refine cf ?_ | refine d0s ?_ | refine d0r ?_ | refine aw_block ?_ | refine aw_exit ?_ | refine then_ret ?_ | refine then_exit ?_ | refine then_normal ?_ | refine blk_ret ?_ | refine blk_normal ?_ | refine blk_exit ?_ | refine blk_pass rfl ?_))
    refine sq_storek TYok rfl rfl rfl hr6 s1 (by omega) rfl rfl rfl (Nat.le_of_ble_eq_true rfl) fun H7 hb7 ho7 hl7 => ?_
    (repeat' (first | (refine sq_id ?_; first | refine sq_nil ?_ | refine sm ?_ | refine sa ?_ | refine ss ?_ | refine st ?_ | refine sf ?_ | refine sp ?_ | refine sq ?_ | refine sl ?_ | refine si ?_ | refine sx ?_ | refine sy ?_) | (refine rg_id ?_; first | refine rg_fin ?_ | refine rm ?_ | refine ra ?_ | refine rs ?_ | refine rt ?_ | refine rf ?_ | refine rp ?_ | refine rq ?_ | refine rl ?_ | refine ri ?_ | refine rx ?_ | refine ry ?_) | refine aw_rseq ?_ | refine aw_seq ?_ | refine aw_region ?_ | refine aw_skip ?_ | refine ct ?_ | refine cf ?_ | refine d0s ?_ | refine d0r ?_ | refine aw_block ?_ | refine aw_exit ?_ | refine then_ret ?_ | refine then_exit ?_ | refine then_normal ?_ | refine blk_ret ?_ | refine blk_normal ?_ | refine blk_exit ?_ | refine blk_pass rfl ?_ | refine aw_dec rfl (fun _ => ?_) (fun _ => ?_)))
    ((try refine aw_ret ?_); (repeat (first | refine then_ret ?_ | refine blk_ret ?_)))
    exact ⟨True.intro, _, .cell _ _ _ _ _ _ _ _ _ rfl hb7 s1 (by show 0 < b2.n; omega) rfl .nil, (ho.new ho6 (Nat.le_refl _)).new ho7 (by omega), m, rfl, by omega, ho7.get (ho6.get hm (by simp; omega)) (by simp; omega)⟩
set_option maxHeartbeats 4000000 in
theorem own0_s (e : Ep) (hbd : Bd e) {t0 : Bool} {n0 : Nat} {g0 : Nat → List AV} (c0 : PS Try.prog 48 [ints e.pins] (.lst t0 1 n0 g0)) {t2 : Bool} {n2 : Nat} {g2 : Nat → List AV} (c2 : PS Try.prog 48 [ints e.l1] (.lst t2 1 n2 g2)) {t3 : Bool} {n3 : Nat} {g3 : Nat → List AV} (c3 : PS Try.prog 48 [ints e.l2] (.lst t3 1 n3 g3)) {t4 : Bool} {n4 : Nat} {g4 : Nat → List AV} (c4 : PS Try.prog 48 [ints e.free] (.lst t4 1 n4 g4)) (h0 : 0 < e.l0.length) (H : AH) : SC true Try.prog 50 [epv e] H (fun r H' => Oth H H' none ∧ ∃ m : Nat, r = .agg [.i e.now, .lst t0 1 n0 g0, .arr m 1 0 e.l0.length, .lst t2 1 n2 g2, .lst t3 1 n3 g3, .lst t4 1 n4 g4] ∧ H.length ≤ m ∧ H'[m]? = some (some (iblk e.l0))) := by
  obtain ⟨hb1, hb2⟩ := hbd
  refine sc_in TYok Try.func50 (by kernel_rfl) Try.ntmps50 rfl rfl rfl ?_
  refine aw_seq ?_
  refine aw_region ?_
  refine nw fun H1 hb1 ho1 hl1 => ?_
  refine nw fun H2 hb2 ho2 hl2 => ?_
  refine sq_nil ?_
  have hbx := ho2.get0 hb1
  have ho12 := ho1.trans0 ho2
  have hl12 : H2.length = H.length + 2 := by omega
  refine aw_seq ?_
  refine aw_mid [1, 2] (fun _ : Nat => [(1, .ref H.length 6 0 0), (2, .ref H1.length 6 0 0)]) (fun m H' => Oth H H' none ∧ IsBox H' H.length [.i e.now, .lst t0 1 n0 g0, ints e.l0, ints e.l1, ints e.l2, .lst t4 1 n4 g4] ∧ (∃ b, H'[H1.length]? = some (some b) ∧ b.sz = 6 ∧ b.n = 1)) ?_ ?_
  ·
    refine yall 10 ?_
    refine ye 0 ?_
    refine sp ?_
    refine sq_nil ?_
    refine ye 3 ?_
    refine sp ?_
    refine sq_nil ?_
    refine y2 1 4 ?_ ?_
    refine sl ?_
    refine sq_nil ?_
    refine y2 2 4 ?_ ?_
    refine sc c0 ?_
    refine sq_nil ?_
    refine y1 4 ?_
    refine sl ?_
    refine sq_nil ?_
    refine ye 6 ?_
    refine sp ?_
    refine sq_nil ?_
    refine y1 5 ?_
    refine sc c4 ?_
    refine sq_nil ?_
    refine y1 7 ?_
    refine sw hbx fun H5 hb5 ho5 hl5 => ?_
    refine sq_nil ?_
    refine ye 8 ?_
    refine sp ?_
    refine sq_nil ?_
    refine y1 9 ?_
    refine sw hb5 fun H6 hb6 ho6 hl6 => ?_
    refine sq_nil ?_
    refine yd ?_
    exact then_normal ⟨0, _, by rw [rstf_eq]; rfl, .refl _, (ho12.new ho5 (Nat.le_refl _)).new ho6 (Nat.le_refl _), ⟨_, hb6, rfl, rfl, rfl, rfl⟩, ⟨_, ho6.get (ho5.get hb2 (by simp; omega)) (by simp; omega), rfl, rfl⟩⟩
    refine sl ?_
    refine sq_nil ?_
    refine y1 2 ?_
    refine sc c0 ?_
    refine sq_nil ?_
    refine ye 6 ?_
    refine sp ?_
    refine sq_nil ?_
    refine y1 5 ?_
    refine sc c4 ?_
    refine sq_nil ?_
    refine y1 7 ?_
    refine sw hbx fun H5 hb5 ho5 hl5 => ?_
    refine sq_nil ?_
    refine ye 8 ?_
    refine sp ?_
    refine sq_nil ?_
    refine y1 9 ?_
    refine sw hb5 fun H6 hb6 ho6 hl6 => ?_
    refine sq_nil ?_
    refine yd ?_
    exact then_normal ⟨0, _, by rw [rstf_eq]; rfl, .refl _, (ho12.new ho5 (Nat.le_refl _)).new ho6 (Nat.le_refl _), ⟨_, hb6, rfl, rfl, rfl, rfl⟩, ⟨_, ho6.get (ho5.get hb2 (by simp; omega)) (by simp; omega), rfl, rfl⟩⟩
    refine sl ?_
    refine sq_nil ?_
    refine y1 1 ?_
    refine sl ?_
    refine sq_nil ?_
    refine y1 2 ?_
    refine sc c0 ?_
    refine sq_nil ?_
    refine ye 6 ?_
    refine sp ?_
    refine sq_nil ?_
    refine y1 5 ?_
    refine sc c4 ?_
    refine sq_nil ?_
    refine y1 7 ?_
    refine sw hbx fun H5 hb5 ho5 hl5 => ?_
    refine sq_nil ?_
    refine ye 8 ?_
    refine sp ?_
    refine sq_nil ?_
    refine y1 9 ?_
    refine sw hb5 fun H6 hb6 ho6 hl6 => ?_
    refine sq_nil ?_
    refine yd ?_
    exact then_normal ⟨0, _, by rw [rstf_eq]; rfl, .refl _, (ho12.new ho5 (Nat.le_refl _)).new ho6 (Nat.le_refl _), ⟨_, hb6, rfl, rfl, rfl, rfl⟩, ⟨_, ho6.get (ho5.get hb2 (by simp; omega)) (by simp; omega), rfl, rfl⟩⟩
  rintro m H3 ⟨ho, ⟨b, hb, e1, e2, e3, e4⟩, ⟨b2, hr, s1, s2⟩⟩
  have hlen := ho.1
  have hidlt := (List.getElem?_eq_some_iff.1 hr).1
  refine aw_norm H.length (ebk [.i e.now, .lst t0 1 n0 g0, ints e.l0, ints e.l1, ints e.l2, .lst t4 1 n4 g4]) hb e1.symm e2.symm e3.symm (one_of e3 e4) fun H4 hb4 ho4 hl4 => ?_
  have hr4 := ho4.get hr (by simp; omega)
  (repeat' (first | (refine sq_id ?_; first | refine sq_nil ?_ | refine sm ?_ | refine sa ?_ | refine ss ?_ | refine st ?_ | refine sf ?_ | refine sp ?_ | refine sq ?_ | refine sl ?_ | refine si ?_ | refine sx ?_ | refine sy ?_) | (refine rg_id ?_; first | refine rg_fin ?_ | refine rm ?_ | refine ra ?_ | refine rs ?_ | refine rt ?_ | refine rf ?_ | refine rp ?_ | refine rq ?_ | refine rl ?_ | refine ri ?_ | refine rx ?_ | refine ry ?_) | refine aw_rseq ?_ | refine aw_seq ?_ | refine aw_region ?_ | refine aw_skip ?_ | refine ct ?_ | refine cf ?_ | refine d0s ?_ | refine d0r ?_ | refine aw_block ?_ | refine aw_exit ?_ | refine then_ret ?_ | refine then_exit ?_ | refine then_normal ?_ | refine blk_ret ?_ | refine blk_normal ?_ | refine blk_exit ?_ | refine blk_pass rfl ?_))
  refine aw_for [1, 2, 14, 15] (fun s : Nat × Nat => [(1, .ref H.length 6 0 0), (2, .ref H1.length 6 0 0), (14, .agg [ints e.l0, ints e.l1, ints e.l2]), (15, .i s.1)])
    (fun s H' => s.1 ≤ 3 ∧ (s.1 = 0 → Oth H H' none ∧ IsBox H' H.length [.i e.now, .lst t0 1 n0 g0, ints e.l0, ints e.l1, ints e.l2, .lst t4 1 n4 g4] ∧ (∃ b, H'[H1.length]? = some (some b) ∧ b.sz = 6 ∧ b.n = 1)) ∧ (s.1 = 1 → Oth H H' none ∧ IsBox H' H.length [.i e.now, .lst t0 1 n0 g0, .arr s.2 1 0 e.l0.length, ints e.l1, ints e.l2, .lst t4 1 n4 g4] ∧ (∃ b, H'[H1.length]? = some (some b) ∧ b.sz = 6 ∧ b.n = 1) ∧ H.length + 2 ≤ s.2 ∧ H'[s.2]? = some (some (iblk e.l0))) ∧ (s.1 = 2 → Oth H H' none ∧ IsBox H' H.length [.i e.now, .lst t0 1 n0 g0, .arr s.2 1 0 e.l0.length, .lst t2 1 n2 g2, ints e.l2, .lst t4 1 n4 g4] ∧ (∃ b, H'[H1.length]? = some (some b) ∧ b.sz = 6 ∧ b.n = 1) ∧ H.length + 2 ≤ s.2 ∧ H'[s.2]? = some (some (iblk e.l0))) ∧ (s.1 = 3 → Oth H H' none ∧ IsBox H' H.length [.i e.now, .lst t0 1 n0 g0, .arr s.2 1 0 e.l0.length, .lst t2 1 n2 g2, .lst t3 1 n3 g3, .lst t4 1 n4 g4] ∧ (∃ b, H'[H1.length]? = some (some b) ∧ b.sz = 6 ∧ b.n = 1) ∧ H.length + 2 ≤ s.2 ∧ H'[s.2]? = some (some (iblk e.l0)))) (fun s => 3 - s.1) (0, m) (by rw [rstf_eq]; rfl) ⟨by simp, fun _ => ⟨ho.new ho4 (Nat.le_refl _), ⟨_, hb4, rfl, rfl, rfl, rfl⟩, ⟨_, hr4, s1, s2⟩⟩, fun h => by simp at h, fun h => by simp at h, fun h => by simp at h⟩ ?_
  clear hb hr ho hb4 hr4 ho4 e4 hidlt
  rintro ⟨k, m⟩ H5 ⟨hk, i0, i1, i2, i3⟩
  simp only at hk i0 i1 i2 i3
  rcases (by omega : k = 0 ∨ k = 1 ∨ k = 2 ∨ k = 3) with rfl | rfl | rfl | rfl
  · obtain ⟨ho, ⟨b, hb, e1, e2, e3, e4⟩, ⟨b2, hr, s1, s2⟩⟩ := i0 rfl
    have hlen := ho.1
    have hidlt := (List.getElem?_eq_some_iff.1 hr).1
    refine aw_norm H.length (ebk [.i e.now, .lst t0 1 n0 g0, ints e.l0, ints e.l1, ints e.l2, .lst t4 1 n4 g4]) hb e1.symm e2.symm e3.symm (one_of e3 e4) fun H6 hb6 ho6 hl6 => ?_
    have hr6 := ho6.get hr (by simp; omega)
    (repeat' (first | (refine sq_id ?_; first | refine sq_nil ?_ | refine sm ?_ | refine sa ?_ | refine ss ?_ | refine st ?_ | refine sf ?_ | refine sp ?_ | refine sq ?_ | refine sl ?_ | refine si ?_ | refine sx ?_ | refine sy ?_) | (refine rg_id ?_; first | refine rg_fin ?_ | refine rm ?_ | refine ra ?_ | refine rs ?_ | refine rt ?_ | refine rf ?_ | refine rp ?_ | refine rq ?_ | refine rl ?_ | refine ri ?_ | refine rx ?_ | refine ry ?_) | refine aw_rseq ?_ | refine aw_seq ?_ | refine aw_region ?_ | refine aw_skip ?_ | refine ct ?_ | refine cf ?_ | refine d0s ?_ | refine d0r ?_ | refine aw_block ?_ | refine aw_exit ?_ | refine then_ret ?_ | refine then_exit ?_ | refine then_normal ?_ | refine blk_ret ?_ | refine blk_normal ?_ | refine blk_exit ?_ | refine blk_pass rfl ?_))
    refine sq_mk (r := fun m => .arr m 1 0 e.l0.length) (b := iblk e.l0) rfl rfl rfl (clonem_s e.l0 (by omega) h0) (LeL.refl _) fun H7 hm7 ho7 hl7 => ?_
    have hb7 := ho7.get0 hb6
    have hr7 := ho7.get0 hr6
    have hx7 := (ho.new ho6 (Nat.le_refl _)).trans0 ho7
    (repeat' (first | (refine sq_id ?_; first | refine sq_nil ?_ | refine sm ?_ | refine sa ?_ | refine ss ?_ | refine st ?_ | refine sf ?_ | refine sp ?_ | refine sq ?_ | refine sl ?_ | refine si ?_ | refine sx ?_ | refine sy ?_) | (refine rg_id ?_; first | refine rg_fin ?_ | refine rm ?_ | refine ra ?_ | refine rs ?_ | refine rt ?_ | refine rf ?_ | refine rp ?_ | refine rq ?_ | refine rl ?_ | refine ri ?_ | refine rx ?_ | refine ry ?_) | refine aw_rseq ?_ | refine aw_seq ?_ | refine aw_region ?_ | refine aw_skip ?_ | refine ct ?_ | refine cf ?_ | refine d0s ?_ | refine d0r ?_ | refine aw_block ?_ | refine aw_exit ?_ | refine then_ret ?_ | refine then_exit ?_ | refine then_normal ?_ | refine blk_ret ?_ | refine blk_normal ?_ | refine blk_exit ?_ | refine blk_pass rfl ?_))
    refine sw hb7 fun H8 hb8 ho8 hl8 => ?_
    (repeat' (first | (refine sq_id ?_; first | refine sq_nil ?_ | refine sm ?_ | refine sa ?_ | refine ss ?_ | refine st ?_ | refine sf ?_ | refine sp ?_ | refine sq ?_ | refine sl ?_ | refine si ?_ | refine sx ?_ | refine sy ?_) | (refine rg_id ?_; first | refine rg_fin ?_ | refine rm ?_ | refine ra ?_ | refine rs ?_ | refine rt ?_ | refine rf ?_ | refine rp ?_ | refine rq ?_ | refine rl ?_ | refine ri ?_ | refine rx ?_ | refine ry ?_) | refine aw_rseq ?_ | refine aw_seq ?_ | refine aw_region ?_ | refine aw_skip ?_ | refine ct ?_ | refine cf ?_ | refine d0s ?_ | refine d0r ?_ | refine aw_block ?_ | refine aw_exit ?_ | refine then_ret ?_ | refine then_exit ?_ | refine then_normal ?_ | refine blk_ret ?_ | refine blk_normal ?_ | refine blk_exit ?_ | refine blk_pass rfl ?_))
    exact ⟨(1, H6.length), by rw [rstf_eq]; rfl, ⟨by simp, fun h => by simp at h, fun _ => ⟨hx7.new ho8 (Nat.le_refl _), ⟨_, hb8, rfl, rfl, rfl, rfl⟩, ⟨_, ho8.get hr7 (by simp; omega), s1, s2⟩, by omega, ho8.get hm7 (by simp; omega)⟩, fun h => by simp at h, fun h => by simp at h⟩, by simp⟩
  · obtain ⟨ho, ⟨b, hb, e1, e2, e3, e4⟩, ⟨b2, hr, s1, s2⟩, hm0, hm⟩ := i1 rfl
    have hlen := ho.1
    refine aw_norm H.length (ebk [.i e.now, .lst t0 1 n0 g0, .arr m 1 0 e.l0.length, ints e.l1, ints e.l2, .lst t4 1 n4 g4]) hb e1.symm e2.symm e3.symm (one_of e3 e4) fun H6 hb6 ho6 hl6 => ?_
    have hr6 := ho6.get hr (by simp; omega)
    have hm6 := ho6.get hm (by simp; omega)
    (repeat' (first | (refine sq_id ?_; first | refine sq_nil ?_ | refine sm ?_ | refine sa ?_ | refine ss ?_ | refine st ?_ | refine sf ?_ | refine sp ?_ | refine sq ?_ | refine sl ?_ | refine si ?_ | refine sx ?_ | refine sy ?_ | refine sc c2 ?_) | (refine rg_id ?_; first | refine rg_fin ?_ | refine rm ?_ | refine ra ?_ | refine rs ?_ | refine rt ?_ | refine rf ?_ | refine rp ?_ | refine rq ?_ | refine rl ?_ | refine ri ?_ | refine rx ?_ | refine ry ?_ | refine sc c2 ?_) | refine aw_rseq ?_ | refine aw_seq ?_ | refine aw_region ?_ | refine aw_skip ?_ | refine ct ?_ | refine cf ?_ | refine d0s ?_ | refine d0r ?_ | refine aw_block ?_ | refine aw_exit ?_ | refine then_ret ?_ | refine then_exit ?_ | refine then_normal ?_ | refine blk_ret ?_ | refine blk_normal ?_ | refine blk_exit ?_ | refine blk_pass rfl ?_ | refine sc c2 ?_))
    have hb7 := hb6
    have hr7 := hr6
    have hm7 := hm6
    have hx7 := ho.new ho6 (Nat.le_refl _)
    refine sw hb7 fun H8 hb8 ho8 hl8 => ?_
    (repeat' (first | (refine sq_id ?_; first | refine sq_nil ?_ | refine sm ?_ | refine sa ?_ | refine ss ?_ | refine st ?_ | refine sf ?_ | refine sp ?_ | refine sq ?_ | refine sl ?_ | refine si ?_ | refine sx ?_ | refine sy ?_) | (refine rg_id ?_; first | refine rg_fin ?_ | refine rm ?_ | refine ra ?_ | refine rs ?_ | refine rt ?_ | refine rf ?_ | refine rp ?_ | refine rq ?_ | refine rl ?_ | refine ri ?_ | refine rx ?_ | refine ry ?_) | refine aw_rseq ?_ | refine aw_seq ?_ | refine aw_region ?_ | refine aw_skip ?_ | refine ct ?_ | refine cf ?_ | refine d0s ?_ | refine d0r ?_ | refine aw_block ?_ | refine aw_exit ?_ | refine then_ret ?_ | refine then_exit ?_ | refine then_normal ?_ | refine blk_ret ?_ | refine blk_normal ?_ | refine blk_exit ?_ | refine blk_pass rfl ?_))
    exact ⟨(2, m), by rw [rstf_eq]; rfl, ⟨by simp, fun h => by simp at h, fun h => by simp at h, fun _ => ⟨hx7.new ho8 (Nat.le_refl _), ⟨_, hb8, rfl, rfl, rfl, rfl⟩, ⟨_, ho8.get hr7 (by simp; omega), s1, s2⟩, by omega, ho8.get hm7 (by simp; omega)⟩, fun h => by simp at h⟩, by simp⟩
  · obtain ⟨ho, ⟨b, hb, e1, e2, e3, e4⟩, ⟨b2, hr, s1, s2⟩, hm0, hm⟩ := i2 rfl
    have hlen := ho.1
    refine aw_norm H.length (ebk [.i e.now, .lst t0 1 n0 g0, .arr m 1 0 e.l0.length, .lst t2 1 n2 g2, ints e.l2, .lst t4 1 n4 g4]) hb e1.symm e2.symm e3.symm (one_of e3 e4) fun H6 hb6 ho6 hl6 => ?_
    have hr6 := ho6.get hr (by simp; omega)
    have hm6 := ho6.get hm (by simp; omega)
    (repeat' (first | (refine sq_id ?_; first | refine sq_nil ?_ | refine sm ?_ | refine sa ?_ | refine ss ?_ | refine st ?_ | refine sf ?_ | refine sp ?_ | refine sq ?_ | refine sl ?_ | refine si ?_ | refine sx ?_ | refine sy ?_ | refine sc c3 ?_) | (refine rg_id ?_; first | refine rg_fin ?_ | refine rm ?_ | refine ra ?_ | refine rs ?_ | refine rt ?_ | refine rf ?_ | refine rp ?_ | refine rq ?_ | refine rl ?_ | refine ri ?_ | refine rx ?_ | refine ry ?_ | refine sc c3 ?_) | refine aw_rseq ?_ | refine aw_seq ?_ | refine aw_region ?_ | refine aw_skip ?_ | refine ct ?_ | refine cf ?_ | refine d0s ?_ | refine d0r ?_ | refine aw_block ?_ | refine aw_exit ?_ | refine then_ret ?_ | refine then_exit ?_ | refine then_normal ?_ | refine blk_ret ?_ | refine blk_normal ?_ | refine blk_exit ?_ | refine blk_pass rfl ?_ | refine sc c3 ?_))
    have hb7 := hb6
    have hr7 := hr6
    have hm7 := hm6
    have hx7 := ho.new ho6 (Nat.le_refl _)
    refine sw hb7 fun H8 hb8 ho8 hl8 => ?_
    (repeat' (first | (refine sq_id ?_; first | refine sq_nil ?_ | refine sm ?_ | refine sa ?_ | refine ss ?_ | refine st ?_ | refine sf ?_ | refine sp ?_ | refine sq ?_ | refine sl ?_ | refine si ?_ | refine sx ?_ | refine sy ?_) | (refine rg_id ?_; first | refine rg_fin ?_ | refine rm ?_ | refine ra ?_ | refine rs ?_ | refine rt ?_ | refine rf ?_ | refine rp ?_ | refine rq ?_ | refine rl ?_ | refine ri ?_ | refine rx ?_ | refine ry ?_) | refine aw_rseq ?_ | refine aw_seq ?_ | refine aw_region ?_ | refine aw_skip ?_ | refine ct ?_ | refine cf ?_ | refine d0s ?_ | refine d0r ?_ | refine aw_block ?_ | refine aw_exit ?_ | refine then_ret ?_ | refine then_exit ?_ | refine then_normal ?_ | refine blk_ret ?_ | refine blk_normal ?_ | refine blk_exit ?_ | refine blk_pass rfl ?_))
    exact ⟨(3, m), by rw [rstf_eq]; rfl, ⟨by simp, fun h => by simp at h, fun h => by simp at h, fun h => by simp at h, fun _ => ⟨hx7.new ho8 (Nat.le_refl _), ⟨_, hb8, rfl, rfl, rfl, rfl⟩, ⟨_, ho8.get hr7 (by simp; omega), s1, s2⟩, by omega, ho8.get hm7 (by simp; omega)⟩⟩, by simp⟩
  · obtain ⟨ho, ⟨b, hb, e1, e2, e3, e4⟩, ⟨b2, hr, s1, s2⟩, hm0, hm⟩ := i3 rfl
    have hlen := ho.1
    refine aw_norm H.length (ebk [.i e.now, .lst t0 1 n0 g0, .arr m 1 0 e.l0.length, .lst t2 1 n2 g2, .lst t3 1 n3 g3, .lst t4 1 n4 g4]) hb e1.symm e2.symm e3.symm (one_of e3 e4) fun H6 hb6 ho6 hl6 => ?_
    have hr6 := ho6.get hr (by simp; omega)
    (repeat' (first | (refine sq_id ?_; first | refine sq_nil ?_ | refine sm ?_ | refine sa ?_ | refine ss ?_ | refine st ?_ | refine sf ?_ | refine sp ?_ | refine sq ?_ | refine sl ?_ | refine si ?_ | refine sx ?_ | refine sy ?_) | (refine rg_id ?_; first | refine rg_fin ?_ | refine rm ?_ | refine ra ?_ | refine rs ?_ | refine rt ?_ | refine rf ?_ | refine rp ?_ | refine rq ?_ | refine rl ?_ | refine ri ?_ | refine rx ?_ | refine ry ?_) | refine aw_rseq ?_ | refine aw_seq ?_ | refine aw_region ?_ | refine aw_skip ?_ | refine ct ?_ | refine cf ?_ | refine d0s ?_ | refine d0r ?_ | refine aw_block ?_ | refine aw_exit ?_ | refine then_ret ?_ | refine then_exit ?_ | refine then_normal ?_ | refine blk_ret ?_ | refine blk_normal ?_ | refine blk_exit ?_ | refine blk_pass rfl ?_))
    refine sq_storek TYok rfl rfl rfl hr6 s1 (by omega) rfl rfl rfl (Nat.le_of_ble_eq_true rfl) fun H7 hb7 ho7 hl7 => ?_
    (repeat' (first | (refine sq_id ?_; first | refine sq_nil ?_ | refine sm ?_ | refine sa ?_ | refine ss ?_ | refine st ?_ | refine sf ?_ | refine sp ?_ | refine sq ?_ | refine sl ?_ | refine si ?_ | refine sx ?_ | refine sy ?_) | (refine rg_id ?_; first | refine rg_fin ?_ | refine rm ?_ | refine ra ?_ | refine rs ?_ | refine rt ?_ | refine rf ?_ | refine rp ?_ | refine rq ?_ | refine rl ?_ | refine ri ?_ | refine rx ?_ | refine ry ?_) | refine aw_rseq ?_ | refine aw_seq ?_ | refine aw_region ?_ | refine aw_skip ?_ | refine ct ?_ | refine cf ?_ | refine d0s ?_ | refine d0r ?_ | refine aw_block ?_ | refine aw_exit ?_ | refine then_ret ?_ | refine then_exit ?_ | refine then_normal ?_ | refine blk_ret ?_ | refine blk_normal ?_ | refine blk_exit ?_ | refine blk_pass rfl ?_ | refine aw_dec rfl (fun _ => ?_) (fun _ => ?_)))
    ((try refine aw_ret ?_); (repeat (first | refine then_ret ?_ | refine blk_ret ?_)))
    exact ⟨True.intro, _, .cell _ _ _ _ _ _ _ _ _ rfl hb7 s1 (by show 0 < b2.n; omega) rfl .nil, (ho.new ho6 (Nat.le_refl _)).new ho7 (by omega), m, rfl, by omega, ho7.get (ho6.get hm (by simp; omega)) (by simp; omega)⟩
set_option maxHeartbeats 4000000 in
theorem own1_s (e : Ep) (hbd : Bd e) {t0 : Bool} {n0 : Nat} {g0 : Nat → List AV} (c0 : PS Try.prog 48 [ints e.pins] (.lst t0 1 n0 g0)) {t1 : Bool} {n1 : Nat} {g1 : Nat → List AV} (c1 : PS Try.prog 48 [ints e.l0] (.lst t1 1 n1 g1)) {t3 : Bool} {n3 : Nat} {g3 : Nat → List AV} (c3 : PS Try.prog 48 [ints e.l2] (.lst t3 1 n3 g3)) {t4 : Bool} {n4 : Nat} {g4 : Nat → List AV} (c4 : PS Try.prog 48 [ints e.free] (.lst t4 1 n4 g4)) (h0 : 0 < e.l1.length) (H : AH) : SC true Try.prog 50 [epv e] H (fun r H' => Oth H H' none ∧ ∃ m : Nat, r = .agg [.i e.now, .lst t0 1 n0 g0, .lst t1 1 n1 g1, .arr m 1 0 e.l1.length, .lst t3 1 n3 g3, .lst t4 1 n4 g4] ∧ H.length ≤ m ∧ H'[m]? = some (some (iblk e.l1))) := by
  obtain ⟨hb1, hb2⟩ := hbd
  refine sc_in TYok Try.func50 (by kernel_rfl) Try.ntmps50 rfl rfl rfl ?_
  refine aw_seq ?_
  refine aw_region ?_
  refine nw fun H1 hb1 ho1 hl1 => ?_
  refine nw fun H2 hb2 ho2 hl2 => ?_
  refine sq_nil ?_
  have hbx := ho2.get0 hb1
  have ho12 := ho1.trans0 ho2
  have hl12 : H2.length = H.length + 2 := by omega
  refine aw_seq ?_
  refine aw_mid [1, 2] (fun _ : Nat => [(1, .ref H.length 6 0 0), (2, .ref H1.length 6 0 0)]) (fun m H' => Oth H H' none ∧ IsBox H' H.length [.i e.now, .lst t0 1 n0 g0, ints e.l0, ints e.l1, ints e.l2, .lst t4 1 n4 g4] ∧ (∃ b, H'[H1.length]? = some (some b) ∧ b.sz = 6 ∧ b.n = 1)) ?_ ?_
  ·
    refine yall 10 ?_
    refine ye 0 ?_
    refine sp ?_
    refine sq_nil ?_
    refine ye 3 ?_
    refine sp ?_
    refine sq_nil ?_
    refine y2 1 4 ?_ ?_
    refine sl ?_
    refine sq_nil ?_
    refine y2 2 4 ?_ ?_
    refine sc c0 ?_
    refine sq_nil ?_
    refine y1 4 ?_
    refine sl ?_
    refine sq_nil ?_
    refine ye 6 ?_
    refine sp ?_
    refine sq_nil ?_
    refine y1 5 ?_
    refine sc c4 ?_
    refine sq_nil ?_
    refine y1 7 ?_
    refine sw hbx fun H5 hb5 ho5 hl5 => ?_
    refine sq_nil ?_
    refine ye 8 ?_
    refine sp ?_
    refine sq_nil ?_
    refine y1 9 ?_
    refine sw hb5 fun H6 hb6 ho6 hl6 => ?_
    refine sq_nil ?_
    refine yd ?_
    exact then_normal ⟨0, _, by rw [rstf_eq]; rfl, .refl _, (ho12.new ho5 (Nat.le_refl _)).new ho6 (Nat.le_refl _), ⟨_, hb6, rfl, rfl, rfl, rfl⟩, ⟨_, ho6.get (ho5.get hb2 (by simp; omega)) (by simp; omega), rfl, rfl⟩⟩
    refine sl ?_
    refine sq_nil ?_
    refine y1 2 ?_
    refine sc c0 ?_
    refine sq_nil ?_
    refine ye 6 ?_
    refine sp ?_
    refine sq_nil ?_
    refine y1 5 ?_
    refine sc c4 ?_
    refine sq_nil ?_
    refine y1 7 ?_
    refine sw hbx fun H5 hb5 ho5 hl5 => ?_
    refine sq_nil ?_
    refine ye 8 ?_
    refine sp ?_
    refine sq_nil ?_
    refine y1 9 ?_
    refine sw hb5 fun H6 hb6 ho6 hl6 => ?_
    refine sq_nil ?_
    refine yd ?_
    exact then_normal ⟨0, _, by rw [rstf_eq]; rfl, .refl _, (ho12.new ho5 (Nat.le_refl _)).new ho6 (Nat.le_refl _), ⟨_, hb6, rfl, rfl, rfl, rfl⟩, ⟨_, ho6.get (ho5.get hb2 (by simp; omega)) (by simp; omega), rfl, rfl⟩⟩
    refine sl ?_
    refine sq_nil ?_
    refine y1 1 ?_
    refine sl ?_
    refine sq_nil ?_
    refine y1 2 ?_
    refine sc c0 ?_
    refine sq_nil ?_
    refine ye 6 ?_
    refine sp ?_
    refine sq_nil ?_
    refine y1 5 ?_
    refine sc c4 ?_
    refine sq_nil ?_
    refine y1 7 ?_
    refine sw hbx fun H5 hb5 ho5 hl5 => ?_
    refine sq_nil ?_
    refine ye 8 ?_
    refine sp ?_
    refine sq_nil ?_
    refine y1 9 ?_
    refine sw hb5 fun H6 hb6 ho6 hl6 => ?_
    refine sq_nil ?_
    refine yd ?_
    exact then_normal ⟨0, _, by rw [rstf_eq]; rfl, .refl _, (ho12.new ho5 (Nat.le_refl _)).new ho6 (Nat.le_refl _), ⟨_, hb6, rfl, rfl, rfl, rfl⟩, ⟨_, ho6.get (ho5.get hb2 (by simp; omega)) (by simp; omega), rfl, rfl⟩⟩
  rintro m H3 ⟨ho, ⟨b, hb, e1, e2, e3, e4⟩, ⟨b2, hr, s1, s2⟩⟩
  have hlen := ho.1
  have hidlt := (List.getElem?_eq_some_iff.1 hr).1
  refine aw_norm H.length (ebk [.i e.now, .lst t0 1 n0 g0, ints e.l0, ints e.l1, ints e.l2, .lst t4 1 n4 g4]) hb e1.symm e2.symm e3.symm (one_of e3 e4) fun H4 hb4 ho4 hl4 => ?_
  have hr4 := ho4.get hr (by simp; omega)
  (repeat' (first | (refine sq_id ?_; first | refine sq_nil ?_ | refine sm ?_ | refine sa ?_ | refine ss ?_ | refine st ?_ | refine sf ?_ | refine sp ?_ | refine sq ?_ | refine sl ?_ | refine si ?_ | refine sx ?_ | refine sy ?_) | (refine rg_id ?_; first | refine rg_fin ?_ | refine rm ?_ | refine ra ?_ | refine rs ?_ | refine rt ?_ | refine rf ?_ | refine rp ?_ | refine rq ?_ | refine rl ?_ | refine ri ?_ | refine rx ?_ | refine ry ?_) | refine aw_rseq ?_ | refine aw_seq ?_ | refine aw_region ?_ | refine aw_skip ?_ | refine ct ?_ | refine cf ?_ | refine d0s ?_ | refine d0r ?_ | refine aw_block ?_ | refine aw_exit ?_ | refine then_ret ?_ | refine then_exit ?_ | refine then_normal ?_ | refine blk_ret ?_ | refine blk_normal ?_ | refine blk_exit ?_ | refine blk_pass rfl ?_))
  refine aw_for [1, 2, 14, 15] (fun s : Nat × Nat => [(1, .ref H.length 6 0 0), (2, .ref H1.length 6 0 0), (14, .agg [ints e.l0, ints e.l1, ints e.l2]), (15, .i s.1)])
    (fun s H' => s.1 ≤ 3 ∧ (s.1 = 0 → Oth H H' none ∧ IsBox H' H.length [.i e.now, .lst t0 1 n0 g0, ints e.l0, ints e.l1, ints e.l2, .lst t4 1 n4 g4] ∧ (∃ b, H'[H1.length]? = some (some b) ∧ b.sz = 6 ∧ b.n = 1)) ∧ (s.1 = 1 → Oth H H' none ∧ IsBox H' H.length [.i e.now, .lst t0 1 n0 g0, .lst t1 1 n1 g1, ints e.l1, ints e.l2, .lst t4 1 n4 g4] ∧ (∃ b, H'[H1.length]? = some (some b) ∧ b.sz = 6 ∧ b.n = 1)) ∧ (s.1 = 2 → Oth H H' none ∧ IsBox H' H.length [.i e.now, .lst t0 1 n0 g0, .lst t1 1 n1 g1, .arr s.2 1 0 e.l1.length, ints e.l2, .lst t4 1 n4 g4] ∧ (∃ b, H'[H1.length]? = some (some b) ∧ b.sz = 6 ∧ b.n = 1) ∧ H.length + 2 ≤ s.2 ∧ H'[s.2]? = some (some (iblk e.l1))) ∧ (s.1 = 3 → Oth H H' none ∧ IsBox H' H.length [.i e.now, .lst t0 1 n0 g0, .lst t1 1 n1 g1, .arr s.2 1 0 e.l1.length, .lst t3 1 n3 g3, .lst t4 1 n4 g4] ∧ (∃ b, H'[H1.length]? = some (some b) ∧ b.sz = 6 ∧ b.n = 1) ∧ H.length + 2 ≤ s.2 ∧ H'[s.2]? = some (some (iblk e.l1)))) (fun s => 3 - s.1) (0, m) (by rw [rstf_eq]; rfl) ⟨by simp, fun _ => ⟨ho.new ho4 (Nat.le_refl _), ⟨_, hb4, rfl, rfl, rfl, rfl⟩, ⟨_, hr4, s1, s2⟩⟩, fun h => by simp at h, fun h => by simp at h, fun h => by simp at h⟩ ?_
  clear hb hr ho hb4 hr4 ho4 e4 hidlt
  rintro ⟨k, m⟩ H5 ⟨hk, i0, i1, i2, i3⟩
  simp only at hk i0 i1 i2 i3
  rcases (by omega : k = 0 ∨ k = 1 ∨ k = 2 ∨ k = 3) with rfl | rfl | rfl | rfl
  · obtain ⟨ho, ⟨b, hb, e1, e2, e3, e4⟩, ⟨b2, hr, s1, s2⟩⟩ := i0 rfl
    have hlen := ho.1
    refine aw_norm H.length (ebk [.i e.now, .lst t0 1 n0 g0, ints e.l0, ints e.l1, ints e.l2, .lst t4 1 n4 g4]) hb e1.symm e2.symm e3.symm (one_of e3 e4) fun H6 hb6 ho6 hl6 => ?_
    have hr6 := ho6.get hr (by simp; omega)
    (repeat' (first | (refine sq_id ?_; first | refine sq_nil ?_ | refine sm ?_ | refine sa ?_ | refine ss ?_ | refine st ?_ | refine sf ?_ | refine sp ?_ | refine sq ?_ | refine sl ?_ | refine si ?_ | refine sx ?_ | refine sy ?_ | refine sc c1 ?_) | (refine rg_id ?_; first | refine rg_fin ?_ | refine rm ?_ | refine ra ?_ | refine rs ?_ | refine rt ?_ | refine rf ?_ | refine rp ?_ | refine rq ?_ | refine rl ?_ | refine ri ?_ | refine rx ?_ | refine ry ?_ | refine sc c1 ?_) | refine aw_rseq ?_ | refine aw_seq ?_ | refine aw_region ?_ | refine aw_skip ?_ | refine ct ?_ | refine cf ?_ | refine d0s ?_ | refine d0r ?_ | refine aw_block ?_ | refine aw_exit ?_ | refine then_ret ?_ | refine then_exit ?_ | refine then_normal ?_ | refine blk_ret ?_ | refine blk_normal ?_ | refine blk_exit ?_ | refine blk_pass rfl ?_ | refine sc c1 ?_))
    have hb7 := hb6
    have hr7 := hr6
    have hx7 := ho.new ho6 (Nat.le_refl _)
    refine sw hb7 fun H8 hb8 ho8 hl8 => ?_
    (repeat' (first | (refine sq_id ?_; first | refine sq_nil ?_ | refine sm ?_ | refine sa ?_ | refine ss ?_ | refine st ?_ | refine sf ?_ | refine sp ?_ | refine sq ?_ | refine sl ?_ | refine si ?_ | refine sx ?_ | refine sy ?_) | (refine rg_id ?_; first | refine rg_fin ?_ | refine rm ?_ | refine ra ?_ | refine rs ?_ | refine rt ?_ | refine rf ?_ | refine rp ?_ | refine rq ?_ | refine rl ?_ | refine ri ?_ | refine rx ?_ | refine ry ?_) | refine aw_rseq ?_ | refine aw_seq ?_ | refine aw_region ?_ | refine aw_skip ?_ | refine ct ?_ | refine cf ?_ | refine d0s ?_ | refine d0r ?_ | refine aw_block ?_ | refine aw_exit ?_ | refine then_ret ?_ | refine then_exit ?_ | refine then_normal ?_ | refine blk_ret ?_ | refine blk_normal ?_ | refine blk_exit ?_ | refine blk_pass rfl ?_))
    exact ⟨(1, m), by rw [rstf_eq]; rfl, ⟨by simp, fun h => by simp at h, fun _ => ⟨hx7.new ho8 (Nat.le_refl _), ⟨_, hb8, rfl, rfl, rfl, rfl⟩, ⟨_, ho8.get hr7 (by simp; omega), s1, s2⟩⟩, fun h => by simp at h, fun h => by simp at h⟩, by simp⟩
  · obtain ⟨ho, ⟨b, hb, e1, e2, e3, e4⟩, ⟨b2, hr, s1, s2⟩⟩ := i1 rfl
    have hlen := ho.1
    have hidlt := (List.getElem?_eq_some_iff.1 hr).1
    refine aw_norm H.length (ebk [.i e.now, .lst t0 1 n0 g0, .lst t1 1 n1 g1, ints e.l1, ints e.l2, .lst t4 1 n4 g4]) hb e1.symm e2.symm e3.symm (one_of e3 e4) fun H6 hb6 ho6 hl6 => ?_
    have hr6 := ho6.get hr (by simp; omega)
    (repeat' (first | (refine sq_id ?_; first | refine sq_nil ?_ | refine sm ?_ | refine sa ?_ | refine ss ?_ | refine st ?_ | refine sf ?_ | refine sp ?_ | refine sq ?_ | refine sl ?_ | refine si ?_ | refine sx ?_ | refine sy ?_) | (refine rg_id ?_; first | refine rg_fin ?_ | refine rm ?_ | refine ra ?_ | refine rs ?_ | refine rt ?_ | refine rf ?_ | refine rp ?_ | refine rq ?_ | refine rl ?_ | refine ri ?_ | refine rx ?_ | refine ry ?_) | refine aw_rseq ?_ | refine aw_seq ?_ | refine aw_region ?_ | refine aw_skip ?_ | refine ct ?_ | refine cf ?_ | refine d0s ?_ | refine d0r ?_ | refine aw_block ?_ | refine aw_exit ?_ | refine then_ret ?_ | refine then_exit ?_ | refine then_normal ?_ | refine blk_ret ?_ | refine blk_normal ?_ | refine blk_exit ?_ | refine blk_pass rfl ?_))
    refine sq_mk (r := fun m => .arr m 1 0 e.l1.length) (b := iblk e.l1) rfl rfl rfl (clonem_s e.l1 (by omega) h0) (LeL.refl _) fun H7 hm7 ho7 hl7 => ?_
    have hb7 := ho7.get0 hb6
    have hr7 := ho7.get0 hr6
    have hx7 := (ho.new ho6 (Nat.le_refl _)).trans0 ho7
    (repeat' (first | (refine sq_id ?_; first | refine sq_nil ?_ | refine sm ?_ | refine sa ?_ | refine ss ?_ | refine st ?_ | refine sf ?_ | refine sp ?_ | refine sq ?_ | refine sl ?_ | refine si ?_ | refine sx ?_ | refine sy ?_) | (refine rg_id ?_; first | refine rg_fin ?_ | refine rm ?_ | refine ra ?_ | refine rs ?_ | refine rt ?_ | refine rf ?_ | refine rp ?_ | refine rq ?_ | refine rl ?_ | refine ri ?_ | refine rx ?_ | refine ry ?_) | refine aw_rseq ?_ | refine aw_seq ?_ | refine aw_region ?_ | refine aw_skip ?_ | refine ct ?_ | refine cf ?_ | refine d0s ?_ | refine d0r ?_ | refine aw_block ?_ | refine aw_exit ?_ | refine then_ret ?_ | refine then_exit ?_ | refine then_normal ?_ | refine blk_ret ?_ | refine blk_normal ?_ | refine blk_exit ?_ | refine blk_pass rfl ?_))
    refine sw hb7 fun H8 hb8 ho8 hl8 => ?_
    (repeat' (first | (refine sq_id ?_; first | refine sq_nil ?_ | refine sm ?_ | refine sa ?_ | refine ss ?_ | refine st ?_ | refine sf ?_ | refine sp ?_ | refine sq ?_ | refine sl ?_ | refine si ?_ | refine sx ?_ | refine sy ?_) | (refine rg_id ?_; first | refine rg_fin ?_ | refine rm ?_ | refine ra ?_ | refine rs ?_ | refine rt ?_ | refine rf ?_ | refine rp ?_ | refine rq ?_ | refine rl ?_ | refine ri ?_ | refine rx ?_ | refine ry ?_) | refine aw_rseq ?_ | refine aw_seq ?_ | refine aw_region ?_ | refine aw_skip ?_ | refine ct ?_ | refine cf ?_ | refine d0s ?_ | refine d0r ?_ | refine aw_block ?_ | refine aw_exit ?_ | refine then_ret ?_ | refine then_exit ?_ | refine then_normal ?_ | refine blk_ret ?_ | refine blk_normal ?_ | refine blk_exit ?_ | refine blk_pass rfl ?_))
    exact ⟨(2, H6.length), by rw [rstf_eq]; rfl, ⟨by simp, fun h => by simp at h, fun h => by simp at h, fun _ => ⟨hx7.new ho8 (Nat.le_refl _), ⟨_, hb8, rfl, rfl, rfl, rfl⟩, ⟨_, ho8.get hr7 (by simp; omega), s1, s2⟩, by omega, ho8.get hm7 (by simp; omega)⟩, fun h => by simp at h⟩, by simp⟩
  · obtain ⟨ho, ⟨b, hb, e1, e2, e3, e4⟩, ⟨b2, hr, s1, s2⟩, hm0, hm⟩ := i2 rfl
    have hlen := ho.1
    refine aw_norm H.length (ebk [.i e.now, .lst t0 1 n0 g0, .lst t1 1 n1 g1, .arr m 1 0 e.l1.length, ints e.l2, .lst t4 1 n4 g4]) hb e1.symm e2.symm e3.symm (one_of e3 e4) fun H6 hb6 ho6 hl6 => ?_
    have hr6 := ho6.get hr (by simp; omega)
    have hm6 := ho6.get hm (by simp; omega)
    (repeat' (first | (refine sq_id ?_; first | refine sq_nil ?_ | refine sm ?_ | refine sa ?_ | refine ss ?_ | refine st ?_ | refine sf ?_ | refine sp ?_ | refine sq ?_ | refine sl ?_ | refine si ?_ | refine sx ?_ | refine sy ?_ | refine sc c3 ?_) | (refine rg_id ?_; first | refine rg_fin ?_ | refine rm ?_ | refine ra ?_ | refine rs ?_ | refine rt ?_ | refine rf ?_ | refine rp ?_ | refine rq ?_ | refine rl ?_ | refine ri ?_ | refine rx ?_ | refine ry ?_ | refine sc c3 ?_) | refine aw_rseq ?_ | refine aw_seq ?_ | refine aw_region ?_ | refine aw_skip ?_ | refine ct ?_ | refine cf ?_ | refine d0s ?_ | refine d0r ?_ | refine aw_block ?_ | refine aw_exit ?_ | refine then_ret ?_ | refine then_exit ?_ | refine then_normal ?_ | refine blk_ret ?_ | refine blk_normal ?_ | refine blk_exit ?_ | refine blk_pass rfl ?_ | refine sc c3 ?_))
    have hb7 := hb6
    have hr7 := hr6
    have hm7 := hm6
    have hx7 := ho.new ho6 (Nat.le_refl _)
    refine sw hb7 fun H8 hb8 ho8 hl8 => ?_
    (repeat' (first | (refine sq_id ?_; first | refine sq_nil ?_ | refine sm ?_ | refine sa ?_ | refine ss ?_ | refine st ?_ | refine sf ?_ | refine sp ?_ | refine sq ?_ | refine sl ?_ | refine si ?_ | refine sx ?_ | refine sy ?_) | (refine rg_id ?_; first | refine rg_fin ?_ | refine rm ?_ | refine ra ?_ | refine rs ?_ | refine rt ?_ | refine rf ?_ | refine rp ?_ | refine rq ?_ | refine rl ?_ | refine ri ?_ | refine rx ?_ | refine ry ?_) | refine aw_rseq ?_ | refine aw_seq ?_ | refine aw_region ?_ | refine aw_skip ?_ | refine ct ?_ | refine cf ?_ | refine d0s ?_ | refine d0r ?_ | refine aw_block ?_ | refine aw_exit ?_ | refine then_ret ?_ | refine then_exit ?_ | refine then_normal ?_ | refine blk_ret ?_ | refine blk_normal ?_ | refine blk_exit ?_ | refine blk_pass rfl ?_))
    exact ⟨(3, m), by rw [rstf_eq]; rfl, ⟨by simp, fun h => by simp at h, fun h => by simp at h, fun h => by simp at h, fun _ => ⟨hx7.new ho8 (Nat.le_refl _), ⟨_, hb8, rfl, rfl, rfl, rfl⟩, ⟨_, ho8.get hr7 (by simp; omega), s1, s2⟩, by omega, ho8.get hm7 (by simp; omega)⟩⟩, by simp⟩
  · obtain ⟨ho, ⟨b, hb, e1, e2, e3, e4⟩, ⟨b2, hr, s1, s2⟩, hm0, hm⟩ := i3 rfl
    have hlen := ho.1
    refine aw_norm H.length (ebk [.i e.now, .lst t0 1 n0 g0, .lst t1 1 n1 g1, .arr m 1 0 e.l1.length, .lst t3 1 n3 g3, .lst t4 1 n4 g4]) hb e1.symm e2.symm e3.symm (one_of e3 e4) fun H6 hb6 ho6 hl6 => ?_
    have hr6 := ho6.get hr (by simp; omega)
    (repeat' (first | (refine sq_id ?_; first | refine sq_nil ?_ | refine sm ?_ | refine sa ?_ | refine ss ?_ | refine st ?_ | refine sf ?_ | refine sp ?_ | refine sq ?_ | refine sl ?_ | refine si ?_ | refine sx ?_ | refine sy ?_) | (refine rg_id ?_; first | refine rg_fin ?_ | refine rm ?_ | refine ra ?_ | refine rs ?_ | refine rt ?_ | refine rf ?_ | refine rp ?_ | refine rq ?_ | refine rl ?_ | refine ri ?_ | refine rx ?_ | refine ry ?_) | refine aw_rseq ?_ | refine aw_seq ?_ | refine aw_region ?_ | refine aw_skip ?_ | refine ct ?_ | refine cf ?_ | refine d0s ?_ | refine d0r ?_ | refine aw_block ?_ | refine aw_exit ?_ | refine then_ret ?_ | refine then_exit ?_ | refine then_normal ?_ | refine blk_ret ?_ | refine blk_normal ?_ | refine blk_exit ?_ | refine blk_pass rfl ?_))
    refine sq_storek TYok rfl rfl rfl hr6 s1 (by omega) rfl rfl rfl (Nat.le_of_ble_eq_true rfl) fun H7 hb7 ho7 hl7 => ?_
    (repeat' (first | (refine sq_id ?_; first | refine sq_nil ?_ | refine sm ?_ | refine sa ?_ | refine ss ?_ | refine st ?_ | refine sf ?_ | refine sp ?_ | refine sq ?_ | refine sl ?_ | refine si ?_ | refine sx ?_ | refine sy ?_) | (refine rg_id ?_; first | refine rg_fin ?_ | refine rm ?_ | refine ra ?_ | refine rs ?_ | refine rt ?_ | refine rf ?_ | refine rp ?_ | refine rq ?_ | refine rl ?_ | refine ri ?_ | refine rx ?_ | refine ry ?_) | refine aw_rseq ?_ | refine aw_seq ?_ | refine aw_region ?_ | refine aw_skip ?_ | refine ct ?_ | refine cf ?_ | refine d0s ?_ | refine d0r ?_ | refine aw_block ?_ | refine aw_exit ?_ | refine then_ret ?_ | refine then_exit ?_ | refine then_normal ?_ | refine blk_ret ?_ | refine blk_normal ?_ | refine blk_exit ?_ | refine blk_pass rfl ?_ | refine aw_dec rfl (fun _ => ?_) (fun _ => ?_)))
    ((try refine aw_ret ?_); (repeat (first | refine then_ret ?_ | refine blk_ret ?_)))
    exact ⟨True.intro, _, .cell _ _ _ _ _ _ _ _ _ rfl hb7 s1 (by show 0 < b2.n; omega) rfl .nil, (ho.new ho6 (Nat.le_refl _)).new ho7 (by omega), m, rfl, by omega, ho7.get (ho6.get hm (by simp; omega)) (by simp; omega)⟩
set_option maxHeartbeats 4000000 in
theorem own2_s (e : Ep) (hbd : Bd e) {t0 : Bool} {n0 : Nat} {g0 : Nat → List AV} (c0 : PS Try.prog 48 [ints e.pins] (.lst t0 1 n0 g0)) {t1 : Bool} {n1 : Nat} {g1 : Nat → List AV} (c1 : PS Try.prog 48 [ints e.l0] (.lst t1 1 n1 g1)) {t2 : Bool} {n2 : Nat} {g2 : Nat → List AV} (c2 : PS Try.prog 48 [ints e.l1] (.lst t2 1 n2 g2)) {t4 : Bool} {n4 : Nat} {g4 : Nat → List AV} (c4 : PS Try.prog 48 [ints e.free] (.lst t4 1 n4 g4)) (h0 : 0 < e.l2.length) (H : AH) : SC true Try.prog 50 [epv e] H (fun r H' => Oth H H' none ∧ ∃ m : Nat, r = .agg [.i e.now, .lst t0 1 n0 g0, .lst t1 1 n1 g1, .lst t2 1 n2 g2, .arr m 1 0 e.l2.length, .lst t4 1 n4 g4] ∧ H.length ≤ m ∧ H'[m]? = some (some (iblk e.l2))) := by
  obtain ⟨hb1, hb2⟩ := hbd
  refine sc_in TYok Try.func50 (by kernel_rfl) Try.ntmps50 rfl rfl rfl ?_
  refine aw_seq ?_
  refine aw_region ?_
  refine nw fun H1 hb1 ho1 hl1 => ?_
  refine nw fun H2 hb2 ho2 hl2 => ?_
  refine sq_nil ?_
  have hbx := ho2.get0 hb1
  have ho12 := ho1.trans0 ho2
  have hl12 : H2.length = H.length + 2 := by omega
  refine aw_seq ?_
  refine aw_mid [1, 2] (fun _ : Nat => [(1, .ref H.length 6 0 0), (2, .ref H1.length 6 0 0)]) (fun m H' => Oth H H' none ∧ IsBox H' H.length [.i e.now, .lst t0 1 n0 g0, ints e.l0, ints e.l1, ints e.l2, .lst t4 1 n4 g4] ∧ (∃ b, H'[H1.length]? = some (some b) ∧ b.sz = 6 ∧ b.n = 1)) ?_ ?_
  ·
    refine yall 10 ?_
    refine ye 0 ?_
    refine sp ?_
    refine sq_nil ?_
    refine ye 3 ?_
    refine sp ?_
    refine sq_nil ?_
    refine y2 1 4 ?_ ?_
    refine sl ?_
    refine sq_nil ?_
    refine y2 2 4 ?_ ?_
    refine sc c0 ?_
    refine sq_nil ?_
    refine y1 4 ?_
    refine sl ?_
    refine sq_nil ?_
    refine ye 6 ?_
    refine sp ?_
    refine sq_nil ?_
    refine y1 5 ?_
    refine sc c4 ?_
    refine sq_nil ?_
    refine y1 7 ?_
    refine sw hbx fun H5 hb5 ho5 hl5 => ?_
    refine sq_nil ?_
    refine ye 8 ?_
    refine sp ?_
    refine sq_nil ?_
    refine y1 9 ?_
    refine sw hb5 fun H6 hb6 ho6 hl6 => ?_
    refine sq_nil ?_
    refine yd ?_
    exact then_normal ⟨0, _, by rw [rstf_eq]; rfl, .refl _, (ho12.new ho5 (Nat.le_refl _)).new ho6 (Nat.le_refl _), ⟨_, hb6, rfl, rfl, rfl, rfl⟩, ⟨_, ho6.get (ho5.get hb2 (by simp; omega)) (by simp; omega), rfl, rfl⟩⟩
    refine sl ?_
    refine sq_nil ?_
    refine y1 2 ?_
    refine sc c0 ?_
    refine sq_nil ?_
    refine ye 6 ?_
    refine sp ?_
    refine sq_nil ?_
    refine y1 5 ?_
    refine sc c4 ?_
    refine sq_nil ?_
    refine y1 7 ?_
    refine sw hbx fun H5 hb5 ho5 hl5 => ?_
    refine sq_nil ?_
    refine ye 8 ?_
    refine sp ?_
    refine sq_nil ?_
    refine y1 9 ?_
    refine sw hb5 fun H6 hb6 ho6 hl6 => ?_
    refine sq_nil ?_
    refine yd ?_
    exact then_normal ⟨0, _, by rw [rstf_eq]; rfl, .refl _, (ho12.new ho5 (Nat.le_refl _)).new ho6 (Nat.le_refl _), ⟨_, hb6, rfl, rfl, rfl, rfl⟩, ⟨_, ho6.get (ho5.get hb2 (by simp; omega)) (by simp; omega), rfl, rfl⟩⟩
    refine sl ?_
    refine sq_nil ?_
    refine y1 1 ?_
    refine sl ?_
    refine sq_nil ?_
    refine y1 2 ?_
    refine sc c0 ?_
    refine sq_nil ?_
    refine ye 6 ?_
    refine sp ?_
    refine sq_nil ?_
    refine y1 5 ?_
    refine sc c4 ?_
    refine sq_nil ?_
    refine y1 7 ?_
    refine sw hbx fun H5 hb5 ho5 hl5 => ?_
    refine sq_nil ?_
    refine ye 8 ?_
    refine sp ?_
    refine sq_nil ?_
    refine y1 9 ?_
    refine sw hb5 fun H6 hb6 ho6 hl6 => ?_
    refine sq_nil ?_
    refine yd ?_
    exact then_normal ⟨0, _, by rw [rstf_eq]; rfl, .refl _, (ho12.new ho5 (Nat.le_refl _)).new ho6 (Nat.le_refl _), ⟨_, hb6, rfl, rfl, rfl, rfl⟩, ⟨_, ho6.get (ho5.get hb2 (by simp; omega)) (by simp; omega), rfl, rfl⟩⟩
  rintro m H3 ⟨ho, ⟨b, hb, e1, e2, e3, e4⟩, ⟨b2, hr, s1, s2⟩⟩
  have hlen := ho.1
  have hidlt := (List.getElem?_eq_some_iff.1 hr).1
  refine aw_norm H.length (ebk [.i e.now, .lst t0 1 n0 g0, ints e.l0, ints e.l1, ints e.l2, .lst t4 1 n4 g4]) hb e1.symm e2.symm e3.symm (one_of e3 e4) fun H4 hb4 ho4 hl4 => ?_
  have hr4 := ho4.get hr (by simp; omega)
  (repeat' (first | (refine sq_id ?_; first | refine sq_nil ?_ | refine sm ?_ | refine sa ?_ | refine ss ?_ | refine st ?_ | refine sf ?_ | refine sp ?_ | refine sq ?_ | refine sl ?_ | refine si ?_ | refine sx ?_ | refine sy ?_) | (refine rg_id ?_; first | refine rg_fin ?_ | refine rm ?_ | refine ra ?_ | refine rs ?_ | refine rt ?_ | refine rf ?_ | refine rp ?_ | refine rq ?_ | refine rl ?_ | refine ri ?_ | refine rx ?_ | refine ry ?_) | refine aw_rseq ?_ | refine aw_seq ?_ | refine aw_region ?_ | refine aw_skip ?_ | refine ct ?_ | refine cf ?_ | refine d0s ?_ | refine d0r ?_ | refine aw_block ?_ | refine aw_exit ?_ | refine then_ret ?_ | refine then_exit ?_ | refine then_normal ?_ | refine blk_ret ?_ | refine blk_normal ?_ | refine blk_exit ?_ | refine blk_pass rfl ?_))
  refine aw_for [1, 2, 14, 15] (fun s : Nat × Nat => [(1, .ref H.length 6 0 0), (2, .ref H1.length 6 0 0), (14, .agg [ints e.l0, ints e.l1, ints e.l2]), (15, .i s.1)])
    (fun s H' => s.1 ≤ 3 ∧ (s.1 = 0 → Oth H H' none ∧ IsBox H' H.length [.i e.now, .lst t0 1 n0 g0, ints e.l0, ints e.l1, ints e.l2, .lst t4 1 n4 g4] ∧ (∃ b, H'[H1.length]? = some (some b) ∧ b.sz = 6 ∧ b.n = 1)) ∧ (s.1 = 1 → Oth H H' none ∧ IsBox H' H.length [.i e.now, .lst t0 1 n0 g0, .lst t1 1 n1 g1, ints e.l1, ints e.l2, .lst t4 1 n4 g4] ∧ (∃ b, H'[H1.length]? = some (some b) ∧ b.sz = 6 ∧ b.n = 1)) ∧ (s.1 = 2 → Oth H H' none ∧ IsBox H' H.length [.i e.now, .lst t0 1 n0 g0, .lst t1 1 n1 g1, .lst t2 1 n2 g2, ints e.l2, .lst t4 1 n4 g4] ∧ (∃ b, H'[H1.length]? = some (some b) ∧ b.sz = 6 ∧ b.n = 1)) ∧ (s.1 = 3 → Oth H H' none ∧ IsBox H' H.length [.i e.now, .lst t0 1 n0 g0, .lst t1 1 n1 g1, .lst t2 1 n2 g2, .arr s.2 1 0 e.l2.length, .lst t4 1 n4 g4] ∧ (∃ b, H'[H1.length]? = some (some b) ∧ b.sz = 6 ∧ b.n = 1) ∧ H.length + 2 ≤ s.2 ∧ H'[s.2]? = some (some (iblk e.l2)))) (fun s => 3 - s.1) (0, m) (by rw [rstf_eq]; rfl) ⟨by simp, fun _ => ⟨ho.new ho4 (Nat.le_refl _), ⟨_, hb4, rfl, rfl, rfl, rfl⟩, ⟨_, hr4, s1, s2⟩⟩, fun h => by simp at h, fun h => by simp at h, fun h => by simp at h⟩ ?_
  clear hb hr ho hb4 hr4 ho4 e4 hidlt
  rintro ⟨k, m⟩ H5 ⟨hk, i0, i1, i2, i3⟩
  simp only at hk i0 i1 i2 i3
  rcases (by omega : k = 0 ∨ k = 1 ∨ k = 2 ∨ k = 3) with rfl | rfl | rfl | rfl
  · obtain ⟨ho, ⟨b, hb, e1, e2, e3, e4⟩, ⟨b2, hr, s1, s2⟩⟩ := i0 rfl
    have hlen := ho.1
    refine aw_norm H.length (ebk [.i e.now, .lst t0 1 n0 g0, ints e.l0, ints e.l1, ints e.l2, .lst t4 1 n4 g4]) hb e1.symm e2.symm e3.symm (one_of e3 e4) fun H6 hb6 ho6 hl6 => ?_
    have hr6 := ho6.get hr (by simp; omega)
    (repeat' (first | (refine sq_id ?_; first | refine sq_nil ?_ | refine sm ?_ | refine sa ?_ | refine ss ?_ | refine st ?_ | refine sf ?_ | refine sp ?_ | refine sq ?_ | refine sl ?_ | refine si ?_ | refine sx ?_ | refine sy ?_ | refine sc c1 ?_) | (refine rg_id ?_; first | refine rg_fin ?_ | refine rm ?_ | refine ra ?_ | refine rs ?_ | refine rt ?_ | refine rf ?_ | refine rp ?_ | refine rq ?_ | refine rl ?_ | refine ri ?_ | refine rx ?_ | refine ry ?_ | refine sc c1 ?_) | refine aw_rseq ?_ | refine aw_seq ?_ | refine aw_region ?_ | refine aw_skip ?_ | refine ct ?_ | refine cf ?_ | refine d0s ?_ | refine d0r ?_ | refine aw_block ?_ | refine aw_exit ?_ | refine then_ret ?_ | refine then_exit ?_ | refine then_normal ?_ | refine blk_ret ?_ | refine blk_normal ?_ | refine blk_exit ?_ | refine blk_pass rfl ?_ | refine sc c1 ?_))
    have hb7 := hb6
    have hr7 := hr6
    have hx7 := ho.new ho6 (Nat.le_refl _)
    refine sw hb7 fun H8 hb8 ho8 hl8 => ?_
    (repeat' (first | (refine sq_id ?_; first | refine sq_nil ?_ | refine sm ?_ | refine sa ?_ | refine ss ?_ | refine st ?_ | refine sf ?_ | refine sp ?_ | refine sq ?_ | refine sl ?_ | refine si ?_ | refine sx ?_ | refine sy ?_) | (refine rg_id ?_; first | refine rg_fin ?_ | refine rm ?_ | refine ra ?_ | refine rs ?_ | refine rt ?_ | refine rf ?_ | refine rp ?_ | refine rq ?_ | refine rl ?_ | refine ri ?_ | refine rx ?_ | refine ry ?_) | refine aw_rseq ?_ | refine aw_seq ?_ | refine aw_region ?_ | refine aw_skip ?_ | refine ct ?_ | refine cf ?_ | refine d0s ?_ | refine d0r ?_ | refine aw_block ?_ | refine aw_exit ?_ | refine then_ret ?_ | refine then_exit ?_ | refine then_normal ?_ | refine blk_ret ?_ | refine blk_normal ?_ | refine blk_exit ?_ | refine blk_pass rfl ?_))
    exact ⟨(1, m), by rw [rstf_eq]; rfl, ⟨by simp, fun h => by simp at h, fun _ => ⟨hx7.new ho8 (Nat.le_refl _), ⟨_, hb8, rfl, rfl, rfl, rfl⟩, ⟨_, ho8.get hr7 (by simp; omega), s1, s2⟩⟩, fun h => by simp at h, fun h => by simp at h⟩, by simp⟩
  · obtain ⟨ho, ⟨b, hb, e1, e2, e3, e4⟩, ⟨b2, hr, s1, s2⟩⟩ := i1 rfl
    have hlen := ho.1
    refine aw_norm H.length (ebk [.i e.now, .lst t0 1 n0 g0, .lst t1 1 n1 g1, ints e.l1, ints e.l2, .lst t4 1 n4 g4]) hb e1.symm e2.symm e3.symm (one_of e3 e4) fun H6 hb6 ho6 hl6 => ?_
    have hr6 := ho6.get hr (by simp; omega)
    (repeat' (first | (refine sq_id ?_; first | refine sq_nil ?_ | refine sm ?_ | refine sa ?_ | refine ss ?_ | refine st ?_ | refine sf ?_ | refine sp ?_ | refine sq ?_ | refine sl ?_ | refine si ?_ | refine sx ?_ | refine sy ?_ | refine sc c2 ?_) | (refine rg_id ?_; first | refine rg_fin ?_ | refine rm ?_ | refine ra ?_ | refine rs ?_ | refine rt ?_ | refine rf ?_ | refine rp ?_ | refine rq ?_ | refine rl ?_ | refine ri ?_ | refine rx ?_ | refine ry ?_ | refine sc c2 ?_) | refine aw_rseq ?_ | refine aw_seq ?_ | refine aw_region ?_ | refine aw_skip ?_ | refine ct ?_ | refine cf ?_ | refine d0s ?_ | refine d0r ?_ | refine aw_block ?_ | refine aw_exit ?_ | refine then_ret ?_ | refine then_exit ?_ | refine then_normal ?_ | refine blk_ret ?_ | refine blk_normal ?_ | refine blk_exit ?_ | refine blk_pass rfl ?_ | refine sc c2 ?_))
    have hb7 := hb6
    have hr7 := hr6
    have hx7 := ho.new ho6 (Nat.le_refl _)
    refine sw hb7 fun H8 hb8 ho8 hl8 => ?_
    (repeat' (first | (refine sq_id ?_; first | refine sq_nil ?_ | refine sm ?_ | refine sa ?_ | refine ss ?_ | refine st ?_ | refine sf ?_ | refine sp ?_ | refine sq ?_ | refine sl ?_ | refine si ?_ | refine sx ?_ | refine sy ?_) | (refine rg_id ?_; first | refine rg_fin ?_ | refine rm ?_ | refine ra ?_ | refine rs ?_ | refine rt ?_ | refine rf ?_ | refine rp ?_ | refine rq ?_ | refine rl ?_ | refine ri ?_ | refine rx ?_ | refine ry ?_) | refine aw_rseq ?_ | refine aw_seq ?_ | refine aw_region ?_ | refine aw_skip ?_ | refine ct ?_ | refine cf ?_ | refine d0s ?_ | refine d0r ?_ | refine aw_block ?_ | refine aw_exit ?_ | refine then_ret ?_ | refine then_exit ?_ | refine then_normal ?_ | refine blk_ret ?_ | refine blk_normal ?_ | refine blk_exit ?_ | refine blk_pass rfl ?_))
    exact ⟨(2, m), by rw [rstf_eq]; rfl, ⟨by simp, fun h => by simp at h, fun h => by simp at h, fun _ => ⟨hx7.new ho8 (Nat.le_refl _), ⟨_, hb8, rfl, rfl, rfl, rfl⟩, ⟨_, ho8.get hr7 (by simp; omega), s1, s2⟩⟩, fun h => by simp at h⟩, by simp⟩
  · obtain ⟨ho, ⟨b, hb, e1, e2, e3, e4⟩, ⟨b2, hr, s1, s2⟩⟩ := i2 rfl
    have hlen := ho.1
    have hidlt := (List.getElem?_eq_some_iff.1 hr).1
    refine aw_norm H.length (ebk [.i e.now, .lst t0 1 n0 g0, .lst t1 1 n1 g1, .lst t2 1 n2 g2, ints e.l2, .lst t4 1 n4 g4]) hb e1.symm e2.symm e3.symm (one_of e3 e4) fun H6 hb6 ho6 hl6 => ?_
    have hr6 := ho6.get hr (by simp; omega)
    (repeat' (first | (refine sq_id ?_; first | refine sq_nil ?_ | refine sm ?_ | refine sa ?_ | refine ss ?_ | refine st ?_ | refine sf ?_ | refine sp ?_ | refine sq ?_ | refine sl ?_ | refine si ?_ | refine sx ?_ | refine sy ?_) | (refine rg_id ?_; first | refine rg_fin ?_ | refine rm ?_ | refine ra ?_ | refine rs ?_ | refine rt ?_ | refine rf ?_ | refine rp ?_ | refine rq ?_ | refine rl ?_ | refine ri ?_ | refine rx ?_ | refine ry ?_) | refine aw_rseq ?_ | refine aw_seq ?_ | refine aw_region ?_ | refine aw_skip ?_ | refine ct ?_ | refine cf ?_ | refine d0s ?_ | refine d0r ?_ | refine aw_block ?_ | refine aw_exit ?_ | refine then_ret ?_ | refine then_exit ?_ | refine then_normal ?_ | refine blk_ret ?_ | refine blk_normal ?_ | refine blk_exit ?_ | refine blk_pass rfl ?_))
    refine sq_mk (r := fun m => .arr m 1 0 e.l2.length) (b := iblk e.l2) rfl rfl rfl (clonem_s e.l2 (by omega) h0) (LeL.refl _) fun H7 hm7 ho7 hl7 => ?_
    have hb7 := ho7.get0 hb6
    have hr7 := ho7.get0 hr6
    have hx7 := (ho.new ho6 (Nat.le_refl _)).trans0 ho7
    (repeat' (first | (refine sq_id ?_; first | refine sq_nil ?_ | refine sm ?_ | refine sa ?_ | refine ss ?_ | refine st ?_ | refine sf ?_ | refine sp ?_ | refine sq ?_ | refine sl ?_ | refine si ?_ | refine sx ?_ | refine sy ?_) | (refine rg_id ?_; first | refine rg_fin ?_ | refine rm ?_ | refine ra ?_ | refine rs ?_ | refine rt ?_ | refine rf ?_ | refine rp ?_ | refine rq ?_ | refine rl ?_ | refine ri ?_ | refine rx ?_ | refine ry ?_) | refine aw_rseq ?_ | refine aw_seq ?_ | refine aw_region ?_ | refine aw_skip ?_ | refine ct ?_ | refine cf ?_ | refine d0s ?_ | refine d0r ?_ | refine aw_block ?_ | refine aw_exit ?_ | refine then_ret ?_ | refine then_exit ?_ | refine then_normal ?_ | refine blk_ret ?_ | refine blk_normal ?_ | refine blk_exit ?_ | refine blk_pass rfl ?_))
    refine sw hb7 fun H8 hb8 ho8 hl8 => ?_
    (repeat' (first | (refine sq_id ?_; first | refine sq_nil ?_ | refine sm ?_ | refine sa ?_ | refine ss ?_ | refine st ?_ | refine sf ?_ | refine sp ?_ | refine sq ?_ | refine sl ?_ | refine si ?_ | refine sx ?_ | refine sy ?_) | (refine rg_id ?_; first | refine rg_fin ?_ | refine rm ?_ | refine ra ?_ | refine rs ?_ | refine rt ?_ | refine rf ?_ | refine rp ?_ | refine rq ?_ | refine rl ?_ | refine ri ?_ | refine rx ?_ | refine ry ?_) | refine aw_rseq ?_ | refine aw_seq ?_ | refine aw_region ?_ | refine aw_skip ?_ | refine ct ?_ | refine cf ?_ | refine d0s ?_ | refine d0r ?_ | refine aw_block ?_ | refine aw_exit ?_ | refine then_ret ?_ | refine then_exit ?_ | refine then_normal ?_ | refine blk_ret ?_ | refine blk_normal ?_ | refine blk_exit ?_ | refine blk_pass rfl ?_))
    exact ⟨(3, H6.length), by rw [rstf_eq]; rfl, ⟨by simp, fun h => by simp at h, fun h => by simp at h, fun h => by simp at h, fun _ => ⟨hx7.new ho8 (Nat.le_refl _), ⟨_, hb8, rfl, rfl, rfl, rfl⟩, ⟨_, ho8.get hr7 (by simp; omega), s1, s2⟩, by omega, ho8.get hm7 (by simp; omega)⟩⟩, by simp⟩
  · obtain ⟨ho, ⟨b, hb, e1, e2, e3, e4⟩, ⟨b2, hr, s1, s2⟩, hm0, hm⟩ := i3 rfl
    have hlen := ho.1
    refine aw_norm H.length (ebk [.i e.now, .lst t0 1 n0 g0, .lst t1 1 n1 g1, .lst t2 1 n2 g2, .arr m 1 0 e.l2.length, .lst t4 1 n4 g4]) hb e1.symm e2.symm e3.symm (one_of e3 e4) fun H6 hb6 ho6 hl6 => ?_
    have hr6 := ho6.get hr (by simp; omega)
    (repeat' (first | (refine sq_id ?_; first | refine sq_nil ?_ | refine sm ?_ | refine sa ?_ | refine ss ?_ | refine st ?_ | refine sf ?_ | refine sp ?_ | refine sq ?_ | refine sl ?_ | refine si ?_ | refine sx ?_ | refine sy ?_) | (refine rg_id ?_; first | refine rg_fin ?_ | refine rm ?_ | refine ra ?_ | refine rs ?_ | refine rt ?_ | refine rf ?_ | refine rp ?_ | refine rq ?_ | refine rl ?_ | refine ri ?_ | refine rx ?_ | refine ry ?_) | refine aw_rseq ?_ | refine aw_seq ?_ | refine aw_region ?_ | refine aw_skip ?_ | refine ct ?_ | refine cf ?_ | refine d0s ?_ | refine d0r ?_ | refine aw_block ?_ | refine aw_exit ?_ | refine then_ret ?_ | refine then_exit ?_ | refine then_normal ?_ | refine blk_ret ?_ | refine blk_normal ?_ | refine blk_exit ?_ | refine blk_pass rfl ?_))
    refine sq_storek TYok rfl rfl rfl hr6 s1 (by omega) rfl rfl rfl (Nat.le_of_ble_eq_true rfl) fun H7 hb7 ho7 hl7 => ?_
    (repeat' (first | (refine sq_id ?_; first | refine sq_nil ?_ | refine sm ?_ | refine sa ?_ | refine ss ?_ | refine st ?_ | refine sf ?_ | refine sp ?_ | refine sq ?_ | refine sl ?_ | refine si ?_ | refine sx ?_ | refine sy ?_) | (refine rg_id ?_; first | refine rg_fin ?_ | refine rm ?_ | refine ra ?_ | refine rs ?_ | refine rt ?_ | refine rf ?_ | refine rp ?_ | refine rq ?_ | refine rl ?_ | refine ri ?_ | refine rx ?_ | refine ry ?_) | refine aw_rseq ?_ | refine aw_seq ?_ | refine aw_region ?_ | refine aw_skip ?_ | refine ct ?_ | refine cf ?_ | refine d0s ?_ | refine d0r ?_ | refine aw_block ?_ | refine aw_exit ?_ | refine then_ret ?_ | refine then_exit ?_ | refine then_normal ?_ | refine blk_ret ?_ | refine blk_normal ?_ | refine blk_exit ?_ | refine blk_pass rfl ?_ | refine aw_dec rfl (fun _ => ?_) (fun _ => ?_)))
    ((try refine aw_ret ?_); (repeat (first | refine then_ret ?_ | refine blk_ret ?_)))
    exact ⟨True.intro, _, .cell _ _ _ _ _ _ _ _ _ rfl hb7 s1 (by show 0 < b2.n; omega) rfl .nil, (ho.new ho6 (Nat.le_refl _)).new ho7 (by omega), m, rfl, by omega, ho7.get (ho6.get hm (by simp; omega)) (by simp; omega)⟩
set_option maxHeartbeats 4000000 in
theorem ownR_s (e : Ep) (hbd : Bd e) {t0 : Bool} {n0 : Nat} {g0 : Nat → List AV} (c0 : PS Try.prog 48 [ints e.pins] (.lst t0 1 n0 g0)) {t1 : Bool} {n1 : Nat} {g1 : Nat → List AV} (c1 : PS Try.prog 48 [ints e.l0] (.lst t1 1 n1 g1)) {t2 : Bool} {n2 : Nat} {g2 : Nat → List AV} (c2 : PS Try.prog 48 [ints e.l1] (.lst t2 1 n2 g2)) {t3 : Bool} {n3 : Nat} {g3 : Nat → List AV} (c3 : PS Try.prog 48 [ints e.l2] (.lst t3 1 n3 g3)) (h0 : 0 < e.free.length) (H : AH) : SC true Try.prog 50 [epv e] H (fun r H' => Oth H H' none ∧ ∃ m : Nat, r = .agg [.i e.now, .lst t0 1 n0 g0, .lst t1 1 n1 g1, .lst t2 1 n2 g2, .lst t3 1 n3 g3, .arr m 1 0 e.free.length] ∧ H.length ≤ m ∧ H'[m]? = some (some (iblk e.free))) := by
  obtain ⟨hb1, hb2⟩ := hbd
  refine sc_in TYok Try.func50 (by kernel_rfl) Try.ntmps50 rfl rfl rfl ?_
  refine aw_seq ?_
  refine aw_region ?_
  refine nw fun H1 hb1 ho1 hl1 => ?_
  refine nw fun H2 hb2 ho2 hl2 => ?_
  refine sq_nil ?_
  have hbx := ho2.get0 hb1
  have ho12 := ho1.trans0 ho2
  have hl12 : H2.length = H.length + 2 := by omega
  refine aw_seq ?_
  refine aw_mid [1, 2] (fun _ : Nat => [(1, .ref H.length 6 0 0), (2, .ref H1.length 6 0 0)]) (fun m H' => Oth H H' none ∧ IsBox H' H.length [.i e.now, .lst t0 1 n0 g0, ints e.l0, ints e.l1, ints e.l2, .arr m 1 0 e.free.length] ∧ (∃ b, H'[H1.length]? = some (some b) ∧ b.sz = 6 ∧ b.n = 1) ∧ H.length + 2 ≤ m ∧ H'[m]? = some (some (iblk e.free))) ?_ ?_
  ·
    refine yall 10 ?_
    refine ye 0 ?_
    refine sp ?_
    refine sq_nil ?_
    refine ye 3 ?_
    refine sp ?_
    refine sq_nil ?_
    refine y2 1 4 ?_ ?_
    refine sl ?_
    refine sq_nil ?_
    refine y2 2 4 ?_ ?_
    refine sc c0 ?_
    refine sq_nil ?_
    refine y1 4 ?_
    refine sl ?_
    refine sq_nil ?_
    refine ye 6 ?_
    refine sp ?_
    refine sq_nil ?_
    refine y1 5 ?_
    refine sq_mk (r := fun m => .arr m 1 0 e.free.length) (b := iblk e.free) rfl rfl rfl (clonem_s e.free (by omega) h0) (LeL.refl _) fun H3 hm3 ho3 hl3 => ?_
    have hbx := ho3.get0 hbx
    refine sq_nil ?_
    refine y1 7 ?_
    refine sw hbx fun H5 hb5 ho5 hl5 => ?_
    refine sq_nil ?_
    refine ye 8 ?_
    refine sp ?_
    refine sq_nil ?_
    refine y1 9 ?_
    refine sw hb5 fun H6 hb6 ho6 hl6 => ?_
    refine sq_nil ?_
    refine yd ?_
    exact then_normal ⟨H2.length, _, by rw [rstf_eq]; rfl, .refl _, ((ho12.trans0 ho3).new ho5 (Nat.le_refl _)).new ho6 (Nat.le_refl _), ⟨_, hb6, rfl, rfl, rfl, rfl⟩, ⟨_, ho6.get (ho5.get (ho3.get0 hb2) (by simp; omega)) (by simp; omega), rfl, rfl⟩, by omega, ho6.get (ho5.get hm3 (by simp; omega)) (by simp; omega)⟩
    refine sl ?_
    refine sq_nil ?_
    refine y1 2 ?_
    refine sc c0 ?_
    refine sq_nil ?_
    refine ye 6 ?_
    refine sp ?_
    refine sq_nil ?_
    refine y1 5 ?_
    refine sq_mk (r := fun m => .arr m 1 0 e.free.length) (b := iblk e.free) rfl rfl rfl (clonem_s e.free (by omega) h0) (LeL.refl _) fun H3 hm3 ho3 hl3 => ?_
    have hbx := ho3.get0 hbx
    refine sq_nil ?_
    refine y1 7 ?_
    refine sw hbx fun H5 hb5 ho5 hl5 => ?_
    refine sq_nil ?_
    refine ye 8 ?_
    refine sp ?_
    refine sq_nil ?_
    refine y1 9 ?_
    refine sw hb5 fun H6 hb6 ho6 hl6 => ?_
    refine sq_nil ?_
    refine yd ?_
    exact then_normal ⟨H2.length, _, by rw [rstf_eq]; rfl, .refl _, ((ho12.trans0 ho3).new ho5 (Nat.le_refl _)).new ho6 (Nat.le_refl _), ⟨_, hb6, rfl, rfl, rfl, rfl⟩, ⟨_, ho6.get (ho5.get (ho3.get0 hb2) (by simp; omega)) (by simp; omega), rfl, rfl⟩, by omega, ho6.get (ho5.get hm3 (by simp; omega)) (by simp; omega)⟩
    refine sl ?_
    refine sq_nil ?_
    refine y1 1 ?_
    refine sl ?_
    refine sq_nil ?_
    refine y1 2 ?_
    refine sc c0 ?_
    refine sq_nil ?_
    refine ye 6 ?_
    refine sp ?_
    refine sq_nil ?_
    refine y1 5 ?_
    refine sq_mk (r := fun m => .arr m 1 0 e.free.length) (b := iblk e.free) rfl rfl rfl (clonem_s e.free (by omega) h0) (LeL.refl _) fun H3 hm3 ho3 hl3 => ?_
    have hbx := ho3.get0 hbx
    refine sq_nil ?_
    refine y1 7 ?_
    refine sw hbx fun H5 hb5 ho5 hl5 => ?_
    refine sq_nil ?_
    refine ye 8 ?_
    refine sp ?_
    refine sq_nil ?_
    refine y1 9 ?_
    refine sw hb5 fun H6 hb6 ho6 hl6 => ?_
    refine sq_nil ?_
    refine yd ?_
    exact then_normal ⟨H2.length, _, by rw [rstf_eq]; rfl, .refl _, ((ho12.trans0 ho3).new ho5 (Nat.le_refl _)).new ho6 (Nat.le_refl _), ⟨_, hb6, rfl, rfl, rfl, rfl⟩, ⟨_, ho6.get (ho5.get (ho3.get0 hb2) (by simp; omega)) (by simp; omega), rfl, rfl⟩, by omega, ho6.get (ho5.get hm3 (by simp; omega)) (by simp; omega)⟩
  rintro m H3 ⟨ho, ⟨b, hb, e1, e2, e3, e4⟩, ⟨b2, hr, s1, s2⟩, hm0, hm⟩
  have hlen := ho.1
  have hidlt := (List.getElem?_eq_some_iff.1 hr).1
  refine aw_norm H.length (ebk [.i e.now, .lst t0 1 n0 g0, ints e.l0, ints e.l1, ints e.l2, .arr m 1 0 e.free.length]) hb e1.symm e2.symm e3.symm (one_of e3 e4) fun H4 hb4 ho4 hl4 => ?_
  have hr4 := ho4.get hr (by simp; omega)
  have hm4 := ho4.get hm (by simp; omega)
  (repeat' (first | (refine sq_id ?_; first | refine sq_nil ?_ | refine sm ?_ | refine sa ?_ | refine ss ?_ | refine st ?_ | refine sf ?_ | refine sp ?_ | refine sq ?_ | refine sl ?_ | refine si ?_ | refine sx ?_ | refine sy ?_) | (refine rg_id ?_; first | refine rg_fin ?_ | refine rm ?_ | refine ra ?_ | refine rs ?_ | refine rt ?_ | refine rf ?_ | refine rp ?_ | refine rq ?_ | refine rl ?_ | refine ri ?_ | refine rx ?_ | refine ry ?_) | refine aw_rseq ?_ | refine aw_seq ?_ | refine aw_region ?_ | refine aw_skip ?_ | refine ct ?_ | refine cf ?_ | refine d0s ?_ | refine d0r ?_ | refine aw_block ?_ | refine aw_exit ?_ | refine then_ret ?_ | refine then_exit ?_ | refine then_normal ?_ | refine blk_ret ?_ | refine blk_normal ?_ | refine blk_exit ?_ | refine blk_pass rfl ?_))
  refine aw_for [1, 2, 14, 15] (fun s : Nat × Nat => [(1, .ref H.length 6 0 0), (2, .ref H1.length 6 0 0), (14, .agg [ints e.l0, ints e.l1, ints e.l2]), (15, .i s.1)])
    (fun s H' => s.1 ≤ 3 ∧ (s.1 = 0 → Oth H H' none ∧ IsBox H' H.length [.i e.now, .lst t0 1 n0 g0, ints e.l0, ints e.l1, ints e.l2, .arr s.2 1 0 e.free.length] ∧ (∃ b, H'[H1.length]? = some (some b) ∧ b.sz = 6 ∧ b.n = 1) ∧ H.length + 2 ≤ s.2 ∧ H'[s.2]? = some (some (iblk e.free))) ∧ (s.1 = 1 → Oth H H' none ∧ IsBox H' H.length [.i e.now, .lst t0 1 n0 g0, .lst t1 1 n1 g1, ints e.l1, ints e.l2, .arr s.2 1 0 e.free.length] ∧ (∃ b, H'[H1.length]? = some (some b) ∧ b.sz = 6 ∧ b.n = 1) ∧ H.length + 2 ≤ s.2 ∧ H'[s.2]? = some (some (iblk e.free))) ∧ (s.1 = 2 → Oth H H' none ∧ IsBox H' H.length [.i e.now, .lst t0 1 n0 g0, .lst t1 1 n1 g1, .lst t2 1 n2 g2, ints e.l2, .arr s.2 1 0 e.free.length] ∧ (∃ b, H'[H1.length]? = some (some b) ∧ b.sz = 6 ∧ b.n = 1) ∧ H.length + 2 ≤ s.2 ∧ H'[s.2]? = some (some (iblk e.free))) ∧ (s.1 = 3 → Oth H H' none ∧ IsBox H' H.length [.i e.now, .lst t0 1 n0 g0, .lst t1 1 n1 g1, .lst t2 1 n2 g2, .lst t3 1 n3 g3, .arr s.2 1 0 e.free.length] ∧ (∃ b, H'[H1.length]? = some (some b) ∧ b.sz = 6 ∧ b.n = 1) ∧ H.length + 2 ≤ s.2 ∧ H'[s.2]? = some (some (iblk e.free)))) (fun s => 3 - s.1) (0, m) (by rw [rstf_eq]; rfl) ⟨by simp, fun _ => ⟨ho.new ho4 (Nat.le_refl _), ⟨_, hb4, rfl, rfl, rfl, rfl⟩, ⟨_, hr4, s1, s2⟩, hm0, hm4⟩, fun h => by simp at h, fun h => by simp at h, fun h => by simp at h⟩ ?_
  clear hb hr ho hm0 hm4 hm hb4 hr4 ho4 e4 hidlt
  rintro ⟨k, m⟩ H5 ⟨hk, i0, i1, i2, i3⟩
  simp only at hk i0 i1 i2 i3
  rcases (by omega : k = 0 ∨ k = 1 ∨ k = 2 ∨ k = 3) with rfl | rfl | rfl | rfl
  · obtain ⟨ho, ⟨b, hb, e1, e2, e3, e4⟩, ⟨b2, hr, s1, s2⟩, hm0, hm⟩ := i0 rfl
    have hlen := ho.1
    refine aw_norm H.length (ebk [.i e.now, .lst t0 1 n0 g0, ints e.l0, ints e.l1, ints e.l2, .arr m 1 0 e.free.length]) hb e1.symm e2.symm e3.symm (one_of e3 e4) fun H6 hb6 ho6 hl6 => ?_
    have hr6 := ho6.get hr (by simp; omega)
    have hm6 := ho6.get hm (by simp; omega)
    (repeat' (first | (refine sq_id ?_; first | refine sq_nil ?_ | refine sm ?_ | refine sa ?_ | refine ss ?_ | refine st ?_ | refine sf ?_ | refine sp ?_ | refine sq ?_ | refine sl ?_ | refine si ?_ | refine sx ?_ | refine sy ?_ | refine sc c1 ?_) | (refine rg_id ?_; first | refine rg_fin ?_ | refine rm ?_ | refine ra ?_ | refine rs ?_ | refine rt ?_ | refine rf ?_ | refine rp ?_ | refine rq ?_ | refine rl ?_ | refine ri ?_ | refine rx ?_ | refine ry ?_ | refine sc c1 ?_) | refine aw_rseq ?_ | refine aw_seq ?_ | refine aw_region ?_ | refine aw_skip ?_ | refine ct ?_ | refine cf ?_ | refine d0s ?_ | refine d0r ?_ | refine aw_block ?_ | refine aw_exit ?_ | refine then_ret ?_ | refine then_exit ?_ | refine then_normal ?_ | refine blk_ret ?_ | refine blk_normal ?_ | refine blk_exit ?_ | refine blk_pass rfl ?_ | refine sc c1 ?_))
    have hb7 := hb6
    have hr7 := hr6
    have hm7 := hm6
    have hx7 := ho.new ho6 (Nat.le_refl _)
    refine sw hb7 fun H8 hb8 ho8 hl8 => ?_
    (repeat' (first | (refine sq_id ?_; first | refine sq_nil ?_ | refine sm ?_ | refine sa ?_ | refine ss ?_ | refine st ?_ | refine sf ?_ | refine sp ?_ | refine sq ?_ | refine sl ?_ | refine si ?_ | refine sx ?_ | refine sy ?_) | (refine rg_id ?_; first | refine rg_fin ?_ | refine rm ?_ | refine ra ?_ | refine rs ?_ | refine rt ?_ | refine rf ?_ | refine rp ?_ | refine rq ?_ | refine rl ?_ | refine ri ?_ | refine rx ?_ | refine ry ?_) | refine aw_rseq ?_ | refine aw_seq ?_ | refine aw_region ?_ | refine aw_skip ?_ | refine ct ?_ | refine cf ?_ | refine d0s ?_ | refine d0r ?_ | refine aw_block ?_ | refine aw_exit ?_ | refine then_ret ?_ | refine then_exit ?_ | refine then_normal ?_ | refine blk_ret ?_ | refine blk_normal ?_ | refine blk_exit ?_ | refine blk_pass rfl ?_))
    exact ⟨(1, m), by rw [rstf_eq]; rfl, ⟨by simp, fun h => by simp at h, fun _ => ⟨hx7.new ho8 (Nat.le_refl _), ⟨_, hb8, rfl, rfl, rfl, rfl⟩, ⟨_, ho8.get hr7 (by simp; omega), s1, s2⟩, by omega, ho8.get hm7 (by simp; omega)⟩, fun h => by simp at h, fun h => by simp at h⟩, by simp⟩
  · obtain ⟨ho, ⟨b, hb, e1, e2, e3, e4⟩, ⟨b2, hr, s1, s2⟩, hm0, hm⟩ := i1 rfl
    have hlen := ho.1
    refine aw_norm H.length (ebk [.i e.now, .lst t0 1 n0 g0, .lst t1 1 n1 g1, ints e.l1, ints e.l2, .arr m 1 0 e.free.length]) hb e1.symm e2.symm e3.symm (one_of e3 e4) fun H6 hb6 ho6 hl6 => ?_
    have hr6 := ho6.get hr (by simp; omega)
    have hm6 := ho6.get hm (by simp; omega)
    (repeat' (first | (refine sq_id ?_; first | refine sq_nil ?_ | refine sm ?_ | refine sa ?_ | refine ss ?_ | refine st ?_ | refine sf ?_ | refine sp ?_ | refine sq ?_ | refine sl ?_ | refine si ?_ | refine sx ?_ | refine sy ?_ | refine sc c2 ?_) | (refine rg_id ?_; first | refine rg_fin ?_ | refine rm ?_ | refine ra ?_ | refine rs ?_ | refine rt ?_ | refine rf ?_ | refine rp ?_ | refine rq ?_ | refine rl ?_ | refine ri ?_ | refine rx ?_ | refine ry ?_ | refine sc c2 ?_) | refine aw_rseq ?_ | refine aw_seq ?_ | refine aw_region ?_ | refine aw_skip ?_ | refine ct ?_ | refine cf ?_ | refine d0s ?_ | refine d0r ?_ | refine aw_block ?_ | refine aw_exit ?_ | refine then_ret ?_ | refine then_exit ?_ | refine then_normal ?_ | refine blk_ret ?_ | refine blk_normal ?_ | refine blk_exit ?_ | refine blk_pass rfl ?_ | refine sc c2 ?_))
    have hb7 := hb6
    have hr7 := hr6
    have hm7 := hm6
    have hx7 := ho.new ho6 (Nat.le_refl _)
    refine sw hb7 fun H8 hb8 ho8 hl8 => ?_
    (repeat' (first | (refine sq_id ?_; first | refine sq_nil ?_ | refine sm ?_ | refine sa ?_ | refine ss ?_ | refine st ?_ | refine sf ?_ | refine sp ?_ | refine sq ?_ | refine sl ?_ | refine si ?_ | refine sx ?_ | refine sy ?_) | (refine rg_id ?_; first | refine rg_fin ?_ | refine rm ?_ | refine ra ?_ | refine rs ?_ | refine rt ?_ | refine rf ?_ | refine rp ?_ | refine rq ?_ | refine rl ?_ | refine ri ?_ | refine rx ?_ | refine ry ?_) | refine aw_rseq ?_ | refine aw_seq ?_ | refine aw_region ?_ | refine aw_skip ?_ | refine ct ?_ | refine cf ?_ | refine d0s ?_ | refine d0r ?_ | refine aw_block ?_ | refine aw_exit ?_ | refine then_ret ?_ | refine then_exit ?_ | refine then_normal ?_ | refine blk_ret ?_ | refine blk_normal ?_ | refine blk_exit ?_ | refine blk_pass rfl ?_))
    exact ⟨(2, m), by rw [rstf_eq]; rfl, ⟨by simp, fun h => by simp at h, fun h => by simp at h, fun _ => ⟨hx7.new ho8 (Nat.le_refl _), ⟨_, hb8, rfl, rfl, rfl, rfl⟩, ⟨_, ho8.get hr7 (by simp; omega), s1, s2⟩, by omega, ho8.get hm7 (by simp; omega)⟩, fun h => by simp at h⟩, by simp⟩
  · obtain ⟨ho, ⟨b, hb, e1, e2, e3, e4⟩, ⟨b2, hr, s1, s2⟩, hm0, hm⟩ := i2 rfl
    have hlen := ho.1
    refine aw_norm H.length (ebk [.i e.now, .lst t0 1 n0 g0, .lst t1 1 n1 g1, .lst t2 1 n2 g2, ints e.l2, .arr m 1 0 e.free.length]) hb e1.symm e2.symm e3.symm (one_of e3 e4) fun H6 hb6 ho6 hl6 => ?_
    have hr6 := ho6.get hr (by simp; omega)
    have hm6 := ho6.get hm (by simp; omega)
    (repeat' (first | (refine sq_id ?_; first | refine sq_nil ?_ | refine sm ?_ | refine sa ?_ | refine ss ?_ | refine st ?_ | refine sf ?_ | refine sp ?_ | refine sq ?_ | refine sl ?_ | refine si ?_ | refine sx ?_ | refine sy ?_ | refine sc c3 ?_) | (refine rg_id ?_; first | refine rg_fin ?_ | refine rm ?_ | refine ra ?_ | refine rs ?_ | refine rt ?_ | refine rf ?_ | refine rp ?_ | refine rq ?_ | refine rl ?_ | refine ri ?_ | refine rx ?_ | refine ry ?_ | refine sc c3 ?_) | refine aw_rseq ?_ | refine aw_seq ?_ | refine aw_region ?_ | refine aw_skip ?_ | refine ct ?_ | refine cf ?_ | refine d0s ?_ | refine d0r ?_ | refine aw_block ?_ | refine aw_exit ?_ | refine then_ret ?_ | refine then_exit ?_ | refine then_normal ?_ | refine blk_ret ?_ | refine blk_normal ?_ | refine blk_exit ?_ | refine blk_pass rfl ?_ | refine sc c3 ?_))
    have hb7 := hb6
    have hr7 := hr6
    have hm7 := hm6
    have hx7 := ho.new ho6 (Nat.le_refl _)
    refine sw hb7 fun H8 hb8 ho8 hl8 => ?_
    (repeat' (first | (refine sq_id ?_; first | refine sq_nil ?_ | refine sm ?_ | refine sa ?_ | refine ss ?_ | refine st ?_ | refine sf ?_ | refine sp ?_ | refine sq ?_ | refine sl ?_ | refine si ?_ | refine sx ?_ | refine sy ?_) | (refine rg_id ?_; first | refine rg_fin ?_ | refine rm ?_ | refine ra ?_ | refine rs ?_ | refine rt ?_ | refine rf ?_ | refine rp ?_ | refine rq ?_ | refine rl ?_ | refine ri ?_ | refine rx ?_ | refine ry ?_) | refine aw_rseq ?_ | refine aw_seq ?_ | refine aw_region ?_ | refine aw_skip ?_ | refine ct ?_ | refine cf ?_ | refine d0s ?_ | refine d0r ?_ | refine aw_block ?_ | refine aw_exit ?_ | refine then_ret ?_ | refine then_exit ?_ | refine then_normal ?_ | refine blk_ret ?_ | refine blk_normal ?_ | refine blk_exit ?_ | refine blk_pass rfl ?_))
    exact ⟨(3, m), by rw [rstf_eq]; rfl, ⟨by simp, fun h => by simp at h, fun h => by simp at h, fun h => by simp at h, fun _ => ⟨hx7.new ho8 (Nat.le_refl _), ⟨_, hb8, rfl, rfl, rfl, rfl⟩, ⟨_, ho8.get hr7 (by simp; omega), s1, s2⟩, by omega, ho8.get hm7 (by simp; omega)⟩⟩, by simp⟩
  · obtain ⟨ho, ⟨b, hb, e1, e2, e3, e4⟩, ⟨b2, hr, s1, s2⟩, hm0, hm⟩ := i3 rfl
    have hlen := ho.1
    refine aw_norm H.length (ebk [.i e.now, .lst t0 1 n0 g0, .lst t1 1 n1 g1, .lst t2 1 n2 g2, .lst t3 1 n3 g3, .arr m 1 0 e.free.length]) hb e1.symm e2.symm e3.symm (one_of e3 e4) fun H6 hb6 ho6 hl6 => ?_
    have hr6 := ho6.get hr (by simp; omega)
    (repeat' (first | (refine sq_id ?_; first | refine sq_nil ?_ | refine sm ?_ | refine sa ?_ | refine ss ?_ | refine st ?_ | refine sf ?_ | refine sp ?_ | refine sq ?_ | refine sl ?_ | refine si ?_ | refine sx ?_ | refine sy ?_) | (refine rg_id ?_; first | refine rg_fin ?_ | refine rm ?_ | refine ra ?_ | refine rs ?_ | refine rt ?_ | refine rf ?_ | refine rp ?_ | refine rq ?_ | refine rl ?_ | refine ri ?_ | refine rx ?_ | refine ry ?_) | refine aw_rseq ?_ | refine aw_seq ?_ | refine aw_region ?_ | refine aw_skip ?_ | refine ct ?_ | refine cf ?_ | refine d0s ?_ | refine d0r ?_ | refine aw_block ?_ | refine aw_exit ?_ | refine then_ret ?_ | refine then_exit ?_ | refine then_normal ?_ | refine blk_ret ?_ | refine blk_normal ?_ | refine blk_exit ?_ | refine blk_pass rfl ?_))
    refine sq_storek TYok rfl rfl rfl hr6 s1 (by omega) rfl rfl rfl (Nat.le_of_ble_eq_true rfl) fun H7 hb7 ho7 hl7 => ?_
    (repeat' (first | (refine sq_id ?_; first | refine sq_nil ?_ | refine sm ?_ | refine sa ?_ | refine ss ?_ | refine st ?_ | refine sf ?_ | refine sp ?_ | refine sq ?_ | refine sl ?_ | refine si ?_ | refine sx ?_ | refine sy ?_) | (refine rg_id ?_; first | refine rg_fin ?_ | refine rm ?_ | refine ra ?_ | refine rs ?_ | refine rt ?_ | refine rf ?_ | refine rp ?_ | refine rq ?_ | refine rl ?_ | refine ri ?_ | refine rx ?_ | refine ry ?_) | refine aw_rseq ?_ | refine aw_seq ?_ | refine aw_region ?_ | refine aw_skip ?_ | refine ct ?_ | refine cf ?_ | refine d0s ?_ | refine d0r ?_ | refine aw_block ?_ | refine aw_exit ?_ | refine then_ret ?_ | refine then_exit ?_ | refine then_normal ?_ | refine blk_ret ?_ | refine blk_normal ?_ | refine blk_exit ?_ | refine blk_pass rfl ?_ | refine aw_dec rfl (fun _ => ?_) (fun _ => ?_)))
    ((try refine aw_ret ?_); (repeat (first | refine then_ret ?_ | refine blk_ret ?_)))
    exact ⟨True.intro, _, .cell _ _ _ _ _ _ _ _ _ rfl hb7 s1 (by show 0 < b2.n; omega) rfl .nil, (ho.new ho6 (Nat.le_refl _)).new ho7 (by omega), m, rfl, by omega, ho7.get (ho6.get hm (by simp; omega)) (by simp; omega)⟩
end Go.Proofs.Ytmhepmocnnlhnaa.Ab
