/- epoch.Take. -/
import Derived.Test.YtmhepmocnnlhnaaQN
namespace Go.Proofs.Ytmhepmocnnlhnaa.Ab
open Go Go.RowKit
def takeE (e : Ep) : Ep × Int × Bool × Int := if RightE e then (if e.free = [] then (e, 0, false, 0) else ({ e with free := e.free.drop 1 }, e.free.getD 0 0, true, 0)) else (e, 0, false, 1)
abbrev tres (r : Ep × Int × Bool × Int) : AV := .tup [epv r.1, .i r.2.1, .b r.2.2.1, .i r.2.2.2]
theorem cl_tres (r : Ep × Int × Bool × Int) : Cl (tres r) := .tup _ fun x hx => by
  simp only [List.mem_cons, List.not_mem_nil, or_false] at hx
  rcases hx with rfl | rfl | rfl | rfl
  · exact cl_epv _
  all_goals exact .p _
/-- what the closure does -/
def TakePost (e : Ep) (H : AH) (id bis bn : Nat) (r : AV) (H' : AH) : Prop :=
  r = .i 0 ∧ ∃ vf, IsBox H' id [.i e.now, ints e.pins, ints e.l0, ints e.l1, ints e.l2, vf] ∧ Le vf (ints (e.free.drop 1)) ∧ (e.free = [] → vf = ints e.free) ∧ IsOne H' bis 4 (.b (decide (e.free ≠ []))) ∧ IsOne H' bn 3 (.i (e.free.getD 0 0)) ∧ H'.length = H.length ∧ ∀ x, x < H.length → x ≠ id → x ≠ bis → x ≠ bn → H'[x]? = H[x]?
theorem le_tail1 (fs : List Int) (m : Nat) (hm : m = (fs.drop 1).length) : Le (.lst false 1 m fun i => [AV.i (fs.getD ((1 : Int).toNat + i) 0)]) (ints (fs.drop 1)) :=
  le_lst' hm (fun h => h) fun i hi => by
    rw [List.getD_eq_getElem?_getD, List.getD_eq_getElem?_getD, List.getElem?_drop]; rfl
set_option maxHeartbeats 4000000 in
theorem take1_s (e : Ep) (hbd : Bd e) (H : AH) (id bis bn : Nat) (hb : H[id]? = some (some (ebk (epc e)))) (hs : H[bis]? = some (some (bbox false))) (hn : H[bn]? = some (some (ibox 0))) (n1 : bis ≠ id) (n2 : bn ≠ id) (n3 : bis ≠ bn) :
    SC true Try.prog 43 [.ref id 6 0 0, .ref bis 1 0 0, .ref bn 1 0 0] H (TakePost e H id bis bn) := by
  obtain ⟨hb1, hb2⟩ := hbd
  have il := (List.getElem?_eq_some_iff.1 hb).1
  have sl' := (List.getElem?_eq_some_iff.1 hs).1
  have nl := (List.getElem?_eq_some_iff.1 hn).1
  refine sc_in TYok Try.func43 (by kernel_rfl) Try.ntmps43 rfl rfl rfl ?_
  rcases Nat.eq_zero_or_pos e.free.length with h0 | h0
  · have hf := List.eq_nil_of_length_eq_zero h0
    (repeat' (first | (refine sq_id ?_; first | refine sq_nil ?_ | refine sm ?_ | refine sa ?_ | refine ss ?_ | refine st ?_ | refine sf ?_ | refine sp ?_ | refine sq ?_ | refine sl ?_ | refine si ?_ | refine sx ?_ | refine sy ?_) | (refine rg_id ?_; first | refine rg_fin ?_ | refine rm ?_ | refine ra ?_ | refine rs ?_ | refine rt ?_ | refine rf ?_ | refine rp ?_ | refine rq ?_ | refine rl ?_ | refine ri ?_ | refine rx ?_ | refine ry ?_) | refine aw_rseq ?_ | refine aw_seq ?_ | refine aw_region ?_ | refine aw_skip ?_ | refine ct ?_ | refine cf ?_ | refine d0s ?_ | refine d0r ?_ | refine aw_block ?_ | refine aw_exit ?_ | refine then_ret ?_ | refine then_exit ?_ | refine then_normal ?_ | refine blk_ret ?_ | refine blk_normal ?_ | refine blk_exit ?_ | refine blk_pass rfl ?_))
    refine sw hs fun H1 hs1 ho1 hl1 => ?_
    have hb1' := ho1.get hb (by simp; omega)
    have hn1 := ho1.get hn (by simp; omega)
    (repeat' (first | (refine sq_id ?_; first | refine sq_nil ?_ | refine sm ?_ | refine sa ?_ | refine ss ?_ | refine st ?_ | refine sf ?_ | refine sp ?_ | refine sq ?_ | refine sl ?_ | refine si ?_ | refine sx ?_ | refine sy ?_) | (refine rg_id ?_; first | refine rg_fin ?_ | refine rm ?_ | refine ra ?_ | refine rs ?_ | refine rt ?_ | refine rf ?_ | refine rp ?_ | refine rq ?_ | refine rl ?_ | refine ri ?_ | refine rx ?_ | refine ry ?_) | refine aw_rseq ?_ | refine aw_seq ?_ | refine aw_region ?_ | refine aw_skip ?_ | refine ct ?_ | refine cf ?_ | refine d0s ?_ | refine d0r ?_ | refine aw_block ?_ | refine aw_exit ?_ | refine then_ret ?_ | refine then_exit ?_ | refine then_normal ?_ | refine blk_ret ?_ | refine blk_normal ?_ | refine blk_exit ?_ | refine blk_pass rfl ?_))
    ((try refine aw_ret ?_); (repeat (first | refine then_ret ?_ | refine blk_ret ?_)); refine fin_t True.intro rfl rfl ?_)
    exact ⟨rfl, ints e.free, ⟨_, hb1', rfl, rfl, rfl, rfl⟩, by rw [hf]; exact Le.refl _, fun _ => rfl, ⟨_, hs1, rfl, rfl, rfl, by rw [hf]; rfl⟩, ⟨_, hn1, rfl, rfl, rfl, by rw [hf]; rfl⟩, by omega, fun x hx x1 x2 x3 => ho1.2 x hx (by simp; omega)⟩
  · have hf : e.free ≠ [] := fun k => by rw [k] at h0; simp at h0
    (repeat' (first | (refine sq_id ?_; first | refine sq_nil ?_ | refine sm ?_ | refine sa ?_ | refine ss ?_ | refine st ?_ | refine sf ?_ | refine sp ?_ | refine sq ?_ | refine sl ?_ | refine si ?_ | refine sx ?_ | refine sy ?_) | (refine rg_id ?_; first | refine rg_fin ?_ | refine rm ?_ | refine ra ?_ | refine rs ?_ | refine rt ?_ | refine rf ?_ | refine rp ?_ | refine rq ?_ | refine rl ?_ | refine ri ?_ | refine rx ?_ | refine ry ?_) | refine aw_rseq ?_ | refine aw_seq ?_ | refine aw_region ?_ | refine aw_skip ?_ | refine ct ?_ | refine cf ?_ | refine d0s ?_ | refine d0r ?_ | refine aw_block ?_ | refine aw_exit ?_ | refine then_ret ?_ | refine then_exit ?_ | refine then_normal ?_ | refine blk_ret ?_ | refine blk_normal ?_ | refine blk_exit ?_ | refine blk_pass rfl ?_))
    refine sw hs fun H1 hs1 ho1 hl1 => ?_
    have hb1' := ho1.get hb (by simp; omega)
    have hn1 := ho1.get hn (by simp; omega)
    refine sq_nil ?_
    refine aw_norm bis (bbox true) hs1 rfl rfl rfl (one_of rfl rfl) fun H2 hs2 ho2 hl2 => ?_
    have hb2' := ho2.get hb1' (by simp; omega)
    have hn2 := ho2.get hn1 (by simp; omega)
    (repeat' (first | (refine sq_id ?_; first | refine sq_nil ?_ | refine sm ?_ | refine sa ?_ | refine ss ?_ | refine st ?_ | refine sf ?_ | refine sp ?_ | refine sq ?_ | refine sl ?_ | refine si ?_ | refine sx ?_ | refine sy ?_ | fail) | (refine rg_id ?_; first | refine rg_fin ?_ | refine rm ?_ | refine ra ?_ | refine rs ?_ | refine rt ?_ | refine rf ?_ | refine rp ?_ | refine rq ?_ | refine rl ?_ | refine ri ?_ | refine rx ?_ | refine ry ?_ | fail) | refine aw_rseq ?_ | refine aw_seq ?_ | refine aw_region ?_ | refine aw_skip ?_ | refine ct ?_ | refine cf ?_ | refine aw_block ?_ | refine aw_exit ?_ | refine then_ret ?_ | refine then_exit ?_ | refine then_normal ?_ | refine blk_ret ?_ | refine blk_normal ?_ | refine blk_exit ?_ | refine blk_pass rfl ?_ | fail))
    refine aw_mid [] (fun _ : Unit => []) (fun _ H' => TakePost e H id bis bn (.i 0) H') ?_ ?_
    · have fin : ∀ (H3 H4 : AH) (vf : AV) (bb : Blk), Oth H2 H3 (some bn) → Oth H3 H4 (some id) → H3.length = H2.length → H4.length = H3.length → H3[bn]? = some (some bb) → bb.ety = 3 → bb.sz = 1 → bb.n = 1 → bb.g 0 = [.i (e.free.getD 0 0)] → Le vf (ints (e.free.drop 1)) → IsBox H4 id [.i e.now, ints e.pins, ints e.l0, ints e.l1, ints e.l2, vf] → TakePost e H id bis bn (.i 0) H4 := by
        intro H3 H4 vf bb ho3 ho4 hl3 hl4 hbb q1 q2 q3 q4 hle hbx
        refine ⟨rfl, vf, hbx, hle, fun k => absurd k hf, ⟨_, ho4.get (ho3.get hs2 (by simp; omega)) (by simp; omega), rfl, rfl, rfl, by rw [decide_eq_true hf]⟩, ⟨bb, ho4.get hbb (by simp; omega), q1, q2, q3, q4⟩, by omega, fun x hx x1 x2 x3 => ?_⟩
        rw [ho4.2 x (by omega) (by simp; omega), ho3.2 x (by omega) (by simp; omega), ho2.2 x (by omega) (by simp; omega), ho1.2 x hx (by simp; omega)]
      refine yall 16 ?_
      refine ye 0 ?_
      refine sm ?_
      refine sq_nil ?_
      refine ye 1 ?_
      refine sm ?_
      refine sq_nil ?_
      refine ye 2 ?_
      refine sp ?_
      refine sq_nil ?_
      refine ye 3 ?_
      refine sp ?_
      refine sq_nil ?_
      refine ye 7 ?_
      refine sm ?_
      refine sq_nil ?_
      refine ye 8 ?_
      refine sp ?_
      refine sq_nil ?_
      refine ye 9 ?_
      refine sp ?_
      refine sq_nil ?_
      refine y2 4 10 ?_ ?_
      first | refine sl ?_ | refine sp ?_ | refine sq_load TYok rfl rfl rfl (ho3.get hb2' (by simp; omega)) rfl Nat.zero_lt_one rfl ?_
      refine sq_nil ?_
      refine y2 5 10 ?_ ?_
      first | refine sp ?_ | refine sx ?_ | refine sy ?_
      refine sq_nil ?_
      refine y2 6 10 ?_ ?_
      first | refine sl ?_ | refine sp ?_ | refine sq_load TYok rfl rfl rfl (ho3.get hb2' (by simp; omega)) rfl Nat.zero_lt_one rfl ?_
      refine sq_nil ?_
      refine y2 10 12 ?_ ?_
      first | refine sl ?_ | refine sp ?_ | refine sq_load TYok rfl rfl rfl (ho3.get hb2' (by simp; omega)) rfl Nat.zero_lt_one rfl ?_
      refine sq_nil ?_
      refine y2 11 12 ?_ ?_
      refine sq_slice TYok rfl rfl rfl rfl rfl rfl (by exact ⟨_, rfl⟩) (by rfl) (by omega) ?_
      refine sq_nil ?_
      refine y1 12 ?_
      refine sw hn2 fun H3 hn3 ho3 hl3 => ?_
      refine sq_nil ?_
      refine ye 13 ?_
      refine sp ?_
      refine sq_nil ?_
      refine ye 14 ?_
      refine sp ?_
      refine sq_nil ?_
      refine y1 15 ?_
      refine sw (ho3.get hb2' (by simp; omega)) fun H4 hb4 ho4 hl4 => ?_
      refine sq_nil ?_
      refine yd ?_
      exact then_normal ⟨(), _, by rw [rstf_eq]; rfl, .refl _, fin H3 H4 _ _ ho3 ho4 hl3 hl4 hn3 rfl rfl rfl rfl (le_tail1 e.free _ (by rw [List.length_drop]; omega)) ⟨_, hb4, rfl, rfl, rfl, rfl⟩⟩
      refine sw hn2 fun H3 hn3 ho3 hl3 => ?_
      refine sq_nil ?_
      refine y1 11 ?_
      refine sq_slice TYok rfl rfl rfl rfl rfl rfl (by exact ⟨_, rfl⟩) (by rfl) (by omega) ?_
      refine sq_nil ?_
      refine ye 13 ?_
      refine sp ?_
      refine sq_nil ?_
      refine ye 14 ?_
      refine sp ?_
      refine sq_nil ?_
      refine y1 15 ?_
      refine sw (ho3.get hb2' (by simp; omega)) fun H4 hb4 ho4 hl4 => ?_
      refine sq_nil ?_
      refine yd ?_
      exact then_normal ⟨(), _, by rw [rstf_eq]; rfl, .refl _, fin H3 H4 _ _ ho3 ho4 hl3 hl4 hn3 rfl rfl rfl rfl (le_tail1 e.free _ (by rw [List.length_drop]; omega)) ⟨_, hb4, rfl, rfl, rfl, rfl⟩⟩
      refine sw hn2 fun H3 hn3 ho3 hl3 => ?_
      refine sq_nil ?_
      refine y1 10 ?_
      first | refine sl ?_ | refine sp ?_ | refine sq_load TYok rfl rfl rfl (ho3.get hb2' (by simp; omega)) rfl Nat.zero_lt_one rfl ?_
      refine sq_nil ?_
      refine y1 11 ?_
      refine sq_slice TYok rfl rfl rfl rfl rfl rfl (by exact ⟨_, rfl⟩) (by rfl) (by omega) ?_
      refine sq_nil ?_
      refine ye 13 ?_
      refine sp ?_
      refine sq_nil ?_
      refine ye 14 ?_
      refine sp ?_
      refine sq_nil ?_
      refine y1 15 ?_
      refine sw (ho3.get hb2' (by simp; omega)) fun H4 hb4 ho4 hl4 => ?_
      refine sq_nil ?_
      refine yd ?_
      exact then_normal ⟨(), _, by rw [rstf_eq]; rfl, .refl _, fin H3 H4 _ _ ho3 ho4 hl3 hl4 hn3 rfl rfl rfl rfl (le_tail1 e.free _ (by rw [List.length_drop]; omega)) ⟨_, hb4, rfl, rfl, rfl, rfl⟩⟩
      first | refine sl ?_ | refine sp ?_ | refine sq_load TYok rfl rfl rfl (ho3.get hb2' (by simp; omega)) rfl Nat.zero_lt_one rfl ?_
      refine sq_nil ?_
      refine y2 6 11 ?_ ?_
      first | refine sl ?_ | refine sp ?_ | refine sq_load TYok rfl rfl rfl (ho3.get hb2' (by simp; omega)) rfl Nat.zero_lt_one rfl ?_
      refine sq_nil ?_
      refine y2 11 12 ?_ ?_
      refine sq_slice TYok rfl rfl rfl rfl rfl rfl (by exact ⟨_, rfl⟩) (by rfl) (by omega) ?_
      refine sq_nil ?_
      refine y1 12 ?_
      refine sw hn2 fun H3 hn3 ho3 hl3 => ?_
      refine sq_nil ?_
      refine ye 13 ?_
      refine sp ?_
      refine sq_nil ?_
      refine ye 14 ?_
      refine sp ?_
      refine sq_nil ?_
      refine y1 15 ?_
      refine sw (ho3.get hb2' (by simp; omega)) fun H4 hb4 ho4 hl4 => ?_
      refine sq_nil ?_
      refine yd ?_
      exact then_normal ⟨(), _, by rw [rstf_eq]; rfl, .refl _, fin H3 H4 _ _ ho3 ho4 hl3 hl4 hn3 rfl rfl rfl rfl (le_tail1 e.free _ (by rw [List.length_drop]; omega)) ⟨_, hb4, rfl, rfl, rfl, rfl⟩⟩
      refine sw hn2 fun H3 hn3 ho3 hl3 => ?_
      refine sq_nil ?_
      refine y1 11 ?_
      refine sq_slice TYok rfl rfl rfl rfl rfl rfl (by exact ⟨_, rfl⟩) (by rfl) (by omega) ?_
      refine sq_nil ?_
      refine ye 13 ?_
      refine sp ?_
      refine sq_nil ?_
      refine ye 14 ?_
      refine sp ?_
      refine sq_nil ?_
      refine y1 15 ?_
      refine sw (ho3.get hb2' (by simp; omega)) fun H4 hb4 ho4 hl4 => ?_
      refine sq_nil ?_
      refine yd ?_
      exact then_normal ⟨(), _, by rw [rstf_eq]; rfl, .refl _, fin H3 H4 _ _ ho3 ho4 hl3 hl4 hn3 rfl rfl rfl rfl (le_tail1 e.free _ (by rw [List.length_drop]; omega)) ⟨_, hb4, rfl, rfl, rfl, rfl⟩⟩
      refine sq_slice TYok rfl rfl rfl rfl rfl rfl (by exact ⟨_, rfl⟩) (by rfl) (by omega) ?_
      refine sq_nil ?_
      refine y1 6 ?_
      first | refine sl ?_ | refine sp ?_ | refine sq_load TYok rfl rfl rfl (ho3.get hb2' (by simp; omega)) rfl Nat.zero_lt_one rfl ?_
      refine sq_nil ?_
      refine y1 12 ?_
      refine sw hn2 fun H3 hn3 ho3 hl3 => ?_
      refine sq_nil ?_
      refine ye 13 ?_
      refine sp ?_
      refine sq_nil ?_
      refine ye 14 ?_
      refine sp ?_
      refine sq_nil ?_
      refine y1 15 ?_
      refine sw (ho3.get hb2' (by simp; omega)) fun H4 hb4 ho4 hl4 => ?_
      refine sq_nil ?_
      refine yd ?_
      exact then_normal ⟨(), _, by rw [rstf_eq]; rfl, .refl _, fin H3 H4 _ _ ho3 ho4 hl3 hl4 hn3 rfl rfl rfl rfl (le_tail1 e.free _ (by rw [List.length_drop]; omega)) ⟨_, hb4, rfl, rfl, rfl, rfl⟩⟩
      first | refine sl ?_ | refine sp ?_ | refine sq_load TYok rfl rfl rfl (ho3.get hb2' (by simp; omega)) rfl Nat.zero_lt_one rfl ?_
      refine sq_nil ?_
      refine y2 5 11 ?_ ?_
      first | refine sp ?_ | refine sx ?_ | refine sy ?_
      refine sq_nil ?_
      refine y2 6 11 ?_ ?_
      first | refine sl ?_ | refine sp ?_ | refine sq_load TYok rfl rfl rfl (ho3.get hb2' (by simp; omega)) rfl Nat.zero_lt_one rfl ?_
      refine sq_nil ?_
      refine y2 11 12 ?_ ?_
      refine sq_slice TYok rfl rfl rfl rfl rfl rfl (by exact ⟨_, rfl⟩) (by rfl) (by omega) ?_
      refine sq_nil ?_
      refine y1 12 ?_
      refine sw hn2 fun H3 hn3 ho3 hl3 => ?_
      refine sq_nil ?_
      refine ye 13 ?_
      refine sp ?_
      refine sq_nil ?_
      refine ye 14 ?_
      refine sp ?_
      refine sq_nil ?_
      refine y1 15 ?_
      refine sw (ho3.get hb2' (by simp; omega)) fun H4 hb4 ho4 hl4 => ?_
      refine sq_nil ?_
      refine yd ?_
      exact then_normal ⟨(), _, by rw [rstf_eq]; rfl, .refl _, fin H3 H4 _ _ ho3 ho4 hl3 hl4 hn3 rfl rfl rfl rfl (le_tail1 e.free _ (by rw [List.length_drop]; omega)) ⟨_, hb4, rfl, rfl, rfl, rfl⟩⟩
      refine sw hn2 fun H3 hn3 ho3 hl3 => ?_
      refine sq_nil ?_
      refine y1 11 ?_
      refine sq_slice TYok rfl rfl rfl rfl rfl rfl (by exact ⟨_, rfl⟩) (by rfl) (by omega) ?_
      refine sq_nil ?_
      refine ye 13 ?_
      refine sp ?_
      refine sq_nil ?_
      refine ye 14 ?_
      refine sp ?_
      refine sq_nil ?_
      refine y1 15 ?_
      refine sw (ho3.get hb2' (by simp; omega)) fun H4 hb4 ho4 hl4 => ?_
      refine sq_nil ?_
      refine yd ?_
      exact then_normal ⟨(), _, by rw [rstf_eq]; rfl, .refl _, fin H3 H4 _ _ ho3 ho4 hl3 hl4 hn3 rfl rfl rfl rfl (le_tail1 e.free _ (by rw [List.length_drop]; omega)) ⟨_, hb4, rfl, rfl, rfl, rfl⟩⟩
      refine sq_slice TYok rfl rfl rfl rfl rfl rfl (by exact ⟨_, rfl⟩) (by rfl) (by omega) ?_
      refine sq_nil ?_
      refine y1 6 ?_
      first | refine sl ?_ | refine sp ?_ | refine sq_load TYok rfl rfl rfl (ho3.get hb2' (by simp; omega)) rfl Nat.zero_lt_one rfl ?_
      refine sq_nil ?_
      refine y1 12 ?_
      refine sw hn2 fun H3 hn3 ho3 hl3 => ?_
      refine sq_nil ?_
      refine ye 13 ?_
      refine sp ?_
      refine sq_nil ?_
      refine ye 14 ?_
      refine sp ?_
      refine sq_nil ?_
      refine y1 15 ?_
      refine sw (ho3.get hb2' (by simp; omega)) fun H4 hb4 ho4 hl4 => ?_
      refine sq_nil ?_
      refine yd ?_
      exact then_normal ⟨(), _, by rw [rstf_eq]; rfl, .refl _, fin H3 H4 _ _ ho3 ho4 hl3 hl4 hn3 rfl rfl rfl rfl (le_tail1 e.free _ (by rw [List.length_drop]; omega)) ⟨_, hb4, rfl, rfl, rfl, rfl⟩⟩
      refine sq_slice TYok rfl rfl rfl rfl rfl rfl (by exact ⟨_, rfl⟩) (by rfl) (by omega) ?_
      refine sq_nil ?_
      refine y1 5 ?_
      first | refine sp ?_ | refine sx ?_ | refine sy ?_
      refine sq_nil ?_
      refine y1 6 ?_
      first | refine sl ?_ | refine sp ?_ | refine sq_load TYok rfl rfl rfl (ho3.get hb2' (by simp; omega)) rfl Nat.zero_lt_one rfl ?_
      refine sq_nil ?_
      refine y1 12 ?_
      refine sw hn2 fun H3 hn3 ho3 hl3 => ?_
      refine sq_nil ?_
      refine ye 13 ?_
      refine sp ?_
      refine sq_nil ?_
      refine ye 14 ?_
      refine sp ?_
      refine sq_nil ?_
      refine y1 15 ?_
      refine sw (ho3.get hb2' (by simp; omega)) fun H4 hb4 ho4 hl4 => ?_
      refine sq_nil ?_
      refine yd ?_
      exact then_normal ⟨(), _, by rw [rstf_eq]; rfl, .refl _, fin H3 H4 _ _ ho3 ho4 hl3 hl4 hn3 rfl rfl rfl rfl (le_tail1 e.free _ (by rw [List.length_drop]; omega)) ⟨_, hb4, rfl, rfl, rfl, rfl⟩⟩
      first | refine sl ?_ | refine sp ?_ | refine sq_load TYok rfl rfl rfl (ho3.get hb2' (by simp; omega)) rfl Nat.zero_lt_one rfl ?_
      refine sq_nil ?_
      refine y2 4 11 ?_ ?_
      first | refine sl ?_ | refine sp ?_ | refine sq_load TYok rfl rfl rfl (ho3.get hb2' (by simp; omega)) rfl Nat.zero_lt_one rfl ?_
      refine sq_nil ?_
      refine y2 5 11 ?_ ?_
      first | refine sp ?_ | refine sx ?_ | refine sy ?_
      refine sq_nil ?_
      refine y2 6 11 ?_ ?_
      first | refine sl ?_ | refine sp ?_ | refine sq_load TYok rfl rfl rfl (ho3.get hb2' (by simp; omega)) rfl Nat.zero_lt_one rfl ?_
      refine sq_nil ?_
      refine y2 11 12 ?_ ?_
      refine sq_slice TYok rfl rfl rfl rfl rfl rfl (by exact ⟨_, rfl⟩) (by rfl) (by omega) ?_
      refine sq_nil ?_
      refine y1 12 ?_
      refine sw hn2 fun H3 hn3 ho3 hl3 => ?_
      refine sq_nil ?_
      refine ye 13 ?_
      refine sp ?_
      refine sq_nil ?_
      refine ye 14 ?_
      refine sp ?_
      refine sq_nil ?_
      refine y1 15 ?_
      refine sw (ho3.get hb2' (by simp; omega)) fun H4 hb4 ho4 hl4 => ?_
      refine sq_nil ?_
      refine yd ?_
      exact then_normal ⟨(), _, by rw [rstf_eq]; rfl, .refl _, fin H3 H4 _ _ ho3 ho4 hl3 hl4 hn3 rfl rfl rfl rfl (le_tail1 e.free _ (by rw [List.length_drop]; omega)) ⟨_, hb4, rfl, rfl, rfl, rfl⟩⟩
      refine sw hn2 fun H3 hn3 ho3 hl3 => ?_
      refine sq_nil ?_
      refine y1 11 ?_
      refine sq_slice TYok rfl rfl rfl rfl rfl rfl (by exact ⟨_, rfl⟩) (by rfl) (by omega) ?_
      refine sq_nil ?_
      refine ye 13 ?_
      refine sp ?_
      refine sq_nil ?_
      refine ye 14 ?_
      refine sp ?_
      refine sq_nil ?_
      refine y1 15 ?_
      refine sw (ho3.get hb2' (by simp; omega)) fun H4 hb4 ho4 hl4 => ?_
      refine sq_nil ?_
      refine yd ?_
      exact then_normal ⟨(), _, by rw [rstf_eq]; rfl, .refl _, fin H3 H4 _ _ ho3 ho4 hl3 hl4 hn3 rfl rfl rfl rfl (le_tail1 e.free _ (by rw [List.length_drop]; omega)) ⟨_, hb4, rfl, rfl, rfl, rfl⟩⟩
      refine sq_slice TYok rfl rfl rfl rfl rfl rfl (by exact ⟨_, rfl⟩) (by rfl) (by omega) ?_
      refine sq_nil ?_
      refine y1 6 ?_
      first | refine sl ?_ | refine sp ?_ | refine sq_load TYok rfl rfl rfl (ho3.get hb2' (by simp; omega)) rfl Nat.zero_lt_one rfl ?_
      refine sq_nil ?_
      refine y1 12 ?_
      refine sw hn2 fun H3 hn3 ho3 hl3 => ?_
      refine sq_nil ?_
      refine ye 13 ?_
      refine sp ?_
      refine sq_nil ?_
      refine ye 14 ?_
      refine sp ?_
      refine sq_nil ?_
      refine y1 15 ?_
      refine sw (ho3.get hb2' (by simp; omega)) fun H4 hb4 ho4 hl4 => ?_
      refine sq_nil ?_
      refine yd ?_
      exact then_normal ⟨(), _, by rw [rstf_eq]; rfl, .refl _, fin H3 H4 _ _ ho3 ho4 hl3 hl4 hn3 rfl rfl rfl rfl (le_tail1 e.free _ (by rw [List.length_drop]; omega)) ⟨_, hb4, rfl, rfl, rfl, rfl⟩⟩
      refine sq_slice TYok rfl rfl rfl rfl rfl rfl (by exact ⟨_, rfl⟩) (by rfl) (by omega) ?_
      refine sq_nil ?_
      refine y1 5 ?_
      first | refine sp ?_ | refine sx ?_ | refine sy ?_
      refine sq_nil ?_
      refine y1 6 ?_
      first | refine sl ?_ | refine sp ?_ | refine sq_load TYok rfl rfl rfl (ho3.get hb2' (by simp; omega)) rfl Nat.zero_lt_one rfl ?_
      refine sq_nil ?_
      refine y1 12 ?_
      refine sw hn2 fun H3 hn3 ho3 hl3 => ?_
      refine sq_nil ?_
      refine ye 13 ?_
      refine sp ?_
      refine sq_nil ?_
      refine ye 14 ?_
      refine sp ?_
      refine sq_nil ?_
      refine y1 15 ?_
      refine sw (ho3.get hb2' (by simp; omega)) fun H4 hb4 ho4 hl4 => ?_
      refine sq_nil ?_
      refine yd ?_
      exact then_normal ⟨(), _, by rw [rstf_eq]; rfl, .refl _, fin H3 H4 _ _ ho3 ho4 hl3 hl4 hn3 rfl rfl rfl rfl (le_tail1 e.free _ (by rw [List.length_drop]; omega)) ⟨_, hb4, rfl, rfl, rfl, rfl⟩⟩
      refine sq_slice TYok rfl rfl rfl rfl rfl rfl (by exact ⟨_, rfl⟩) (by rfl) (by omega) ?_
      refine sq_nil ?_
      refine y1 4 ?_
      first | refine sl ?_ | refine sp ?_ | refine sq_load TYok rfl rfl rfl (ho3.get hb2' (by simp; omega)) rfl Nat.zero_lt_one rfl ?_
      refine sq_nil ?_
      refine y1 5 ?_
      first | refine sp ?_ | refine sx ?_ | refine sy ?_
      refine sq_nil ?_
      refine y1 6 ?_
      first | refine sl ?_ | refine sp ?_ | refine sq_load TYok rfl rfl rfl (ho3.get hb2' (by simp; omega)) rfl Nat.zero_lt_one rfl ?_
      refine sq_nil ?_
      refine y1 12 ?_
      refine sw hn2 fun H3 hn3 ho3 hl3 => ?_
      refine sq_nil ?_
      refine ye 13 ?_
      refine sp ?_
      refine sq_nil ?_
      refine ye 14 ?_
      refine sp ?_
      refine sq_nil ?_
      refine y1 15 ?_
      refine sw (ho3.get hb2' (by simp; omega)) fun H4 hb4 ho4 hl4 => ?_
      refine sq_nil ?_
      refine yd ?_
      exact then_normal ⟨(), _, by rw [rstf_eq]; rfl, .refl _, fin H3 H4 _ _ ho3 ho4 hl3 hl4 hn3 rfl rfl rfl rfl (le_tail1 e.free _ (by rw [List.length_drop]; omega)) ⟨_, hb4, rfl, rfl, rfl, rfl⟩⟩
    · rintro - H5 h5
      (repeat' (first | (refine sq_id ?_; first | refine sq_nil ?_ | refine sm ?_ | refine sa ?_ | refine ss ?_ | refine st ?_ | refine sf ?_ | refine sp ?_ | refine sq ?_ | refine sl ?_ | refine si ?_ | refine sx ?_ | refine sy ?_) | (refine rg_id ?_; first | refine rg_fin ?_ | refine rm ?_ | refine ra ?_ | refine rs ?_ | refine rt ?_ | refine rf ?_ | refine rp ?_ | refine rq ?_ | refine rl ?_ | refine ri ?_ | refine rx ?_ | refine ry ?_) | refine aw_rseq ?_ | refine aw_seq ?_ | refine aw_region ?_ | refine aw_skip ?_ | refine ct ?_ | refine cf ?_ | refine d0s ?_ | refine d0r ?_ | refine aw_block ?_ | refine aw_exit ?_ | refine then_ret ?_ | refine then_exit ?_ | refine then_normal ?_ | refine blk_ret ?_ | refine blk_normal ?_ | refine blk_exit ?_ | refine blk_pass rfl ?_))
      ((try refine aw_ret ?_); (repeat (first | refine then_ret ?_ | refine blk_ret ?_)); refine fin_t True.intro rfl rfl ?_)
      exact h5
def TakeRes (e : Ep) (H : AH) (bis bn : Nat) (r : AV) (H' : AH) : Prop :=
  ∃ cs', r = .tup [.agg cs', .i (takeE e).2.2.2] ∧ cs'.length = 6 ∧ H.length ≤ H'.length ∧ (∀ x, x < H.length → x ≠ bis → x ≠ bn → H'[x]? = H[x]?) ∧ IsOne H' bis 4 (.b (takeE e).2.2.1) ∧ IsOne H' bn 3 (.i (takeE e).2.1) ∧ Le (.agg cs') (epv (takeE e).1)
theorem wtake_s (e : Ep) (hbd : Bd e) (H : AH) (bis bn : Nat) (hs : H[bis]? = some (some (bbox false))) (hn : H[bn]? = some (some (ibox 0))) (n3 : bis ≠ bn) :
    SC true Try.prog 39 [epv e, .fn (.func 43) [] [.ref bis 1 0 0, .ref bn 1 0 0]] H (TakeRes e H bis bn) := by
  have bl := (List.getElem?_eq_some_iff.1 hs).1
  have nl := (List.getElem?_eq_some_iff.1 hn).1
  refine change_s e hbd (cells := fun _ => epc e) (Fact := fun _ _ _ => True) (fun _ => rfl) (fun _ _ _ _ _ _ => True.intro) (fun H => (ownF_s e hbd H).mono fun r H' h => ⟨by rw [h.2]; exact ⟨Nat.le_refl _, fun _ _ _ => rfl⟩, 0, h.1, True.intro⟩) H _ ?_ ?_
  · intro hr k m H' ho hk hF
    have e1 : takeE e = (e, 0, false, 1) := if_neg hr
    unfold TakeRes
    rw [e1]
    exact ⟨_, rfl, rfl, ho.1, fun x hx _ _ => ho.2 x hx (by simp), ⟨bbox false, ho.get0 hs, rfl, rfl, rfl, rfl⟩, ⟨ibox 0, ho.get0 hn, rfl, rfl, rfl, rfl⟩, Le.refl _⟩
  · intro hr k id m H0 H1 ho hk _ hkid _ _ hbx
    obtain ⟨b, hb, e1, e2, e3, e4⟩ := hbx
    have hol := ho.1
    have hil := (List.getElem?_eq_some_iff.1 hb).1
    refine sc_normin (ebk (epc e)) hb e1.symm e2.symm e3.symm (one_of e3 e4) ?_
    have hb2 : (H1.set id (some (ebk (epc e))))[id]? = some (some (ebk (epc e))) := by rw [List.getElem?_set]; simp [hil]
    have ho2 : Oth H1 (H1.set id (some (ebk (epc e)))) (some id) := oth_set _ _ _
    have hl2 : (H1.set id (some (ebk (epc e)))).length = H1.length := by simp
    generalize H1.set id (some (ebk (epc e))) = H2 at hb2 ho2 hl2
    refine (take1_s e hbd H2 id bis bn hb2 (ho2.get (ho.get0 hs) (by simp; omega)) (ho2.get (ho.get0 hn) (by simp; omega)) (by omega) (by omega) n3).mono fun r H3 he => ?_
    obtain ⟨rfl, vf, hbx3, hle, hsame, hs3, hn3, hl3, hk3⟩ := he
    refine ⟨0, rfl, by omega, fun x hx hx2 => by rw [hk3 x (by omega) (by omega) (by omega) (by omega), ho2.2 x (by omega) (by simp; omega)], fun h => absurd rfl h, fun _ => ⟨_, rfl, hbx3, fun H4 h4 => ?_⟩⟩
    have hfr : ∀ x, x < H.length → x ≠ bis → x ≠ bn → H4[x]? = H[x]? := fun x hx x1 x2 => by
      rw [h4.2 x (by omega) (.inl hx), hk3 x (by omega) (by omega) x1 x2, ho2.2 x (by omega) (by simp; omega), ho.2 x hx (by simp)]
    have hs4 := hs3.keep (h4.2 bis (by omega) (.inl bl))
    have hn4 := hn3.keep (h4.2 bn (by omega) (.inl nl))
    have hl4 := h4.1
    unfold TakeRes
    by_cases hf : e.free = []
    · have e1 : takeE e = (e, 0, false, 0) := by unfold takeE; rw [if_pos hr, if_pos hf]
      rw [e1]
      refine ⟨_, rfl, rfl, by omega, hfr, ?_, ?_, ?_⟩
      · rw [decide_eq_false (fun k => k hf)] at hs4; exact hs4
      · rw [hf] at hn4; exact hn4
      · rw [hsame hf]; exact Le.refl _
    · have e1 : takeE e = ({ e with free := e.free.drop 1 }, e.free.getD 0 0, true, 0) := by unfold takeE; rw [if_pos hr, if_neg hf]
      rw [e1]
      refine ⟨_, rfl, rfl, by omega, hfr, ?_, hn4, ?_⟩
      · rw [decide_eq_true hf] at hs4; exact hs4
      · exact le_agg (.cons (Le.refl _) (.cons (Le.refl _) (.cons (Le.refl _) (.cons (Le.refl _) (.cons (Le.refl _) (.cons hle .nil))))))
theorem take_s (e : Ep) (hbd : Bd e) : PS Try.prog 22 [epv e] (tres (takeE e)) := by
  refine ps_frz (cl_tres _) fun H => ?_
  refine sc_in TYok Try.func22 (by kernel_rfl) Try.ntmps22 rfl rfl rfl ?_
  refine aw_seq ?_
  refine aw_region ?_
  refine nw fun H1 hb1 ho1 hl1 => ?_
  refine nw fun H2 hb2 ho2 hl2 => ?_
  refine nw fun H3 hb3 ho3 hl3 => ?_
  refine nw fun H4 hb4 ho4 hl4 => ?_
  have hb14 := ho4.get0 (ho3.get0 (ho2.get0 hb1))
  have hb24 := ho4.get0 (ho3.get0 hb2)
  have hW := wtake_s e hbd H4 H3.length H2.length hb4 (ho4.get0 hb3) (by omega)
  (repeat' (first | (refine sq_id ?_; first | refine sq_nil ?_ | refine sm ?_ | refine sa ?_ | refine ss ?_ | refine st ?_ | refine sf ?_ | refine sp ?_ | refine sq ?_ | refine sl ?_ | refine si ?_ | refine sx ?_ | refine sy ?_) | (refine rg_id ?_; first | refine rg_fin ?_ | refine rm ?_ | refine ra ?_ | refine rs ?_ | refine rt ?_ | refine rf ?_ | refine rp ?_ | refine rq ?_ | refine rl ?_ | refine ri ?_ | refine rx ?_ | refine ry ?_) | refine aw_rseq ?_ | refine aw_seq ?_ | refine aw_region ?_ | refine aw_skip ?_ | refine ct ?_ | refine cf ?_ | refine d0s ?_ | refine d0r ?_ | refine aw_block ?_ | refine aw_exit ?_ | refine then_ret ?_ | refine then_exit ?_ | refine then_normal ?_ | refine blk_ret ?_ | refine blk_normal ?_ | refine blk_exit ?_ | refine blk_pass rfl ?_))
  refine sq_call rfl rfl rfl (LeL.refl _) (hW.mono fun r H5 he => ?_)
  obtain ⟨cs', rfl, hcl, hl5, hk5, hs5, hn5, hle⟩ := he
  generalize takeE e = tg at *
  obtain ⟨e', nv, isb, er⟩ := tg
  have hb25 := (hk5 H1.length (by omega) (by omega) (by omega)).trans hb24
  (repeat' (first | (refine sq_id ?_; first | refine sq_nil ?_ | refine sm ?_ | refine sa ?_ | refine ss ?_ | refine st ?_ | refine sf ?_ | refine sp ?_ | refine sq ?_ | refine sl ?_ | refine si ?_ | refine sx ?_ | refine sy ?_) | (refine rg_id ?_; first | refine rg_fin ?_ | refine rm ?_ | refine ra ?_ | refine rs ?_ | refine rt ?_ | refine rf ?_ | refine rp ?_ | refine rq ?_ | refine rl ?_ | refine ri ?_ | refine rx ?_ | refine ry ?_) | refine aw_rseq ?_ | refine aw_seq ?_ | refine aw_region ?_ | refine aw_skip ?_ | refine ct ?_ | refine cf ?_ | refine d0s ?_ | refine d0r ?_ | refine aw_block ?_ | refine aw_exit ?_ | refine then_ret ?_ | refine then_exit ?_ | refine then_normal ?_ | refine blk_ret ?_ | refine blk_normal ?_ | refine blk_exit ?_ | refine blk_pass rfl ?_))
  refine sq_storek TYok rfl rfl rfl hb25 rfl Nat.zero_lt_one rfl rfl hcl (by rw [hcl]; exact Nat.le_refl 6) fun H6 hb6 ho6 hl6 => ?_
  have hs6 := hs5.keep (ho6.2 H3.length (by omega) (by simp; omega))
  have hn6 := hn5.keep (ho6.2 H2.length (by omega) (by simp; omega))
  obtain ⟨sb, hsb, t1, t2, t3, t4⟩ := hs6
  obtain ⟨nb, hnb, u1, u2, u3, u4⟩ := hn6
  refine sa ?_
  refine sq_nil ?_
  refine aw_norm H1.length (ebk cs') hb6 rfl rfl rfl (one_of rfl (splice_all (by rw [hcl]; rfl))) fun H7 hb7 ho7 hl7 => ?_
  refine aw_norm H3.length (bbox isb) (ho7.get hsb (by simp; omega)) t1.symm t2.symm t3.symm (one_of t3 t4) fun H8 hs8 ho8 hl8 => ?_
  refine aw_norm H2.length (ibox nv) (ho8.get (ho7.get hnb (by simp; omega)) (by simp; omega)) u1.symm u2.symm u3.symm (one_of u3 u4) fun H9 hn9 ho9 hl9 => ?_
  have hb9 := ho9.get (ho8.get hb7 (by simp; omega)) (by simp; omega)
  have hs9 := ho9.get hs8 (by simp; omega)
  refine aw_seq ?_
  have fin : ∀ G1 G2 G3 : AH, Oth H9 G1 (some H1.length) → Oth G1 G2 (some H2.length) → Oth G2 G3 (some H3.length) → Ext H G3 ∧ Frz H.length G3 (.tup [.agg cs', .i nv, .b isb, .i er]) (tres (e', nv, isb, er)) := by
    intro G1 G2 G3 g1 g2 g3
    have l1 := g1.1
    have l2 := g2.1
    have l3 := g3.1
    have hE : Oth H G3 none := ⟨by omega, fun j hj _ => by
      rw [g3.2 j (by omega) (by simp; omega), g2.2 j (by omega) (by simp; omega), g1.2 j (by omega) (by simp; omega), ho9.2 j (by omega) (by simp; omega), ho8.2 j (by omega) (by simp; omega), ho7.2 j (by omega) (by simp; omega), ho6.2 j (by omega) (by simp; omega), hk5 j (by omega) (by omega) (by omega), ho4.2 j (by omega) (by simp), ho3.2 j (by omega) (by simp), ho2.2 j (by omega) (by simp), ho1.2 j hj (by simp)]⟩
    exact ⟨hE.ext, FrzL.tup (.cons (.le hle) (.cons (.le (Le.refl _)) (.cons (.le (Le.refl _)) (.cons (.le (Le.refl _)) .nil))))⟩
  refine yall 8 ?_
  refine ye 3 ?_
  refine sm ?_
  refine sq_nil ?_
  refine y3 0 1 2 ?_ ?_ ?_
  refine sq_load (v := .agg cs') TYok rfl rfl rfl hb9 rfl Nat.zero_lt_one (apart_ep cs' hcl) ?_
  refine sq_nil ?_
  refine y3 1 2 4 ?_ ?_ ?_
  first | refine sl ?_ | refine sq_load TYok rfl rfl rfl (g1.get hn9 (by simp; omega)) rfl Nat.zero_lt_one rfl ?_
  refine sq_nil ?_
  refine y2 2 4 ?_ ?_
  first | refine sl ?_ | refine sq_load TYok rfl rfl rfl (g2.get (g1.get hs9 (by simp; omega)) (by simp; omega)) rfl Nat.zero_lt_one rfl ?_ | refine sq_load TYok rfl rfl rfl (g1.get hs9 (by simp; omega)) rfl Nat.zero_lt_one rfl ?_
  refine sq_nil ?_
  refine y1 4 ?_
  refine sq_storek TYok rfl rfl rfl hb9 rfl Nat.zero_lt_one rfl rfl hcl (by rw [hcl]; exact Nat.le_refl 6) fun G1 gb1 g1 gl1 => ?_
  refine sq_nil ?_
  refine y1 5 ?_
  refine sw (g1.get hn9 (by simp; omega)) fun G2 gb2 g2 gl2 => ?_
  refine sq_nil ?_
  refine y1 6 ?_
  refine sw (g2.get (g1.get hs9 (by simp; omega)) (by simp; omega)) fun G3 gb3 g3 gl3 => ?_
  refine sq_nil ?_
  refine ye 7 ?_
  refine sa ?_
  refine sq_nil ?_
  refine yd ?_
  exact then_normal (aw_ret ⟨True.intro, _, .cell _ _ _ _ _ _ _ _ _ rfl (g3.get (g2.get gb1 (by simp; omega)) (by simp; omega)) rfl Nat.zero_lt_one (by show apart TY _ (splice cs' 0 cs') = _; rw [splice_all rfl]; exact apart_ep cs' hcl) (.cell _ _ _ _ _ _ _ _ _ rfl (g3.get gb2 (by simp; omega)) rfl Nat.zero_lt_one rfl (.cell _ _ _ _ _ _ _ _ _ rfl gb3 rfl Nat.zero_lt_one rfl (.tmp _ _ _ .nil))), fin G1 G2 G3 g1 g2 g3⟩)
  refine sq_storek TYok rfl rfl rfl hb9 rfl Nat.zero_lt_one rfl rfl hcl (by rw [hcl]; exact Nat.le_refl 6) fun G1 gb1 g1 gl1 => ?_
  refine sq_nil ?_
  refine y2 2 5 ?_ ?_
  first | refine sl ?_ | refine sq_load TYok rfl rfl rfl (g2.get (g1.get hs9 (by simp; omega)) (by simp; omega)) rfl Nat.zero_lt_one rfl ?_ | refine sq_load TYok rfl rfl rfl (g1.get hs9 (by simp; omega)) rfl Nat.zero_lt_one rfl ?_
  refine sq_nil ?_
  refine y1 5 ?_
  refine sw (g1.get hn9 (by simp; omega)) fun G2 gb2 g2 gl2 => ?_
  refine sq_nil ?_
  refine y1 6 ?_
  refine sw (g2.get (g1.get hs9 (by simp; omega)) (by simp; omega)) fun G3 gb3 g3 gl3 => ?_
  refine sq_nil ?_
  refine ye 7 ?_
  refine sa ?_
  refine sq_nil ?_
  refine yd ?_
  exact then_normal (aw_ret ⟨True.intro, _, .cell _ _ _ _ _ _ _ _ _ rfl (g3.get (g2.get gb1 (by simp; omega)) (by simp; omega)) rfl Nat.zero_lt_one (by show apart TY _ (splice cs' 0 cs') = _; rw [splice_all rfl]; exact apart_ep cs' hcl) (.cell _ _ _ _ _ _ _ _ _ rfl (g3.get gb2 (by simp; omega)) rfl Nat.zero_lt_one rfl (.cell _ _ _ _ _ _ _ _ _ rfl gb3 rfl Nat.zero_lt_one rfl (.tmp _ _ _ .nil))), fin G1 G2 G3 g1 g2 g3⟩)
  refine sw (g1.get hn9 (by simp; omega)) fun G2 gb2 g2 gl2 => ?_
  refine sq_nil ?_
  refine y1 2 ?_
  first | refine sl ?_ | refine sq_load TYok rfl rfl rfl (g2.get (g1.get hs9 (by simp; omega)) (by simp; omega)) rfl Nat.zero_lt_one rfl ?_ | refine sq_load TYok rfl rfl rfl (g1.get hs9 (by simp; omega)) rfl Nat.zero_lt_one rfl ?_
  refine sq_nil ?_
  refine y1 6 ?_
  refine sw (g2.get (g1.get hs9 (by simp; omega)) (by simp; omega)) fun G3 gb3 g3 gl3 => ?_
  refine sq_nil ?_
  refine ye 7 ?_
  refine sa ?_
  refine sq_nil ?_
  refine yd ?_
  exact then_normal (aw_ret ⟨True.intro, _, .cell _ _ _ _ _ _ _ _ _ rfl (g3.get (g2.get gb1 (by simp; omega)) (by simp; omega)) rfl Nat.zero_lt_one (by show apart TY _ (splice cs' 0 cs') = _; rw [splice_all rfl]; exact apart_ep cs' hcl) (.cell _ _ _ _ _ _ _ _ _ rfl (g3.get gb2 (by simp; omega)) rfl Nat.zero_lt_one rfl (.cell _ _ _ _ _ _ _ _ _ rfl gb3 rfl Nat.zero_lt_one rfl (.tmp _ _ _ .nil))), fin G1 G2 G3 g1 g2 g3⟩)
  first | refine sl ?_ | refine sq_load TYok rfl rfl rfl (g2.get (g1.get hs9 (by simp; omega)) (by simp; omega)) rfl Nat.zero_lt_one rfl ?_ | refine sq_load TYok rfl rfl rfl (g1.get hs9 (by simp; omega)) rfl Nat.zero_lt_one rfl ?_
  refine sq_nil ?_
  refine y2 1 4 ?_ ?_
  first | refine sl ?_ | refine sq_load TYok rfl rfl rfl (g1.get hn9 (by simp; omega)) rfl Nat.zero_lt_one rfl ?_
  refine sq_nil ?_
  refine y1 4 ?_
  refine sq_storek TYok rfl rfl rfl hb9 rfl Nat.zero_lt_one rfl rfl hcl (by rw [hcl]; exact Nat.le_refl 6) fun G1 gb1 g1 gl1 => ?_
  refine sq_nil ?_
  refine y1 5 ?_
  refine sw (g1.get hn9 (by simp; omega)) fun G2 gb2 g2 gl2 => ?_
  refine sq_nil ?_
  refine y1 6 ?_
  refine sw (g2.get (g1.get hs9 (by simp; omega)) (by simp; omega)) fun G3 gb3 g3 gl3 => ?_
  refine sq_nil ?_
  refine ye 7 ?_
  refine sa ?_
  refine sq_nil ?_
  refine yd ?_
  exact then_normal (aw_ret ⟨True.intro, _, .cell _ _ _ _ _ _ _ _ _ rfl (g3.get (g2.get gb1 (by simp; omega)) (by simp; omega)) rfl Nat.zero_lt_one (by show apart TY _ (splice cs' 0 cs') = _; rw [splice_all rfl]; exact apart_ep cs' hcl) (.cell _ _ _ _ _ _ _ _ _ rfl (g3.get gb2 (by simp; omega)) rfl Nat.zero_lt_one rfl (.cell _ _ _ _ _ _ _ _ _ rfl gb3 rfl Nat.zero_lt_one rfl (.tmp _ _ _ .nil))), fin G1 G2 G3 g1 g2 g3⟩)
  refine sq_storek TYok rfl rfl rfl hb9 rfl Nat.zero_lt_one rfl rfl hcl (by rw [hcl]; exact Nat.le_refl 6) fun G1 gb1 g1 gl1 => ?_
  refine sq_nil ?_
  refine y1 1 ?_
  first | refine sl ?_ | refine sq_load TYok rfl rfl rfl (g1.get hn9 (by simp; omega)) rfl Nat.zero_lt_one rfl ?_
  refine sq_nil ?_
  refine y1 5 ?_
  refine sw (g1.get hn9 (by simp; omega)) fun G2 gb2 g2 gl2 => ?_
  refine sq_nil ?_
  refine y1 6 ?_
  refine sw (g2.get (g1.get hs9 (by simp; omega)) (by simp; omega)) fun G3 gb3 g3 gl3 => ?_
  refine sq_nil ?_
  refine ye 7 ?_
  refine sa ?_
  refine sq_nil ?_
  refine yd ?_
  exact then_normal (aw_ret ⟨True.intro, _, .cell _ _ _ _ _ _ _ _ _ rfl (g3.get (g2.get gb1 (by simp; omega)) (by simp; omega)) rfl Nat.zero_lt_one (by show apart TY _ (splice cs' 0 cs') = _; rw [splice_all rfl]; exact apart_ep cs' hcl) (.cell _ _ _ _ _ _ _ _ _ rfl (g3.get gb2 (by simp; omega)) rfl Nat.zero_lt_one rfl (.cell _ _ _ _ _ _ _ _ _ rfl gb3 rfl Nat.zero_lt_one rfl (.tmp _ _ _ .nil))), fin G1 G2 G3 g1 g2 g3⟩)
  refine sq_storek TYok rfl rfl rfl hb9 rfl Nat.zero_lt_one rfl rfl hcl (by rw [hcl]; exact Nat.le_refl 6) fun G1 gb1 g1 gl1 => ?_
  refine sq_nil ?_
  refine y2 1 2 ?_ ?_
  first | refine sl ?_ | refine sq_load TYok rfl rfl rfl (g1.get hn9 (by simp; omega)) rfl Nat.zero_lt_one rfl ?_
  refine sq_nil ?_
  refine y2 2 5 ?_ ?_
  first | refine sl ?_ | refine sq_load TYok rfl rfl rfl (g2.get (g1.get hs9 (by simp; omega)) (by simp; omega)) rfl Nat.zero_lt_one rfl ?_ | refine sq_load TYok rfl rfl rfl (g1.get hs9 (by simp; omega)) rfl Nat.zero_lt_one rfl ?_
  refine sq_nil ?_
  refine y1 5 ?_
  refine sw (g1.get hn9 (by simp; omega)) fun G2 gb2 g2 gl2 => ?_
  refine sq_nil ?_
  refine y1 6 ?_
  refine sw (g2.get (g1.get hs9 (by simp; omega)) (by simp; omega)) fun G3 gb3 g3 gl3 => ?_
  refine sq_nil ?_
  refine ye 7 ?_
  refine sa ?_
  refine sq_nil ?_
  refine yd ?_
  exact then_normal (aw_ret ⟨True.intro, _, .cell _ _ _ _ _ _ _ _ _ rfl (g3.get (g2.get gb1 (by simp; omega)) (by simp; omega)) rfl Nat.zero_lt_one (by show apart TY _ (splice cs' 0 cs') = _; rw [splice_all rfl]; exact apart_ep cs' hcl) (.cell _ _ _ _ _ _ _ _ _ rfl (g3.get gb2 (by simp; omega)) rfl Nat.zero_lt_one rfl (.cell _ _ _ _ _ _ _ _ _ rfl gb3 rfl Nat.zero_lt_one rfl (.tmp _ _ _ .nil))), fin G1 G2 G3 g1 g2 g3⟩)
  refine sw (g1.get hn9 (by simp; omega)) fun G2 gb2 g2 gl2 => ?_
  refine sq_nil ?_
  refine y1 2 ?_
  first | refine sl ?_ | refine sq_load TYok rfl rfl rfl (g2.get (g1.get hs9 (by simp; omega)) (by simp; omega)) rfl Nat.zero_lt_one rfl ?_ | refine sq_load TYok rfl rfl rfl (g1.get hs9 (by simp; omega)) rfl Nat.zero_lt_one rfl ?_
  refine sq_nil ?_
  refine y1 6 ?_
  refine sw (g2.get (g1.get hs9 (by simp; omega)) (by simp; omega)) fun G3 gb3 g3 gl3 => ?_
  refine sq_nil ?_
  refine ye 7 ?_
  refine sa ?_
  refine sq_nil ?_
  refine yd ?_
  exact then_normal (aw_ret ⟨True.intro, _, .cell _ _ _ _ _ _ _ _ _ rfl (g3.get (g2.get gb1 (by simp; omega)) (by simp; omega)) rfl Nat.zero_lt_one (by show apart TY _ (splice cs' 0 cs') = _; rw [splice_all rfl]; exact apart_ep cs' hcl) (.cell _ _ _ _ _ _ _ _ _ rfl (g3.get gb2 (by simp; omega)) rfl Nat.zero_lt_one rfl (.cell _ _ _ _ _ _ _ _ _ rfl gb3 rfl Nat.zero_lt_one rfl (.tmp _ _ _ .nil))), fin G1 G2 G3 g1 g2 g3⟩)
  first | refine sl ?_ | refine sq_load TYok rfl rfl rfl (g2.get (g1.get hs9 (by simp; omega)) (by simp; omega)) rfl Nat.zero_lt_one rfl ?_ | refine sq_load TYok rfl rfl rfl (g1.get hs9 (by simp; omega)) rfl Nat.zero_lt_one rfl ?_
  refine sq_nil ?_
  refine y1 1 ?_
  first | refine sl ?_ | refine sq_load TYok rfl rfl rfl (g1.get hn9 (by simp; omega)) rfl Nat.zero_lt_one rfl ?_
  refine sq_nil ?_
  refine y1 5 ?_
  refine sw (g1.get hn9 (by simp; omega)) fun G2 gb2 g2 gl2 => ?_
  refine sq_nil ?_
  refine y1 6 ?_
  refine sw (g2.get (g1.get hs9 (by simp; omega)) (by simp; omega)) fun G3 gb3 g3 gl3 => ?_
  refine sq_nil ?_
  refine ye 7 ?_
  refine sa ?_
  refine sq_nil ?_
  refine yd ?_
  exact then_normal (aw_ret ⟨True.intro, _, .cell _ _ _ _ _ _ _ _ _ rfl (g3.get (g2.get gb1 (by simp; omega)) (by simp; omega)) rfl Nat.zero_lt_one (by show apart TY _ (splice cs' 0 cs') = _; rw [splice_all rfl]; exact apart_ep cs' hcl) (.cell _ _ _ _ _ _ _ _ _ rfl (g3.get gb2 (by simp; omega)) rfl Nat.zero_lt_one rfl (.cell _ _ _ _ _ _ _ _ _ rfl gb3 rfl Nat.zero_lt_one rfl (.tmp _ _ _ .nil))), fin G1 G2 G3 g1 g2 g3⟩)
  first | refine sl ?_ | refine sq_load TYok rfl rfl rfl (g1.get hn9 (by simp; omega)) rfl Nat.zero_lt_one rfl ?_
  refine sq_nil ?_
  refine y2 0 2 ?_ ?_
  refine sq_load (v := .agg cs') TYok rfl rfl rfl hb9 rfl Nat.zero_lt_one (apart_ep cs' hcl) ?_
  refine sq_nil ?_
  refine y2 2 4 ?_ ?_
  first | refine sl ?_ | refine sq_load TYok rfl rfl rfl (g2.get (g1.get hs9 (by simp; omega)) (by simp; omega)) rfl Nat.zero_lt_one rfl ?_ | refine sq_load TYok rfl rfl rfl (g1.get hs9 (by simp; omega)) rfl Nat.zero_lt_one rfl ?_
  refine sq_nil ?_
  refine y1 4 ?_
  refine sq_storek TYok rfl rfl rfl hb9 rfl Nat.zero_lt_one rfl rfl hcl (by rw [hcl]; exact Nat.le_refl 6) fun G1 gb1 g1 gl1 => ?_
  refine sq_nil ?_
  refine y1 5 ?_
  refine sw (g1.get hn9 (by simp; omega)) fun G2 gb2 g2 gl2 => ?_
  refine sq_nil ?_
  refine y1 6 ?_
  refine sw (g2.get (g1.get hs9 (by simp; omega)) (by simp; omega)) fun G3 gb3 g3 gl3 => ?_
  refine sq_nil ?_
  refine ye 7 ?_
  refine sa ?_
  refine sq_nil ?_
  refine yd ?_
  exact then_normal (aw_ret ⟨True.intro, _, .cell _ _ _ _ _ _ _ _ _ rfl (g3.get (g2.get gb1 (by simp; omega)) (by simp; omega)) rfl Nat.zero_lt_one (by show apart TY _ (splice cs' 0 cs') = _; rw [splice_all rfl]; exact apart_ep cs' hcl) (.cell _ _ _ _ _ _ _ _ _ rfl (g3.get gb2 (by simp; omega)) rfl Nat.zero_lt_one rfl (.cell _ _ _ _ _ _ _ _ _ rfl gb3 rfl Nat.zero_lt_one rfl (.tmp _ _ _ .nil))), fin G1 G2 G3 g1 g2 g3⟩)
  refine sq_storek TYok rfl rfl rfl hb9 rfl Nat.zero_lt_one rfl rfl hcl (by rw [hcl]; exact Nat.le_refl 6) fun G1 gb1 g1 gl1 => ?_
  refine sq_nil ?_
  refine y2 2 5 ?_ ?_
  first | refine sl ?_ | refine sq_load TYok rfl rfl rfl (g2.get (g1.get hs9 (by simp; omega)) (by simp; omega)) rfl Nat.zero_lt_one rfl ?_ | refine sq_load TYok rfl rfl rfl (g1.get hs9 (by simp; omega)) rfl Nat.zero_lt_one rfl ?_
  refine sq_nil ?_
  refine y1 5 ?_
  refine sw (g1.get hn9 (by simp; omega)) fun G2 gb2 g2 gl2 => ?_
  refine sq_nil ?_
  refine y1 6 ?_
  refine sw (g2.get (g1.get hs9 (by simp; omega)) (by simp; omega)) fun G3 gb3 g3 gl3 => ?_
  refine sq_nil ?_
  refine ye 7 ?_
  refine sa ?_
  refine sq_nil ?_
  refine yd ?_
  exact then_normal (aw_ret ⟨True.intro, _, .cell _ _ _ _ _ _ _ _ _ rfl (g3.get (g2.get gb1 (by simp; omega)) (by simp; omega)) rfl Nat.zero_lt_one (by show apart TY _ (splice cs' 0 cs') = _; rw [splice_all rfl]; exact apart_ep cs' hcl) (.cell _ _ _ _ _ _ _ _ _ rfl (g3.get gb2 (by simp; omega)) rfl Nat.zero_lt_one rfl (.cell _ _ _ _ _ _ _ _ _ rfl gb3 rfl Nat.zero_lt_one rfl (.tmp _ _ _ .nil))), fin G1 G2 G3 g1 g2 g3⟩)
  refine sw (g1.get hn9 (by simp; omega)) fun G2 gb2 g2 gl2 => ?_
  refine sq_nil ?_
  refine y1 2 ?_
  first | refine sl ?_ | refine sq_load TYok rfl rfl rfl (g2.get (g1.get hs9 (by simp; omega)) (by simp; omega)) rfl Nat.zero_lt_one rfl ?_ | refine sq_load TYok rfl rfl rfl (g1.get hs9 (by simp; omega)) rfl Nat.zero_lt_one rfl ?_
  refine sq_nil ?_
  refine y1 6 ?_
  refine sw (g2.get (g1.get hs9 (by simp; omega)) (by simp; omega)) fun G3 gb3 g3 gl3 => ?_
  refine sq_nil ?_
  refine ye 7 ?_
  refine sa ?_
  refine sq_nil ?_
  refine yd ?_
  exact then_normal (aw_ret ⟨True.intro, _, .cell _ _ _ _ _ _ _ _ _ rfl (g3.get (g2.get gb1 (by simp; omega)) (by simp; omega)) rfl Nat.zero_lt_one (by show apart TY _ (splice cs' 0 cs') = _; rw [splice_all rfl]; exact apart_ep cs' hcl) (.cell _ _ _ _ _ _ _ _ _ rfl (g3.get gb2 (by simp; omega)) rfl Nat.zero_lt_one rfl (.cell _ _ _ _ _ _ _ _ _ rfl gb3 rfl Nat.zero_lt_one rfl (.tmp _ _ _ .nil))), fin G1 G2 G3 g1 g2 g3⟩)
  first | refine sl ?_ | refine sq_load TYok rfl rfl rfl (g2.get (g1.get hs9 (by simp; omega)) (by simp; omega)) rfl Nat.zero_lt_one rfl ?_ | refine sq_load TYok rfl rfl rfl (g1.get hs9 (by simp; omega)) rfl Nat.zero_lt_one rfl ?_
  refine sq_nil ?_
  refine y1 0 ?_
  refine sq_load (v := .agg cs') TYok rfl rfl rfl hb9 rfl Nat.zero_lt_one (apart_ep cs' hcl) ?_
  refine sq_nil ?_
  refine y1 4 ?_
  refine sq_storek TYok rfl rfl rfl hb9 rfl Nat.zero_lt_one rfl rfl hcl (by rw [hcl]; exact Nat.le_refl 6) fun G1 gb1 g1 gl1 => ?_
  refine sq_nil ?_
  refine y1 5 ?_
  refine sw (g1.get hn9 (by simp; omega)) fun G2 gb2 g2 gl2 => ?_
  refine sq_nil ?_
  refine y1 6 ?_
  refine sw (g2.get (g1.get hs9 (by simp; omega)) (by simp; omega)) fun G3 gb3 g3 gl3 => ?_
  refine sq_nil ?_
  refine ye 7 ?_
  refine sa ?_
  refine sq_nil ?_
  refine yd ?_
  exact then_normal (aw_ret ⟨True.intro, _, .cell _ _ _ _ _ _ _ _ _ rfl (g3.get (g2.get gb1 (by simp; omega)) (by simp; omega)) rfl Nat.zero_lt_one (by show apart TY _ (splice cs' 0 cs') = _; rw [splice_all rfl]; exact apart_ep cs' hcl) (.cell _ _ _ _ _ _ _ _ _ rfl (g3.get gb2 (by simp; omega)) rfl Nat.zero_lt_one rfl (.cell _ _ _ _ _ _ _ _ _ rfl gb3 rfl Nat.zero_lt_one rfl (.tmp _ _ _ .nil))), fin G1 G2 G3 g1 g2 g3⟩)
  first | refine sl ?_ | refine sq_load TYok rfl rfl rfl (g2.get (g1.get hs9 (by simp; omega)) (by simp; omega)) rfl Nat.zero_lt_one rfl ?_ | refine sq_load TYok rfl rfl rfl (g1.get hs9 (by simp; omega)) rfl Nat.zero_lt_one rfl ?_
  refine sq_nil ?_
  refine y2 0 1 ?_ ?_
  refine sq_load (v := .agg cs') TYok rfl rfl rfl hb9 rfl Nat.zero_lt_one (apart_ep cs' hcl) ?_
  refine sq_nil ?_
  refine y2 1 4 ?_ ?_
  first | refine sl ?_ | refine sq_load TYok rfl rfl rfl (g1.get hn9 (by simp; omega)) rfl Nat.zero_lt_one rfl ?_
  refine sq_nil ?_
  refine y1 4 ?_
  refine sq_storek TYok rfl rfl rfl hb9 rfl Nat.zero_lt_one rfl rfl hcl (by rw [hcl]; exact Nat.le_refl 6) fun G1 gb1 g1 gl1 => ?_
  refine sq_nil ?_
  refine y1 5 ?_
  refine sw (g1.get hn9 (by simp; omega)) fun G2 gb2 g2 gl2 => ?_
  refine sq_nil ?_
  refine y1 6 ?_
  refine sw (g2.get (g1.get hs9 (by simp; omega)) (by simp; omega)) fun G3 gb3 g3 gl3 => ?_
  refine sq_nil ?_
  refine ye 7 ?_
  refine sa ?_
  refine sq_nil ?_
  refine yd ?_
  exact then_normal (aw_ret ⟨True.intro, _, .cell _ _ _ _ _ _ _ _ _ rfl (g3.get (g2.get gb1 (by simp; omega)) (by simp; omega)) rfl Nat.zero_lt_one (by show apart TY _ (splice cs' 0 cs') = _; rw [splice_all rfl]; exact apart_ep cs' hcl) (.cell _ _ _ _ _ _ _ _ _ rfl (g3.get gb2 (by simp; omega)) rfl Nat.zero_lt_one rfl (.cell _ _ _ _ _ _ _ _ _ rfl gb3 rfl Nat.zero_lt_one rfl (.tmp _ _ _ .nil))), fin G1 G2 G3 g1 g2 g3⟩)
  refine sq_storek TYok rfl rfl rfl hb9 rfl Nat.zero_lt_one rfl rfl hcl (by rw [hcl]; exact Nat.le_refl 6) fun G1 gb1 g1 gl1 => ?_
  refine sq_nil ?_
  refine y1 1 ?_
  first | refine sl ?_ | refine sq_load TYok rfl rfl rfl (g1.get hn9 (by simp; omega)) rfl Nat.zero_lt_one rfl ?_
  refine sq_nil ?_
  refine y1 5 ?_
  refine sw (g1.get hn9 (by simp; omega)) fun G2 gb2 g2 gl2 => ?_
  refine sq_nil ?_
  refine y1 6 ?_
  refine sw (g2.get (g1.get hs9 (by simp; omega)) (by simp; omega)) fun G3 gb3 g3 gl3 => ?_
  refine sq_nil ?_
  refine ye 7 ?_
  refine sa ?_
  refine sq_nil ?_
  refine yd ?_
  exact then_normal (aw_ret ⟨True.intro, _, .cell _ _ _ _ _ _ _ _ _ rfl (g3.get (g2.get gb1 (by simp; omega)) (by simp; omega)) rfl Nat.zero_lt_one (by show apart TY _ (splice cs' 0 cs') = _; rw [splice_all rfl]; exact apart_ep cs' hcl) (.cell _ _ _ _ _ _ _ _ _ rfl (g3.get gb2 (by simp; omega)) rfl Nat.zero_lt_one rfl (.cell _ _ _ _ _ _ _ _ _ rfl gb3 rfl Nat.zero_lt_one rfl (.tmp _ _ _ .nil))), fin G1 G2 G3 g1 g2 g3⟩)
  first | refine sl ?_ | refine sq_load TYok rfl rfl rfl (g1.get hn9 (by simp; omega)) rfl Nat.zero_lt_one rfl ?_
  refine sq_nil ?_
  refine y1 0 ?_
  refine sq_load (v := .agg cs') TYok rfl rfl rfl hb9 rfl Nat.zero_lt_one (apart_ep cs' hcl) ?_
  refine sq_nil ?_
  refine y1 4 ?_
  refine sq_storek TYok rfl rfl rfl hb9 rfl Nat.zero_lt_one rfl rfl hcl (by rw [hcl]; exact Nat.le_refl 6) fun G1 gb1 g1 gl1 => ?_
  refine sq_nil ?_
  refine y1 5 ?_
  refine sw (g1.get hn9 (by simp; omega)) fun G2 gb2 g2 gl2 => ?_
  refine sq_nil ?_
  refine y1 6 ?_
  refine sw (g2.get (g1.get hs9 (by simp; omega)) (by simp; omega)) fun G3 gb3 g3 gl3 => ?_
  refine sq_nil ?_
  refine ye 7 ?_
  refine sa ?_
  refine sq_nil ?_
  refine yd ?_
  exact then_normal (aw_ret ⟨True.intro, _, .cell _ _ _ _ _ _ _ _ _ rfl (g3.get (g2.get gb1 (by simp; omega)) (by simp; omega)) rfl Nat.zero_lt_one (by show apart TY _ (splice cs' 0 cs') = _; rw [splice_all rfl]; exact apart_ep cs' hcl) (.cell _ _ _ _ _ _ _ _ _ rfl (g3.get gb2 (by simp; omega)) rfl Nat.zero_lt_one rfl (.cell _ _ _ _ _ _ _ _ _ rfl gb3 rfl Nat.zero_lt_one rfl (.tmp _ _ _ .nil))), fin G1 G2 G3 g1 g2 g3⟩)
end Go.Proofs.Ytmhepmocnnlhnaa.Ab
