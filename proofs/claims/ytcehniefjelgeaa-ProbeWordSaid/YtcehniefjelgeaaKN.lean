/- Package probe's laws: awake. -/
import Derived.Test.YtcehniefjelgeaaKM
namespace Go.Proofs.Ytcehniefjelgeaa.Ab
open Go Go.RowKit
theorem pick_k (c m : Int) (hc : I64 c) (hm : 0 < m) : ∃ x, PS Try.prog 18 [.i c, .i m] (.i x) ∧ x = pick c m ∧ 0 ≤ x ∧ x < m := ⟨_, pick_s c m hc hm, rfl, pick_bd c m hm⟩
theorem ints_t (xs : List Int) (hx : xs.length ≤ 9223372036854775807) : PS Try.prog 17 [ints xs, ints xs] (.b true) := by
  have := ints_s xs xs hx
  rwa [decide_eq_true rfl] at this
theorem k4_same (a b c d : Int) : ceq Try.prog 10 29 [.int .i64 a, .int .i64 b, .int .i64 c, .int .i64 d] [.int .i64 a, .int .i64 b, .int .i64 c, .int .i64 d] = some true := same_of (by kernel_rfl)
set_option maxHeartbeats 8000000 in
theorem awake_s : PS Try.prog 7 [] (.b true) := by
  have w0 := WF_new 2 1 (by omega) (by omega)
  have kb1 : KB (0, 0, 0, 1) := by intro j hj; rcases (by omega : j = 0 ∨ j = 1 ∨ j = 2 ∨ j = 3) with rfl | rfl | rfl | rfl <;> decide
  have kb2 : KB (0, 0, 1, 1) := by intro j hj; rcases (by omega : j = 0 ∨ j = 1 ∨ j = 2 ∨ j = 3) with rfl | rfl | rfl | rfl <;> decide
  obtain ⟨t1, ht1, m1, W1, hr1, hd1, ho1⟩ := intern_run w0 (by omega) kb1
  have ho1' : W1.out = 0 ∧ WF 2 1 m1 [] 1 [((0, 0, 0, 1), 0)] := by
    rcases ho1 with ⟨v, hv, _⟩ | ⟨_, _, _, h⟩ | ⟨_, v, F', h1, h2, h3, h4⟩
    · cases hv
    · simp at h
    · have hv : v = 0 := by omega
      subst hv
      have : F' = [] := by cases h3; rfl
      subst this
      exact ⟨h1, h4⟩
  obtain ⟨hq1, w1⟩ := ho1'
  obtain ⟨t2, ht2, m2, W2, hr2, hd2, ho2⟩ := intern_run w1 (by omega) kb1
  have ho2' : W2.out = 0 ∧ m2 = m1 := by
    rcases ho2 with ⟨v, hv, h1, h2, _⟩ | ⟨h, _⟩ | ⟨h, _⟩
    · simp at hv; exact ⟨by rw [h1]; omega, h2⟩
    · exact absurd (by simp) h
    · exact absurd (by simp) h
  obtain ⟨hq2, rfl⟩ := ho2'
  obtain ⟨t3, ht3, m3, W3, hr3, hd3, ho3⟩ := intern_run w1 (by omega) kb2
  have hq3 : W3.out = -1 := by
    rcases ho3 with ⟨v, hv, h1, h2, _⟩ | ⟨_, h, _⟩ | ⟨_, v, F', _, _, h, _⟩
    · simp at hv
    · exact h
    · cases h
  have hnodes : nodesL 2 m2 = [0] := by
    have := w1.nodes
    simpa [valsN] using this
  have hkids := kids_at 0 (w1.kids _ (List.mem_singleton.2 rfl))
  have hk := kids_s 2 1 (by omega) (by omega) m2 w1.mem.len 0 (by omega)
  have q0 : m2.getD (2 + 4 * 0) 0 = 0 := hkids 0 (by omega)
  have q1 : m2.getD (2 + 4 * 0 + 1) 0 = 0 := hkids 1 (by omega)
  have q2 : m2.getD (2 + 4 * 0 + 2) 0 = 0 := hkids 2 (by omega)
  have q3 : m2.getD (2 + 4 * 0 + 3) 0 = 1 := hkids 3 (by omega)
  rw [q0, q1, q2, q3] at hk
  have hno := nodes_s 2 1 (by omega) (by omega) m2 w1.mem.len fun i hi => by have := w1.mem.slots i hi; omega
  rw [hnodes] at hno
  have hnew := new_s 2 1 (by omega) (by omega)
  have hi1 := intern_s 0 0 0 1
  have hi2 := intern_s 0 0 1 1
  have hi3 := intern_s 0 0 0 0
  have a1 := alone_s 2 1 t1 19 (by omega) (by omega) _ _ _ _ hr1 hd1
  have a2 := alone_s 2 1 t2 19 (by omega) (by omega) _ _ _ _ hr2 hd2
  have a3 := alone_s 2 1 t3 19 (by omega) (by omega) _ _ _ _ hr3 hd3
  have hbad := step_bad 2 1 (by omega) (by omega) (internW 0 0 0 0) rfl
  have hr := right_s 2 1 (by omega) (by omega)
  clear hr1 hr2 hr3
  refine ps_in TYok Try.func7 (by kernel_rfl) Try.ntmps7 rfl rfl rfl (cl_b _) fun H => ?_
  (repeat' (first | (refine sq_id ?_; first | refine sq_nil ?_ | refine sq_move rfl rfl rfl ?_ | refine sq_assign rfl rfl rfl ?_ | refine sq_skip rfl rfl ?_ | refine sq_t TYok TYz rfl rfl rfl True.intro so ?_ | refine sq_f TYok TYz rfl rfl rfl True.intro so ?_ | refine sq_pure TYok TYz false rfl rfl rfl sd ?_ | refine sq_pure TYok TYz true rfl rfl rfl sd ?_ | refine sq_load TYok rfl rfl rfl (by assumption) (by rfl) (by first | exact Nat.zero_lt_one | assumption | omega) (by rfl) ?_ | refine sq_lit TYok TYz rfl rfl rfl rfl rfl rfl rfl rfl ?_ | refine sq_ixa TYok rfl rfl rfl rfl rfl rfl rfl sd ?_ | refine sq_ixr TYok rfl rfl rfl rfl rfl rfl rfl sd ?_) | (refine rg_id ?_; first | refine rg_fin ?_ | refine rg_move rfl rfl rfl ?_ | refine rg_assign rfl rfl rfl ?_ | refine rg_skip rfl rfl ?_ | refine rg_t TYok TYz rfl rfl rfl True.intro so ?_ | refine rg_f TYok TYz rfl rfl rfl True.intro so ?_ | refine rg_pure TYok TYz false rfl rfl rfl sd ?_ | refine rg_pure TYok TYz true rfl rfl rfl sd ?_ | refine rg_load TYok rfl rfl rfl (by assumption) (by rfl) (by first | exact Nat.zero_lt_one | assumption | omega) (by rfl) ?_ | refine rg_lit TYok TYz rfl rfl rfl rfl rfl rfl rfl rfl ?_ | refine rg_ixa TYok rfl rfl rfl rfl rfl rfl rfl sd ?_ | refine rg_ixr TYok rfl rfl rfl rfl rfl rfl rfl sd ?_) | refine aw_rseq ?_ | refine aw_seq ?_ | refine aw_region ?_ | refine aw_skip ?_ | refine aw_true rfl ?_ | refine aw_false rfl ?_ | refine aw_d0seq rfl (by kernel_rfl) ?_ | refine aw_d0 rfl (by kernel_rfl) ?_ | refine aw_block ?_ | refine aw_exit ?_ | refine then_ret ?_ | refine then_exit ?_ | refine then_normal ?_ | refine blk_ret ?_ | refine blk_normal ?_ | refine blk_exit ?_ | refine blk_pass rfl ?_))
  refine sq_newk TYok TYz false rfl rfl rfl True.intro fun H1 hb1 ho1 hl1 => ?_
  refine sq_storek TYok rfl rfl rfl hb1 rfl Nat.zero_lt_one rfl rfl rfl (Nat.le_of_ble_eq_true rfl) fun H2 hb2 ho2 hl2 => ?_
  (repeat' (first | (refine sq_id ?_; first | refine sq_nil ?_ | refine sq_move rfl rfl rfl ?_ | refine sq_assign rfl rfl rfl ?_ | refine sq_skip rfl rfl ?_ | refine sq_t TYok TYz rfl rfl rfl True.intro so ?_ | refine sq_f TYok TYz rfl rfl rfl True.intro so ?_ | refine sq_pure TYok TYz false rfl rfl rfl sd ?_ | refine sq_pure TYok TYz true rfl rfl rfl sd ?_ | refine sq_load TYok rfl rfl rfl (by assumption) (by rfl) (by first | exact Nat.zero_lt_one | assumption | omega) (by rfl) ?_ | refine sq_lit TYok TYz rfl rfl rfl rfl rfl rfl rfl rfl ?_ | refine sq_ixa TYok rfl rfl rfl rfl rfl rfl rfl sd ?_ | refine sq_ixr TYok rfl rfl rfl rfl rfl rfl rfl sd ?_ | refine rg_ps rfl rfl rfl hnew (LeL.refl _) ?_ | refine rg_ps rfl rfl rfl hi1 (LeL.refl _) ?_ | refine rg_ps rfl rfl rfl a1 (LeL.refl _) ?_ | refine rg_new TYok TYz false rfl rfl rfl True.intro ?_) | (refine rg_id ?_; first | refine rg_fin ?_ | refine rg_move rfl rfl rfl ?_ | refine rg_assign rfl rfl rfl ?_ | refine rg_skip rfl rfl ?_ | refine rg_t TYok TYz rfl rfl rfl True.intro so ?_ | refine rg_f TYok TYz rfl rfl rfl True.intro so ?_ | refine rg_pure TYok TYz false rfl rfl rfl sd ?_ | refine rg_pure TYok TYz true rfl rfl rfl sd ?_ | refine rg_load TYok rfl rfl rfl (by assumption) (by rfl) (by first | exact Nat.zero_lt_one | assumption | omega) (by rfl) ?_ | refine rg_lit TYok TYz rfl rfl rfl rfl rfl rfl rfl rfl ?_ | refine rg_ixa TYok rfl rfl rfl rfl rfl rfl rfl sd ?_ | refine rg_ixr TYok rfl rfl rfl rfl rfl rfl rfl sd ?_ | refine rg_ps rfl rfl rfl hnew (LeL.refl _) ?_ | refine rg_ps rfl rfl rfl hi1 (LeL.refl _) ?_ | refine rg_ps rfl rfl rfl a1 (LeL.refl _) ?_ | refine rg_new TYok TYz false rfl rfl rfl True.intro ?_) | refine aw_rseq ?_ | refine aw_seq ?_ | refine aw_region ?_ | refine aw_skip ?_ | refine aw_true rfl ?_ | refine aw_false rfl ?_ | refine aw_d0seq rfl (by kernel_rfl) ?_ | refine aw_d0 rfl (by kernel_rfl) ?_ | refine aw_block ?_ | refine aw_exit ?_ | refine then_ret ?_ | refine then_exit ?_ | refine then_normal ?_ | refine blk_ret ?_ | refine blk_normal ?_ | refine blk_exit ?_ | refine blk_pass rfl ?_ | refine rg_ps rfl rfl rfl hnew (LeL.refl _) ?_ | refine rg_ps rfl rfl rfl hi1 (LeL.refl _) ?_ | refine rg_ps rfl rfl rfl a1 (LeL.refl _) ?_ | refine rg_new TYok TYz false rfl rfl rfl True.intro ?_))
  refine rg_fin1 fun H3 hb3 ho3 hl3 => ?_
  have e2 : H2.length = H1.length := hl2
  have e1 : H1.length = H.length + 1 := hl1
  have e3 : H3.length = H2.length + 1 := hl3
  have c23 := ho3.get0 hb2
  refine sq_storek TYok rfl rfl rfl hb3 rfl Nat.zero_lt_one rfl rfl rfl (Nat.le_of_ble_eq_true rfl) fun H4 hb4 ho4 hl4 => ?_
  have c24 := ho4.get c23 (by simp; omega)
  (repeat' (first | (refine sq_id ?_; first | refine sq_nil ?_ | refine sq_move rfl rfl rfl ?_ | refine sq_assign rfl rfl rfl ?_ | refine sq_skip rfl rfl ?_ | refine sq_t TYok TYz rfl rfl rfl True.intro so ?_ | refine sq_f TYok TYz rfl rfl rfl True.intro so ?_ | refine sq_pure TYok TYz false rfl rfl rfl sd ?_ | refine sq_pure TYok TYz true rfl rfl rfl sd ?_ | refine sq_load TYok rfl rfl rfl (by assumption) (by rfl) (by first | exact Nat.zero_lt_one | assumption | omega) (by rfl) ?_ | refine sq_lit TYok TYz rfl rfl rfl rfl rfl rfl rfl rfl ?_ | refine sq_ixa TYok rfl rfl rfl rfl rfl rfl rfl sd ?_ | refine sq_ixr TYok rfl rfl rfl rfl rfl rfl rfl sd ?_ | refine rg_ps rfl rfl rfl hi1 (LeL.refl _) ?_ | refine rg_ps rfl rfl rfl a2 (LeL.refl _) ?_ | refine rg_new TYok TYz false rfl rfl rfl True.intro ?_) | (refine rg_id ?_; first | refine rg_fin ?_ | refine rg_move rfl rfl rfl ?_ | refine rg_assign rfl rfl rfl ?_ | refine rg_skip rfl rfl ?_ | refine rg_t TYok TYz rfl rfl rfl True.intro so ?_ | refine rg_f TYok TYz rfl rfl rfl True.intro so ?_ | refine rg_pure TYok TYz false rfl rfl rfl sd ?_ | refine rg_pure TYok TYz true rfl rfl rfl sd ?_ | refine rg_load TYok rfl rfl rfl (by assumption) (by rfl) (by first | exact Nat.zero_lt_one | assumption | omega) (by rfl) ?_ | refine rg_lit TYok TYz rfl rfl rfl rfl rfl rfl rfl rfl ?_ | refine rg_ixa TYok rfl rfl rfl rfl rfl rfl rfl sd ?_ | refine rg_ixr TYok rfl rfl rfl rfl rfl rfl rfl sd ?_ | refine rg_ps rfl rfl rfl hi1 (LeL.refl _) ?_ | refine rg_ps rfl rfl rfl a2 (LeL.refl _) ?_ | refine rg_new TYok TYz false rfl rfl rfl True.intro ?_) | refine aw_rseq ?_ | refine aw_seq ?_ | refine aw_region ?_ | refine aw_skip ?_ | refine aw_true rfl ?_ | refine aw_false rfl ?_ | refine aw_d0seq rfl (by kernel_rfl) ?_ | refine aw_d0 rfl (by kernel_rfl) ?_ | refine aw_block ?_ | refine aw_exit ?_ | refine then_ret ?_ | refine then_exit ?_ | refine then_normal ?_ | refine blk_ret ?_ | refine blk_normal ?_ | refine blk_exit ?_ | refine blk_pass rfl ?_ | refine rg_ps rfl rfl rfl hi1 (LeL.refl _) ?_ | refine rg_ps rfl rfl rfl a2 (LeL.refl _) ?_ | refine rg_new TYok TYz false rfl rfl rfl True.intro ?_))
  refine rg_fin1 fun H5 hb5 ho5 hl5 => ?_
  have e4 : H4.length = H3.length := hl4
  have e5 : H5.length = H4.length + 1 := hl5
  have c25 := ho5.get0 c24
  have c45 := ho5.get0 hb4
  refine sq_storek TYok rfl rfl rfl hb5 rfl Nat.zero_lt_one rfl rfl rfl (Nat.le_of_ble_eq_true rfl) fun H6 hb6 ho6 hl6 => ?_
  have e6 : H6.length = H5.length := hl6
  have c26 := ho6.get c25 (by simp; omega)
  have c46 := ho6.get c45 (by simp; omega)
  (repeat' (first | (refine sq_id ?_; first | refine sq_nil ?_ | refine sq_move rfl rfl rfl ?_ | refine sq_assign rfl rfl rfl ?_ | refine sq_skip rfl rfl ?_ | refine sq_t TYok TYz rfl rfl rfl True.intro so ?_ | refine sq_f TYok TYz rfl rfl rfl True.intro so ?_ | refine sq_pure TYok TYz false rfl rfl rfl sd ?_ | refine sq_pure TYok TYz true rfl rfl rfl sd ?_ | refine sq_load TYok rfl rfl rfl (by assumption) (by rfl) (by first | exact Nat.zero_lt_one | assumption | omega) (by rfl) ?_ | refine sq_lit TYok TYz rfl rfl rfl rfl rfl rfl rfl rfl ?_ | refine sq_ixa TYok rfl rfl rfl rfl rfl rfl rfl sd ?_ | refine sq_ixr TYok rfl rfl rfl rfl rfl rfl rfl sd ?_ | refine rg_ps rfl rfl rfl hi2 (LeL.refl _) ?_ | refine rg_ps rfl rfl rfl a3 (LeL.refl _) ?_ | refine rg_new TYok TYz false rfl rfl rfl True.intro ?_) | (refine rg_id ?_; first | refine rg_fin ?_ | refine rg_move rfl rfl rfl ?_ | refine rg_assign rfl rfl rfl ?_ | refine rg_skip rfl rfl ?_ | refine rg_t TYok TYz rfl rfl rfl True.intro so ?_ | refine rg_f TYok TYz rfl rfl rfl True.intro so ?_ | refine rg_pure TYok TYz false rfl rfl rfl sd ?_ | refine rg_pure TYok TYz true rfl rfl rfl sd ?_ | refine rg_load TYok rfl rfl rfl (by assumption) (by rfl) (by first | exact Nat.zero_lt_one | assumption | omega) (by rfl) ?_ | refine rg_lit TYok TYz rfl rfl rfl rfl rfl rfl rfl rfl ?_ | refine rg_ixa TYok rfl rfl rfl rfl rfl rfl rfl sd ?_ | refine rg_ixr TYok rfl rfl rfl rfl rfl rfl rfl sd ?_ | refine rg_ps rfl rfl rfl hi2 (LeL.refl _) ?_ | refine rg_ps rfl rfl rfl a3 (LeL.refl _) ?_ | refine rg_new TYok TYz false rfl rfl rfl True.intro ?_) | refine aw_rseq ?_ | refine aw_seq ?_ | refine aw_region ?_ | refine aw_skip ?_ | refine aw_true rfl ?_ | refine aw_false rfl ?_ | refine aw_d0seq rfl (by kernel_rfl) ?_ | refine aw_d0 rfl (by kernel_rfl) ?_ | refine aw_block ?_ | refine aw_exit ?_ | refine then_ret ?_ | refine then_exit ?_ | refine then_normal ?_ | refine blk_ret ?_ | refine blk_normal ?_ | refine blk_exit ?_ | refine blk_pass rfl ?_ | refine rg_ps rfl rfl rfl hi2 (LeL.refl _) ?_ | refine rg_ps rfl rfl rfl a3 (LeL.refl _) ?_ | refine rg_new TYok TYz false rfl rfl rfl True.intro ?_))
  refine rg_fin1 fun H7 hb7 ho7 hl7 => ?_
  have e7 : H7.length = H6.length + 1 := hl7
  have c27 := ho7.get0 c26
  have c47 := ho7.get0 c46
  have c67 := ho7.get0 hb6
  refine sq_storek TYok rfl rfl rfl hb7 rfl Nat.zero_lt_one rfl rfl rfl (Nat.le_of_ble_eq_true rfl) fun H8 hb8 ho8 hl8 => ?_
  have e8 : H8.length = H7.length := hl8
  have c28 := ho8.get c27 (by simp; omega)
  have c48 := ho8.get c47 (by simp; omega)
  have c68 := ho8.get c67 (by simp; omega)
  (repeat' (first | (refine sq_id ?_; first | refine sq_nil ?_ | refine sq_move rfl rfl rfl ?_ | refine sq_assign rfl rfl rfl ?_ | refine sq_skip rfl rfl ?_ | refine sq_t TYok TYz rfl rfl rfl True.intro so ?_ | refine sq_f TYok TYz rfl rfl rfl True.intro so ?_ | refine sq_pure TYok TYz false rfl rfl rfl sd ?_ | refine sq_pure TYok TYz true rfl rfl rfl sd ?_ | refine sq_load TYok rfl rfl rfl (by assumption) (by rfl) (by first | exact Nat.zero_lt_one | assumption | omega) (by rfl) ?_ | refine sq_lit TYok TYz rfl rfl rfl rfl rfl rfl rfl rfl ?_ | refine sq_ixa TYok rfl rfl rfl rfl rfl rfl rfl sd ?_ | refine sq_ixr TYok rfl rfl rfl rfl rfl rfl rfl sd ?_ | refine sq_ps rfl rfl rfl hk (LeL.refl _) ?_) | (refine rg_id ?_; first | refine rg_fin ?_ | refine rg_move rfl rfl rfl ?_ | refine rg_assign rfl rfl rfl ?_ | refine rg_skip rfl rfl ?_ | refine rg_t TYok TYz rfl rfl rfl True.intro so ?_ | refine rg_f TYok TYz rfl rfl rfl True.intro so ?_ | refine rg_pure TYok TYz false rfl rfl rfl sd ?_ | refine rg_pure TYok TYz true rfl rfl rfl sd ?_ | refine rg_load TYok rfl rfl rfl (by assumption) (by rfl) (by first | exact Nat.zero_lt_one | assumption | omega) (by rfl) ?_ | refine rg_lit TYok TYz rfl rfl rfl rfl rfl rfl rfl rfl ?_ | refine rg_ixa TYok rfl rfl rfl rfl rfl rfl rfl sd ?_ | refine rg_ixr TYok rfl rfl rfl rfl rfl rfl rfl sd ?_ | refine sq_ps rfl rfl rfl hk (LeL.refl _) ?_) | refine aw_rseq ?_ | refine aw_seq ?_ | refine aw_region ?_ | refine aw_skip ?_ | refine aw_true rfl ?_ | refine aw_false rfl ?_ | refine aw_d0seq rfl (by kernel_rfl) ?_ | refine aw_d0 rfl (by kernel_rfl) ?_ | refine aw_block ?_ | refine aw_exit ?_ | refine then_ret ?_ | refine then_exit ?_ | refine then_normal ?_ | refine blk_ret ?_ | refine blk_normal ?_ | refine blk_exit ?_ | refine blk_pass rfl ?_ | refine sq_ps rfl rfl rfl hk (LeL.refl _) ?_))
  refine sq_newk TYok TYz false rfl rfl rfl True.intro fun H9 hb9 ho9 hl9 => ?_
  have e9 : H9.length = H8.length + 1 := hl9
  have c29 := ho9.get0 c28
  have c49 := ho9.get0 c48
  have c69 := ho9.get0 c68
  have c89 := ho9.get0 hb8
  refine sq_storek TYok rfl rfl rfl hb9 rfl Nat.zero_lt_one rfl rfl rfl (Nat.le_of_ble_eq_true rfl) fun H10 hb10 ho10 hl10 => ?_
  have e10 : H10.length = H9.length := hl10
  have c2A := ho10.get c29 (by simp; omega)
  have c4A := ho10.get c49 (by simp; omega)
  have c6A := ho10.get c69 (by simp; omega)
  have c8A := ho10.get c89 (by simp; omega)
  (repeat' (first | (refine sq_id ?_; first | refine sq_nil ?_ | refine sq_move rfl rfl rfl ?_ | refine sq_assign rfl rfl rfl ?_ | refine sq_skip rfl rfl ?_ | refine sq_t TYok TYz rfl rfl rfl True.intro so ?_ | refine sq_f TYok TYz rfl rfl rfl True.intro so ?_ | refine sq_pure TYok TYz false rfl rfl rfl sd ?_ | refine sq_pure TYok TYz true rfl rfl rfl sd ?_ | refine sq_load TYok rfl rfl rfl (by assumption) (by rfl) (by first | exact Nat.zero_lt_one | assumption | omega) (by rfl) ?_ | refine sq_lit TYok TYz rfl rfl rfl rfl rfl rfl rfl rfl ?_ | refine sq_ixa TYok rfl rfl rfl rfl rfl rfl rfl sd ?_ | refine sq_ixr TYok rfl rfl rfl rfl rfl rfl rfl sd ?_ | refine rg_ps rfl rfl rfl hi3 (LeL.refl _) ?_ | refine rg_ps rfl rfl rfl hbad (.cons (.refl _) (.cons (le_nil _ _ _) (.cons (.refl _) .nil))) ?_ | refine rg_new TYok TYz false rfl rfl rfl True.intro ?_) | (refine rg_id ?_; first | refine rg_fin ?_ | refine rg_move rfl rfl rfl ?_ | refine rg_assign rfl rfl rfl ?_ | refine rg_skip rfl rfl ?_ | refine rg_t TYok TYz rfl rfl rfl True.intro so ?_ | refine rg_f TYok TYz rfl rfl rfl True.intro so ?_ | refine rg_pure TYok TYz false rfl rfl rfl sd ?_ | refine rg_pure TYok TYz true rfl rfl rfl sd ?_ | refine rg_load TYok rfl rfl rfl (by assumption) (by rfl) (by first | exact Nat.zero_lt_one | assumption | omega) (by rfl) ?_ | refine rg_lit TYok TYz rfl rfl rfl rfl rfl rfl rfl rfl ?_ | refine rg_ixa TYok rfl rfl rfl rfl rfl rfl rfl sd ?_ | refine rg_ixr TYok rfl rfl rfl rfl rfl rfl rfl sd ?_ | refine rg_ps rfl rfl rfl hi3 (LeL.refl _) ?_ | refine rg_ps rfl rfl rfl hbad (.cons (.refl _) (.cons (le_nil _ _ _) (.cons (.refl _) .nil))) ?_ | refine rg_new TYok TYz false rfl rfl rfl True.intro ?_) | refine aw_rseq ?_ | refine aw_seq ?_ | refine aw_region ?_ | refine aw_skip ?_ | refine aw_true rfl ?_ | refine aw_false rfl ?_ | refine aw_d0seq rfl (by kernel_rfl) ?_ | refine aw_d0 rfl (by kernel_rfl) ?_ | refine aw_block ?_ | refine aw_exit ?_ | refine then_ret ?_ | refine then_exit ?_ | refine then_normal ?_ | refine blk_ret ?_ | refine blk_normal ?_ | refine blk_exit ?_ | refine blk_pass rfl ?_ | refine rg_ps rfl rfl rfl hi3 (LeL.refl _) ?_ | refine rg_ps rfl rfl rfl hbad (.cons (.refl _) (.cons (le_nil _ _ _) (.cons (.refl _) .nil))) ?_ | refine rg_new TYok TYz false rfl rfl rfl True.intro ?_))
  refine rg_fin1 fun H11 hb11 ho11 hl11 => ?_
  have e11 : H11.length = H10.length + 1 := hl11
  have c2B := ho11.get0 c2A
  have c4B := ho11.get0 c4A
  have c6B := ho11.get0 c6A
  have c8B := ho11.get0 c8A
  have cAB := ho11.get0 hb10
  refine sq_storek TYok rfl rfl rfl hb11 rfl Nat.zero_lt_one rfl rfl rfl (Nat.le_of_ble_eq_true rfl) fun H12 hb12 ho12 hl12 => ?_
  have c2C := ho12.get c2B (by simp; omega)
  have c4C := ho12.get c4B (by simp; omega)
  have c6C := ho12.get c6B (by simp; omega)
  have c8C := ho12.get c8B (by simp; omega)
  have cAC := ho12.get cAB (by simp; omega)
  (repeat' (first | (refine sq_id ?_; first | refine sq_nil ?_ | refine sq_move rfl rfl rfl ?_ | refine sq_assign rfl rfl rfl ?_ | refine sq_skip rfl rfl ?_ | refine sq_t TYok TYz rfl rfl rfl True.intro so ?_ | refine sq_f TYok TYz rfl rfl rfl True.intro so ?_ | refine sq_pure TYok TYz false rfl rfl rfl sd ?_ | refine sq_pure TYok TYz true rfl rfl rfl sd ?_ | refine sq_load TYok rfl rfl rfl (by assumption) (by rfl) (by first | exact Nat.zero_lt_one | assumption | omega) (by rfl) ?_ | refine sq_lit TYok TYz rfl rfl rfl rfl rfl rfl rfl rfl ?_ | refine sq_ixa TYok rfl rfl rfl rfl rfl rfl rfl sd ?_ | refine sq_ixr TYok rfl rfl rfl rfl rfl rfl rfl sd ?_ | refine sq_eqv true rfl rfl rfl rfl rfl (us := [.int .i64 0, .int .i64 0, .int .i64 0, .int .i64 1]) (vs := [.int .i64 0, .int .i64 0, .int .i64 0, .int .i64 1]) rfl rfl (by kernel_rfl) (k4_same _ _ _ _) (by kernel_rfl) ?_ | refine sq_ps rfl rfl rfl hno (LeL.refl _) ?_ | refine sq_ps rfl rfl rfl (ints_t [0] (by simp)) (.cons (.refl _) (.cons (le_lst (by intro h; first | exact h | cases h) (fun i hi => by rcases i with _ | _ | _ | _ | _ | _ | _ | _ | i <;> first | rfl | (exact absurd hi (by simp)) | omega)) .nil)) ?_ | refine sq_ps rfl rfl rfl hr (LeL.refl _) ?_ | refine sq_ps rfl rfl rfl right_f (LeL.refl _) ?_) | (refine rg_id ?_; first | refine rg_fin ?_ | refine rg_move rfl rfl rfl ?_ | refine rg_assign rfl rfl rfl ?_ | refine rg_skip rfl rfl ?_ | refine rg_t TYok TYz rfl rfl rfl True.intro so ?_ | refine rg_f TYok TYz rfl rfl rfl True.intro so ?_ | refine rg_pure TYok TYz false rfl rfl rfl sd ?_ | refine rg_pure TYok TYz true rfl rfl rfl sd ?_ | refine rg_load TYok rfl rfl rfl (by assumption) (by rfl) (by first | exact Nat.zero_lt_one | assumption | omega) (by rfl) ?_ | refine rg_lit TYok TYz rfl rfl rfl rfl rfl rfl rfl rfl ?_ | refine rg_ixa TYok rfl rfl rfl rfl rfl rfl rfl sd ?_ | refine rg_ixr TYok rfl rfl rfl rfl rfl rfl rfl sd ?_ | refine sq_eqv true rfl rfl rfl rfl rfl (us := [.int .i64 0, .int .i64 0, .int .i64 0, .int .i64 1]) (vs := [.int .i64 0, .int .i64 0, .int .i64 0, .int .i64 1]) rfl rfl (by kernel_rfl) (k4_same _ _ _ _) (by kernel_rfl) ?_ | refine sq_ps rfl rfl rfl hno (LeL.refl _) ?_ | refine sq_ps rfl rfl rfl (ints_t [0] (by simp)) (.cons (.refl _) (.cons (le_lst (by intro h; first | exact h | cases h) (fun i hi => by rcases i with _ | _ | _ | _ | _ | _ | _ | _ | i <;> first | rfl | (exact absurd hi (by simp)) | omega)) .nil)) ?_ | refine sq_ps rfl rfl rfl hr (LeL.refl _) ?_ | refine sq_ps rfl rfl rfl right_f (LeL.refl _) ?_) | refine aw_rseq ?_ | refine aw_seq ?_ | refine aw_region ?_ | refine aw_skip ?_ | refine aw_true rfl ?_ | refine aw_false rfl ?_ | refine aw_d0seq rfl (by kernel_rfl) ?_ | refine aw_d0 rfl (by kernel_rfl) ?_ | refine aw_block ?_ | refine aw_exit ?_ | refine then_ret ?_ | refine then_exit ?_ | refine then_normal ?_ | refine blk_ret ?_ | refine blk_normal ?_ | refine blk_exit ?_ | refine blk_pass rfl ?_ | refine sq_eqv true rfl rfl rfl rfl rfl (us := [.int .i64 0, .int .i64 0, .int .i64 0, .int .i64 1]) (vs := [.int .i64 0, .int .i64 0, .int .i64 0, .int .i64 1]) rfl rfl (by kernel_rfl) (k4_same _ _ _ _) (by kernel_rfl) ?_ | refine sq_ps rfl rfl rfl hno (LeL.refl _) ?_ | refine sq_ps rfl rfl rfl (ints_t [0] (by simp)) (.cons (.refl _) (.cons (le_lst (by intro h; first | exact h | cases h) (fun i hi => by rcases i with _ | _ | _ | _ | _ | _ | _ | _ | i <;> first | rfl | (exact absurd hi (by simp)) | omega)) .nil)) ?_ | refine sq_ps rfl rfl rfl hr (LeL.refl _) ?_ | refine sq_ps rfl rfl rfl right_f (LeL.refl _) ?_))
  ((try refine aw_ret ?_); (repeat (first | refine then_ret ?_ | refine blk_ret ?_)); refine fin_t True.intro rfl rfl ?_)
  have hx1 : Ext H H1 := ho1.ext
  have hx2 := hx1.oth ho2 (by rintro _ ⟨⟩; omega)
  have hx4 := (hx2.trans ho3.ext).oth ho4 (by rintro _ ⟨⟩; omega)
  have hx6 := (hx4.trans ho5.ext).oth ho6 (by rintro _ ⟨⟩; omega)
  have hx8 := (hx6.trans ho7.ext).oth ho8 (by rintro _ ⟨⟩; omega)
  have hxA := (hx8.trans ho9.ext).oth ho10 (by rintro _ ⟨⟩; omega)
  exact ⟨(hxA.trans ho11.ext).oth ho12 (by rintro _ ⟨⟩; omega), rfl⟩
theorem mem_getD {α : Type} (xs : List α) (d : α) (k : Nat) (h : k < xs.length) : xs.getD k d ∈ xs := by
  rw [getD_at xs k h]; exact List.getElem_mem h
theorem k4_agg : isAggT Try.prog 29 = true := by kernel_rfl
theorem k4_guard : Try.prog.eqGuardType Try.prog.depth 29 = false := by kernel_rfl
/-- one more is put, or found, where there is room -/
theorem intern_room {S N C : Nat} {m : List Int} {F : List Nat} {had : List (Kid × Nat)} (h : WF S N m F C had) (hC : C ≤ 1000) {k : Kid} (hk : KB k) (hroom : had.length < min S N) : ∃ t : Nat, t ≤ 5 * S + 9 ∧ ∃ m' w', Runs S N t m (sW k 0 0 0 0 0) m' w' ∧ w'.done = true ∧
    ∃ (v : Nat) (F' : List Nat) (C' : Nat) (had' : List (Kid × Nat)), w'.out = v ∧ v < N ∧ WF S N m' F' C' had' ∧ C' ≤ C + 1 ∧ had'.length ≤ had.length + 1 ∧ kidsAt S m' v = k := by
  obtain ⟨t, h1, m', w', h2, h3, h4⟩ := intern_run h hC hk
  refine ⟨t, h1, m', w', h2, h3, ?_⟩
  rcases h4 with ⟨v, hv, ho, rfl, _⟩ | ⟨_, _, _, hf⟩ | ⟨_, v, F', ho, hv, _, hw⟩
  · exact ⟨v, F, C, had, ho, h.lt.2 _ hv, h, by omega, by omega, h.kids _ hv⟩
  · omega
  · exact ⟨v, F', C + 1, had ++ [(k, v)], ho, hv, hw, by omega, by simp, hw.kids (k, v) (by simp)⟩
theorem kids_of {S N C : Nat} {m : List Int} {F : List Nat} {had : List (Kid × Nat)} (h : WF S N m F C had) {v : Nat} (hv : v < N) {k : Kid} (hk : kidsAt S m v = k) : PS Try.prog 13 [.agg (tb S N), ints m, .i v] (.tup [.agg (k4 k.1 k.2.1 k.2.2.1 k.2.2.2), .b true]) := by
  have := kids_s S N h.mem.S1 h.mem.N1 m h.mem.len v hv
  have h2 := kids_at v hk
  rw [show m.getD (S + 4 * v) 0 = k.1 from h2 0 (by omega), h2 1 (by omega), h2 2 (by omega), h2 3 (by omega)] at this
  exact this
abbrev k4blk (a b c d : Int) : Blk := ⟨29, 4, 1, fun _ => k4 a b c d⟩
end Go.Proofs.Ytcehniefjelgeaa.Ab
