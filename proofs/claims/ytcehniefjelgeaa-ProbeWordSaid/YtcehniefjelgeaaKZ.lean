/- The words that a worker changes: the law. -/
import Derived.Test.YtcehniefjelgeaaKX
namespace Go.Proofs.Ytcehniefjelgeaa.Ab
open Go Go.RowKit
theorem kz_ceq (a b c d a' b' c' d' : Int) : ceq Try.prog 10 29 [.int .i64 a, .int .i64 b, .int .i64 c, .int .i64 d] [.int .i64 a', .int .i64 b', .int .i64 c', .int .i64 d'] = some (decide ((a, b, c, d) = (a', b', c', d'))) := by
  have h : ceq Try.prog 10 29 [.int .i64 a, .int .i64 b, .int .i64 c, .int .i64 d] [.int .i64 a', .int .i64 b', .int .i64 c', .int .i64 d'] = some ((a == a') && ((b == b') && ((c == c') && ((d == d') && true)))) := by kernel_rfl
  rw [h]
  congr 1
  simp only [Prod.mk.injEq, Bool.decide_and, Bool.and_true]
  rfl
theorem kz_ceqK (k x : Kid) : ceq Try.prog 10 29 [.int .i64 k.1, .int .i64 k.2.1, .int .i64 k.2.2.1, .int .i64 k.2.2.2] [.int .i64 x.1, .int .i64 x.2.1, .int .i64 x.2.2.1, .int .i64 x.2.2.2] = some (decide (k = x)) := kz_ceq _ _ _ _ _ _ _ _
/-- how many slots are others' than before, ahead of a place -/
def chg (s : Option Nat) (j : Nat) : Int := match s with | some s => if s < j then 1 else 0 | none => 0
theorem chg_at {s : Option Nat} {j : Nat} (h : s = some j) : chg s j = 0 ∧ chg s (j + 1) = 1 := by
  subst h
  unfold chg
  exact ⟨if_neg (by omega), if_pos (by omega)⟩
theorem chg_not {s : Option Nat} {j : Nat} (h : s ≠ some j) : chg s (j + 1) = chg s j := by
  cases s with
  | none => rfl
  | some s =>
    have : s ≠ j := fun e => h (by rw [e])
    unfold chg
    by_cases h1 : s < j
    · show (if s < j + 1 then (1 : Int) else 0) = if s < j then 1 else 0
      rw [if_pos h1, if_pos (by omega)]
    · show (if s < j + 1 then (1 : Int) else 0) = if s < j then 1 else 0
      rw [if_neg h1, if_neg (by omega)]
theorem chg_01 (s : Option Nat) (j : Nat) : 0 ≤ chg s j ∧ chg s j ≤ 1 := by
  cases s with
  | none => exact ⟨Int.le_refl 0, show (0 : Int) ≤ 1 by decide⟩
  | some s => unfold chg; by_cases h : s < j <;> simp [h]
set_option maxHeartbeats 16000000 in
theorem pword_s (a b : Int) (raw : List Four) (kd : Four) (ha : I64 a) (hb : I64 b) (hr : raw.length ≤ maxLen ∧ ∀ x ∈ raw, F64 x) (hk : F64 kd) : SC true Try.prog 5 [.i a, .i b, accs raw, .agg (fours kd)] [] (fun r _ => r = .b true) := by
  refine sc_in TYok Try.func5 (by kernel_rfl) Try.ntmps5 rfl rfl rfl ?_
  obtain ⟨S, N, hS1, hS9, hN, hT⟩ := raw_table a b ha hb
  obtain ⟨k0, k1, k2, k3⟩ := kd
  obtain ⟨x0, x1, x2, x3, hkb, hlk⟩ := raw_kids k0 k1 k2 k3 hk.1 hk.2.1 hk.2.2.1 hk.2.2.2
  have hfil := filled_s S N ⟨hS1, hS9⟩ hN raw hr
  have hin := intern_s x0 x1 x2 x3
  refine aw_seq ?_
  refine aw_region ?_
  refine sq_newk TYok TYz false rfl rfl rfl True.intro fun H1 hb1 ho1 hl1 => ?_
  have e1 : H1.length = 1 := hl1
  (repeat' (first | (refine sq_id ?_; first | refine sq_nil ?_ | refine sq_move rfl rfl rfl ?_ | refine sq_assign rfl rfl rfl ?_ | refine sq_skip rfl rfl ?_ | refine sq_t TYok TYz rfl rfl rfl True.intro so ?_ | refine sq_f TYok TYz rfl rfl rfl True.intro so ?_ | refine sq_pure TYok TYz false rfl rfl rfl sd ?_ | refine sq_pure TYok TYz true rfl rfl rfl sd ?_ | refine sq_load TYok rfl rfl rfl (by assumption) (by rfl) (by first | exact Nat.zero_lt_one | assumption | omega) (by rfl) ?_ | refine sq_lit TYok TYz rfl rfl rfl rfl rfl rfl rfl rfl ?_ | refine sq_ixa TYok rfl rfl rfl rfl rfl rfl rfl sd ?_ | refine sq_ixr TYok rfl rfl rfl rfl rfl rfl rfl sd ?_ | refine sq_ps rfl rfl rfl awake_s .nil ?_ | refine sq_ps rfl rfl rfl hT (LeL.refl _) ?_) | (refine rg_id ?_; first | refine rg_fin ?_ | refine rg_move rfl rfl rfl ?_ | refine rg_assign rfl rfl rfl ?_ | refine rg_skip rfl rfl ?_ | refine rg_t TYok TYz rfl rfl rfl True.intro so ?_ | refine rg_f TYok TYz rfl rfl rfl True.intro so ?_ | refine rg_pure TYok TYz false rfl rfl rfl sd ?_ | refine rg_pure TYok TYz true rfl rfl rfl sd ?_ | refine rg_load TYok rfl rfl rfl (by assumption) (by rfl) (by first | exact Nat.zero_lt_one | assumption | omega) (by rfl) ?_ | refine rg_lit TYok TYz rfl rfl rfl rfl rfl rfl rfl rfl ?_ | refine rg_ixa TYok rfl rfl rfl rfl rfl rfl rfl sd ?_ | refine rg_ixr TYok rfl rfl rfl rfl rfl rfl rfl sd ?_ | refine sq_ps rfl rfl rfl awake_s .nil ?_ | refine sq_ps rfl rfl rfl hT (LeL.refl _) ?_) | refine aw_rseq ?_ | refine aw_seq ?_ | refine aw_region ?_ | refine aw_skip ?_ | refine aw_true rfl ?_ | refine aw_false rfl ?_ | refine aw_d0seq rfl (by kernel_rfl) ?_ | refine aw_d0 rfl (by kernel_rfl) ?_ | refine aw_block ?_ | refine aw_exit ?_ | refine then_ret ?_ | refine then_exit ?_ | refine then_normal ?_ | refine blk_ret ?_ | refine blk_normal ?_ | refine blk_exit ?_ | refine blk_pass rfl ?_ | refine sq_ps rfl rfl rfl awake_s .nil ?_ | refine sq_ps rfl rfl rfl hT (LeL.refl _) ?_))
  refine sq_newk TYok TYz false rfl rfl rfl True.intro fun H2 hb2 ho2 hl2 => ?_
  have e2 : H2.length = H1.length + 1 := hl2
  have hb12 := ho2.get0 hb1
  refine sq_storek TYok rfl rfl rfl hb2 rfl Nat.zero_lt_one rfl rfl rfl (Nat.le_of_ble_eq_true rfl) fun H3 hb3 ho3 hl3 => ?_
  have e3 : H3.length = H2.length := hl3
  have hb13 := ho3.get hb12 (by simp; omega)
  refine sq_nil ?_
  repeat (first | refine blk_normal ?_ | refine then_normal ?_)
  refine aw_norm H1.length (tblB S N) hb3 rfl rfl rfl (one_blk rfl rfl) fun H4 hb4 ho4 hl4 => ?_
  have e4 : H4.length = H3.length := hl4
  have hb14 := ho4.get hb13 (by simp; omega)
  (repeat' (first | (refine sq_id ?_; first | refine sq_nil ?_ | refine sq_move rfl rfl rfl ?_ | refine sq_assign rfl rfl rfl ?_ | refine sq_skip rfl rfl ?_ | refine sq_t TYok TYz rfl rfl rfl True.intro so ?_ | refine sq_f TYok TYz rfl rfl rfl True.intro so ?_ | refine sq_pure TYok TYz false rfl rfl rfl sd ?_ | refine sq_pure TYok TYz true rfl rfl rfl sd ?_ | refine sq_load TYok rfl rfl rfl (by assumption) (by rfl) (by first | exact Nat.zero_lt_one | assumption | omega) (by rfl) ?_ | refine sq_lit TYok TYz rfl rfl rfl rfl rfl rfl rfl rfl ?_ | refine sq_ixa TYok rfl rfl rfl rfl rfl rfl rfl sd ?_ | refine sq_ixr TYok rfl rfl rfl rfl rfl rfl rfl sd ?_ | refine sq_call rfl rfl rfl (LeL.refl _) ((hfil _).mono fun r H5 ⟨hx5, m, F, C, had, hw, hC, er⟩ => ?_) | (subst er)) | (refine rg_id ?_; first | refine rg_fin ?_ | refine rg_move rfl rfl rfl ?_ | refine rg_assign rfl rfl rfl ?_ | refine rg_skip rfl rfl ?_ | refine rg_t TYok TYz rfl rfl rfl True.intro so ?_ | refine rg_f TYok TYz rfl rfl rfl True.intro so ?_ | refine rg_pure TYok TYz false rfl rfl rfl sd ?_ | refine rg_pure TYok TYz true rfl rfl rfl sd ?_ | refine rg_load TYok rfl rfl rfl (by assumption) (by rfl) (by first | exact Nat.zero_lt_one | assumption | omega) (by rfl) ?_ | refine rg_lit TYok TYz rfl rfl rfl rfl rfl rfl rfl rfl ?_ | refine rg_ixa TYok rfl rfl rfl rfl rfl rfl rfl sd ?_ | refine rg_ixr TYok rfl rfl rfl rfl rfl rfl rfl sd ?_ | refine sq_call rfl rfl rfl (LeL.refl _) ((hfil _).mono fun r H5 ⟨hx5, m, F, C, had, hw, hC, er⟩ => ?_) | (subst er)) | refine aw_rseq ?_ | refine aw_seq ?_ | refine aw_region ?_ | refine aw_skip ?_ | refine aw_true rfl ?_ | refine aw_false rfl ?_ | refine aw_d0seq rfl (by kernel_rfl) ?_ | refine aw_d0 rfl (by kernel_rfl) ?_ | refine aw_block ?_ | refine aw_exit ?_ | refine then_ret ?_ | refine then_exit ?_ | refine then_normal ?_ | refine blk_ret ?_ | refine blk_normal ?_ | refine blk_exit ?_ | refine blk_pass rfl ?_ | refine sq_call rfl rfl rfl (LeL.refl _) ((hfil _).mono fun r H5 ⟨hx5, m, F, C, had, hw, hC, er⟩ => ?_) | (subst er)))
  have hb15 := hx5.2 _ _ hb14
  have hb45 := hx5.2 _ _ hb4
  have l5 := hx5.1
  (repeat' (first | (refine sq_id ?_; first | refine sq_nil ?_ | refine sq_move rfl rfl rfl ?_ | refine sq_assign rfl rfl rfl ?_ | refine sq_skip rfl rfl ?_ | refine sq_t TYok TYz rfl rfl rfl True.intro so ?_ | refine sq_f TYok TYz rfl rfl rfl True.intro so ?_ | refine sq_pure TYok TYz false rfl rfl rfl sd ?_ | refine sq_pure TYok TYz true rfl rfl rfl sd ?_ | refine sq_load TYok rfl rfl rfl (by assumption) (by rfl) (by first | exact Nat.zero_lt_one | assumption | omega) (by rfl) ?_ | refine sq_lit TYok TYz rfl rfl rfl rfl rfl rfl rfl rfl ?_ | refine sq_ixa TYok rfl rfl rfl rfl rfl rfl rfl sd ?_ | refine sq_ixr TYok rfl rfl rfl rfl rfl rfl rfl sd ?_ | refine sq_ps rfl rfl rfl hlk (LeL.refl _) ?_) | (refine rg_id ?_; first | refine rg_fin ?_ | refine rg_move rfl rfl rfl ?_ | refine rg_assign rfl rfl rfl ?_ | refine rg_skip rfl rfl ?_ | refine rg_t TYok TYz rfl rfl rfl True.intro so ?_ | refine rg_f TYok TYz rfl rfl rfl True.intro so ?_ | refine rg_pure TYok TYz false rfl rfl rfl sd ?_ | refine rg_pure TYok TYz true rfl rfl rfl sd ?_ | refine rg_load TYok rfl rfl rfl (by assumption) (by rfl) (by first | exact Nat.zero_lt_one | assumption | omega) (by rfl) ?_ | refine rg_lit TYok TYz rfl rfl rfl rfl rfl rfl rfl rfl ?_ | refine rg_ixa TYok rfl rfl rfl rfl rfl rfl rfl sd ?_ | refine rg_ixr TYok rfl rfl rfl rfl rfl rfl rfl sd ?_ | refine sq_ps rfl rfl rfl hlk (LeL.refl _) ?_) | refine aw_rseq ?_ | refine aw_seq ?_ | refine aw_region ?_ | refine aw_skip ?_ | refine aw_true rfl ?_ | refine aw_false rfl ?_ | refine aw_d0seq rfl (by kernel_rfl) ?_ | refine aw_d0 rfl (by kernel_rfl) ?_ | refine aw_block ?_ | refine aw_exit ?_ | refine then_ret ?_ | refine then_exit ?_ | refine then_normal ?_ | refine blk_ret ?_ | refine blk_normal ?_ | refine blk_exit ?_ | refine blk_pass rfl ?_ | refine sq_ps rfl rfl rfl hlk (LeL.refl _) ?_))
  refine sq_newk TYok TYz false rfl rfl rfl True.intro fun H6 hb6 ho6 hl6 => ?_
  have e6 : H6.length = H5.length + 1 := hl6
  have hb46 := ho6.get0 hb45
  refine sq_storek TYok rfl rfl rfl hb6 rfl Nat.zero_lt_one rfl rfl rfl (Nat.le_of_ble_eq_true rfl) fun H7 hb7 ho7 hl7 => ?_
  have e7 : H7.length = H6.length := hl7
  have hb47 := ho7.get hb46 (by simp; omega)
  refine sq_nil ?_
  repeat (first | refine blk_normal ?_ | refine then_normal ?_)
  refine aw_norm H5.length (k4blk x0 x1 x2 x3) hb7 rfl rfl rfl (one_blk rfl rfl) fun H8 hb8 ho8 hl8 => ?_
  have e8 : H8.length = H7.length := hl8
  have hb48 := ho8.get hb47 (by simp; omega)
  obtain ⟨t, ht, m', w', hrun, hdn, hcase⟩ := intern_more hw (by omega) hkb
  have hal := alone_s S N t (5 * S + 9) ht (by omega) _ _ _ _ hrun hdn
  have hal : PS Try.prog 11 [.agg (tb S N), ints m, .agg (wk (internW x0 x1 x2 x3)), .i (5 * (S : Int) + 9)] (.tup [ints m', .agg (wk w'), .i t, .b true]) := by
    rwa [show ((5 * S + 9 : Nat) : Int) = 5 * (S : Int) + 9 by omega] at hal
  have hlm := hw.mem.len
  have hlm' : m'.length = m.length := by
    rcases hcase with ⟨_, _, _, rfl, _⟩ | ⟨_, rfl⟩ | ⟨v, F', s, hh, i, w2, _, _, _, _, rfl, _⟩
    · rfl
    · rfl
    · rw [putM_len]
  /- what is another word's: nothing, or one slot and one node -/
  have hd : ∃ s : Option Nat, (∀ j, j < S → (s = some j → m.getD j 0 = 0 ∧ m'.getD j 0 = w'.out + 1 ∧ m'.getD j 0 ≠ 0 ∧ 0 ≤ w'.out ∧ w'.out < N) ∧ (s ≠ some j → m'.getD j 0 = m.getD j 0)) ∧
      (∀ j, s = some j → j < S) ∧ (∀ n, n < N → (kidsAt S m' n = kidsAt S m n ∨ ((n : Int) = w'.out ∧ kidsAt S m' n = (x0, x1, x2, x3) ∧ s ≠ none))) ∧ (s = none → m' = m) := by
    rcases hcase with ⟨_, _, _, rfl, _⟩ | ⟨_, rfl⟩ | ⟨v, F', s, hh, i, w2, hout, hv, hs, h0, rfl, hw', _⟩
    · exact ⟨none, fun j _ => ⟨fun h => (by cases h), fun _ => rfl⟩, fun j h => (by cases h), fun n _ => .inl rfl, fun _ => rfl⟩
    · exact ⟨none, fun j _ => ⟨fun h => (by cases h), fun _ => rfl⟩, fun j h => (by cases h), fun n _ => .inl rfl, fun _ => rfl⟩
    · have hat := putM_at (k := (x0, x1, x2, x3)) hw.mem hs hv hh
      refine ⟨some s, fun j hj => ⟨fun h => ?_, fun h => ?_⟩, fun j h => by cases h; exact hs, fun n hn => ?_, fun h => by cases h⟩
      · cases h
        rw [hat, if_pos rfl]
        exact ⟨h0, by omega, by omega, by omega, by omega⟩
      · rw [hat, if_neg (fun e => h (by rw [e])), if_neg (by omega), if_neg (by omega)]
      · by_cases hnv : n = v
        · subst hnv
          exact .inr ⟨hout.symm, hw'.kids ((x0, x1, x2, x3), n) (by simp), by simp⟩
        · refine .inl ?_
          unfold kidsAt
          rw [hat, hat, hat, hat]
          rw [if_neg (by omega), if_neg (by omega), if_neg (by omega), if_neg (by omega), if_neg (by omega), if_neg (by omega), if_neg (by omega), if_neg (by omega), if_neg (by omega), if_neg (by omega), if_neg (by omega), if_neg (by omega)]
  obtain ⟨s, hd1, hd2, hd3, hd4⟩ := hd
  clear hcase hrun
  (repeat' (first | (refine sq_id ?_; first | refine sq_nil ?_ | refine sq_move rfl rfl rfl ?_ | refine sq_assign rfl rfl rfl ?_ | refine sq_skip rfl rfl ?_ | refine sq_t TYok TYz rfl rfl rfl True.intro so ?_ | refine sq_f TYok TYz rfl rfl rfl True.intro so ?_ | refine sq_pure TYok TYz false rfl rfl rfl sd ?_ | refine sq_pure TYok TYz true rfl rfl rfl sd ?_ | refine sq_load TYok rfl rfl rfl (by assumption) (by rfl) (by first | exact Nat.zero_lt_one | assumption | omega) (by rfl) ?_ | refine sq_lit TYok TYz rfl rfl rfl rfl rfl rfl rfl rfl ?_ | refine sq_ixa TYok rfl rfl rfl rfl rfl rfl rfl sd ?_ | refine sq_ixr TYok rfl rfl rfl rfl rfl rfl rfl sd ?_ | refine rg_ps rfl rfl rfl hin (LeL.refl _) ?_ | refine rg_ps rfl rfl rfl hal (LeL.refl _) ?_ | refine rg_new TYok TYz false rfl rfl rfl True.intro ?_) | (refine rg_id ?_; first | refine rg_fin ?_ | refine rg_move rfl rfl rfl ?_ | refine rg_assign rfl rfl rfl ?_ | refine rg_skip rfl rfl ?_ | refine rg_t TYok TYz rfl rfl rfl True.intro so ?_ | refine rg_f TYok TYz rfl rfl rfl True.intro so ?_ | refine rg_pure TYok TYz false rfl rfl rfl sd ?_ | refine rg_pure TYok TYz true rfl rfl rfl sd ?_ | refine rg_load TYok rfl rfl rfl (by assumption) (by rfl) (by first | exact Nat.zero_lt_one | assumption | omega) (by rfl) ?_ | refine rg_lit TYok TYz rfl rfl rfl rfl rfl rfl rfl rfl ?_ | refine rg_ixa TYok rfl rfl rfl rfl rfl rfl rfl sd ?_ | refine rg_ixr TYok rfl rfl rfl rfl rfl rfl rfl sd ?_ | refine rg_ps rfl rfl rfl hin (LeL.refl _) ?_ | refine rg_ps rfl rfl rfl hal (LeL.refl _) ?_ | refine rg_new TYok TYz false rfl rfl rfl True.intro ?_) | refine aw_rseq ?_ | refine aw_seq ?_ | refine aw_region ?_ | refine aw_skip ?_ | refine aw_true rfl ?_ | refine aw_false rfl ?_ | refine aw_d0seq rfl (by kernel_rfl) ?_ | refine aw_d0 rfl (by kernel_rfl) ?_ | refine aw_block ?_ | refine aw_exit ?_ | refine then_ret ?_ | refine then_exit ?_ | refine then_normal ?_ | refine blk_ret ?_ | refine blk_normal ?_ | refine blk_exit ?_ | refine blk_pass rfl ?_ | refine rg_ps rfl rfl rfl hin (LeL.refl _) ?_ | refine rg_ps rfl rfl rfl hal (LeL.refl _) ?_ | refine rg_new TYok TYz false rfl rfl rfl True.intro ?_))
  refine rg_fin1 fun H9 hb9 ho9 hl9 => ?_
  have e9 : H9.length = H8.length + 1 := hl9
  have hb49 := ho9.get0 hb48
  have hb89 := ho9.get0 hb8
  refine sq_storek TYok rfl rfl rfl hb9 rfl Nat.zero_lt_one rfl rfl rfl (Nat.le_of_ble_eq_true rfl) fun H10 hb10 ho10 hl10 => ?_
  have e10 : H10.length = H9.length := hl10
  have hb410 := ho10.get hb49 (by simp; omega)
  have hb810 := ho10.get hb89 (by simp; omega)
  (repeat' (first | (refine sq_id ?_; first | refine sq_nil ?_ | refine sq_move rfl rfl rfl ?_ | refine sq_assign rfl rfl rfl ?_ | refine sq_skip rfl rfl ?_ | refine sq_t TYok TYz rfl rfl rfl True.intro so ?_ | refine sq_f TYok TYz rfl rfl rfl True.intro so ?_ | refine sq_pure TYok TYz false rfl rfl rfl sd ?_ | refine sq_pure TYok TYz true rfl rfl rfl sd ?_ | refine sq_load TYok rfl rfl rfl (by assumption) (by rfl) (by first | exact Nat.zero_lt_one | assumption | omega) (by rfl) ?_ | refine sq_lit TYok TYz rfl rfl rfl rfl rfl rfl rfl rfl ?_ | refine sq_ixa TYok rfl rfl rfl rfl rfl rfl rfl sd ?_ | refine sq_ixr TYok rfl rfl rfl rfl rfl rfl rfl sd ?_) | (refine rg_id ?_; first | refine rg_fin ?_ | refine rg_move rfl rfl rfl ?_ | refine rg_assign rfl rfl rfl ?_ | refine rg_skip rfl rfl ?_ | refine rg_t TYok TYz rfl rfl rfl True.intro so ?_ | refine rg_f TYok TYz rfl rfl rfl True.intro so ?_ | refine rg_pure TYok TYz false rfl rfl rfl sd ?_ | refine rg_pure TYok TYz true rfl rfl rfl sd ?_ | refine rg_load TYok rfl rfl rfl (by assumption) (by rfl) (by first | exact Nat.zero_lt_one | assumption | omega) (by rfl) ?_ | refine rg_lit TYok TYz rfl rfl rfl rfl rfl rfl rfl rfl ?_ | refine rg_ixa TYok rfl rfl rfl rfl rfl rfl rfl sd ?_ | refine rg_ixr TYok rfl rfl rfl rfl rfl rfl rfl sd ?_) | refine aw_rseq ?_ | refine aw_seq ?_ | refine aw_region ?_ | refine aw_skip ?_ | refine aw_true rfl ?_ | refine aw_false rfl ?_ | refine aw_d0seq rfl (by kernel_rfl) ?_ | refine aw_d0 rfl (by kernel_rfl) ?_ | refine aw_block ?_ | refine aw_exit ?_ | refine then_ret ?_ | refine then_exit ?_ | refine then_normal ?_ | refine blk_ret ?_ | refine blk_normal ?_ | refine blk_exit ?_ | refine blk_pass rfl ?_))
  refine aw_norm H8.length (wblk1 w') hb10 rfl rfl rfl (one_blk rfl rfl) fun H11 hb11 ho11 hl11 => ?_
  have e11 : H11.length = H10.length := hl11
  have hb411 := ho11.get hb410 (by simp; omega)
  have hb811 := ho11.get hb810 (by simp; omega)
  refine aw_for [9, 10, 11, 12, 13, 14, 17, 18] (fun j : Nat => [(9, .b true), (10, .ref H1.length 2 0 0), (11, ints m), (12, .ref H5.length 4 0 0), (13, ints m'), (14, .ref H8.length 12 0 0), (17, .i (chg s j)), (18, .i j)])
    (fun j H' => j ≤ S ∧ Ext H11 H') (fun j => S - j) 0 (by rw [rstf_eq]; cases s <;> rfl) ⟨by omega, .refl _⟩ ?_
  rintro j H12 ⟨hj, hx12⟩
  have c4 := hx12.2 _ _ hb411
  have c8 := hx12.2 _ _ hb811
  have cw := hx12.2 _ _ hb11
  have d4 := nil_at c4
  have dw := nil_at cw
  have hl1 : m.length ≤ 9223372036854775807 := by omega
  have hl2 : m'.length ≤ 9223372036854775807 := by omega
  by_cases hjs : j < S
  · obtain ⟨p1, p2⟩ := hd1 j hjs
    have q1 : j < m.length := by omega
    have q2 : j < m'.length := by omega
    by_cases hsj : s = some j
    · obtain ⟨p3, p4, p5, p7, p8⟩ := p1 hsj
      obtain ⟨hch0, hch⟩ := chg_at hsj
      rw [hch0]
      have p3' : m.getD (badd 0 j) 0 = 0 := p3
      have p4' : m'.getD (badd 0 j) 0 = w'.out + 1 := p4
      have p5' : m'.getD (badd 0 j) 0 ≠ 0 := p5
      (repeat' (first | (refine sq_id ?_; first | refine sq_nil ?_ | refine sq_move rfl rfl rfl ?_ | refine sq_assign rfl rfl rfl ?_ | refine sq_skip rfl rfl ?_ | refine sq_t TYok TYz rfl rfl rfl True.intro so ?_ | refine sq_f TYok TYz rfl rfl rfl True.intro so ?_ | refine sq_pure TYok TYz false rfl rfl rfl sd ?_ | refine sq_pure TYok TYz true rfl rfl rfl sd ?_ | refine sq_load TYok rfl rfl rfl (by assumption) (by rfl) (by first | exact Nat.zero_lt_one | assumption | omega) (by rfl) ?_ | refine sq_lit TYok TYz rfl rfl rfl rfl rfl rfl rfl rfl ?_ | refine sq_ixa TYok rfl rfl rfl rfl rfl rfl rfl sd ?_ | refine sq_ixr TYok rfl rfl rfl rfl rfl rfl rfl sd ?_) | (refine rg_id ?_; first | refine rg_fin ?_ | refine rg_move rfl rfl rfl ?_ | refine rg_assign rfl rfl rfl ?_ | refine rg_skip rfl rfl ?_ | refine rg_t TYok TYz rfl rfl rfl True.intro so ?_ | refine rg_f TYok TYz rfl rfl rfl True.intro so ?_ | refine rg_pure TYok TYz false rfl rfl rfl sd ?_ | refine rg_pure TYok TYz true rfl rfl rfl sd ?_ | refine rg_load TYok rfl rfl rfl (by assumption) (by rfl) (by first | exact Nat.zero_lt_one | assumption | omega) (by rfl) ?_ | refine rg_lit TYok TYz rfl rfl rfl rfl rfl rfl rfl rfl ?_ | refine rg_ixa TYok rfl rfl rfl rfl rfl rfl rfl sd ?_ | refine rg_ixr TYok rfl rfl rfl rfl rfl rfl rfl sd ?_) | refine aw_rseq ?_ | refine aw_seq ?_ | refine aw_region ?_ | refine aw_skip ?_ | refine aw_true rfl ?_ | refine aw_false rfl ?_ | refine aw_d0seq rfl (by kernel_rfl) ?_ | refine aw_d0 rfl (by kernel_rfl) ?_ | refine aw_block ?_ | refine aw_exit ?_ | refine then_ret ?_ | refine then_exit ?_ | refine then_normal ?_ | refine blk_ret ?_ | refine blk_normal ?_ | refine blk_exit ?_ | refine blk_pass rfl ?_))
      exact ⟨j + 1, by rw [rstf_eq, hch]; rfl, ⟨by omega, (hx12.trans (.app H12 [])).trans (.app _ [])⟩, by omega⟩
    · have p6 := p2 hsj
      have p6' : m'.getD (badd 0 j) 0 = m.getD (badd 0 j) 0 := p6
      have hch := chg_not hsj
      (repeat' (first | (refine sq_id ?_; first | refine sq_nil ?_ | refine sq_move rfl rfl rfl ?_ | refine sq_assign rfl rfl rfl ?_ | refine sq_skip rfl rfl ?_ | refine sq_t TYok TYz rfl rfl rfl True.intro so ?_ | refine sq_f TYok TYz rfl rfl rfl True.intro so ?_ | refine sq_pure TYok TYz false rfl rfl rfl sd ?_ | refine sq_pure TYok TYz true rfl rfl rfl sd ?_ | refine sq_load TYok rfl rfl rfl (by assumption) (by rfl) (by first | exact Nat.zero_lt_one | assumption | omega) (by rfl) ?_ | refine sq_lit TYok TYz rfl rfl rfl rfl rfl rfl rfl rfl ?_ | refine sq_ixa TYok rfl rfl rfl rfl rfl rfl rfl sd ?_ | refine sq_ixr TYok rfl rfl rfl rfl rfl rfl rfl sd ?_) | (refine rg_id ?_; first | refine rg_fin ?_ | refine rg_move rfl rfl rfl ?_ | refine rg_assign rfl rfl rfl ?_ | refine rg_skip rfl rfl ?_ | refine rg_t TYok TYz rfl rfl rfl True.intro so ?_ | refine rg_f TYok TYz rfl rfl rfl True.intro so ?_ | refine rg_pure TYok TYz false rfl rfl rfl sd ?_ | refine rg_pure TYok TYz true rfl rfl rfl sd ?_ | refine rg_load TYok rfl rfl rfl (by assumption) (by rfl) (by first | exact Nat.zero_lt_one | assumption | omega) (by rfl) ?_ | refine rg_lit TYok TYz rfl rfl rfl rfl rfl rfl rfl rfl ?_ | refine rg_ixa TYok rfl rfl rfl rfl rfl rfl rfl sd ?_ | refine rg_ixr TYok rfl rfl rfl rfl rfl rfl rfl sd ?_) | refine aw_rseq ?_ | refine aw_seq ?_ | refine aw_region ?_ | refine aw_skip ?_ | refine aw_true rfl ?_ | refine aw_false rfl ?_ | refine aw_d0seq rfl (by kernel_rfl) ?_ | refine aw_d0 rfl (by kernel_rfl) ?_ | refine aw_block ?_ | refine aw_exit ?_ | refine then_ret ?_ | refine then_exit ?_ | refine then_normal ?_ | refine blk_ret ?_ | refine blk_normal ?_ | refine blk_exit ?_ | refine blk_pass rfl ?_))
      exact ⟨j + 1, by rw [rstf_eq, hch]; rfl, ⟨by omega, hx12.trans (.app H12 [])⟩, by omega⟩
  · have hje : j = S := by omega
    subst hje
    have hcs : chg s j = 1 ∨ (chg s j = 0 ∧ m' = m) := by
      cases hs : s with
      | none => exact .inr ⟨rfl, hd4 hs⟩
      | some q => exact .inl (if_pos (hd2 q hs))
    have hcs1 : s ≠ none → chg s j = 1 := fun h => by
      cases hs : s with
      | none => exact absurd hs h
      | some q => exact if_pos (hd2 q hs)
    (repeat' (first | (refine sq_id ?_; first | refine sq_nil ?_ | refine sq_move rfl rfl rfl ?_ | refine sq_assign rfl rfl rfl ?_ | refine sq_skip rfl rfl ?_ | refine sq_t TYok TYz rfl rfl rfl True.intro so ?_ | refine sq_f TYok TYz rfl rfl rfl True.intro so ?_ | refine sq_pure TYok TYz false rfl rfl rfl sd ?_ | refine sq_pure TYok TYz true rfl rfl rfl sd ?_ | refine sq_load TYok rfl rfl rfl (by assumption) (by rfl) (by first | exact Nat.zero_lt_one | assumption | omega) (by rfl) ?_ | refine sq_lit TYok TYz rfl rfl rfl rfl rfl rfl rfl rfl ?_ | refine sq_ixa TYok rfl rfl rfl rfl rfl rfl rfl sd ?_ | refine sq_ixr TYok rfl rfl rfl rfl rfl rfl rfl sd ?_) | (refine rg_id ?_; first | refine rg_fin ?_ | refine rg_move rfl rfl rfl ?_ | refine rg_assign rfl rfl rfl ?_ | refine rg_skip rfl rfl ?_ | refine rg_t TYok TYz rfl rfl rfl True.intro so ?_ | refine rg_f TYok TYz rfl rfl rfl True.intro so ?_ | refine rg_pure TYok TYz false rfl rfl rfl sd ?_ | refine rg_pure TYok TYz true rfl rfl rfl sd ?_ | refine rg_load TYok rfl rfl rfl (by assumption) (by rfl) (by first | exact Nat.zero_lt_one | assumption | omega) (by rfl) ?_ | refine rg_lit TYok TYz rfl rfl rfl rfl rfl rfl rfl rfl ?_ | refine rg_ixa TYok rfl rfl rfl rfl rfl rfl rfl sd ?_ | refine rg_ixr TYok rfl rfl rfl rfl rfl rfl rfl sd ?_) | refine aw_rseq ?_ | refine aw_seq ?_ | refine aw_region ?_ | refine aw_skip ?_ | refine aw_true rfl ?_ | refine aw_false rfl ?_ | refine aw_d0seq rfl (by kernel_rfl) ?_ | refine aw_d0 rfl (by kernel_rfl) ?_ | refine aw_block ?_ | refine aw_exit ?_ | refine then_ret ?_ | refine then_exit ?_ | refine then_normal ?_ | refine blk_ret ?_ | refine blk_normal ?_ | refine blk_exit ?_ | refine blk_pass rfl ?_))
    refine aw_for [9, 10, 11, 12, 13, 14, 17, 19] (fun q : Nat => [(9, .b true), (10, .ref H1.length 2 0 0), (11, ints m), (12, .ref H5.length 4 0 0), (13, ints m'), (14, .ref H8.length 12 0 0), (17, .i (chg s j)), (19, .i q)])
      (fun q H' => q ≤ N ∧ Ext H11 H') (fun q => N - q) 0 (by rw [rstf_eq]; rfl) ⟨by omega, hx12⟩ ?_
    clear c4 c8 cw d4 dw
    rintro q H13 ⟨hq, hx13⟩
    have c4 := hx13.2 _ _ hb411
    have c8 := hx13.2 _ _ hb811
    have cw := hx13.2 _ _ hb11
    by_cases hqn : q < N
    · have hkA : PS Try.prog 13 [.agg (tb j N), ints m', .i q] (.tup [.agg (k4 (kidsAt j m' q).1 (kidsAt j m' q).2.1 (kidsAt j m' q).2.2.1 (kidsAt j m' q).2.2.2), .b true]) := kids_s j N (by omega) (by omega) m' (by omega) q hqn
      have hkB : PS Try.prog 13 [.agg (tb j N), ints m, .i q] (.tup [.agg (k4 (kidsAt j m q).1 (kidsAt j m q).2.1 (kidsAt j m q).2.2.1 (kidsAt j m q).2.2.2), .b true]) := kids_s j N (by omega) (by omega) m (by omega) q hqn
      have h3 := hd3 q hqn
      generalize kidsAt j m' q = KA at *
      generalize kidsAt j m q = KB at *
      (repeat' (first | (refine sq_id ?_; first | refine sq_nil ?_ | refine sq_move rfl rfl rfl ?_ | refine sq_assign rfl rfl rfl ?_ | refine sq_skip rfl rfl ?_ | refine sq_t TYok TYz rfl rfl rfl True.intro so ?_ | refine sq_f TYok TYz rfl rfl rfl True.intro so ?_ | refine sq_pure TYok TYz false rfl rfl rfl sd ?_ | refine sq_pure TYok TYz true rfl rfl rfl sd ?_ | refine sq_load TYok rfl rfl rfl (by assumption) (by rfl) (by first | exact Nat.zero_lt_one | assumption | omega) (by rfl) ?_ | refine sq_lit TYok TYz rfl rfl rfl rfl rfl rfl rfl rfl ?_ | refine sq_ixa TYok rfl rfl rfl rfl rfl rfl rfl sd ?_ | refine sq_ixr TYok rfl rfl rfl rfl rfl rfl rfl sd ?_ | refine sq_ps rfl rfl rfl hkA (LeL.refl _) ?_) | (refine rg_id ?_; first | refine rg_fin ?_ | refine rg_move rfl rfl rfl ?_ | refine rg_assign rfl rfl rfl ?_ | refine rg_skip rfl rfl ?_ | refine rg_t TYok TYz rfl rfl rfl True.intro so ?_ | refine rg_f TYok TYz rfl rfl rfl True.intro so ?_ | refine rg_pure TYok TYz false rfl rfl rfl sd ?_ | refine rg_pure TYok TYz true rfl rfl rfl sd ?_ | refine rg_load TYok rfl rfl rfl (by assumption) (by rfl) (by first | exact Nat.zero_lt_one | assumption | omega) (by rfl) ?_ | refine rg_lit TYok TYz rfl rfl rfl rfl rfl rfl rfl rfl ?_ | refine rg_ixa TYok rfl rfl rfl rfl rfl rfl rfl sd ?_ | refine rg_ixr TYok rfl rfl rfl rfl rfl rfl rfl sd ?_ | refine sq_ps rfl rfl rfl hkA (LeL.refl _) ?_) | refine aw_rseq ?_ | refine aw_seq ?_ | refine aw_region ?_ | refine aw_skip ?_ | refine aw_true rfl ?_ | refine aw_false rfl ?_ | refine aw_d0seq rfl (by kernel_rfl) ?_ | refine aw_d0 rfl (by kernel_rfl) ?_ | refine aw_block ?_ | refine aw_exit ?_ | refine then_ret ?_ | refine then_exit ?_ | refine then_normal ?_ | refine blk_ret ?_ | refine blk_normal ?_ | refine blk_exit ?_ | refine blk_pass rfl ?_ | refine sq_ps rfl rfl rfl hkA (LeL.refl _) ?_))
      refine sq_newk TYok TYz false rfl rfl rfl True.intro fun H14 hb14 ho14 hl14 => ?_
      have e14 : H14.length = H13.length + 1 := hl14
      refine sq_storek TYok rfl rfl rfl hb14 rfl Nat.zero_lt_one rfl rfl rfl (Nat.le_of_ble_eq_true rfl) fun H15 hb15 ho15 hl15 => ?_
      have e15 : H15.length = H14.length := hl15
      have hlt8 := (List.getElem?_eq_some_iff.1 cw).1
      have x15 : Ext H11 H15 := (hx13.trans ho14.ext).oth ho15 (by rintro _ ⟨⟩; have := hx13.1; omega)
      have c4' := x15.2 _ _ hb411
      (repeat' (first | (refine sq_id ?_; first | refine sq_nil ?_ | refine sq_move rfl rfl rfl ?_ | refine sq_assign rfl rfl rfl ?_ | refine sq_skip rfl rfl ?_ | refine sq_t TYok TYz rfl rfl rfl True.intro so ?_ | refine sq_f TYok TYz rfl rfl rfl True.intro so ?_ | refine sq_pure TYok TYz false rfl rfl rfl sd ?_ | refine sq_pure TYok TYz true rfl rfl rfl sd ?_ | refine sq_load TYok rfl rfl rfl (by assumption) (by rfl) (by first | exact Nat.zero_lt_one | assumption | omega) (by rfl) ?_ | refine sq_lit TYok TYz rfl rfl rfl rfl rfl rfl rfl rfl ?_ | refine sq_ixa TYok rfl rfl rfl rfl rfl rfl rfl sd ?_ | refine sq_ixr TYok rfl rfl rfl rfl rfl rfl rfl sd ?_ | refine sq_ps rfl rfl rfl hkB (LeL.refl _) ?_) | (refine rg_id ?_; first | refine rg_fin ?_ | refine rg_move rfl rfl rfl ?_ | refine rg_assign rfl rfl rfl ?_ | refine rg_skip rfl rfl ?_ | refine rg_t TYok TYz rfl rfl rfl True.intro so ?_ | refine rg_f TYok TYz rfl rfl rfl True.intro so ?_ | refine rg_pure TYok TYz false rfl rfl rfl sd ?_ | refine rg_pure TYok TYz true rfl rfl rfl sd ?_ | refine rg_load TYok rfl rfl rfl (by assumption) (by rfl) (by first | exact Nat.zero_lt_one | assumption | omega) (by rfl) ?_ | refine rg_lit TYok TYz rfl rfl rfl rfl rfl rfl rfl rfl ?_ | refine rg_ixa TYok rfl rfl rfl rfl rfl rfl rfl sd ?_ | refine rg_ixr TYok rfl rfl rfl rfl rfl rfl rfl sd ?_ | refine sq_ps rfl rfl rfl hkB (LeL.refl _) ?_) | refine aw_rseq ?_ | refine aw_seq ?_ | refine aw_region ?_ | refine aw_skip ?_ | refine aw_true rfl ?_ | refine aw_false rfl ?_ | refine aw_d0seq rfl (by kernel_rfl) ?_ | refine aw_d0 rfl (by kernel_rfl) ?_ | refine aw_block ?_ | refine aw_exit ?_ | refine then_ret ?_ | refine then_exit ?_ | refine then_normal ?_ | refine blk_ret ?_ | refine blk_normal ?_ | refine blk_exit ?_ | refine blk_pass rfl ?_ | refine sq_ps rfl rfl rfl hkB (LeL.refl _) ?_))
      refine sq_newk TYok TYz false rfl rfl rfl True.intro fun H16 hb16 ho16 hl16 => ?_
      have e16 : H16.length = H15.length + 1 := hl16
      refine sq_storek TYok rfl rfl rfl hb16 rfl Nat.zero_lt_one rfl rfl rfl (Nat.le_of_ble_eq_true rfl) fun H17 hb17 ho17 hl17 => ?_
      have x17 : Ext H11 H17 := (x15.trans ho16.ext).oth ho17 (by rintro _ ⟨⟩; have := hx13.1; omega)
      have d4 := x17.2 _ _ hb411
      have d8 := x17.2 _ _ hb811
      have dw := x17.2 _ _ hb11
      have dA := ho17.get (ho16.get0 hb15) (by simp; omega)
      by_cases hAB : KA = KB
      · have hc := kz_ceqK KA KB
        rw [decide_eq_true hAB] at hc
        (repeat' (first | (refine sq_id ?_; first | refine sq_nil ?_ | refine sq_move rfl rfl rfl ?_ | refine sq_assign rfl rfl rfl ?_ | refine sq_skip rfl rfl ?_ | refine sq_t TYok TYz rfl rfl rfl True.intro so ?_ | refine sq_f TYok TYz rfl rfl rfl True.intro so ?_ | refine sq_pure TYok TYz false rfl rfl rfl sd ?_ | refine sq_pure TYok TYz true rfl rfl rfl sd ?_ | refine sq_load TYok rfl rfl rfl (by assumption) (by rfl) (by first | exact Nat.zero_lt_one | assumption | omega) (by rfl) ?_ | refine sq_lit TYok TYz rfl rfl rfl rfl rfl rfl rfl rfl ?_ | refine sq_ixa TYok rfl rfl rfl rfl rfl rfl rfl sd ?_ | refine sq_ixr TYok rfl rfl rfl rfl rfl rfl rfl sd ?_ | refine sq_eqv false rfl rfl rfl rfl rfl (us := [.int .i64 KA.1, .int .i64 KA.2.1, .int .i64 KA.2.2.1, .int .i64 KA.2.2.2]) (vs := [.int .i64 KB.1, .int .i64 KB.2.1, .int .i64 KB.2.2.1, .int .i64 KB.2.2.2]) rfl rfl k4_agg hc k4_guard ?_) | (refine rg_id ?_; first | refine rg_fin ?_ | refine rg_move rfl rfl rfl ?_ | refine rg_assign rfl rfl rfl ?_ | refine rg_skip rfl rfl ?_ | refine rg_t TYok TYz rfl rfl rfl True.intro so ?_ | refine rg_f TYok TYz rfl rfl rfl True.intro so ?_ | refine rg_pure TYok TYz false rfl rfl rfl sd ?_ | refine rg_pure TYok TYz true rfl rfl rfl sd ?_ | refine rg_load TYok rfl rfl rfl (by assumption) (by rfl) (by first | exact Nat.zero_lt_one | assumption | omega) (by rfl) ?_ | refine rg_lit TYok TYz rfl rfl rfl rfl rfl rfl rfl rfl ?_ | refine rg_ixa TYok rfl rfl rfl rfl rfl rfl rfl sd ?_ | refine rg_ixr TYok rfl rfl rfl rfl rfl rfl rfl sd ?_ | refine sq_eqv false rfl rfl rfl rfl rfl (us := [.int .i64 KA.1, .int .i64 KA.2.1, .int .i64 KA.2.2.1, .int .i64 KA.2.2.2]) (vs := [.int .i64 KB.1, .int .i64 KB.2.1, .int .i64 KB.2.2.1, .int .i64 KB.2.2.2]) rfl rfl k4_agg hc k4_guard ?_) | refine aw_rseq ?_ | refine aw_seq ?_ | refine aw_region ?_ | refine aw_skip ?_ | refine aw_true rfl ?_ | refine aw_false rfl ?_ | refine aw_d0seq rfl (by kernel_rfl) ?_ | refine aw_d0 rfl (by kernel_rfl) ?_ | refine aw_block ?_ | refine aw_exit ?_ | refine then_ret ?_ | refine then_exit ?_ | refine then_normal ?_ | refine blk_ret ?_ | refine blk_normal ?_ | refine blk_exit ?_ | refine blk_pass rfl ?_ | refine sq_eqv false rfl rfl rfl rfl rfl (us := [.int .i64 KA.1, .int .i64 KA.2.1, .int .i64 KA.2.2.1, .int .i64 KA.2.2.2]) (vs := [.int .i64 KB.1, .int .i64 KB.2.1, .int .i64 KB.2.2.1, .int .i64 KB.2.2.2]) rfl rfl k4_agg hc k4_guard ?_))
        exact ⟨q + 1, by rw [rstf_eq]; rfl, ⟨by omega, x17⟩, by omega⟩
      · rcases h3 with h3 | ⟨h3, h4, h5⟩
        · exact absurd h3 hAB
        · have hc := kz_ceqK KA KB
          rw [decide_eq_false hAB] at hc
          have hc2 := kz_ceqK KA (x0, x1, x2, x3)
          rw [decide_eq_true h4] at hc2
          have h6 := hcs1 h5
          rw [h6]
          (repeat' (first | (refine sq_id ?_; first | refine sq_nil ?_ | refine sq_move rfl rfl rfl ?_ | refine sq_assign rfl rfl rfl ?_ | refine sq_skip rfl rfl ?_ | refine sq_t TYok TYz rfl rfl rfl True.intro so ?_ | refine sq_f TYok TYz rfl rfl rfl True.intro so ?_ | refine sq_pure TYok TYz false rfl rfl rfl sd ?_ | refine sq_pure TYok TYz true rfl rfl rfl sd ?_ | refine sq_load TYok rfl rfl rfl (by assumption) (by rfl) (by first | exact Nat.zero_lt_one | assumption | omega) (by rfl) ?_ | refine sq_lit TYok TYz rfl rfl rfl rfl rfl rfl rfl rfl ?_ | refine sq_ixa TYok rfl rfl rfl rfl rfl rfl rfl sd ?_ | refine sq_ixr TYok rfl rfl rfl rfl rfl rfl rfl sd ?_ | refine sq_eqv false rfl rfl rfl rfl rfl (us := [.int .i64 KA.1, .int .i64 KA.2.1, .int .i64 KA.2.2.1, .int .i64 KA.2.2.2]) (vs := [.int .i64 KB.1, .int .i64 KB.2.1, .int .i64 KB.2.2.1, .int .i64 KB.2.2.2]) rfl rfl k4_agg hc k4_guard ?_ | refine sq_eqv false rfl rfl rfl rfl rfl (us := [.int .i64 KA.1, .int .i64 KA.2.1, .int .i64 KA.2.2.1, .int .i64 KA.2.2.2]) (vs := [.int .i64 x0, .int .i64 x1, .int .i64 x2, .int .i64 x3]) rfl rfl k4_agg hc2 k4_guard ?_) | (refine rg_id ?_; first | refine rg_fin ?_ | refine rg_move rfl rfl rfl ?_ | refine rg_assign rfl rfl rfl ?_ | refine rg_skip rfl rfl ?_ | refine rg_t TYok TYz rfl rfl rfl True.intro so ?_ | refine rg_f TYok TYz rfl rfl rfl True.intro so ?_ | refine rg_pure TYok TYz false rfl rfl rfl sd ?_ | refine rg_pure TYok TYz true rfl rfl rfl sd ?_ | refine rg_load TYok rfl rfl rfl (by assumption) (by rfl) (by first | exact Nat.zero_lt_one | assumption | omega) (by rfl) ?_ | refine rg_lit TYok TYz rfl rfl rfl rfl rfl rfl rfl rfl ?_ | refine rg_ixa TYok rfl rfl rfl rfl rfl rfl rfl sd ?_ | refine rg_ixr TYok rfl rfl rfl rfl rfl rfl rfl sd ?_ | refine sq_eqv false rfl rfl rfl rfl rfl (us := [.int .i64 KA.1, .int .i64 KA.2.1, .int .i64 KA.2.2.1, .int .i64 KA.2.2.2]) (vs := [.int .i64 KB.1, .int .i64 KB.2.1, .int .i64 KB.2.2.1, .int .i64 KB.2.2.2]) rfl rfl k4_agg hc k4_guard ?_ | refine sq_eqv false rfl rfl rfl rfl rfl (us := [.int .i64 KA.1, .int .i64 KA.2.1, .int .i64 KA.2.2.1, .int .i64 KA.2.2.2]) (vs := [.int .i64 x0, .int .i64 x1, .int .i64 x2, .int .i64 x3]) rfl rfl k4_agg hc2 k4_guard ?_) | refine aw_rseq ?_ | refine aw_seq ?_ | refine aw_region ?_ | refine aw_skip ?_ | refine aw_true rfl ?_ | refine aw_false rfl ?_ | refine aw_d0seq rfl (by kernel_rfl) ?_ | refine aw_d0 rfl (by kernel_rfl) ?_ | refine aw_block ?_ | refine aw_exit ?_ | refine then_ret ?_ | refine then_exit ?_ | refine then_normal ?_ | refine blk_ret ?_ | refine blk_normal ?_ | refine blk_exit ?_ | refine blk_pass rfl ?_ | refine sq_eqv false rfl rfl rfl rfl rfl (us := [.int .i64 KA.1, .int .i64 KA.2.1, .int .i64 KA.2.2.1, .int .i64 KA.2.2.2]) (vs := [.int .i64 KB.1, .int .i64 KB.2.1, .int .i64 KB.2.2.1, .int .i64 KB.2.2.2]) rfl rfl k4_agg hc k4_guard ?_ | refine sq_eqv false rfl rfl rfl rfl rfl (us := [.int .i64 KA.1, .int .i64 KA.2.1, .int .i64 KA.2.2.1, .int .i64 KA.2.2.2]) (vs := [.int .i64 x0, .int .i64 x1, .int .i64 x2, .int .i64 x3]) rfl rfl k4_agg hc2 k4_guard ?_))
          exact ⟨q + 1, by rw [rstf_eq]; rfl, ⟨by omega, x17⟩, by omega⟩
    · have hii := ints_t m hl1
      rcases hcs with h6 | ⟨h6, rfl⟩
      · rw [h6]
        (repeat' (first | (refine sq_id ?_; first | refine sq_nil ?_ | refine sq_move rfl rfl rfl ?_ | refine sq_assign rfl rfl rfl ?_ | refine sq_skip rfl rfl ?_ | refine sq_t TYok TYz rfl rfl rfl True.intro so ?_ | refine sq_f TYok TYz rfl rfl rfl True.intro so ?_ | refine sq_pure TYok TYz false rfl rfl rfl sd ?_ | refine sq_pure TYok TYz true rfl rfl rfl sd ?_ | refine sq_load TYok rfl rfl rfl (by assumption) (by rfl) (by first | exact Nat.zero_lt_one | assumption | omega) (by rfl) ?_ | refine sq_lit TYok TYz rfl rfl rfl rfl rfl rfl rfl rfl ?_ | refine sq_ixa TYok rfl rfl rfl rfl rfl rfl rfl sd ?_ | refine sq_ixr TYok rfl rfl rfl rfl rfl rfl rfl sd ?_) | (refine rg_id ?_; first | refine rg_fin ?_ | refine rg_move rfl rfl rfl ?_ | refine rg_assign rfl rfl rfl ?_ | refine rg_skip rfl rfl ?_ | refine rg_t TYok TYz rfl rfl rfl True.intro so ?_ | refine rg_f TYok TYz rfl rfl rfl True.intro so ?_ | refine rg_pure TYok TYz false rfl rfl rfl sd ?_ | refine rg_pure TYok TYz true rfl rfl rfl sd ?_ | refine rg_load TYok rfl rfl rfl (by assumption) (by rfl) (by first | exact Nat.zero_lt_one | assumption | omega) (by rfl) ?_ | refine rg_lit TYok TYz rfl rfl rfl rfl rfl rfl rfl rfl ?_ | refine rg_ixa TYok rfl rfl rfl rfl rfl rfl rfl sd ?_ | refine rg_ixr TYok rfl rfl rfl rfl rfl rfl rfl sd ?_) | refine aw_rseq ?_ | refine aw_seq ?_ | refine aw_region ?_ | refine aw_skip ?_ | refine aw_true rfl ?_ | refine aw_false rfl ?_ | refine aw_d0seq rfl (by kernel_rfl) ?_ | refine aw_d0 rfl (by kernel_rfl) ?_ | refine aw_block ?_ | refine aw_exit ?_ | refine then_ret ?_ | refine then_exit ?_ | refine then_normal ?_ | refine blk_ret ?_ | refine blk_normal ?_ | refine blk_exit ?_ | refine blk_pass rfl ?_))
        ((try refine aw_ret ?_); (repeat (first | refine then_ret ?_ | refine blk_ret ?_)); refine fin_t True.intro rfl rfl ?_)
        rfl
      · rw [h6]
        (repeat' (first | (refine sq_id ?_; first | refine sq_nil ?_ | refine sq_move rfl rfl rfl ?_ | refine sq_assign rfl rfl rfl ?_ | refine sq_skip rfl rfl ?_ | refine sq_t TYok TYz rfl rfl rfl True.intro so ?_ | refine sq_f TYok TYz rfl rfl rfl True.intro so ?_ | refine sq_pure TYok TYz false rfl rfl rfl sd ?_ | refine sq_pure TYok TYz true rfl rfl rfl sd ?_ | refine sq_load TYok rfl rfl rfl (by assumption) (by rfl) (by first | exact Nat.zero_lt_one | assumption | omega) (by rfl) ?_ | refine sq_lit TYok TYz rfl rfl rfl rfl rfl rfl rfl rfl ?_ | refine sq_ixa TYok rfl rfl rfl rfl rfl rfl rfl sd ?_ | refine sq_ixr TYok rfl rfl rfl rfl rfl rfl rfl sd ?_ | refine sq_ps rfl rfl rfl hii (LeL.refl _) ?_) | (refine rg_id ?_; first | refine rg_fin ?_ | refine rg_move rfl rfl rfl ?_ | refine rg_assign rfl rfl rfl ?_ | refine rg_skip rfl rfl ?_ | refine rg_t TYok TYz rfl rfl rfl True.intro so ?_ | refine rg_f TYok TYz rfl rfl rfl True.intro so ?_ | refine rg_pure TYok TYz false rfl rfl rfl sd ?_ | refine rg_pure TYok TYz true rfl rfl rfl sd ?_ | refine rg_load TYok rfl rfl rfl (by assumption) (by rfl) (by first | exact Nat.zero_lt_one | assumption | omega) (by rfl) ?_ | refine rg_lit TYok TYz rfl rfl rfl rfl rfl rfl rfl rfl ?_ | refine rg_ixa TYok rfl rfl rfl rfl rfl rfl rfl sd ?_ | refine rg_ixr TYok rfl rfl rfl rfl rfl rfl rfl sd ?_ | refine sq_ps rfl rfl rfl hii (LeL.refl _) ?_) | refine aw_rseq ?_ | refine aw_seq ?_ | refine aw_region ?_ | refine aw_skip ?_ | refine aw_true rfl ?_ | refine aw_false rfl ?_ | refine aw_d0seq rfl (by kernel_rfl) ?_ | refine aw_d0 rfl (by kernel_rfl) ?_ | refine aw_block ?_ | refine aw_exit ?_ | refine then_ret ?_ | refine then_exit ?_ | refine then_normal ?_ | refine blk_ret ?_ | refine blk_normal ?_ | refine blk_exit ?_ | refine blk_pass rfl ?_ | refine sq_ps rfl rfl rfl hii (LeL.refl _) ?_))
        ((try refine aw_ret ?_); (repeat (first | refine then_ret ?_ | refine blk_ret ?_)); refine fin_t True.intro rfl rfl ?_)
        rfl
end Go.Proofs.Ytcehniefjelgeaa.Ab
