/- The document's own answer for probes: its small functions. -/
import Derived.Test.YtcehniefjelgeaaKE
import Derived.Test.YtcehniefjelgeaaGL
namespace Go.Proofs.Ytcehniefjelgeaa.Ab
open Go Go.RowKit
def Cn (n : Int) : Int := if n < 0 then 0 else IntKind.i64.wrap (n.tdiv 1048576)
theorem refH_s (n : Int) : PS Try.prog 24 [.i n] (.i (Hn n)) := by
  refine ps_in TYok Try.func24 (by kernel_rfl) Try.ntmps24 rfl rfl rfl (cl_i _) fun H => ?_
  unfold Hn
  by_cases h : n < 0
  · rw [if_pos h]
    (repeat' (first | (refine sq_id ?_; first | refine sq_nil ?_ | refine sq_move rfl rfl rfl ?_ | refine sq_assign rfl rfl rfl ?_ | refine sq_skip rfl rfl ?_ | refine sq_t TYok TYz rfl rfl rfl True.intro so ?_ | refine sq_f TYok TYz rfl rfl rfl True.intro so ?_ | refine sq_pure TYok TYz false rfl rfl rfl sd ?_ | refine sq_pure TYok TYz true rfl rfl rfl sd ?_ | refine sq_load TYok rfl rfl rfl (by assumption) (by rfl) (by first | exact Nat.zero_lt_one | assumption | omega) (by rfl) ?_ | refine sq_lit TYok TYz rfl rfl rfl rfl rfl rfl rfl rfl ?_ | refine sq_ixa TYok rfl rfl rfl rfl rfl rfl rfl sd ?_ | refine sq_ixr TYok rfl rfl rfl rfl rfl rfl rfl sd ?_) | (refine rg_id ?_; first | refine rg_fin ?_ | refine rg_move rfl rfl rfl ?_ | refine rg_assign rfl rfl rfl ?_ | refine rg_skip rfl rfl ?_ | refine rg_t TYok TYz rfl rfl rfl True.intro so ?_ | refine rg_f TYok TYz rfl rfl rfl True.intro so ?_ | refine rg_pure TYok TYz false rfl rfl rfl sd ?_ | refine rg_pure TYok TYz true rfl rfl rfl sd ?_ | refine rg_load TYok rfl rfl rfl (by assumption) (by rfl) (by first | exact Nat.zero_lt_one | assumption | omega) (by rfl) ?_ | refine rg_lit TYok TYz rfl rfl rfl rfl rfl rfl rfl rfl ?_ | refine rg_ixa TYok rfl rfl rfl rfl rfl rfl rfl sd ?_ | refine rg_ixr TYok rfl rfl rfl rfl rfl rfl rfl sd ?_) | refine aw_rseq ?_ | refine aw_seq ?_ | refine aw_region ?_ | refine aw_skip ?_ | refine aw_true rfl ?_ | refine aw_false rfl ?_ | refine aw_d0seq rfl (by kernel_rfl) ?_ | refine aw_d0 rfl (by kernel_rfl) ?_ | refine aw_block ?_ | refine aw_exit ?_ | refine then_ret ?_ | refine then_exit ?_ | refine then_normal ?_ | refine blk_ret ?_ | refine blk_normal ?_ | refine blk_exit ?_ | refine blk_pass rfl ?_))
    ((try refine aw_ret ?_); (repeat (first | refine then_ret ?_ | refine blk_ret ?_)); refine fin_t True.intro rfl rfl ?_)
    exact ⟨.refl _, rfl⟩
  · rw [if_neg h]
    (repeat' (first | (refine sq_id ?_; first | refine sq_nil ?_ | refine sq_move rfl rfl rfl ?_ | refine sq_assign rfl rfl rfl ?_ | refine sq_skip rfl rfl ?_ | refine sq_t TYok TYz rfl rfl rfl True.intro so ?_ | refine sq_f TYok TYz rfl rfl rfl True.intro so ?_ | refine sq_pure TYok TYz false rfl rfl rfl sd ?_ | refine sq_pure TYok TYz true rfl rfl rfl sd ?_ | refine sq_load TYok rfl rfl rfl (by assumption) (by rfl) (by first | exact Nat.zero_lt_one | assumption | omega) (by rfl) ?_ | refine sq_lit TYok TYz rfl rfl rfl rfl rfl rfl rfl rfl ?_ | refine sq_ixa TYok rfl rfl rfl rfl rfl rfl rfl sd ?_ | refine sq_ixr TYok rfl rfl rfl rfl rfl rfl rfl sd ?_) | (refine rg_id ?_; first | refine rg_fin ?_ | refine rg_move rfl rfl rfl ?_ | refine rg_assign rfl rfl rfl ?_ | refine rg_skip rfl rfl ?_ | refine rg_t TYok TYz rfl rfl rfl True.intro so ?_ | refine rg_f TYok TYz rfl rfl rfl True.intro so ?_ | refine rg_pure TYok TYz false rfl rfl rfl sd ?_ | refine rg_pure TYok TYz true rfl rfl rfl sd ?_ | refine rg_load TYok rfl rfl rfl (by assumption) (by rfl) (by first | exact Nat.zero_lt_one | assumption | omega) (by rfl) ?_ | refine rg_lit TYok TYz rfl rfl rfl rfl rfl rfl rfl rfl ?_ | refine rg_ixa TYok rfl rfl rfl rfl rfl rfl rfl sd ?_ | refine rg_ixr TYok rfl rfl rfl rfl rfl rfl rfl sd ?_) | refine aw_rseq ?_ | refine aw_seq ?_ | refine aw_region ?_ | refine aw_skip ?_ | refine aw_true rfl ?_ | refine aw_false rfl ?_ | refine aw_d0seq rfl (by kernel_rfl) ?_ | refine aw_d0 rfl (by kernel_rfl) ?_ | refine aw_block ?_ | refine aw_exit ?_ | refine then_ret ?_ | refine then_exit ?_ | refine then_normal ?_ | refine blk_ret ?_ | refine blk_normal ?_ | refine blk_exit ?_ | refine blk_pass rfl ?_))
    ((try refine aw_ret ?_); (repeat (first | refine then_ret ?_ | refine blk_ret ?_)); refine fin_t True.intro rfl rfl ?_)
    exact ⟨.refl _, rfl⟩
theorem refC_s (n : Int) : PS Try.prog 55 [.i n] (.i (Cn n)) := by
  refine ps_in TYok Try.func55 (by kernel_rfl) Try.ntmps55 rfl rfl rfl (cl_i _) fun H => ?_
  unfold Cn
  by_cases h : n < 0
  · rw [if_pos h]
    (repeat' (first | (refine sq_id ?_; first | refine sq_nil ?_ | refine sq_move rfl rfl rfl ?_ | refine sq_assign rfl rfl rfl ?_ | refine sq_skip rfl rfl ?_ | refine sq_t TYok TYz rfl rfl rfl True.intro so ?_ | refine sq_f TYok TYz rfl rfl rfl True.intro so ?_ | refine sq_pure TYok TYz false rfl rfl rfl sd ?_ | refine sq_pure TYok TYz true rfl rfl rfl sd ?_ | refine sq_load TYok rfl rfl rfl (by assumption) (by rfl) (by first | exact Nat.zero_lt_one | assumption | omega) (by rfl) ?_ | refine sq_lit TYok TYz rfl rfl rfl rfl rfl rfl rfl rfl ?_ | refine sq_ixa TYok rfl rfl rfl rfl rfl rfl rfl sd ?_ | refine sq_ixr TYok rfl rfl rfl rfl rfl rfl rfl sd ?_) | (refine rg_id ?_; first | refine rg_fin ?_ | refine rg_move rfl rfl rfl ?_ | refine rg_assign rfl rfl rfl ?_ | refine rg_skip rfl rfl ?_ | refine rg_t TYok TYz rfl rfl rfl True.intro so ?_ | refine rg_f TYok TYz rfl rfl rfl True.intro so ?_ | refine rg_pure TYok TYz false rfl rfl rfl sd ?_ | refine rg_pure TYok TYz true rfl rfl rfl sd ?_ | refine rg_load TYok rfl rfl rfl (by assumption) (by rfl) (by first | exact Nat.zero_lt_one | assumption | omega) (by rfl) ?_ | refine rg_lit TYok TYz rfl rfl rfl rfl rfl rfl rfl rfl ?_ | refine rg_ixa TYok rfl rfl rfl rfl rfl rfl rfl sd ?_ | refine rg_ixr TYok rfl rfl rfl rfl rfl rfl rfl sd ?_) | refine aw_rseq ?_ | refine aw_seq ?_ | refine aw_region ?_ | refine aw_skip ?_ | refine aw_true rfl ?_ | refine aw_false rfl ?_ | refine aw_d0seq rfl (by kernel_rfl) ?_ | refine aw_d0 rfl (by kernel_rfl) ?_ | refine aw_block ?_ | refine aw_exit ?_ | refine then_ret ?_ | refine then_exit ?_ | refine then_normal ?_ | refine blk_ret ?_ | refine blk_normal ?_ | refine blk_exit ?_ | refine blk_pass rfl ?_))
    ((try refine aw_ret ?_); (repeat (first | refine then_ret ?_ | refine blk_ret ?_)); refine fin_t True.intro rfl rfl ?_)
    exact ⟨.refl _, rfl⟩
  · rw [if_neg h]
    (repeat' (first | (refine sq_id ?_; first | refine sq_nil ?_ | refine sq_move rfl rfl rfl ?_ | refine sq_assign rfl rfl rfl ?_ | refine sq_skip rfl rfl ?_ | refine sq_t TYok TYz rfl rfl rfl True.intro so ?_ | refine sq_f TYok TYz rfl rfl rfl True.intro so ?_ | refine sq_pure TYok TYz false rfl rfl rfl sd ?_ | refine sq_pure TYok TYz true rfl rfl rfl sd ?_ | refine sq_load TYok rfl rfl rfl (by assumption) (by rfl) (by first | exact Nat.zero_lt_one | assumption | omega) (by rfl) ?_ | refine sq_lit TYok TYz rfl rfl rfl rfl rfl rfl rfl rfl ?_ | refine sq_ixa TYok rfl rfl rfl rfl rfl rfl rfl sd ?_ | refine sq_ixr TYok rfl rfl rfl rfl rfl rfl rfl sd ?_) | (refine rg_id ?_; first | refine rg_fin ?_ | refine rg_move rfl rfl rfl ?_ | refine rg_assign rfl rfl rfl ?_ | refine rg_skip rfl rfl ?_ | refine rg_t TYok TYz rfl rfl rfl True.intro so ?_ | refine rg_f TYok TYz rfl rfl rfl True.intro so ?_ | refine rg_pure TYok TYz false rfl rfl rfl sd ?_ | refine rg_pure TYok TYz true rfl rfl rfl sd ?_ | refine rg_load TYok rfl rfl rfl (by assumption) (by rfl) (by first | exact Nat.zero_lt_one | assumption | omega) (by rfl) ?_ | refine rg_lit TYok TYz rfl rfl rfl rfl rfl rfl rfl rfl ?_ | refine rg_ixa TYok rfl rfl rfl rfl rfl rfl rfl sd ?_ | refine rg_ixr TYok rfl rfl rfl rfl rfl rfl rfl sd ?_) | refine aw_rseq ?_ | refine aw_seq ?_ | refine aw_region ?_ | refine aw_skip ?_ | refine aw_true rfl ?_ | refine aw_false rfl ?_ | refine aw_d0seq rfl (by kernel_rfl) ?_ | refine aw_d0 rfl (by kernel_rfl) ?_ | refine aw_block ?_ | refine aw_exit ?_ | refine then_ret ?_ | refine then_exit ?_ | refine then_normal ?_ | refine blk_ret ?_ | refine blk_normal ?_ | refine blk_exit ?_ | refine blk_pass rfl ?_))
    ((try refine aw_ret ?_); (repeat (first | refine then_ret ?_ | refine blk_ret ?_)); refine fin_t True.intro rfl rfl ?_)
    exact ⟨.refl _, rfl⟩
theorem Cn_small {n : Int} (h : 0 ≤ n ∧ n ≤ 1000000000000) : Cn n = n / 1048576 := by
  unfold Cn
  rw [if_neg (by omega), Int.tdiv_eq_ediv_of_nonneg h.1]
  exact wrap_small (by omega)
theorem hstep_rem (h k : Int) (h0 : 0 ≤ h) (h1 : h < 2147483648) : (IntKind.i64.wrap (bits .xor .i64 h (bits .and .i64 k 2147483647) * 16777619)).tmod 2147483648 = hstep h k := by
  rw [and_mask, xor_nat _ _ h0 h1 (by omega) (by omega)]
  unfold hstep
  have hy : 0 ≤ ((h.toNat ^^^ (k % 2147483648).toNat : Nat) : Int) ∧ ((h.toNat ^^^ (k % 2147483648).toNat : Nat) : Int) < 2147483648 := by
    have := xor_bd h.toNat (k % 2147483648).toNat (by omega) (by omega)
    omega
  generalize ((h.toNat ^^^ (k % 2147483648).toNat : Nat) : Int) = y at *
  rw [Ab.wrap_small (by omega), Int.tmod_eq_emod_of_nonneg (by omega)]
theorem refof_s (a b c d : Int) : PS Try.prog 64 [.agg (k4 a b c d)] (.i (hashOf [a, b, c, d])) := by
  refine ps_in TYok Try.func64 (by kernel_rfl) Try.ntmps64 rfl rfl rfl (cl_i _) fun H => ?_
  refine aw_seq ?_
  refine aw_region ?_
  refine sq_newk TYok TYz false rfl rfl rfl True.intro fun H1 hb1 ho1 hl1 => ?_
  (repeat' (first | (refine sq_id ?_; first | refine sq_nil ?_ | refine sq_move rfl rfl rfl ?_ | refine sq_assign rfl rfl rfl ?_ | refine sq_skip rfl rfl ?_ | refine sq_t TYok TYz rfl rfl rfl True.intro so ?_ | refine sq_f TYok TYz rfl rfl rfl True.intro so ?_ | refine sq_pure TYok TYz false rfl rfl rfl sd ?_ | refine sq_pure TYok TYz true rfl rfl rfl sd ?_ | refine sq_load TYok rfl rfl rfl (by assumption) (by rfl) (by first | exact Nat.zero_lt_one | assumption | omega) (by rfl) ?_ | refine sq_lit TYok TYz rfl rfl rfl rfl rfl rfl rfl rfl ?_ | refine sq_ixa TYok rfl rfl rfl rfl rfl rfl rfl sd ?_ | refine sq_ixr TYok rfl rfl rfl rfl rfl rfl rfl sd ?_) | (refine rg_id ?_; first | refine rg_fin ?_ | refine rg_move rfl rfl rfl ?_ | refine rg_assign rfl rfl rfl ?_ | refine rg_skip rfl rfl ?_ | refine rg_t TYok TYz rfl rfl rfl True.intro so ?_ | refine rg_f TYok TYz rfl rfl rfl True.intro so ?_ | refine rg_pure TYok TYz false rfl rfl rfl sd ?_ | refine rg_pure TYok TYz true rfl rfl rfl sd ?_ | refine rg_load TYok rfl rfl rfl (by assumption) (by rfl) (by first | exact Nat.zero_lt_one | assumption | omega) (by rfl) ?_ | refine rg_lit TYok TYz rfl rfl rfl rfl rfl rfl rfl rfl ?_ | refine rg_ixa TYok rfl rfl rfl rfl rfl rfl rfl sd ?_ | refine rg_ixr TYok rfl rfl rfl rfl rfl rfl rfl sd ?_) | refine aw_rseq ?_ | refine aw_seq ?_ | refine aw_region ?_ | refine aw_skip ?_ | refine aw_true rfl ?_ | refine aw_false rfl ?_ | refine aw_d0seq rfl (by kernel_rfl) ?_ | refine aw_d0 rfl (by kernel_rfl) ?_ | refine aw_block ?_ | refine aw_exit ?_ | refine then_ret ?_ | refine then_exit ?_ | refine then_normal ?_ | refine blk_ret ?_ | refine blk_normal ?_ | refine blk_exit ?_ | refine blk_pass rfl ?_))
  refine aw_for [1, 3, 4] (fun j : Nat => [(1, .ref H.length 4 0 0), (3, .i (([a, b, c, d].take j).foldl hstep 17)), (4, .i j)]) (fun j H' => j ≤ 4 ∧ H' = H1) (fun j => 4 - j) 0 (by rw [rstf_eq]; rfl) ⟨by omega, rfl⟩ ?_
  rintro j H2 ⟨hj, rfl⟩
  have hb := hfold_bd ([a, b, c, d].take j) 17 (by omega) (by omega)
  by_cases h4 : j < 4
  · rcases (by omega : j = 0 ∨ j = 1 ∨ j = 2 ∨ j = 3) with rfl | rfl | rfl | rfl
    · have e : (IntKind.i64.wrap (bits .xor .i64 (([a, b, c, d].take 0).foldl hstep 17) (bits .and .i64 a 2147483647) * 16777619)).tmod 2147483648 = ([a, b, c, d].take 1).foldl hstep 17 := by
        rw [hstep_rem _ _ hb.1 hb.2]; rfl
      (repeat' (first | (refine sq_id ?_; first | refine sq_nil ?_ | refine sq_move rfl rfl rfl ?_ | refine sq_assign rfl rfl rfl ?_ | refine sq_skip rfl rfl ?_ | refine sq_t TYok TYz rfl rfl rfl True.intro so ?_ | refine sq_f TYok TYz rfl rfl rfl True.intro so ?_ | refine sq_pure TYok TYz false rfl rfl rfl sd ?_ | refine sq_pure TYok TYz true rfl rfl rfl sd ?_ | refine sq_load TYok rfl rfl rfl (by assumption) (by rfl) (by first | exact Nat.zero_lt_one | assumption | omega) (by rfl) ?_ | refine sq_lit TYok TYz rfl rfl rfl rfl rfl rfl rfl rfl ?_ | refine sq_ixa TYok rfl rfl rfl rfl rfl rfl rfl sd ?_ | refine sq_ixr TYok rfl rfl rfl rfl rfl rfl rfl sd ?_ | refine sq_and rfl rfl rfl rfl ?_ | refine sq_xor rfl rfl rfl rfl ?_) | (refine rg_id ?_; first | refine rg_fin ?_ | refine rg_move rfl rfl rfl ?_ | refine rg_assign rfl rfl rfl ?_ | refine rg_skip rfl rfl ?_ | refine rg_t TYok TYz rfl rfl rfl True.intro so ?_ | refine rg_f TYok TYz rfl rfl rfl True.intro so ?_ | refine rg_pure TYok TYz false rfl rfl rfl sd ?_ | refine rg_pure TYok TYz true rfl rfl rfl sd ?_ | refine rg_load TYok rfl rfl rfl (by assumption) (by rfl) (by first | exact Nat.zero_lt_one | assumption | omega) (by rfl) ?_ | refine rg_lit TYok TYz rfl rfl rfl rfl rfl rfl rfl rfl ?_ | refine rg_ixa TYok rfl rfl rfl rfl rfl rfl rfl sd ?_ | refine rg_ixr TYok rfl rfl rfl rfl rfl rfl rfl sd ?_ | refine sq_and rfl rfl rfl rfl ?_ | refine sq_xor rfl rfl rfl rfl ?_) | refine aw_rseq ?_ | refine aw_seq ?_ | refine aw_region ?_ | refine aw_skip ?_ | refine aw_true rfl ?_ | refine aw_false rfl ?_ | refine aw_d0seq rfl (by kernel_rfl) ?_ | refine aw_d0 rfl (by kernel_rfl) ?_ | refine aw_block ?_ | refine aw_exit ?_ | refine then_ret ?_ | refine then_exit ?_ | refine then_normal ?_ | refine blk_ret ?_ | refine blk_normal ?_ | refine blk_exit ?_ | refine blk_pass rfl ?_ | refine sq_and rfl rfl rfl rfl ?_ | refine sq_xor rfl rfl rfl rfl ?_))
      exact ⟨1, by rw [rstf_eq, ← e]; rfl, ⟨by omega, rfl⟩, by omega⟩
    · have e : (IntKind.i64.wrap (bits .xor .i64 (([a, b, c, d].take 1).foldl hstep 17) (bits .and .i64 b 2147483647) * 16777619)).tmod 2147483648 = ([a, b, c, d].take 2).foldl hstep 17 := by
        rw [hstep_rem _ _ hb.1 hb.2]; rfl
      (repeat' (first | (refine sq_id ?_; first | refine sq_nil ?_ | refine sq_move rfl rfl rfl ?_ | refine sq_assign rfl rfl rfl ?_ | refine sq_skip rfl rfl ?_ | refine sq_t TYok TYz rfl rfl rfl True.intro so ?_ | refine sq_f TYok TYz rfl rfl rfl True.intro so ?_ | refine sq_pure TYok TYz false rfl rfl rfl sd ?_ | refine sq_pure TYok TYz true rfl rfl rfl sd ?_ | refine sq_load TYok rfl rfl rfl (by assumption) (by rfl) (by first | exact Nat.zero_lt_one | assumption | omega) (by rfl) ?_ | refine sq_lit TYok TYz rfl rfl rfl rfl rfl rfl rfl rfl ?_ | refine sq_ixa TYok rfl rfl rfl rfl rfl rfl rfl sd ?_ | refine sq_ixr TYok rfl rfl rfl rfl rfl rfl rfl sd ?_ | refine sq_and rfl rfl rfl rfl ?_ | refine sq_xor rfl rfl rfl rfl ?_) | (refine rg_id ?_; first | refine rg_fin ?_ | refine rg_move rfl rfl rfl ?_ | refine rg_assign rfl rfl rfl ?_ | refine rg_skip rfl rfl ?_ | refine rg_t TYok TYz rfl rfl rfl True.intro so ?_ | refine rg_f TYok TYz rfl rfl rfl True.intro so ?_ | refine rg_pure TYok TYz false rfl rfl rfl sd ?_ | refine rg_pure TYok TYz true rfl rfl rfl sd ?_ | refine rg_load TYok rfl rfl rfl (by assumption) (by rfl) (by first | exact Nat.zero_lt_one | assumption | omega) (by rfl) ?_ | refine rg_lit TYok TYz rfl rfl rfl rfl rfl rfl rfl rfl ?_ | refine rg_ixa TYok rfl rfl rfl rfl rfl rfl rfl sd ?_ | refine rg_ixr TYok rfl rfl rfl rfl rfl rfl rfl sd ?_ | refine sq_and rfl rfl rfl rfl ?_ | refine sq_xor rfl rfl rfl rfl ?_) | refine aw_rseq ?_ | refine aw_seq ?_ | refine aw_region ?_ | refine aw_skip ?_ | refine aw_true rfl ?_ | refine aw_false rfl ?_ | refine aw_d0seq rfl (by kernel_rfl) ?_ | refine aw_d0 rfl (by kernel_rfl) ?_ | refine aw_block ?_ | refine aw_exit ?_ | refine then_ret ?_ | refine then_exit ?_ | refine then_normal ?_ | refine blk_ret ?_ | refine blk_normal ?_ | refine blk_exit ?_ | refine blk_pass rfl ?_ | refine sq_and rfl rfl rfl rfl ?_ | refine sq_xor rfl rfl rfl rfl ?_))
      exact ⟨2, by rw [rstf_eq, ← e]; rfl, ⟨by omega, rfl⟩, by omega⟩
    · have e : (IntKind.i64.wrap (bits .xor .i64 (([a, b, c, d].take 2).foldl hstep 17) (bits .and .i64 c 2147483647) * 16777619)).tmod 2147483648 = ([a, b, c, d].take 3).foldl hstep 17 := by
        rw [hstep_rem _ _ hb.1 hb.2]; rfl
      (repeat' (first | (refine sq_id ?_; first | refine sq_nil ?_ | refine sq_move rfl rfl rfl ?_ | refine sq_assign rfl rfl rfl ?_ | refine sq_skip rfl rfl ?_ | refine sq_t TYok TYz rfl rfl rfl True.intro so ?_ | refine sq_f TYok TYz rfl rfl rfl True.intro so ?_ | refine sq_pure TYok TYz false rfl rfl rfl sd ?_ | refine sq_pure TYok TYz true rfl rfl rfl sd ?_ | refine sq_load TYok rfl rfl rfl (by assumption) (by rfl) (by first | exact Nat.zero_lt_one | assumption | omega) (by rfl) ?_ | refine sq_lit TYok TYz rfl rfl rfl rfl rfl rfl rfl rfl ?_ | refine sq_ixa TYok rfl rfl rfl rfl rfl rfl rfl sd ?_ | refine sq_ixr TYok rfl rfl rfl rfl rfl rfl rfl sd ?_ | refine sq_and rfl rfl rfl rfl ?_ | refine sq_xor rfl rfl rfl rfl ?_) | (refine rg_id ?_; first | refine rg_fin ?_ | refine rg_move rfl rfl rfl ?_ | refine rg_assign rfl rfl rfl ?_ | refine rg_skip rfl rfl ?_ | refine rg_t TYok TYz rfl rfl rfl True.intro so ?_ | refine rg_f TYok TYz rfl rfl rfl True.intro so ?_ | refine rg_pure TYok TYz false rfl rfl rfl sd ?_ | refine rg_pure TYok TYz true rfl rfl rfl sd ?_ | refine rg_load TYok rfl rfl rfl (by assumption) (by rfl) (by first | exact Nat.zero_lt_one | assumption | omega) (by rfl) ?_ | refine rg_lit TYok TYz rfl rfl rfl rfl rfl rfl rfl rfl ?_ | refine rg_ixa TYok rfl rfl rfl rfl rfl rfl rfl sd ?_ | refine rg_ixr TYok rfl rfl rfl rfl rfl rfl rfl sd ?_ | refine sq_and rfl rfl rfl rfl ?_ | refine sq_xor rfl rfl rfl rfl ?_) | refine aw_rseq ?_ | refine aw_seq ?_ | refine aw_region ?_ | refine aw_skip ?_ | refine aw_true rfl ?_ | refine aw_false rfl ?_ | refine aw_d0seq rfl (by kernel_rfl) ?_ | refine aw_d0 rfl (by kernel_rfl) ?_ | refine aw_block ?_ | refine aw_exit ?_ | refine then_ret ?_ | refine then_exit ?_ | refine then_normal ?_ | refine blk_ret ?_ | refine blk_normal ?_ | refine blk_exit ?_ | refine blk_pass rfl ?_ | refine sq_and rfl rfl rfl rfl ?_ | refine sq_xor rfl rfl rfl rfl ?_))
      exact ⟨3, by rw [rstf_eq, ← e]; rfl, ⟨by omega, rfl⟩, by omega⟩
    · have e : (IntKind.i64.wrap (bits .xor .i64 (([a, b, c, d].take 3).foldl hstep 17) (bits .and .i64 d 2147483647) * 16777619)).tmod 2147483648 = ([a, b, c, d].take 4).foldl hstep 17 := by
        rw [hstep_rem _ _ hb.1 hb.2]; rfl
      (repeat' (first | (refine sq_id ?_; first | refine sq_nil ?_ | refine sq_move rfl rfl rfl ?_ | refine sq_assign rfl rfl rfl ?_ | refine sq_skip rfl rfl ?_ | refine sq_t TYok TYz rfl rfl rfl True.intro so ?_ | refine sq_f TYok TYz rfl rfl rfl True.intro so ?_ | refine sq_pure TYok TYz false rfl rfl rfl sd ?_ | refine sq_pure TYok TYz true rfl rfl rfl sd ?_ | refine sq_load TYok rfl rfl rfl (by assumption) (by rfl) (by first | exact Nat.zero_lt_one | assumption | omega) (by rfl) ?_ | refine sq_lit TYok TYz rfl rfl rfl rfl rfl rfl rfl rfl ?_ | refine sq_ixa TYok rfl rfl rfl rfl rfl rfl rfl sd ?_ | refine sq_ixr TYok rfl rfl rfl rfl rfl rfl rfl sd ?_ | refine sq_and rfl rfl rfl rfl ?_ | refine sq_xor rfl rfl rfl rfl ?_) | (refine rg_id ?_; first | refine rg_fin ?_ | refine rg_move rfl rfl rfl ?_ | refine rg_assign rfl rfl rfl ?_ | refine rg_skip rfl rfl ?_ | refine rg_t TYok TYz rfl rfl rfl True.intro so ?_ | refine rg_f TYok TYz rfl rfl rfl True.intro so ?_ | refine rg_pure TYok TYz false rfl rfl rfl sd ?_ | refine rg_pure TYok TYz true rfl rfl rfl sd ?_ | refine rg_load TYok rfl rfl rfl (by assumption) (by rfl) (by first | exact Nat.zero_lt_one | assumption | omega) (by rfl) ?_ | refine rg_lit TYok TYz rfl rfl rfl rfl rfl rfl rfl rfl ?_ | refine rg_ixa TYok rfl rfl rfl rfl rfl rfl rfl sd ?_ | refine rg_ixr TYok rfl rfl rfl rfl rfl rfl rfl sd ?_ | refine sq_and rfl rfl rfl rfl ?_ | refine sq_xor rfl rfl rfl rfl ?_) | refine aw_rseq ?_ | refine aw_seq ?_ | refine aw_region ?_ | refine aw_skip ?_ | refine aw_true rfl ?_ | refine aw_false rfl ?_ | refine aw_d0seq rfl (by kernel_rfl) ?_ | refine aw_d0 rfl (by kernel_rfl) ?_ | refine aw_block ?_ | refine aw_exit ?_ | refine then_ret ?_ | refine then_exit ?_ | refine then_normal ?_ | refine blk_ret ?_ | refine blk_normal ?_ | refine blk_exit ?_ | refine blk_pass rfl ?_ | refine sq_and rfl rfl rfl rfl ?_ | refine sq_xor rfl rfl rfl rfl ?_))
      exact ⟨4, by rw [rstf_eq, ← e]; rfl, ⟨by omega, rfl⟩, by omega⟩
  · have : j = 4 := by omega
    subst this
    (repeat' (first | (refine sq_id ?_; first | refine sq_nil ?_ | refine sq_move rfl rfl rfl ?_ | refine sq_assign rfl rfl rfl ?_ | refine sq_skip rfl rfl ?_ | refine sq_t TYok TYz rfl rfl rfl True.intro so ?_ | refine sq_f TYok TYz rfl rfl rfl True.intro so ?_ | refine sq_pure TYok TYz false rfl rfl rfl sd ?_ | refine sq_pure TYok TYz true rfl rfl rfl sd ?_ | refine sq_load TYok rfl rfl rfl (by assumption) (by rfl) (by first | exact Nat.zero_lt_one | assumption | omega) (by rfl) ?_ | refine sq_lit TYok TYz rfl rfl rfl rfl rfl rfl rfl rfl ?_ | refine sq_ixa TYok rfl rfl rfl rfl rfl rfl rfl sd ?_ | refine sq_ixr TYok rfl rfl rfl rfl rfl rfl rfl sd ?_ | refine sq_and rfl rfl rfl rfl ?_ | refine sq_xor rfl rfl rfl rfl ?_) | (refine rg_id ?_; first | refine rg_fin ?_ | refine rg_move rfl rfl rfl ?_ | refine rg_assign rfl rfl rfl ?_ | refine rg_skip rfl rfl ?_ | refine rg_t TYok TYz rfl rfl rfl True.intro so ?_ | refine rg_f TYok TYz rfl rfl rfl True.intro so ?_ | refine rg_pure TYok TYz false rfl rfl rfl sd ?_ | refine rg_pure TYok TYz true rfl rfl rfl sd ?_ | refine rg_load TYok rfl rfl rfl (by assumption) (by rfl) (by first | exact Nat.zero_lt_one | assumption | omega) (by rfl) ?_ | refine rg_lit TYok TYz rfl rfl rfl rfl rfl rfl rfl rfl ?_ | refine rg_ixa TYok rfl rfl rfl rfl rfl rfl rfl sd ?_ | refine rg_ixr TYok rfl rfl rfl rfl rfl rfl rfl sd ?_ | refine sq_and rfl rfl rfl rfl ?_ | refine sq_xor rfl rfl rfl rfl ?_) | refine aw_rseq ?_ | refine aw_seq ?_ | refine aw_region ?_ | refine aw_skip ?_ | refine aw_true rfl ?_ | refine aw_false rfl ?_ | refine aw_d0seq rfl (by kernel_rfl) ?_ | refine aw_d0 rfl (by kernel_rfl) ?_ | refine aw_block ?_ | refine aw_exit ?_ | refine then_ret ?_ | refine then_exit ?_ | refine then_normal ?_ | refine blk_ret ?_ | refine blk_normal ?_ | refine blk_exit ?_ | refine blk_pass rfl ?_ | refine aw_dec rfl (fun _ => ?_) (fun _ => ?_) | refine sq_and rfl rfl rfl rfl ?_ | refine sq_xor rfl rfl rfl rfl ?_))
    ((try refine aw_ret ?_); (repeat (first | refine then_ret ?_ | refine blk_ret ?_)); refine fin_t True.intro rfl rfl ?_)
    refine ⟨ho1.ext, ?_⟩
    rw [hfin_eq _ hb.1 hb.2]; rfl
end Go.Proofs.Ytcehniefjelgeaa.Ab
/- The document's own answer for probes: slots, places, accesses. -/
namespace Go.Proofs.Ytcehniefjelgeaa.Ab
open Go Go.RowKit
theorem refhslot_s (h i s : Int) (hh : 0 ≤ h ∧ h < 2147483648) (hi : 0 ≤ i ∧ i ≤ 100000) (hs : 1 ≤ s ∧ s ≤ 100000) : PS Try.prog 63 [.i h, .i i, .i s] (.i ((h + i) % s)) := by
  refine ps_in TYok Try.func63 (by kernel_rfl) Try.ntmps63 rfl rfl rfl (cl_i _) fun H => ?_
  have e : (h + i).tmod s = (h + i) % s := Int.tmod_eq_emod_of_nonneg (by omega)
  have e1 := Int.emod_nonneg (h + i) (b := s) (by omega)
  have e2 := Int.emod_lt_of_pos (h + i) (b := s) (by omega)
  rw [← e] at e1 e2
  (repeat' (first | (refine sq_id ?_; first | refine sq_nil ?_ | refine sq_move rfl rfl rfl ?_ | refine sq_assign rfl rfl rfl ?_ | refine sq_skip rfl rfl ?_ | refine sq_t TYok TYz rfl rfl rfl True.intro so ?_ | refine sq_f TYok TYz rfl rfl rfl True.intro so ?_ | refine sq_pure TYok TYz false rfl rfl rfl sd ?_ | refine sq_pure TYok TYz true rfl rfl rfl sd ?_ | refine sq_load TYok rfl rfl rfl (by assumption) (by rfl) (by first | exact Nat.zero_lt_one | assumption | omega) (by rfl) ?_ | refine sq_lit TYok TYz rfl rfl rfl rfl rfl rfl rfl rfl ?_ | refine sq_ixa TYok rfl rfl rfl rfl rfl rfl rfl sd ?_ | refine sq_ixr TYok rfl rfl rfl rfl rfl rfl rfl sd ?_) | (refine rg_id ?_; first | refine rg_fin ?_ | refine rg_move rfl rfl rfl ?_ | refine rg_assign rfl rfl rfl ?_ | refine rg_skip rfl rfl ?_ | refine rg_t TYok TYz rfl rfl rfl True.intro so ?_ | refine rg_f TYok TYz rfl rfl rfl True.intro so ?_ | refine rg_pure TYok TYz false rfl rfl rfl sd ?_ | refine rg_pure TYok TYz true rfl rfl rfl sd ?_ | refine rg_load TYok rfl rfl rfl (by assumption) (by rfl) (by first | exact Nat.zero_lt_one | assumption | omega) (by rfl) ?_ | refine rg_lit TYok TYz rfl rfl rfl rfl rfl rfl rfl rfl ?_ | refine rg_ixa TYok rfl rfl rfl rfl rfl rfl rfl sd ?_ | refine rg_ixr TYok rfl rfl rfl rfl rfl rfl rfl sd ?_) | refine aw_rseq ?_ | refine aw_seq ?_ | refine aw_region ?_ | refine aw_skip ?_ | refine aw_true rfl ?_ | refine aw_false rfl ?_ | refine aw_d0seq rfl (by kernel_rfl) ?_ | refine aw_d0 rfl (by kernel_rfl) ?_ | refine aw_block ?_ | refine aw_exit ?_ | refine then_ret ?_ | refine then_exit ?_ | refine then_normal ?_ | refine blk_ret ?_ | refine blk_normal ?_ | refine blk_exit ?_ | refine blk_pass rfl ?_))
  ((try refine aw_ret ?_); (repeat (first | refine then_ret ?_ | refine blk_ret ?_)); refine fin_t True.intro rfl rfl ?_)
  exact ⟨.refl _, rfl⟩
theorem refslot_s (S N : Int) (hS : 1 ≤ S ∧ S ≤ 4000) (w : Wk) (h4 : 0 ≤ w.r4 ∧ w.r4 ≤ 4000) : PS Try.prog 56 [.agg (tb S N), .agg (wk w)] (.i (slotV w S)) := by
  refine ps_in TYok Try.func56 (by kernel_rfl) Try.ntmps56 rfl rfl rfl (cl_i _) fun H => ?_
  obtain ⟨pc, job, r0, r1, r2, r3, r4, r5, r6, r7, done, out⟩ := w
  dsimp only at h4
  have hof := refof_s r0 r1 r2 r3
  have hhs := refhslot_s (hashOf [r0, r1, r2, r3]) r4 S (hashOf_bd _) (by omega) (by omega)
  refine aw_seq ?_
  refine aw_region ?_
  refine sq_newk TYok TYz false rfl rfl rfl True.intro fun H1 hb1 ho1 hl1 => ?_
  refine sq_newk TYok TYz false rfl rfl rfl True.intro fun H2 hb2 ho2 hl2 => ?_
  have hb12 := ho2.get0 hb1
  have hx2 := ho1.ext.trans ho2.ext
  (repeat' (first | (refine sq_id ?_; first | refine sq_nil ?_ | refine sq_move rfl rfl rfl ?_ | refine sq_assign rfl rfl rfl ?_ | refine sq_skip rfl rfl ?_ | refine sq_t TYok TYz rfl rfl rfl True.intro so ?_ | refine sq_f TYok TYz rfl rfl rfl True.intro so ?_ | refine sq_pure TYok TYz false rfl rfl rfl sd ?_ | refine sq_pure TYok TYz true rfl rfl rfl sd ?_ | refine sq_load TYok rfl rfl rfl (by assumption) (by rfl) (by first | exact Nat.zero_lt_one | assumption | omega) (by rfl) ?_ | refine sq_lit TYok TYz rfl rfl rfl rfl rfl rfl rfl rfl ?_ | refine sq_ixa TYok rfl rfl rfl rfl rfl rfl rfl sd ?_ | refine sq_ixr TYok rfl rfl rfl rfl rfl rfl rfl sd ?_) | (refine rg_id ?_; first | refine rg_fin ?_ | refine rg_move rfl rfl rfl ?_ | refine rg_assign rfl rfl rfl ?_ | refine rg_skip rfl rfl ?_ | refine rg_t TYok TYz rfl rfl rfl True.intro so ?_ | refine rg_f TYok TYz rfl rfl rfl True.intro so ?_ | refine rg_pure TYok TYz false rfl rfl rfl sd ?_ | refine rg_pure TYok TYz true rfl rfl rfl sd ?_ | refine rg_load TYok rfl rfl rfl (by assumption) (by rfl) (by first | exact Nat.zero_lt_one | assumption | omega) (by rfl) ?_ | refine rg_lit TYok TYz rfl rfl rfl rfl rfl rfl rfl rfl ?_ | refine rg_ixa TYok rfl rfl rfl rfl rfl rfl rfl sd ?_ | refine rg_ixr TYok rfl rfl rfl rfl rfl rfl rfl sd ?_) | refine aw_rseq ?_ | refine aw_seq ?_ | refine aw_region ?_ | refine aw_skip ?_ | refine aw_true rfl ?_ | refine aw_false rfl ?_ | refine aw_d0seq rfl (by kernel_rfl) ?_ | refine aw_d0 rfl (by kernel_rfl) ?_ | refine aw_block ?_ | refine aw_exit ?_ | refine then_ret ?_ | refine then_exit ?_ | refine then_normal ?_ | refine blk_ret ?_ | refine blk_normal ?_ | refine blk_exit ?_ | refine blk_pass rfl ?_))
  refine sq_newk TYok TYz false rfl rfl rfl True.intro fun H3 hb3 ho3 hl3 => ?_
  have e3 : H3.length = H2.length + 1 := hl3
  have hx3 := hx2.trans ho3.ext
  have hb13 := ho3.get0 hb12
  have hb23 := ho3.get0 hb2
  refine sq_storek TYok rfl rfl rfl hb3 rfl Nat.zero_lt_one rfl rfl rfl (Nat.le_of_ble_eq_true rfl) fun H4 hb4 ho4 hl4 => ?_
  have hx4 := hx3.oth ho4 (by rintro _ ⟨⟩; have := hx2.1; omega)
  have e1 : H1.length = H.length + 1 := hl1
  have e2 : H2.length = H1.length + 1 := hl2
  have hb14 := ho4.get hb13 (by simp; omega)
  have hb24 := ho4.get hb23 (by simp; omega)
  (repeat' (first | (refine sq_id ?_; first | refine sq_nil ?_ | refine sq_move rfl rfl rfl ?_ | refine sq_assign rfl rfl rfl ?_ | refine sq_skip rfl rfl ?_ | refine sq_t TYok TYz rfl rfl rfl True.intro so ?_ | refine sq_f TYok TYz rfl rfl rfl True.intro so ?_ | refine sq_pure TYok TYz false rfl rfl rfl sd ?_ | refine sq_pure TYok TYz true rfl rfl rfl sd ?_ | refine sq_load TYok rfl rfl rfl (by assumption) (by rfl) (by first | exact Nat.zero_lt_one | assumption | omega) (by rfl) ?_ | refine sq_lit TYok TYz rfl rfl rfl rfl rfl rfl rfl rfl ?_ | refine sq_ixa TYok rfl rfl rfl rfl rfl rfl rfl sd ?_ | refine sq_ixr TYok rfl rfl rfl rfl rfl rfl rfl sd ?_ | refine rg_ps rfl rfl rfl hof (LeL.refl _) ?_ | refine rg_ps rfl rfl rfl hhs (LeL.refl _) ?_) | (refine rg_id ?_; first | refine rg_fin ?_ | refine rg_move rfl rfl rfl ?_ | refine rg_assign rfl rfl rfl ?_ | refine rg_skip rfl rfl ?_ | refine rg_t TYok TYz rfl rfl rfl True.intro so ?_ | refine rg_f TYok TYz rfl rfl rfl True.intro so ?_ | refine rg_pure TYok TYz false rfl rfl rfl sd ?_ | refine rg_pure TYok TYz true rfl rfl rfl sd ?_ | refine rg_load TYok rfl rfl rfl (by assumption) (by rfl) (by first | exact Nat.zero_lt_one | assumption | omega) (by rfl) ?_ | refine rg_lit TYok TYz rfl rfl rfl rfl rfl rfl rfl rfl ?_ | refine rg_ixa TYok rfl rfl rfl rfl rfl rfl rfl sd ?_ | refine rg_ixr TYok rfl rfl rfl rfl rfl rfl rfl sd ?_ | refine rg_ps rfl rfl rfl hof (LeL.refl _) ?_ | refine rg_ps rfl rfl rfl hhs (LeL.refl _) ?_) | refine aw_rseq ?_ | refine aw_seq ?_ | refine aw_region ?_ | refine aw_skip ?_ | refine aw_true rfl ?_ | refine aw_false rfl ?_ | refine aw_d0seq rfl (by kernel_rfl) ?_ | refine aw_d0 rfl (by kernel_rfl) ?_ | refine aw_block ?_ | refine aw_exit ?_ | refine then_ret ?_ | refine then_exit ?_ | refine then_normal ?_ | refine blk_ret ?_ | refine blk_normal ?_ | refine blk_exit ?_ | refine blk_pass rfl ?_ | refine rg_ps rfl rfl rfl hof (LeL.refl _) ?_ | refine rg_ps rfl rfl rfl hhs (LeL.refl _) ?_))
  ((try refine aw_ret ?_); (repeat (first | refine then_ret ?_ | refine blk_ret ?_)); refine fin_t True.intro rfl rfl ?_)
  exact ⟨hx4.trans (.app H4 []), rfl⟩
theorem refkid_s (S N n k : Int) (hS : 1 ≤ S ∧ S ≤ 4000) (hN : 0 ≤ N ∧ N ≤ 1000) (hn : 0 ≤ n ∧ n < N) (hk : 0 ≤ k ∧ k < 4) : PS Try.prog 57 [.agg (tb S N), .i n, .i k] (.i (S + 4 * n + k)) := by
  refine ps_in TYok Try.func57 (by kernel_rfl) Try.ntmps57 rfl rfl rfl (cl_i _) fun H => ?_
  refine aw_seq ?_
  refine aw_region ?_
  refine sq_newk TYok TYz false rfl rfl rfl True.intro fun H1 hb1 ho1 hl1 => ?_
  (repeat' (first | (refine sq_id ?_; first | refine sq_nil ?_ | refine sq_move rfl rfl rfl ?_ | refine sq_assign rfl rfl rfl ?_ | refine sq_skip rfl rfl ?_ | refine sq_t TYok TYz rfl rfl rfl True.intro so ?_ | refine sq_f TYok TYz rfl rfl rfl True.intro so ?_ | refine sq_pure TYok TYz false rfl rfl rfl sd ?_ | refine sq_pure TYok TYz true rfl rfl rfl sd ?_ | refine sq_load TYok rfl rfl rfl (by assumption) (by rfl) (by first | exact Nat.zero_lt_one | assumption | omega) (by rfl) ?_ | refine sq_lit TYok TYz rfl rfl rfl rfl rfl rfl rfl rfl ?_ | refine sq_ixa TYok rfl rfl rfl rfl rfl rfl rfl sd ?_ | refine sq_ixr TYok rfl rfl rfl rfl rfl rfl rfl sd ?_) | (refine rg_id ?_; first | refine rg_fin ?_ | refine rg_move rfl rfl rfl ?_ | refine rg_assign rfl rfl rfl ?_ | refine rg_skip rfl rfl ?_ | refine rg_t TYok TYz rfl rfl rfl True.intro so ?_ | refine rg_f TYok TYz rfl rfl rfl True.intro so ?_ | refine rg_pure TYok TYz false rfl rfl rfl sd ?_ | refine rg_pure TYok TYz true rfl rfl rfl sd ?_ | refine rg_load TYok rfl rfl rfl (by assumption) (by rfl) (by first | exact Nat.zero_lt_one | assumption | omega) (by rfl) ?_ | refine rg_lit TYok TYz rfl rfl rfl rfl rfl rfl rfl rfl ?_ | refine rg_ixa TYok rfl rfl rfl rfl rfl rfl rfl sd ?_ | refine rg_ixr TYok rfl rfl rfl rfl rfl rfl rfl sd ?_) | refine aw_rseq ?_ | refine aw_seq ?_ | refine aw_region ?_ | refine aw_skip ?_ | refine aw_true rfl ?_ | refine aw_false rfl ?_ | refine aw_d0seq rfl (by kernel_rfl) ?_ | refine aw_d0 rfl (by kernel_rfl) ?_ | refine aw_block ?_ | refine aw_exit ?_ | refine then_ret ?_ | refine then_exit ?_ | refine then_normal ?_ | refine blk_ret ?_ | refine blk_normal ?_ | refine blk_exit ?_ | refine blk_pass rfl ?_))
  ((try refine aw_ret ?_); (repeat (first | refine then_ret ?_ | refine blk_ret ?_)); refine fin_t True.intro rfl rfl ?_)
  exact ⟨ho1.ext, rfl⟩
set_option maxHeartbeats 4000000 in
theorem racc_look (S N a b c d r4 r6 r7 : Int) (hS : 1 ≤ S ∧ S ≤ 4000) (hN : 0 ≤ N ∧ N ≤ 1000) (h4 : 0 ≤ r4 ∧ r4 ≤ 4000) : PS Try.prog 45 [.agg (tb S N), .agg (wk ⟨0, 3, a, b, c, d, r4, 0, r6, r7, false, 0⟩)] (acc 1 (slotV (⟨0, 3, a, b, c, d, r4, 0, r6, r7, false, 0⟩ : Wk) S) 0 0) := by
  refine ps_in TYok Try.func45 (by kernel_rfl) Try.ntmps45 rfl rfl rfl (.agg _ fun x hx => by
    simp only [List.mem_cons, List.not_mem_nil, or_false] at hx
    rcases hx with rfl | rfl | rfl | rfl <;> exact .p _) fun H => ?_
  have hC := refC_s r6
  have hs := refslot_s S N hS (⟨0, 3, a, b, c, d, r4, 0, r6, r7, false, 0⟩ : Wk) h4
  generalize slotV (⟨0, 3, a, b, c, d, r4, 0, r6, r7, false, 0⟩ : Wk) S = v at *
  refine aw_seq ?_
  refine aw_region ?_
  refine sq_newk TYok TYz false rfl rfl rfl True.intro fun H1 hb1 ho1 hl1 => ?_
  refine sq_newk TYok TYz false rfl rfl rfl True.intro fun H2 hb2 ho2 hl2 => ?_
  refine sq_newk TYok TYz false rfl rfl rfl True.intro fun H3 hb3 ho3 hl3 => ?_
  have hb13 := ho3.get0 (ho2.get0 hb1)
  have hb23 := ho3.get0 hb2
  have hx3 := (ho1.ext.trans ho2.ext).trans ho3.ext
  have e1 : H1.length = H.length + 1 := hl1
  have e2 : H2.length = H1.length + 1 := hl2
  have e3 : H3.length = H2.length + 1 := hl3
  (repeat' (first | (refine sq_id ?_; first | refine sq_nil ?_ | refine sq_move rfl rfl rfl ?_ | refine sq_assign rfl rfl rfl ?_ | refine sq_skip rfl rfl ?_ | refine sq_t TYok TYz rfl rfl rfl True.intro so ?_ | refine sq_f TYok TYz rfl rfl rfl True.intro so ?_ | refine sq_pure TYok TYz false rfl rfl rfl sd ?_ | refine sq_pure TYok TYz true rfl rfl rfl sd ?_ | refine sq_load TYok rfl rfl rfl (by assumption) (by rfl) (by first | exact Nat.zero_lt_one | assumption | omega) (by rfl) ?_ | refine sq_lit TYok TYz rfl rfl rfl rfl rfl rfl rfl rfl ?_ | refine sq_ixa TYok rfl rfl rfl rfl rfl rfl rfl sd ?_ | refine sq_ixr TYok rfl rfl rfl rfl rfl rfl rfl sd ?_) | refine aw_rseq ?_ | refine aw_seq ?_ | refine aw_region ?_ | refine aw_skip ?_ | refine aw_true rfl ?_ | refine aw_false rfl ?_ | refine aw_block ?_ | refine aw_exit ?_ | refine then_ret ?_ | refine then_exit ?_ | refine then_normal ?_ | refine blk_ret ?_ | refine blk_normal ?_ | refine blk_exit ?_ | refine blk_pass rfl ?_))
  refine sq_newk TYok TYz false rfl rfl rfl True.intro fun H4 hb4 ho4 hl4 => ?_
  have e4 : H4.length = H3.length + 1 := hl4
  have hb14 := ho4.get0 hb13
  have hb24 := ho4.get0 hb23
  have hb34 := ho4.get0 hb3
  refine sq_storek TYok rfl rfl rfl hb4 rfl Nat.zero_lt_one rfl rfl rfl (Nat.le_of_ble_eq_true rfl) fun H5 hb5 ho5 hl5 => ?_
  have hb15 := ho5.get hb14 (by simp; omega)
  have hb25 := ho5.get hb24 (by simp; omega)
  have hb35 := ho5.get hb34 (by simp; omega)
  have hx5 : Ext H H5 := (hx3.trans ho4.ext).oth ho5 (by rintro _ ⟨⟩; omega)
  (repeat' (first | (refine sq_id ?_; first | refine sq_nil ?_ | refine sq_move rfl rfl rfl ?_ | refine sq_assign rfl rfl rfl ?_ | refine sq_skip rfl rfl ?_ | refine sq_t TYok TYz rfl rfl rfl True.intro so ?_ | refine sq_f TYok TYz rfl rfl rfl True.intro so ?_ | refine sq_pure TYok TYz false rfl rfl rfl sd ?_ | refine sq_pure TYok TYz true rfl rfl rfl sd ?_ | refine sq_load TYok rfl rfl rfl (by assumption) (by rfl) (by first | exact Nat.zero_lt_one | assumption | omega) (by rfl) ?_ | refine sq_lit TYok TYz rfl rfl rfl rfl rfl rfl rfl rfl ?_ | refine sq_ixa TYok rfl rfl rfl rfl rfl rfl rfl sd ?_ | refine sq_ixr TYok rfl rfl rfl rfl rfl rfl rfl sd ?_ | refine sq_ps rfl rfl rfl hC (LeL.refl _) ?_ | refine sq_ps rfl rfl rfl hs (LeL.refl _) ?_) | refine aw_rseq ?_ | refine aw_seq ?_ | refine aw_region ?_ | refine aw_skip ?_ | refine aw_true rfl ?_ | refine aw_false rfl ?_ | refine aw_block ?_ | refine aw_exit ?_ | refine then_ret ?_ | refine then_exit ?_ | refine then_normal ?_ | refine blk_ret ?_ | refine blk_normal ?_ | refine blk_exit ?_ | refine blk_pass rfl ?_ | refine sq_ps rfl rfl rfl hC (LeL.refl _) ?_ | refine sq_ps rfl rfl rfl hs (LeL.refl _) ?_))
  refine sq_storek TYok rfl rfl rfl hb35 rfl Nat.zero_lt_one rfl rfl rfl (Nat.le_of_ble_eq_true rfl) fun H6 hb6 ho6 hl6 => ?_
  have hx6 : Ext H H6 := hx5.oth ho6 (by rintro _ ⟨⟩; omega)
  (repeat' (first | (refine sq_id ?_; first | refine sq_nil ?_ | refine sq_move rfl rfl rfl ?_ | refine sq_assign rfl rfl rfl ?_ | refine sq_skip rfl rfl ?_ | refine sq_t TYok TYz rfl rfl rfl True.intro so ?_ | refine sq_f TYok TYz rfl rfl rfl True.intro so ?_ | refine sq_pure TYok TYz false rfl rfl rfl sd ?_ | refine sq_pure TYok TYz true rfl rfl rfl sd ?_ | refine sq_load TYok rfl rfl rfl (by assumption) (by rfl) (by first | exact Nat.zero_lt_one | assumption | omega) (by rfl) ?_ | refine sq_lit TYok TYz rfl rfl rfl rfl rfl rfl rfl rfl ?_ | refine sq_ixa TYok rfl rfl rfl rfl rfl rfl rfl sd ?_ | refine sq_ixr TYok rfl rfl rfl rfl rfl rfl rfl sd ?_) | refine aw_rseq ?_ | refine aw_seq ?_ | refine aw_region ?_ | refine aw_skip ?_ | refine aw_true rfl ?_ | refine aw_false rfl ?_ | refine aw_block ?_ | refine aw_exit ?_ | refine then_ret ?_ | refine then_exit ?_ | refine then_normal ?_ | refine blk_ret ?_ | refine blk_normal ?_ | refine blk_exit ?_ | refine blk_pass rfl ?_))
  ((try refine aw_ret ?_); (repeat (first | refine then_ret ?_ | refine blk_ret ?_)))
  refine ⟨True.intro, _, (.cell _ _ _ _ _ _ _ _ _ rfl hb6 rfl Nat.zero_lt_one rfl .nil), hx6, ?_⟩
  rfl
set_option maxHeartbeats 4000000 in
theorem racc_cmp (S N a b c d r4 r6 r7 : Int) (hS : 1 ≤ S ∧ S ≤ 4000) (hN : 0 ≤ N ∧ N ≤ 1000) (h6 : 0 ≤ r6 ∧ r6 < N) (h7 : 0 ≤ r7 ∧ r7 < 4) : PS Try.prog 45 [.agg (tb S N), .agg (wk ⟨1, 3, a, b, c, d, r4, 0, r6, r7, false, 0⟩)] (acc 1 (S + 4 * r6 + r7) 0 0) := by
  refine ps_in TYok Try.func45 (by kernel_rfl) Try.ntmps45 rfl rfl rfl (.agg _ fun x hx => by
    simp only [List.mem_cons, List.not_mem_nil, or_false] at hx
    rcases hx with rfl | rfl | rfl | rfl <;> exact .p _) fun H => ?_
  have hC := refC_s r6
  have hs := refkid_s S N r6 r7 hS hN h6 h7
  refine aw_seq ?_
  refine aw_region ?_
  refine sq_newk TYok TYz false rfl rfl rfl True.intro fun H1 hb1 ho1 hl1 => ?_
  refine sq_newk TYok TYz false rfl rfl rfl True.intro fun H2 hb2 ho2 hl2 => ?_
  refine sq_newk TYok TYz false rfl rfl rfl True.intro fun H3 hb3 ho3 hl3 => ?_
  have hb13 := ho3.get0 (ho2.get0 hb1)
  have hb23 := ho3.get0 hb2
  have hx3 := (ho1.ext.trans ho2.ext).trans ho3.ext
  have e1 : H1.length = H.length + 1 := hl1
  have e2 : H2.length = H1.length + 1 := hl2
  have e3 : H3.length = H2.length + 1 := hl3
  (repeat' (first | (refine sq_id ?_; first | refine sq_nil ?_ | refine sq_move rfl rfl rfl ?_ | refine sq_assign rfl rfl rfl ?_ | refine sq_skip rfl rfl ?_ | refine sq_t TYok TYz rfl rfl rfl True.intro so ?_ | refine sq_f TYok TYz rfl rfl rfl True.intro so ?_ | refine sq_pure TYok TYz false rfl rfl rfl sd ?_ | refine sq_pure TYok TYz true rfl rfl rfl sd ?_ | refine sq_load TYok rfl rfl rfl (by assumption) (by rfl) (by first | exact Nat.zero_lt_one | assumption | omega) (by rfl) ?_ | refine sq_lit TYok TYz rfl rfl rfl rfl rfl rfl rfl rfl ?_ | refine sq_ixa TYok rfl rfl rfl rfl rfl rfl rfl sd ?_ | refine sq_ixr TYok rfl rfl rfl rfl rfl rfl rfl sd ?_) | refine aw_rseq ?_ | refine aw_seq ?_ | refine aw_region ?_ | refine aw_skip ?_ | refine aw_true rfl ?_ | refine aw_false rfl ?_ | refine aw_block ?_ | refine aw_exit ?_ | refine then_ret ?_ | refine then_exit ?_ | refine then_normal ?_ | refine blk_ret ?_ | refine blk_normal ?_ | refine blk_exit ?_ | refine blk_pass rfl ?_))
  refine sq_newk TYok TYz false rfl rfl rfl True.intro fun H4 hb4 ho4 hl4 => ?_
  have e4 : H4.length = H3.length + 1 := hl4
  have hb14 := ho4.get0 hb13
  have hb24 := ho4.get0 hb23
  have hb34 := ho4.get0 hb3
  refine sq_storek TYok rfl rfl rfl hb4 rfl Nat.zero_lt_one rfl rfl rfl (Nat.le_of_ble_eq_true rfl) fun H5 hb5 ho5 hl5 => ?_
  have hb15 := ho5.get hb14 (by simp; omega)
  have hb25 := ho5.get hb24 (by simp; omega)
  have hb35 := ho5.get hb34 (by simp; omega)
  have hx5 : Ext H H5 := (hx3.trans ho4.ext).oth ho5 (by rintro _ ⟨⟩; omega)
  (repeat' (first | (refine sq_id ?_; first | refine sq_nil ?_ | refine sq_move rfl rfl rfl ?_ | refine sq_assign rfl rfl rfl ?_ | refine sq_skip rfl rfl ?_ | refine sq_t TYok TYz rfl rfl rfl True.intro so ?_ | refine sq_f TYok TYz rfl rfl rfl True.intro so ?_ | refine sq_pure TYok TYz false rfl rfl rfl sd ?_ | refine sq_pure TYok TYz true rfl rfl rfl sd ?_ | refine sq_load TYok rfl rfl rfl (by assumption) (by rfl) (by first | exact Nat.zero_lt_one | assumption | omega) (by rfl) ?_ | refine sq_lit TYok TYz rfl rfl rfl rfl rfl rfl rfl rfl ?_ | refine sq_ixa TYok rfl rfl rfl rfl rfl rfl rfl sd ?_ | refine sq_ixr TYok rfl rfl rfl rfl rfl rfl rfl sd ?_ | refine sq_ps rfl rfl rfl hC (LeL.refl _) ?_ | refine sq_ps rfl rfl rfl hs (LeL.refl _) ?_) | refine aw_rseq ?_ | refine aw_seq ?_ | refine aw_region ?_ | refine aw_skip ?_ | refine aw_true rfl ?_ | refine aw_false rfl ?_ | refine aw_block ?_ | refine aw_exit ?_ | refine then_ret ?_ | refine then_exit ?_ | refine then_normal ?_ | refine blk_ret ?_ | refine blk_normal ?_ | refine blk_exit ?_ | refine blk_pass rfl ?_ | refine sq_ps rfl rfl rfl hC (LeL.refl _) ?_ | refine sq_ps rfl rfl rfl hs (LeL.refl _) ?_))
  refine sq_storek TYok rfl rfl rfl hb35 rfl Nat.zero_lt_one rfl rfl rfl (Nat.le_of_ble_eq_true rfl) fun H6 hb6 ho6 hl6 => ?_
  have hx6 : Ext H H6 := hx5.oth ho6 (by rintro _ ⟨⟩; omega)
  (repeat' (first | (refine sq_id ?_; first | refine sq_nil ?_ | refine sq_move rfl rfl rfl ?_ | refine sq_assign rfl rfl rfl ?_ | refine sq_skip rfl rfl ?_ | refine sq_t TYok TYz rfl rfl rfl True.intro so ?_ | refine sq_f TYok TYz rfl rfl rfl True.intro so ?_ | refine sq_pure TYok TYz false rfl rfl rfl sd ?_ | refine sq_pure TYok TYz true rfl rfl rfl sd ?_ | refine sq_load TYok rfl rfl rfl (by assumption) (by rfl) (by first | exact Nat.zero_lt_one | assumption | omega) (by rfl) ?_ | refine sq_lit TYok TYz rfl rfl rfl rfl rfl rfl rfl rfl ?_ | refine sq_ixa TYok rfl rfl rfl rfl rfl rfl rfl sd ?_ | refine sq_ixr TYok rfl rfl rfl rfl rfl rfl rfl sd ?_) | refine aw_rseq ?_ | refine aw_seq ?_ | refine aw_region ?_ | refine aw_skip ?_ | refine aw_true rfl ?_ | refine aw_false rfl ?_ | refine aw_block ?_ | refine aw_exit ?_ | refine then_ret ?_ | refine then_exit ?_ | refine then_normal ?_ | refine blk_ret ?_ | refine blk_normal ?_ | refine blk_exit ?_ | refine blk_pass rfl ?_))
  ((try refine aw_ret ?_); (repeat (first | refine then_ret ?_ | refine blk_ret ?_)))
  refine ⟨True.intro, _, (.cell _ _ _ _ _ _ _ _ _ rfl hb6 rfl Nat.zero_lt_one rfl .nil), hx6, ?_⟩
  rfl
set_option maxHeartbeats 4000000 in
theorem racc_head (S N a b c d r4 r6 r7 : Int) (hS : 1 ≤ S ∧ S ≤ 4000) (hN : 0 ≤ N ∧ N ≤ 1000) : PS Try.prog 45 [.agg (tb S N), .agg (wk ⟨10, 3, a, b, c, d, r4, 0, r6, r7, false, 0⟩)] (acc 1 (S + 4 * N) 0 0) := by
  refine ps_in TYok Try.func45 (by kernel_rfl) Try.ntmps45 rfl rfl rfl (.agg _ fun x hx => by
    simp only [List.mem_cons, List.not_mem_nil, or_false] at hx
    rcases hx with rfl | rfl | rfl | rfl <;> exact .p _) fun H => ?_
  have hC := refC_s r6
  refine aw_seq ?_
  refine aw_region ?_
  refine sq_newk TYok TYz false rfl rfl rfl True.intro fun H1 hb1 ho1 hl1 => ?_
  refine sq_newk TYok TYz false rfl rfl rfl True.intro fun H2 hb2 ho2 hl2 => ?_
  refine sq_newk TYok TYz false rfl rfl rfl True.intro fun H3 hb3 ho3 hl3 => ?_
  have hb13 := ho3.get0 (ho2.get0 hb1)
  have hb23 := ho3.get0 hb2
  have hx3 := (ho1.ext.trans ho2.ext).trans ho3.ext
  have e1 : H1.length = H.length + 1 := hl1
  have e2 : H2.length = H1.length + 1 := hl2
  have e3 : H3.length = H2.length + 1 := hl3
  (repeat' (first | (refine sq_id ?_; first | refine sq_nil ?_ | refine sq_move rfl rfl rfl ?_ | refine sq_assign rfl rfl rfl ?_ | refine sq_skip rfl rfl ?_ | refine sq_t TYok TYz rfl rfl rfl True.intro so ?_ | refine sq_f TYok TYz rfl rfl rfl True.intro so ?_ | refine sq_pure TYok TYz false rfl rfl rfl sd ?_ | refine sq_pure TYok TYz true rfl rfl rfl sd ?_ | refine sq_load TYok rfl rfl rfl (by assumption) (by rfl) (by first | exact Nat.zero_lt_one | assumption | omega) (by rfl) ?_ | refine sq_lit TYok TYz rfl rfl rfl rfl rfl rfl rfl rfl ?_ | refine sq_ixa TYok rfl rfl rfl rfl rfl rfl rfl sd ?_ | refine sq_ixr TYok rfl rfl rfl rfl rfl rfl rfl sd ?_) | refine aw_rseq ?_ | refine aw_seq ?_ | refine aw_region ?_ | refine aw_skip ?_ | refine aw_true rfl ?_ | refine aw_false rfl ?_ | refine aw_block ?_ | refine aw_exit ?_ | refine then_ret ?_ | refine then_exit ?_ | refine then_normal ?_ | refine blk_ret ?_ | refine blk_normal ?_ | refine blk_exit ?_ | refine blk_pass rfl ?_))
  refine sq_newk TYok TYz false rfl rfl rfl True.intro fun H4 hb4 ho4 hl4 => ?_
  have e4 : H4.length = H3.length + 1 := hl4
  have hb14 := ho4.get0 hb13
  have hb24 := ho4.get0 hb23
  have hb34 := ho4.get0 hb3
  refine sq_storek TYok rfl rfl rfl hb4 rfl Nat.zero_lt_one rfl rfl rfl (Nat.le_of_ble_eq_true rfl) fun H5 hb5 ho5 hl5 => ?_
  have hb15 := ho5.get hb14 (by simp; omega)
  have hb25 := ho5.get hb24 (by simp; omega)
  have hb35 := ho5.get hb34 (by simp; omega)
  have hx5 : Ext H H5 := (hx3.trans ho4.ext).oth ho5 (by rintro _ ⟨⟩; omega)
  (repeat' (first | (refine sq_id ?_; first | refine sq_nil ?_ | refine sq_move rfl rfl rfl ?_ | refine sq_assign rfl rfl rfl ?_ | refine sq_skip rfl rfl ?_ | refine sq_t TYok TYz rfl rfl rfl True.intro so ?_ | refine sq_f TYok TYz rfl rfl rfl True.intro so ?_ | refine sq_pure TYok TYz false rfl rfl rfl sd ?_ | refine sq_pure TYok TYz true rfl rfl rfl sd ?_ | refine sq_load TYok rfl rfl rfl (by assumption) (by rfl) (by first | exact Nat.zero_lt_one | assumption | omega) (by rfl) ?_ | refine sq_lit TYok TYz rfl rfl rfl rfl rfl rfl rfl rfl ?_ | refine sq_ixa TYok rfl rfl rfl rfl rfl rfl rfl sd ?_ | refine sq_ixr TYok rfl rfl rfl rfl rfl rfl rfl sd ?_ | refine sq_ps rfl rfl rfl hC (LeL.refl _) ?_) | refine aw_rseq ?_ | refine aw_seq ?_ | refine aw_region ?_ | refine aw_skip ?_ | refine aw_true rfl ?_ | refine aw_false rfl ?_ | refine aw_block ?_ | refine aw_exit ?_ | refine then_ret ?_ | refine then_exit ?_ | refine then_normal ?_ | refine blk_ret ?_ | refine blk_normal ?_ | refine blk_exit ?_ | refine blk_pass rfl ?_ | refine sq_ps rfl rfl rfl hC (LeL.refl _) ?_))
  refine sq_storek TYok rfl rfl rfl hb35 rfl Nat.zero_lt_one rfl rfl rfl (Nat.le_of_ble_eq_true rfl) fun H6 hb6 ho6 hl6 => ?_
  have hx6 : Ext H H6 := hx5.oth ho6 (by rintro _ ⟨⟩; omega)
  (repeat' (first | (refine sq_id ?_; first | refine sq_nil ?_ | refine sq_move rfl rfl rfl ?_ | refine sq_assign rfl rfl rfl ?_ | refine sq_skip rfl rfl ?_ | refine sq_t TYok TYz rfl rfl rfl True.intro so ?_ | refine sq_f TYok TYz rfl rfl rfl True.intro so ?_ | refine sq_pure TYok TYz false rfl rfl rfl sd ?_ | refine sq_pure TYok TYz true rfl rfl rfl sd ?_ | refine sq_load TYok rfl rfl rfl (by assumption) (by rfl) (by first | exact Nat.zero_lt_one | assumption | omega) (by rfl) ?_ | refine sq_lit TYok TYz rfl rfl rfl rfl rfl rfl rfl rfl ?_ | refine sq_ixa TYok rfl rfl rfl rfl rfl rfl rfl sd ?_ | refine sq_ixr TYok rfl rfl rfl rfl rfl rfl rfl sd ?_) | refine aw_rseq ?_ | refine aw_seq ?_ | refine aw_region ?_ | refine aw_skip ?_ | refine aw_true rfl ?_ | refine aw_false rfl ?_ | refine aw_block ?_ | refine aw_exit ?_ | refine then_ret ?_ | refine then_exit ?_ | refine then_normal ?_ | refine blk_ret ?_ | refine blk_normal ?_ | refine blk_exit ?_ | refine blk_pass rfl ?_))
  ((try refine aw_ret ?_); (repeat (first | refine then_ret ?_ | refine blk_ret ?_)))
  refine ⟨True.intro, _, (.cell _ _ _ _ _ _ _ _ _ rfl hb6 rfl Nat.zero_lt_one rfl .nil), hx6, ?_⟩
  rfl
set_option maxHeartbeats 4000000 in
theorem racc_next (S N a b c d r4 r6 r7 : Int) (hS : 1 ≤ S ∧ S ≤ 4000) (hN : 0 ≤ N ∧ N ≤ 1000) (hH : Hn r6 ≤ N) : PS Try.prog 45 [.agg (tb S N), .agg (wk ⟨11, 3, a, b, c, d, r4, 0, r6, r7, false, 0⟩)] (acc 1 (S + 4 * N + Hn r6) 0 0) := by
  refine ps_in TYok Try.func45 (by kernel_rfl) Try.ntmps45 rfl rfl rfl (.agg _ fun x hx => by
    simp only [List.mem_cons, List.not_mem_nil, or_false] at hx
    rcases hx with rfl | rfl | rfl | rfl <;> exact .p _) fun H => ?_
  have hC := refC_s r6
  have hs := refH_s r6
  have hr := Hn_r r6
  refine aw_seq ?_
  refine aw_region ?_
  refine sq_newk TYok TYz false rfl rfl rfl True.intro fun H1 hb1 ho1 hl1 => ?_
  refine sq_newk TYok TYz false rfl rfl rfl True.intro fun H2 hb2 ho2 hl2 => ?_
  refine sq_newk TYok TYz false rfl rfl rfl True.intro fun H3 hb3 ho3 hl3 => ?_
  have hb13 := ho3.get0 (ho2.get0 hb1)
  have hb23 := ho3.get0 hb2
  have hx3 := (ho1.ext.trans ho2.ext).trans ho3.ext
  have e1 : H1.length = H.length + 1 := hl1
  have e2 : H2.length = H1.length + 1 := hl2
  have e3 : H3.length = H2.length + 1 := hl3
  (repeat' (first | (refine sq_id ?_; first | refine sq_nil ?_ | refine sq_move rfl rfl rfl ?_ | refine sq_assign rfl rfl rfl ?_ | refine sq_skip rfl rfl ?_ | refine sq_t TYok TYz rfl rfl rfl True.intro so ?_ | refine sq_f TYok TYz rfl rfl rfl True.intro so ?_ | refine sq_pure TYok TYz false rfl rfl rfl sd ?_ | refine sq_pure TYok TYz true rfl rfl rfl sd ?_ | refine sq_load TYok rfl rfl rfl (by assumption) (by rfl) (by first | exact Nat.zero_lt_one | assumption | omega) (by rfl) ?_ | refine sq_lit TYok TYz rfl rfl rfl rfl rfl rfl rfl rfl ?_ | refine sq_ixa TYok rfl rfl rfl rfl rfl rfl rfl sd ?_ | refine sq_ixr TYok rfl rfl rfl rfl rfl rfl rfl sd ?_) | refine aw_rseq ?_ | refine aw_seq ?_ | refine aw_region ?_ | refine aw_skip ?_ | refine aw_true rfl ?_ | refine aw_false rfl ?_ | refine aw_block ?_ | refine aw_exit ?_ | refine then_ret ?_ | refine then_exit ?_ | refine then_normal ?_ | refine blk_ret ?_ | refine blk_normal ?_ | refine blk_exit ?_ | refine blk_pass rfl ?_))
  refine sq_newk TYok TYz false rfl rfl rfl True.intro fun H4 hb4 ho4 hl4 => ?_
  have e4 : H4.length = H3.length + 1 := hl4
  have hb14 := ho4.get0 hb13
  have hb24 := ho4.get0 hb23
  have hb34 := ho4.get0 hb3
  refine sq_storek TYok rfl rfl rfl hb4 rfl Nat.zero_lt_one rfl rfl rfl (Nat.le_of_ble_eq_true rfl) fun H5 hb5 ho5 hl5 => ?_
  have hb15 := ho5.get hb14 (by simp; omega)
  have hb25 := ho5.get hb24 (by simp; omega)
  have hb35 := ho5.get hb34 (by simp; omega)
  have hx5 : Ext H H5 := (hx3.trans ho4.ext).oth ho5 (by rintro _ ⟨⟩; omega)
  (repeat' (first | (refine sq_id ?_; first | refine sq_nil ?_ | refine sq_move rfl rfl rfl ?_ | refine sq_assign rfl rfl rfl ?_ | refine sq_skip rfl rfl ?_ | refine sq_t TYok TYz rfl rfl rfl True.intro so ?_ | refine sq_f TYok TYz rfl rfl rfl True.intro so ?_ | refine sq_pure TYok TYz false rfl rfl rfl sd ?_ | refine sq_pure TYok TYz true rfl rfl rfl sd ?_ | refine sq_load TYok rfl rfl rfl (by assumption) (by rfl) (by first | exact Nat.zero_lt_one | assumption | omega) (by rfl) ?_ | refine sq_lit TYok TYz rfl rfl rfl rfl rfl rfl rfl rfl ?_ | refine sq_ixa TYok rfl rfl rfl rfl rfl rfl rfl sd ?_ | refine sq_ixr TYok rfl rfl rfl rfl rfl rfl rfl sd ?_ | refine sq_ps rfl rfl rfl hC (LeL.refl _) ?_ | refine sq_ps rfl rfl rfl hs (LeL.refl _) ?_) | refine aw_rseq ?_ | refine aw_seq ?_ | refine aw_region ?_ | refine aw_skip ?_ | refine aw_true rfl ?_ | refine aw_false rfl ?_ | refine aw_block ?_ | refine aw_exit ?_ | refine then_ret ?_ | refine then_exit ?_ | refine then_normal ?_ | refine blk_ret ?_ | refine blk_normal ?_ | refine blk_exit ?_ | refine blk_pass rfl ?_ | refine sq_ps rfl rfl rfl hC (LeL.refl _) ?_ | refine sq_ps rfl rfl rfl hs (LeL.refl _) ?_))
  refine sq_storek TYok rfl rfl rfl hb35 rfl Nat.zero_lt_one rfl rfl rfl (Nat.le_of_ble_eq_true rfl) fun H6 hb6 ho6 hl6 => ?_
  have hx6 : Ext H H6 := hx5.oth ho6 (by rintro _ ⟨⟩; omega)
  (repeat' (first | (refine sq_id ?_; first | refine sq_nil ?_ | refine sq_move rfl rfl rfl ?_ | refine sq_assign rfl rfl rfl ?_ | refine sq_skip rfl rfl ?_ | refine sq_t TYok TYz rfl rfl rfl True.intro so ?_ | refine sq_f TYok TYz rfl rfl rfl True.intro so ?_ | refine sq_pure TYok TYz false rfl rfl rfl sd ?_ | refine sq_pure TYok TYz true rfl rfl rfl sd ?_ | refine sq_load TYok rfl rfl rfl (by assumption) (by rfl) (by first | exact Nat.zero_lt_one | assumption | omega) (by rfl) ?_ | refine sq_lit TYok TYz rfl rfl rfl rfl rfl rfl rfl rfl ?_ | refine sq_ixa TYok rfl rfl rfl rfl rfl rfl rfl sd ?_ | refine sq_ixr TYok rfl rfl rfl rfl rfl rfl rfl sd ?_) | refine aw_rseq ?_ | refine aw_seq ?_ | refine aw_region ?_ | refine aw_skip ?_ | refine aw_true rfl ?_ | refine aw_false rfl ?_ | refine aw_block ?_ | refine aw_exit ?_ | refine then_ret ?_ | refine then_exit ?_ | refine then_normal ?_ | refine blk_ret ?_ | refine blk_normal ?_ | refine blk_exit ?_ | refine blk_pass rfl ?_))
  ((try refine aw_ret ?_); (repeat (first | refine then_ret ?_ | refine blk_ret ?_)))
  refine ⟨True.intro, _, (.cell _ _ _ _ _ _ _ _ _ rfl hb6 rfl Nat.zero_lt_one rfl .nil), hx6, ?_⟩
  rfl
set_option maxHeartbeats 4000000 in
theorem racc_take (S N a b c d r4 r6 r7 : Int) (hS : 1 ≤ S ∧ S ≤ 4000) (hN : 0 ≤ N ∧ N ≤ 1000) (h6 : 0 ≤ r6 ∧ r6 ≤ 1000000000000) (h7 : 0 ≤ r7 ∧ r7 ≤ 1000) : PS Try.prog 45 [.agg (tb S N), .agg (wk ⟨12, 3, a, b, c, d, r4, 0, r6, r7, false, 0⟩)] (acc 3 (S + 4 * N) r6 ((r6 / 1048576 + 1) * 1048576 + r7)) := by
  refine ps_in TYok Try.func45 (by kernel_rfl) Try.ntmps45 rfl rfl rfl (.agg _ fun x hx => by
    simp only [List.mem_cons, List.not_mem_nil, or_false] at hx
    rcases hx with rfl | rfl | rfl | rfl <;> exact .p _) fun H => ?_
  have hC := refC_s r6
  rw [Cn_small h6] at hC
  refine aw_seq ?_
  refine aw_region ?_
  refine sq_newk TYok TYz false rfl rfl rfl True.intro fun H1 hb1 ho1 hl1 => ?_
  refine sq_newk TYok TYz false rfl rfl rfl True.intro fun H2 hb2 ho2 hl2 => ?_
  refine sq_newk TYok TYz false rfl rfl rfl True.intro fun H3 hb3 ho3 hl3 => ?_
  have hb13 := ho3.get0 (ho2.get0 hb1)
  have hb23 := ho3.get0 hb2
  have hx3 := (ho1.ext.trans ho2.ext).trans ho3.ext
  have e1 : H1.length = H.length + 1 := hl1
  have e2 : H2.length = H1.length + 1 := hl2
  have e3 : H3.length = H2.length + 1 := hl3
  (repeat' (first | (refine sq_id ?_; first | refine sq_nil ?_ | refine sq_move rfl rfl rfl ?_ | refine sq_assign rfl rfl rfl ?_ | refine sq_skip rfl rfl ?_ | refine sq_t TYok TYz rfl rfl rfl True.intro so ?_ | refine sq_f TYok TYz rfl rfl rfl True.intro so ?_ | refine sq_pure TYok TYz false rfl rfl rfl sd ?_ | refine sq_pure TYok TYz true rfl rfl rfl sd ?_ | refine sq_load TYok rfl rfl rfl (by assumption) (by rfl) (by first | exact Nat.zero_lt_one | assumption | omega) (by rfl) ?_ | refine sq_lit TYok TYz rfl rfl rfl rfl rfl rfl rfl rfl ?_ | refine sq_ixa TYok rfl rfl rfl rfl rfl rfl rfl sd ?_ | refine sq_ixr TYok rfl rfl rfl rfl rfl rfl rfl sd ?_) | refine aw_rseq ?_ | refine aw_seq ?_ | refine aw_region ?_ | refine aw_skip ?_ | refine aw_true rfl ?_ | refine aw_false rfl ?_ | refine aw_block ?_ | refine aw_exit ?_ | refine then_ret ?_ | refine then_exit ?_ | refine then_normal ?_ | refine blk_ret ?_ | refine blk_normal ?_ | refine blk_exit ?_ | refine blk_pass rfl ?_))
  refine sq_newk TYok TYz false rfl rfl rfl True.intro fun H4 hb4 ho4 hl4 => ?_
  have e4 : H4.length = H3.length + 1 := hl4
  have hb14 := ho4.get0 hb13
  have hb24 := ho4.get0 hb23
  have hb34 := ho4.get0 hb3
  refine sq_storek TYok rfl rfl rfl hb4 rfl Nat.zero_lt_one rfl rfl rfl (Nat.le_of_ble_eq_true rfl) fun H5 hb5 ho5 hl5 => ?_
  have hb15 := ho5.get hb14 (by simp; omega)
  have hb25 := ho5.get hb24 (by simp; omega)
  have hb35 := ho5.get hb34 (by simp; omega)
  have hx5 : Ext H H5 := (hx3.trans ho4.ext).oth ho5 (by rintro _ ⟨⟩; omega)
  (repeat' (first | (refine sq_id ?_; first | refine sq_nil ?_ | refine sq_move rfl rfl rfl ?_ | refine sq_assign rfl rfl rfl ?_ | refine sq_skip rfl rfl ?_ | refine sq_t TYok TYz rfl rfl rfl True.intro so ?_ | refine sq_f TYok TYz rfl rfl rfl True.intro so ?_ | refine sq_pure TYok TYz false rfl rfl rfl sd ?_ | refine sq_pure TYok TYz true rfl rfl rfl sd ?_ | refine sq_load TYok rfl rfl rfl (by assumption) (by rfl) (by first | exact Nat.zero_lt_one | assumption | omega) (by rfl) ?_ | refine sq_lit TYok TYz rfl rfl rfl rfl rfl rfl rfl rfl ?_ | refine sq_ixa TYok rfl rfl rfl rfl rfl rfl rfl sd ?_ | refine sq_ixr TYok rfl rfl rfl rfl rfl rfl rfl sd ?_ | refine sq_ps rfl rfl rfl hC (LeL.refl _) ?_) | refine aw_rseq ?_ | refine aw_seq ?_ | refine aw_region ?_ | refine aw_skip ?_ | refine aw_true rfl ?_ | refine aw_false rfl ?_ | refine aw_block ?_ | refine aw_exit ?_ | refine then_ret ?_ | refine then_exit ?_ | refine then_normal ?_ | refine blk_ret ?_ | refine blk_normal ?_ | refine blk_exit ?_ | refine blk_pass rfl ?_ | refine sq_ps rfl rfl rfl hC (LeL.refl _) ?_))
  refine sq_storek TYok rfl rfl rfl hb35 rfl Nat.zero_lt_one rfl rfl rfl (Nat.le_of_ble_eq_true rfl) fun H6 hb6 ho6 hl6 => ?_
  have hx6 : Ext H H6 := hx5.oth ho6 (by rintro _ ⟨⟩; omega)
  (repeat' (first | (refine sq_id ?_; first | refine sq_nil ?_ | refine sq_move rfl rfl rfl ?_ | refine sq_assign rfl rfl rfl ?_ | refine sq_skip rfl rfl ?_ | refine sq_t TYok TYz rfl rfl rfl True.intro so ?_ | refine sq_f TYok TYz rfl rfl rfl True.intro so ?_ | refine sq_pure TYok TYz false rfl rfl rfl sd ?_ | refine sq_pure TYok TYz true rfl rfl rfl sd ?_ | refine sq_load TYok rfl rfl rfl (by assumption) (by rfl) (by first | exact Nat.zero_lt_one | assumption | omega) (by rfl) ?_ | refine sq_lit TYok TYz rfl rfl rfl rfl rfl rfl rfl rfl ?_ | refine sq_ixa TYok rfl rfl rfl rfl rfl rfl rfl sd ?_ | refine sq_ixr TYok rfl rfl rfl rfl rfl rfl rfl sd ?_) | refine aw_rseq ?_ | refine aw_seq ?_ | refine aw_region ?_ | refine aw_skip ?_ | refine aw_true rfl ?_ | refine aw_false rfl ?_ | refine aw_block ?_ | refine aw_exit ?_ | refine then_ret ?_ | refine then_exit ?_ | refine then_normal ?_ | refine blk_ret ?_ | refine blk_normal ?_ | refine blk_exit ?_ | refine blk_pass rfl ?_))
  ((try refine aw_ret ?_); (repeat (first | refine then_ret ?_ | refine blk_ret ?_)))
  refine ⟨True.intro, _, (.cell _ _ _ _ _ _ _ _ _ rfl hb6 rfl Nat.zero_lt_one rfl .nil), hx6, ?_⟩
  rfl
set_option maxHeartbeats 4000000 in
theorem racc_write0 (S N a b c d r4 r5 r6 : Int) (hS : 1 ≤ S ∧ S ≤ 4000) (hN : 0 ≤ N ∧ N ≤ 1000) (h5 : 1 ≤ r5 ∧ r5 ≤ N) : PS Try.prog 45 [.agg (tb S N), .agg (wk ⟨13, 3, a, b, c, d, r4, r5, r6, 0, false, 0⟩)] (acc 2 (S + 4 * (r5 - 1) + 0) 0 a) := by
  refine ps_in TYok Try.func45 (by kernel_rfl) Try.ntmps45 rfl rfl rfl (.agg _ fun x hx => by
    simp only [List.mem_cons, List.not_mem_nil, or_false] at hx
    rcases hx with rfl | rfl | rfl | rfl <;> exact .p _) fun H => ?_
  have hC := refC_s r6
  have hs := refkid_s S N (r5 - 1) 0 hS hN (by omega) (by decide)
  refine aw_seq ?_
  refine aw_region ?_
  refine sq_newk TYok TYz false rfl rfl rfl True.intro fun H1 hb1 ho1 hl1 => ?_
  refine sq_newk TYok TYz false rfl rfl rfl True.intro fun H2 hb2 ho2 hl2 => ?_
  refine sq_newk TYok TYz false rfl rfl rfl True.intro fun H3 hb3 ho3 hl3 => ?_
  have hb13 := ho3.get0 (ho2.get0 hb1)
  have hb23 := ho3.get0 hb2
  have hx3 := (ho1.ext.trans ho2.ext).trans ho3.ext
  have e1 : H1.length = H.length + 1 := hl1
  have e2 : H2.length = H1.length + 1 := hl2
  have e3 : H3.length = H2.length + 1 := hl3
  (repeat' (first | (refine sq_id ?_; first | refine sq_nil ?_ | refine sq_move rfl rfl rfl ?_ | refine sq_assign rfl rfl rfl ?_ | refine sq_skip rfl rfl ?_ | refine sq_t TYok TYz rfl rfl rfl True.intro so ?_ | refine sq_f TYok TYz rfl rfl rfl True.intro so ?_ | refine sq_pure TYok TYz false rfl rfl rfl sd ?_ | refine sq_pure TYok TYz true rfl rfl rfl sd ?_ | refine sq_load TYok rfl rfl rfl (by assumption) (by rfl) (by first | exact Nat.zero_lt_one | assumption | omega) (by rfl) ?_ | refine sq_lit TYok TYz rfl rfl rfl rfl rfl rfl rfl rfl ?_ | refine sq_ixa TYok rfl rfl rfl rfl rfl rfl rfl sd ?_ | refine sq_ixr TYok rfl rfl rfl rfl rfl rfl rfl sd ?_) | (refine rg_id ?_; first | refine rg_fin ?_ | refine rg_move rfl rfl rfl ?_ | refine rg_assign rfl rfl rfl ?_ | refine rg_skip rfl rfl ?_ | refine rg_t TYok TYz rfl rfl rfl True.intro so ?_ | refine rg_f TYok TYz rfl rfl rfl True.intro so ?_ | refine rg_pure TYok TYz false rfl rfl rfl sd ?_ | refine rg_pure TYok TYz true rfl rfl rfl sd ?_ | refine rg_load TYok rfl rfl rfl (by assumption) (by rfl) (by first | exact Nat.zero_lt_one | assumption | omega) (by rfl) ?_ | refine rg_lit TYok TYz rfl rfl rfl rfl rfl rfl rfl rfl ?_ | refine rg_ixa TYok rfl rfl rfl rfl rfl rfl rfl sd ?_ | refine rg_ixr TYok rfl rfl rfl rfl rfl rfl rfl sd ?_) | refine aw_rseq ?_ | refine aw_seq ?_ | refine aw_region ?_ | refine aw_skip ?_ | refine aw_true rfl ?_ | refine aw_false rfl ?_ | refine aw_d0seq rfl (by kernel_rfl) ?_ | refine aw_d0 rfl (by kernel_rfl) ?_ | refine aw_block ?_ | refine aw_exit ?_ | refine then_ret ?_ | refine then_exit ?_ | refine then_normal ?_ | refine blk_ret ?_ | refine blk_normal ?_ | refine blk_exit ?_ | refine blk_pass rfl ?_))
  refine sq_newk TYok TYz false rfl rfl rfl True.intro fun H4 hb4 ho4 hl4 => ?_
  have e4 : H4.length = H3.length + 1 := hl4
  have hb14 := ho4.get0 hb13
  have hb24 := ho4.get0 hb23
  have hb34 := ho4.get0 hb3
  refine sq_storek TYok rfl rfl rfl hb4 rfl Nat.zero_lt_one rfl rfl rfl (Nat.le_of_ble_eq_true rfl) fun H5 hb5 ho5 hl5 => ?_
  have hb15 := ho5.get hb14 (by simp; omega)
  have hb25 := ho5.get hb24 (by simp; omega)
  have hb35 := ho5.get hb34 (by simp; omega)
  have hx5 : Ext H H5 := (hx3.trans ho4.ext).oth ho5 (by rintro _ ⟨⟩; omega)
  (repeat' (first | (refine sq_id ?_; first | refine sq_nil ?_ | refine sq_move rfl rfl rfl ?_ | refine sq_assign rfl rfl rfl ?_ | refine sq_skip rfl rfl ?_ | refine sq_t TYok TYz rfl rfl rfl True.intro so ?_ | refine sq_f TYok TYz rfl rfl rfl True.intro so ?_ | refine sq_pure TYok TYz false rfl rfl rfl sd ?_ | refine sq_pure TYok TYz true rfl rfl rfl sd ?_ | refine sq_load TYok rfl rfl rfl (by assumption) (by rfl) (by first | exact Nat.zero_lt_one | assumption | omega) (by rfl) ?_ | refine sq_lit TYok TYz rfl rfl rfl rfl rfl rfl rfl rfl ?_ | refine sq_ixa TYok rfl rfl rfl rfl rfl rfl rfl sd ?_ | refine sq_ixr TYok rfl rfl rfl rfl rfl rfl rfl sd ?_ | refine sq_ps rfl rfl rfl hC (LeL.refl _) ?_ | refine rg_ps rfl rfl rfl hs (LeL.refl _) ?_) | (refine rg_id ?_; first | refine rg_fin ?_ | refine rg_move rfl rfl rfl ?_ | refine rg_assign rfl rfl rfl ?_ | refine rg_skip rfl rfl ?_ | refine rg_t TYok TYz rfl rfl rfl True.intro so ?_ | refine rg_f TYok TYz rfl rfl rfl True.intro so ?_ | refine rg_pure TYok TYz false rfl rfl rfl sd ?_ | refine rg_pure TYok TYz true rfl rfl rfl sd ?_ | refine rg_load TYok rfl rfl rfl (by assumption) (by rfl) (by first | exact Nat.zero_lt_one | assumption | omega) (by rfl) ?_ | refine rg_lit TYok TYz rfl rfl rfl rfl rfl rfl rfl rfl ?_ | refine rg_ixa TYok rfl rfl rfl rfl rfl rfl rfl sd ?_ | refine rg_ixr TYok rfl rfl rfl rfl rfl rfl rfl sd ?_ | refine sq_ps rfl rfl rfl hC (LeL.refl _) ?_ | refine rg_ps rfl rfl rfl hs (LeL.refl _) ?_) | refine aw_rseq ?_ | refine aw_seq ?_ | refine aw_region ?_ | refine aw_skip ?_ | refine aw_true rfl ?_ | refine aw_false rfl ?_ | refine aw_d0seq rfl (by kernel_rfl) ?_ | refine aw_d0 rfl (by kernel_rfl) ?_ | refine aw_block ?_ | refine aw_exit ?_ | refine then_ret ?_ | refine then_exit ?_ | refine then_normal ?_ | refine blk_ret ?_ | refine blk_normal ?_ | refine blk_exit ?_ | refine blk_pass rfl ?_ | refine sq_ps rfl rfl rfl hC (LeL.refl _) ?_ | refine rg_ps rfl rfl rfl hs (LeL.refl _) ?_))
  refine sq_storek TYok rfl rfl rfl hb35 rfl Nat.zero_lt_one rfl rfl rfl (Nat.le_of_ble_eq_true rfl) fun H6 hb6 ho6 hl6 => ?_
  have hx6 : Ext H H6 := hx5.oth ho6 (by rintro _ ⟨⟩; omega)
  (repeat' (first | (refine sq_id ?_; first | refine sq_nil ?_ | refine sq_move rfl rfl rfl ?_ | refine sq_assign rfl rfl rfl ?_ | refine sq_skip rfl rfl ?_ | refine sq_t TYok TYz rfl rfl rfl True.intro so ?_ | refine sq_f TYok TYz rfl rfl rfl True.intro so ?_ | refine sq_pure TYok TYz false rfl rfl rfl sd ?_ | refine sq_pure TYok TYz true rfl rfl rfl sd ?_ | refine sq_load TYok rfl rfl rfl (by assumption) (by rfl) (by first | exact Nat.zero_lt_one | assumption | omega) (by rfl) ?_ | refine sq_lit TYok TYz rfl rfl rfl rfl rfl rfl rfl rfl ?_ | refine sq_ixa TYok rfl rfl rfl rfl rfl rfl rfl sd ?_ | refine sq_ixr TYok rfl rfl rfl rfl rfl rfl rfl sd ?_) | (refine rg_id ?_; first | refine rg_fin ?_ | refine rg_move rfl rfl rfl ?_ | refine rg_assign rfl rfl rfl ?_ | refine rg_skip rfl rfl ?_ | refine rg_t TYok TYz rfl rfl rfl True.intro so ?_ | refine rg_f TYok TYz rfl rfl rfl True.intro so ?_ | refine rg_pure TYok TYz false rfl rfl rfl sd ?_ | refine rg_pure TYok TYz true rfl rfl rfl sd ?_ | refine rg_load TYok rfl rfl rfl (by assumption) (by rfl) (by first | exact Nat.zero_lt_one | assumption | omega) (by rfl) ?_ | refine rg_lit TYok TYz rfl rfl rfl rfl rfl rfl rfl rfl ?_ | refine rg_ixa TYok rfl rfl rfl rfl rfl rfl rfl sd ?_ | refine rg_ixr TYok rfl rfl rfl rfl rfl rfl rfl sd ?_) | refine aw_rseq ?_ | refine aw_seq ?_ | refine aw_region ?_ | refine aw_skip ?_ | refine aw_true rfl ?_ | refine aw_false rfl ?_ | refine aw_d0seq rfl (by kernel_rfl) ?_ | refine aw_d0 rfl (by kernel_rfl) ?_ | refine aw_block ?_ | refine aw_exit ?_ | refine then_ret ?_ | refine then_exit ?_ | refine then_normal ?_ | refine blk_ret ?_ | refine blk_normal ?_ | refine blk_exit ?_ | refine blk_pass rfl ?_))
  ((try refine aw_ret ?_); (repeat (first | refine then_ret ?_ | refine blk_ret ?_)))
  refine ⟨True.intro, _, (.cell _ _ _ _ _ _ _ _ _ rfl hb6 rfl Nat.zero_lt_one rfl .nil), hx6, ?_⟩
  rfl
set_option maxHeartbeats 4000000 in
theorem racc_write1 (S N a b c d r4 r5 r6 : Int) (hS : 1 ≤ S ∧ S ≤ 4000) (hN : 0 ≤ N ∧ N ≤ 1000) (h5 : 1 ≤ r5 ∧ r5 ≤ N) : PS Try.prog 45 [.agg (tb S N), .agg (wk ⟨13, 3, a, b, c, d, r4, r5, r6, 1, false, 0⟩)] (acc 2 (S + 4 * (r5 - 1) + 1) 0 b) := by
  refine ps_in TYok Try.func45 (by kernel_rfl) Try.ntmps45 rfl rfl rfl (.agg _ fun x hx => by
    simp only [List.mem_cons, List.not_mem_nil, or_false] at hx
    rcases hx with rfl | rfl | rfl | rfl <;> exact .p _) fun H => ?_
  have hC := refC_s r6
  have hs := refkid_s S N (r5 - 1) 1 hS hN (by omega) (by decide)
  refine aw_seq ?_
  refine aw_region ?_
  refine sq_newk TYok TYz false rfl rfl rfl True.intro fun H1 hb1 ho1 hl1 => ?_
  refine sq_newk TYok TYz false rfl rfl rfl True.intro fun H2 hb2 ho2 hl2 => ?_
  refine sq_newk TYok TYz false rfl rfl rfl True.intro fun H3 hb3 ho3 hl3 => ?_
  have hb13 := ho3.get0 (ho2.get0 hb1)
  have hb23 := ho3.get0 hb2
  have hx3 := (ho1.ext.trans ho2.ext).trans ho3.ext
  have e1 : H1.length = H.length + 1 := hl1
  have e2 : H2.length = H1.length + 1 := hl2
  have e3 : H3.length = H2.length + 1 := hl3
  (repeat' (first | (refine sq_id ?_; first | refine sq_nil ?_ | refine sq_move rfl rfl rfl ?_ | refine sq_assign rfl rfl rfl ?_ | refine sq_skip rfl rfl ?_ | refine sq_t TYok TYz rfl rfl rfl True.intro so ?_ | refine sq_f TYok TYz rfl rfl rfl True.intro so ?_ | refine sq_pure TYok TYz false rfl rfl rfl sd ?_ | refine sq_pure TYok TYz true rfl rfl rfl sd ?_ | refine sq_load TYok rfl rfl rfl (by assumption) (by rfl) (by first | exact Nat.zero_lt_one | assumption | omega) (by rfl) ?_ | refine sq_lit TYok TYz rfl rfl rfl rfl rfl rfl rfl rfl ?_ | refine sq_ixa TYok rfl rfl rfl rfl rfl rfl rfl sd ?_ | refine sq_ixr TYok rfl rfl rfl rfl rfl rfl rfl sd ?_) | (refine rg_id ?_; first | refine rg_fin ?_ | refine rg_move rfl rfl rfl ?_ | refine rg_assign rfl rfl rfl ?_ | refine rg_skip rfl rfl ?_ | refine rg_t TYok TYz rfl rfl rfl True.intro so ?_ | refine rg_f TYok TYz rfl rfl rfl True.intro so ?_ | refine rg_pure TYok TYz false rfl rfl rfl sd ?_ | refine rg_pure TYok TYz true rfl rfl rfl sd ?_ | refine rg_load TYok rfl rfl rfl (by assumption) (by rfl) (by first | exact Nat.zero_lt_one | assumption | omega) (by rfl) ?_ | refine rg_lit TYok TYz rfl rfl rfl rfl rfl rfl rfl rfl ?_ | refine rg_ixa TYok rfl rfl rfl rfl rfl rfl rfl sd ?_ | refine rg_ixr TYok rfl rfl rfl rfl rfl rfl rfl sd ?_) | refine aw_rseq ?_ | refine aw_seq ?_ | refine aw_region ?_ | refine aw_skip ?_ | refine aw_true rfl ?_ | refine aw_false rfl ?_ | refine aw_d0seq rfl (by kernel_rfl) ?_ | refine aw_d0 rfl (by kernel_rfl) ?_ | refine aw_block ?_ | refine aw_exit ?_ | refine then_ret ?_ | refine then_exit ?_ | refine then_normal ?_ | refine blk_ret ?_ | refine blk_normal ?_ | refine blk_exit ?_ | refine blk_pass rfl ?_))
  refine sq_newk TYok TYz false rfl rfl rfl True.intro fun H4 hb4 ho4 hl4 => ?_
  have e4 : H4.length = H3.length + 1 := hl4
  have hb14 := ho4.get0 hb13
  have hb24 := ho4.get0 hb23
  have hb34 := ho4.get0 hb3
  refine sq_storek TYok rfl rfl rfl hb4 rfl Nat.zero_lt_one rfl rfl rfl (Nat.le_of_ble_eq_true rfl) fun H5 hb5 ho5 hl5 => ?_
  have hb15 := ho5.get hb14 (by simp; omega)
  have hb25 := ho5.get hb24 (by simp; omega)
  have hb35 := ho5.get hb34 (by simp; omega)
  have hx5 : Ext H H5 := (hx3.trans ho4.ext).oth ho5 (by rintro _ ⟨⟩; omega)
  (repeat' (first | (refine sq_id ?_; first | refine sq_nil ?_ | refine sq_move rfl rfl rfl ?_ | refine sq_assign rfl rfl rfl ?_ | refine sq_skip rfl rfl ?_ | refine sq_t TYok TYz rfl rfl rfl True.intro so ?_ | refine sq_f TYok TYz rfl rfl rfl True.intro so ?_ | refine sq_pure TYok TYz false rfl rfl rfl sd ?_ | refine sq_pure TYok TYz true rfl rfl rfl sd ?_ | refine sq_load TYok rfl rfl rfl (by assumption) (by rfl) (by first | exact Nat.zero_lt_one | assumption | omega) (by rfl) ?_ | refine sq_lit TYok TYz rfl rfl rfl rfl rfl rfl rfl rfl ?_ | refine sq_ixa TYok rfl rfl rfl rfl rfl rfl rfl sd ?_ | refine sq_ixr TYok rfl rfl rfl rfl rfl rfl rfl sd ?_ | refine sq_ps rfl rfl rfl hC (LeL.refl _) ?_ | refine rg_ps rfl rfl rfl hs (LeL.refl _) ?_) | (refine rg_id ?_; first | refine rg_fin ?_ | refine rg_move rfl rfl rfl ?_ | refine rg_assign rfl rfl rfl ?_ | refine rg_skip rfl rfl ?_ | refine rg_t TYok TYz rfl rfl rfl True.intro so ?_ | refine rg_f TYok TYz rfl rfl rfl True.intro so ?_ | refine rg_pure TYok TYz false rfl rfl rfl sd ?_ | refine rg_pure TYok TYz true rfl rfl rfl sd ?_ | refine rg_load TYok rfl rfl rfl (by assumption) (by rfl) (by first | exact Nat.zero_lt_one | assumption | omega) (by rfl) ?_ | refine rg_lit TYok TYz rfl rfl rfl rfl rfl rfl rfl rfl ?_ | refine rg_ixa TYok rfl rfl rfl rfl rfl rfl rfl sd ?_ | refine rg_ixr TYok rfl rfl rfl rfl rfl rfl rfl sd ?_ | refine sq_ps rfl rfl rfl hC (LeL.refl _) ?_ | refine rg_ps rfl rfl rfl hs (LeL.refl _) ?_) | refine aw_rseq ?_ | refine aw_seq ?_ | refine aw_region ?_ | refine aw_skip ?_ | refine aw_true rfl ?_ | refine aw_false rfl ?_ | refine aw_d0seq rfl (by kernel_rfl) ?_ | refine aw_d0 rfl (by kernel_rfl) ?_ | refine aw_block ?_ | refine aw_exit ?_ | refine then_ret ?_ | refine then_exit ?_ | refine then_normal ?_ | refine blk_ret ?_ | refine blk_normal ?_ | refine blk_exit ?_ | refine blk_pass rfl ?_ | refine sq_ps rfl rfl rfl hC (LeL.refl _) ?_ | refine rg_ps rfl rfl rfl hs (LeL.refl _) ?_))
  refine sq_storek TYok rfl rfl rfl hb35 rfl Nat.zero_lt_one rfl rfl rfl (Nat.le_of_ble_eq_true rfl) fun H6 hb6 ho6 hl6 => ?_
  have hx6 : Ext H H6 := hx5.oth ho6 (by rintro _ ⟨⟩; omega)
  (repeat' (first | (refine sq_id ?_; first | refine sq_nil ?_ | refine sq_move rfl rfl rfl ?_ | refine sq_assign rfl rfl rfl ?_ | refine sq_skip rfl rfl ?_ | refine sq_t TYok TYz rfl rfl rfl True.intro so ?_ | refine sq_f TYok TYz rfl rfl rfl True.intro so ?_ | refine sq_pure TYok TYz false rfl rfl rfl sd ?_ | refine sq_pure TYok TYz true rfl rfl rfl sd ?_ | refine sq_load TYok rfl rfl rfl (by assumption) (by rfl) (by first | exact Nat.zero_lt_one | assumption | omega) (by rfl) ?_ | refine sq_lit TYok TYz rfl rfl rfl rfl rfl rfl rfl rfl ?_ | refine sq_ixa TYok rfl rfl rfl rfl rfl rfl rfl sd ?_ | refine sq_ixr TYok rfl rfl rfl rfl rfl rfl rfl sd ?_) | (refine rg_id ?_; first | refine rg_fin ?_ | refine rg_move rfl rfl rfl ?_ | refine rg_assign rfl rfl rfl ?_ | refine rg_skip rfl rfl ?_ | refine rg_t TYok TYz rfl rfl rfl True.intro so ?_ | refine rg_f TYok TYz rfl rfl rfl True.intro so ?_ | refine rg_pure TYok TYz false rfl rfl rfl sd ?_ | refine rg_pure TYok TYz true rfl rfl rfl sd ?_ | refine rg_load TYok rfl rfl rfl (by assumption) (by rfl) (by first | exact Nat.zero_lt_one | assumption | omega) (by rfl) ?_ | refine rg_lit TYok TYz rfl rfl rfl rfl rfl rfl rfl rfl ?_ | refine rg_ixa TYok rfl rfl rfl rfl rfl rfl rfl sd ?_ | refine rg_ixr TYok rfl rfl rfl rfl rfl rfl rfl sd ?_) | refine aw_rseq ?_ | refine aw_seq ?_ | refine aw_region ?_ | refine aw_skip ?_ | refine aw_true rfl ?_ | refine aw_false rfl ?_ | refine aw_d0seq rfl (by kernel_rfl) ?_ | refine aw_d0 rfl (by kernel_rfl) ?_ | refine aw_block ?_ | refine aw_exit ?_ | refine then_ret ?_ | refine then_exit ?_ | refine then_normal ?_ | refine blk_ret ?_ | refine blk_normal ?_ | refine blk_exit ?_ | refine blk_pass rfl ?_))
  ((try refine aw_ret ?_); (repeat (first | refine then_ret ?_ | refine blk_ret ?_)))
  refine ⟨True.intro, _, (.cell _ _ _ _ _ _ _ _ _ rfl hb6 rfl Nat.zero_lt_one rfl .nil), hx6, ?_⟩
  rfl
set_option maxHeartbeats 4000000 in
theorem racc_write2 (S N a b c d r4 r5 r6 : Int) (hS : 1 ≤ S ∧ S ≤ 4000) (hN : 0 ≤ N ∧ N ≤ 1000) (h5 : 1 ≤ r5 ∧ r5 ≤ N) : PS Try.prog 45 [.agg (tb S N), .agg (wk ⟨13, 3, a, b, c, d, r4, r5, r6, 2, false, 0⟩)] (acc 2 (S + 4 * (r5 - 1) + 2) 0 c) := by
  refine ps_in TYok Try.func45 (by kernel_rfl) Try.ntmps45 rfl rfl rfl (.agg _ fun x hx => by
    simp only [List.mem_cons, List.not_mem_nil, or_false] at hx
    rcases hx with rfl | rfl | rfl | rfl <;> exact .p _) fun H => ?_
  have hC := refC_s r6
  have hs := refkid_s S N (r5 - 1) 2 hS hN (by omega) (by decide)
  refine aw_seq ?_
  refine aw_region ?_
  refine sq_newk TYok TYz false rfl rfl rfl True.intro fun H1 hb1 ho1 hl1 => ?_
  refine sq_newk TYok TYz false rfl rfl rfl True.intro fun H2 hb2 ho2 hl2 => ?_
  refine sq_newk TYok TYz false rfl rfl rfl True.intro fun H3 hb3 ho3 hl3 => ?_
  have hb13 := ho3.get0 (ho2.get0 hb1)
  have hb23 := ho3.get0 hb2
  have hx3 := (ho1.ext.trans ho2.ext).trans ho3.ext
  have e1 : H1.length = H.length + 1 := hl1
  have e2 : H2.length = H1.length + 1 := hl2
  have e3 : H3.length = H2.length + 1 := hl3
  (repeat' (first | (refine sq_id ?_; first | refine sq_nil ?_ | refine sq_move rfl rfl rfl ?_ | refine sq_assign rfl rfl rfl ?_ | refine sq_skip rfl rfl ?_ | refine sq_t TYok TYz rfl rfl rfl True.intro so ?_ | refine sq_f TYok TYz rfl rfl rfl True.intro so ?_ | refine sq_pure TYok TYz false rfl rfl rfl sd ?_ | refine sq_pure TYok TYz true rfl rfl rfl sd ?_ | refine sq_load TYok rfl rfl rfl (by assumption) (by rfl) (by first | exact Nat.zero_lt_one | assumption | omega) (by rfl) ?_ | refine sq_lit TYok TYz rfl rfl rfl rfl rfl rfl rfl rfl ?_ | refine sq_ixa TYok rfl rfl rfl rfl rfl rfl rfl sd ?_ | refine sq_ixr TYok rfl rfl rfl rfl rfl rfl rfl sd ?_) | (refine rg_id ?_; first | refine rg_fin ?_ | refine rg_move rfl rfl rfl ?_ | refine rg_assign rfl rfl rfl ?_ | refine rg_skip rfl rfl ?_ | refine rg_t TYok TYz rfl rfl rfl True.intro so ?_ | refine rg_f TYok TYz rfl rfl rfl True.intro so ?_ | refine rg_pure TYok TYz false rfl rfl rfl sd ?_ | refine rg_pure TYok TYz true rfl rfl rfl sd ?_ | refine rg_load TYok rfl rfl rfl (by assumption) (by rfl) (by first | exact Nat.zero_lt_one | assumption | omega) (by rfl) ?_ | refine rg_lit TYok TYz rfl rfl rfl rfl rfl rfl rfl rfl ?_ | refine rg_ixa TYok rfl rfl rfl rfl rfl rfl rfl sd ?_ | refine rg_ixr TYok rfl rfl rfl rfl rfl rfl rfl sd ?_) | refine aw_rseq ?_ | refine aw_seq ?_ | refine aw_region ?_ | refine aw_skip ?_ | refine aw_true rfl ?_ | refine aw_false rfl ?_ | refine aw_d0seq rfl (by kernel_rfl) ?_ | refine aw_d0 rfl (by kernel_rfl) ?_ | refine aw_block ?_ | refine aw_exit ?_ | refine then_ret ?_ | refine then_exit ?_ | refine then_normal ?_ | refine blk_ret ?_ | refine blk_normal ?_ | refine blk_exit ?_ | refine blk_pass rfl ?_))
  refine sq_newk TYok TYz false rfl rfl rfl True.intro fun H4 hb4 ho4 hl4 => ?_
  have e4 : H4.length = H3.length + 1 := hl4
  have hb14 := ho4.get0 hb13
  have hb24 := ho4.get0 hb23
  have hb34 := ho4.get0 hb3
  refine sq_storek TYok rfl rfl rfl hb4 rfl Nat.zero_lt_one rfl rfl rfl (Nat.le_of_ble_eq_true rfl) fun H5 hb5 ho5 hl5 => ?_
  have hb15 := ho5.get hb14 (by simp; omega)
  have hb25 := ho5.get hb24 (by simp; omega)
  have hb35 := ho5.get hb34 (by simp; omega)
  have hx5 : Ext H H5 := (hx3.trans ho4.ext).oth ho5 (by rintro _ ⟨⟩; omega)
  (repeat' (first | (refine sq_id ?_; first | refine sq_nil ?_ | refine sq_move rfl rfl rfl ?_ | refine sq_assign rfl rfl rfl ?_ | refine sq_skip rfl rfl ?_ | refine sq_t TYok TYz rfl rfl rfl True.intro so ?_ | refine sq_f TYok TYz rfl rfl rfl True.intro so ?_ | refine sq_pure TYok TYz false rfl rfl rfl sd ?_ | refine sq_pure TYok TYz true rfl rfl rfl sd ?_ | refine sq_load TYok rfl rfl rfl (by assumption) (by rfl) (by first | exact Nat.zero_lt_one | assumption | omega) (by rfl) ?_ | refine sq_lit TYok TYz rfl rfl rfl rfl rfl rfl rfl rfl ?_ | refine sq_ixa TYok rfl rfl rfl rfl rfl rfl rfl sd ?_ | refine sq_ixr TYok rfl rfl rfl rfl rfl rfl rfl sd ?_ | refine sq_ps rfl rfl rfl hC (LeL.refl _) ?_ | refine rg_ps rfl rfl rfl hs (LeL.refl _) ?_) | (refine rg_id ?_; first | refine rg_fin ?_ | refine rg_move rfl rfl rfl ?_ | refine rg_assign rfl rfl rfl ?_ | refine rg_skip rfl rfl ?_ | refine rg_t TYok TYz rfl rfl rfl True.intro so ?_ | refine rg_f TYok TYz rfl rfl rfl True.intro so ?_ | refine rg_pure TYok TYz false rfl rfl rfl sd ?_ | refine rg_pure TYok TYz true rfl rfl rfl sd ?_ | refine rg_load TYok rfl rfl rfl (by assumption) (by rfl) (by first | exact Nat.zero_lt_one | assumption | omega) (by rfl) ?_ | refine rg_lit TYok TYz rfl rfl rfl rfl rfl rfl rfl rfl ?_ | refine rg_ixa TYok rfl rfl rfl rfl rfl rfl rfl sd ?_ | refine rg_ixr TYok rfl rfl rfl rfl rfl rfl rfl sd ?_ | refine sq_ps rfl rfl rfl hC (LeL.refl _) ?_ | refine rg_ps rfl rfl rfl hs (LeL.refl _) ?_) | refine aw_rseq ?_ | refine aw_seq ?_ | refine aw_region ?_ | refine aw_skip ?_ | refine aw_true rfl ?_ | refine aw_false rfl ?_ | refine aw_d0seq rfl (by kernel_rfl) ?_ | refine aw_d0 rfl (by kernel_rfl) ?_ | refine aw_block ?_ | refine aw_exit ?_ | refine then_ret ?_ | refine then_exit ?_ | refine then_normal ?_ | refine blk_ret ?_ | refine blk_normal ?_ | refine blk_exit ?_ | refine blk_pass rfl ?_ | refine sq_ps rfl rfl rfl hC (LeL.refl _) ?_ | refine rg_ps rfl rfl rfl hs (LeL.refl _) ?_))
  refine sq_storek TYok rfl rfl rfl hb35 rfl Nat.zero_lt_one rfl rfl rfl (Nat.le_of_ble_eq_true rfl) fun H6 hb6 ho6 hl6 => ?_
  have hx6 : Ext H H6 := hx5.oth ho6 (by rintro _ ⟨⟩; omega)
  (repeat' (first | (refine sq_id ?_; first | refine sq_nil ?_ | refine sq_move rfl rfl rfl ?_ | refine sq_assign rfl rfl rfl ?_ | refine sq_skip rfl rfl ?_ | refine sq_t TYok TYz rfl rfl rfl True.intro so ?_ | refine sq_f TYok TYz rfl rfl rfl True.intro so ?_ | refine sq_pure TYok TYz false rfl rfl rfl sd ?_ | refine sq_pure TYok TYz true rfl rfl rfl sd ?_ | refine sq_load TYok rfl rfl rfl (by assumption) (by rfl) (by first | exact Nat.zero_lt_one | assumption | omega) (by rfl) ?_ | refine sq_lit TYok TYz rfl rfl rfl rfl rfl rfl rfl rfl ?_ | refine sq_ixa TYok rfl rfl rfl rfl rfl rfl rfl sd ?_ | refine sq_ixr TYok rfl rfl rfl rfl rfl rfl rfl sd ?_) | (refine rg_id ?_; first | refine rg_fin ?_ | refine rg_move rfl rfl rfl ?_ | refine rg_assign rfl rfl rfl ?_ | refine rg_skip rfl rfl ?_ | refine rg_t TYok TYz rfl rfl rfl True.intro so ?_ | refine rg_f TYok TYz rfl rfl rfl True.intro so ?_ | refine rg_pure TYok TYz false rfl rfl rfl sd ?_ | refine rg_pure TYok TYz true rfl rfl rfl sd ?_ | refine rg_load TYok rfl rfl rfl (by assumption) (by rfl) (by first | exact Nat.zero_lt_one | assumption | omega) (by rfl) ?_ | refine rg_lit TYok TYz rfl rfl rfl rfl rfl rfl rfl rfl ?_ | refine rg_ixa TYok rfl rfl rfl rfl rfl rfl rfl sd ?_ | refine rg_ixr TYok rfl rfl rfl rfl rfl rfl rfl sd ?_) | refine aw_rseq ?_ | refine aw_seq ?_ | refine aw_region ?_ | refine aw_skip ?_ | refine aw_true rfl ?_ | refine aw_false rfl ?_ | refine aw_d0seq rfl (by kernel_rfl) ?_ | refine aw_d0 rfl (by kernel_rfl) ?_ | refine aw_block ?_ | refine aw_exit ?_ | refine then_ret ?_ | refine then_exit ?_ | refine then_normal ?_ | refine blk_ret ?_ | refine blk_normal ?_ | refine blk_exit ?_ | refine blk_pass rfl ?_))
  ((try refine aw_ret ?_); (repeat (first | refine then_ret ?_ | refine blk_ret ?_)))
  refine ⟨True.intro, _, (.cell _ _ _ _ _ _ _ _ _ rfl hb6 rfl Nat.zero_lt_one rfl .nil), hx6, ?_⟩
  rfl
set_option maxHeartbeats 4000000 in
theorem racc_write3 (S N a b c d r4 r5 r6 : Int) (hS : 1 ≤ S ∧ S ≤ 4000) (hN : 0 ≤ N ∧ N ≤ 1000) (h5 : 1 ≤ r5 ∧ r5 ≤ N) : PS Try.prog 45 [.agg (tb S N), .agg (wk ⟨13, 3, a, b, c, d, r4, r5, r6, 3, false, 0⟩)] (acc 2 (S + 4 * (r5 - 1) + 3) 0 d) := by
  refine ps_in TYok Try.func45 (by kernel_rfl) Try.ntmps45 rfl rfl rfl (.agg _ fun x hx => by
    simp only [List.mem_cons, List.not_mem_nil, or_false] at hx
    rcases hx with rfl | rfl | rfl | rfl <;> exact .p _) fun H => ?_
  have hC := refC_s r6
  have hs := refkid_s S N (r5 - 1) 3 hS hN (by omega) (by decide)
  refine aw_seq ?_
  refine aw_region ?_
  refine sq_newk TYok TYz false rfl rfl rfl True.intro fun H1 hb1 ho1 hl1 => ?_
  refine sq_newk TYok TYz false rfl rfl rfl True.intro fun H2 hb2 ho2 hl2 => ?_
  refine sq_newk TYok TYz false rfl rfl rfl True.intro fun H3 hb3 ho3 hl3 => ?_
  have hb13 := ho3.get0 (ho2.get0 hb1)
  have hb23 := ho3.get0 hb2
  have hx3 := (ho1.ext.trans ho2.ext).trans ho3.ext
  have e1 : H1.length = H.length + 1 := hl1
  have e2 : H2.length = H1.length + 1 := hl2
  have e3 : H3.length = H2.length + 1 := hl3
  (repeat' (first | (refine sq_id ?_; first | refine sq_nil ?_ | refine sq_move rfl rfl rfl ?_ | refine sq_assign rfl rfl rfl ?_ | refine sq_skip rfl rfl ?_ | refine sq_t TYok TYz rfl rfl rfl True.intro so ?_ | refine sq_f TYok TYz rfl rfl rfl True.intro so ?_ | refine sq_pure TYok TYz false rfl rfl rfl sd ?_ | refine sq_pure TYok TYz true rfl rfl rfl sd ?_ | refine sq_load TYok rfl rfl rfl (by assumption) (by rfl) (by first | exact Nat.zero_lt_one | assumption | omega) (by rfl) ?_ | refine sq_lit TYok TYz rfl rfl rfl rfl rfl rfl rfl rfl ?_ | refine sq_ixa TYok rfl rfl rfl rfl rfl rfl rfl sd ?_ | refine sq_ixr TYok rfl rfl rfl rfl rfl rfl rfl sd ?_) | (refine rg_id ?_; first | refine rg_fin ?_ | refine rg_move rfl rfl rfl ?_ | refine rg_assign rfl rfl rfl ?_ | refine rg_skip rfl rfl ?_ | refine rg_t TYok TYz rfl rfl rfl True.intro so ?_ | refine rg_f TYok TYz rfl rfl rfl True.intro so ?_ | refine rg_pure TYok TYz false rfl rfl rfl sd ?_ | refine rg_pure TYok TYz true rfl rfl rfl sd ?_ | refine rg_load TYok rfl rfl rfl (by assumption) (by rfl) (by first | exact Nat.zero_lt_one | assumption | omega) (by rfl) ?_ | refine rg_lit TYok TYz rfl rfl rfl rfl rfl rfl rfl rfl ?_ | refine rg_ixa TYok rfl rfl rfl rfl rfl rfl rfl sd ?_ | refine rg_ixr TYok rfl rfl rfl rfl rfl rfl rfl sd ?_) | refine aw_rseq ?_ | refine aw_seq ?_ | refine aw_region ?_ | refine aw_skip ?_ | refine aw_true rfl ?_ | refine aw_false rfl ?_ | refine aw_d0seq rfl (by kernel_rfl) ?_ | refine aw_d0 rfl (by kernel_rfl) ?_ | refine aw_block ?_ | refine aw_exit ?_ | refine then_ret ?_ | refine then_exit ?_ | refine then_normal ?_ | refine blk_ret ?_ | refine blk_normal ?_ | refine blk_exit ?_ | refine blk_pass rfl ?_))
  refine sq_newk TYok TYz false rfl rfl rfl True.intro fun H4 hb4 ho4 hl4 => ?_
  have e4 : H4.length = H3.length + 1 := hl4
  have hb14 := ho4.get0 hb13
  have hb24 := ho4.get0 hb23
  have hb34 := ho4.get0 hb3
  refine sq_storek TYok rfl rfl rfl hb4 rfl Nat.zero_lt_one rfl rfl rfl (Nat.le_of_ble_eq_true rfl) fun H5 hb5 ho5 hl5 => ?_
  have hb15 := ho5.get hb14 (by simp; omega)
  have hb25 := ho5.get hb24 (by simp; omega)
  have hb35 := ho5.get hb34 (by simp; omega)
  have hx5 : Ext H H5 := (hx3.trans ho4.ext).oth ho5 (by rintro _ ⟨⟩; omega)
  (repeat' (first | (refine sq_id ?_; first | refine sq_nil ?_ | refine sq_move rfl rfl rfl ?_ | refine sq_assign rfl rfl rfl ?_ | refine sq_skip rfl rfl ?_ | refine sq_t TYok TYz rfl rfl rfl True.intro so ?_ | refine sq_f TYok TYz rfl rfl rfl True.intro so ?_ | refine sq_pure TYok TYz false rfl rfl rfl sd ?_ | refine sq_pure TYok TYz true rfl rfl rfl sd ?_ | refine sq_load TYok rfl rfl rfl (by assumption) (by rfl) (by first | exact Nat.zero_lt_one | assumption | omega) (by rfl) ?_ | refine sq_lit TYok TYz rfl rfl rfl rfl rfl rfl rfl rfl ?_ | refine sq_ixa TYok rfl rfl rfl rfl rfl rfl rfl sd ?_ | refine sq_ixr TYok rfl rfl rfl rfl rfl rfl rfl sd ?_ | refine sq_ps rfl rfl rfl hC (LeL.refl _) ?_ | refine rg_ps rfl rfl rfl hs (LeL.refl _) ?_) | (refine rg_id ?_; first | refine rg_fin ?_ | refine rg_move rfl rfl rfl ?_ | refine rg_assign rfl rfl rfl ?_ | refine rg_skip rfl rfl ?_ | refine rg_t TYok TYz rfl rfl rfl True.intro so ?_ | refine rg_f TYok TYz rfl rfl rfl True.intro so ?_ | refine rg_pure TYok TYz false rfl rfl rfl sd ?_ | refine rg_pure TYok TYz true rfl rfl rfl sd ?_ | refine rg_load TYok rfl rfl rfl (by assumption) (by rfl) (by first | exact Nat.zero_lt_one | assumption | omega) (by rfl) ?_ | refine rg_lit TYok TYz rfl rfl rfl rfl rfl rfl rfl rfl ?_ | refine rg_ixa TYok rfl rfl rfl rfl rfl rfl rfl sd ?_ | refine rg_ixr TYok rfl rfl rfl rfl rfl rfl rfl sd ?_ | refine sq_ps rfl rfl rfl hC (LeL.refl _) ?_ | refine rg_ps rfl rfl rfl hs (LeL.refl _) ?_) | refine aw_rseq ?_ | refine aw_seq ?_ | refine aw_region ?_ | refine aw_skip ?_ | refine aw_true rfl ?_ | refine aw_false rfl ?_ | refine aw_d0seq rfl (by kernel_rfl) ?_ | refine aw_d0 rfl (by kernel_rfl) ?_ | refine aw_block ?_ | refine aw_exit ?_ | refine then_ret ?_ | refine then_exit ?_ | refine then_normal ?_ | refine blk_ret ?_ | refine blk_normal ?_ | refine blk_exit ?_ | refine blk_pass rfl ?_ | refine sq_ps rfl rfl rfl hC (LeL.refl _) ?_ | refine rg_ps rfl rfl rfl hs (LeL.refl _) ?_))
  refine sq_storek TYok rfl rfl rfl hb35 rfl Nat.zero_lt_one rfl rfl rfl (Nat.le_of_ble_eq_true rfl) fun H6 hb6 ho6 hl6 => ?_
  have hx6 : Ext H H6 := hx5.oth ho6 (by rintro _ ⟨⟩; omega)
  (repeat' (first | (refine sq_id ?_; first | refine sq_nil ?_ | refine sq_move rfl rfl rfl ?_ | refine sq_assign rfl rfl rfl ?_ | refine sq_skip rfl rfl ?_ | refine sq_t TYok TYz rfl rfl rfl True.intro so ?_ | refine sq_f TYok TYz rfl rfl rfl True.intro so ?_ | refine sq_pure TYok TYz false rfl rfl rfl sd ?_ | refine sq_pure TYok TYz true rfl rfl rfl sd ?_ | refine sq_load TYok rfl rfl rfl (by assumption) (by rfl) (by first | exact Nat.zero_lt_one | assumption | omega) (by rfl) ?_ | refine sq_lit TYok TYz rfl rfl rfl rfl rfl rfl rfl rfl ?_ | refine sq_ixa TYok rfl rfl rfl rfl rfl rfl rfl sd ?_ | refine sq_ixr TYok rfl rfl rfl rfl rfl rfl rfl sd ?_) | (refine rg_id ?_; first | refine rg_fin ?_ | refine rg_move rfl rfl rfl ?_ | refine rg_assign rfl rfl rfl ?_ | refine rg_skip rfl rfl ?_ | refine rg_t TYok TYz rfl rfl rfl True.intro so ?_ | refine rg_f TYok TYz rfl rfl rfl True.intro so ?_ | refine rg_pure TYok TYz false rfl rfl rfl sd ?_ | refine rg_pure TYok TYz true rfl rfl rfl sd ?_ | refine rg_load TYok rfl rfl rfl (by assumption) (by rfl) (by first | exact Nat.zero_lt_one | assumption | omega) (by rfl) ?_ | refine rg_lit TYok TYz rfl rfl rfl rfl rfl rfl rfl rfl ?_ | refine rg_ixa TYok rfl rfl rfl rfl rfl rfl rfl sd ?_ | refine rg_ixr TYok rfl rfl rfl rfl rfl rfl rfl sd ?_) | refine aw_rseq ?_ | refine aw_seq ?_ | refine aw_region ?_ | refine aw_skip ?_ | refine aw_true rfl ?_ | refine aw_false rfl ?_ | refine aw_d0seq rfl (by kernel_rfl) ?_ | refine aw_d0 rfl (by kernel_rfl) ?_ | refine aw_block ?_ | refine aw_exit ?_ | refine then_ret ?_ | refine then_exit ?_ | refine then_normal ?_ | refine blk_ret ?_ | refine blk_normal ?_ | refine blk_exit ?_ | refine blk_pass rfl ?_))
  ((try refine aw_ret ?_); (repeat (first | refine then_ret ?_ | refine blk_ret ?_)))
  refine ⟨True.intro, _, (.cell _ _ _ _ _ _ _ _ _ rfl hb6 rfl Nat.zero_lt_one rfl .nil), hx6, ?_⟩
  rfl
set_option maxHeartbeats 4000000 in
theorem racc_claim (S N a b c d r4 r5 r6 r7 : Int) (hS : 1 ≤ S ∧ S ≤ 4000) (hN : 0 ≤ N ∧ N ≤ 1000) (h4 : 0 ≤ r4 ∧ r4 ≤ 4000) : PS Try.prog 45 [.agg (tb S N), .agg (wk ⟨20, 3, a, b, c, d, r4, r5, r6, r7, false, 0⟩)] (acc 3 (slotV (⟨20, 3, a, b, c, d, r4, r5, r6, r7, false, 0⟩ : Wk) S) 0 r5) := by
  refine ps_in TYok Try.func45 (by kernel_rfl) Try.ntmps45 rfl rfl rfl (.agg _ fun x hx => by
    simp only [List.mem_cons, List.not_mem_nil, or_false] at hx
    rcases hx with rfl | rfl | rfl | rfl <;> exact .p _) fun H => ?_
  have hC := refC_s r6
  have hs := refslot_s S N hS (⟨20, 3, a, b, c, d, r4, r5, r6, r7, false, 0⟩ : Wk) h4
  generalize slotV (⟨20, 3, a, b, c, d, r4, r5, r6, r7, false, 0⟩ : Wk) S = v at *
  refine aw_seq ?_
  refine aw_region ?_
  refine sq_newk TYok TYz false rfl rfl rfl True.intro fun H1 hb1 ho1 hl1 => ?_
  refine sq_newk TYok TYz false rfl rfl rfl True.intro fun H2 hb2 ho2 hl2 => ?_
  refine sq_newk TYok TYz false rfl rfl rfl True.intro fun H3 hb3 ho3 hl3 => ?_
  have hb13 := ho3.get0 (ho2.get0 hb1)
  have hb23 := ho3.get0 hb2
  have hx3 := (ho1.ext.trans ho2.ext).trans ho3.ext
  have e1 : H1.length = H.length + 1 := hl1
  have e2 : H2.length = H1.length + 1 := hl2
  have e3 : H3.length = H2.length + 1 := hl3
  (repeat' (first | (refine sq_id ?_; first | refine sq_nil ?_ | refine sq_move rfl rfl rfl ?_ | refine sq_assign rfl rfl rfl ?_ | refine sq_skip rfl rfl ?_ | refine sq_t TYok TYz rfl rfl rfl True.intro so ?_ | refine sq_f TYok TYz rfl rfl rfl True.intro so ?_ | refine sq_pure TYok TYz false rfl rfl rfl sd ?_ | refine sq_pure TYok TYz true rfl rfl rfl sd ?_ | refine sq_load TYok rfl rfl rfl (by assumption) (by rfl) (by first | exact Nat.zero_lt_one | assumption | omega) (by rfl) ?_ | refine sq_lit TYok TYz rfl rfl rfl rfl rfl rfl rfl rfl ?_ | refine sq_ixa TYok rfl rfl rfl rfl rfl rfl rfl sd ?_ | refine sq_ixr TYok rfl rfl rfl rfl rfl rfl rfl sd ?_) | (refine rg_id ?_; first | refine rg_fin ?_ | refine rg_move rfl rfl rfl ?_ | refine rg_assign rfl rfl rfl ?_ | refine rg_skip rfl rfl ?_ | refine rg_t TYok TYz rfl rfl rfl True.intro so ?_ | refine rg_f TYok TYz rfl rfl rfl True.intro so ?_ | refine rg_pure TYok TYz false rfl rfl rfl sd ?_ | refine rg_pure TYok TYz true rfl rfl rfl sd ?_ | refine rg_load TYok rfl rfl rfl (by assumption) (by rfl) (by first | exact Nat.zero_lt_one | assumption | omega) (by rfl) ?_ | refine rg_lit TYok TYz rfl rfl rfl rfl rfl rfl rfl rfl ?_ | refine rg_ixa TYok rfl rfl rfl rfl rfl rfl rfl sd ?_ | refine rg_ixr TYok rfl rfl rfl rfl rfl rfl rfl sd ?_) | refine aw_rseq ?_ | refine aw_seq ?_ | refine aw_region ?_ | refine aw_skip ?_ | refine aw_true rfl ?_ | refine aw_false rfl ?_ | refine aw_d0seq rfl (by kernel_rfl) ?_ | refine aw_d0 rfl (by kernel_rfl) ?_ | refine aw_block ?_ | refine aw_exit ?_ | refine then_ret ?_ | refine then_exit ?_ | refine then_normal ?_ | refine blk_ret ?_ | refine blk_normal ?_ | refine blk_exit ?_ | refine blk_pass rfl ?_))
  refine sq_newk TYok TYz false rfl rfl rfl True.intro fun H4 hb4 ho4 hl4 => ?_
  have e4 : H4.length = H3.length + 1 := hl4
  have hb14 := ho4.get0 hb13
  have hb24 := ho4.get0 hb23
  have hb34 := ho4.get0 hb3
  refine sq_storek TYok rfl rfl rfl hb4 rfl Nat.zero_lt_one rfl rfl rfl (Nat.le_of_ble_eq_true rfl) fun H5 hb5 ho5 hl5 => ?_
  have hb15 := ho5.get hb14 (by simp; omega)
  have hb25 := ho5.get hb24 (by simp; omega)
  have hb35 := ho5.get hb34 (by simp; omega)
  have hx5 : Ext H H5 := (hx3.trans ho4.ext).oth ho5 (by rintro _ ⟨⟩; omega)
  (repeat' (first | (refine sq_id ?_; first | refine sq_nil ?_ | refine sq_move rfl rfl rfl ?_ | refine sq_assign rfl rfl rfl ?_ | refine sq_skip rfl rfl ?_ | refine sq_t TYok TYz rfl rfl rfl True.intro so ?_ | refine sq_f TYok TYz rfl rfl rfl True.intro so ?_ | refine sq_pure TYok TYz false rfl rfl rfl sd ?_ | refine sq_pure TYok TYz true rfl rfl rfl sd ?_ | refine sq_load TYok rfl rfl rfl (by assumption) (by rfl) (by first | exact Nat.zero_lt_one | assumption | omega) (by rfl) ?_ | refine sq_lit TYok TYz rfl rfl rfl rfl rfl rfl rfl rfl ?_ | refine sq_ixa TYok rfl rfl rfl rfl rfl rfl rfl sd ?_ | refine sq_ixr TYok rfl rfl rfl rfl rfl rfl rfl sd ?_ | refine sq_ps rfl rfl rfl hC (LeL.refl _) ?_ | refine rg_ps rfl rfl rfl hs (LeL.refl _) ?_) | (refine rg_id ?_; first | refine rg_fin ?_ | refine rg_move rfl rfl rfl ?_ | refine rg_assign rfl rfl rfl ?_ | refine rg_skip rfl rfl ?_ | refine rg_t TYok TYz rfl rfl rfl True.intro so ?_ | refine rg_f TYok TYz rfl rfl rfl True.intro so ?_ | refine rg_pure TYok TYz false rfl rfl rfl sd ?_ | refine rg_pure TYok TYz true rfl rfl rfl sd ?_ | refine rg_load TYok rfl rfl rfl (by assumption) (by rfl) (by first | exact Nat.zero_lt_one | assumption | omega) (by rfl) ?_ | refine rg_lit TYok TYz rfl rfl rfl rfl rfl rfl rfl rfl ?_ | refine rg_ixa TYok rfl rfl rfl rfl rfl rfl rfl sd ?_ | refine rg_ixr TYok rfl rfl rfl rfl rfl rfl rfl sd ?_ | refine sq_ps rfl rfl rfl hC (LeL.refl _) ?_ | refine rg_ps rfl rfl rfl hs (LeL.refl _) ?_) | refine aw_rseq ?_ | refine aw_seq ?_ | refine aw_region ?_ | refine aw_skip ?_ | refine aw_true rfl ?_ | refine aw_false rfl ?_ | refine aw_d0seq rfl (by kernel_rfl) ?_ | refine aw_d0 rfl (by kernel_rfl) ?_ | refine aw_block ?_ | refine aw_exit ?_ | refine then_ret ?_ | refine then_exit ?_ | refine then_normal ?_ | refine blk_ret ?_ | refine blk_normal ?_ | refine blk_exit ?_ | refine blk_pass rfl ?_ | refine sq_ps rfl rfl rfl hC (LeL.refl _) ?_ | refine rg_ps rfl rfl rfl hs (LeL.refl _) ?_))
  refine sq_storek TYok rfl rfl rfl hb35 rfl Nat.zero_lt_one rfl rfl rfl (Nat.le_of_ble_eq_true rfl) fun H6 hb6 ho6 hl6 => ?_
  have hx6 : Ext H H6 := hx5.oth ho6 (by rintro _ ⟨⟩; omega)
  (repeat' (first | (refine sq_id ?_; first | refine sq_nil ?_ | refine sq_move rfl rfl rfl ?_ | refine sq_assign rfl rfl rfl ?_ | refine sq_skip rfl rfl ?_ | refine sq_t TYok TYz rfl rfl rfl True.intro so ?_ | refine sq_f TYok TYz rfl rfl rfl True.intro so ?_ | refine sq_pure TYok TYz false rfl rfl rfl sd ?_ | refine sq_pure TYok TYz true rfl rfl rfl sd ?_ | refine sq_load TYok rfl rfl rfl (by assumption) (by rfl) (by first | exact Nat.zero_lt_one | assumption | omega) (by rfl) ?_ | refine sq_lit TYok TYz rfl rfl rfl rfl rfl rfl rfl rfl ?_ | refine sq_ixa TYok rfl rfl rfl rfl rfl rfl rfl sd ?_ | refine sq_ixr TYok rfl rfl rfl rfl rfl rfl rfl sd ?_) | (refine rg_id ?_; first | refine rg_fin ?_ | refine rg_move rfl rfl rfl ?_ | refine rg_assign rfl rfl rfl ?_ | refine rg_skip rfl rfl ?_ | refine rg_t TYok TYz rfl rfl rfl True.intro so ?_ | refine rg_f TYok TYz rfl rfl rfl True.intro so ?_ | refine rg_pure TYok TYz false rfl rfl rfl sd ?_ | refine rg_pure TYok TYz true rfl rfl rfl sd ?_ | refine rg_load TYok rfl rfl rfl (by assumption) (by rfl) (by first | exact Nat.zero_lt_one | assumption | omega) (by rfl) ?_ | refine rg_lit TYok TYz rfl rfl rfl rfl rfl rfl rfl rfl ?_ | refine rg_ixa TYok rfl rfl rfl rfl rfl rfl rfl sd ?_ | refine rg_ixr TYok rfl rfl rfl rfl rfl rfl rfl sd ?_) | refine aw_rseq ?_ | refine aw_seq ?_ | refine aw_region ?_ | refine aw_skip ?_ | refine aw_true rfl ?_ | refine aw_false rfl ?_ | refine aw_d0seq rfl (by kernel_rfl) ?_ | refine aw_d0 rfl (by kernel_rfl) ?_ | refine aw_block ?_ | refine aw_exit ?_ | refine then_ret ?_ | refine then_exit ?_ | refine then_normal ?_ | refine blk_ret ?_ | refine blk_normal ?_ | refine blk_exit ?_ | refine blk_pass rfl ?_))
  ((try refine aw_ret ?_); (repeat (first | refine then_ret ?_ | refine blk_ret ?_)))
  refine ⟨True.intro, _, (.cell _ _ _ _ _ _ _ _ _ rfl hb6 rfl Nat.zero_lt_one rfl .nil), hx6, ?_⟩
  rfl
end Go.Proofs.Ytcehniefjelgeaa.Ab
