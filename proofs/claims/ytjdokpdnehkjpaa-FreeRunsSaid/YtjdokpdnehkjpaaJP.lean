/- Whatever many do at once is as the document says: free lists. -/
import Derived.Test.YtjdokpdnehkjpaaJO
import Derived.Test.YtjdokpdnehkjpaaHV
import Derived.Test.YtjdokpdnehkjpaaJJ
import Derived.Test.YtjdokpdnehkjpaaJL
namespace Go.Proofs.Ytjdokpdnehkjpaa.Ab
open Go Go.RowKit
theorem refrun_lit (m picks : List Int) (l : List Wk) {m' : List Int} {l' : List Wk} {e : Int} (h : driveT (stepF 0) picks m l = (m', l', e)) (hm : okI m) (hl : l.length ≤ 1000000) (hpl : picks.length ≤ maxLen) (hp : ∀ x ∈ picks, I64 x) :
    PS Try.prog 13 [ints m, .i 0, ints picks, wks l] (.tup [ints m', wks l', .i e]) := by
  have := refrun_s m picks l 0 (by unfold I64; omega) hm hl hpl hp
  rwa [h] at this
theorem driveL_ok (at_ : Int) (picks m0 : List Int) (l0 : List Wk) (hm : okI m0) : ∀ (f : Nat) (last : Int) (ws : List Int) (now : List Wk), okI ws → now.length = l0.length →
    okI (driveL (stepF at_) picks m0 l0 f last ws now).1 ∧ (driveL (stepF at_) picks m0 l0 f last ws now).2.1.length = l0.length
  | 0, last, ws, now, h, hl => by
    rw [driveL]; split
    · exact ⟨h, hl⟩
    · exact ⟨hm, rfl⟩
  | f + 1, last, ws, now, h, hl => by
    rw [driveL]; split
    · exact ⟨h, hl⟩
    · split
      · exact driveL_ok at_ picks m0 l0 hm f _ _ _ (stepF_ok at_ ws _ h) (by simp [hl])
      · exact ⟨hm, rfl⟩
theorem driveT_ok (at_ : Int) (picks m0 : List Int) (l0 : List Wk) (hm : okI m0) : okI (driveT (stepF at_) picks m0 l0).1 ∧ (driveT (stepF at_) picks m0 l0).2.1.length = l0.length := by
  unfold driveT
  split
  · exact ⟨hm, rfl⟩
  · exact driveL_ok at_ picks m0 l0 hm _ _ _ _ hm rfl
abbrev intss (xs : List (List Int)) : AV := .lst false 1 xs.length fun i => [ints (xs.getD i [])]
set_option maxHeartbeats 4000000 in
theorem runs_s (c : Int) (crowds : List (List Int)) (picks : List Int) (hc : I64 c) (hcr : crowds.length ≤ maxLen ∧ ∀ x ∈ crowds, x.length ≤ maxLen ∧ ∀ y ∈ x, I64 y) (hp : picks.length ≤ maxLen ∧ ∀ x ∈ picks, I64 x) :
    SC true Try.prog 3 [.i c, intss crowds, ints picks] [] (fun r _ => r = .b true) := by
  refine sc_in TYok Try.func3 (by kernel_rfl) Try.ntmps3 rfl rfl rfl ?_
  obtain ⟨y, hP, _, y0, y1⟩ := pick_k c 7 hc (by omega)
  obtain ⟨n, rfl⟩ := Int.eq_ofNat_of_zero_le y0
  have hM := refmake_s n (by omega)
  have hok := makeL_ok n (by omega)
  have hcl : crowds.length ≤ 9223372036854775807 := hcr.1
  (repeat' (first | (refine sq_id ?_; first | refine sq_nil ?_ | refine sq_move rfl rfl rfl ?_ | refine sq_assign rfl rfl rfl ?_ | refine sq_skip rfl rfl ?_ | refine sq_t TYok TYz rfl rfl rfl True.intro so ?_ | refine sq_f TYok TYz rfl rfl rfl True.intro so ?_ | refine sq_pure TYok TYz false rfl rfl rfl sd ?_ | refine sq_pure TYok TYz true rfl rfl rfl sd ?_ | refine sq_load TYok rfl rfl rfl (by assumption) (by rfl) (by first | exact Nat.zero_lt_one | assumption | omega) (by rfl) ?_ | refine sq_lit TYok TYz rfl rfl rfl rfl rfl rfl rfl rfl ?_ | refine sq_ixa TYok rfl rfl rfl rfl rfl rfl rfl sd ?_ | refine sq_ixr TYok rfl rfl rfl rfl rfl rfl rfl sd ?_ | refine sq_ps rfl rfl rfl awake_s .nil ?_ | refine sq_ps rfl rfl rfl hP (LeL.refl _) ?_ | refine sq_ps rfl rfl rfl hM (LeL.refl _) ?_) | (refine rg_id ?_; first | refine rg_fin ?_ | refine rg_move rfl rfl rfl ?_ | refine rg_assign rfl rfl rfl ?_ | refine rg_skip rfl rfl ?_ | refine rg_t TYok TYz rfl rfl rfl True.intro so ?_ | refine rg_f TYok TYz rfl rfl rfl True.intro so ?_ | refine rg_pure TYok TYz false rfl rfl rfl sd ?_ | refine rg_pure TYok TYz true rfl rfl rfl sd ?_ | refine rg_load TYok rfl rfl rfl (by assumption) (by rfl) (by first | exact Nat.zero_lt_one | assumption | omega) (by rfl) ?_ | refine rg_lit TYok TYz rfl rfl rfl rfl rfl rfl rfl rfl ?_ | refine rg_ixa TYok rfl rfl rfl rfl rfl rfl rfl sd ?_ | refine rg_ixr TYok rfl rfl rfl rfl rfl rfl rfl sd ?_ | refine sq_ps rfl rfl rfl awake_s .nil ?_ | refine sq_ps rfl rfl rfl hP (LeL.refl _) ?_ | refine sq_ps rfl rfl rfl hM (LeL.refl _) ?_) | refine aw_rseq ?_ | refine aw_seq ?_ | refine aw_region ?_ | refine aw_skip ?_ | refine aw_true rfl ?_ | refine aw_false rfl ?_ | refine aw_d0seq rfl (by kernel_rfl) ?_ | refine aw_d0 rfl (by kernel_rfl) ?_ | refine aw_block ?_ | refine aw_exit ?_ | refine then_ret ?_ | refine then_exit ?_ | refine then_normal ?_ | refine blk_ret ?_ | refine blk_normal ?_ | refine blk_exit ?_ | refine blk_pass rfl ?_ | refine sq_ps rfl rfl rfl awake_s .nil ?_ | refine sq_ps rfl rfl rfl hP (LeL.refl _) ?_ | refine sq_ps rfl rfl rfl hM (LeL.refl _) ?_))
  refine aw_slot 9 (ints []) (le_nil _ _ _) ?_
  refine aw_for [1, 2, 7, 8, 9, 10] (fun s : Nat × List Int × List Int => [(1, intss crowds), (2, ints picks), (7, .b true), (8, ints s.2.1), (9, ints s.2.2), (10, .i s.1)])
    (fun s _ => s.1 ≤ crowds.length ∧ s.1 ≤ 4 ∧ okI s.2.1 ∧ s.2.2.length ≤ 8 * s.1) (fun s => crowds.length - s.1) (0, makeL n, []) (by rw [rstf_eq]; rfl) ⟨by omega, by omega, hok, by simp⟩ ?_
  clear hM hok hP
  rintro ⟨k, m, held⟩ H1 ⟨hk, hk4, hm, hh⟩
  simp only at hk hk4 hm hh
  by_cases hlt : k < crowds.length ∧ k < 4
  · obtain ⟨h1, h2⟩ := hlt
    obtain ⟨c1, c2⟩ := hcr.2 _ (mem_getD crowds [] k h1)
    have hC := crowd_s (crowds.getD k []) held c1 (by have : maxLen = 9223372036854775807 := rfl; omega)
    have hL := crowdL_len (crowds.getD k []) held
    generalize crowdL (crowds.getD k []) held = l at *
    obtain ⟨o1, o2⟩ := driveT_ok 0 picks m l hm
    rcases hd : driveT (stepF 0) picks m l with ⟨ws, now, e⟩
    rw [hd] at o1 o2
    simp only at o1 o2
    have hR := run_lit m picks l 0 hd hm (by omega) hp.1 hp.2
    have hS := refrun_lit m picks l hd hm (by omega) hp.1 hp.2
    have hI := ints_t ws (by have := o1.1; omega)
    have hw := same_s now (by omega)
    have hK := keep_s held now (by omega) (by omega)
    have hkl := keepL_len held now
    generalize keepL held now = held2 at *
    (repeat' (first | (refine sq_id ?_; first | refine sq_nil ?_ | refine sq_move rfl rfl rfl ?_ | refine sq_assign rfl rfl rfl ?_ | refine sq_skip rfl rfl ?_ | refine sq_t TYok TYz rfl rfl rfl True.intro so ?_ | refine sq_f TYok TYz rfl rfl rfl True.intro so ?_ | refine sq_pure TYok TYz false rfl rfl rfl sd ?_ | refine sq_pure TYok TYz true rfl rfl rfl sd ?_ | refine sq_load TYok rfl rfl rfl (by assumption) (by rfl) (by first | exact Nat.zero_lt_one | assumption | omega) (by rfl) ?_ | refine sq_lit TYok TYz rfl rfl rfl rfl rfl rfl rfl rfl ?_ | refine sq_ixa TYok rfl rfl rfl rfl rfl rfl rfl sd ?_ | refine sq_ixr TYok rfl rfl rfl rfl rfl rfl rfl sd ?_ | refine sq_ps rfl rfl rfl hC (LeL.refl _) ?_ | refine sq_ps rfl rfl rfl hR (LeL.refl _) ?_ | refine sq_ps rfl rfl rfl hS (LeL.refl _) ?_ | refine sq_ps rfl rfl rfl hI (LeL.refl _) ?_ | refine sq_ps rfl rfl rfl hw (LeL.refl _) ?_ | refine sq_ps rfl rfl rfl hK (LeL.refl _) ?_) | (refine rg_id ?_; first | refine rg_fin ?_ | refine rg_move rfl rfl rfl ?_ | refine rg_assign rfl rfl rfl ?_ | refine rg_skip rfl rfl ?_ | refine rg_t TYok TYz rfl rfl rfl True.intro so ?_ | refine rg_f TYok TYz rfl rfl rfl True.intro so ?_ | refine rg_pure TYok TYz false rfl rfl rfl sd ?_ | refine rg_pure TYok TYz true rfl rfl rfl sd ?_ | refine rg_load TYok rfl rfl rfl (by assumption) (by rfl) (by first | exact Nat.zero_lt_one | assumption | omega) (by rfl) ?_ | refine rg_lit TYok TYz rfl rfl rfl rfl rfl rfl rfl rfl ?_ | refine rg_ixa TYok rfl rfl rfl rfl rfl rfl rfl sd ?_ | refine rg_ixr TYok rfl rfl rfl rfl rfl rfl rfl sd ?_ | refine sq_ps rfl rfl rfl hC (LeL.refl _) ?_ | refine sq_ps rfl rfl rfl hR (LeL.refl _) ?_ | refine sq_ps rfl rfl rfl hS (LeL.refl _) ?_ | refine sq_ps rfl rfl rfl hI (LeL.refl _) ?_ | refine sq_ps rfl rfl rfl hw (LeL.refl _) ?_ | refine sq_ps rfl rfl rfl hK (LeL.refl _) ?_) | refine aw_rseq ?_ | refine aw_seq ?_ | refine aw_region ?_ | refine aw_skip ?_ | refine aw_true rfl ?_ | refine aw_false rfl ?_ | refine aw_d0seq rfl (by kernel_rfl) ?_ | refine aw_d0 rfl (by kernel_rfl) ?_ | refine aw_block ?_ | refine aw_exit ?_ | refine then_ret ?_ | refine then_exit ?_ | refine then_normal ?_ | refine blk_ret ?_ | refine blk_normal ?_ | refine blk_exit ?_ | refine blk_pass rfl ?_ | refine sq_ps rfl rfl rfl hC (LeL.refl _) ?_ | refine sq_ps rfl rfl rfl hR (LeL.refl _) ?_ | refine sq_ps rfl rfl rfl hS (LeL.refl _) ?_ | refine sq_ps rfl rfl rfl hI (LeL.refl _) ?_ | refine sq_ps rfl rfl rfl hw (LeL.refl _) ?_ | refine sq_ps rfl rfl rfl hK (LeL.refl _) ?_))
    exact ⟨(k + 1, ws, held2), by rw [rstf_eq]; rfl, ⟨by simp only; omega, by simp only; omega, o1, by simp only; omega⟩, by simp only; omega⟩
  · rcases (by omega : ¬ k < crowds.length ∨ (k < crowds.length ∧ ¬ k < 4)) with h | ⟨h, h2⟩
    · (repeat' (first | (refine sq_id ?_; first | refine sq_nil ?_ | refine sq_move rfl rfl rfl ?_ | refine sq_assign rfl rfl rfl ?_ | refine sq_skip rfl rfl ?_ | refine sq_t TYok TYz rfl rfl rfl True.intro so ?_ | refine sq_f TYok TYz rfl rfl rfl True.intro so ?_ | refine sq_pure TYok TYz false rfl rfl rfl sd ?_ | refine sq_pure TYok TYz true rfl rfl rfl sd ?_ | refine sq_load TYok rfl rfl rfl (by assumption) (by rfl) (by first | exact Nat.zero_lt_one | assumption | omega) (by rfl) ?_ | refine sq_lit TYok TYz rfl rfl rfl rfl rfl rfl rfl rfl ?_ | refine sq_ixa TYok rfl rfl rfl rfl rfl rfl rfl sd ?_ | refine sq_ixr TYok rfl rfl rfl rfl rfl rfl rfl sd ?_) | (refine rg_id ?_; first | refine rg_fin ?_ | refine rg_move rfl rfl rfl ?_ | refine rg_assign rfl rfl rfl ?_ | refine rg_skip rfl rfl ?_ | refine rg_t TYok TYz rfl rfl rfl True.intro so ?_ | refine rg_f TYok TYz rfl rfl rfl True.intro so ?_ | refine rg_pure TYok TYz false rfl rfl rfl sd ?_ | refine rg_pure TYok TYz true rfl rfl rfl sd ?_ | refine rg_load TYok rfl rfl rfl (by assumption) (by rfl) (by first | exact Nat.zero_lt_one | assumption | omega) (by rfl) ?_ | refine rg_lit TYok TYz rfl rfl rfl rfl rfl rfl rfl rfl ?_ | refine rg_ixa TYok rfl rfl rfl rfl rfl rfl rfl sd ?_ | refine rg_ixr TYok rfl rfl rfl rfl rfl rfl rfl sd ?_) | refine aw_rseq ?_ | refine aw_seq ?_ | refine aw_region ?_ | refine aw_skip ?_ | refine aw_true rfl ?_ | refine aw_false rfl ?_ | refine aw_d0seq rfl (by kernel_rfl) ?_ | refine aw_d0 rfl (by kernel_rfl) ?_ | refine aw_block ?_ | refine aw_exit ?_ | refine then_ret ?_ | refine then_exit ?_ | refine then_normal ?_ | refine blk_ret ?_ | refine blk_normal ?_ | refine blk_exit ?_ | refine blk_pass rfl ?_))
      ((try refine aw_ret ?_); (repeat (first | refine then_ret ?_ | refine blk_ret ?_)); refine fin_t True.intro rfl rfl ?_)
      rfl
    · (repeat' (first | (refine sq_id ?_; first | refine sq_nil ?_ | refine sq_move rfl rfl rfl ?_ | refine sq_assign rfl rfl rfl ?_ | refine sq_skip rfl rfl ?_ | refine sq_t TYok TYz rfl rfl rfl True.intro so ?_ | refine sq_f TYok TYz rfl rfl rfl True.intro so ?_ | refine sq_pure TYok TYz false rfl rfl rfl sd ?_ | refine sq_pure TYok TYz true rfl rfl rfl sd ?_ | refine sq_load TYok rfl rfl rfl (by assumption) (by rfl) (by first | exact Nat.zero_lt_one | assumption | omega) (by rfl) ?_ | refine sq_lit TYok TYz rfl rfl rfl rfl rfl rfl rfl rfl ?_ | refine sq_ixa TYok rfl rfl rfl rfl rfl rfl rfl sd ?_ | refine sq_ixr TYok rfl rfl rfl rfl rfl rfl rfl sd ?_) | (refine rg_id ?_; first | refine rg_fin ?_ | refine rg_move rfl rfl rfl ?_ | refine rg_assign rfl rfl rfl ?_ | refine rg_skip rfl rfl ?_ | refine rg_t TYok TYz rfl rfl rfl True.intro so ?_ | refine rg_f TYok TYz rfl rfl rfl True.intro so ?_ | refine rg_pure TYok TYz false rfl rfl rfl sd ?_ | refine rg_pure TYok TYz true rfl rfl rfl sd ?_ | refine rg_load TYok rfl rfl rfl (by assumption) (by rfl) (by first | exact Nat.zero_lt_one | assumption | omega) (by rfl) ?_ | refine rg_lit TYok TYz rfl rfl rfl rfl rfl rfl rfl rfl ?_ | refine rg_ixa TYok rfl rfl rfl rfl rfl rfl rfl sd ?_ | refine rg_ixr TYok rfl rfl rfl rfl rfl rfl rfl sd ?_) | refine aw_rseq ?_ | refine aw_seq ?_ | refine aw_region ?_ | refine aw_skip ?_ | refine aw_true rfl ?_ | refine aw_false rfl ?_ | refine aw_d0seq rfl (by kernel_rfl) ?_ | refine aw_d0 rfl (by kernel_rfl) ?_ | refine aw_block ?_ | refine aw_exit ?_ | refine then_ret ?_ | refine then_exit ?_ | refine then_normal ?_ | refine blk_ret ?_ | refine blk_normal ?_ | refine blk_exit ?_ | refine blk_pass rfl ?_))
      ((try refine aw_ret ?_); (repeat (first | refine then_ret ?_ | refine blk_ret ?_)); refine fin_t True.intro rfl rfl ?_)
      rfl
end Go.Proofs.Ytjdokpdnehkjpaa.Ab
