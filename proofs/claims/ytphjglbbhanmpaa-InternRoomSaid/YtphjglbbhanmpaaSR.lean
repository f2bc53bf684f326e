/- InternRoom. -/
import Derived.Test.YtphjglbbhanmpaaSP
namespace Go.Proofs.Ytphjglbbhanmpaa.Ab
open Go Go.RowKit
set_option maxRecDepth 10000
set_option maxHeartbeats 8000000 in
theorem room_s (first raw : List Four) (picks : List Int) (more : Int) (hfr : first.length ≤ maxLen ∧ ∀ x ∈ first, F64 x) (hr : raw.length ≤ maxLen ∧ ∀ x ∈ raw, F64 x) (hp : picks.length ≤ maxLen ∧ ∀ x ∈ picks, I64 x) (hmo : I64 more) :
    SC true Try.prog 5 [accs first, accs raw, ints picks, .i more] [] (fun r _ => r = .b true) := by
  have hpk := pick_s more 5 hmo (by omega)
  have hpb := pick_bd more 5 (by omega)
  obtain ⟨d, hd0⟩ := Int.eq_ofNat_of_zero_le hpb.1
  rw [hd0] at hpk hpb
  have hd5 : d < 5 := by omega
  obtain ⟨S, hS⟩ : ∃ S : Nat, S = 24 + d := ⟨_, rfl⟩
  have hk1 := kidsL_len first
  have hk2 := kidsL_len raw
  have ha1 := kidsL_at first
  have ha2 := kidsL_at raw
  have hl1' : first.length ≤ 9223372036854775807 := hfr.1
  have hl2' : raw.length ≤ 9223372036854775807 := hr.1
  have hcr1 := crowd_s first hfr
  have hcr2 := crowd_s raw hr
  have hkf1 : ∀ i, i < (kidsL first).length → PS Try.prog 11 [.agg (fours (first.getD i (0, 0, 0, 0)))] (.agg (kv ((kidsL first).getD i k0))) := fun i hi => by
    rw [ha1 i hi]
    exact kidof_s _ (hfr.2 _ (mem_getD first (0, 0, 0, 0) i (by omega)))
  have hkf2 : ∀ i, i < (kidsL raw).length → PS Try.prog 11 [.agg (fours (raw.getD i (0, 0, 0, 0)))] (.agg (kv ((kidsL raw).getD i k0))) := fun i hi => by
    rw [ha2 i hi]
    exact kidof_s _ (hr.2 _ (mem_getD raw (0, 0, 0, 0) i (by omega)))
  obtain ⟨m, l, F, C, hrun, hI, hd, hC⟩ := crun_s S 24 (by omega) (by omega) (by omega) (Tab_new S 24) (by omega) (kidsL first) (by omega) (by rw [List.length_range]; omega) (kidsL_b first) picks hp.1 hp.2
  have hT := hI.tab_end hd
  have hleft := hI.left
  rw [List.length_range] at hleft
  obtain ⟨m2, l2, F2, C2, hrun2, hI2, hd2, hC2⟩ := crun_s S 24 (by omega) (by omega) (by omega) hT (by omega) (kidsL raw) (by omega) (by omega) (kidsL_b raw) picks hp.1 hp.2
  have hT2 := hI2.tab_end hd2
  have hw := hT.words (by omega) (by omega)
  have hw2 := hT2.words (by omega) (by omega)
  have hln := hI.ln
  have hln2 := hI2.ln
  have hlen := hT.len
  have hlen2 := hT2.len
  have f1 : ∀ i, i < l.length → 0 ≤ (l.getD i wk0).out ∧ PS Try.prog 16 [.agg (tb S 24), ints m, .agg (kv ((kidsL first).getD i k0))] (.i (l.getD i wk0).out) ∧ PS Try.prog 16 [.agg (tb S 24), ints m2, .agg (kv ((kidsL first).getD i k0))] (.i (l.getD i wk0).out) := fun i hi => by
    obtain ⟨p, n, h, e⟩ := hI.out hd (i := i) (by omega)
    have g1 := Find_s S 24 m hw ((kidsL first).getD i k0)
    have g2 := Find_s S 24 m2 hw2 ((kidsL first).getD i k0)
    rw [find_at h] at g1
    rw [find_at (hI2.old _ _ _ h)] at g2
    rw [e]
    exact ⟨by omega, g1, g2⟩
  have f2 : ∀ i, i < l2.length → 0 ≤ (l2.getD i wk0).out ∧ PS Try.prog 16 [.agg (tb S 24), ints m2, .agg (kv ((kidsL raw).getD i k0))] (.i (l2.getD i wk0).out) := fun i hi => by
    obtain ⟨p, n, h, e⟩ := hI2.out hd2 (i := i) (by omega)
    have g2 := Find_s S 24 m2 hw2 ((kidsL raw).getD i k0)
    rw [find_at h] at g2
    rw [e]
    exact ⟨by omega, g2⟩
  have hrt := right15_s S 24 m2 F2 C2 hT2 (by omega) (by omega)
  have hnew := refnew_s S 24 (by omega) (by omega)
  have hms : ((kidsL first).map startK).length = (kidsL first).length := List.length_map ..
  have hms2 : ((kidsL raw).map startK).length = (kidsL raw).length := List.length_map ..
  generalize (kidsL first).map startK = L1 at *
  generalize (kidsL raw).map startK = L2 at *
  generalize newL S 24 = mm at *
  clear hI hd hT hw hI2 hd2 hT2 hw2 ha1 ha2
  generalize kidsL first = ks1 at *
  generalize kidsL raw = ks2 at *
  refine sc_in TYok Try.func5 (by kernel_rfl) Try.ntmps5 rfl rfl rfl ?_
  (repeat' (first | (refine sq_id ?_; first | refine sq_nil ?_ | refine sq_move rfl rfl rfl ?_ | refine sq_assign rfl rfl rfl ?_ | refine sq_skip rfl rfl ?_ | refine sq_t TYok TYz rfl rfl rfl True.intro so ?_ | refine sq_f TYok TYz rfl rfl rfl True.intro so ?_ | refine sq_pure TYok TYz false rfl rfl rfl sd ?_ | refine sq_pure TYok TYz true rfl rfl rfl sd ?_ | refine sq_load TYok rfl rfl rfl (by assumption) (by rfl) (by first | exact Nat.zero_lt_one | assumption | omega) (by rfl) ?_ | refine sq_lit TYok TYz rfl rfl rfl rfl rfl rfl rfl rfl ?_ | refine sq_ixa TYok rfl rfl rfl rfl rfl rfl rfl sd ?_ | refine sq_ixr TYok rfl rfl rfl rfl rfl rfl rfl sd ?_ | refine sq_ps rfl rfl rfl awake_s .nil ?_ | refine sq_ps rfl rfl rfl hpk (LeL.refl _) ?_) | (refine rg_id ?_; first | refine rg_fin ?_ | refine rg_move rfl rfl rfl ?_ | refine rg_assign rfl rfl rfl ?_ | refine rg_skip rfl rfl ?_ | refine rg_t TYok TYz rfl rfl rfl True.intro so ?_ | refine rg_f TYok TYz rfl rfl rfl True.intro so ?_ | refine rg_pure TYok TYz false rfl rfl rfl sd ?_ | refine rg_pure TYok TYz true rfl rfl rfl sd ?_ | refine rg_load TYok rfl rfl rfl (by assumption) (by rfl) (by first | exact Nat.zero_lt_one | assumption | omega) (by rfl) ?_ | refine rg_lit TYok TYz rfl rfl rfl rfl rfl rfl rfl rfl ?_ | refine rg_ixa TYok rfl rfl rfl rfl rfl rfl rfl sd ?_ | refine rg_ixr TYok rfl rfl rfl rfl rfl rfl rfl sd ?_ | refine sq_ps rfl rfl rfl awake_s .nil ?_ | refine sq_ps rfl rfl rfl hpk (LeL.refl _) ?_) | refine aw_rseq ?_ | refine aw_seq ?_ | refine aw_region ?_ | refine aw_skip ?_ | refine aw_true rfl ?_ | refine aw_false rfl ?_ | refine aw_d0seq rfl (by kernel_rfl) ?_ | refine aw_d0 rfl (by kernel_rfl) ?_ | refine aw_block ?_ | refine aw_exit ?_ | refine then_ret ?_ | refine then_exit ?_ | refine then_normal ?_ | refine blk_ret ?_ | refine blk_normal ?_ | refine blk_exit ?_ | refine blk_pass rfl ?_ | refine sq_ps rfl rfl rfl awake_s .nil ?_ | refine sq_ps rfl rfl rfl hpk (LeL.refl _) ?_))
  refine sq_newk TYok TYz false rfl rfl rfl True.intro fun H1 hb1 ho1 hl1 => ?_
  refine sq_storek TYok rfl rfl rfl hb1 rfl Nat.zero_lt_one rfl rfl rfl (Nat.le_of_ble_eq_true rfl) fun H2 hb2 ho2 hl2 => ?_
  refine sq_nil ?_
  repeat (first | refine blk_normal ?_ | refine then_normal ?_)
  refine aw_norm 0 ⟨26, 2, 1, fun _ => tb S 24⟩ hb2 rfl rfl rfl (one_blk rfl (by rw [hS]; rfl)) fun H3 hb3 ho3 hl3 => ?_
  have hb3n := nil_at hb3
  (repeat' (first | (refine sq_id ?_; first | refine sq_nil ?_ | refine sq_move rfl rfl rfl ?_ | refine sq_assign rfl rfl rfl ?_ | refine sq_skip rfl rfl ?_ | refine sq_t TYok TYz rfl rfl rfl True.intro so ?_ | refine sq_f TYok TYz rfl rfl rfl True.intro so ?_ | refine sq_pure TYok TYz false rfl rfl rfl sd ?_ | refine sq_pure TYok TYz true rfl rfl rfl sd ?_ | refine sq_load TYok rfl rfl rfl (by assumption) (by rfl) (by first | exact Nat.zero_lt_one | assumption | omega) (by rfl) ?_ | refine sq_lit TYok TYz rfl rfl rfl rfl rfl rfl rfl rfl ?_ | refine sq_ixa TYok rfl rfl rfl rfl rfl rfl rfl sd ?_ | refine sq_ixr TYok rfl rfl rfl rfl rfl rfl rfl sd ?_ | refine rg_ps rfl rfl rfl hcr1 (LeL.refl _) ?_ | refine rg_ps rfl rfl rfl hcr2 (LeL.refl _) ?_ | refine rg_ps rfl rfl rfl hnew (LeL.refl _) ?_ | refine rg_ps rfl rfl rfl hrun (LeL.refl _) ?_ | refine rg_ps rfl rfl rfl hrun2 (LeL.refl _) ?_ | refine sq_ps rfl rfl rfl hcr1 (LeL.refl _) ?_ | refine sq_ps rfl rfl rfl hcr2 (LeL.refl _) ?_) | (refine rg_id ?_; first | refine rg_fin ?_ | refine rg_move rfl rfl rfl ?_ | refine rg_assign rfl rfl rfl ?_ | refine rg_skip rfl rfl ?_ | refine rg_t TYok TYz rfl rfl rfl True.intro so ?_ | refine rg_f TYok TYz rfl rfl rfl True.intro so ?_ | refine rg_pure TYok TYz false rfl rfl rfl sd ?_ | refine rg_pure TYok TYz true rfl rfl rfl sd ?_ | refine rg_load TYok rfl rfl rfl (by assumption) (by rfl) (by first | exact Nat.zero_lt_one | assumption | omega) (by rfl) ?_ | refine rg_lit TYok TYz rfl rfl rfl rfl rfl rfl rfl rfl ?_ | refine rg_ixa TYok rfl rfl rfl rfl rfl rfl rfl sd ?_ | refine rg_ixr TYok rfl rfl rfl rfl rfl rfl rfl sd ?_ | refine rg_ps rfl rfl rfl hcr1 (LeL.refl _) ?_ | refine rg_ps rfl rfl rfl hcr2 (LeL.refl _) ?_ | refine rg_ps rfl rfl rfl hnew (LeL.refl _) ?_ | refine rg_ps rfl rfl rfl hrun (LeL.refl _) ?_ | refine rg_ps rfl rfl rfl hrun2 (LeL.refl _) ?_ | refine sq_ps rfl rfl rfl hcr1 (LeL.refl _) ?_ | refine sq_ps rfl rfl rfl hcr2 (LeL.refl _) ?_) | refine aw_rseq ?_ | refine aw_seq ?_ | refine aw_region ?_ | refine aw_skip ?_ | refine aw_true rfl ?_ | refine aw_false rfl ?_ | refine aw_d0seq rfl (by kernel_rfl) ?_ | refine aw_d0 rfl (by kernel_rfl) ?_ | refine aw_block ?_ | refine aw_exit ?_ | refine then_ret ?_ | refine then_exit ?_ | refine then_normal ?_ | refine blk_ret ?_ | refine blk_normal ?_ | refine blk_exit ?_ | refine blk_pass rfl ?_ | refine rg_ps rfl rfl rfl hcr1 (LeL.refl _) ?_ | refine rg_ps rfl rfl rfl hcr2 (LeL.refl _) ?_ | refine rg_ps rfl rfl rfl hnew (LeL.refl _) ?_ | refine rg_ps rfl rfl rfl hrun (LeL.refl _) ?_ | refine rg_ps rfl rfl rfl hrun2 (LeL.refl _) ?_ | refine sq_ps rfl rfl rfl hcr1 (LeL.refl _) ?_ | refine sq_ps rfl rfl rfl hcr2 (LeL.refl _) ?_))
  refine aw_for [0, 1, 9, 10, 11, 12, 14, 15, 17] (fun i : Nat => [(0, accs first), (1, accs raw), (9, .b true), (10, .ref 0 2 0 0), (11, ints m), (12, wks l), (14, ints m2), (15, wks l2), (17, .i i)])
    (fun i H' => i ≤ l.length ∧ H'[0]? = some (some ⟨26, 2, 1, fun _ => tb S 24⟩)) (fun i => l.length - i) 0 (by rw [rstf_eq]; rfl) ⟨by omega, nil_at hb3n⟩ ?_
  rintro i H4 ⟨hi, hb4⟩
  by_cases hlt : i < l.length
  · obtain ⟨g0, g1, g2⟩ := f1 i hlt
    have hki := hkf1 i (by omega)
    (repeat' (first | (refine sq_id ?_; first | refine sq_nil ?_ | refine sq_move rfl rfl rfl ?_ | refine sq_assign rfl rfl rfl ?_ | refine sq_skip rfl rfl ?_ | refine sq_t TYok TYz rfl rfl rfl True.intro so ?_ | refine sq_f TYok TYz rfl rfl rfl True.intro so ?_ | refine sq_pure TYok TYz false rfl rfl rfl sd ?_ | refine sq_pure TYok TYz true rfl rfl rfl sd ?_ | refine sq_load TYok rfl rfl rfl (by assumption) (by rfl) (by first | exact Nat.zero_lt_one | assumption | omega) (by rfl) ?_ | refine sq_lit TYok TYz rfl rfl rfl rfl rfl rfl rfl rfl ?_ | refine sq_ixa TYok rfl rfl rfl rfl rfl rfl rfl sd ?_ | refine sq_ixr TYok rfl rfl rfl rfl rfl rfl rfl sd ?_ | refine rg_ps rfl rfl rfl hki (LeL.refl _) ?_ | refine rg_ps rfl rfl rfl g2 (LeL.refl _) ?_ | refine rg_ps rfl rfl rfl g1 (LeL.refl _) ?_) | (refine rg_id ?_; first | refine rg_fin ?_ | refine rg_move rfl rfl rfl ?_ | refine rg_assign rfl rfl rfl ?_ | refine rg_skip rfl rfl ?_ | refine rg_t TYok TYz rfl rfl rfl True.intro so ?_ | refine rg_f TYok TYz rfl rfl rfl True.intro so ?_ | refine rg_pure TYok TYz false rfl rfl rfl sd ?_ | refine rg_pure TYok TYz true rfl rfl rfl sd ?_ | refine rg_load TYok rfl rfl rfl (by assumption) (by rfl) (by first | exact Nat.zero_lt_one | assumption | omega) (by rfl) ?_ | refine rg_lit TYok TYz rfl rfl rfl rfl rfl rfl rfl rfl ?_ | refine rg_ixa TYok rfl rfl rfl rfl rfl rfl rfl sd ?_ | refine rg_ixr TYok rfl rfl rfl rfl rfl rfl rfl sd ?_ | refine rg_ps rfl rfl rfl hki (LeL.refl _) ?_ | refine rg_ps rfl rfl rfl g2 (LeL.refl _) ?_ | refine rg_ps rfl rfl rfl g1 (LeL.refl _) ?_) | refine aw_rseq ?_ | refine aw_seq ?_ | refine aw_region ?_ | refine aw_skip ?_ | refine aw_true rfl ?_ | refine aw_false rfl ?_ | refine aw_d0seq rfl (by kernel_rfl) ?_ | refine aw_d0 rfl (by kernel_rfl) ?_ | refine aw_block ?_ | refine aw_exit ?_ | refine then_ret ?_ | refine then_exit ?_ | refine then_normal ?_ | refine blk_ret ?_ | refine blk_normal ?_ | refine blk_exit ?_ | refine blk_pass rfl ?_ | refine rg_ps rfl rfl rfl hki (LeL.refl _) ?_ | refine rg_ps rfl rfl rfl g2 (LeL.refl _) ?_ | refine rg_ps rfl rfl rfl g1 (LeL.refl _) ?_))
    exact ⟨i + 1, by rw [rstf_eq]; rfl, ⟨by omega, nil_at hb4⟩, by omega⟩
  · (repeat' (first | (refine sq_id ?_; first | refine sq_nil ?_ | refine sq_move rfl rfl rfl ?_ | refine sq_assign rfl rfl rfl ?_ | refine sq_skip rfl rfl ?_ | refine sq_t TYok TYz rfl rfl rfl True.intro so ?_ | refine sq_f TYok TYz rfl rfl rfl True.intro so ?_ | refine sq_pure TYok TYz false rfl rfl rfl sd ?_ | refine sq_pure TYok TYz true rfl rfl rfl sd ?_ | refine sq_load TYok rfl rfl rfl (by assumption) (by rfl) (by first | exact Nat.zero_lt_one | assumption | omega) (by rfl) ?_ | refine sq_lit TYok TYz rfl rfl rfl rfl rfl rfl rfl rfl ?_ | refine sq_ixa TYok rfl rfl rfl rfl rfl rfl rfl sd ?_ | refine sq_ixr TYok rfl rfl rfl rfl rfl rfl rfl sd ?_) | (refine rg_id ?_; first | refine rg_fin ?_ | refine rg_move rfl rfl rfl ?_ | refine rg_assign rfl rfl rfl ?_ | refine rg_skip rfl rfl ?_ | refine rg_t TYok TYz rfl rfl rfl True.intro so ?_ | refine rg_f TYok TYz rfl rfl rfl True.intro so ?_ | refine rg_pure TYok TYz false rfl rfl rfl sd ?_ | refine rg_pure TYok TYz true rfl rfl rfl sd ?_ | refine rg_load TYok rfl rfl rfl (by assumption) (by rfl) (by first | exact Nat.zero_lt_one | assumption | omega) (by rfl) ?_ | refine rg_lit TYok TYz rfl rfl rfl rfl rfl rfl rfl rfl ?_ | refine rg_ixa TYok rfl rfl rfl rfl rfl rfl rfl sd ?_ | refine rg_ixr TYok rfl rfl rfl rfl rfl rfl rfl sd ?_) | refine aw_rseq ?_ | refine aw_seq ?_ | refine aw_region ?_ | refine aw_skip ?_ | refine aw_true rfl ?_ | refine aw_false rfl ?_ | refine aw_d0seq rfl (by kernel_rfl) ?_ | refine aw_d0 rfl (by kernel_rfl) ?_ | refine aw_block ?_ | refine aw_exit ?_ | refine then_ret ?_ | refine then_exit ?_ | refine then_normal ?_ | refine blk_ret ?_ | refine blk_normal ?_ | refine blk_exit ?_ | refine blk_pass rfl ?_))
    refine aw_for [1, 9, 10, 14, 15, 18] (fun i : Nat => [(1, accs raw), (9, .b true), (10, .ref 0 2 0 0), (14, ints m2), (15, wks l2), (18, .i i)])
      (fun i H' => i ≤ l2.length ∧ H'[0]? = some (some ⟨26, 2, 1, fun _ => tb S 24⟩)) (fun i => l2.length - i) 0 (by rw [rstf_eq]; rfl) ⟨by omega, hb4⟩ ?_
    rintro j H5 ⟨hj, hb5⟩
    by_cases hlt2 : j < l2.length
    · obtain ⟨g0, g1⟩ := f2 j hlt2
      have hki := hkf2 j (by omega)
      (repeat' (first | (refine sq_id ?_; first | refine sq_nil ?_ | refine sq_move rfl rfl rfl ?_ | refine sq_assign rfl rfl rfl ?_ | refine sq_skip rfl rfl ?_ | refine sq_t TYok TYz rfl rfl rfl True.intro so ?_ | refine sq_f TYok TYz rfl rfl rfl True.intro so ?_ | refine sq_pure TYok TYz false rfl rfl rfl sd ?_ | refine sq_pure TYok TYz true rfl rfl rfl sd ?_ | refine sq_load TYok rfl rfl rfl (by assumption) (by rfl) (by first | exact Nat.zero_lt_one | assumption | omega) (by rfl) ?_ | refine sq_lit TYok TYz rfl rfl rfl rfl rfl rfl rfl rfl ?_ | refine sq_ixa TYok rfl rfl rfl rfl rfl rfl rfl sd ?_ | refine sq_ixr TYok rfl rfl rfl rfl rfl rfl rfl sd ?_ | refine rg_ps rfl rfl rfl hki (LeL.refl _) ?_ | refine rg_ps rfl rfl rfl g1 (LeL.refl _) ?_) | (refine rg_id ?_; first | refine rg_fin ?_ | refine rg_move rfl rfl rfl ?_ | refine rg_assign rfl rfl rfl ?_ | refine rg_skip rfl rfl ?_ | refine rg_t TYok TYz rfl rfl rfl True.intro so ?_ | refine rg_f TYok TYz rfl rfl rfl True.intro so ?_ | refine rg_pure TYok TYz false rfl rfl rfl sd ?_ | refine rg_pure TYok TYz true rfl rfl rfl sd ?_ | refine rg_load TYok rfl rfl rfl (by assumption) (by rfl) (by first | exact Nat.zero_lt_one | assumption | omega) (by rfl) ?_ | refine rg_lit TYok TYz rfl rfl rfl rfl rfl rfl rfl rfl ?_ | refine rg_ixa TYok rfl rfl rfl rfl rfl rfl rfl sd ?_ | refine rg_ixr TYok rfl rfl rfl rfl rfl rfl rfl sd ?_ | refine rg_ps rfl rfl rfl hki (LeL.refl _) ?_ | refine rg_ps rfl rfl rfl g1 (LeL.refl _) ?_) | refine aw_rseq ?_ | refine aw_seq ?_ | refine aw_region ?_ | refine aw_skip ?_ | refine aw_true rfl ?_ | refine aw_false rfl ?_ | refine aw_d0seq rfl (by kernel_rfl) ?_ | refine aw_d0 rfl (by kernel_rfl) ?_ | refine aw_block ?_ | refine aw_exit ?_ | refine then_ret ?_ | refine then_exit ?_ | refine then_normal ?_ | refine blk_ret ?_ | refine blk_normal ?_ | refine blk_exit ?_ | refine blk_pass rfl ?_ | refine rg_ps rfl rfl rfl hki (LeL.refl _) ?_ | refine rg_ps rfl rfl rfl g1 (LeL.refl _) ?_))
      exact ⟨j + 1, by rw [rstf_eq]; rfl, ⟨by omega, nil_at hb5⟩, by omega⟩
    · (repeat' (first | (refine sq_id ?_; first | refine sq_nil ?_ | refine sq_move rfl rfl rfl ?_ | refine sq_assign rfl rfl rfl ?_ | refine sq_skip rfl rfl ?_ | refine sq_t TYok TYz rfl rfl rfl True.intro so ?_ | refine sq_f TYok TYz rfl rfl rfl True.intro so ?_ | refine sq_pure TYok TYz false rfl rfl rfl sd ?_ | refine sq_pure TYok TYz true rfl rfl rfl sd ?_ | refine sq_load TYok rfl rfl rfl (by assumption) (by rfl) (by first | exact Nat.zero_lt_one | assumption | omega) (by rfl) ?_ | refine sq_lit TYok TYz rfl rfl rfl rfl rfl rfl rfl rfl ?_ | refine sq_ixa TYok rfl rfl rfl rfl rfl rfl rfl sd ?_ | refine sq_ixr TYok rfl rfl rfl rfl rfl rfl rfl sd ?_ | refine sq_ps rfl rfl rfl hrt (LeL.refl _) ?_) | (refine rg_id ?_; first | refine rg_fin ?_ | refine rg_move rfl rfl rfl ?_ | refine rg_assign rfl rfl rfl ?_ | refine rg_skip rfl rfl ?_ | refine rg_t TYok TYz rfl rfl rfl True.intro so ?_ | refine rg_f TYok TYz rfl rfl rfl True.intro so ?_ | refine rg_pure TYok TYz false rfl rfl rfl sd ?_ | refine rg_pure TYok TYz true rfl rfl rfl sd ?_ | refine rg_load TYok rfl rfl rfl (by assumption) (by rfl) (by first | exact Nat.zero_lt_one | assumption | omega) (by rfl) ?_ | refine rg_lit TYok TYz rfl rfl rfl rfl rfl rfl rfl rfl ?_ | refine rg_ixa TYok rfl rfl rfl rfl rfl rfl rfl sd ?_ | refine rg_ixr TYok rfl rfl rfl rfl rfl rfl rfl sd ?_ | refine sq_ps rfl rfl rfl hrt (LeL.refl _) ?_) | refine aw_rseq ?_ | refine aw_seq ?_ | refine aw_region ?_ | refine aw_skip ?_ | refine aw_true rfl ?_ | refine aw_false rfl ?_ | refine aw_d0seq rfl (by kernel_rfl) ?_ | refine aw_d0 rfl (by kernel_rfl) ?_ | refine aw_block ?_ | refine aw_exit ?_ | refine then_ret ?_ | refine then_exit ?_ | refine then_normal ?_ | refine blk_ret ?_ | refine blk_normal ?_ | refine blk_exit ?_ | refine blk_pass rfl ?_ | refine sq_ps rfl rfl rfl hrt (LeL.refl _) ?_))
      ((try refine aw_ret ?_); (repeat (first | refine then_ret ?_ | refine blk_ret ?_)); refine fin_t True.intro rfl rfl ?_)
      rfl
end Go.Proofs.Ytphjglbbhanmpaa.Ab
