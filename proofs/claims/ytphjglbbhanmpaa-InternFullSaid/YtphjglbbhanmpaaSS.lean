/- InternFull. -/
import Derived.Test.YtphjglbbhanmpaaSP
namespace Go.Proofs.Ytphjglbbhanmpaa.Ab
open Go Go.RowKit
set_option maxRecDepth 10000
abbrev fK1 : Kid := (0, 0, 0, 1)
abbrev fK2 : Kid := (1, 0, 0, 0)
set_option maxHeartbeats 8000000 in
theorem full_s (raw : List Four) (picks : List Int) (hr : raw.length ≤ maxLen ∧ ∀ x ∈ raw, F64 x) (hp : picks.length ≤ maxLen ∧ ∀ x ∈ picks, I64 x) :
    SC true Try.prog 4 [accs raw, ints picks] [] (fun r _ => r = .b true) := by
  have hkl := kidsL_len raw
  have hka := kidsL_at raw
  have hl' : raw.length ≤ 9223372036854775807 := hr.1
  have hcr := crowd_s raw hr
  have hkf : ∀ i, i < (kidsL raw).length → PS Try.prog 11 [.agg (fours (raw.getD i (0, 0, 0, 0)))] (.agg (kv ((kidsL raw).getD i k0))) := fun i hi => by
    rw [hka i hi]
    exact kidof_s _ (hr.2 _ (mem_getD raw (0, 0, 0, 0) i (by omega)))
  have hab : ∀ k ∈ [fK1, fK2], KBk k := fun k hk j hj => by
    simp only [List.mem_cons, List.not_mem_nil, or_false] at hk
    rcases hk with rfl | rfl <;> (rcases (by omega : j = 0 ∨ j = 1 ∨ j = 2 ∨ j = 3) with rfl | rfl | rfl | rfl <;> decide)
  obtain ⟨m, l0, F, C, hrun, hI, hd, hC⟩ := crun_s 3 2 (by omega) (by omega) (by omega) (Tab_new 3 2) (by omega) [fK1, fK2] (by decide) (by decide) hab [] (by decide) (fun x hx => by simp at hx)
  have hT := hI.tab_end hd
  have hw := hT.words (by omega) (by omega)
  have hz := many_nz hT (by omega) (fun i hi => by obtain ⟨p, n, h, _⟩ := hI.out hd hi; exact ⟨p, n, h⟩) (fun i n hi e => hI.orgn (by omega) hi e)
  have hz2 : nzS 3 m = 2 := hz.trans (by decide)
  have hsum := hT.sum
  rw [sumR_zero] at hsum
  have hF : F = [] := List.eq_nil_of_length_eq_zero (by omega)
  subst hF
  have hse := fun k => hT.search (by omega) (by omega) k
  obtain ⟨l, hrun2, hln, ho⟩ := qrun_s 3 2 (by omega) (by omega) (by omega) hT (by omega) (kidsL raw) (by omega) (kidsL_b raw) (fun k _ => by
    rcases hse k with h | h
    · exact .inl h
    · exact .inr ⟨rfl, h⟩) picks hp.1 hp.2
  obtain ⟨p1, n1, a1, _⟩ := hI.out hd (i := 0) (by decide)
  obtain ⟨p2, n2, a2, _⟩ := hI.out hd (i := 1) (by decide)
  have a1 : At 3 2 m fK1 p1 n1 := a1
  have a2 : At 3 2 m fK2 p2 n2 := a2
  have hres : ∀ i, i < l.length → PS Try.prog 16 [.agg (tb 3 2), ints m, .agg (kv ((kidsL raw).getD i k0))] (.i (l.getD i wk0).out) ∧ (0 ≤ (l.getD i wk0).out ↔ ((kidsL raw).getD i k0 = fK1 ∨ (kidsL raw).getD i k0 = fK2)) := fun i hi => by
    obtain ⟨b1, b2⟩ := ho i (by omega)
    have g := Find_s 3 2 m hw ((kidsL raw).getD i k0)
    generalize (kidsL raw).getD i k0 = K at *
    rcases hse K with ⟨p, n, h⟩ | ⟨p, hp', h0, hm⟩
    · rw [find_at h] at g
      rw [b1 p n h]
      have := h.in hI (by omega)
      simp only [List.mem_cons, List.not_mem_nil, or_false] at this
      exact ⟨g, ⟨fun _ => this, fun _ => by omega⟩⟩
    · rw [find_no hp' h0 hm] at g
      rw [b2 fun p n h => h.not_zero h0 hm]
      refine ⟨g, ⟨fun h => by omega, fun h => ?_⟩⟩
      rcases h with rfl | rfl
      · exact (a1.not_zero h0 hm).elim
      · exact (a2.not_zero h0 hm).elim
  have hlen := hT.len
  have hint := ints_d m m (by omega) rfl
  have hnew := refnew_s 3 2 (by omega) (by omega)
  have hsa := start_s fK1
  have hsb := start_s fK2
  have hms : ((kidsL raw).map startK).length = (kidsL raw).length := List.length_map ..
  generalize (kidsL raw).map startK = L at *
  generalize newL 3 2 = mm at *
  clear hI hd hT hw hse ho a1 a2 hz
  generalize kidsL raw = ks at *
  refine sc_in TYok Try.func4 (by kernel_rfl) Try.ntmps4 rfl rfl rfl ?_
  (repeat' (first | (refine sq_id ?_; first | refine sq_nil ?_ | refine sq_move rfl rfl rfl ?_ | refine sq_assign rfl rfl rfl ?_ | refine sq_skip rfl rfl ?_ | refine sq_t TYok TYz rfl rfl rfl True.intro so ?_ | refine sq_f TYok TYz rfl rfl rfl True.intro so ?_ | refine sq_pure TYok TYz false rfl rfl rfl sd ?_ | refine sq_pure TYok TYz true rfl rfl rfl sd ?_ | refine sq_load TYok rfl rfl rfl (by assumption) (by rfl) (by first | exact Nat.zero_lt_one | assumption | omega) (by rfl) ?_ | refine sq_lit TYok TYz rfl rfl rfl rfl rfl rfl rfl rfl ?_ | refine sq_ixa TYok rfl rfl rfl rfl rfl rfl rfl sd ?_ | refine sq_ixr TYok rfl rfl rfl rfl rfl rfl rfl sd ?_ | refine sq_ps rfl rfl rfl awake_s .nil ?_) | (refine rg_id ?_; first | refine rg_fin ?_ | refine rg_move rfl rfl rfl ?_ | refine rg_assign rfl rfl rfl ?_ | refine rg_skip rfl rfl ?_ | refine rg_t TYok TYz rfl rfl rfl True.intro so ?_ | refine rg_f TYok TYz rfl rfl rfl True.intro so ?_ | refine rg_pure TYok TYz false rfl rfl rfl sd ?_ | refine rg_pure TYok TYz true rfl rfl rfl sd ?_ | refine rg_load TYok rfl rfl rfl (by assumption) (by rfl) (by first | exact Nat.zero_lt_one | assumption | omega) (by rfl) ?_ | refine rg_lit TYok TYz rfl rfl rfl rfl rfl rfl rfl rfl ?_ | refine rg_ixa TYok rfl rfl rfl rfl rfl rfl rfl sd ?_ | refine rg_ixr TYok rfl rfl rfl rfl rfl rfl rfl sd ?_ | refine sq_ps rfl rfl rfl awake_s .nil ?_) | refine aw_rseq ?_ | refine aw_seq ?_ | refine aw_region ?_ | refine aw_skip ?_ | refine aw_true rfl ?_ | refine aw_false rfl ?_ | refine aw_d0seq rfl (by kernel_rfl) ?_ | refine aw_d0 rfl (by kernel_rfl) ?_ | refine aw_block ?_ | refine aw_exit ?_ | refine then_ret ?_ | refine then_exit ?_ | refine then_normal ?_ | refine blk_ret ?_ | refine blk_normal ?_ | refine blk_exit ?_ | refine blk_pass rfl ?_ | refine sq_ps rfl rfl rfl awake_s .nil ?_))
  refine sq_newk TYok TYz false rfl rfl rfl True.intro fun H1 hb1 ho1 hl1 => ?_
  refine sq_storek TYok rfl rfl rfl hb1 rfl Nat.zero_lt_one rfl rfl rfl (Nat.le_of_ble_eq_true rfl) fun H2 hb2 ho2 hl2 => ?_
  refine sq_nil ?_
  repeat (first | refine blk_normal ?_ | refine then_normal ?_)
  refine aw_norm 0 ⟨26, 2, 1, fun _ => tb 3 2⟩ hb2 rfl rfl rfl (one_blk rfl rfl) fun H3 hb3 ho3 hl3 => ?_
  have hb3n := nil_at hb3
  (repeat' (first | (refine sq_id ?_; first | refine sq_nil ?_ | refine sq_move rfl rfl rfl ?_ | refine sq_assign rfl rfl rfl ?_ | refine sq_skip rfl rfl ?_ | refine sq_t TYok TYz rfl rfl rfl True.intro so ?_ | refine sq_f TYok TYz rfl rfl rfl True.intro so ?_ | refine sq_pure TYok TYz false rfl rfl rfl sd ?_ | refine sq_pure TYok TYz true rfl rfl rfl sd ?_ | refine sq_load TYok rfl rfl rfl (by assumption) (by rfl) (by first | exact Nat.zero_lt_one | assumption | omega) (by rfl) ?_ | refine sq_lit TYok TYz rfl rfl rfl rfl rfl rfl rfl rfl ?_ | refine sq_ixa TYok rfl rfl rfl rfl rfl rfl rfl sd ?_ | refine sq_ixr TYok rfl rfl rfl rfl rfl rfl rfl sd ?_ | refine rg_ps rfl rfl rfl hnew (LeL.refl _) ?_ | refine rg_ps rfl rfl rfl hsa (LeL.refl _) ?_ | refine rg_ps rfl rfl rfl hsb (LeL.refl _) ?_ | refine rg_ps rfl rfl rfl hrun (.cons (.refl _) (.cons (.refl _) (.cons (le_nil _ _ _) (.cons (le_lst (by intro h; first | exact h | cases h) (fun i hi => by rcases i with _ | _ | _ | _ | _ | _ | _ | _ | i <;> first | rfl | (exact absurd hi (by simp)) | omega)) .nil)))) ?_ | refine sq_ps rfl rfl rfl hcr (LeL.refl _) ?_ | refine sq_ps rfl rfl rfl hrun2 (LeL.refl _) ?_ | refine sq_ps rfl rfl rfl hint (LeL.refl _) ?_) | (refine rg_id ?_; first | refine rg_fin ?_ | refine rg_move rfl rfl rfl ?_ | refine rg_assign rfl rfl rfl ?_ | refine rg_skip rfl rfl ?_ | refine rg_t TYok TYz rfl rfl rfl True.intro so ?_ | refine rg_f TYok TYz rfl rfl rfl True.intro so ?_ | refine rg_pure TYok TYz false rfl rfl rfl sd ?_ | refine rg_pure TYok TYz true rfl rfl rfl sd ?_ | refine rg_load TYok rfl rfl rfl (by assumption) (by rfl) (by first | exact Nat.zero_lt_one | assumption | omega) (by rfl) ?_ | refine rg_lit TYok TYz rfl rfl rfl rfl rfl rfl rfl rfl ?_ | refine rg_ixa TYok rfl rfl rfl rfl rfl rfl rfl sd ?_ | refine rg_ixr TYok rfl rfl rfl rfl rfl rfl rfl sd ?_ | refine rg_ps rfl rfl rfl hnew (LeL.refl _) ?_ | refine rg_ps rfl rfl rfl hsa (LeL.refl _) ?_ | refine rg_ps rfl rfl rfl hsb (LeL.refl _) ?_ | refine rg_ps rfl rfl rfl hrun (.cons (.refl _) (.cons (.refl _) (.cons (le_nil _ _ _) (.cons (le_lst (by intro h; first | exact h | cases h) (fun i hi => by rcases i with _ | _ | _ | _ | _ | _ | _ | _ | i <;> first | rfl | (exact absurd hi (by simp)) | omega)) .nil)))) ?_ | refine sq_ps rfl rfl rfl hcr (LeL.refl _) ?_ | refine sq_ps rfl rfl rfl hrun2 (LeL.refl _) ?_ | refine sq_ps rfl rfl rfl hint (LeL.refl _) ?_) | refine aw_rseq ?_ | refine aw_seq ?_ | refine aw_region ?_ | refine aw_skip ?_ | refine aw_true rfl ?_ | refine aw_false rfl ?_ | refine aw_d0seq rfl (by kernel_rfl) ?_ | refine aw_d0 rfl (by kernel_rfl) ?_ | refine aw_block ?_ | refine aw_exit ?_ | refine then_ret ?_ | refine then_exit ?_ | refine then_normal ?_ | refine blk_ret ?_ | refine blk_normal ?_ | refine blk_exit ?_ | refine blk_pass rfl ?_ | refine rg_ps rfl rfl rfl hnew (LeL.refl _) ?_ | refine rg_ps rfl rfl rfl hsa (LeL.refl _) ?_ | refine rg_ps rfl rfl rfl hsb (LeL.refl _) ?_ | refine rg_ps rfl rfl rfl hrun (.cons (.refl _) (.cons (.refl _) (.cons (le_nil _ _ _) (.cons (le_lst (by intro h; first | exact h | cases h) (fun i hi => by rcases i with _ | _ | _ | _ | _ | _ | _ | _ | i <;> first | rfl | (exact absurd hi (by simp)) | omega)) .nil)))) ?_ | refine sq_ps rfl rfl rfl hcr (LeL.refl _) ?_ | refine sq_ps rfl rfl rfl hrun2 (LeL.refl _) ?_ | refine sq_ps rfl rfl rfl hint (LeL.refl _) ?_))
  refine aw_for [0, 5, 6, 11, 12, 14] (fun i : Nat => [(0, accs raw), (5, .b true), (6, .ref 0 2 0 0), (11, ints m), (12, wks l), (14, .i i)])
    (fun i H' => i ≤ l.length ∧ 1 ≤ H'.length ∧ H'[0]? = some (some ⟨26, 2, 1, fun _ => tb 3 2⟩)) (fun i => l.length - i) 0 (by rw [rstf_eq]; rfl) ⟨by omega, (List.getElem?_eq_some_iff.1 hb3n).1, hb3n⟩ ?_
  rintro i H4 ⟨hi, hl4, hb4⟩
  by_cases hlt : i < l.length
  · obtain ⟨g1, g2⟩ := hres i hlt
    have hki := hkf i (by omega)
    have hi1 : i < raw.length := by omega
    have hc1 := k4_ceqK (ks.getD i k0) fK1
    have hc2 := k4_ceqK (ks.getD i k0) fK2
    generalize ks.getD i k0 = K at *
    (repeat' (first | (refine sq_id ?_; first | refine sq_nil ?_ | refine sq_move rfl rfl rfl ?_ | refine sq_assign rfl rfl rfl ?_ | refine sq_skip rfl rfl ?_ | refine sq_t TYok TYz rfl rfl rfl True.intro so ?_ | refine sq_f TYok TYz rfl rfl rfl True.intro so ?_ | refine sq_pure TYok TYz false rfl rfl rfl sd ?_ | refine sq_pure TYok TYz true rfl rfl rfl sd ?_ | refine sq_load TYok rfl rfl rfl (by assumption) (by rfl) (by first | exact Nat.zero_lt_one | assumption | omega) (by rfl) ?_ | refine sq_lit TYok TYz rfl rfl rfl rfl rfl rfl rfl rfl ?_ | refine sq_ixa TYok rfl rfl rfl rfl rfl rfl rfl sd ?_ | refine sq_ixr TYok rfl rfl rfl rfl rfl rfl rfl sd ?_ | refine sq_ps rfl rfl rfl hki (LeL.refl _) ?_) | (refine rg_id ?_; first | refine rg_fin ?_ | refine rg_move rfl rfl rfl ?_ | refine rg_assign rfl rfl rfl ?_ | refine rg_skip rfl rfl ?_ | refine rg_t TYok TYz rfl rfl rfl True.intro so ?_ | refine rg_f TYok TYz rfl rfl rfl True.intro so ?_ | refine rg_pure TYok TYz false rfl rfl rfl sd ?_ | refine rg_pure TYok TYz true rfl rfl rfl sd ?_ | refine rg_load TYok rfl rfl rfl (by assumption) (by rfl) (by first | exact Nat.zero_lt_one | assumption | omega) (by rfl) ?_ | refine rg_lit TYok TYz rfl rfl rfl rfl rfl rfl rfl rfl ?_ | refine rg_ixa TYok rfl rfl rfl rfl rfl rfl rfl sd ?_ | refine rg_ixr TYok rfl rfl rfl rfl rfl rfl rfl sd ?_ | refine sq_ps rfl rfl rfl hki (LeL.refl _) ?_) | refine aw_rseq ?_ | refine aw_seq ?_ | refine aw_region ?_ | refine aw_skip ?_ | refine aw_true rfl ?_ | refine aw_false rfl ?_ | refine aw_d0seq rfl (by kernel_rfl) ?_ | refine aw_d0 rfl (by kernel_rfl) ?_ | refine aw_block ?_ | refine aw_exit ?_ | refine then_ret ?_ | refine then_exit ?_ | refine then_normal ?_ | refine blk_ret ?_ | refine blk_normal ?_ | refine blk_exit ?_ | refine blk_pass rfl ?_ | refine sq_ps rfl rfl rfl hki (LeL.refl _) ?_))
    refine sq_newk TYok TYz false rfl rfl rfl True.intro fun H5 hb5 ho5 hl5 => ?_
    refine sq_storek TYok rfl rfl rfl hb5 rfl Nat.zero_lt_one rfl rfl rfl (Nat.le_of_ble_eq_true rfl) fun H6 hb6 ho6 hl6 => ?_
    refine sq_nil ?_
    repeat (first | refine blk_normal ?_ | refine then_normal ?_)
    refine aw_norm H4.length ⟨33, 4, 1, fun _ => kv K⟩ hb6 rfl rfl rfl (one_blk rfl rfl) fun H7 hb7 ho7 hl7 => ?_
    have hb47 := ho7.get (ho6.get (ho5.get0 hb4) (by simp; omega)) (by simp; omega)
    by_cases e1 : K = fK1
    · rw [decide_eq_true e1] at hc1
      have hpos := g2.2 (.inl e1)
      (repeat' (first | (refine sq_id ?_; first | refine sq_nil ?_ | refine sq_move rfl rfl rfl ?_ | refine sq_assign rfl rfl rfl ?_ | refine sq_skip rfl rfl ?_ | refine sq_t TYok TYz rfl rfl rfl True.intro so ?_ | refine sq_f TYok TYz rfl rfl rfl True.intro so ?_ | refine sq_pure TYok TYz false rfl rfl rfl sd ?_ | refine sq_pure TYok TYz true rfl rfl rfl sd ?_ | refine sq_load TYok rfl rfl rfl (by assumption) (by rfl) (by first | exact Nat.zero_lt_one | assumption | omega) (by rfl) ?_ | refine sq_lit TYok TYz rfl rfl rfl rfl rfl rfl rfl rfl ?_ | refine sq_ixa TYok rfl rfl rfl rfl rfl rfl rfl sd ?_ | refine sq_ixr TYok rfl rfl rfl rfl rfl rfl rfl sd ?_ | refine rg_eqv true rfl rfl rfl rfl rfl (us := kV K) (vs := kV fK1) rfl rfl k4_agg hc1 k4_guard ?_ | refine rg_ps rfl rfl rfl g1 (LeL.refl _) ?_) | (refine rg_id ?_; first | refine rg_fin ?_ | refine rg_move rfl rfl rfl ?_ | refine rg_assign rfl rfl rfl ?_ | refine rg_skip rfl rfl ?_ | refine rg_t TYok TYz rfl rfl rfl True.intro so ?_ | refine rg_f TYok TYz rfl rfl rfl True.intro so ?_ | refine rg_pure TYok TYz false rfl rfl rfl sd ?_ | refine rg_pure TYok TYz true rfl rfl rfl sd ?_ | refine rg_load TYok rfl rfl rfl (by assumption) (by rfl) (by first | exact Nat.zero_lt_one | assumption | omega) (by rfl) ?_ | refine rg_lit TYok TYz rfl rfl rfl rfl rfl rfl rfl rfl ?_ | refine rg_ixa TYok rfl rfl rfl rfl rfl rfl rfl sd ?_ | refine rg_ixr TYok rfl rfl rfl rfl rfl rfl rfl sd ?_ | refine rg_eqv true rfl rfl rfl rfl rfl (us := kV K) (vs := kV fK1) rfl rfl k4_agg hc1 k4_guard ?_ | refine rg_ps rfl rfl rfl g1 (LeL.refl _) ?_) | refine aw_rseq ?_ | refine aw_seq ?_ | refine aw_region ?_ | refine aw_skip ?_ | refine aw_true rfl ?_ | refine aw_false rfl ?_ | refine aw_d0seq rfl (by kernel_rfl) ?_ | refine aw_d0 rfl (by kernel_rfl) ?_ | refine aw_block ?_ | refine aw_exit ?_ | refine then_ret ?_ | refine then_exit ?_ | refine then_normal ?_ | refine blk_ret ?_ | refine blk_normal ?_ | refine blk_exit ?_ | refine blk_pass rfl ?_ | refine rg_eqv true rfl rfl rfl rfl rfl (us := kV K) (vs := kV fK1) rfl rfl k4_agg hc1 k4_guard ?_ | refine rg_ps rfl rfl rfl g1 (LeL.refl _) ?_))
      exact ⟨i + 1, by rw [rstf_eq]; rfl, ⟨by omega, by simp; omega, nil_at hb47⟩, by omega⟩
    · rw [decide_eq_false e1] at hc1
      by_cases e2 : K = fK2
      · rw [decide_eq_true e2] at hc2
        have hpos := g2.2 (.inr e2)
        (repeat' (first | (refine sq_id ?_; first | refine sq_nil ?_ | refine sq_move rfl rfl rfl ?_ | refine sq_assign rfl rfl rfl ?_ | refine sq_skip rfl rfl ?_ | refine sq_t TYok TYz rfl rfl rfl True.intro so ?_ | refine sq_f TYok TYz rfl rfl rfl True.intro so ?_ | refine sq_pure TYok TYz false rfl rfl rfl sd ?_ | refine sq_pure TYok TYz true rfl rfl rfl sd ?_ | refine sq_load TYok rfl rfl rfl (by assumption) (by rfl) (by first | exact Nat.zero_lt_one | assumption | omega) (by rfl) ?_ | refine sq_lit TYok TYz rfl rfl rfl rfl rfl rfl rfl rfl ?_ | refine sq_ixa TYok rfl rfl rfl rfl rfl rfl rfl sd ?_ | refine sq_ixr TYok rfl rfl rfl rfl rfl rfl rfl sd ?_ | refine rg_eqv true rfl rfl rfl rfl rfl (us := kV K) (vs := kV fK1) rfl rfl k4_agg hc1 k4_guard ?_ | refine rg_eqv true rfl rfl rfl rfl rfl (us := kV K) (vs := kV fK2) rfl rfl k4_agg hc2 k4_guard ?_ | refine rg_ps rfl rfl rfl g1 (LeL.refl _) ?_) | (refine rg_id ?_; first | refine rg_fin ?_ | refine rg_move rfl rfl rfl ?_ | refine rg_assign rfl rfl rfl ?_ | refine rg_skip rfl rfl ?_ | refine rg_t TYok TYz rfl rfl rfl True.intro so ?_ | refine rg_f TYok TYz rfl rfl rfl True.intro so ?_ | refine rg_pure TYok TYz false rfl rfl rfl sd ?_ | refine rg_pure TYok TYz true rfl rfl rfl sd ?_ | refine rg_load TYok rfl rfl rfl (by assumption) (by rfl) (by first | exact Nat.zero_lt_one | assumption | omega) (by rfl) ?_ | refine rg_lit TYok TYz rfl rfl rfl rfl rfl rfl rfl rfl ?_ | refine rg_ixa TYok rfl rfl rfl rfl rfl rfl rfl sd ?_ | refine rg_ixr TYok rfl rfl rfl rfl rfl rfl rfl sd ?_ | refine rg_eqv true rfl rfl rfl rfl rfl (us := kV K) (vs := kV fK1) rfl rfl k4_agg hc1 k4_guard ?_ | refine rg_eqv true rfl rfl rfl rfl rfl (us := kV K) (vs := kV fK2) rfl rfl k4_agg hc2 k4_guard ?_ | refine rg_ps rfl rfl rfl g1 (LeL.refl _) ?_) | refine aw_rseq ?_ | refine aw_seq ?_ | refine aw_region ?_ | refine aw_skip ?_ | refine aw_true rfl ?_ | refine aw_false rfl ?_ | refine aw_d0seq rfl (by kernel_rfl) ?_ | refine aw_d0 rfl (by kernel_rfl) ?_ | refine aw_block ?_ | refine aw_exit ?_ | refine then_ret ?_ | refine then_exit ?_ | refine then_normal ?_ | refine blk_ret ?_ | refine blk_normal ?_ | refine blk_exit ?_ | refine blk_pass rfl ?_ | refine rg_eqv true rfl rfl rfl rfl rfl (us := kV K) (vs := kV fK1) rfl rfl k4_agg hc1 k4_guard ?_ | refine rg_eqv true rfl rfl rfl rfl rfl (us := kV K) (vs := kV fK2) rfl rfl k4_agg hc2 k4_guard ?_ | refine rg_ps rfl rfl rfl g1 (LeL.refl _) ?_))
        exact ⟨i + 1, by rw [rstf_eq]; rfl, ⟨by omega, by simp; omega, nil_at hb47⟩, by omega⟩
      · rw [decide_eq_false e2] at hc2
        have hneg : ¬ 0 ≤ (l.getD i wk0).out := fun h => (g2.1 h).elim e1 e2
        (repeat' (first | (refine sq_id ?_; first | refine sq_nil ?_ | refine sq_move rfl rfl rfl ?_ | refine sq_assign rfl rfl rfl ?_ | refine sq_skip rfl rfl ?_ | refine sq_t TYok TYz rfl rfl rfl True.intro so ?_ | refine sq_f TYok TYz rfl rfl rfl True.intro so ?_ | refine sq_pure TYok TYz false rfl rfl rfl sd ?_ | refine sq_pure TYok TYz true rfl rfl rfl sd ?_ | refine sq_load TYok rfl rfl rfl (by assumption) (by rfl) (by first | exact Nat.zero_lt_one | assumption | omega) (by rfl) ?_ | refine sq_lit TYok TYz rfl rfl rfl rfl rfl rfl rfl rfl ?_ | refine sq_ixa TYok rfl rfl rfl rfl rfl rfl rfl sd ?_ | refine sq_ixr TYok rfl rfl rfl rfl rfl rfl rfl sd ?_ | refine rg_eqv true rfl rfl rfl rfl rfl (us := kV K) (vs := kV fK1) rfl rfl k4_agg hc1 k4_guard ?_ | refine rg_eqv true rfl rfl rfl rfl rfl (us := kV K) (vs := kV fK2) rfl rfl k4_agg hc2 k4_guard ?_ | refine rg_ps rfl rfl rfl g1 (LeL.refl _) ?_) | (refine rg_id ?_; first | refine rg_fin ?_ | refine rg_move rfl rfl rfl ?_ | refine rg_assign rfl rfl rfl ?_ | refine rg_skip rfl rfl ?_ | refine rg_t TYok TYz rfl rfl rfl True.intro so ?_ | refine rg_f TYok TYz rfl rfl rfl True.intro so ?_ | refine rg_pure TYok TYz false rfl rfl rfl sd ?_ | refine rg_pure TYok TYz true rfl rfl rfl sd ?_ | refine rg_load TYok rfl rfl rfl (by assumption) (by rfl) (by first | exact Nat.zero_lt_one | assumption | omega) (by rfl) ?_ | refine rg_lit TYok TYz rfl rfl rfl rfl rfl rfl rfl rfl ?_ | refine rg_ixa TYok rfl rfl rfl rfl rfl rfl rfl sd ?_ | refine rg_ixr TYok rfl rfl rfl rfl rfl rfl rfl sd ?_ | refine rg_eqv true rfl rfl rfl rfl rfl (us := kV K) (vs := kV fK1) rfl rfl k4_agg hc1 k4_guard ?_ | refine rg_eqv true rfl rfl rfl rfl rfl (us := kV K) (vs := kV fK2) rfl rfl k4_agg hc2 k4_guard ?_ | refine rg_ps rfl rfl rfl g1 (LeL.refl _) ?_) | refine aw_rseq ?_ | refine aw_seq ?_ | refine aw_region ?_ | refine aw_skip ?_ | refine aw_true rfl ?_ | refine aw_false rfl ?_ | refine aw_d0seq rfl (by kernel_rfl) ?_ | refine aw_d0 rfl (by kernel_rfl) ?_ | refine aw_block ?_ | refine aw_exit ?_ | refine then_ret ?_ | refine then_exit ?_ | refine then_normal ?_ | refine blk_ret ?_ | refine blk_normal ?_ | refine blk_exit ?_ | refine blk_pass rfl ?_ | refine rg_eqv true rfl rfl rfl rfl rfl (us := kV K) (vs := kV fK1) rfl rfl k4_agg hc1 k4_guard ?_ | refine rg_eqv true rfl rfl rfl rfl rfl (us := kV K) (vs := kV fK2) rfl rfl k4_agg hc2 k4_guard ?_ | refine rg_ps rfl rfl rfl g1 (LeL.refl _) ?_))
        exact ⟨i + 1, by rw [rstf_eq]; rfl, ⟨by omega, by simp; omega, nil_at hb47⟩, by omega⟩
  · (repeat' (first | (refine sq_id ?_; first | refine sq_nil ?_ | refine sq_move rfl rfl rfl ?_ | refine sq_assign rfl rfl rfl ?_ | refine sq_skip rfl rfl ?_ | refine sq_t TYok TYz rfl rfl rfl True.intro so ?_ | refine sq_f TYok TYz rfl rfl rfl True.intro so ?_ | refine sq_pure TYok TYz false rfl rfl rfl sd ?_ | refine sq_pure TYok TYz true rfl rfl rfl sd ?_ | refine sq_load TYok rfl rfl rfl (by assumption) (by rfl) (by first | exact Nat.zero_lt_one | assumption | omega) (by rfl) ?_ | refine sq_lit TYok TYz rfl rfl rfl rfl rfl rfl rfl rfl ?_ | refine sq_ixa TYok rfl rfl rfl rfl rfl rfl rfl sd ?_ | refine sq_ixr TYok rfl rfl rfl rfl rfl rfl rfl sd ?_) | (refine rg_id ?_; first | refine rg_fin ?_ | refine rg_move rfl rfl rfl ?_ | refine rg_assign rfl rfl rfl ?_ | refine rg_skip rfl rfl ?_ | refine rg_t TYok TYz rfl rfl rfl True.intro so ?_ | refine rg_f TYok TYz rfl rfl rfl True.intro so ?_ | refine rg_pure TYok TYz false rfl rfl rfl sd ?_ | refine rg_pure TYok TYz true rfl rfl rfl sd ?_ | refine rg_load TYok rfl rfl rfl (by assumption) (by rfl) (by first | exact Nat.zero_lt_one | assumption | omega) (by rfl) ?_ | refine rg_lit TYok TYz rfl rfl rfl rfl rfl rfl rfl rfl ?_ | refine rg_ixa TYok rfl rfl rfl rfl rfl rfl rfl sd ?_ | refine rg_ixr TYok rfl rfl rfl rfl rfl rfl rfl sd ?_) | refine aw_rseq ?_ | refine aw_seq ?_ | refine aw_region ?_ | refine aw_skip ?_ | refine aw_true rfl ?_ | refine aw_false rfl ?_ | refine aw_d0seq rfl (by kernel_rfl) ?_ | refine aw_d0 rfl (by kernel_rfl) ?_ | refine aw_block ?_ | refine aw_exit ?_ | refine then_ret ?_ | refine then_exit ?_ | refine then_normal ?_ | refine blk_ret ?_ | refine blk_normal ?_ | refine blk_exit ?_ | refine blk_pass rfl ?_))
    ((try refine aw_ret ?_); (repeat (first | refine then_ret ?_ | refine blk_ret ?_)); refine fin_t True.intro rfl rfl ?_)
    rfl
end Go.Proofs.Ytphjglbbhanmpaa.Ab
