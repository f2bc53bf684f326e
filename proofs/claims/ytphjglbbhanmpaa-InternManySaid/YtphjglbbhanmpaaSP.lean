/- Package intern's laws: awake. -/
import Derived.Test.YtphjglbbhanmpaaSO
namespace Go.Proofs.Ytphjglbbhanmpaa.Ab
open Go Go.RowKit
set_option maxRecDepth 10000
theorem noat_new (S N : Nat) (k : Kid) (p n : Nat) (hS1 : 1 ≤ S) : ¬ At S N (newL S N) k p n := fun h => by
  obtain ⟨hlt, _⟩ := hS_lt S hS1 k p
  have := h.at_
  rw [newL_at, if_pos (by omega)] at this
  omega
theorem CI.orgn {S N F0 : Nat} {ks : List Kid} {m : List Int} {now : List Wk} {F : List Nat} {C : Nat} (h : CI S N (newL S N) F0 ks m now F C) (hS1 : 1 ≤ S) {i n : Nat} (hi : i < S) (e : m.getD i 0 = (n : Int) + 1) : kidsAt S m n ∈ ks := by
  rcases h.org i n hi e with ⟨p, h⟩ | h
  · exact absurd h (noat_new S N _ p n hS1)
  · exact h
theorem At.in {S N F0 : Nat} {ks : List Kid} {m : List Int} {now : List Wk} {F : List Nat} {C : Nat} (h : CI S N (newL S N) F0 ks m now F C) (hS1 : 1 ≤ S) {k : Kid} {p n : Nat} (ha : At S N m k p n) : k ∈ ks := by
  obtain ⟨hlt, _⟩ := hS_lt S hS1 k p
  have := h.orgn hS1 hlt ha.at_
  rwa [ha.kids] at this
theorem three {α : Type} {l : List α} (h : l.length = 3) : ∃ a b c, l = [a, b, c] := by
  match l, h with
  | [a, b, c], _ => exact ⟨a, b, c, rfl⟩
theorem ints_d (xs ys : List Int) (hx : xs.length ≤ 9223372036854775807) (h : xs = ys) : PS Try.prog 15 [ints xs, ints ys] (.b true) := by
  have := ints_s xs ys hx
  rwa [decide_eq_true h] at this
set_option maxHeartbeats 4000000 in
theorem awake_s : PS Try.prog 7 [] (.b true) := by
  have hab : ∀ k ∈ [((0, 1, 0, 0) : Kid), (0, 1, 0, 0), (1, 1, 0, 0)], KBk k := fun k hk j hj => by
    simp only [List.mem_cons, List.not_mem_nil, or_false] at hk
    rcases hk with rfl | rfl | rfl <;> (rcases (by omega : j = 0 ∨ j = 1 ∨ j = 2 ∨ j = 3) with rfl | rfl | rfl | rfl <;> decide)
  obtain ⟨m, l, F, C, hrun, hI, hd, hC⟩ := crun_s 4 4 (by omega) (by omega) (by omega) (Tab_new 4 4) (by omega) [((0, 1, 0, 0) : Kid), (0, 1, 0, 0), (1, 1, 0, 0)] (by decide) (by decide) hab [0, 1, 2, 2, 1, 0, 1, 0, 1, 0] (by decide) (by unfold I64; decide)
  have hT := hI.tab_end hd
  have hw := hT.words (by omega) (by omega)
  obtain ⟨p0, n0, a0, o0⟩ := hI.out hd (i := 0) (by decide)
  obtain ⟨p1, n1, a1, o1⟩ := hI.out hd (i := 1) (by decide)
  obtain ⟨p2, n2, a2, o2⟩ := hI.out hd (i := 2) (by decide)
  have a0 : At 4 4 m (0, 1, 0, 0) p0 n0 := a0
  have a1 : At 4 4 m (0, 1, 0, 0) p1 n1 := a1
  have a2 : At 4 4 m (1, 1, 0, 0) p2 n2 := a2
  have h01 := (a0.same a1).2
  have h02 : n2 ≠ n0 := fun e => by
    subst e
    have := a0.kids.symm.trans a2.kids
    simp at this
  have hf0 := find_at a0
  have hno : findF 4 m (1, 0, 0, 0) = -1 := by
    have hz : nzS 4 m < 4 := by
      have h1 := hT.sum
      have h2 := hI.left
      rw [sumR_zero] at h1
      simp at h2
      omega
    rcases hT.search (by omega) hz (1, 0, 0, 0) with ⟨p, n, h⟩ | ⟨p, hp, h0, hm⟩
    · have := h.in hI (by omega)
      simp at this
    · exact find_no hp h0 hm
  have f0 := Find_s 4 4 m hw (0, 1, 0, 0)
  have f1 := Find_s 4 4 m hw (1, 0, 0, 0)
  rw [hf0] at f0
  rw [hno] at f1
  have hrt := right15_s 4 4 m F C hT (by omega) (by omega)
  have hrn := rightnil_s 4 4 (by omega) (by omega)
  have hnew := refnew_s 4 4 (by omega) (by omega)
  have hsa := start_s (0, 1, 0, 0)
  have hsb := start_s (1, 1, 0, 0)
  have hl3 : l.length = 3 := hI.ln
  have hml := hT.len
  clear hI hd hT hw a0 a1 a2 hf0 hno
  obtain ⟨w0, w1, w2, rfl⟩ := three hl3
  have o0 : w0.out = n0 := o0
  have o1 : w1.out = n1 := o1
  have o2 : w2.out = n2 := o2
  generalize newL 4 4 = mm at *
  refine ps_in TYok Try.func7 (by kernel_rfl) Try.ntmps7 rfl rfl rfl (cl_b _) fun H => ?_
  (repeat' (first | (refine sq_id ?_; first | refine sq_nil ?_ | refine sq_move rfl rfl rfl ?_ | refine sq_assign rfl rfl rfl ?_ | refine sq_skip rfl rfl ?_ | refine sq_t TYok TYz rfl rfl rfl True.intro so ?_ | refine sq_f TYok TYz rfl rfl rfl True.intro so ?_ | refine sq_pure TYok TYz false rfl rfl rfl sd ?_ | refine sq_pure TYok TYz true rfl rfl rfl sd ?_ | refine sq_load TYok rfl rfl rfl (by assumption) (by rfl) (by first | exact Nat.zero_lt_one | assumption | omega) (by rfl) ?_ | refine sq_lit TYok TYz rfl rfl rfl rfl rfl rfl rfl rfl ?_ | refine sq_ixa TYok rfl rfl rfl rfl rfl rfl rfl sd ?_ | refine sq_ixr TYok rfl rfl rfl rfl rfl rfl rfl sd ?_) | (refine rg_id ?_; first | refine rg_fin ?_ | refine rg_move rfl rfl rfl ?_ | refine rg_assign rfl rfl rfl ?_ | refine rg_skip rfl rfl ?_ | refine rg_t TYok TYz rfl rfl rfl True.intro so ?_ | refine rg_f TYok TYz rfl rfl rfl True.intro so ?_ | refine rg_pure TYok TYz false rfl rfl rfl sd ?_ | refine rg_pure TYok TYz true rfl rfl rfl sd ?_ | refine rg_load TYok rfl rfl rfl (by assumption) (by rfl) (by first | exact Nat.zero_lt_one | assumption | omega) (by rfl) ?_ | refine rg_lit TYok TYz rfl rfl rfl rfl rfl rfl rfl rfl ?_ | refine rg_ixa TYok rfl rfl rfl rfl rfl rfl rfl sd ?_ | refine rg_ixr TYok rfl rfl rfl rfl rfl rfl rfl sd ?_) | refine aw_rseq ?_ | refine aw_seq ?_ | refine aw_region ?_ | refine aw_skip ?_ | refine aw_true rfl ?_ | refine aw_false rfl ?_ | refine aw_d0seq rfl (by kernel_rfl) ?_ | refine aw_d0 rfl (by kernel_rfl) ?_ | refine aw_block ?_ | refine aw_exit ?_ | refine then_ret ?_ | refine then_exit ?_ | refine then_normal ?_ | refine blk_ret ?_ | refine blk_normal ?_ | refine blk_exit ?_ | refine blk_pass rfl ?_))
  refine sq_newk TYok TYz false rfl rfl rfl True.intro fun H1 hb1 ho1 hl1 => ?_
  refine sq_storek TYok rfl rfl rfl hb1 rfl Nat.zero_lt_one rfl rfl rfl (Nat.le_of_ble_eq_true rfl) fun H2 hb2 ho2 hl2 => ?_
  refine sq_nil ?_
  repeat (first | refine blk_normal ?_ | refine then_normal ?_)
  refine aw_norm H.length ⟨26, 2, 1, fun _ => tb 4 4⟩ hb2 rfl rfl rfl (one_blk rfl rfl) fun Ha hba hoa hla => ?_
  (repeat' (first | (refine sq_id ?_; first | refine sq_nil ?_ | refine sq_move rfl rfl rfl ?_ | refine sq_assign rfl rfl rfl ?_ | refine sq_skip rfl rfl ?_ | refine sq_t TYok TYz rfl rfl rfl True.intro so ?_ | refine sq_f TYok TYz rfl rfl rfl True.intro so ?_ | refine sq_pure TYok TYz false rfl rfl rfl sd ?_ | refine sq_pure TYok TYz true rfl rfl rfl sd ?_ | refine sq_load TYok rfl rfl rfl (by assumption) (by rfl) (by first | exact Nat.zero_lt_one | assumption | omega) (by rfl) ?_ | refine sq_lit TYok TYz rfl rfl rfl rfl rfl rfl rfl rfl ?_ | refine sq_ixa TYok rfl rfl rfl rfl rfl rfl rfl sd ?_ | refine sq_ixr TYok rfl rfl rfl rfl rfl rfl rfl sd ?_ | refine sq_ps rfl rfl rfl hsa (LeL.refl _) ?_) | (refine rg_id ?_; first | refine rg_fin ?_ | refine rg_move rfl rfl rfl ?_ | refine rg_assign rfl rfl rfl ?_ | refine rg_skip rfl rfl ?_ | refine rg_t TYok TYz rfl rfl rfl True.intro so ?_ | refine rg_f TYok TYz rfl rfl rfl True.intro so ?_ | refine rg_pure TYok TYz false rfl rfl rfl sd ?_ | refine rg_pure TYok TYz true rfl rfl rfl sd ?_ | refine rg_load TYok rfl rfl rfl (by assumption) (by rfl) (by first | exact Nat.zero_lt_one | assumption | omega) (by rfl) ?_ | refine rg_lit TYok TYz rfl rfl rfl rfl rfl rfl rfl rfl ?_ | refine rg_ixa TYok rfl rfl rfl rfl rfl rfl rfl sd ?_ | refine rg_ixr TYok rfl rfl rfl rfl rfl rfl rfl sd ?_ | refine sq_ps rfl rfl rfl hsa (LeL.refl _) ?_) | refine aw_rseq ?_ | refine aw_seq ?_ | refine aw_region ?_ | refine aw_skip ?_ | refine aw_true rfl ?_ | refine aw_false rfl ?_ | refine aw_d0seq rfl (by kernel_rfl) ?_ | refine aw_d0 rfl (by kernel_rfl) ?_ | refine aw_block ?_ | refine aw_exit ?_ | refine then_ret ?_ | refine then_exit ?_ | refine then_normal ?_ | refine blk_ret ?_ | refine blk_normal ?_ | refine blk_exit ?_ | refine blk_pass rfl ?_ | refine sq_ps rfl rfl rfl hsa (LeL.refl _) ?_))
  refine sq_newk TYok TYz false rfl rfl rfl True.intro fun H3 hb3 ho3 hl3 => ?_
  refine sq_storek TYok rfl rfl rfl hb3 rfl Nat.zero_lt_one rfl rfl rfl (Nat.le_of_ble_eq_true rfl) fun H4 hb4 ho4 hl4 => ?_
  refine sq_nil ?_
  repeat (first | refine blk_normal ?_ | refine then_normal ?_)
  refine aw_norm Ha.length ⟨40, 12, 1, fun _ => wk (startK (0, 1, 0, 0))⟩ hb4 rfl rfl rfl (one_blk rfl rfl) fun Hb hbb hob hlb => ?_
  have hba2 := hob.get (ho4.get (ho3.get0 hba) (by simp; omega)) (by simp; omega)
  (repeat' (first | (refine sq_id ?_; first | refine sq_nil ?_ | refine sq_move rfl rfl rfl ?_ | refine sq_assign rfl rfl rfl ?_ | refine sq_skip rfl rfl ?_ | refine sq_t TYok TYz rfl rfl rfl True.intro so ?_ | refine sq_f TYok TYz rfl rfl rfl True.intro so ?_ | refine sq_pure TYok TYz false rfl rfl rfl sd ?_ | refine sq_pure TYok TYz true rfl rfl rfl sd ?_ | refine sq_load TYok rfl rfl rfl (by assumption) (by rfl) (by first | exact Nat.zero_lt_one | assumption | omega) (by rfl) ?_ | refine sq_lit TYok TYz rfl rfl rfl rfl rfl rfl rfl rfl ?_ | refine sq_ixa TYok rfl rfl rfl rfl rfl rfl rfl sd ?_ | refine sq_ixr TYok rfl rfl rfl rfl rfl rfl rfl sd ?_ | refine sq_ps rfl rfl rfl hsb (LeL.refl _) ?_) | (refine rg_id ?_; first | refine rg_fin ?_ | refine rg_move rfl rfl rfl ?_ | refine rg_assign rfl rfl rfl ?_ | refine rg_skip rfl rfl ?_ | refine rg_t TYok TYz rfl rfl rfl True.intro so ?_ | refine rg_f TYok TYz rfl rfl rfl True.intro so ?_ | refine rg_pure TYok TYz false rfl rfl rfl sd ?_ | refine rg_pure TYok TYz true rfl rfl rfl sd ?_ | refine rg_load TYok rfl rfl rfl (by assumption) (by rfl) (by first | exact Nat.zero_lt_one | assumption | omega) (by rfl) ?_ | refine rg_lit TYok TYz rfl rfl rfl rfl rfl rfl rfl rfl ?_ | refine rg_ixa TYok rfl rfl rfl rfl rfl rfl rfl sd ?_ | refine rg_ixr TYok rfl rfl rfl rfl rfl rfl rfl sd ?_ | refine sq_ps rfl rfl rfl hsb (LeL.refl _) ?_) | refine aw_rseq ?_ | refine aw_seq ?_ | refine aw_region ?_ | refine aw_skip ?_ | refine aw_true rfl ?_ | refine aw_false rfl ?_ | refine aw_d0seq rfl (by kernel_rfl) ?_ | refine aw_d0 rfl (by kernel_rfl) ?_ | refine aw_block ?_ | refine aw_exit ?_ | refine then_ret ?_ | refine then_exit ?_ | refine then_normal ?_ | refine blk_ret ?_ | refine blk_normal ?_ | refine blk_exit ?_ | refine blk_pass rfl ?_ | refine sq_ps rfl rfl rfl hsb (LeL.refl _) ?_))
  refine sq_newk TYok TYz false rfl rfl rfl True.intro fun H5 hb5 ho5 hl5 => ?_
  refine sq_storek TYok rfl rfl rfl hb5 rfl Nat.zero_lt_one rfl rfl rfl (Nat.le_of_ble_eq_true rfl) fun H6 hb6 ho6 hl6 => ?_
  refine sq_nil ?_
  repeat (first | refine blk_normal ?_ | refine then_normal ?_)
  refine aw_norm Hb.length ⟨40, 12, 1, fun _ => wk (startK (1, 1, 0, 0))⟩ hb6 rfl rfl rfl (one_blk rfl rfl) fun Hc hbc hoc hlc => ?_
  have hba3 := hoc.get (ho6.get (ho5.get0 hba2) (by simp; omega)) (by simp; omega)
  have hbb3 := hoc.get (ho6.get (ho5.get0 hbb) (by simp; omega)) (by simp; omega)
  have hba4 := nil_at hba3
  have hx : Ext H Hc := (((((((((Ext.refl H).oth ho1 (by rintro _ ⟨⟩)).oth ho2 (by rintro _ ⟨⟩; omega)).oth hoa (by rintro _ ⟨⟩; omega)).oth ho3 (by rintro _ ⟨⟩)).oth ho4 (by rintro _ ⟨⟩; omega)).oth hob (by rintro _ ⟨⟩; omega)).oth ho5 (by rintro _ ⟨⟩)).oth ho6 (by rintro _ ⟨⟩; omega)).oth hoc (by rintro _ ⟨⟩; omega)
  (repeat' (first | (refine sq_id ?_; first | refine sq_nil ?_ | refine sq_move rfl rfl rfl ?_ | refine sq_assign rfl rfl rfl ?_ | refine sq_skip rfl rfl ?_ | refine sq_t TYok TYz rfl rfl rfl True.intro so ?_ | refine sq_f TYok TYz rfl rfl rfl True.intro so ?_ | refine sq_pure TYok TYz false rfl rfl rfl sd ?_ | refine sq_pure TYok TYz true rfl rfl rfl sd ?_ | refine sq_load TYok rfl rfl rfl (by assumption) (by rfl) (by first | exact Nat.zero_lt_one | assumption | omega) (by rfl) ?_ | refine sq_lit TYok TYz rfl rfl rfl rfl rfl rfl rfl rfl ?_ | refine sq_ixa TYok rfl rfl rfl rfl rfl rfl rfl sd ?_ | refine sq_ixr TYok rfl rfl rfl rfl rfl rfl rfl sd ?_ | refine rg_ps rfl rfl rfl hnew (LeL.refl _) ?_ | refine rg_ps rfl rfl rfl hrun (.cons (.refl _) (.cons (.refl _) (.cons (le_lst (by intro h; first | exact h | cases h) (fun i hi => by rcases i with _ | _ | _ | _ | _ | _ | _ | _ | _ | _ | i <;> first | rfl | (exact absurd hi (by simp)) | omega)) (.cons (le_lst (by intro h; first | exact h | cases h) (fun i hi => by rcases i with _ | _ | _ | _ | _ | _ | _ | _ | i <;> first | rfl | (exact absurd hi (by simp)) | omega)) .nil)))) ?_ | refine rg_ps rfl rfl rfl f0 (LeL.refl _) ?_ | refine rg_ps rfl rfl rfl f1 (LeL.refl _) ?_ | refine rg_ps rfl rfl rfl hrt (LeL.refl _) ?_ | refine rg_ps rfl rfl rfl hrn (.cons (.refl _) (.cons (le_nil _ _ _) .nil)) ?_) | (refine rg_id ?_; first | refine rg_fin ?_ | refine rg_move rfl rfl rfl ?_ | refine rg_assign rfl rfl rfl ?_ | refine rg_skip rfl rfl ?_ | refine rg_t TYok TYz rfl rfl rfl True.intro so ?_ | refine rg_f TYok TYz rfl rfl rfl True.intro so ?_ | refine rg_pure TYok TYz false rfl rfl rfl sd ?_ | refine rg_pure TYok TYz true rfl rfl rfl sd ?_ | refine rg_load TYok rfl rfl rfl (by assumption) (by rfl) (by first | exact Nat.zero_lt_one | assumption | omega) (by rfl) ?_ | refine rg_lit TYok TYz rfl rfl rfl rfl rfl rfl rfl rfl ?_ | refine rg_ixa TYok rfl rfl rfl rfl rfl rfl rfl sd ?_ | refine rg_ixr TYok rfl rfl rfl rfl rfl rfl rfl sd ?_ | refine rg_ps rfl rfl rfl hnew (LeL.refl _) ?_ | refine rg_ps rfl rfl rfl hrun (.cons (.refl _) (.cons (.refl _) (.cons (le_lst (by intro h; first | exact h | cases h) (fun i hi => by rcases i with _ | _ | _ | _ | _ | _ | _ | _ | _ | _ | i <;> first | rfl | (exact absurd hi (by simp)) | omega)) (.cons (le_lst (by intro h; first | exact h | cases h) (fun i hi => by rcases i with _ | _ | _ | _ | _ | _ | _ | _ | i <;> first | rfl | (exact absurd hi (by simp)) | omega)) .nil)))) ?_ | refine rg_ps rfl rfl rfl f0 (LeL.refl _) ?_ | refine rg_ps rfl rfl rfl f1 (LeL.refl _) ?_ | refine rg_ps rfl rfl rfl hrt (LeL.refl _) ?_ | refine rg_ps rfl rfl rfl hrn (.cons (.refl _) (.cons (le_nil _ _ _) .nil)) ?_) | refine aw_rseq ?_ | refine aw_seq ?_ | refine aw_region ?_ | refine aw_skip ?_ | refine aw_true rfl ?_ | refine aw_false rfl ?_ | refine aw_d0seq rfl (by kernel_rfl) ?_ | refine aw_d0 rfl (by kernel_rfl) ?_ | refine aw_block ?_ | refine aw_exit ?_ | refine then_ret ?_ | refine then_exit ?_ | refine then_normal ?_ | refine blk_ret ?_ | refine blk_normal ?_ | refine blk_exit ?_ | refine blk_pass rfl ?_ | refine rg_ps rfl rfl rfl hnew (LeL.refl _) ?_ | refine rg_ps rfl rfl rfl hrun (.cons (.refl _) (.cons (.refl _) (.cons (le_lst (by intro h; first | exact h | cases h) (fun i hi => by rcases i with _ | _ | _ | _ | _ | _ | _ | _ | _ | _ | i <;> first | rfl | (exact absurd hi (by simp)) | omega)) (.cons (le_lst (by intro h; first | exact h | cases h) (fun i hi => by rcases i with _ | _ | _ | _ | _ | _ | _ | _ | i <;> first | rfl | (exact absurd hi (by simp)) | omega)) .nil)))) ?_ | refine rg_ps rfl rfl rfl f0 (LeL.refl _) ?_ | refine rg_ps rfl rfl rfl f1 (LeL.refl _) ?_ | refine rg_ps rfl rfl rfl hrt (LeL.refl _) ?_ | refine rg_ps rfl rfl rfl hrn (.cons (.refl _) (.cons (le_nil _ _ _) .nil)) ?_))
  ((try refine aw_ret ?_); (repeat (first | refine then_ret ?_ | refine blk_ret ?_)); refine fin_t True.intro rfl rfl ?_)
  exact ⟨(hx.trans (.app Hc [])).trans (.app _ []), rfl⟩
end Go.Proofs.Ytphjglbbhanmpaa.Ab
