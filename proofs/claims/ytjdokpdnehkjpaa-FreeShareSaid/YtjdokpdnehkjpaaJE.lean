/- free: Step, the whole. -/
import Derived.Test.YtjdokpdnehkjpaaJD
namespace Go.Proofs.Ytjdokpdnehkjpaa.Ab
open Go Go.RowKit
def mayF (w : Wk) (at_ : Int) : Prop := w.done = false ∧ (w.job = 1 ∨ w.job = 2) ∧ 0 ≤ w.pc ∧ w.pc ≤ 2 ∧ 0 ≤ at_
instance (w : Wk) (at_ : Int) : Decidable (mayF w at_) := by unfold mayF; infer_instance
/-- what a worker does next: kind, place, old, new -/
def accF (at_ : Int) (w : Wk) : Int × Int × Int × Int :=
  if w.pc = 0 then (1, IntKind.i64.wrap (at_ + 0), 0, 0)
  else if w.pc = 1 then (if w.job = 1 then (1, IntKind.i64.wrap (at_ + Hn w.r1), 0, 0) else (2, IntKind.i64.wrap (IntKind.i64.wrap (at_ + 1) + w.r0), 0, Hn w.r1))
  else (3, at_, w.r1, nwH w.r1 (if w.job = 1 then w.r2 else IntKind.i64.wrap (w.r0 + 1)))
/-- the worker behind it -/
def behF (w : Wk) (x : Int) (b : Bool) : Wk :=
  if w.pc = 0 then (if w.job = 1 ∧ Hn x = 0 then { w with r1 := x, pc := 0, done := true, out := -1 } else { w with r1 := x, pc := 1 })
  else if w.pc = 1 then (if w.job = 1 then { w with r2 := x, pc := 2 } else { w with pc := 2 })
  else if b = true then { w with done := true, out := if w.job = 1 then Hn w.r1 - 1 else w.r0 } else { w with pc := 0 }
def doA (ws : List Int) (a : Int × Int × Int × Int) : List Int × Int × Bool × Int := doW ws a.1 a.2.1 a.2.2.1 a.2.2.2
def stepF (at_ : Int) : Stp := fun ws w =>
  if mayF w at_ then
    if (doA ws (accF at_ w)).2.2.2 = 0 then ((doA ws (accF at_ w)).1, behF w (doA ws (accF at_ w)).2.1 (doA ws (accF at_ w)).2.2.1, 0) else (ws, w, (doA ws (accF at_ w)).2.2.2)
  else (ws, w, 1)
theorem zero_fn : ∃ info z, Try.prog.info? 53 = some info ∧ info.zero = some z := by
  have h : ((Try.prog.info? 53).bind (·.zero)).isSome = true := by kernel_rfl
  obtain ⟨z, h⟩ := Option.isSome_iff_exists.1 h
  obtain ⟨info, h1, h2⟩ := Option.bind_eq_some_iff.1 h
  exact ⟨info, z, h1, h2⟩
theorem pl_none {j c : Int} (h : ¬ ((j = 1 ∨ j = 2) ∧ 0 ≤ c ∧ c ≤ 2)) (i : Nat) : (plBs j c)[i]? ≠ some true := by
  intro hi
  simp only [plBs, List.map_cons, List.map_nil, Bool.and_true] at hi
  rcases i with _ | _ | _ | _ | _ | _ | i <;> simp at hi <;> omega
set_option maxHeartbeats 4000000 in
theorem step_no (ws : List Int) (at_ : Int) (w : Wk) (hl : ws.length ≤ 1000000) (h : ¬ mayF w at_) : PS Try.prog 21 [ints ws, .i at_, .agg (wk w)] (stepAV (ws, w, 1)) := by
  obtain ⟨info, z, hi, hz⟩ := zero_fn
  have hcl := clone_s ws (by omega)
  have hds := does_s
  obtain ⟨pc, job, r0, r1, r2, r3, r4, r5, r6, r7, done, out⟩ := w
  by_cases hk : (job = 1 ∨ job = 2) ∧ 0 ≤ pc ∧ pc ≤ 2
  · have hfound : ∃ (p : Nat) (f : FuncId), plVs[p]? = some (.fn (.func f) [] []) ∧ (∀ i : Nat, (plBs job pc)[i]? = some true → i = p) ∧ (plBs job pc)[p]? = some true := by
      obtain ⟨hj, h0, h2⟩ := hk
      have : pc = 0 ∨ pc = 1 ∨ pc = 2 := by omega
      rcases hj with rfl | rfl <;> rcases this with rfl | rfl | rfl
      · exact ⟨0, _, rfl, fun i hi => by rcases i with _ | _ | _ | _ | _ | _ | i <;> first | rfl | (cases hi), rfl⟩
      · exact ⟨1, _, rfl, fun i hi => by rcases i with _ | _ | _ | _ | _ | _ | i <;> first | rfl | (cases hi), rfl⟩
      · exact ⟨2, _, rfl, fun i hi => by rcases i with _ | _ | _ | _ | _ | _ | i <;> first | rfl | (cases hi), rfl⟩
      · exact ⟨3, _, rfl, fun i hi => by rcases i with _ | _ | _ | _ | _ | _ | i <;> first | rfl | (cases hi), rfl⟩
      · exact ⟨4, _, rfl, fun i hi => by rcases i with _ | _ | _ | _ | _ | _ | i <;> first | rfl | (cases hi), rfl⟩
      · exact ⟨5, _, rfl, fun i hi => by rcases i with _ | _ | _ | _ | _ | _ | i <;> first | rfl | (cases hi), rfl⟩
    obtain ⟨p, f, hp, hb, hbp⟩ := hfound
    refine ps_in TYok Try.func21 (by kernel_rfl) Try.ntmps21 rfl rfl rfl (cl_step _) fun H => ?_
    refine aw_seq ?_
    refine aw_region ?_
    refine sq_newk TYok TYz false rfl rfl rfl True.intro fun H1 hb1 ho1 hl1 => ?_
    (repeat' (first | (refine sq_id ?_; first | refine sq_nil ?_ | refine sq_move rfl rfl rfl ?_ | refine sq_assign rfl rfl rfl ?_ | refine sq_skip rfl rfl ?_ | refine sq_t TYok TYz rfl rfl rfl True.intro so ?_ | refine sq_f TYok TYz rfl rfl rfl True.intro so ?_ | refine sq_pure TYok TYz false rfl rfl rfl sd ?_ | refine sq_pure TYok TYz true rfl rfl rfl sd ?_ | refine sq_load TYok rfl rfl rfl (by assumption) (by rfl) (by first | exact Nat.zero_lt_one | assumption | omega) (by rfl) ?_ | refine sq_lit TYok TYz rfl rfl rfl rfl rfl rfl rfl rfl ?_ | refine sq_ixa TYok rfl rfl rfl rfl rfl rfl rfl sd ?_ | refine sq_ixr TYok rfl rfl rfl rfl rfl rfl rfl sd ?_) | (refine rg_id ?_; first | refine rg_fin ?_ | refine rg_move rfl rfl rfl ?_ | refine rg_assign rfl rfl rfl ?_ | refine rg_skip rfl rfl ?_ | refine rg_t TYok TYz rfl rfl rfl True.intro so ?_ | refine rg_f TYok TYz rfl rfl rfl True.intro so ?_ | refine rg_pure TYok TYz false rfl rfl rfl sd ?_ | refine rg_pure TYok TYz true rfl rfl rfl sd ?_ | refine rg_load TYok rfl rfl rfl (by assumption) (by rfl) (by first | exact Nat.zero_lt_one | assumption | omega) (by rfl) ?_ | refine rg_lit TYok TYz rfl rfl rfl rfl rfl rfl rfl rfl ?_ | refine rg_ixa TYok rfl rfl rfl rfl rfl rfl rfl sd ?_ | refine rg_ixr TYok rfl rfl rfl rfl rfl rfl rfl sd ?_) | refine aw_rseq ?_ | refine aw_seq ?_ | refine aw_region ?_ | refine aw_skip ?_ | refine aw_true rfl ?_ | refine aw_false rfl ?_ | refine aw_d0seq rfl (by kernel_rfl) ?_ | refine aw_d0 rfl (by kernel_rfl) ?_ | refine aw_block ?_ | refine aw_exit ?_ | refine then_ret ?_ | refine then_exit ?_ | refine then_normal ?_ | refine blk_ret ?_ | refine blk_normal ?_ | refine blk_exit ?_ | refine blk_pass rfl ?_))
    refine sq_newk TYok TYz false rfl rfl rfl True.intro fun H2 hb2 ho2 hl2 => ?_
    have hb12 := ho2.get0 hb1
    have hx2 := ho1.ext.trans ho2.ext
    have hb1e := nil_at hb12
    have hb2e := nil_at hb2
    cases done
    · have hat : at_ < 0 := by
        rcases Int.lt_or_le at_ 0 with h' | h'
        · exact h'
        · exact absurd ⟨rfl, hk.1, hk.2.1, hk.2.2, h'⟩ h
      (repeat' (first | (refine sq_id ?_; first | refine sq_nil ?_ | refine sq_move rfl rfl rfl ?_ | refine sq_assign rfl rfl rfl ?_ | refine sq_skip rfl rfl ?_ | refine sq_t TYok TYz rfl rfl rfl True.intro so ?_ | refine sq_f TYok TYz rfl rfl rfl True.intro so ?_ | refine sq_pure TYok TYz false rfl rfl rfl sd ?_ | refine sq_pure TYok TYz true rfl rfl rfl sd ?_ | refine sq_load TYok rfl rfl rfl (by assumption) (by rfl) (by first | exact Nat.zero_lt_one | assumption | omega) (by rfl) ?_ | refine sq_lit TYok TYz rfl rfl rfl rfl rfl rfl rfl rfl ?_ | refine sq_ixa TYok rfl rfl rfl rfl rfl rfl rfl sd ?_ | refine sq_ixr TYok rfl rfl rfl rfl rfl rfl rfl sd ?_ | refine rg_ps rfl rfl rfl hds (LeL.refl _) ?_ | refine rg_look (kt := 58) (et := 53) (by kernel_rfl) rfl rfl rfl (is_agg (k := [.int .i64 job, .int .i64 pc])) (asked_pl job pc) p hp hb hbp ?_ | refine rg_ps rfl rfl rfl hcl (LeL.refl _) ?_) | (refine rg_id ?_; first | refine rg_fin ?_ | refine rg_move rfl rfl rfl ?_ | refine rg_assign rfl rfl rfl ?_ | refine rg_skip rfl rfl ?_ | refine rg_t TYok TYz rfl rfl rfl True.intro so ?_ | refine rg_f TYok TYz rfl rfl rfl True.intro so ?_ | refine rg_pure TYok TYz false rfl rfl rfl sd ?_ | refine rg_pure TYok TYz true rfl rfl rfl sd ?_ | refine rg_load TYok rfl rfl rfl (by assumption) (by rfl) (by first | exact Nat.zero_lt_one | assumption | omega) (by rfl) ?_ | refine rg_lit TYok TYz rfl rfl rfl rfl rfl rfl rfl rfl ?_ | refine rg_ixa TYok rfl rfl rfl rfl rfl rfl rfl sd ?_ | refine rg_ixr TYok rfl rfl rfl rfl rfl rfl rfl sd ?_ | refine rg_ps rfl rfl rfl hds (LeL.refl _) ?_ | refine rg_look (kt := 58) (et := 53) (by kernel_rfl) rfl rfl rfl (is_agg (k := [.int .i64 job, .int .i64 pc])) (asked_pl job pc) p hp hb hbp ?_ | refine rg_ps rfl rfl rfl hcl (LeL.refl _) ?_) | refine aw_rseq ?_ | refine aw_seq ?_ | refine aw_region ?_ | refine aw_skip ?_ | refine aw_true rfl ?_ | refine aw_false rfl ?_ | refine aw_d0seq rfl (by kernel_rfl) ?_ | refine aw_d0 rfl (by kernel_rfl) ?_ | refine aw_block ?_ | refine aw_exit ?_ | refine then_ret ?_ | refine then_exit ?_ | refine then_normal ?_ | refine blk_ret ?_ | refine blk_normal ?_ | refine blk_exit ?_ | refine blk_pass rfl ?_ | refine rg_ps rfl rfl rfl hds (LeL.refl _) ?_ | refine rg_look (kt := 58) (et := 53) (by kernel_rfl) rfl rfl rfl (is_agg (k := [.int .i64 job, .int .i64 pc])) (asked_pl job pc) p hp hb hbp ?_ | refine rg_ps rfl rfl rfl hcl (LeL.refl _) ?_))
      refine sq_storek TYok rfl rfl rfl hb2e rfl Nat.zero_lt_one rfl rfl rfl (Nat.le_of_ble_eq_true rfl) fun H3 hb3 ho3 hl3 => ?_
      (repeat' (first | (refine sq_id ?_; first | refine sq_nil ?_ | refine sq_move rfl rfl rfl ?_ | refine sq_assign rfl rfl rfl ?_ | refine sq_skip rfl rfl ?_ | refine sq_t TYok TYz rfl rfl rfl True.intro so ?_ | refine sq_f TYok TYz rfl rfl rfl True.intro so ?_ | refine sq_pure TYok TYz false rfl rfl rfl sd ?_ | refine sq_pure TYok TYz true rfl rfl rfl sd ?_ | refine sq_load TYok rfl rfl rfl (by assumption) (by rfl) (by first | exact Nat.zero_lt_one | assumption | omega) (by rfl) ?_ | refine sq_lit TYok TYz rfl rfl rfl rfl rfl rfl rfl rfl ?_ | refine sq_ixa TYok rfl rfl rfl rfl rfl rfl rfl sd ?_ | refine sq_ixr TYok rfl rfl rfl rfl rfl rfl rfl sd ?_) | (refine rg_id ?_; first | refine rg_fin ?_ | refine rg_move rfl rfl rfl ?_ | refine rg_assign rfl rfl rfl ?_ | refine rg_skip rfl rfl ?_ | refine rg_t TYok TYz rfl rfl rfl True.intro so ?_ | refine rg_f TYok TYz rfl rfl rfl True.intro so ?_ | refine rg_pure TYok TYz false rfl rfl rfl sd ?_ | refine rg_pure TYok TYz true rfl rfl rfl sd ?_ | refine rg_load TYok rfl rfl rfl (by assumption) (by rfl) (by first | exact Nat.zero_lt_one | assumption | omega) (by rfl) ?_ | refine rg_lit TYok TYz rfl rfl rfl rfl rfl rfl rfl rfl ?_ | refine rg_ixa TYok rfl rfl rfl rfl rfl rfl rfl sd ?_ | refine rg_ixr TYok rfl rfl rfl rfl rfl rfl rfl sd ?_) | refine aw_rseq ?_ | refine aw_seq ?_ | refine aw_region ?_ | refine aw_skip ?_ | refine aw_true rfl ?_ | refine aw_false rfl ?_ | refine aw_d0seq rfl (by kernel_rfl) ?_ | refine aw_d0 rfl (by kernel_rfl) ?_ | refine aw_block ?_ | refine aw_exit ?_ | refine then_ret ?_ | refine then_exit ?_ | refine then_normal ?_ | refine blk_ret ?_ | refine blk_normal ?_ | refine blk_exit ?_ | refine blk_pass rfl ?_))
      ((try refine aw_ret ?_); (repeat (first | refine then_ret ?_ | refine blk_ret ?_)))
      refine ⟨True.intro, _, .tmp _ _ _ (.cell _ _ _ _ _ _ _ _ _ rfl hb3 rfl Nat.zero_lt_one rfl (.tmp _ _ _ .nil)), ?_⟩
      exact ⟨(hx2.trans (.app H2 [])).oth ho3 (by rintro _ ⟨⟩; omega), rfl⟩
    · (repeat' (first | (refine sq_id ?_; first | refine sq_nil ?_ | refine sq_move rfl rfl rfl ?_ | refine sq_assign rfl rfl rfl ?_ | refine sq_skip rfl rfl ?_ | refine sq_t TYok TYz rfl rfl rfl True.intro so ?_ | refine sq_f TYok TYz rfl rfl rfl True.intro so ?_ | refine sq_pure TYok TYz false rfl rfl rfl sd ?_ | refine sq_pure TYok TYz true rfl rfl rfl sd ?_ | refine sq_load TYok rfl rfl rfl (by assumption) (by rfl) (by first | exact Nat.zero_lt_one | assumption | omega) (by rfl) ?_ | refine sq_lit TYok TYz rfl rfl rfl rfl rfl rfl rfl rfl ?_ | refine sq_ixa TYok rfl rfl rfl rfl rfl rfl rfl sd ?_ | refine sq_ixr TYok rfl rfl rfl rfl rfl rfl rfl sd ?_ | refine rg_ps rfl rfl rfl hds (LeL.refl _) ?_ | refine rg_look (kt := 58) (et := 53) (by kernel_rfl) rfl rfl rfl (is_agg (k := [.int .i64 job, .int .i64 pc])) (asked_pl job pc) p hp hb hbp ?_ | refine rg_ps rfl rfl rfl hcl (LeL.refl _) ?_) | (refine rg_id ?_; first | refine rg_fin ?_ | refine rg_move rfl rfl rfl ?_ | refine rg_assign rfl rfl rfl ?_ | refine rg_skip rfl rfl ?_ | refine rg_t TYok TYz rfl rfl rfl True.intro so ?_ | refine rg_f TYok TYz rfl rfl rfl True.intro so ?_ | refine rg_pure TYok TYz false rfl rfl rfl sd ?_ | refine rg_pure TYok TYz true rfl rfl rfl sd ?_ | refine rg_load TYok rfl rfl rfl (by assumption) (by rfl) (by first | exact Nat.zero_lt_one | assumption | omega) (by rfl) ?_ | refine rg_lit TYok TYz rfl rfl rfl rfl rfl rfl rfl rfl ?_ | refine rg_ixa TYok rfl rfl rfl rfl rfl rfl rfl sd ?_ | refine rg_ixr TYok rfl rfl rfl rfl rfl rfl rfl sd ?_ | refine rg_ps rfl rfl rfl hds (LeL.refl _) ?_ | refine rg_look (kt := 58) (et := 53) (by kernel_rfl) rfl rfl rfl (is_agg (k := [.int .i64 job, .int .i64 pc])) (asked_pl job pc) p hp hb hbp ?_ | refine rg_ps rfl rfl rfl hcl (LeL.refl _) ?_) | refine aw_rseq ?_ | refine aw_seq ?_ | refine aw_region ?_ | refine aw_skip ?_ | refine aw_true rfl ?_ | refine aw_false rfl ?_ | refine aw_d0seq rfl (by kernel_rfl) ?_ | refine aw_d0 rfl (by kernel_rfl) ?_ | refine aw_block ?_ | refine aw_exit ?_ | refine then_ret ?_ | refine then_exit ?_ | refine then_normal ?_ | refine blk_ret ?_ | refine blk_normal ?_ | refine blk_exit ?_ | refine blk_pass rfl ?_ | refine rg_ps rfl rfl rfl hds (LeL.refl _) ?_ | refine rg_look (kt := 58) (et := 53) (by kernel_rfl) rfl rfl rfl (is_agg (k := [.int .i64 job, .int .i64 pc])) (asked_pl job pc) p hp hb hbp ?_ | refine rg_ps rfl rfl rfl hcl (LeL.refl _) ?_))
      refine sq_storek TYok rfl rfl rfl hb2e rfl Nat.zero_lt_one rfl rfl rfl (Nat.le_of_ble_eq_true rfl) fun H3 hb3 ho3 hl3 => ?_
      (repeat' (first | (refine sq_id ?_; first | refine sq_nil ?_ | refine sq_move rfl rfl rfl ?_ | refine sq_assign rfl rfl rfl ?_ | refine sq_skip rfl rfl ?_ | refine sq_t TYok TYz rfl rfl rfl True.intro so ?_ | refine sq_f TYok TYz rfl rfl rfl True.intro so ?_ | refine sq_pure TYok TYz false rfl rfl rfl sd ?_ | refine sq_pure TYok TYz true rfl rfl rfl sd ?_ | refine sq_load TYok rfl rfl rfl (by assumption) (by rfl) (by first | exact Nat.zero_lt_one | assumption | omega) (by rfl) ?_ | refine sq_lit TYok TYz rfl rfl rfl rfl rfl rfl rfl rfl ?_ | refine sq_ixa TYok rfl rfl rfl rfl rfl rfl rfl sd ?_ | refine sq_ixr TYok rfl rfl rfl rfl rfl rfl rfl sd ?_) | (refine rg_id ?_; first | refine rg_fin ?_ | refine rg_move rfl rfl rfl ?_ | refine rg_assign rfl rfl rfl ?_ | refine rg_skip rfl rfl ?_ | refine rg_t TYok TYz rfl rfl rfl True.intro so ?_ | refine rg_f TYok TYz rfl rfl rfl True.intro so ?_ | refine rg_pure TYok TYz false rfl rfl rfl sd ?_ | refine rg_pure TYok TYz true rfl rfl rfl sd ?_ | refine rg_load TYok rfl rfl rfl (by assumption) (by rfl) (by first | exact Nat.zero_lt_one | assumption | omega) (by rfl) ?_ | refine rg_lit TYok TYz rfl rfl rfl rfl rfl rfl rfl rfl ?_ | refine rg_ixa TYok rfl rfl rfl rfl rfl rfl rfl sd ?_ | refine rg_ixr TYok rfl rfl rfl rfl rfl rfl rfl sd ?_) | refine aw_rseq ?_ | refine aw_seq ?_ | refine aw_region ?_ | refine aw_skip ?_ | refine aw_true rfl ?_ | refine aw_false rfl ?_ | refine aw_d0seq rfl (by kernel_rfl) ?_ | refine aw_d0 rfl (by kernel_rfl) ?_ | refine aw_block ?_ | refine aw_exit ?_ | refine then_ret ?_ | refine then_exit ?_ | refine then_normal ?_ | refine blk_ret ?_ | refine blk_normal ?_ | refine blk_exit ?_ | refine blk_pass rfl ?_))
      ((try refine aw_ret ?_); (repeat (first | refine then_ret ?_ | refine blk_ret ?_)))
      refine ⟨True.intro, _, .tmp _ _ _ (.cell _ _ _ _ _ _ _ _ _ rfl hb3 rfl Nat.zero_lt_one rfl (.tmp _ _ _ .nil)), ?_⟩
      exact ⟨(hx2.trans (.app H2 [])).oth ho3 (by rintro _ ⟨⟩; omega), rfl⟩
  · have hb := fun i => pl_none hk i
    refine ps_in TYok Try.func21 (by kernel_rfl) Try.ntmps21 rfl rfl rfl (cl_step _) fun H => ?_
    refine aw_seq ?_
    refine aw_region ?_
    refine sq_newk TYok TYz false rfl rfl rfl True.intro fun H1 hb1 ho1 hl1 => ?_
    (repeat' (first | (refine sq_id ?_; first | refine sq_nil ?_ | refine sq_move rfl rfl rfl ?_ | refine sq_assign rfl rfl rfl ?_ | refine sq_skip rfl rfl ?_ | refine sq_t TYok TYz rfl rfl rfl True.intro so ?_ | refine sq_f TYok TYz rfl rfl rfl True.intro so ?_ | refine sq_pure TYok TYz false rfl rfl rfl sd ?_ | refine sq_pure TYok TYz true rfl rfl rfl sd ?_ | refine sq_load TYok rfl rfl rfl (by assumption) (by rfl) (by first | exact Nat.zero_lt_one | assumption | omega) (by rfl) ?_ | refine sq_lit TYok TYz rfl rfl rfl rfl rfl rfl rfl rfl ?_ | refine sq_ixa TYok rfl rfl rfl rfl rfl rfl rfl sd ?_ | refine sq_ixr TYok rfl rfl rfl rfl rfl rfl rfl sd ?_) | (refine rg_id ?_; first | refine rg_fin ?_ | refine rg_move rfl rfl rfl ?_ | refine rg_assign rfl rfl rfl ?_ | refine rg_skip rfl rfl ?_ | refine rg_t TYok TYz rfl rfl rfl True.intro so ?_ | refine rg_f TYok TYz rfl rfl rfl True.intro so ?_ | refine rg_pure TYok TYz false rfl rfl rfl sd ?_ | refine rg_pure TYok TYz true rfl rfl rfl sd ?_ | refine rg_load TYok rfl rfl rfl (by assumption) (by rfl) (by first | exact Nat.zero_lt_one | assumption | omega) (by rfl) ?_ | refine rg_lit TYok TYz rfl rfl rfl rfl rfl rfl rfl rfl ?_ | refine rg_ixa TYok rfl rfl rfl rfl rfl rfl rfl sd ?_ | refine rg_ixr TYok rfl rfl rfl rfl rfl rfl rfl sd ?_) | refine aw_rseq ?_ | refine aw_seq ?_ | refine aw_region ?_ | refine aw_skip ?_ | refine aw_true rfl ?_ | refine aw_false rfl ?_ | refine aw_d0seq rfl (by kernel_rfl) ?_ | refine aw_d0 rfl (by kernel_rfl) ?_ | refine aw_block ?_ | refine aw_exit ?_ | refine then_ret ?_ | refine then_exit ?_ | refine then_normal ?_ | refine blk_ret ?_ | refine blk_normal ?_ | refine blk_exit ?_ | refine blk_pass rfl ?_))
    refine sq_newk TYok TYz false rfl rfl rfl True.intro fun H2 hb2 ho2 hl2 => ?_
    have hb12 := ho2.get0 hb1
    have hx2 := ho1.ext.trans ho2.ext
    have hb1e := nil_at hb12
    have hb2e := nil_at hb2
    (repeat' (first | (refine sq_id ?_; first | refine sq_nil ?_ | refine sq_move rfl rfl rfl ?_ | refine sq_assign rfl rfl rfl ?_ | refine sq_skip rfl rfl ?_ | refine sq_t TYok TYz rfl rfl rfl True.intro so ?_ | refine sq_f TYok TYz rfl rfl rfl True.intro so ?_ | refine sq_pure TYok TYz false rfl rfl rfl sd ?_ | refine sq_pure TYok TYz true rfl rfl rfl sd ?_ | refine sq_load TYok rfl rfl rfl (by assumption) (by rfl) (by first | exact Nat.zero_lt_one | assumption | omega) (by rfl) ?_ | refine sq_lit TYok TYz rfl rfl rfl rfl rfl rfl rfl rfl ?_ | refine sq_ixa TYok rfl rfl rfl rfl rfl rfl rfl sd ?_ | refine sq_ixr TYok rfl rfl rfl rfl rfl rfl rfl sd ?_ | refine rg_ps rfl rfl rfl hds (LeL.refl _) ?_ | refine rg_look0 (kt := 58) (et := 53) (by kernel_rfl) rfl rfl rfl (is_agg (k := [.int .i64 job, .int .i64 pc])) (asked_pl job pc) hb hi hz ?_ | refine rg_ps rfl rfl rfl hcl (LeL.refl _) ?_) | (refine rg_id ?_; first | refine rg_fin ?_ | refine rg_move rfl rfl rfl ?_ | refine rg_assign rfl rfl rfl ?_ | refine rg_skip rfl rfl ?_ | refine rg_t TYok TYz rfl rfl rfl True.intro so ?_ | refine rg_f TYok TYz rfl rfl rfl True.intro so ?_ | refine rg_pure TYok TYz false rfl rfl rfl sd ?_ | refine rg_pure TYok TYz true rfl rfl rfl sd ?_ | refine rg_load TYok rfl rfl rfl (by assumption) (by rfl) (by first | exact Nat.zero_lt_one | assumption | omega) (by rfl) ?_ | refine rg_lit TYok TYz rfl rfl rfl rfl rfl rfl rfl rfl ?_ | refine rg_ixa TYok rfl rfl rfl rfl rfl rfl rfl sd ?_ | refine rg_ixr TYok rfl rfl rfl rfl rfl rfl rfl sd ?_ | refine rg_ps rfl rfl rfl hds (LeL.refl _) ?_ | refine rg_look0 (kt := 58) (et := 53) (by kernel_rfl) rfl rfl rfl (is_agg (k := [.int .i64 job, .int .i64 pc])) (asked_pl job pc) hb hi hz ?_ | refine rg_ps rfl rfl rfl hcl (LeL.refl _) ?_) | refine aw_rseq ?_ | refine aw_seq ?_ | refine aw_region ?_ | refine aw_skip ?_ | refine aw_true rfl ?_ | refine aw_false rfl ?_ | refine aw_d0seq rfl (by kernel_rfl) ?_ | refine aw_d0 rfl (by kernel_rfl) ?_ | refine aw_block ?_ | refine aw_exit ?_ | refine then_ret ?_ | refine then_exit ?_ | refine then_normal ?_ | refine blk_ret ?_ | refine blk_normal ?_ | refine blk_exit ?_ | refine blk_pass rfl ?_ | refine rg_ps rfl rfl rfl hds (LeL.refl _) ?_ | refine rg_look0 (kt := 58) (et := 53) (by kernel_rfl) rfl rfl rfl (is_agg (k := [.int .i64 job, .int .i64 pc])) (asked_pl job pc) hb hi hz ?_ | refine rg_ps rfl rfl rfl hcl (LeL.refl _) ?_))
    refine sq_storek TYok rfl rfl rfl hb2e rfl Nat.zero_lt_one rfl rfl rfl (Nat.le_of_ble_eq_true rfl) fun H3 hb3 ho3 hl3 => ?_
    (repeat' (first | (refine sq_id ?_; first | refine sq_nil ?_ | refine sq_move rfl rfl rfl ?_ | refine sq_assign rfl rfl rfl ?_ | refine sq_skip rfl rfl ?_ | refine sq_t TYok TYz rfl rfl rfl True.intro so ?_ | refine sq_f TYok TYz rfl rfl rfl True.intro so ?_ | refine sq_pure TYok TYz false rfl rfl rfl sd ?_ | refine sq_pure TYok TYz true rfl rfl rfl sd ?_ | refine sq_load TYok rfl rfl rfl (by assumption) (by rfl) (by first | exact Nat.zero_lt_one | assumption | omega) (by rfl) ?_ | refine sq_lit TYok TYz rfl rfl rfl rfl rfl rfl rfl rfl ?_ | refine sq_ixa TYok rfl rfl rfl rfl rfl rfl rfl sd ?_ | refine sq_ixr TYok rfl rfl rfl rfl rfl rfl rfl sd ?_) | (refine rg_id ?_; first | refine rg_fin ?_ | refine rg_move rfl rfl rfl ?_ | refine rg_assign rfl rfl rfl ?_ | refine rg_skip rfl rfl ?_ | refine rg_t TYok TYz rfl rfl rfl True.intro so ?_ | refine rg_f TYok TYz rfl rfl rfl True.intro so ?_ | refine rg_pure TYok TYz false rfl rfl rfl sd ?_ | refine rg_pure TYok TYz true rfl rfl rfl sd ?_ | refine rg_load TYok rfl rfl rfl (by assumption) (by rfl) (by first | exact Nat.zero_lt_one | assumption | omega) (by rfl) ?_ | refine rg_lit TYok TYz rfl rfl rfl rfl rfl rfl rfl rfl ?_ | refine rg_ixa TYok rfl rfl rfl rfl rfl rfl rfl sd ?_ | refine rg_ixr TYok rfl rfl rfl rfl rfl rfl rfl sd ?_) | refine aw_rseq ?_ | refine aw_seq ?_ | refine aw_region ?_ | refine aw_skip ?_ | refine aw_true rfl ?_ | refine aw_false rfl ?_ | refine aw_d0seq rfl (by kernel_rfl) ?_ | refine aw_d0 rfl (by kernel_rfl) ?_ | refine aw_block ?_ | refine aw_exit ?_ | refine then_ret ?_ | refine then_exit ?_ | refine then_normal ?_ | refine blk_ret ?_ | refine blk_normal ?_ | refine blk_exit ?_ | refine blk_pass rfl ?_))
    ((try refine aw_ret ?_); (repeat (first | refine then_ret ?_ | refine blk_ret ?_)))
    refine ⟨True.intro, _, .tmp _ _ _ (.cell _ _ _ _ _ _ _ _ _ rfl hb3 rfl Nat.zero_lt_one rfl (.tmp _ _ _ .nil)), ?_⟩
    exact ⟨(hx2.trans (.app H2 [])).oth ho3 (by rintro _ ⟨⟩; omega), rfl⟩
theorem step_s (ws : List Int) (at_ : Int) (w : Wk) (hl : ws.length ≤ 1000000) : PS Try.prog 21 [ints ws, .i at_, .agg (wk w)] (stepAV (stepF at_ ws w)) := by
  unfold stepF
  by_cases h : mayF w at_
  · rw [if_pos h]
    rcases hd : doA ws (accF at_ w) with ⟨ws', x, b, er⟩
    dsimp only
    have fin : ∀ w'm, (er = 0 → w'm = behF w x b) → PS Try.prog 21 [ints ws, .i at_, .agg (wk w)] (stepAV (if er = 0 then (ws', w'm, 0) else (ws, w, er))) → PS Try.prog 21 [ints ws, .i at_, .agg (wk w)] (stepAV (if er = 0 then (ws', behF w x b, 0) else (ws, w, er))) := by
      intro w'm h1 h2
      by_cases he : er = 0
      · rw [if_pos he, ← h1 he]; rw [if_pos he] at h2; exact h2
      · rw [if_neg he]; rw [if_neg he] at h2; exact h2
    obtain ⟨pc, job, r0, r1, r2, r3, r4, r5, r6, r7, done, out⟩ := w
    obtain ⟨hdn, hj, h0, h2, hat⟩ := h
    dsimp only at hdn hj h0 h2
    subst hdn
    have hp : pc = 0 ∨ pc = 1 ∨ pc = 2 := by omega
    rcases hj with rfl | rfl <;> rcases hp with rfl | rfl | rfl
    · refine fin _ ?_ (step_of ws at_ _ hl rfl hat 0 rfl (fun i hi => by rcases i with _ | _ | _ | _ | _ | _ | i <;> first | rfl | (cases hi)) rfl fun id H hb => begin_s id _ ws at_ 0 hl H hb hd)
      intro _; simp [behF] <;> rfl
    · refine fin _ ?_ (step_of ws at_ _ hl rfl hat 1 rfl (fun i hi => by rcases i with _ | _ | _ | _ | _ | _ | i <;> first | rfl | (cases hi)) rfl fun id H hb => next_s' id _ ws at_ 0 hl H hb hd)
      intro _; simp [behF] <;> rfl
    · refine fin _ ?_ (step_of ws at_ _ hl rfl hat 2 rfl (fun i hi => by rcases i with _ | _ | _ | _ | _ | _ | i <;> first | rfl | (cases hi)) rfl fun id H hb => take_s id _ ws at_ 0 hl H hb hd)
      intro he; simp [behF, he] <;> rfl
    · refine fin _ ?_ (step_of ws at_ _ hl rfl hat 3 rfl (fun i hi => by rcases i with _ | _ | _ | _ | _ | _ | i <;> first | rfl | (cases hi)) rfl fun id H hb => head_s id _ ws at_ 0 hl H hb hd)
      intro _; simp [behF] <;> rfl
    · refine fin _ ?_ (step_of ws at_ _ hl rfl hat 4 rfl (fun i hi => by rcases i with _ | _ | _ | _ | _ | _ | i <;> first | rfl | (cases hi)) rfl fun id H hb => link_s id _ ws at_ 0 hl H hb hd)
      intro _; simp [behF] <;> rfl
    · refine fin _ ?_ (step_of ws at_ _ hl rfl hat 5 rfl (fun i hi => by rcases i with _ | _ | _ | _ | _ | _ | i <;> first | rfl | (cases hi)) rfl fun id H hb => give_s id _ ws at_ 0 hl H hb hd)
      intro he; simp [behF, he] <;> rfl
  · rw [if_neg h]; exact step_no ws at_ w hl h
end Go.Proofs.Ytjdokpdnehkjpaa.Ab
