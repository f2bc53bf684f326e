/- A new table; what is free; what is wrong. -/
import Derived.Test.YtcehniefjelgeaaKL
namespace Go.Proofs.Ytcehniefjelgeaa.Ab
open Go Go.RowKit
def intsN (l : List Nat) : List Int := l.map fun k : Nat => (k : Int)
theorem intsN_len (l : List Nat) : (intsN l).length = l.length := by unfold intsN; simp
theorem freeGo_chain {ws : List Int} {b n : Nat} (hl : ws.length = b + (n + 1)) (hn : n < 1048576) : ∀ (F : List Nat) (f : Nat), F.length ≤ f → (∀ x ∈ F, x < n) → ChainA b ws F → freeGo ws b f (hdF F) = intsN F
  | [], f, _, _, _ => by
    cases f with
    | zero => rfl
    | succ f => rw [freeGo, if_neg (by show ¬ ((0 : Int) < 0 ∧ _); omega)]; rfl
  | x :: F, 0, h, _, _ => by simp at h
  | x :: F, f + 1, h, hx, hc => by
    have h1 := hx x (List.mem_cons_self ..)
    have e : hdF (x :: F) = (x : Int) + 1 := rfl
    have e2 : ((b : Int) + ((x : Int) + 1)).toNat = b + (x + 1) := by omega
    obtain ⟨m, hm, hmn⟩ := hdF_le (F := F) (n := n) fun y hy => hx y (List.mem_cons_of_mem _ hy)
    have e3 : Hn (hdF F) = hdF F := by
      have := hn_at 0 m (by omega)
      rw [hm]
      simpa using this
    rw [freeGo, e, if_pos (by omega), e2, hc.1, e3, freeGo_chain hl hn F f (by simpa using h) (fun y hy => hx y (List.mem_cons_of_mem _ hy)) hc.2]
    unfold intsN
    rw [List.map_cons, show (x : Int) + 1 - 1 = x by omega]
theorem free_list {S N C : Nat} {m : List Int} {F : List Nat} {had : List (Kid × Nat)} (h : WF S N m F C had) : freeL m (S + 4 * N) = intsN F := by
  have hl := h.size
  have hm := h.mem
  have hlen := hm.len
  have hN1 := hm.N1
  obtain ⟨l1, _⟩ := h.lt
  obtain ⟨q, hq, hqn⟩ := hdF_le l1
  unfold freeL
  rw [if_pos (by omega), h.head, hq, hn_at C q (by omega), ← hq]
  exact freeGo_chain hlen (by omega) F 1000 (by omega) l1 h.chain
theorem hdF_range (a d : Nat) : hdF (List.range' a d) = if d = 0 then 0 else (a : Int) + 1 := by
  cases d with
  | zero => rfl
  | succ d => rw [List.range'_succ]; rfl
theorem newL_lo (S N i : Nat) (h : i < S + 4 * N) : (newL S N).getD i 0 = 0 := by
  unfold newL
  rw [List.getD_eq_getElem?_getD, List.getElem?_append_left (by simpa using h), List.getElem?_replicate, if_pos h]; rfl
theorem newL_hi (S N i : Nat) : (newL S N).getD (S + 4 * N + i) 0 = (makeL N).getD i 0 := by
  unfold newL
  rw [List.getD_eq_getElem?_getD, List.getElem?_append_right (by simp), List.length_replicate, List.getD_eq_getElem?_getD, show S + 4 * N + i - (S + 4 * N) = i by omega]
theorem chain_new (S N : Nat) : ∀ d a, a + d = N → ChainA (S + 4 * N) (newL S N) (List.range' a d)
  | 0, _, _ => True.intro
  | d + 1, a, h => by
    rw [List.range'_succ]
    refine ⟨?_, chain_new S N d (a + 1) (by omega)⟩
    rw [hdF_range, newL_hi]
    by_cases hd : d = 0
    · rw [if_pos hd, show a + 1 = N by omega]; exact makeL_end N
    · rw [if_neg hd, makeL_at N (a + 1) (by omega)]
theorem nodes_new (S N : Nat) : ∀ q : Nat, q ≤ S → nodesL q (newL S N) = []
  | 0, _ => rfl
  | q + 1, h => by rw [nodesL_succ q _ (by rw [newL_len]; omega), nodes_new S N q (by omega), newL_lo S N q (by omega)]; rfl
theorem WF_new (S N : Nat) (hS : 1 ≤ S ∧ S ≤ 100) (hN : N ≤ 100) : WF S N (newL S N) (List.range N) 0 [] := by
  have he : List.range N = List.range' 0 N := List.range_eq_range'
  refine ⟨⟨hS, hN, newL_len S N, fun i hi => by rw [newL_lo S N i (by omega)]; omega⟩, ?_, by rw [he]; exact chain_new S N N 0 (by omega), fun a => ?_, by rw [nodes_new S N S (Nat.le_refl _)]; exact .refl _, fun e he => (by cases he), fun e he => (by cases he), by simp⟩
  · have := newL_hi S N 0
    rw [Nat.add_zero] at this
    rw [this, he, hdF_range]
    by_cases hn : N = 0
    · subst hn; rfl
    · rw [if_neg hn, makeL_at N 0 (by omega)]; omega
  · have h1 := List.nodup_range (n := N)
    by_cases h : a < N
    · rw [if_pos h]
      have h2 := List.nodup_iff_count.1 h1 a
      have h3 := List.count_pos_iff.2 (List.mem_range.2 h)
      simp; omega
    · rw [if_neg h, List.count_eq_zero.2 (by simpa using h)]; simp
theorem right_f : PS Try.prog 20 [.agg (tb 0 0)] (.b false) := by
  refine ps_in TYok Try.func20 (by kernel_rfl) Try.ntmps20 rfl rfl rfl (cl_b _) fun H => ?_
  refine aw_seq ?_
  refine aw_region ?_
  refine sq_newk TYok TYz false rfl rfl rfl True.intro fun H1 hb1 ho1 hl1 => ?_
  (repeat' (first | (refine sq_id ?_; first | refine sq_nil ?_ | refine sq_move rfl rfl rfl ?_ | refine sq_assign rfl rfl rfl ?_ | refine sq_skip rfl rfl ?_ | refine sq_t TYok TYz rfl rfl rfl True.intro so ?_ | refine sq_f TYok TYz rfl rfl rfl True.intro so ?_ | refine sq_pure TYok TYz false rfl rfl rfl sd ?_ | refine sq_pure TYok TYz true rfl rfl rfl sd ?_ | refine sq_load TYok rfl rfl rfl (by assumption) (by rfl) (by first | exact Nat.zero_lt_one | assumption | omega) (by rfl) ?_ | refine sq_lit TYok TYz rfl rfl rfl rfl rfl rfl rfl rfl ?_ | refine sq_ixa TYok rfl rfl rfl rfl rfl rfl rfl sd ?_ | refine sq_ixr TYok rfl rfl rfl rfl rfl rfl rfl sd ?_) | (refine rg_id ?_; first | refine rg_fin ?_ | refine rg_move rfl rfl rfl ?_ | refine rg_assign rfl rfl rfl ?_ | refine rg_skip rfl rfl ?_ | refine rg_t TYok TYz rfl rfl rfl True.intro so ?_ | refine rg_f TYok TYz rfl rfl rfl True.intro so ?_ | refine rg_pure TYok TYz false rfl rfl rfl sd ?_ | refine rg_pure TYok TYz true rfl rfl rfl sd ?_ | refine rg_load TYok rfl rfl rfl (by assumption) (by rfl) (by first | exact Nat.zero_lt_one | assumption | omega) (by rfl) ?_ | refine rg_lit TYok TYz rfl rfl rfl rfl rfl rfl rfl rfl ?_ | refine rg_ixa TYok rfl rfl rfl rfl rfl rfl rfl sd ?_ | refine rg_ixr TYok rfl rfl rfl rfl rfl rfl rfl sd ?_) | refine aw_rseq ?_ | refine aw_seq ?_ | refine aw_region ?_ | refine aw_skip ?_ | refine aw_true rfl ?_ | refine aw_false rfl ?_ | refine aw_d0seq rfl (by kernel_rfl) ?_ | refine aw_d0 rfl (by kernel_rfl) ?_ | refine aw_block ?_ | refine aw_exit ?_ | refine then_ret ?_ | refine then_exit ?_ | refine then_normal ?_ | refine blk_ret ?_ | refine blk_normal ?_ | refine blk_exit ?_ | refine blk_pass rfl ?_ | refine aw_dec rfl (fun _ => ?_) (fun _ => ?_) | refine aw_ret ?_))
  ((try refine aw_ret ?_); (repeat (first | refine then_ret ?_ | refine blk_ret ?_)); refine fin_t True.intro rfl rfl ?_)
  exact ⟨ho1.ext, rfl⟩
set_option maxHeartbeats 4000000 in
/-- words that are none -/
theorem step_bad (S N : Int) (hS : 1 ≤ S ∧ S ≤ 4000) (hN : 0 ≤ N ∧ N ≤ 1000) (w : Wk) (hw : w.pc = 0) : PS Try.prog 19 [.agg (tb S N), ints [], .agg (wk w)] (.tup [ints [], .agg (wk w), .i 1]) := by
  have hfit := fits_s S N [] hS hN (by simp)
  rw [decide_eq_false (by simp; omega)] at hfit
  have hcl := clone_s [] (by simp)
  obtain ⟨pc, job, r0, r1, r2, r3, r4, r5, r6, r7, done, out⟩ := w
  dsimp only at hw
  subst hw
  have hask : Asked Try.prog 3 (keysP.map fun x => .int .i64 x.1) (.int .i64 0) ((keysP.map Prod.fst).map fun m => ((0 : Int) == m)) := asked_int (q := .i64) (by kernel_rfl) (keysP.map Prod.fst) 0 rfl
  refine ps_in TYok Try.func19 (by kernel_rfl) Try.ntmps19 rfl rfl rfl (.tup _ fun x hx => ?_) fun H => ?_
  · simp only [List.mem_cons, List.not_mem_nil, or_false] at hx
    rcases hx with rfl | rfl | rfl
    · exact cl_ints _
    · exact .agg _ (cl_wk _)
    · exact .p _
  refine aw_seq ?_
  refine aw_region ?_
  refine sq_newk TYok TYz false rfl rfl rfl True.intro fun H1 hb1 ho1 hl1 => ?_
  refine sq_newk TYok TYz false rfl rfl rfl True.intro fun H2 hb2 ho2 hl2 => ?_
  have hb12 := ho2.get0 hb1
  (repeat' (first | (refine sq_id ?_; first | refine sq_nil ?_ | refine sq_move rfl rfl rfl ?_ | refine sq_assign rfl rfl rfl ?_ | refine sq_skip rfl rfl ?_ | refine sq_t TYok TYz rfl rfl rfl True.intro so ?_ | refine sq_f TYok TYz rfl rfl rfl True.intro so ?_ | refine sq_pure TYok TYz false rfl rfl rfl sd ?_ | refine sq_pure TYok TYz true rfl rfl rfl sd ?_ | refine sq_load TYok rfl rfl rfl (by assumption) (by rfl) (by first | exact Nat.zero_lt_one | assumption | omega) (by rfl) ?_ | refine sq_lit TYok TYz rfl rfl rfl rfl rfl rfl rfl rfl ?_ | refine sq_ixa TYok rfl rfl rfl rfl rfl rfl rfl sd ?_ | refine sq_ixr TYok rfl rfl rfl rfl rfl rfl rfl sd ?_) | (refine rg_id ?_; first | refine rg_fin ?_ | refine rg_move rfl rfl rfl ?_ | refine rg_assign rfl rfl rfl ?_ | refine rg_skip rfl rfl ?_ | refine rg_t TYok TYz rfl rfl rfl True.intro so ?_ | refine rg_f TYok TYz rfl rfl rfl True.intro so ?_ | refine rg_pure TYok TYz false rfl rfl rfl sd ?_ | refine rg_pure TYok TYz true rfl rfl rfl sd ?_ | refine rg_load TYok rfl rfl rfl (by assumption) (by rfl) (by first | exact Nat.zero_lt_one | assumption | omega) (by rfl) ?_ | refine rg_lit TYok TYz rfl rfl rfl rfl rfl rfl rfl rfl ?_ | refine rg_ixa TYok rfl rfl rfl rfl rfl rfl rfl sd ?_ | refine rg_ixr TYok rfl rfl rfl rfl rfl rfl rfl sd ?_) | refine aw_rseq ?_ | refine aw_seq ?_ | refine aw_region ?_ | refine aw_skip ?_ | refine aw_true rfl ?_ | refine aw_false rfl ?_ | refine aw_d0seq rfl (by kernel_rfl) ?_ | refine aw_d0 rfl (by kernel_rfl) ?_ | refine aw_block ?_ | refine aw_exit ?_ | refine then_ret ?_ | refine then_exit ?_ | refine then_normal ?_ | refine blk_ret ?_ | refine blk_normal ?_ | refine blk_exit ?_ | refine blk_pass rfl ?_))
  refine sq_newk TYok TYz false rfl rfl rfl True.intro fun H3 hb3 ho3 hl3 => ?_
  have hb13 := ho3.get0 hb12
  have hb23 := ho3.get0 hb2
  (repeat' (first | (refine sq_id ?_; first | refine sq_nil ?_ | refine sq_move rfl rfl rfl ?_ | refine sq_assign rfl rfl rfl ?_ | refine sq_skip rfl rfl ?_ | refine sq_t TYok TYz rfl rfl rfl True.intro so ?_ | refine sq_f TYok TYz rfl rfl rfl True.intro so ?_ | refine sq_pure TYok TYz false rfl rfl rfl sd ?_ | refine sq_pure TYok TYz true rfl rfl rfl sd ?_ | refine sq_load TYok rfl rfl rfl (by assumption) (by rfl) (by first | exact Nat.zero_lt_one | assumption | omega) (by rfl) ?_ | refine sq_lit TYok TYz rfl rfl rfl rfl rfl rfl rfl rfl ?_ | refine sq_ixa TYok rfl rfl rfl rfl rfl rfl rfl sd ?_ | refine sq_ixr TYok rfl rfl rfl rfl rfl rfl rfl sd ?_) | (refine rg_id ?_; first | refine rg_fin ?_ | refine rg_move rfl rfl rfl ?_ | refine rg_assign rfl rfl rfl ?_ | refine rg_skip rfl rfl ?_ | refine rg_t TYok TYz rfl rfl rfl True.intro so ?_ | refine rg_f TYok TYz rfl rfl rfl True.intro so ?_ | refine rg_pure TYok TYz false rfl rfl rfl sd ?_ | refine rg_pure TYok TYz true rfl rfl rfl sd ?_ | refine rg_load TYok rfl rfl rfl (by assumption) (by rfl) (by first | exact Nat.zero_lt_one | assumption | omega) (by rfl) ?_ | refine rg_lit TYok TYz rfl rfl rfl rfl rfl rfl rfl rfl ?_ | refine rg_ixa TYok rfl rfl rfl rfl rfl rfl rfl sd ?_ | refine rg_ixr TYok rfl rfl rfl rfl rfl rfl rfl sd ?_) | refine aw_rseq ?_ | refine aw_seq ?_ | refine aw_region ?_ | refine aw_skip ?_ | refine aw_true rfl ?_ | refine aw_false rfl ?_ | refine aw_d0seq rfl (by kernel_rfl) ?_ | refine aw_d0 rfl (by kernel_rfl) ?_ | refine aw_block ?_ | refine aw_exit ?_ | refine then_ret ?_ | refine then_exit ?_ | refine then_normal ?_ | refine blk_ret ?_ | refine blk_normal ?_ | refine blk_exit ?_ | refine blk_pass rfl ?_))
  refine sq_newk TYok TYz false rfl rfl rfl True.intro fun H4 hb4 ho4 hl4 => ?_
  have hb14 := ho4.get0 hb13
  have hb24 := ho4.get0 hb23
  have hb34 := ho4.get0 hb3
  have hn24 := nil_at hb24
  have hn34 := nil_at hb34
  refine sq_assign rfl rfl rfl ?_
  refine sq_nil ?_
  refine aw_seq ?_
  refine aw_mseq (m := 18) (p := 9) (es := keysP) (kt := 3) (et := 1) (qk := .i64) (by kernel_rfl) (by kernel_rfl) (by decide) (by decide) rfl (.cons (.cons (.cons (.cons (.cons (.cons (.cons (.cons (.cons (.cons (.nil _))))))))))) (by decide) (by decide) (by decide) (by decide) ?_
  (repeat' (first | (refine sq_id ?_; first | refine sq_nil ?_ | refine sq_move rfl rfl rfl ?_ | refine sq_assign rfl rfl rfl ?_ | refine sq_skip rfl rfl ?_ | refine sq_t TYok TYz rfl rfl rfl True.intro so ?_ | refine sq_f TYok TYz rfl rfl rfl True.intro so ?_ | refine sq_pure TYok TYz false rfl rfl rfl sd ?_ | refine sq_pure TYok TYz true rfl rfl rfl sd ?_ | refine sq_load TYok rfl rfl rfl (by assumption) (by rfl) (by first | exact Nat.zero_lt_one | assumption | omega) (by rfl) ?_ | refine sq_lit TYok TYz rfl rfl rfl rfl rfl rfl rfl rfl ?_ | refine sq_ixa TYok rfl rfl rfl rfl rfl rfl rfl sd ?_ | refine sq_ixr TYok rfl rfl rfl rfl rfl rfl rfl sd ?_ | refine sq_look (kt := 3) (et := 1) (by kernel_rfl) rfl rfl rfl is_p hask 0 rfl (fun i hi => by rcases i with _ | _ | _ | _ | _ | _ | _ | _ | _ | _ | i <;> first | rfl | (cases hi)) rfl ?_ | refine sq_ps rfl rfl rfl hfit (LeL.refl _) ?_ | refine rg_ps rfl rfl rfl hcl (LeL.refl _) ?_) | (refine rg_id ?_; first | refine rg_fin ?_ | refine rg_move rfl rfl rfl ?_ | refine rg_assign rfl rfl rfl ?_ | refine rg_skip rfl rfl ?_ | refine rg_t TYok TYz rfl rfl rfl True.intro so ?_ | refine rg_f TYok TYz rfl rfl rfl True.intro so ?_ | refine rg_pure TYok TYz false rfl rfl rfl sd ?_ | refine rg_pure TYok TYz true rfl rfl rfl sd ?_ | refine rg_load TYok rfl rfl rfl (by assumption) (by rfl) (by first | exact Nat.zero_lt_one | assumption | omega) (by rfl) ?_ | refine rg_lit TYok TYz rfl rfl rfl rfl rfl rfl rfl rfl ?_ | refine rg_ixa TYok rfl rfl rfl rfl rfl rfl rfl sd ?_ | refine rg_ixr TYok rfl rfl rfl rfl rfl rfl rfl sd ?_ | refine sq_look (kt := 3) (et := 1) (by kernel_rfl) rfl rfl rfl is_p hask 0 rfl (fun i hi => by rcases i with _ | _ | _ | _ | _ | _ | _ | _ | _ | _ | i <;> first | rfl | (cases hi)) rfl ?_ | refine sq_ps rfl rfl rfl hfit (LeL.refl _) ?_ | refine rg_ps rfl rfl rfl hcl (LeL.refl _) ?_) | refine aw_rseq ?_ | refine aw_seq ?_ | refine aw_region ?_ | refine aw_skip ?_ | refine aw_true rfl ?_ | refine aw_false rfl ?_ | refine aw_d0seq rfl (by kernel_rfl) ?_ | refine aw_d0 rfl (by kernel_rfl) ?_ | refine aw_block ?_ | refine aw_exit ?_ | refine then_ret ?_ | refine then_exit ?_ | refine then_normal ?_ | refine blk_ret ?_ | refine blk_normal ?_ | refine blk_exit ?_ | refine blk_pass rfl ?_ | refine sq_look (kt := 3) (et := 1) (by kernel_rfl) rfl rfl rfl is_p hask 0 rfl (fun i hi => by rcases i with _ | _ | _ | _ | _ | _ | _ | _ | _ | _ | i <;> first | rfl | (cases hi)) rfl ?_ | refine sq_ps rfl rfl rfl hfit (LeL.refl _) ?_ | refine rg_ps rfl rfl rfl hcl (LeL.refl _) ?_))
  refine sq_storek TYok rfl rfl rfl hb34 rfl Nat.zero_lt_one rfl rfl rfl (Nat.le_of_ble_eq_true rfl) fun H6 hb6 ho6 hl6 => ?_
  (repeat' (first | (refine sq_id ?_; first | refine sq_nil ?_ | refine sq_move rfl rfl rfl ?_ | refine sq_assign rfl rfl rfl ?_ | refine sq_skip rfl rfl ?_ | refine sq_t TYok TYz rfl rfl rfl True.intro so ?_ | refine sq_f TYok TYz rfl rfl rfl True.intro so ?_ | refine sq_pure TYok TYz false rfl rfl rfl sd ?_ | refine sq_pure TYok TYz true rfl rfl rfl sd ?_ | refine sq_load TYok rfl rfl rfl (by assumption) (by rfl) (by first | exact Nat.zero_lt_one | assumption | omega) (by rfl) ?_ | refine sq_lit TYok TYz rfl rfl rfl rfl rfl rfl rfl rfl ?_ | refine sq_ixa TYok rfl rfl rfl rfl rfl rfl rfl sd ?_ | refine sq_ixr TYok rfl rfl rfl rfl rfl rfl rfl sd ?_) | (refine rg_id ?_; first | refine rg_fin ?_ | refine rg_move rfl rfl rfl ?_ | refine rg_assign rfl rfl rfl ?_ | refine rg_skip rfl rfl ?_ | refine rg_t TYok TYz rfl rfl rfl True.intro so ?_ | refine rg_f TYok TYz rfl rfl rfl True.intro so ?_ | refine rg_pure TYok TYz false rfl rfl rfl sd ?_ | refine rg_pure TYok TYz true rfl rfl rfl sd ?_ | refine rg_load TYok rfl rfl rfl (by assumption) (by rfl) (by first | exact Nat.zero_lt_one | assumption | omega) (by rfl) ?_ | refine rg_lit TYok TYz rfl rfl rfl rfl rfl rfl rfl rfl ?_ | refine rg_ixa TYok rfl rfl rfl rfl rfl rfl rfl sd ?_ | refine rg_ixr TYok rfl rfl rfl rfl rfl rfl rfl sd ?_) | refine aw_rseq ?_ | refine aw_seq ?_ | refine aw_region ?_ | refine aw_skip ?_ | refine aw_true rfl ?_ | refine aw_false rfl ?_ | refine aw_d0seq rfl (by kernel_rfl) ?_ | refine aw_d0 rfl (by kernel_rfl) ?_ | refine aw_block ?_ | refine aw_exit ?_ | refine then_ret ?_ | refine then_exit ?_ | refine then_normal ?_ | refine blk_ret ?_ | refine blk_normal ?_ | refine blk_exit ?_ | refine blk_pass rfl ?_))
  ((try refine aw_ret ?_); (repeat (first | refine then_ret ?_ | refine blk_ret ?_)))
  refine ⟨True.intro, _, .tmp _ _ _ (.cell _ _ _ _ _ _ _ _ _ rfl hb6 rfl Nat.zero_lt_one rfl (.tmp _ _ _ .nil)), ?_⟩
  have hx4 : Ext H H4 := ((ho1.ext.trans ho2.ext).trans ho3.ext).trans ho4.ext
  have e1 : H1.length = H.length + 1 := hl1
  have e2 : H2.length = H1.length + 1 := hl2
  exact ⟨hx4.oth ho6 (by rintro _ ⟨⟩; omega), rfl⟩
end Go.Proofs.Ytcehniefjelgeaa.Ab
