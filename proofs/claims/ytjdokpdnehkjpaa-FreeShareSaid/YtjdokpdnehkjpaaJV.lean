/- Each change raises the count by one. -/
import Derived.Test.YtjdokpdnehkjpaaJU
namespace Go.Proofs.Ytjdokpdnehkjpaa.Ab
open Go Go.RowKit
def pushL (l : List Int) : List Wk := l.map pushW
theorem pushL_at (l : List Int) (k : Nat) (h : k < l.length) : (pushL l).getD k wk0 = pushW (l.getD k 0) := by
  unfold pushL
  rw [List.getD_eq_getElem?_getD, List.getElem?_map, List.getElem?_eq_getElem h, List.getD_eq_getElem?_getD, List.getElem?_eq_getElem h]; rfl
theorem given_push (l : List Int) : givenN (pushL l) = l.length := by
  rw [given_eq]
  unfold pushL
  induction l with
  | nil => rfl
  | cons a l ih => rw [List.map_cons, List.map_cons, List.count_cons, ih]; simp [pushW]
theorem crw_push (R : List Nat) (h : R.length ≤ 8) : Crw R (pushL (intsN R)) := by
  have hg : givenN (pushL (intsN R)) = R.length := by rw [given_push, intsN_len]
  refine ⟨by unfold pushL; rw [List.length_map, intsN_len]; exact h, by omega, fun w hw => ?_, fun a => ?_⟩
  · unfold pushL intsN at hw
    rw [List.map_map] at hw
    obtain ⟨k, hk, rfl⟩ := List.mem_map.1 hw
    exact .inr ⟨k, hk, rfl⟩
  · rw [hg, List.take_length]
    clear hg h
    unfold pushL intsN
    induction R with
    | nil => rfl
    | cons x R ih =>
      rw [List.map_cons, List.map_cons, List.map_cons, List.sum_cons, ih, List.count_cons]
      simp [hasW, pushW, List.count_cons]; omega
theorem crw_pops {l : List Wk} (h : Crw [] l) : ∀ w ∈ l, w.job = 1 := fun w hw => by
  rcases h.all w hw with rfl | ⟨k, hk, _⟩
  · rfl
  · cases hk
theorem suc_outs (l : List Wk) (h : ∀ w ∈ l, w.done = true ∧ w.job = 1) : (l.map sucW).sum = (outsL l).length := by
  induction l with
  | nil => rfl
  | cons w l ih =>
    have i1 := ih fun w hw => h w (List.mem_cons_of_mem _ hw)
    obtain ⟨h1, h2⟩ := h w (List.mem_cons_self ..)
    rw [List.map_cons, List.sum_cons, i1]
    unfold outsL
    by_cases e : 0 ≤ w.out
    · rw [List.filter_cons_of_pos (by simp [e, h2])]; simp [sucW, h1, e]; omega
    · rw [List.filter_cons_of_neg (by simp [e])]; simp [sucW, h1, h2, e]
theorem suc_push (l : List Wk) (h : ∀ w ∈ l, w.done = true ∧ w.job = 2) : (l.map sucW).sum = l.length ∧ outsL l = [] := by
  induction l with
  | nil => exact ⟨rfl, rfl⟩
  | cons w l ih =>
    obtain ⟨i1, i2⟩ := ih fun w hw => h w (List.mem_cons_of_mem _ hw)
    obtain ⟨h1, h2⟩ := h w (List.mem_cons_self ..)
    refine ⟨?_, ?_⟩
    · rw [List.map_cons, List.sum_cons, i1]; simp [sucW, h1, h2]; omega
    · unfold outsL at i2 ⊢
      rw [List.filter_cons_of_neg (by simp [h2])]; exact i2
/-- what two crowds come to: all take, then what was taken is given back -/
theorem two_crowds (n : Nat) (hn : n ≤ 6) (raw picks : List Int) :
    ∃ ws now ws2 now2 F2, driveT (stepF 0) picks (makeL n) (crowdL raw []) = (ws, now, 0) ∧ okI (makeL n) ∧ ws.length = n + 1 ∧ okI ws ∧ now.length = (crowdL raw []).length ∧ (∀ i, i < now.length → (now.getD i wk0).job = 1) ∧ (outsL now).length ≤ 8 ∧
      driveT (stepF 0) picks ws (pushL (outsL now)) = (ws2, now2, 0) ∧ now2.length = (outsL now).length ∧ ws2.length = n + 1 ∧ (outsL now).length = min (crowdL raw []).length n ∧
      (ws.getD 0 0).tdiv 1048576 = (outsL now).length ∧ (ws2.getD 0 0).tdiv 1048576 = 2 * (outsL now).length ∧ freeL ws2 0 = intsN F2 ∧ F2.length = n := by
  have hF := FJ_make n
  have hc := crw_of raw []
  have e0 : intsN [] = [] := rfl
  rw [e0] at hc
  have hpop := crw_pops hc
  have hl8 := hc.len
  generalize crowdL raw [] = l at *
  obtain ⟨ws, now, F1, C1, r1, r2, r3, r4, r5, r6⟩ := crowd_run n (by omega) (by omega) hF hc picks
  have hsame := r2.same
  have hdn : ∀ w ∈ now, w.done = true ∧ w.job = 1 := fun w hw => by
    refine ⟨r3 w hw, ?_⟩
    obtain ⟨i, hi, rfl⟩ := List.getElem_of_mem hw
    rw [← getD_at now i hi wk0, (hsame.2 i (by omega)).1, getD_at l i (by omega)]
    exact hpop _ (List.getElem_mem _)
  have hC1 : C1 = (outsL now).length := by have := r2.cnt; rw [suc_outs now hdn] at this; omega
  have hol := outs_le now
  rw [List.drop_nil, List.nil_append] at r4
  have hlen := FJ_len r4
  have hon : (outN now).length = (outsL now).length := by unfold outN; simp
  have hc2 := crw_push (outN now) (by omega)
  rw [← outs_eq] at hc2
  obtain ⟨ws2, now2, F2, C2, s1, s2, s3, s4, s5, _⟩ := crowd_run n (by omega) (by omega) r4 hc2 picks
  have hs2 := s2.same
  have hpl : (pushL (outsL now)).length = (outsL now).length := by unfold pushL; simp
  have hdn2 : ∀ w ∈ now2, w.done = true ∧ w.job = 2 := fun w hw => by
    refine ⟨s3 w hw, ?_⟩
    obtain ⟨i, hi, rfl⟩ := List.getElem_of_mem hw
    rw [← getD_at now2 i hi wk0, (hs2.2 i (by omega)).1, pushL_at _ i (by omega)]
    rfl
  obtain ⟨t1, t2⟩ := suc_push now2 hdn2
  have hC2 : C2 = 2 * (outsL now).length := by have := s2.cnt; omega
  have ho2 : outN now2 = [] := by unfold outN; rw [t2]; rfl
  rw [ho2, given_push, ← hon, List.drop_length, List.append_nil] at s4
  have hlen2 := FJ_len s4
  have hmin : (outsL now).length = min l.length n := by
    by_cases hall : ∀ w ∈ now, 0 ≤ w.out
    · have : outsL now = now.map (·.out) := by
        unfold outsL
        rw [List.filter_eq_self.2 fun w hw => by simp [(hdn w hw).2, hall w hw]]
      have h2 : (outsL now).length = now.length := by rw [this, List.length_map]
      have := hsame.1
      omega
    · obtain ⟨w, hw⟩ := Classical.not_forall.1 hall
      obtain ⟨hw, ho⟩ := Classical.not_imp.1 hw
      obtain ⟨i, hi, hwi⟩ := List.getElem_of_mem hw
      have hpw := (r2.all i hi).pop
      rw [getD_at now i hi wk0, hwi] at hpw
      have : F1 = [] := r6 hpop w hw (by rcases hpw (hdn w hw).2 (hdn w hw).1 with h | h <;> omega)
      subst this
      simp only [List.length_nil] at hlen
      omega
  have hdiv : ∀ {C : Nat} {F R : List Nat} {ws : List Int}, FJ n ws F R C → (ws.getD 0 0).tdiv 1048576 = C := fun {C F R ws} h => by
    obtain ⟨m, hm, hmn⟩ := hdF_le (F := F) (n := n) fun x hx => FJ_lt h x (.inl hx)
    rw [h.head, hm, Int.tdiv_eq_ediv_of_nonneg (by omega)]; omega
  refine ⟨ws, now, ws2, now2, F2, r1, FJ_ok hF (by omega) (by omega), r4.len, FJ_ok r4 (by omega) (by omega), hsame.1, fun i hi => ?_, by omega, s1, by omega, s4.len, hmin, by rw [hdiv r4]; omega, by rw [hdiv s4]; omega, free_list s4 (by omega) (by omega), by simpa using hlen2⟩
  have := hdn _ (List.getElem_mem hi)
  rw [getD_at now i hi]; exact this.2
set_option maxHeartbeats 4000000 in
theorem counts_s (c : Int) (raw picks : List Int) (hc : I64 c) (hr : raw.length ≤ maxLen ∧ ∀ x ∈ raw, I64 x) (hp : picks.length ≤ maxLen ∧ ∀ x ∈ picks, I64 x) :
    SC true Try.prog 6 [.i c, ints raw, ints picks] [] (fun r _ => r = .b true) := by
  refine sc_in TYok Try.func6 (by kernel_rfl) Try.ntmps6 rfl rfl rfl ?_
  obtain ⟨y, hP, _, y0, y1⟩ := pick_k c 7 hc (by omega)
  obtain ⟨n, rfl⟩ := Int.eq_ofNat_of_zero_le y0
  have hM := make_s n (by omega)
  obtain ⟨ws, now, ws2, now2, F2, e1, o1, l1, o2, l2, j2, t8, e2, l3, l4, hmin, d1, d2, hf, hfl⟩ := two_crowds n (by omega) raw picks
  have hC := crowd_s raw [] hr.1 (by simp)
  have hl8 := crowdL_len raw []
  generalize crowdL raw [] = l at *
  have hR := run_lit (makeL n) picks l 0 e1 o1 (by omega) hp.1 hp.2
  have hpl : (pushL (outsL now)).length = (outsL now).length := by unfold pushL; simp
  have hR2 := run_lit ws picks (pushL (outsL now)) 0 e2 o2 (by omega) hp.1 hp.2
  have hFs := free_s ws2 0 (by omega)
  rw [hf] at hFs
  have hFs : PS Try.prog 18 [ints ws2, .i 0] (ints (intsN F2)) := hFs
  have hFl := intsN_len F2
  generalize intsN F2 = FF at *
  have hpa := pushL_at (outsL now)
  (repeat' (first | (refine sq_id ?_; first | refine sq_nil ?_ | refine sq_move rfl rfl rfl ?_ | refine sq_assign rfl rfl rfl ?_ | refine sq_skip rfl rfl ?_ | refine sq_t TYok TYz rfl rfl rfl True.intro so ?_ | refine sq_f TYok TYz rfl rfl rfl True.intro so ?_ | refine sq_pure TYok TYz false rfl rfl rfl sd ?_ | refine sq_pure TYok TYz true rfl rfl rfl sd ?_ | refine sq_load TYok rfl rfl rfl (by assumption) (by rfl) (by first | exact Nat.zero_lt_one | assumption | omega) (by rfl) ?_ | refine sq_lit TYok TYz rfl rfl rfl rfl rfl rfl rfl rfl ?_ | refine sq_ixa TYok rfl rfl rfl rfl rfl rfl rfl sd ?_ | refine sq_ixr TYok rfl rfl rfl rfl rfl rfl rfl sd ?_ | refine sq_ps rfl rfl rfl awake_s .nil ?_ | refine sq_ps rfl rfl rfl hP (LeL.refl _) ?_ | refine sq_ps rfl rfl rfl hM (LeL.refl _) ?_ | refine sq_ps rfl rfl rfl hC (.cons (.refl _) (.cons (le_nil _ _ _) .nil)) ?_ | refine sq_ps rfl rfl rfl hR (LeL.refl _) ?_) | (refine rg_id ?_; first | refine rg_fin ?_ | refine rg_move rfl rfl rfl ?_ | refine rg_assign rfl rfl rfl ?_ | refine rg_skip rfl rfl ?_ | refine rg_t TYok TYz rfl rfl rfl True.intro so ?_ | refine rg_f TYok TYz rfl rfl rfl True.intro so ?_ | refine rg_pure TYok TYz false rfl rfl rfl sd ?_ | refine rg_pure TYok TYz true rfl rfl rfl sd ?_ | refine rg_load TYok rfl rfl rfl (by assumption) (by rfl) (by first | exact Nat.zero_lt_one | assumption | omega) (by rfl) ?_ | refine rg_lit TYok TYz rfl rfl rfl rfl rfl rfl rfl rfl ?_ | refine rg_ixa TYok rfl rfl rfl rfl rfl rfl rfl sd ?_ | refine rg_ixr TYok rfl rfl rfl rfl rfl rfl rfl sd ?_ | refine sq_ps rfl rfl rfl awake_s .nil ?_ | refine sq_ps rfl rfl rfl hP (LeL.refl _) ?_ | refine sq_ps rfl rfl rfl hM (LeL.refl _) ?_ | refine sq_ps rfl rfl rfl hC (.cons (.refl _) (.cons (le_nil _ _ _) .nil)) ?_ | refine sq_ps rfl rfl rfl hR (LeL.refl _) ?_) | refine aw_rseq ?_ | refine aw_seq ?_ | refine aw_region ?_ | refine aw_skip ?_ | refine aw_true rfl ?_ | refine aw_false rfl ?_ | refine aw_d0seq rfl (by kernel_rfl) ?_ | refine aw_d0 rfl (by kernel_rfl) ?_ | refine aw_block ?_ | refine aw_exit ?_ | refine then_ret ?_ | refine then_exit ?_ | refine then_normal ?_ | refine blk_ret ?_ | refine blk_normal ?_ | refine blk_exit ?_ | refine blk_pass rfl ?_ | refine sq_ps rfl rfl rfl awake_s .nil ?_ | refine sq_ps rfl rfl rfl hP (LeL.refl _) ?_ | refine sq_ps rfl rfl rfl hM (LeL.refl _) ?_ | refine sq_ps rfl rfl rfl hC (.cons (.refl _) (.cons (le_nil _ _ _) .nil)) ?_ | refine sq_ps rfl rfl rfl hR (LeL.refl _) ?_))
  refine aw_for [2, 7, 8, 10, 11, 13, 14, 15] (fun s : Nat × AV => [(2, ints picks), (7, .b true), (8, .i n), (10, ints ws), (11, wks now), (13, .i (outsL (now.take s.1)).length), (14, s.2), (15, .i s.1)])
    (fun s H' => s.1 ≤ now.length ∧ Acc 0 H' s.2 3 1 (outsL (now.take s.1)).length (fun i => [.i ((outsL (now.take s.1)).getD i 0)])) (fun s => now.length - s.1) (0, .p (.slice none 0 0)) (by rw [rstf_eq]; rfl) ⟨by omega, acc_nil _ _ _ _ _⟩ ?_
  rintro ⟨k, fa⟩ H1 ⟨hk, ha⟩
  simp only at hk ha
  by_cases hlt : k < now.length
  · have hg := outs_snoc (now.take k) (now.getD k wk0)
    rw [← take_snoc now wk0 k hlt] at hg
    have hj := j2 k hlt
    have hol := outs_le (now.take k)
    have : (now.take k).length ≤ 8 := by rw [List.length_take]; omega
    generalize ho2 : outsL (now.take (k + 1)) = o2' at *
    generalize outsL (now.take k) = o at *
    by_cases ho : 0 ≤ (now.getD k wk0).out
    · rw [if_pos ⟨hj, ho⟩] at hg
      have hgl : o2'.length = o.length + 1 := by rw [hg]; simp
      (repeat' (first | (refine sq_id ?_; first | refine sq_nil ?_ | refine sq_move rfl rfl rfl ?_ | refine sq_assign rfl rfl rfl ?_ | refine sq_skip rfl rfl ?_ | refine sq_t TYok TYz rfl rfl rfl True.intro so ?_ | refine sq_f TYok TYz rfl rfl rfl True.intro so ?_ | refine sq_pure TYok TYz false rfl rfl rfl sd ?_ | refine sq_pure TYok TYz true rfl rfl rfl sd ?_ | refine sq_load TYok rfl rfl rfl (by assumption) (by rfl) (by first | exact Nat.zero_lt_one | assumption | omega) (by rfl) ?_ | refine sq_lit TYok TYz rfl rfl rfl rfl rfl rfl rfl rfl ?_ | refine sq_ixa TYok rfl rfl rfl rfl rfl rfl rfl sd ?_ | refine sq_ixr TYok rfl rfl rfl rfl rfl rfl rfl sd ?_ | refine sq_movek (v := fa) rfl rfl rfl ?_ | refine sq_assignk (v := fa) rfl rfl rfl ?_ | refine rg_movek (v := fa) rfl rfl rfl ?_ | refine rg_assignk (v := fa) rfl rfl rfl ?_) | (refine rg_id ?_; first | refine rg_fin ?_ | refine rg_move rfl rfl rfl ?_ | refine rg_assign rfl rfl rfl ?_ | refine rg_skip rfl rfl ?_ | refine rg_t TYok TYz rfl rfl rfl True.intro so ?_ | refine rg_f TYok TYz rfl rfl rfl True.intro so ?_ | refine rg_pure TYok TYz false rfl rfl rfl sd ?_ | refine rg_pure TYok TYz true rfl rfl rfl sd ?_ | refine rg_load TYok rfl rfl rfl (by assumption) (by rfl) (by first | exact Nat.zero_lt_one | assumption | omega) (by rfl) ?_ | refine rg_lit TYok TYz rfl rfl rfl rfl rfl rfl rfl rfl ?_ | refine rg_ixa TYok rfl rfl rfl rfl rfl rfl rfl sd ?_ | refine rg_ixr TYok rfl rfl rfl rfl rfl rfl rfl sd ?_ | refine sq_movek (v := fa) rfl rfl rfl ?_ | refine sq_assignk (v := fa) rfl rfl rfl ?_ | refine rg_movek (v := fa) rfl rfl rfl ?_ | refine rg_assignk (v := fa) rfl rfl rfl ?_) | refine aw_rseq ?_ | refine aw_seq ?_ | refine aw_region ?_ | refine aw_skip ?_ | refine aw_true rfl ?_ | refine aw_false rfl ?_ | refine aw_d0seq rfl (by kernel_rfl) ?_ | refine aw_d0 rfl (by kernel_rfl) ?_ | refine aw_block ?_ | refine aw_exit ?_ | refine then_ret ?_ | refine then_exit ?_ | refine then_normal ?_ | refine blk_ret ?_ | refine blk_normal ?_ | refine blk_exit ?_ | refine blk_pass rfl ?_ | refine sq_movek (v := fa) rfl rfl rfl ?_ | refine sq_assignk (v := fa) rfl rfl rfl ?_ | refine rg_movek (v := fa) rfl rfl rfl ?_ | refine rg_assignk (v := fa) rfl rfl rfl ?_))
      refine sq_app TYok TYz rfl rfl rfl rfl rfl rfl rfl (by decide) ha (.lst _ _ _ _) (by show (o.length + 1) * 8 ≤ _; omega) (by omega) fun fa' H3 ha3 ho3 hn3 => ?_
      (repeat' (first | (refine sq_id ?_; first | refine sq_nil ?_ | refine sq_move rfl rfl rfl ?_ | refine sq_assign rfl rfl rfl ?_ | refine sq_skip rfl rfl ?_ | refine sq_t TYok TYz rfl rfl rfl True.intro so ?_ | refine sq_f TYok TYz rfl rfl rfl True.intro so ?_ | refine sq_pure TYok TYz false rfl rfl rfl sd ?_ | refine sq_pure TYok TYz true rfl rfl rfl sd ?_ | refine sq_load TYok rfl rfl rfl (by assumption) (by rfl) (by first | exact Nat.zero_lt_one | assumption | omega) (by rfl) ?_ | refine sq_lit TYok TYz rfl rfl rfl rfl rfl rfl rfl rfl ?_ | refine sq_ixa TYok rfl rfl rfl rfl rfl rfl rfl sd ?_ | refine sq_ixr TYok rfl rfl rfl rfl rfl rfl rfl sd ?_ | refine sq_movek (v := fa') rfl rfl rfl ?_ | refine sq_assignk (v := fa') rfl rfl rfl ?_ | refine rg_movek (v := fa') rfl rfl rfl ?_ | refine rg_assignk (v := fa') rfl rfl rfl ?_) | (refine rg_id ?_; first | refine rg_fin ?_ | refine rg_move rfl rfl rfl ?_ | refine rg_assign rfl rfl rfl ?_ | refine rg_skip rfl rfl ?_ | refine rg_t TYok TYz rfl rfl rfl True.intro so ?_ | refine rg_f TYok TYz rfl rfl rfl True.intro so ?_ | refine rg_pure TYok TYz false rfl rfl rfl sd ?_ | refine rg_pure TYok TYz true rfl rfl rfl sd ?_ | refine rg_load TYok rfl rfl rfl (by assumption) (by rfl) (by first | exact Nat.zero_lt_one | assumption | omega) (by rfl) ?_ | refine rg_lit TYok TYz rfl rfl rfl rfl rfl rfl rfl rfl ?_ | refine rg_ixa TYok rfl rfl rfl rfl rfl rfl rfl sd ?_ | refine rg_ixr TYok rfl rfl rfl rfl rfl rfl rfl sd ?_ | refine sq_movek (v := fa') rfl rfl rfl ?_ | refine sq_assignk (v := fa') rfl rfl rfl ?_ | refine rg_movek (v := fa') rfl rfl rfl ?_ | refine rg_assignk (v := fa') rfl rfl rfl ?_) | refine aw_rseq ?_ | refine aw_seq ?_ | refine aw_region ?_ | refine aw_skip ?_ | refine aw_true rfl ?_ | refine aw_false rfl ?_ | refine aw_d0seq rfl (by kernel_rfl) ?_ | refine aw_d0 rfl (by kernel_rfl) ?_ | refine aw_block ?_ | refine aw_exit ?_ | refine then_ret ?_ | refine then_exit ?_ | refine then_normal ?_ | refine blk_ret ?_ | refine blk_normal ?_ | refine blk_exit ?_ | refine blk_pass rfl ?_ | refine sq_movek (v := fa') rfl rfl rfl ?_ | refine sq_assignk (v := fa') rfl rfl rfl ?_ | refine rg_movek (v := fa') rfl rfl rfl ?_ | refine rg_assignk (v := fa') rfl rfl rfl ?_))
      refine ⟨(k + 1, fa'), by rw [rstf_eq]; dsimp only; rw [ho2, hgl]; rfl, ⟨by simp only; omega, ?_⟩, by simp only; omega⟩
      dsimp only
      rw [ho2, hg]
      exact (by rw [List.length_append]; exact ha3 : Acc _ _ _ _ _ _ _).ext fun i hi => gather 0 (fun y => [.i y]) rfl (now.getD k wk0).out rfl i (by rw [List.length_append] at hi; exact hi)
    · rw [if_neg (fun h => ho h.2), List.append_nil] at hg
      subst hg
      (repeat' (first | (refine sq_id ?_; first | refine sq_nil ?_ | refine sq_move rfl rfl rfl ?_ | refine sq_assign rfl rfl rfl ?_ | refine sq_skip rfl rfl ?_ | refine sq_t TYok TYz rfl rfl rfl True.intro so ?_ | refine sq_f TYok TYz rfl rfl rfl True.intro so ?_ | refine sq_pure TYok TYz false rfl rfl rfl sd ?_ | refine sq_pure TYok TYz true rfl rfl rfl sd ?_ | refine sq_load TYok rfl rfl rfl (by assumption) (by rfl) (by first | exact Nat.zero_lt_one | assumption | omega) (by rfl) ?_ | refine sq_lit TYok TYz rfl rfl rfl rfl rfl rfl rfl rfl ?_ | refine sq_ixa TYok rfl rfl rfl rfl rfl rfl rfl sd ?_ | refine sq_ixr TYok rfl rfl rfl rfl rfl rfl rfl sd ?_ | refine sq_movek (v := fa) rfl rfl rfl ?_ | refine sq_assignk (v := fa) rfl rfl rfl ?_ | refine rg_movek (v := fa) rfl rfl rfl ?_ | refine rg_assignk (v := fa) rfl rfl rfl ?_) | (refine rg_id ?_; first | refine rg_fin ?_ | refine rg_move rfl rfl rfl ?_ | refine rg_assign rfl rfl rfl ?_ | refine rg_skip rfl rfl ?_ | refine rg_t TYok TYz rfl rfl rfl True.intro so ?_ | refine rg_f TYok TYz rfl rfl rfl True.intro so ?_ | refine rg_pure TYok TYz false rfl rfl rfl sd ?_ | refine rg_pure TYok TYz true rfl rfl rfl sd ?_ | refine rg_load TYok rfl rfl rfl (by assumption) (by rfl) (by first | exact Nat.zero_lt_one | assumption | omega) (by rfl) ?_ | refine rg_lit TYok TYz rfl rfl rfl rfl rfl rfl rfl rfl ?_ | refine rg_ixa TYok rfl rfl rfl rfl rfl rfl rfl sd ?_ | refine rg_ixr TYok rfl rfl rfl rfl rfl rfl rfl sd ?_ | refine sq_movek (v := fa) rfl rfl rfl ?_ | refine sq_assignk (v := fa) rfl rfl rfl ?_ | refine rg_movek (v := fa) rfl rfl rfl ?_ | refine rg_assignk (v := fa) rfl rfl rfl ?_) | refine aw_rseq ?_ | refine aw_seq ?_ | refine aw_region ?_ | refine aw_skip ?_ | refine aw_true rfl ?_ | refine aw_false rfl ?_ | refine aw_d0seq rfl (by kernel_rfl) ?_ | refine aw_d0 rfl (by kernel_rfl) ?_ | refine aw_block ?_ | refine aw_exit ?_ | refine then_ret ?_ | refine then_exit ?_ | refine then_normal ?_ | refine blk_ret ?_ | refine blk_normal ?_ | refine blk_exit ?_ | refine blk_pass rfl ?_ | refine sq_movek (v := fa) rfl rfl rfl ?_ | refine sq_assignk (v := fa) rfl rfl rfl ?_ | refine rg_movek (v := fa) rfl rfl rfl ?_ | refine rg_assignk (v := fa) rfl rfl rfl ?_))
      exact ⟨(k + 1, fa), by rw [rstf_eq]; dsimp only; rw [ho2]; rfl, ⟨by simp only; omega, by dsimp only; rw [ho2]; exact ha⟩, by simp only; omega⟩
  · have hkl : k = now.length := by omega
    subst hkl
    rw [List.take_length] at ha ⊢
    generalize outsL now = L at *
    refine aw_freeze 14 ha fun H2 ho2 => ?_
    (repeat' (first | (refine sq_id ?_; first | refine sq_nil ?_ | refine sq_move rfl rfl rfl ?_ | refine sq_assign rfl rfl rfl ?_ | refine sq_skip rfl rfl ?_ | refine sq_t TYok TYz rfl rfl rfl True.intro so ?_ | refine sq_f TYok TYz rfl rfl rfl True.intro so ?_ | refine sq_pure TYok TYz false rfl rfl rfl sd ?_ | refine sq_pure TYok TYz true rfl rfl rfl sd ?_ | refine sq_load TYok rfl rfl rfl (by assumption) (by rfl) (by first | exact Nat.zero_lt_one | assumption | omega) (by rfl) ?_ | refine sq_lit TYok TYz rfl rfl rfl rfl rfl rfl rfl rfl ?_ | refine sq_ixa TYok rfl rfl rfl rfl rfl rfl rfl sd ?_ | refine sq_ixr TYok rfl rfl rfl rfl rfl rfl rfl sd ?_) | (refine rg_id ?_; first | refine rg_fin ?_ | refine rg_move rfl rfl rfl ?_ | refine rg_assign rfl rfl rfl ?_ | refine rg_skip rfl rfl ?_ | refine rg_t TYok TYz rfl rfl rfl True.intro so ?_ | refine rg_f TYok TYz rfl rfl rfl True.intro so ?_ | refine rg_pure TYok TYz false rfl rfl rfl sd ?_ | refine rg_pure TYok TYz true rfl rfl rfl sd ?_ | refine rg_load TYok rfl rfl rfl (by assumption) (by rfl) (by first | exact Nat.zero_lt_one | assumption | omega) (by rfl) ?_ | refine rg_lit TYok TYz rfl rfl rfl rfl rfl rfl rfl rfl ?_ | refine rg_ixa TYok rfl rfl rfl rfl rfl rfl rfl sd ?_ | refine rg_ixr TYok rfl rfl rfl rfl rfl rfl rfl sd ?_) | refine aw_rseq ?_ | refine aw_seq ?_ | refine aw_region ?_ | refine aw_skip ?_ | refine aw_true rfl ?_ | refine aw_false rfl ?_ | refine aw_d0seq rfl (by kernel_rfl) ?_ | refine aw_d0 rfl (by kernel_rfl) ?_ | refine aw_block ?_ | refine aw_exit ?_ | refine then_ret ?_ | refine then_exit ?_ | refine then_normal ?_ | refine blk_ret ?_ | refine blk_normal ?_ | refine blk_exit ?_ | refine blk_pass rfl ?_))
    refine aw_for [2, 7, 8, 10, 11, 13, 14, 16, 17] (fun s : Nat × AV => [(2, ints picks), (7, .b true), (8, .i n), (10, ints ws), (11, wks now), (13, .i L.length), (14, ints L), (16, s.2), (17, .i s.1)])
      (fun s H' => s.1 ≤ L.length ∧ Acc 0 H' s.2 39 12 s.1 (fun i => wk ((pushL L).getD i wk0))) (fun s => L.length - s.1) (0, .p (.slice none 0 0)) (by rw [rstf_eq]; rfl) ⟨by omega, acc_nil _ _ _ _ _⟩ ?_
    rintro ⟨q, fb⟩ H3 ⟨hq, hb⟩
    simp only at hq hb
    by_cases hql : q < L.length
    · have hpu := push_s (L.getD q 0)
      have hpq := hpa q hql
      (repeat' (first | (refine sq_id ?_; first | refine sq_nil ?_ | refine sq_move rfl rfl rfl ?_ | refine sq_assign rfl rfl rfl ?_ | refine sq_skip rfl rfl ?_ | refine sq_t TYok TYz rfl rfl rfl True.intro so ?_ | refine sq_f TYok TYz rfl rfl rfl True.intro so ?_ | refine sq_pure TYok TYz false rfl rfl rfl sd ?_ | refine sq_pure TYok TYz true rfl rfl rfl sd ?_ | refine sq_load TYok rfl rfl rfl (by assumption) (by rfl) (by first | exact Nat.zero_lt_one | assumption | omega) (by rfl) ?_ | refine sq_lit TYok TYz rfl rfl rfl rfl rfl rfl rfl rfl ?_ | refine sq_ixa TYok rfl rfl rfl rfl rfl rfl rfl sd ?_ | refine sq_ixr TYok rfl rfl rfl rfl rfl rfl rfl sd ?_ | refine sq_movek (v := fb) rfl rfl rfl ?_ | refine sq_assignk (v := fb) rfl rfl rfl ?_ | refine rg_movek (v := fb) rfl rfl rfl ?_ | refine rg_assignk (v := fb) rfl rfl rfl ?_ | refine sq_ps rfl rfl rfl hpu (LeL.refl _) ?_) | (refine rg_id ?_; first | refine rg_fin ?_ | refine rg_move rfl rfl rfl ?_ | refine rg_assign rfl rfl rfl ?_ | refine rg_skip rfl rfl ?_ | refine rg_t TYok TYz rfl rfl rfl True.intro so ?_ | refine rg_f TYok TYz rfl rfl rfl True.intro so ?_ | refine rg_pure TYok TYz false rfl rfl rfl sd ?_ | refine rg_pure TYok TYz true rfl rfl rfl sd ?_ | refine rg_load TYok rfl rfl rfl (by assumption) (by rfl) (by first | exact Nat.zero_lt_one | assumption | omega) (by rfl) ?_ | refine rg_lit TYok TYz rfl rfl rfl rfl rfl rfl rfl rfl ?_ | refine rg_ixa TYok rfl rfl rfl rfl rfl rfl rfl sd ?_ | refine rg_ixr TYok rfl rfl rfl rfl rfl rfl rfl sd ?_ | refine sq_movek (v := fb) rfl rfl rfl ?_ | refine sq_assignk (v := fb) rfl rfl rfl ?_ | refine rg_movek (v := fb) rfl rfl rfl ?_ | refine rg_assignk (v := fb) rfl rfl rfl ?_ | refine sq_ps rfl rfl rfl hpu (LeL.refl _) ?_) | refine aw_rseq ?_ | refine aw_seq ?_ | refine aw_region ?_ | refine aw_skip ?_ | refine aw_true rfl ?_ | refine aw_false rfl ?_ | refine aw_d0seq rfl (by kernel_rfl) ?_ | refine aw_d0 rfl (by kernel_rfl) ?_ | refine aw_block ?_ | refine aw_exit ?_ | refine then_ret ?_ | refine then_exit ?_ | refine then_normal ?_ | refine blk_ret ?_ | refine blk_normal ?_ | refine blk_exit ?_ | refine blk_pass rfl ?_ | refine sq_movek (v := fb) rfl rfl rfl ?_ | refine sq_assignk (v := fb) rfl rfl rfl ?_ | refine rg_movek (v := fb) rfl rfl rfl ?_ | refine rg_assignk (v := fb) rfl rfl rfl ?_ | refine sq_ps rfl rfl rfl hpu (LeL.refl _) ?_))
      refine sq_app TYok TYz rfl rfl rfl rfl rfl rfl rfl (by decide) hb (.lst _ _ _ _) (by show (q + 1) * 96 ≤ _; omega) (by omega) fun fb' H4 hb4 ho4 hn4 => ?_
      (repeat' (first | (refine sq_id ?_; first | refine sq_nil ?_ | refine sq_move rfl rfl rfl ?_ | refine sq_assign rfl rfl rfl ?_ | refine sq_skip rfl rfl ?_ | refine sq_t TYok TYz rfl rfl rfl True.intro so ?_ | refine sq_f TYok TYz rfl rfl rfl True.intro so ?_ | refine sq_pure TYok TYz false rfl rfl rfl sd ?_ | refine sq_pure TYok TYz true rfl rfl rfl sd ?_ | refine sq_load TYok rfl rfl rfl (by assumption) (by rfl) (by first | exact Nat.zero_lt_one | assumption | omega) (by rfl) ?_ | refine sq_lit TYok TYz rfl rfl rfl rfl rfl rfl rfl rfl ?_ | refine sq_ixa TYok rfl rfl rfl rfl rfl rfl rfl sd ?_ | refine sq_ixr TYok rfl rfl rfl rfl rfl rfl rfl sd ?_ | refine sq_movek (v := fb') rfl rfl rfl ?_ | refine sq_assignk (v := fb') rfl rfl rfl ?_ | refine rg_movek (v := fb') rfl rfl rfl ?_ | refine rg_assignk (v := fb') rfl rfl rfl ?_) | (refine rg_id ?_; first | refine rg_fin ?_ | refine rg_move rfl rfl rfl ?_ | refine rg_assign rfl rfl rfl ?_ | refine rg_skip rfl rfl ?_ | refine rg_t TYok TYz rfl rfl rfl True.intro so ?_ | refine rg_f TYok TYz rfl rfl rfl True.intro so ?_ | refine rg_pure TYok TYz false rfl rfl rfl sd ?_ | refine rg_pure TYok TYz true rfl rfl rfl sd ?_ | refine rg_load TYok rfl rfl rfl (by assumption) (by rfl) (by first | exact Nat.zero_lt_one | assumption | omega) (by rfl) ?_ | refine rg_lit TYok TYz rfl rfl rfl rfl rfl rfl rfl rfl ?_ | refine rg_ixa TYok rfl rfl rfl rfl rfl rfl rfl sd ?_ | refine rg_ixr TYok rfl rfl rfl rfl rfl rfl rfl sd ?_ | refine sq_movek (v := fb') rfl rfl rfl ?_ | refine sq_assignk (v := fb') rfl rfl rfl ?_ | refine rg_movek (v := fb') rfl rfl rfl ?_ | refine rg_assignk (v := fb') rfl rfl rfl ?_) | refine aw_rseq ?_ | refine aw_seq ?_ | refine aw_region ?_ | refine aw_skip ?_ | refine aw_true rfl ?_ | refine aw_false rfl ?_ | refine aw_d0seq rfl (by kernel_rfl) ?_ | refine aw_d0 rfl (by kernel_rfl) ?_ | refine aw_block ?_ | refine aw_exit ?_ | refine then_ret ?_ | refine then_exit ?_ | refine then_normal ?_ | refine blk_ret ?_ | refine blk_normal ?_ | refine blk_exit ?_ | refine blk_pass rfl ?_ | refine sq_movek (v := fb') rfl rfl rfl ?_ | refine sq_assignk (v := fb') rfl rfl rfl ?_ | refine rg_movek (v := fb') rfl rfl rfl ?_ | refine rg_assignk (v := fb') rfl rfl rfl ?_))
      refine ⟨(q + 1, fb'), by rw [rstf_eq]; rfl, ⟨by simp only; omega, ?_⟩, by simp only; omega⟩
      dsimp only
      refine hb4.ext fun i hi => ?_
      by_cases h : i < q
      · rw [if_pos h]
      · have hik : i = q := by omega
        subst hik
        rw [if_neg h, Nat.sub_self, hpq]; rfl
    · have hqe : q = (pushL L).length := by omega
      subst hqe
      refine aw_freeze 16 hb fun H4 ho4 => ?_
      have d1' : IntKind.i64.wrap ((ws.getD 0 0).tdiv 1048576) = L.length := by rw [d1]; exact wrap_small (by omega)
      have d2' : IntKind.i64.wrap ((ws2.getD 0 0).tdiv 1048576) = 2 * L.length := by rw [d2]; exact wrap_small (by omega)
      (repeat' (first | (refine sq_id ?_; first | refine sq_nil ?_ | refine sq_move rfl rfl rfl ?_ | refine sq_assign rfl rfl rfl ?_ | refine sq_skip rfl rfl ?_ | refine sq_t TYok TYz rfl rfl rfl True.intro so ?_ | refine sq_f TYok TYz rfl rfl rfl True.intro so ?_ | refine sq_pure TYok TYz false rfl rfl rfl sd ?_ | refine sq_pure TYok TYz true rfl rfl rfl sd ?_ | refine sq_load TYok rfl rfl rfl (by assumption) (by rfl) (by first | exact Nat.zero_lt_one | assumption | omega) (by rfl) ?_ | refine sq_lit TYok TYz rfl rfl rfl rfl rfl rfl rfl rfl ?_ | refine sq_ixa TYok rfl rfl rfl rfl rfl rfl rfl sd ?_ | refine sq_ixr TYok rfl rfl rfl rfl rfl rfl rfl sd ?_ | refine sq_ps rfl rfl rfl hR2 (LeL.refl _) ?_ | refine sq_ps rfl rfl rfl hFs (LeL.refl _) ?_) | (refine rg_id ?_; first | refine rg_fin ?_ | refine rg_move rfl rfl rfl ?_ | refine rg_assign rfl rfl rfl ?_ | refine rg_skip rfl rfl ?_ | refine rg_t TYok TYz rfl rfl rfl True.intro so ?_ | refine rg_f TYok TYz rfl rfl rfl True.intro so ?_ | refine rg_pure TYok TYz false rfl rfl rfl sd ?_ | refine rg_pure TYok TYz true rfl rfl rfl sd ?_ | refine rg_load TYok rfl rfl rfl (by assumption) (by rfl) (by first | exact Nat.zero_lt_one | assumption | omega) (by rfl) ?_ | refine rg_lit TYok TYz rfl rfl rfl rfl rfl rfl rfl rfl ?_ | refine rg_ixa TYok rfl rfl rfl rfl rfl rfl rfl sd ?_ | refine rg_ixr TYok rfl rfl rfl rfl rfl rfl rfl sd ?_ | refine sq_ps rfl rfl rfl hR2 (LeL.refl _) ?_ | refine sq_ps rfl rfl rfl hFs (LeL.refl _) ?_) | refine aw_rseq ?_ | refine aw_seq ?_ | refine aw_region ?_ | refine aw_skip ?_ | refine aw_true rfl ?_ | refine aw_false rfl ?_ | refine aw_d0seq rfl (by kernel_rfl) ?_ | refine aw_d0 rfl (by kernel_rfl) ?_ | refine aw_block ?_ | refine aw_exit ?_ | refine then_ret ?_ | refine then_exit ?_ | refine then_normal ?_ | refine blk_ret ?_ | refine blk_normal ?_ | refine blk_exit ?_ | refine blk_pass rfl ?_ | refine sq_ps rfl rfl rfl hR2 (LeL.refl _) ?_ | refine sq_ps rfl rfl rfl hFs (LeL.refl _) ?_))
      ((try refine aw_ret ?_); (repeat (first | refine then_ret ?_ | refine blk_ret ?_)); refine fin_t True.intro rfl rfl ?_)
      rfl
end Go.Proofs.Ytjdokpdnehkjpaa.Ab
