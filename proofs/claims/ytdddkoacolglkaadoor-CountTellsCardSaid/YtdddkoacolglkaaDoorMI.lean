/- The bits of twice as much: the law. -/
import Derived.Test.YtdddkoacolglkaaDoorMH
namespace Go.Proofs.YtdddkoacolglkaaDoor.Ab
open Go Go.RowKit
theorem bitsL_double (X k : Nat) : bitsL (2 * X) (k + 1) = (bitsL X k).map (· + 1) := by
  have h0 : (2 * X).testBit 0 = false := by rw [Nat.testBit_zero]; simp
  have hs : ∀ i, (2 * X).testBit (i + 1) = X.testBit i := fun i => by rw [Nat.testBit_succ, Nat.mul_div_cancel_left X (by decide)]
  unfold bitsL
  rw [List.range_succ_eq_map, List.filter_cons, h0]
  simp only [Bool.false_eq_true, if_false]
  rw [List.filter_map, List.map_map, List.map_map]
  have e : ((fun i => (2 * X).testBit i) ∘ Nat.succ) = fun i => X.testBit i := funext hs
  rw [e]
  rfl
theorem bitsL_double1 (X k : Nat) : bitsL (2 * X + 1) (k + 1) = 0 :: (bitsL X k).map (· + 1) := by
  have h0 : (2 * X + 1).testBit 0 = true := by rw [Nat.testBit_zero]; simp
  have hs : ∀ i, (2 * X + 1).testBit (i + 1) = X.testBit i := fun i => by rw [Nat.testBit_succ, show (2 * X + 1) / 2 = X by omega]
  unfold bitsL
  rw [List.range_succ_eq_map, List.filter_cons, h0]
  simp only [if_true]
  rw [List.filter_map, List.map_cons, List.map_map, List.map_map]
  have e : ((fun i => (2 * X + 1).testBit i) ∘ Nat.succ) = fun i => X.testBit i := funext hs
  rw [e]
  rfl
theorem bitsL_top (X k : Nat) (h : X < 2 ^ k) : bitsL X (k + 1) = bitsL X k := by
  rw [bitsL_succ, Nat.testBit_lt_two_pow h]; rfl
theorem mod_succ (a k : Nat) : a % 2 ^ (k + 1) = a % 2 ^ k + if a.testBit k then 2 ^ k else 0 := by
  rw [Nat.pow_succ, Nat.mod_mul, Nat.testBit_eq_decide_div_mod_eq]
  rcases Nat.mod_two_eq_zero_or_one (a / 2 ^ k) with h | h
  · rw [h]; simp
  · rw [h]; simp
theorem sumP_bits (a : Nat) : ∀ k, sumP (bitsL a k) = ((a % 2 ^ k : Nat) : Int)
  | 0 => by rw [Nat.pow_zero, Nat.mod_one]; rfl
  | k + 1 => by
    rw [bitsL_succ, mod_succ]
    have ih := sumP_bits a k
    cases h : a.testBit k
    · simp only [Bool.false_eq_true, if_false]
      rw [ih]; simp
    · simp only [if_true]
      rw [sumP_app, ih]
      have e : sumP [(k : Int)] = p2 k := by unfold sumP; simp
      rw [e]
      unfold p2
      omega
theorem bits_in (a k : Nat) : ∀ i ∈ bitsL a k, 0 ≤ i ∧ i < k := by
  intro i hi
  unfold bitsL at hi
  obtain ⟨j, hj, rfl⟩ := List.mem_map.1 hi
  have := List.mem_range.1 (List.mem_filter.1 hj).1
  omega
theorem sumV_bits (a : Nat) (ha : a ≤ 4611686018427387903) : sumV (bitsL a 62) = ((a : Int), 0) := by
  have h := sumP_bits a 62
  rw [Nat.mod_eq_of_lt (by omega)] at h
  have := sumL_ok (bitsL a 62) (fun i hi => by have := bits_in a 62 i hi; omega) 0 (by omega)
  rw [Int.zero_add, h] at this
  exact this
theorem sumP_up (l : List Int) (h : ∀ i ∈ l, 0 ≤ i) : sumP (l.map (· + 1)) = 2 * sumP l := by
  induction l with
  | nil => rfl
  | cons i l ih =>
    have hi := h i (List.mem_cons_self ..)
    have e1 : sumP ((i :: l).map (· + 1)) = p2 (i + 1).toNat + sumP (l.map (· + 1)) := rfl
    have e2 : sumP (i :: l) = p2 i.toNat + sumP l := rfl
    rw [e1, e2, ih fun x hx => h x (List.mem_cons_of_mem _ hx), show (i + 1).toNat = i.toNat + 1 by omega, p2_succ]
    omega
set_option maxHeartbeats 4000000 in
theorem ctwice_s (c : Int) (hc : I64 c) : SC true Tryd.prog 8 [.i c] [] (fun r _ => r = .b true) := by
  refine sc_in TYok Tryd.func8 (by kernel_rfl) Tryd.ntmps8 rfl rfl rfl ?_
  obtain ⟨x, hP, _, x0, x1⟩ := pick_k c 1152921504606846976 hc (by omega)
  obtain ⟨X, rfl⟩ := Int.eq_ofNat_of_zero_le x0
  have hX : X < 2 ^ 60 := by omega
  have hX2 : X < 2 ^ 61 := by omega
  have hB := bits_s X (by omega)
  have hB2 := bits_s (2 * X) (by omega)
  have hB3 := bits_s (2 * X + 1) (by omega)
  have t1 := bitsL_top X 61 hX2
  have s1 := sumP_bits X 62
  rw [Nat.mod_eq_of_lt (by omega)] at s1
  have hb := bits_in X 62
  have hb60 := bits_in X 60
  have t2 := bitsL_top X 60 hX
  rw [bitsL_double, ← t1, show ((2 * X : Nat) : Int) = 2 * (X : Int) by omega] at hB2
  rw [bitsL_double1, ← t1, show ((2 * X + 1 : Nat) : Int) = 2 * (X : Int) + 1 by omega] at hB3
  rw [← t2, ← t1] at hb60
  have hl := bitsL_le X 62
  clear t1 t2
  generalize bitsL X 62 = L at *
  obtain ⟨U, hU⟩ : ∃ U : List Int, U = L.map (· + 1) := ⟨_, rfl⟩
  have ul : U.length = L.length := by rw [hU, List.length_map]
  have uat : ∀ k, k < L.length → U.getD k 0 = L.getD k 0 + 1 := fun k hk => by
    rw [hU, List.getD_eq_getElem?_getD, List.getElem?_map, List.getElem?_eq_getElem hk, List.getD_eq_getElem?_getD, List.getElem?_eq_getElem hk]; rfl
  have hsv : sumV (0 :: U) = (2 * (X : Int) + 1, 0) := by
    have e : sumP (0 :: U) = 1 + sumP U := rfl
    have e2 := sumP_up L fun i hi => (hb i hi).1
    rw [← hU, s1] at e2
    have := sumL_ok (0 :: U) (fun i hi => by
      rcases List.mem_cons.1 hi with rfl | hi
      · omega
      · rw [hU] at hi
        obtain ⟨j, hj, rfl⟩ := List.mem_map.1 hi
        have := hb60 j hj
        omega) 0 (by omega)
    rw [Int.zero_add, e, e2] at this
    rw [sumV, this]
    congr 1
    omega
  rw [← hU] at hB2 hB3
  have hS := sum_s (0 :: U) (by simp; omega)
  rw [hsv] at hS
  have hI := ints_t U (by omega)
  have hat : ∀ k, k < L.length → 0 ≤ L.getD k 0 ∧ L.getD k 0 < 62 := fun k hk => by
    have : L.getD k 0 ∈ L := by
      rw [List.getD_eq_getElem?_getD, List.getElem?_eq_getElem hk]; exact List.getElem_mem hk
    exact hb _ this
  clear hsv s1 hb hb60
  (repeat' (first | (refine sq_id ?_; first | refine sq_nil ?_ | refine sq_move rfl rfl rfl ?_ | refine sq_assign rfl rfl rfl ?_ | refine sq_skip rfl rfl ?_ | refine sq_t TYok TYz rfl rfl rfl True.intro so ?_ | refine sq_f TYok TYz rfl rfl rfl True.intro so ?_ | refine sq_pure TYok TYz false rfl rfl rfl sd ?_ | refine sq_pure TYok TYz true rfl rfl rfl sd ?_ | refine sq_load TYok rfl rfl rfl (by assumption) (by rfl) (by first | exact Nat.zero_lt_one | assumption | omega) (by rfl) ?_ | refine sq_lit TYok TYz rfl rfl rfl rfl rfl rfl rfl rfl ?_ | refine sq_ixa TYok rfl rfl rfl rfl rfl rfl rfl sd ?_ | refine sq_ixr TYok rfl rfl rfl rfl rfl rfl rfl sd ?_ | refine sq_ps rfl rfl rfl awake_s .nil ?_ | refine sq_ps rfl rfl rfl hP (LeL.refl _) ?_ | refine sq_ps rfl rfl rfl hB (LeL.refl _) ?_) | (refine rg_id ?_; first | refine rg_fin ?_ | refine rg_move rfl rfl rfl ?_ | refine rg_assign rfl rfl rfl ?_ | refine rg_skip rfl rfl ?_ | refine rg_t TYok TYz rfl rfl rfl True.intro so ?_ | refine rg_f TYok TYz rfl rfl rfl True.intro so ?_ | refine rg_pure TYok TYz false rfl rfl rfl sd ?_ | refine rg_pure TYok TYz true rfl rfl rfl sd ?_ | refine rg_load TYok rfl rfl rfl (by assumption) (by rfl) (by first | exact Nat.zero_lt_one | assumption | omega) (by rfl) ?_ | refine rg_lit TYok TYz rfl rfl rfl rfl rfl rfl rfl rfl ?_ | refine rg_ixa TYok rfl rfl rfl rfl rfl rfl rfl sd ?_ | refine rg_ixr TYok rfl rfl rfl rfl rfl rfl rfl sd ?_ | refine sq_ps rfl rfl rfl awake_s .nil ?_ | refine sq_ps rfl rfl rfl hP (LeL.refl _) ?_ | refine sq_ps rfl rfl rfl hB (LeL.refl _) ?_) | refine aw_rseq ?_ | refine aw_seq ?_ | refine aw_region ?_ | refine aw_skip ?_ | refine aw_true rfl ?_ | refine aw_false rfl ?_ | refine aw_d0seq rfl (by kernel_rfl) ?_ | refine aw_d0 rfl (by kernel_rfl) ?_ | refine aw_block ?_ | refine aw_exit ?_ | refine then_ret ?_ | refine then_exit ?_ | refine then_normal ?_ | refine blk_ret ?_ | refine blk_normal ?_ | refine blk_exit ?_ | refine blk_pass rfl ?_ | refine sq_ps rfl rfl rfl awake_s .nil ?_ | refine sq_ps rfl rfl rfl hP (LeL.refl _) ?_ | refine sq_ps rfl rfl rfl hB (LeL.refl _) ?_))
  refine aw_for [3, 4, 5, 6, 7] (fun s : Nat × AV => [(3, .b true), (4, .i X), (5, ints L), (6, s.2), (7, .i s.1)])
    (fun s H' => s.1 ≤ L.length ∧ Acc 0 H' s.2 3 1 s.1 (fun i => [.i (U.getD i 0)])) (fun s => L.length - s.1) (0, .p (.slice none 0 0)) (by rw [rstf_eq]; rfl) ⟨by omega, acc_nil _ _ _ _ _⟩ ?_
  rintro ⟨k, fa⟩ H1 ⟨hk, ha⟩
  simp only at hk ha
  by_cases hlt : k < L.length
  · have hua := uat k hlt
    have h2 := hat k hlt
    have h2' : 0 ≤ L.getD (badd 0 k) 0 ∧ L.getD (badd 0 k) 0 < 62 := h2
    (repeat' (first | (refine sq_id ?_; first | refine sq_nil ?_ | refine sq_move rfl rfl rfl ?_ | refine sq_assign rfl rfl rfl ?_ | refine sq_skip rfl rfl ?_ | refine sq_t TYok TYz rfl rfl rfl True.intro so ?_ | refine sq_f TYok TYz rfl rfl rfl True.intro so ?_ | refine sq_pure TYok TYz false rfl rfl rfl sd ?_ | refine sq_pure TYok TYz true rfl rfl rfl sd ?_ | refine sq_load TYok rfl rfl rfl (by assumption) (by rfl) (by first | exact Nat.zero_lt_one | assumption | omega) (by rfl) ?_ | refine sq_lit TYok TYz rfl rfl rfl rfl rfl rfl rfl rfl ?_ | refine sq_ixa TYok rfl rfl rfl rfl rfl rfl rfl sd ?_ | refine sq_ixr TYok rfl rfl rfl rfl rfl rfl rfl sd ?_ | refine sq_movek (v := fa) rfl rfl rfl ?_ | refine sq_assignk (v := fa) rfl rfl rfl ?_ | refine rg_movek (v := fa) rfl rfl rfl ?_ | refine rg_assignk (v := fa) rfl rfl rfl ?_) | (refine rg_id ?_; first | refine rg_fin ?_ | refine rg_move rfl rfl rfl ?_ | refine rg_assign rfl rfl rfl ?_ | refine rg_skip rfl rfl ?_ | refine rg_t TYok TYz rfl rfl rfl True.intro so ?_ | refine rg_f TYok TYz rfl rfl rfl True.intro so ?_ | refine rg_pure TYok TYz false rfl rfl rfl sd ?_ | refine rg_pure TYok TYz true rfl rfl rfl sd ?_ | refine rg_load TYok rfl rfl rfl (by assumption) (by rfl) (by first | exact Nat.zero_lt_one | assumption | omega) (by rfl) ?_ | refine rg_lit TYok TYz rfl rfl rfl rfl rfl rfl rfl rfl ?_ | refine rg_ixa TYok rfl rfl rfl rfl rfl rfl rfl sd ?_ | refine rg_ixr TYok rfl rfl rfl rfl rfl rfl rfl sd ?_ | refine sq_movek (v := fa) rfl rfl rfl ?_ | refine sq_assignk (v := fa) rfl rfl rfl ?_ | refine rg_movek (v := fa) rfl rfl rfl ?_ | refine rg_assignk (v := fa) rfl rfl rfl ?_) | refine aw_rseq ?_ | refine aw_seq ?_ | refine aw_region ?_ | refine aw_skip ?_ | refine aw_true rfl ?_ | refine aw_false rfl ?_ | refine aw_d0seq rfl (by kernel_rfl) ?_ | refine aw_d0 rfl (by kernel_rfl) ?_ | refine aw_block ?_ | refine aw_exit ?_ | refine then_ret ?_ | refine then_exit ?_ | refine then_normal ?_ | refine blk_ret ?_ | refine blk_normal ?_ | refine blk_exit ?_ | refine blk_pass rfl ?_ | refine sq_movek (v := fa) rfl rfl rfl ?_ | refine sq_assignk (v := fa) rfl rfl rfl ?_ | refine rg_movek (v := fa) rfl rfl rfl ?_ | refine rg_assignk (v := fa) rfl rfl rfl ?_))
    refine sq_app TYok TYz rfl rfl rfl rfl rfl rfl rfl (by decide) ha (.lst _ _ _ _) (by show (k + 1) * 8 ≤ _; omega) (by omega) fun fa' H3 ha3 ho3 hn3 => ?_
    (repeat' (first | (refine sq_id ?_; first | refine sq_nil ?_ | refine sq_move rfl rfl rfl ?_ | refine sq_assign rfl rfl rfl ?_ | refine sq_skip rfl rfl ?_ | refine sq_t TYok TYz rfl rfl rfl True.intro so ?_ | refine sq_f TYok TYz rfl rfl rfl True.intro so ?_ | refine sq_pure TYok TYz false rfl rfl rfl sd ?_ | refine sq_pure TYok TYz true rfl rfl rfl sd ?_ | refine sq_load TYok rfl rfl rfl (by assumption) (by rfl) (by first | exact Nat.zero_lt_one | assumption | omega) (by rfl) ?_ | refine sq_lit TYok TYz rfl rfl rfl rfl rfl rfl rfl rfl ?_ | refine sq_ixa TYok rfl rfl rfl rfl rfl rfl rfl sd ?_ | refine sq_ixr TYok rfl rfl rfl rfl rfl rfl rfl sd ?_ | refine sq_movek (v := fa') rfl rfl rfl ?_ | refine sq_assignk (v := fa') rfl rfl rfl ?_ | refine rg_movek (v := fa') rfl rfl rfl ?_ | refine rg_assignk (v := fa') rfl rfl rfl ?_) | (refine rg_id ?_; first | refine rg_fin ?_ | refine rg_move rfl rfl rfl ?_ | refine rg_assign rfl rfl rfl ?_ | refine rg_skip rfl rfl ?_ | refine rg_t TYok TYz rfl rfl rfl True.intro so ?_ | refine rg_f TYok TYz rfl rfl rfl True.intro so ?_ | refine rg_pure TYok TYz false rfl rfl rfl sd ?_ | refine rg_pure TYok TYz true rfl rfl rfl sd ?_ | refine rg_load TYok rfl rfl rfl (by assumption) (by rfl) (by first | exact Nat.zero_lt_one | assumption | omega) (by rfl) ?_ | refine rg_lit TYok TYz rfl rfl rfl rfl rfl rfl rfl rfl ?_ | refine rg_ixa TYok rfl rfl rfl rfl rfl rfl rfl sd ?_ | refine rg_ixr TYok rfl rfl rfl rfl rfl rfl rfl sd ?_ | refine sq_movek (v := fa') rfl rfl rfl ?_ | refine sq_assignk (v := fa') rfl rfl rfl ?_ | refine rg_movek (v := fa') rfl rfl rfl ?_ | refine rg_assignk (v := fa') rfl rfl rfl ?_) | refine aw_rseq ?_ | refine aw_seq ?_ | refine aw_region ?_ | refine aw_skip ?_ | refine aw_true rfl ?_ | refine aw_false rfl ?_ | refine aw_d0seq rfl (by kernel_rfl) ?_ | refine aw_d0 rfl (by kernel_rfl) ?_ | refine aw_block ?_ | refine aw_exit ?_ | refine then_ret ?_ | refine then_exit ?_ | refine then_normal ?_ | refine blk_ret ?_ | refine blk_normal ?_ | refine blk_exit ?_ | refine blk_pass rfl ?_ | refine sq_movek (v := fa') rfl rfl rfl ?_ | refine sq_assignk (v := fa') rfl rfl rfl ?_ | refine rg_movek (v := fa') rfl rfl rfl ?_ | refine rg_assignk (v := fa') rfl rfl rfl ?_))
    refine ⟨(k + 1, fa'), by rw [rstf_eq]; rfl, ⟨by simp only; omega, ?_⟩, by simp only; omega⟩
    refine ha3.ext fun i hi => ?_
    by_cases h : i < k
    · rw [if_pos h]
    · have hik : i = k := by omega
      subst hik
      rw [if_neg h, Nat.sub_self, hua]; rfl
  · have hkl : k = U.length := by omega
    subst hkl
    refine aw_freeze 6 ha fun H2 ho2 => ?_
    (repeat' (first | (refine sq_id ?_; first | refine sq_nil ?_ | refine sq_move rfl rfl rfl ?_ | refine sq_assign rfl rfl rfl ?_ | refine sq_skip rfl rfl ?_ | refine sq_t TYok TYz rfl rfl rfl True.intro so ?_ | refine sq_f TYok TYz rfl rfl rfl True.intro so ?_ | refine sq_pure TYok TYz false rfl rfl rfl sd ?_ | refine sq_pure TYok TYz true rfl rfl rfl sd ?_ | refine sq_load TYok rfl rfl rfl (by assumption) (by rfl) (by first | exact Nat.zero_lt_one | assumption | omega) (by rfl) ?_ | refine sq_ixa TYok rfl rfl rfl rfl rfl rfl rfl sd ?_ | refine sq_ixr TYok rfl rfl rfl rfl rfl rfl rfl sd ?_) | (refine rg_id ?_; first | refine rg_fin ?_ | refine rg_move rfl rfl rfl ?_ | refine rg_assign rfl rfl rfl ?_ | refine rg_skip rfl rfl ?_ | refine rg_t TYok TYz rfl rfl rfl True.intro so ?_ | refine rg_f TYok TYz rfl rfl rfl True.intro so ?_ | refine rg_pure TYok TYz false rfl rfl rfl sd ?_ | refine rg_pure TYok TYz true rfl rfl rfl sd ?_ | refine rg_load TYok rfl rfl rfl (by assumption) (by rfl) (by first | exact Nat.zero_lt_one | assumption | omega) (by rfl) ?_ | refine rg_ixa TYok rfl rfl rfl rfl rfl rfl rfl sd ?_ | refine rg_ixr TYok rfl rfl rfl rfl rfl rfl rfl sd ?_) | refine aw_rseq ?_ | refine aw_seq ?_ | refine aw_region ?_ | refine aw_skip ?_ | refine aw_true rfl ?_ | refine aw_false rfl ?_ | refine aw_d0seq rfl (by kernel_rfl) ?_ | refine aw_d0 rfl (by kernel_rfl) ?_ | refine aw_block ?_ | refine aw_exit ?_ | refine then_ret ?_ | refine then_exit ?_ | refine then_normal ?_ | refine blk_ret ?_ | refine blk_normal ?_ | refine blk_exit ?_ | refine blk_pass rfl ?_))
    refine sq_litb TYok TYz rfl rfl rfl rfl rfl rfl rfl rfl fun H3 hb3 ho3 hl3 => ?_
    (repeat' (first | (refine sq_id ?_; first | refine sq_nil ?_ | refine sq_move rfl rfl rfl ?_ | refine sq_assign rfl rfl rfl ?_ | refine sq_skip rfl rfl ?_ | refine sq_t TYok TYz rfl rfl rfl True.intro so ?_ | refine sq_f TYok TYz rfl rfl rfl True.intro so ?_ | refine sq_pure TYok TYz false rfl rfl rfl sd ?_ | refine sq_pure TYok TYz true rfl rfl rfl sd ?_ | refine sq_load TYok rfl rfl rfl (by assumption) (by rfl) (by first | exact Nat.zero_lt_one | assumption | omega) (by rfl) ?_ | refine sq_lit TYok TYz rfl rfl rfl rfl rfl rfl rfl rfl ?_ | refine sq_ixa TYok rfl rfl rfl rfl rfl rfl rfl sd ?_ | refine sq_ixr TYok rfl rfl rfl rfl rfl rfl rfl sd ?_) | (refine rg_id ?_; first | refine rg_fin ?_ | refine rg_move rfl rfl rfl ?_ | refine rg_assign rfl rfl rfl ?_ | refine rg_skip rfl rfl ?_ | refine rg_t TYok TYz rfl rfl rfl True.intro so ?_ | refine rg_f TYok TYz rfl rfl rfl True.intro so ?_ | refine rg_pure TYok TYz false rfl rfl rfl sd ?_ | refine rg_pure TYok TYz true rfl rfl rfl sd ?_ | refine rg_load TYok rfl rfl rfl (by assumption) (by rfl) (by first | exact Nat.zero_lt_one | assumption | omega) (by rfl) ?_ | refine rg_lit TYok TYz rfl rfl rfl rfl rfl rfl rfl rfl ?_ | refine rg_ixa TYok rfl rfl rfl rfl rfl rfl rfl sd ?_ | refine rg_ixr TYok rfl rfl rfl rfl rfl rfl rfl sd ?_) | refine aw_rseq ?_ | refine aw_seq ?_ | refine aw_region ?_ | refine aw_skip ?_ | refine aw_true rfl ?_ | refine aw_false rfl ?_ | refine aw_d0seq rfl (by kernel_rfl) ?_ | refine aw_d0 rfl (by kernel_rfl) ?_ | refine aw_block ?_ | refine aw_exit ?_ | refine then_ret ?_ | refine then_exit ?_ | refine then_normal ?_ | refine blk_ret ?_ | refine blk_normal ?_ | refine blk_exit ?_ | refine blk_pass rfl ?_))
    refine sq_appz TYok TYz rfl rfl rfl rfl rfl rfl rfl (by decide) (.inr ⟨_, _, Nat.zero_le _, rfl, hb3, rfl, rfl, rfl, fun _ _ => rfl⟩) (.lst _ _ _ _) (by show (1 + U.length) * 8 ≤ _; omega) (by show 1 + U.length ≤ _; omega) fun H4 ho4 => ?_
    (repeat' (first | (refine sq_id ?_; first | refine sq_nil ?_ | refine sq_move rfl rfl rfl ?_ | refine sq_assign rfl rfl rfl ?_ | refine sq_skip rfl rfl ?_ | refine sq_t TYok TYz rfl rfl rfl True.intro so ?_ | refine sq_f TYok TYz rfl rfl rfl True.intro so ?_ | refine sq_pure TYok TYz false rfl rfl rfl sd ?_ | refine sq_pure TYok TYz true rfl rfl rfl sd ?_ | refine sq_load TYok rfl rfl rfl (by assumption) (by rfl) (by first | exact Nat.zero_lt_one | assumption | omega) (by rfl) ?_ | refine sq_lit TYok TYz rfl rfl rfl rfl rfl rfl rfl rfl ?_ | refine sq_ixa TYok rfl rfl rfl rfl rfl rfl rfl sd ?_ | refine sq_ixr TYok rfl rfl rfl rfl rfl rfl rfl sd ?_ | refine sq_ps rfl rfl rfl hS (.cons (le_lst' (by rw [List.length_cons]; omega) (fun h => h) fun i hi => by rcases i with _ | i <;> rfl) .nil) ?_ | refine sq_ps rfl rfl rfl hB2 (LeL.refl _) ?_ | refine sq_ps rfl rfl rfl hB3 (LeL.refl _) ?_ | refine sq_ps rfl rfl rfl hI (LeL.refl _) ?_) | (refine rg_id ?_; first | refine rg_fin ?_ | refine rg_move rfl rfl rfl ?_ | refine rg_assign rfl rfl rfl ?_ | refine rg_skip rfl rfl ?_ | refine rg_t TYok TYz rfl rfl rfl True.intro so ?_ | refine rg_f TYok TYz rfl rfl rfl True.intro so ?_ | refine rg_pure TYok TYz false rfl rfl rfl sd ?_ | refine rg_pure TYok TYz true rfl rfl rfl sd ?_ | refine rg_load TYok rfl rfl rfl (by assumption) (by rfl) (by first | exact Nat.zero_lt_one | assumption | omega) (by rfl) ?_ | refine rg_lit TYok TYz rfl rfl rfl rfl rfl rfl rfl rfl ?_ | refine rg_ixa TYok rfl rfl rfl rfl rfl rfl rfl sd ?_ | refine rg_ixr TYok rfl rfl rfl rfl rfl rfl rfl sd ?_ | refine sq_ps rfl rfl rfl hS (.cons (le_lst' (by rw [List.length_cons]; omega) (fun h => h) fun i hi => by rcases i with _ | i <;> rfl) .nil) ?_ | refine sq_ps rfl rfl rfl hB2 (LeL.refl _) ?_ | refine sq_ps rfl rfl rfl hB3 (LeL.refl _) ?_ | refine sq_ps rfl rfl rfl hI (LeL.refl _) ?_) | refine aw_rseq ?_ | refine aw_seq ?_ | refine aw_region ?_ | refine aw_skip ?_ | refine aw_true rfl ?_ | refine aw_false rfl ?_ | refine aw_d0seq rfl (by kernel_rfl) ?_ | refine aw_d0 rfl (by kernel_rfl) ?_ | refine aw_block ?_ | refine aw_exit ?_ | refine then_ret ?_ | refine then_exit ?_ | refine then_normal ?_ | refine blk_ret ?_ | refine blk_normal ?_ | refine blk_exit ?_ | refine blk_pass rfl ?_ | refine sq_ps rfl rfl rfl hS (.cons (le_lst' (by rw [List.length_cons]; omega) (fun h => h) fun i hi => by rcases i with _ | i <;> rfl) .nil) ?_ | refine sq_ps rfl rfl rfl hB2 (LeL.refl _) ?_ | refine sq_ps rfl rfl rfl hB3 (LeL.refl _) ?_ | refine sq_ps rfl rfl rfl hI (LeL.refl _) ?_))
    ((try refine aw_ret ?_); (repeat (first | refine then_ret ?_ | refine blk_ret ?_)); refine fin_t True.intro rfl rfl ?_)
    rfl
end Go.Proofs.YtdddkoacolglkaaDoor.Ab
