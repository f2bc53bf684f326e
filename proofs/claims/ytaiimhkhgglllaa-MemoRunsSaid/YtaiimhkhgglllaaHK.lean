/- What is kept is told to each who comes later. -/
import Derived.Test.YtaiimhkhgglllaaHP
namespace Go.Proofs.Ytaiimhkhgglllaa.Ab
open Go Go.RowKit
theorem MI.ok {at_ : Int} {m0 : List Int} {l0 : List Wk} (g : MG at_ m0 l0) (h0 : okI m0) {ws : List Int} {now : List Wk} (h : MI at_ m0 l0 ws now) : okI ws := by
  refine ⟨by rw [h.len]; exact h0.1, fun y hy => ?_⟩
  obtain ⟨j, hj, rfl⟩ := List.getElem_of_mem hy
  have e : ws[j] = ws.getD j 0 := by rw [List.getD_eq_getElem?_getD, List.getElem?_eq_getElem hj]; rfl
  rw [e]
  have hj0 : j < m0.length := by rw [← h.len]; exact hj
  rcases h.words j hj0 with e | ⟨_, i, hi, _, e⟩
  · rw [e]; exact h0.2 _ (mem_getD m0 0 j hj0)
  · rw [e]; have := (g.want i hi).1.r1; unfold I64; omega
theorem wordsL_bd (raw : List Int) : ∀ y ∈ wordsL raw, 0 ≤ y ∧ y ≤ 77 := by
  intro y hy
  unfold wordsL at hy
  rcases List.mem_cons.1 hy with rfl | hy
  · omega
  · obtain ⟨c, _, rfl⟩ := List.mem_map.1 hy
    have := pick_bd c 9 (by omega)
    unfold wrd
    split <;> omega
theorem putW_want (at_ : Int) (k : Nat) (v : Int) (h : 0 ≤ at_) (hv : 0 ≤ v ∧ v < 1152921504606846974) : Want (plc at_ (putW k v)) at_ (putW k v) := by
  refine ⟨rfl, rfl, rfl, by show (0 : Int) ≤ k; omega, hv, h, ?_⟩
  unfold plc
  have : (0 : Int) ≤ at_ + (putW k v).r0 := by show 0 ≤ at_ + (k : Int); omega
  omega
theorem getM_some (ws : List Int) (a k : Nat) (h : a + k < ws.length) (h1 : 1 ≤ ws.getD (a + k) 0) : getM ws a k = (ws.getD (a + k) 0 - 1, true) := by
  have e : ((a : Int) + k).toNat = a + k := by omega
  unfold getM
  rw [e, if_pos ⟨by omega, by omega, by omega, by omega, h1⟩]
theorem getM_none (ws : List Int) (a k : Nat) (h1 : ¬ 1 ≤ ws.getD (a + k) 0) : getM ws a k = (0, false) := by
  have e : ((a : Int) + k).toNat = a + k := by omega
  unfold getM
  rw [e, if_neg fun h => h1 h.2.2.2.2]
def putD (k u z : Int) : Wk := ⟨0, 4, k, u, 0, 0, 0, 0, 0, 0, true, z⟩
theorem gets_law (mm : List Int) (k : Nat) (v u : Int) (hm : ∀ y ∈ mm, 0 ≤ y ∧ y ≤ 77) (hl : mm.length ≤ 20) (hk : 1 + k < mm.length) (hv : 0 ≤ v ∧ v < 1000) (hu : 0 ≤ u ∧ u < 1000) (picks : List Int) :
    ∃ ws now z, driveT (stepM 1) picks mm [putW k v] = (ws, now, 0) ∧ now.length = 1 ∧ (now.getD 0 wk0).out = z ∧ okI ws ∧ ws.length = mm.length ∧ getM ws 1 k = (z, true) ∧ 0 ≤ z ∧ z < 1000 ∧ stepM 1 ws (putW k u) = (ws, putD k u z, 0) ∧
      ((getM mm 1 k = (0, false) ∧ z = v) ∨ getM mm 1 k = (z, true)) := by
  have hpl : plc 1 (putW k v) = 1 + k := by show (1 + (k : Int)).toNat = 1 + k; omega
  have hget : ∀ j, j < mm.length → 0 ≤ mm.getD j 0 ∧ mm.getD j 0 ≤ 77 := fun j hj => hm _ (mem_getD mm 0 j hj)
  have g : MG 1 mm [putW k v] := ⟨by omega, fun j hj => (hget j hj).1, fun i hi => by
    have : i = 0 := by simpa using hi
    subst this
    exact ⟨putW_want 1 k v (by omega) (by omega), by show plc 1 (putW k v) < _; omega⟩⟩
  obtain ⟨ws, now, r1, r2, r3⟩ := memo_ends picks 1 mm [putW k v] g (by simp)
  have hok := r2.ok g ⟨by omega, fun y hy => by have := hm y hy; unfold I64; omega⟩
  have hnl : now.length = 1 := r2.wl
  have hd := r3 _ (mem_getD now wk0 0 (by omega))
  obtain ⟨f1, f2, f3, f4⟩ := r2.far 0 (by simp)
  have f4 := f4.resolve_left (fun h => by rw [hd] at h; cases h.1)
  have f4 : 1 ≤ ws.getD (plc 1 (putW k v)) 0 ∧ (now.getD 0 wk0).out = ws.getD (plc 1 (putW k v)) 0 - 1 := f4.2
  rw [hpl] at f4
  have hlen := r2.len
  have hz : ws.getD (1 + k) 0 = mm.getD (1 + k) 0 ∨ (mm.getD (1 + k) 0 = 0 ∧ ws.getD (1 + k) 0 = v + 1) := by
    rcases r2.words (1 + k) hk with e | ⟨e, i, hi, _, e2⟩
    · exact .inl e
    · have : i = 0 := by simpa using hi
      subst this
      exact .inr ⟨e, e2⟩
  have hb := hget (1 + k) hk
  refine ⟨ws, now, ws.getD (1 + k) 0 - 1, r1, hnl, f4.2, hok, hlen, getM_some ws 1 k (by omega) f4.1, by omega, by omega, ?_, ?_⟩
  · have := stepM_look (at_ := 1) (a := 1 + k) (ws := ws) (w := putW k u) ⟨rfl, rfl, Int.le_refl _, by show (0 : Int) ≤ 1; omega, by omega, by show (0 : Int) ≤ k; omega, hu.1, by show u < _; omega⟩ rfl (by show 1 + (k : Int) = _; omega) (by omega) (by omega)
    rw [this, if_pos f4.1]
    rfl
  · rcases hz with e | ⟨e, e2⟩
    · right
      exact (getM_some mm 1 k hk (by omega)).trans (by rw [e])
    · left
      exact ⟨getM_none mm 1 k (by omega), by omega⟩
set_option maxHeartbeats 2000000 in
theorem gets_s (raw : List Int) (c0 c1 c2 : Int) (hr : raw.length ≤ maxLen ∧ ∀ x ∈ raw, I64 x) (h0 : I64 c0) (h1 : I64 c1) (h2 : I64 c2) : SC true Try.prog 6 [ints raw, .i c0, .i c1, .i c2] [] (fun r _ => r = .b true) := by
  refine sc_in TYok Try.func6 (by kernel_rfl) Try.ntmps6 rfl rfl rfl ?_
  have hwl := wordsL_len raw
  have hwb := wordsL_bd raw
  have hwn : 0 < (wordsL raw).length := by unfold wordsL; simp
  have hwm := words_m raw hr.2 hr.1
  generalize wordsL raw = wl at *
  obtain ⟨x0, hP0, _, a0, b0⟩ := pick_k c0 wl.length h0 (by omega)
  obtain ⟨v, hP1, _, a1, b1⟩ := pick_k c1 1000 h1 (by omega)
  obtain ⟨u, hP2, _, a2, b2⟩ := pick_k c2 1000 h2 (by omega)
  obtain ⟨k, rfl⟩ := Int.eq_ofNat_of_zero_le a0
  have hml : (wl ++ [0]).length = wl.length + 1 := by simp
  have hmb : ∀ y ∈ wl ++ [0], 0 ≤ y ∧ y ≤ 77 := fun y hy => by
    rcases List.mem_append.1 hy with h | h
    · exact hwb y h
    · simp at h; omega
  obtain ⟨ws, now, z, r1, r2, r3, r4, r5, r6, r7, r8, r9, r10⟩ := gets_law (wl ++ [0]) k v u hmb (by omega) (by omega) ⟨a1, b1⟩ ⟨a2, b2⟩ []
  have hok : okI (wl ++ [0]) := ⟨by omega, fun y hy => by have := hmb y hy; unfold I64; omega⟩
  have hR := run_lit (wl ++ [0]) [] [putW k v] 1 r1 hok (by simp) (by simp) (by simp)
  have hS := step_lit ws 1 (putW k u) r9 r4
  have hG2 := get_lit ws 1 k r6 r4
  have pA := put_s k v
  have pB := put_s k u
  have hle : Le (.lst false 1 (wl.length + 1) (fun j => if j < wl.length then [.i (wl.getD j 0)] else (List.take 1 (List.drop ((j - wl.length) * 1) [.i 0])))) (ints (wl ++ [0])) := by
    refine le_lst' hml.symm (fun h => h) fun i hi => gather 0 (fun y => [.i y]) rfl 0 rfl i hi
  rw [show (wl.length : Int) = ((wl ++ [0]).length : Int) - 1 by omega] at hP0
  generalize wl ++ [0] = mm at *
  (repeat' (first | (refine sq_id ?_; first | refine sq_nil ?_ | refine sq_move rfl rfl rfl ?_ | refine sq_assign rfl rfl rfl ?_ | refine sq_skip rfl rfl ?_ | refine sq_t TYok TYz rfl rfl rfl True.intro (by first | omega | (dsimp only; omega) | ((try dsimp only); simp only [List.length]; omega)) ?_ | refine sq_f TYok TYz rfl rfl rfl True.intro (by first | omega | (dsimp only; omega) | ((try dsimp only); simp only [List.length]; omega)) ?_ | refine sq_pure TYok TYz false rfl rfl rfl (by first | exact True.intro | omega | assumption | (dsimp only; omega) | ((try dsimp only); simp only [List.length]; omega)) ?_ | refine sq_pure TYok TYz true rfl rfl rfl (by first | exact True.intro | omega | assumption | (dsimp only; omega) | ((try dsimp only); simp only [List.length]; omega)) ?_ | refine sq_load TYok rfl rfl rfl (by assumption) (by rfl) (by first | exact Nat.zero_lt_one | assumption | omega) (by rfl) ?_ | refine sq_lit TYok TYz rfl rfl rfl rfl rfl rfl rfl rfl ?_ | refine sq_ixa TYok rfl rfl rfl rfl rfl rfl rfl (by first | exact True.intro | omega | assumption | (dsimp only; omega) | ((try dsimp only); simp only [List.length]; omega)) ?_ | refine sq_ixr TYok rfl rfl rfl rfl rfl rfl rfl (by first | exact True.intro | omega | assumption | (dsimp only; omega) | ((try dsimp only); simp only [List.length]; omega)) ?_ | refine sq_ps rfl rfl rfl awake_s .nil ?_) | (refine rg_id ?_; first | refine rg_fin ?_ | refine rg_move rfl rfl rfl ?_ | refine rg_assign rfl rfl rfl ?_ | refine rg_skip rfl rfl ?_ | refine rg_t TYok TYz rfl rfl rfl True.intro (by first | omega | (dsimp only; omega) | ((try dsimp only); simp only [List.length]; omega)) ?_ | refine rg_f TYok TYz rfl rfl rfl True.intro (by first | omega | (dsimp only; omega) | ((try dsimp only); simp only [List.length]; omega)) ?_ | refine rg_pure TYok TYz false rfl rfl rfl (by first | exact True.intro | omega | assumption | (dsimp only; omega) | ((try dsimp only); simp only [List.length]; omega)) ?_ | refine rg_pure TYok TYz true rfl rfl rfl (by first | exact True.intro | omega | assumption | (dsimp only; omega) | ((try dsimp only); simp only [List.length]; omega)) ?_ | refine rg_load TYok rfl rfl rfl (by assumption) (by rfl) (by first | exact Nat.zero_lt_one | assumption | omega) (by rfl) ?_ | refine rg_lit TYok TYz rfl rfl rfl rfl rfl rfl rfl rfl ?_ | refine rg_ixa TYok rfl rfl rfl rfl rfl rfl rfl (by first | exact True.intro | omega | assumption | (dsimp only; omega) | ((try dsimp only); simp only [List.length]; omega)) ?_ | refine rg_ixr TYok rfl rfl rfl rfl rfl rfl rfl (by first | exact True.intro | omega | assumption | (dsimp only; omega) | ((try dsimp only); simp only [List.length]; omega)) ?_ | refine sq_ps rfl rfl rfl awake_s .nil ?_) | refine aw_rseq ?_ | refine aw_seq ?_ | refine aw_region ?_ | refine aw_skip ?_ | refine aw_true rfl ?_ | refine aw_false rfl ?_ | refine aw_d0seq rfl (by kernel_rfl) ?_ | refine aw_d0 rfl (by kernel_rfl) ?_ | refine aw_block ?_ | refine aw_exit ?_ | refine then_ret ?_ | refine then_exit ?_ | refine then_normal ?_ | refine blk_ret ?_ | refine blk_normal ?_ | refine blk_exit ?_ | refine blk_pass rfl ?_ | refine sq_ps rfl rfl rfl awake_s .nil ?_))
  refine sq_call rfl rfl rfl (LeL.refl _) ((hwm _).mono fun r H1 ⟨hx, ha⟩ => ?_)
  refine sq_lit TYok TYz rfl rfl rfl rfl rfl rfl rfl rfl ?_
  refine sq_appz TYok TYz rfl rfl rfl rfl rfl rfl rfl (by decide) ha (.lst _ _ _ _) (by show (wl.length + 1) * 8 ≤ _; omega) (by omega) fun H2 ho2 => ?_
  (repeat (first | refine sq_move rfl rfl rfl ?_ | refine sq_assign rfl rfl rfl ?_ | refine sq_skip rfl rfl ?_ | refine sq_t TYok TYz rfl rfl rfl True.intro (by first | omega | (dsimp only; omega) | ((try dsimp only); simp only [List.length]; omega)) ?_ | refine sq_f TYok TYz rfl rfl rfl True.intro (by first | omega | (dsimp only; omega) | ((try dsimp only); simp only [List.length]; omega)) ?_ | refine sq_pure TYok TYz false rfl rfl rfl (by first | exact True.intro | omega | assumption | (dsimp only; omega) | ((try dsimp only); simp only [List.length]; omega)) ?_ | refine sq_pure TYok TYz true rfl rfl rfl (by first | exact True.intro | omega | assumption | (dsimp only; omega) | ((try dsimp only); simp only [List.length]; omega)) ?_))
  refine sq_nil ?_
  refine aw_slot 10 (ints mm) hle ?_
  have hpo : (putD k u z).out = z := rfl
  rcases r10 with ⟨r10, hz⟩ | r10
  all_goals
    have hG1 := get_lit mm 1 k r10 hok
    (repeat' (first | (refine sq_id ?_; first | refine sq_nil ?_ | refine sq_move rfl rfl rfl ?_ | refine sq_assign rfl rfl rfl ?_ | refine sq_skip rfl rfl ?_ | refine sq_t TYok TYz rfl rfl rfl True.intro (by first | omega | (dsimp only; omega) | ((try dsimp only); simp only [List.length]; omega)) ?_ | refine sq_f TYok TYz rfl rfl rfl True.intro (by first | omega | (dsimp only; omega) | ((try dsimp only); simp only [List.length]; omega)) ?_ | refine sq_pure TYok TYz false rfl rfl rfl (by first | exact True.intro | omega | assumption | (dsimp only; omega) | ((try dsimp only); simp only [List.length]; omega)) ?_ | refine sq_pure TYok TYz true rfl rfl rfl (by first | exact True.intro | omega | assumption | (dsimp only; omega) | ((try dsimp only); simp only [List.length]; omega)) ?_ | refine sq_load TYok rfl rfl rfl (by assumption) (by rfl) (by first | exact Nat.zero_lt_one | assumption | omega) (by rfl) ?_ | refine sq_lit TYok TYz rfl rfl rfl rfl rfl rfl rfl rfl ?_ | refine sq_ixa TYok rfl rfl rfl rfl rfl rfl rfl (by first | exact True.intro | omega | assumption | (dsimp only; omega) | ((try dsimp only); simp only [List.length]; omega)) ?_ | refine sq_ixr TYok rfl rfl rfl rfl rfl rfl rfl (by first | exact True.intro | omega | assumption | (dsimp only; omega) | ((try dsimp only); simp only [List.length]; omega)) ?_ | refine sq_ps rfl rfl rfl hP0 (LeL.refl _) ?_ | refine sq_ps rfl rfl rfl hP1 (LeL.refl _) ?_ | refine sq_ps rfl rfl rfl hP2 (LeL.refl _) ?_ | refine sq_ps rfl rfl rfl pA (LeL.refl _) ?_ | refine sq_ps rfl rfl rfl pB (LeL.refl _) ?_ | refine sq_ps rfl rfl rfl hR (.cons (.refl _) (.cons (.refl _) (.cons (le_nil _ _ _) (.cons (le_lst (by intro h; first | exact h | cases h) (fun i hi => by rcases i with _ | _ | _ | _ | _ | i <;> first | rfl | (exact absurd hi (by simp)) | omega)) .nil)))) ?_ | refine sq_ps rfl rfl rfl hG1 (LeL.refl _) ?_ | refine sq_ps rfl rfl rfl hG2 (LeL.refl _) ?_ | refine sq_ps rfl rfl rfl hS (LeL.refl _) ?_) | (refine rg_id ?_; first | refine rg_fin ?_ | refine rg_move rfl rfl rfl ?_ | refine rg_assign rfl rfl rfl ?_ | refine rg_skip rfl rfl ?_ | refine rg_t TYok TYz rfl rfl rfl True.intro (by first | omega | (dsimp only; omega) | ((try dsimp only); simp only [List.length]; omega)) ?_ | refine rg_f TYok TYz rfl rfl rfl True.intro (by first | omega | (dsimp only; omega) | ((try dsimp only); simp only [List.length]; omega)) ?_ | refine rg_pure TYok TYz false rfl rfl rfl (by first | exact True.intro | omega | assumption | (dsimp only; omega) | ((try dsimp only); simp only [List.length]; omega)) ?_ | refine rg_pure TYok TYz true rfl rfl rfl (by first | exact True.intro | omega | assumption | (dsimp only; omega) | ((try dsimp only); simp only [List.length]; omega)) ?_ | refine rg_load TYok rfl rfl rfl (by assumption) (by rfl) (by first | exact Nat.zero_lt_one | assumption | omega) (by rfl) ?_ | refine rg_lit TYok TYz rfl rfl rfl rfl rfl rfl rfl rfl ?_ | refine rg_ixa TYok rfl rfl rfl rfl rfl rfl rfl (by first | exact True.intro | omega | assumption | (dsimp only; omega) | ((try dsimp only); simp only [List.length]; omega)) ?_ | refine rg_ixr TYok rfl rfl rfl rfl rfl rfl rfl (by first | exact True.intro | omega | assumption | (dsimp only; omega) | ((try dsimp only); simp only [List.length]; omega)) ?_ | refine sq_ps rfl rfl rfl hP0 (LeL.refl _) ?_ | refine sq_ps rfl rfl rfl hP1 (LeL.refl _) ?_ | refine sq_ps rfl rfl rfl hP2 (LeL.refl _) ?_ | refine sq_ps rfl rfl rfl pA (LeL.refl _) ?_ | refine sq_ps rfl rfl rfl pB (LeL.refl _) ?_ | refine sq_ps rfl rfl rfl hR (.cons (.refl _) (.cons (.refl _) (.cons (le_nil _ _ _) (.cons (le_lst (by intro h; first | exact h | cases h) (fun i hi => by rcases i with _ | _ | _ | _ | _ | i <;> first | rfl | (exact absurd hi (by simp)) | omega)) .nil)))) ?_ | refine sq_ps rfl rfl rfl hG1 (LeL.refl _) ?_ | refine sq_ps rfl rfl rfl hG2 (LeL.refl _) ?_ | refine sq_ps rfl rfl rfl hS (LeL.refl _) ?_) | refine aw_rseq ?_ | refine aw_seq ?_ | refine aw_region ?_ | refine aw_skip ?_ | refine aw_true rfl ?_ | refine aw_false rfl ?_ | refine aw_d0seq rfl (by kernel_rfl) ?_ | refine aw_d0 rfl (by kernel_rfl) ?_ | refine aw_block ?_ | refine aw_exit ?_ | refine then_ret ?_ | refine then_exit ?_ | refine then_normal ?_ | refine blk_ret ?_ | refine blk_normal ?_ | refine blk_exit ?_ | refine blk_pass rfl ?_ | refine sq_ps rfl rfl rfl hP0 (LeL.refl _) ?_ | refine sq_ps rfl rfl rfl hP1 (LeL.refl _) ?_ | refine sq_ps rfl rfl rfl hP2 (LeL.refl _) ?_ | refine sq_ps rfl rfl rfl pA (LeL.refl _) ?_ | refine sq_ps rfl rfl rfl pB (LeL.refl _) ?_ | refine sq_ps rfl rfl rfl hR (.cons (.refl _) (.cons (.refl _) (.cons (le_nil _ _ _) (.cons (le_lst (by intro h; first | exact h | cases h) (fun i hi => by rcases i with _ | _ | _ | _ | _ | i <;> first | rfl | (exact absurd hi (by simp)) | omega)) .nil)))) ?_ | refine sq_ps rfl rfl rfl hG1 (LeL.refl _) ?_ | refine sq_ps rfl rfl rfl hG2 (LeL.refl _) ?_ | refine sq_ps rfl rfl rfl hS (LeL.refl _) ?_))
    refine sq_newk TYok TYz false rfl rfl rfl True.intro fun H3 hb3 ho3 hl3 => ?_
    (repeat' (first | (refine sq_id ?_; first | refine sq_nil ?_ | refine sq_move rfl rfl rfl ?_ | refine sq_assign rfl rfl rfl ?_ | refine sq_skip rfl rfl ?_ | refine sq_t TYok TYz rfl rfl rfl True.intro (by first | omega | (dsimp only; omega) | ((try dsimp only); simp only [List.length]; omega)) ?_ | refine sq_f TYok TYz rfl rfl rfl True.intro (by first | omega | (dsimp only; omega) | ((try dsimp only); simp only [List.length]; omega)) ?_ | refine sq_pure TYok TYz false rfl rfl rfl (by first | exact True.intro | omega | assumption | (dsimp only; omega) | ((try dsimp only); simp only [List.length]; omega)) ?_ | refine sq_pure TYok TYz true rfl rfl rfl (by first | exact True.intro | omega | assumption | (dsimp only; omega) | ((try dsimp only); simp only [List.length]; omega)) ?_ | refine sq_load TYok rfl rfl rfl (by assumption) (by rfl) (by first | exact Nat.zero_lt_one | assumption | omega) (by rfl) ?_ | refine sq_lit TYok TYz rfl rfl rfl rfl rfl rfl rfl rfl ?_ | refine sq_ixa TYok rfl rfl rfl rfl rfl rfl rfl (by first | exact True.intro | omega | assumption | (dsimp only; omega) | ((try dsimp only); simp only [List.length]; omega)) ?_ | refine sq_ixr TYok rfl rfl rfl rfl rfl rfl rfl (by first | exact True.intro | omega | assumption | (dsimp only; omega) | ((try dsimp only); simp only [List.length]; omega)) ?_) | (refine rg_id ?_; first | refine rg_fin ?_ | refine rg_move rfl rfl rfl ?_ | refine rg_assign rfl rfl rfl ?_ | refine rg_skip rfl rfl ?_ | refine rg_t TYok TYz rfl rfl rfl True.intro (by first | omega | (dsimp only; omega) | ((try dsimp only); simp only [List.length]; omega)) ?_ | refine rg_f TYok TYz rfl rfl rfl True.intro (by first | omega | (dsimp only; omega) | ((try dsimp only); simp only [List.length]; omega)) ?_ | refine rg_pure TYok TYz false rfl rfl rfl (by first | exact True.intro | omega | assumption | (dsimp only; omega) | ((try dsimp only); simp only [List.length]; omega)) ?_ | refine rg_pure TYok TYz true rfl rfl rfl (by first | exact True.intro | omega | assumption | (dsimp only; omega) | ((try dsimp only); simp only [List.length]; omega)) ?_ | refine rg_load TYok rfl rfl rfl (by assumption) (by rfl) (by first | exact Nat.zero_lt_one | assumption | omega) (by rfl) ?_ | refine rg_lit TYok TYz rfl rfl rfl rfl rfl rfl rfl rfl ?_ | refine rg_ixa TYok rfl rfl rfl rfl rfl rfl rfl (by first | exact True.intro | omega | assumption | (dsimp only; omega) | ((try dsimp only); simp only [List.length]; omega)) ?_ | refine rg_ixr TYok rfl rfl rfl rfl rfl rfl rfl (by first | exact True.intro | omega | assumption | (dsimp only; omega) | ((try dsimp only); simp only [List.length]; omega)) ?_) | refine aw_rseq ?_ | refine aw_seq ?_ | refine aw_region ?_ | refine aw_skip ?_ | refine aw_true rfl ?_ | refine aw_false rfl ?_ | refine aw_d0seq rfl (by kernel_rfl) ?_ | refine aw_d0 rfl (by kernel_rfl) ?_ | refine aw_block ?_ | refine aw_exit ?_ | refine then_ret ?_ | refine then_exit ?_ | refine then_normal ?_ | refine blk_ret ?_ | refine blk_normal ?_ | refine blk_exit ?_ | refine blk_pass rfl ?_))
    refine sq_storek TYok rfl rfl rfl hb3 rfl Nat.zero_lt_one rfl rfl rfl (Nat.le_of_ble_eq_true rfl) fun H4 hb4 ho4 hl4 => ?_
    (repeat' (first | (refine sq_id ?_; first | refine sq_nil ?_ | refine sq_move rfl rfl rfl ?_ | refine sq_assign rfl rfl rfl ?_ | refine sq_skip rfl rfl ?_ | refine sq_t TYok TYz rfl rfl rfl True.intro (by first | omega | (dsimp only; omega) | ((try dsimp only); simp only [List.length]; omega)) ?_ | refine sq_f TYok TYz rfl rfl rfl True.intro (by first | omega | (dsimp only; omega) | ((try dsimp only); simp only [List.length]; omega)) ?_ | refine sq_pure TYok TYz false rfl rfl rfl (by first | exact True.intro | omega | assumption | (dsimp only; omega) | ((try dsimp only); simp only [List.length]; omega)) ?_ | refine sq_pure TYok TYz true rfl rfl rfl (by first | exact True.intro | omega | assumption | (dsimp only; omega) | ((try dsimp only); simp only [List.length]; omega)) ?_ | refine sq_load TYok rfl rfl rfl (by assumption) (by rfl) (by first | exact Nat.zero_lt_one | assumption | omega) (by rfl) ?_ | refine sq_lit TYok TYz rfl rfl rfl rfl rfl rfl rfl rfl ?_ | refine sq_ixa TYok rfl rfl rfl rfl rfl rfl rfl (by first | exact True.intro | omega | assumption | (dsimp only; omega) | ((try dsimp only); simp only [List.length]; omega)) ?_ | refine sq_ixr TYok rfl rfl rfl rfl rfl rfl rfl (by first | exact True.intro | omega | assumption | (dsimp only; omega) | ((try dsimp only); simp only [List.length]; omega)) ?_ | refine sq_ps rfl rfl rfl hG2 (LeL.refl _) ?_ | refine sq_ps rfl rfl rfl hP1 (LeL.refl _) ?_ | refine sq_ps rfl rfl rfl (ints_t ws (by omega)) (LeL.refl _) ?_) | (refine rg_id ?_; first | refine rg_fin ?_ | refine rg_move rfl rfl rfl ?_ | refine rg_assign rfl rfl rfl ?_ | refine rg_skip rfl rfl ?_ | refine rg_t TYok TYz rfl rfl rfl True.intro (by first | omega | (dsimp only; omega) | ((try dsimp only); simp only [List.length]; omega)) ?_ | refine rg_f TYok TYz rfl rfl rfl True.intro (by first | omega | (dsimp only; omega) | ((try dsimp only); simp only [List.length]; omega)) ?_ | refine rg_pure TYok TYz false rfl rfl rfl (by first | exact True.intro | omega | assumption | (dsimp only; omega) | ((try dsimp only); simp only [List.length]; omega)) ?_ | refine rg_pure TYok TYz true rfl rfl rfl (by first | exact True.intro | omega | assumption | (dsimp only; omega) | ((try dsimp only); simp only [List.length]; omega)) ?_ | refine rg_load TYok rfl rfl rfl (by assumption) (by rfl) (by first | exact Nat.zero_lt_one | assumption | omega) (by rfl) ?_ | refine rg_lit TYok TYz rfl rfl rfl rfl rfl rfl rfl rfl ?_ | refine rg_ixa TYok rfl rfl rfl rfl rfl rfl rfl (by first | exact True.intro | omega | assumption | (dsimp only; omega) | ((try dsimp only); simp only [List.length]; omega)) ?_ | refine rg_ixr TYok rfl rfl rfl rfl rfl rfl rfl (by first | exact True.intro | omega | assumption | (dsimp only; omega) | ((try dsimp only); simp only [List.length]; omega)) ?_ | refine sq_ps rfl rfl rfl hG2 (LeL.refl _) ?_ | refine sq_ps rfl rfl rfl hP1 (LeL.refl _) ?_ | refine sq_ps rfl rfl rfl (ints_t ws (by omega)) (LeL.refl _) ?_) | refine aw_rseq ?_ | refine aw_seq ?_ | refine aw_region ?_ | refine aw_skip ?_ | refine aw_true rfl ?_ | refine aw_false rfl ?_ | refine aw_d0seq rfl (by kernel_rfl) ?_ | refine aw_d0 rfl (by kernel_rfl) ?_ | refine aw_block ?_ | refine aw_exit ?_ | refine then_ret ?_ | refine then_exit ?_ | refine then_normal ?_ | refine blk_ret ?_ | refine blk_normal ?_ | refine blk_exit ?_ | refine blk_pass rfl ?_ | refine sq_ps rfl rfl rfl hG2 (LeL.refl _) ?_ | refine sq_ps rfl rfl rfl hP1 (LeL.refl _) ?_ | refine sq_ps rfl rfl rfl (ints_t ws (by omega)) (LeL.refl _) ?_))
    ((try refine aw_ret ?_); (repeat (first | refine then_ret ?_ | refine blk_ret ?_)); refine fin_t True.intro rfl rfl ?_)
    rfl
end Go.Proofs.Ytaiimhkhgglllaa.Ab
