/- Package intern: Right. -/
import Derived.Test.YtphjglbbhanmpaaSM
import Derived.Test.YtphjglbbhanmpaaSL
import Derived.Test.YtphjglbbhanmpaaSJ
namespace Go.Proofs.Ytphjglbbhanmpaa.Ab
open Go Go.RowKit
set_option maxRecDepth 10000
section
variable {P : Program} {T : TT} {n : Nat} {ops : Array Oper} {os : List Oper} {K : AF → AH → Prop} {F : AF} {H N : AH} {d : Nat} {ty : TypeId} {pos : String} {after : Array Edge} {gd : Option (Nat × Bool)}
theorem rg_slice (hT : TTok P T) {t : TypeId} {y : Operand} {lo hi : Option Operand} {ti : TI} {e es : Nat} {ek : TK} (hg : gst ops F gd = some true) (hd : dok n (some d) = true) (hti : tget T t = some ti) (hk : ti.kind = .slice e) (he : aslot T e = some (ek, es)) {m : Nat} {l h : Int} {tg : Bool} {g : Nat → List AV} (hy : aev F y = .lst tg es m g)
    (hl : bnd (aev F) 0 lo l) (hh : bnd (aev F) m hi h) (hb : 0 ≤ l ∧ l ≤ h ∧ h ≤ m) (hk' : RG P n ops H os K ((d, .lst false es (h.toNat - l.toNat) (fun i => g (l.toNat + i))) :: F) N) :
    RG P n ops H (⟨some d, .slice t y lo hi none, ty, pos, after, gd⟩ :: os) K F N :=
  rg_ao (r := .lst false es (h.toNat - l.toNat) (fun i => g (l.toNat + i))) (D := []) hg rfl hd (AO.mono (ao_slice hT t y lo hi rfl hti hk he hl hh hb.1 hb.2.1 hb.2.2 (.inl ⟨tg, g, hy, rfl⟩)) fun r H' e => by rw [e.1, e.2]; exact ⟨rfl, by simp⟩) (by rw [List.append_nil]; exact hk')
end
def intsN (l : List Nat) : List Int := l.map fun k : Nat => (k : Int)
section
variable {S N : Nat} {m : List Int} {F : List Nat} {C : Nat} {held : Nat → Nat}
theorem freeGo_chain (hlen : m.length = S + 4 * N + (N + 1)) (hN : N ≤ 1000) : ∀ (F : List Nat) (f : Nat), F.length ≤ f → (∀ x ∈ F, x < N) → ChainT S N m F → freeGo m (S + 4 * N) f (hdF F) = intsN F
  | [], f, _, _, _ => by
    cases f with
    | zero => rfl
    | succ f => rw [freeGo, if_neg (by show ¬ ((0 : Int) < 0 ∧ _); omega)]; rfl
  | x :: F, 0, h, _, _ => by simp at h
  | x :: F, f + 1, h, hx, hc => by
    have h1 := hx x (List.mem_cons_self ..)
    have e : hdF (x :: F) = (x : Int) + 1 := rfl
    have e2 : (((S + 4 * N : Nat) : Int) + ((x : Int) + 1)).toNat = S + 4 * N + 1 + x := by omega
    obtain ⟨a, ha, haN⟩ := hdF_le (F := F) (n := N) fun y hy => hx y (List.mem_cons_of_mem _ hy)
    have e3 : Hn (hdF F) = hdF F := by
      have := hn_at 0 a (by omega)
      rw [ha]
      simpa using this
    rw [freeGo, e, if_pos (by omega), e2, hc.1, e3, freeGo_chain hlen hN F f (by simpa using h) (fun y hy => hx y (List.mem_cons_of_mem _ hy)) hc.2]
    unfold intsN
    rw [List.map_cons, show (x : Int) + 1 - 1 = x by omega]
theorem Tab.free (h : Tab S N m F C held) (hN : N ≤ 100) : freeL m (S + 4 * N) = intsN F := by
  have hx : ∀ x ∈ F, x < N := fun x hx => (h.lt hx).1
  obtain ⟨a, ha, haN⟩ := h.hd
  have hs := h.sum
  unfold freeL
  rw [if_pos (by rw [h.len]; omega), h.head, ha, hn_at C a (by omega), ← ha]
  exact freeGo_chain h.len (by omega) F 1000 (by omega) hx h.chain
/-- the nodes in the slots -/
def nodesN (m : List Int) : Nat → List Nat
  | 0 => []
  | k + 1 => nodesN m k ++ if 0 < m.getD k 0 then [(m.getD k 0 - 1).toNat] else []
theorem nodesN_eq (m : List Int) : ∀ k, k ≤ m.length → nodesL k m = intsN (nodesN m k)
  | 0, _ => by simp [nodesL, nodesN, intsN]
  | k + 1, h => by
    rw [nodesL_succ k m (by omega), nodesN_eq m k (by omega), nodesN]
    unfold intsN
    rw [List.map_append]
    congr 1
    split
    · rw [List.map_cons, List.map_nil, Int.toNat_of_nonneg (by omega)]
    · rfl
theorem nodesN_count (m : List Int) (a : Nat) : ∀ k, (nodesN m k).count a = pubC k m a
  | 0 => rfl
  | k + 1 => by
    have e : pubC (k + 1) m a = pubC k m a + if m.getD k 0 = (a : Int) + 1 then 1 else 0 := sumR_succ _ k
    rw [nodesN, List.count_append, nodesN_count m a k, e]
    congr 1
    by_cases h0 : 0 < m.getD k 0
    · rw [if_pos h0, List.count_cons, List.count_nil]
      by_cases h : m.getD k 0 = (a : Int) + 1
      · rw [if_pos h, if_pos (beq_iff_eq.2 (by omega))]
      · rw [if_neg h, if_neg (fun hh => by have := beq_iff_eq.1 hh; omega)]
    · rw [if_neg h0, if_neg (by omega)]; rfl
theorem nodesN_len (m : List Int) : ∀ k, (∀ i, i < k → 0 ≤ m.getD i 0) → (nodesN m k).length = nzS k m
  | 0, _ => rfl
  | k + 1, h => by
    have e : nzS (k + 1) m = nzS k m + if m.getD k 0 = 0 then 0 else 1 := sumR_succ _ k
    rw [nodesN, List.length_append, nodesN_len m k fun i hi => h i (by omega), e]
    congr 1
    have := h k (by omega)
    by_cases h0 : m.getD k 0 = 0
    · rw [if_pos h0, if_neg (by omega)]; rfl
    · rw [if_neg h0, if_pos (by omega)]; rfl
theorem Tab.all (h : Tab S N m F C (fun _ => 0)) : sortL (intsN (nodesN m S) ++ intsN F) = intsN (List.range N) := by
  have hp : (nodesN m S ++ F).Perm (List.range N) := by
    rw [List.perm_iff_count]
    intro a
    rw [List.count_append, nodesN_count, count_range]
    have := h.perm a
    omega
  have hp2 : (sortL (intsN (nodesN m S) ++ intsN F)).Perm (intsN (List.range N)) := by
    refine (List.mergeSort_perm _ _).trans ?_
    unfold intsN
    rw [← List.map_append]
    exact hp.map _
  refine List.Perm.eq_of_pairwise (le := fun x y : Int => x ≤ y) (fun a b _ _ h1 h2 => by omega) ?_ ?_ hp2
  · have := List.pairwise_mergeSort (le := fun x y : Int => decide (x ≤ y)) (fun a b c h1 h2 => by simp at *; omega) (fun a b => by simp; omega) (intsN (nodesN m S) ++ intsN F)
    exact this.imp fun h => of_decide_eq_true h
  · unfold intsN
    rw [List.pairwise_map]
    exact List.pairwise_lt_range.imp fun h => by omega
theorem Tab.words (h : Tab S N m F C held) (hS : 1 ≤ S ∧ S ≤ 100) (hN : N ≤ 100) : Words S N m := ⟨hS, hN, h.len, fun i hi => by
  by_cases h0 : m.getD i 0 = 0
  · exact .inl h0
  · obtain ⟨n, hn, e, _⟩ := h.slots i hi h0
    exact .inr ⟨n, hn, e⟩⟩
theorem Tab.odd (h : Tab S N m F C held) {i : Nat} (hi : i < S) : oddF S m (m.getD i 0) = false := by
  unfold oddF
  by_cases h0 : m.getD i 0 = 0
  · rw [if_pos h0]
  · obtain ⟨n, hn, e, p, ha, _⟩ := h.slots i hi h0
    rw [if_neg h0, e, show ((n : Int) + 1 - 1).toNat = n by omega, find_at ha, decide_eq_false]
    omega
end
set_option maxHeartbeats 4000000 in
theorem right15_s (S N : Nat) (m : List Int) (F : List Nat) (C : Nat) (h : Tab S N m F C (fun _ => 0)) (hS : 1 ≤ S ∧ S ≤ 100) (hN : N ≤ 100) : PS Try.prog 18 [.agg (tb S N), ints m] (.b true) := by
  have hw := h.words hS hN
  have hlen := h.len
  have hfit := fitsD_s S N hS hN m (by omega)
  rw [decide_eq_true h.len] at hfit
  have hcon : PS Try.prog 28 [.lst false 1 S fun i => [.i (m.getD (0 + i) 0)], .fn (.func 29) [.agg (dk S N m)] []] (.b false) := by
    have := contains_s (m.take S) 29 (.agg (dk S N m)) (by rw [List.length_take]; omega) (fun x hx => by
      obtain ⟨i, hi, rfl⟩ := List.getElem_of_mem hx
      rw [List.length_take] at hi
      have e : (m.take S)[i] = m.getD i 0 := by rw [List.getElem_take, getD_at m i (by omega)]
      rw [e]
      have := odd_s S N m hw (m.getD i 0) (hw.slots i (by omega))
      rwa [h.odd (by omega)] at this)
    refine fun H => (this H).le (.cons (le_lst' (by rw [List.length_take]; omega) (fun h => h) fun i hi => ?_) (LeL.refl _))
    rw [Nat.zero_add, List.getD_eq_getElem?_getD, List.getD_eq_getElem?_getD, List.getElem?_take_of_lt hi]
  have hnod := fun H => nodes_acc S N hS hN m hlen (fun i hi => by rcases hw.slots i hi with e | ⟨n, hn, e⟩ <;> omega) H
  have hfree := ffree_s m (S + 4 * N) (by omega)
  rw [h.free hN, show ((S + 4 * N : Nat) : Int) = (S : Int) + 4 * N by omega] at hfree
  rw [nodesN_eq m S (by omega)] at hnod
  have hall := h.all
  have hsum := h.sum
  have hnl := nodesN_len m S fun i hi => by rcases hw.slots i hi with e | ⟨n, hn, e⟩ <;> omega
  generalize nodesN m S = nd at *
  refine ps_in TYok Try.func18 (by kernel_rfl) Try.ntmps18 rfl rfl rfl (cl_b _) fun H => ?_
  refine aw_seq ?_
  refine aw_region ?_
  refine sq_newk TYok TYz false rfl rfl rfl True.intro fun H1 hb1 ho1 hl1 => ?_
  have e1 : H1.length = H.length + 1 := hl1
  (repeat' (first | (refine sq_id ?_; first | refine sq_nil ?_ | refine sq_move rfl rfl rfl ?_ | refine sq_assign rfl rfl rfl ?_ | refine sq_skip rfl rfl ?_ | refine sq_t TYok TYz rfl rfl rfl True.intro so ?_ | refine sq_f TYok TYz rfl rfl rfl True.intro so ?_ | refine sq_pure TYok TYz false rfl rfl rfl sd ?_ | refine sq_pure TYok TYz true rfl rfl rfl sd ?_ | refine sq_load TYok rfl rfl rfl (by assumption) (by rfl) (by first | exact Nat.zero_lt_one | assumption | omega) (by rfl) ?_ | refine sq_lit TYok TYz rfl rfl rfl rfl rfl rfl rfl rfl ?_ | refine sq_ixa TYok rfl rfl rfl rfl rfl rfl rfl sd ?_ | refine sq_ixr TYok rfl rfl rfl rfl rfl rfl rfl sd ?_) | (refine rg_id ?_; first | refine rg_fin ?_ | refine rg_move rfl rfl rfl ?_ | refine rg_assign rfl rfl rfl ?_ | refine rg_skip rfl rfl ?_ | refine rg_t TYok TYz rfl rfl rfl True.intro so ?_ | refine rg_f TYok TYz rfl rfl rfl True.intro so ?_ | refine rg_pure TYok TYz false rfl rfl rfl sd ?_ | refine rg_pure TYok TYz true rfl rfl rfl sd ?_ | refine rg_load TYok rfl rfl rfl (by assumption) (by rfl) (by first | exact Nat.zero_lt_one | assumption | omega) (by rfl) ?_ | refine rg_lit TYok TYz rfl rfl rfl rfl rfl rfl rfl rfl ?_ | refine rg_ixa TYok rfl rfl rfl rfl rfl rfl rfl sd ?_ | refine rg_ixr TYok rfl rfl rfl rfl rfl rfl rfl sd ?_) | refine aw_rseq ?_ | refine aw_seq ?_ | refine aw_region ?_ | refine aw_skip ?_ | refine aw_true rfl ?_ | refine aw_false rfl ?_ | refine aw_d0seq rfl (by kernel_rfl) ?_ | refine aw_d0 rfl (by kernel_rfl) ?_ | refine aw_block ?_ | refine aw_exit ?_ | refine then_ret ?_ | refine then_exit ?_ | refine then_normal ?_ | refine blk_ret ?_ | refine blk_normal ?_ | refine blk_exit ?_ | refine blk_pass rfl ?_))
  refine sq_newk TYok TYz false rfl rfl rfl True.intro fun H2 hb2 ho2 hl2 => ?_
  refine sq_storek TYok rfl rfl rfl hb2 rfl Nat.zero_lt_one rfl rfl rfl (Nat.le_of_ble_eq_true rfl) fun H3 hb3 ho3 hl3 => ?_
  have hb13 := ho3.get (ho2.get0 hb1) (by simp; omega)
  have hx3 : Ext H H3 := (ho1.ext.trans ho2.ext).oth ho3 (by rintro _ ⟨⟩; omega)
  have e3 : H1.length ≤ H3.length := by omega
  (repeat' (first | (refine sq_id ?_; first | refine sq_nil ?_ | refine sq_move rfl rfl rfl ?_ | refine sq_assign rfl rfl rfl ?_ | refine sq_skip rfl rfl ?_ | refine sq_t TYok TYz rfl rfl rfl True.intro so ?_ | refine sq_f TYok TYz rfl rfl rfl True.intro so ?_ | refine sq_pure TYok TYz false rfl rfl rfl sd ?_ | refine sq_pure TYok TYz true rfl rfl rfl sd ?_ | refine sq_load TYok rfl rfl rfl (by assumption) (by rfl) (by first | exact Nat.zero_lt_one | assumption | omega) (by rfl) ?_ | refine sq_lit TYok TYz rfl rfl rfl rfl rfl rfl rfl rfl ?_ | refine sq_ixa TYok rfl rfl rfl rfl rfl rfl rfl sd ?_ | refine sq_ixr TYok rfl rfl rfl rfl rfl rfl rfl sd ?_) | (refine rg_id ?_; first | refine rg_fin ?_ | refine rg_move rfl rfl rfl ?_ | refine rg_assign rfl rfl rfl ?_ | refine rg_skip rfl rfl ?_ | refine rg_t TYok TYz rfl rfl rfl True.intro so ?_ | refine rg_f TYok TYz rfl rfl rfl True.intro so ?_ | refine rg_pure TYok TYz false rfl rfl rfl sd ?_ | refine rg_pure TYok TYz true rfl rfl rfl sd ?_ | refine rg_load TYok rfl rfl rfl (by assumption) (by rfl) (by first | exact Nat.zero_lt_one | assumption | omega) (by rfl) ?_ | refine rg_lit TYok TYz rfl rfl rfl rfl rfl rfl rfl rfl ?_ | refine rg_ixa TYok rfl rfl rfl rfl rfl rfl rfl sd ?_ | refine rg_ixr TYok rfl rfl rfl rfl rfl rfl rfl sd ?_) | refine aw_rseq ?_ | refine aw_seq ?_ | refine aw_region ?_ | refine aw_skip ?_ | refine aw_true rfl ?_ | refine aw_false rfl ?_ | refine aw_block ?_ | refine aw_exit ?_ | refine then_ret ?_ | refine then_exit ?_ | refine then_normal ?_ | refine blk_ret ?_ | refine blk_normal ?_ | refine blk_exit ?_ | refine blk_pass rfl ?_))
  refine aw_draw 12 (by kernel_rfl) (by kernel_rfl) ?_
  (repeat' (first | (refine sq_id ?_; first | refine sq_nil ?_ | refine sq_move rfl rfl rfl ?_ | refine sq_assign rfl rfl rfl ?_ | refine sq_skip rfl rfl ?_ | refine sq_t TYok TYz rfl rfl rfl True.intro so ?_ | refine sq_f TYok TYz rfl rfl rfl True.intro so ?_ | refine sq_pure TYok TYz false rfl rfl rfl sd ?_ | refine sq_pure TYok TYz true rfl rfl rfl sd ?_ | refine sq_load TYok rfl rfl rfl (by assumption) (by rfl) (by first | exact Nat.zero_lt_one | assumption | omega) (by rfl) ?_ | refine sq_lit TYok TYz rfl rfl rfl rfl rfl rfl rfl rfl ?_ | refine sq_ixa TYok rfl rfl rfl rfl rfl rfl rfl sd ?_ | refine sq_ixr TYok rfl rfl rfl rfl rfl rfl rfl sd ?_ | refine rg_ps rfl rfl rfl hfit (LeL.refl _) ?_ | refine rg_ps rfl rfl rfl hcon (LeL.refl _) ?_ | refine rg_slice TYok rfl rfl rfl rfl rfl rfl (by first | rfl | exact ⟨_, rfl⟩) (by first | rfl | exact ⟨_, rfl⟩) (by omega) ?_) | (refine rg_id ?_; first | refine rg_fin ?_ | refine rg_move rfl rfl rfl ?_ | refine rg_assign rfl rfl rfl ?_ | refine rg_skip rfl rfl ?_ | refine rg_t TYok TYz rfl rfl rfl True.intro so ?_ | refine rg_f TYok TYz rfl rfl rfl True.intro so ?_ | refine rg_pure TYok TYz false rfl rfl rfl sd ?_ | refine rg_pure TYok TYz true rfl rfl rfl sd ?_ | refine rg_load TYok rfl rfl rfl (by assumption) (by rfl) (by first | exact Nat.zero_lt_one | assumption | omega) (by rfl) ?_ | refine rg_lit TYok TYz rfl rfl rfl rfl rfl rfl rfl rfl ?_ | refine rg_ixa TYok rfl rfl rfl rfl rfl rfl rfl sd ?_ | refine rg_ixr TYok rfl rfl rfl rfl rfl rfl rfl sd ?_ | refine rg_ps rfl rfl rfl hfit (LeL.refl _) ?_ | refine rg_ps rfl rfl rfl hcon (LeL.refl _) ?_ | refine rg_slice TYok rfl rfl rfl rfl rfl rfl (by first | rfl | exact ⟨_, rfl⟩) (by first | rfl | exact ⟨_, rfl⟩) (by omega) ?_) | refine aw_rseq ?_ | refine aw_seq ?_ | refine aw_region ?_ | refine aw_skip ?_ | refine aw_true rfl ?_ | refine aw_false rfl ?_ | refine aw_block ?_ | refine aw_exit ?_ | refine then_ret ?_ | refine then_exit ?_ | refine then_normal ?_ | refine blk_ret ?_ | refine blk_normal ?_ | refine blk_exit ?_ | refine blk_pass rfl ?_ | refine rg_ps rfl rfl rfl hfit (LeL.refl _) ?_ | refine rg_ps rfl rfl rfl hcon (LeL.refl _) ?_ | refine rg_slice TYok rfl rfl rfl rfl rfl rfl (by first | rfl | exact ⟨_, rfl⟩) (by first | rfl | exact ⟨_, rfl⟩) (by omega) ?_))
  repeat rw [List.append_nil]
  have hnod := hnod H3
  have hln : (intsN nd).length = nd.length := by simp [intsN]
  have hlf : (intsN F).length = F.length := by simp [intsN]
  have hlr : (intsN (List.range N)).length = N := by simp [intsN]
  have hrat : ∀ i, i < N → (intsN (List.range N)).getD i 0 = (i : Int) := fun i hi => by
    unfold intsN
    rw [List.getD_eq_getElem?_getD, List.getElem?_map, List.getElem?_range hi]; rfl
  have hnb : nd.length ≤ 100 ∧ F.length ≤ 100 := by omega
  have hle : Le (.lst false 1 ((intsN nd).length + (intsN F).length) fun j => if j < (intsN nd).length then [.i ((intsN nd).getD j 0)] else [.i ((intsN F).getD (j - (intsN nd).length) 0)]) (ints (intsN nd ++ intsN F)) := le_lst' (by rw [List.length_append]) (fun h => h) fun i hi => by
    by_cases h : i < (intsN nd).length
    · rw [if_pos h, List.getD_eq_getElem?_getD, List.getD_eq_getElem?_getD, List.getElem?_append_left h]
    · rw [if_neg h, List.getD_eq_getElem?_getD, List.getD_eq_getElem?_getD, List.getElem?_append_right (by omega)]
  have hso := fun {H : AH} {id : Nat} (hb : H[id]? = some (some (bxI (intsN nd ++ intsN F)))) => sorted_s hb (by rw [List.length_append]; omega)
  rw [hall] at hso
  refine aw_mid [2, 6] (fun _ : Unit => [(2, .ref H.length 2 0 0), (6, ints (intsN (List.range N)))]) (fun _ H' => Ext H H' ∧ H'[H.length]? = some (some ⟨26, 2, 1, fun _ => tb S N⟩)) ?_ ?_
  ·
    have fin : ∀ {H4 H5 H6 : AH} {fa : AV} {g : Nat → List AV}, Ext H3 H4 → Acc H3.length H4 fa 3 1 (intsN nd).length g → Oth H4 H5 (accId fa) → Oth H5 H6 none → Ext H H6 ∧ H6[H.length]? = some (some ⟨26, 2, 1, fun _ => tb S N⟩) := fun h1 h2 h3 h4 => ⟨((hx3.trans h1).acc (h2.low (by omega)) h3).trans h4.ext, h4.get0 (h3.get (h1.2 _ _ hb13) (acc_ne h2 (by omega)))⟩
    have e13 : H.length ≤ H3.length := by omega
    have hn1 : ((intsN nd).length + (intsN F).length) * 8 ≤ 140737488355328 := by omega
    have hn2 : (intsN nd).length + (intsN F).length ≤ 9223372036854775807 := by omega
    refine aw_all (by kernel_rfl) 15 rfl ?_
    refine ay_e 1 rfl (by kernel_rfl) (by kernel_rfl) ?_
    refine sq_move rfl rfl rfl ?_
    refine sq_nil ?_
    refine ay_e 3 rfl (by kernel_rfl) (by kernel_rfl) ?_
    refine sq_move rfl rfl rfl ?_
    refine sq_nil ?_
    refine ay_e 4 rfl (by kernel_rfl) (by kernel_rfl) ?_
    refine sq_pure TYok TYz false rfl rfl rfl sd ?_
    refine sq_nil ?_
    refine ay_e 6 rfl (by kernel_rfl) (by kernel_rfl) ?_
    refine sq_pure TYok TYz false rfl rfl rfl sd ?_
    refine sq_nil ?_
    refine ay_3 0 5 7 (by kernel_rfl) rfl rfl rfl rfl rfl rfl  ?_ ?_ ?_
    · refine sq_load TYok rfl rfl rfl (by first | exact hb13 | exact hx4.2 _ _ hb13) rfl Nat.zero_lt_one rfl ?_
      refine sq_nil ?_
      refine ay_3 2 5 7 (by kernel_rfl) rfl rfl rfl rfl rfl rfl  ?_ ?_ ?_
      · refine sq_call rfl rfl rfl (LeL.refl _) (hnod.mono fun fa H4 ⟨hx4, ha4⟩ => ?_)
        refine sq_nil ?_
        refine ay_2 5 7 (by kernel_rfl) rfl rfl rfl rfl  ?_ ?_
        · refine sq_load TYok rfl rfl rfl (by first | exact hb13 | exact hx4.2 _ _ hb13) rfl Nat.zero_lt_one rfl ?_
          refine sq_nil ?_
          refine ay_1 7 (by kernel_rfl) rfl rfl ?_
          refine sq_load TYok rfl rfl rfl (by first | exact hb13 | exact hx4.2 _ _ hb13) rfl Nat.zero_lt_one rfl ?_
          refine sq_nil ?_
          refine ay_1 8 (by kernel_rfl) rfl rfl ?_
          refine sq_pure TYok TYz false rfl rfl rfl sd ?_
          refine sq_nil ?_
          refine ay_1 9 (by kernel_rfl) rfl rfl ?_
          refine sq_pure TYok TYz false rfl rfl rfl sd ?_
          refine sq_nil ?_
          refine ay_1 10 (by kernel_rfl) rfl rfl ?_
          refine sq_ps rfl rfl rfl hfree (LeL.refl _) ?_
          refine sq_nil ?_
          refine ay_1 11 (by kernel_rfl) rfl rfl ?_
          refine sq_appz TYok TYz rfl rfl rfl rfl rfl rfl rfl (by decide) (ha4.low e13) (.lst _ _ _ _) hn1 hn2 fun H5 ho5 => ?_
          refine sq_nil ?_
          refine ay_1 12 (by kernel_rfl) rfl rfl ?_
          refine sq_call rfl rfl rfl (.cons hle .nil) ((vals_s _ _).mono fun r H6 h6 => ?_)
          obtain ⟨rfl, hv6, ho6, hl6⟩ := h6
          refine sq_nil ?_
          refine ay_1 13 (by kernel_rfl) rfl rfl ?_
          refine sq_call rfl rfl rfl (LeL.refl _) ((hso hv6).mono fun r H7 h7 => ?_)
          obtain ⟨rfl, rfl⟩ := h7
          refine sq_nil ?_
          refine ay_e 14 rfl (by kernel_rfl) (by kernel_rfl) ?_
          refine sq_assign rfl rfl rfl ?_
          refine sq_nil ?_
          refine ay_done (by kernel_rfl) ?_
          exact then_normal ⟨(), _, by rw [rstf_eq]; rfl, .refl _, fin hx4 ha4 ho5 ho6⟩
        · refine sq_load TYok rfl rfl rfl (by first | exact hb13 | exact hx4.2 _ _ hb13) rfl Nat.zero_lt_one rfl ?_
          refine sq_nil ?_
          refine ay_2 5 8 (by kernel_rfl) rfl rfl rfl rfl  ?_ ?_
          · refine sq_load TYok rfl rfl rfl (by first | exact hb13 | exact hx4.2 _ _ hb13) rfl Nat.zero_lt_one rfl ?_
            refine sq_nil ?_
            refine ay_1 8 (by kernel_rfl) rfl rfl ?_
            refine sq_pure TYok TYz false rfl rfl rfl sd ?_
            refine sq_nil ?_
            refine ay_1 9 (by kernel_rfl) rfl rfl ?_
            refine sq_pure TYok TYz false rfl rfl rfl sd ?_
            refine sq_nil ?_
            refine ay_1 10 (by kernel_rfl) rfl rfl ?_
            refine sq_ps rfl rfl rfl hfree (LeL.refl _) ?_
            refine sq_nil ?_
            refine ay_1 11 (by kernel_rfl) rfl rfl ?_
            refine sq_appz TYok TYz rfl rfl rfl rfl rfl rfl rfl (by decide) (ha4.low e13) (.lst _ _ _ _) hn1 hn2 fun H5 ho5 => ?_
            refine sq_nil ?_
            refine ay_1 12 (by kernel_rfl) rfl rfl ?_
            refine sq_call rfl rfl rfl (.cons hle .nil) ((vals_s _ _).mono fun r H6 h6 => ?_)
            obtain ⟨rfl, hv6, ho6, hl6⟩ := h6
            refine sq_nil ?_
            refine ay_1 13 (by kernel_rfl) rfl rfl ?_
            refine sq_call rfl rfl rfl (LeL.refl _) ((hso hv6).mono fun r H7 h7 => ?_)
            obtain ⟨rfl, rfl⟩ := h7
            refine sq_nil ?_
            refine ay_e 14 rfl (by kernel_rfl) (by kernel_rfl) ?_
            refine sq_assign rfl rfl rfl ?_
            refine sq_nil ?_
            refine ay_done (by kernel_rfl) ?_
            exact then_normal ⟨(), _, by rw [rstf_eq]; rfl, .refl _, fin hx4 ha4 ho5 ho6⟩
          · refine sq_pure TYok TYz false rfl rfl rfl sd ?_
            refine sq_nil ?_
            refine ay_1 5 (by kernel_rfl) rfl rfl ?_
            refine sq_load TYok rfl rfl rfl (by first | exact hb13 | exact hx4.2 _ _ hb13) rfl Nat.zero_lt_one rfl ?_
            refine sq_nil ?_
            refine ay_1 9 (by kernel_rfl) rfl rfl ?_
            refine sq_pure TYok TYz false rfl rfl rfl sd ?_
            refine sq_nil ?_
            refine ay_1 10 (by kernel_rfl) rfl rfl ?_
            refine sq_ps rfl rfl rfl hfree (LeL.refl _) ?_
            refine sq_nil ?_
            refine ay_1 11 (by kernel_rfl) rfl rfl ?_
            refine sq_appz TYok TYz rfl rfl rfl rfl rfl rfl rfl (by decide) (ha4.low e13) (.lst _ _ _ _) hn1 hn2 fun H5 ho5 => ?_
            refine sq_nil ?_
            refine ay_1 12 (by kernel_rfl) rfl rfl ?_
            refine sq_call rfl rfl rfl (.cons hle .nil) ((vals_s _ _).mono fun r H6 h6 => ?_)
            obtain ⟨rfl, hv6, ho6, hl6⟩ := h6
            refine sq_nil ?_
            refine ay_1 13 (by kernel_rfl) rfl rfl ?_
            refine sq_call rfl rfl rfl (LeL.refl _) ((hso hv6).mono fun r H7 h7 => ?_)
            obtain ⟨rfl, rfl⟩ := h7
            refine sq_nil ?_
            refine ay_e 14 rfl (by kernel_rfl) (by kernel_rfl) ?_
            refine sq_assign rfl rfl rfl ?_
            refine sq_nil ?_
            refine ay_done (by kernel_rfl) ?_
            exact then_normal ⟨(), _, by rw [rstf_eq]; rfl, .refl _, fin hx4 ha4 ho5 ho6⟩
      · refine sq_load TYok rfl rfl rfl (by first | exact hb13 | exact hx4.2 _ _ hb13) rfl Nat.zero_lt_one rfl ?_
        refine sq_nil ?_
        refine ay_2 2 7 (by kernel_rfl) rfl rfl rfl rfl  ?_ ?_
        · refine sq_call rfl rfl rfl (LeL.refl _) (hnod.mono fun fa H4 ⟨hx4, ha4⟩ => ?_)
          refine sq_nil ?_
          refine ay_1 7 (by kernel_rfl) rfl rfl ?_
          refine sq_load TYok rfl rfl rfl (by first | exact hb13 | exact hx4.2 _ _ hb13) rfl Nat.zero_lt_one rfl ?_
          refine sq_nil ?_
          refine ay_1 8 (by kernel_rfl) rfl rfl ?_
          refine sq_pure TYok TYz false rfl rfl rfl sd ?_
          refine sq_nil ?_
          refine ay_1 9 (by kernel_rfl) rfl rfl ?_
          refine sq_pure TYok TYz false rfl rfl rfl sd ?_
          refine sq_nil ?_
          refine ay_1 10 (by kernel_rfl) rfl rfl ?_
          refine sq_ps rfl rfl rfl hfree (LeL.refl _) ?_
          refine sq_nil ?_
          refine ay_1 11 (by kernel_rfl) rfl rfl ?_
          refine sq_appz TYok TYz rfl rfl rfl rfl rfl rfl rfl (by decide) (ha4.low e13) (.lst _ _ _ _) hn1 hn2 fun H5 ho5 => ?_
          refine sq_nil ?_
          refine ay_1 12 (by kernel_rfl) rfl rfl ?_
          refine sq_call rfl rfl rfl (.cons hle .nil) ((vals_s _ _).mono fun r H6 h6 => ?_)
          obtain ⟨rfl, hv6, ho6, hl6⟩ := h6
          refine sq_nil ?_
          refine ay_1 13 (by kernel_rfl) rfl rfl ?_
          refine sq_call rfl rfl rfl (LeL.refl _) ((hso hv6).mono fun r H7 h7 => ?_)
          obtain ⟨rfl, rfl⟩ := h7
          refine sq_nil ?_
          refine ay_e 14 rfl (by kernel_rfl) (by kernel_rfl) ?_
          refine sq_assign rfl rfl rfl ?_
          refine sq_nil ?_
          refine ay_done (by kernel_rfl) ?_
          exact then_normal ⟨(), _, by rw [rstf_eq]; rfl, .refl _, fin hx4 ha4 ho5 ho6⟩
        · refine sq_load TYok rfl rfl rfl (by first | exact hb13 | exact hx4.2 _ _ hb13) rfl Nat.zero_lt_one rfl ?_
          refine sq_nil ?_
          refine ay_2 2 8 (by kernel_rfl) rfl rfl rfl rfl  ?_ ?_
          · refine sq_call rfl rfl rfl (LeL.refl _) (hnod.mono fun fa H4 ⟨hx4, ha4⟩ => ?_)
            refine sq_nil ?_
            refine ay_1 8 (by kernel_rfl) rfl rfl ?_
            refine sq_pure TYok TYz false rfl rfl rfl sd ?_
            refine sq_nil ?_
            refine ay_1 9 (by kernel_rfl) rfl rfl ?_
            refine sq_pure TYok TYz false rfl rfl rfl sd ?_
            refine sq_nil ?_
            refine ay_1 10 (by kernel_rfl) rfl rfl ?_
            refine sq_ps rfl rfl rfl hfree (LeL.refl _) ?_
            refine sq_nil ?_
            refine ay_1 11 (by kernel_rfl) rfl rfl ?_
            refine sq_appz TYok TYz rfl rfl rfl rfl rfl rfl rfl (by decide) (ha4.low e13) (.lst _ _ _ _) hn1 hn2 fun H5 ho5 => ?_
            refine sq_nil ?_
            refine ay_1 12 (by kernel_rfl) rfl rfl ?_
            refine sq_call rfl rfl rfl (.cons hle .nil) ((vals_s _ _).mono fun r H6 h6 => ?_)
            obtain ⟨rfl, hv6, ho6, hl6⟩ := h6
            refine sq_nil ?_
            refine ay_1 13 (by kernel_rfl) rfl rfl ?_
            refine sq_call rfl rfl rfl (LeL.refl _) ((hso hv6).mono fun r H7 h7 => ?_)
            obtain ⟨rfl, rfl⟩ := h7
            refine sq_nil ?_
            refine ay_e 14 rfl (by kernel_rfl) (by kernel_rfl) ?_
            refine sq_assign rfl rfl rfl ?_
            refine sq_nil ?_
            refine ay_done (by kernel_rfl) ?_
            exact then_normal ⟨(), _, by rw [rstf_eq]; rfl, .refl _, fin hx4 ha4 ho5 ho6⟩
          · refine sq_pure TYok TYz false rfl rfl rfl sd ?_
            refine sq_nil ?_
            refine ay_2 2 9 (by kernel_rfl) rfl rfl rfl rfl  ?_ ?_
            · refine sq_call rfl rfl rfl (LeL.refl _) (hnod.mono fun fa H4 ⟨hx4, ha4⟩ => ?_)
              refine sq_nil ?_
              refine ay_1 9 (by kernel_rfl) rfl rfl ?_
              refine sq_pure TYok TYz false rfl rfl rfl sd ?_
              refine sq_nil ?_
              refine ay_1 10 (by kernel_rfl) rfl rfl ?_
              refine sq_ps rfl rfl rfl hfree (LeL.refl _) ?_
              refine sq_nil ?_
              refine ay_1 11 (by kernel_rfl) rfl rfl ?_
              refine sq_appz TYok TYz rfl rfl rfl rfl rfl rfl rfl (by decide) (ha4.low e13) (.lst _ _ _ _) hn1 hn2 fun H5 ho5 => ?_
              refine sq_nil ?_
              refine ay_1 12 (by kernel_rfl) rfl rfl ?_
              refine sq_call rfl rfl rfl (.cons hle .nil) ((vals_s _ _).mono fun r H6 h6 => ?_)
              obtain ⟨rfl, hv6, ho6, hl6⟩ := h6
              refine sq_nil ?_
              refine ay_1 13 (by kernel_rfl) rfl rfl ?_
              refine sq_call rfl rfl rfl (LeL.refl _) ((hso hv6).mono fun r H7 h7 => ?_)
              obtain ⟨rfl, rfl⟩ := h7
              refine sq_nil ?_
              refine ay_e 14 rfl (by kernel_rfl) (by kernel_rfl) ?_
              refine sq_assign rfl rfl rfl ?_
              refine sq_nil ?_
              refine ay_done (by kernel_rfl) ?_
              exact then_normal ⟨(), _, by rw [rstf_eq]; rfl, .refl _, fin hx4 ha4 ho5 ho6⟩
            · refine sq_pure TYok TYz false rfl rfl rfl sd ?_
              refine sq_nil ?_
              refine ay_1 2 (by kernel_rfl) rfl rfl ?_
              refine sq_call rfl rfl rfl (LeL.refl _) (hnod.mono fun fa H4 ⟨hx4, ha4⟩ => ?_)
              refine sq_nil ?_
              refine ay_1 10 (by kernel_rfl) rfl rfl ?_
              refine sq_ps rfl rfl rfl hfree (LeL.refl _) ?_
              refine sq_nil ?_
              refine ay_1 11 (by kernel_rfl) rfl rfl ?_
              refine sq_appz TYok TYz rfl rfl rfl rfl rfl rfl rfl (by decide) (ha4.low e13) (.lst _ _ _ _) hn1 hn2 fun H5 ho5 => ?_
              refine sq_nil ?_
              refine ay_1 12 (by kernel_rfl) rfl rfl ?_
              refine sq_call rfl rfl rfl (.cons hle .nil) ((vals_s _ _).mono fun r H6 h6 => ?_)
              obtain ⟨rfl, hv6, ho6, hl6⟩ := h6
              refine sq_nil ?_
              refine ay_1 13 (by kernel_rfl) rfl rfl ?_
              refine sq_call rfl rfl rfl (LeL.refl _) ((hso hv6).mono fun r H7 h7 => ?_)
              obtain ⟨rfl, rfl⟩ := h7
              refine sq_nil ?_
              refine ay_e 14 rfl (by kernel_rfl) (by kernel_rfl) ?_
              refine sq_assign rfl rfl rfl ?_
              refine sq_nil ?_
              refine ay_done (by kernel_rfl) ?_
              exact then_normal ⟨(), _, by rw [rstf_eq]; rfl, .refl _, fin hx4 ha4 ho5 ho6⟩
      · refine sq_load TYok rfl rfl rfl (by first | exact hb13 | exact hx4.2 _ _ hb13) rfl Nat.zero_lt_one rfl ?_
        refine sq_nil ?_
        refine ay_3 2 5 8 (by kernel_rfl) rfl rfl rfl rfl rfl rfl  ?_ ?_ ?_
        · refine sq_call rfl rfl rfl (LeL.refl _) (hnod.mono fun fa H4 ⟨hx4, ha4⟩ => ?_)
          refine sq_nil ?_
          refine ay_2 5 8 (by kernel_rfl) rfl rfl rfl rfl  ?_ ?_
          · refine sq_load TYok rfl rfl rfl (by first | exact hb13 | exact hx4.2 _ _ hb13) rfl Nat.zero_lt_one rfl ?_
            refine sq_nil ?_
            refine ay_1 8 (by kernel_rfl) rfl rfl ?_
            refine sq_pure TYok TYz false rfl rfl rfl sd ?_
            refine sq_nil ?_
            refine ay_1 9 (by kernel_rfl) rfl rfl ?_
            refine sq_pure TYok TYz false rfl rfl rfl sd ?_
            refine sq_nil ?_
            refine ay_1 10 (by kernel_rfl) rfl rfl ?_
            refine sq_ps rfl rfl rfl hfree (LeL.refl _) ?_
            refine sq_nil ?_
            refine ay_1 11 (by kernel_rfl) rfl rfl ?_
            refine sq_appz TYok TYz rfl rfl rfl rfl rfl rfl rfl (by decide) (ha4.low e13) (.lst _ _ _ _) hn1 hn2 fun H5 ho5 => ?_
            refine sq_nil ?_
            refine ay_1 12 (by kernel_rfl) rfl rfl ?_
            refine sq_call rfl rfl rfl (.cons hle .nil) ((vals_s _ _).mono fun r H6 h6 => ?_)
            obtain ⟨rfl, hv6, ho6, hl6⟩ := h6
            refine sq_nil ?_
            refine ay_1 13 (by kernel_rfl) rfl rfl ?_
            refine sq_call rfl rfl rfl (LeL.refl _) ((hso hv6).mono fun r H7 h7 => ?_)
            obtain ⟨rfl, rfl⟩ := h7
            refine sq_nil ?_
            refine ay_e 14 rfl (by kernel_rfl) (by kernel_rfl) ?_
            refine sq_assign rfl rfl rfl ?_
            refine sq_nil ?_
            refine ay_done (by kernel_rfl) ?_
            exact then_normal ⟨(), _, by rw [rstf_eq]; rfl, .refl _, fin hx4 ha4 ho5 ho6⟩
          · refine sq_pure TYok TYz false rfl rfl rfl sd ?_
            refine sq_nil ?_
            refine ay_1 5 (by kernel_rfl) rfl rfl ?_
            refine sq_load TYok rfl rfl rfl (by first | exact hb13 | exact hx4.2 _ _ hb13) rfl Nat.zero_lt_one rfl ?_
            refine sq_nil ?_
            refine ay_1 9 (by kernel_rfl) rfl rfl ?_
            refine sq_pure TYok TYz false rfl rfl rfl sd ?_
            refine sq_nil ?_
            refine ay_1 10 (by kernel_rfl) rfl rfl ?_
            refine sq_ps rfl rfl rfl hfree (LeL.refl _) ?_
            refine sq_nil ?_
            refine ay_1 11 (by kernel_rfl) rfl rfl ?_
            refine sq_appz TYok TYz rfl rfl rfl rfl rfl rfl rfl (by decide) (ha4.low e13) (.lst _ _ _ _) hn1 hn2 fun H5 ho5 => ?_
            refine sq_nil ?_
            refine ay_1 12 (by kernel_rfl) rfl rfl ?_
            refine sq_call rfl rfl rfl (.cons hle .nil) ((vals_s _ _).mono fun r H6 h6 => ?_)
            obtain ⟨rfl, hv6, ho6, hl6⟩ := h6
            refine sq_nil ?_
            refine ay_1 13 (by kernel_rfl) rfl rfl ?_
            refine sq_call rfl rfl rfl (LeL.refl _) ((hso hv6).mono fun r H7 h7 => ?_)
            obtain ⟨rfl, rfl⟩ := h7
            refine sq_nil ?_
            refine ay_e 14 rfl (by kernel_rfl) (by kernel_rfl) ?_
            refine sq_assign rfl rfl rfl ?_
            refine sq_nil ?_
            refine ay_done (by kernel_rfl) ?_
            exact then_normal ⟨(), _, by rw [rstf_eq]; rfl, .refl _, fin hx4 ha4 ho5 ho6⟩
        · refine sq_load TYok rfl rfl rfl (by first | exact hb13 | exact hx4.2 _ _ hb13) rfl Nat.zero_lt_one rfl ?_
          refine sq_nil ?_
          refine ay_2 2 8 (by kernel_rfl) rfl rfl rfl rfl  ?_ ?_
          · refine sq_call rfl rfl rfl (LeL.refl _) (hnod.mono fun fa H4 ⟨hx4, ha4⟩ => ?_)
            refine sq_nil ?_
            refine ay_1 8 (by kernel_rfl) rfl rfl ?_
            refine sq_pure TYok TYz false rfl rfl rfl sd ?_
            refine sq_nil ?_
            refine ay_1 9 (by kernel_rfl) rfl rfl ?_
            refine sq_pure TYok TYz false rfl rfl rfl sd ?_
            refine sq_nil ?_
            refine ay_1 10 (by kernel_rfl) rfl rfl ?_
            refine sq_ps rfl rfl rfl hfree (LeL.refl _) ?_
            refine sq_nil ?_
            refine ay_1 11 (by kernel_rfl) rfl rfl ?_
            refine sq_appz TYok TYz rfl rfl rfl rfl rfl rfl rfl (by decide) (ha4.low e13) (.lst _ _ _ _) hn1 hn2 fun H5 ho5 => ?_
            refine sq_nil ?_
            refine ay_1 12 (by kernel_rfl) rfl rfl ?_
            refine sq_call rfl rfl rfl (.cons hle .nil) ((vals_s _ _).mono fun r H6 h6 => ?_)
            obtain ⟨rfl, hv6, ho6, hl6⟩ := h6
            refine sq_nil ?_
            refine ay_1 13 (by kernel_rfl) rfl rfl ?_
            refine sq_call rfl rfl rfl (LeL.refl _) ((hso hv6).mono fun r H7 h7 => ?_)
            obtain ⟨rfl, rfl⟩ := h7
            refine sq_nil ?_
            refine ay_e 14 rfl (by kernel_rfl) (by kernel_rfl) ?_
            refine sq_assign rfl rfl rfl ?_
            refine sq_nil ?_
            refine ay_done (by kernel_rfl) ?_
            exact then_normal ⟨(), _, by rw [rstf_eq]; rfl, .refl _, fin hx4 ha4 ho5 ho6⟩
          · refine sq_pure TYok TYz false rfl rfl rfl sd ?_
            refine sq_nil ?_
            refine ay_2 2 9 (by kernel_rfl) rfl rfl rfl rfl  ?_ ?_
            · refine sq_call rfl rfl rfl (LeL.refl _) (hnod.mono fun fa H4 ⟨hx4, ha4⟩ => ?_)
              refine sq_nil ?_
              refine ay_1 9 (by kernel_rfl) rfl rfl ?_
              refine sq_pure TYok TYz false rfl rfl rfl sd ?_
              refine sq_nil ?_
              refine ay_1 10 (by kernel_rfl) rfl rfl ?_
              refine sq_ps rfl rfl rfl hfree (LeL.refl _) ?_
              refine sq_nil ?_
              refine ay_1 11 (by kernel_rfl) rfl rfl ?_
              refine sq_appz TYok TYz rfl rfl rfl rfl rfl rfl rfl (by decide) (ha4.low e13) (.lst _ _ _ _) hn1 hn2 fun H5 ho5 => ?_
              refine sq_nil ?_
              refine ay_1 12 (by kernel_rfl) rfl rfl ?_
              refine sq_call rfl rfl rfl (.cons hle .nil) ((vals_s _ _).mono fun r H6 h6 => ?_)
              obtain ⟨rfl, hv6, ho6, hl6⟩ := h6
              refine sq_nil ?_
              refine ay_1 13 (by kernel_rfl) rfl rfl ?_
              refine sq_call rfl rfl rfl (LeL.refl _) ((hso hv6).mono fun r H7 h7 => ?_)
              obtain ⟨rfl, rfl⟩ := h7
              refine sq_nil ?_
              refine ay_e 14 rfl (by kernel_rfl) (by kernel_rfl) ?_
              refine sq_assign rfl rfl rfl ?_
              refine sq_nil ?_
              refine ay_done (by kernel_rfl) ?_
              exact then_normal ⟨(), _, by rw [rstf_eq]; rfl, .refl _, fin hx4 ha4 ho5 ho6⟩
            · refine sq_pure TYok TYz false rfl rfl rfl sd ?_
              refine sq_nil ?_
              refine ay_1 2 (by kernel_rfl) rfl rfl ?_
              refine sq_call rfl rfl rfl (LeL.refl _) (hnod.mono fun fa H4 ⟨hx4, ha4⟩ => ?_)
              refine sq_nil ?_
              refine ay_1 10 (by kernel_rfl) rfl rfl ?_
              refine sq_ps rfl rfl rfl hfree (LeL.refl _) ?_
              refine sq_nil ?_
              refine ay_1 11 (by kernel_rfl) rfl rfl ?_
              refine sq_appz TYok TYz rfl rfl rfl rfl rfl rfl rfl (by decide) (ha4.low e13) (.lst _ _ _ _) hn1 hn2 fun H5 ho5 => ?_
              refine sq_nil ?_
              refine ay_1 12 (by kernel_rfl) rfl rfl ?_
              refine sq_call rfl rfl rfl (.cons hle .nil) ((vals_s _ _).mono fun r H6 h6 => ?_)
              obtain ⟨rfl, hv6, ho6, hl6⟩ := h6
              refine sq_nil ?_
              refine ay_1 13 (by kernel_rfl) rfl rfl ?_
              refine sq_call rfl rfl rfl (LeL.refl _) ((hso hv6).mono fun r H7 h7 => ?_)
              obtain ⟨rfl, rfl⟩ := h7
              refine sq_nil ?_
              refine ay_e 14 rfl (by kernel_rfl) (by kernel_rfl) ?_
              refine sq_assign rfl rfl rfl ?_
              refine sq_nil ?_
              refine ay_done (by kernel_rfl) ?_
              exact then_normal ⟨(), _, by rw [rstf_eq]; rfl, .refl _, fin hx4 ha4 ho5 ho6⟩
        · refine sq_pure TYok TYz false rfl rfl rfl sd ?_
          refine sq_nil ?_
          refine ay_2 2 5 (by kernel_rfl) rfl rfl rfl rfl  ?_ ?_
          · refine sq_call rfl rfl rfl (LeL.refl _) (hnod.mono fun fa H4 ⟨hx4, ha4⟩ => ?_)
            refine sq_nil ?_
            refine ay_1 5 (by kernel_rfl) rfl rfl ?_
            refine sq_load TYok rfl rfl rfl (by first | exact hb13 | exact hx4.2 _ _ hb13) rfl Nat.zero_lt_one rfl ?_
            refine sq_nil ?_
            refine ay_1 9 (by kernel_rfl) rfl rfl ?_
            refine sq_pure TYok TYz false rfl rfl rfl sd ?_
            refine sq_nil ?_
            refine ay_1 10 (by kernel_rfl) rfl rfl ?_
            refine sq_ps rfl rfl rfl hfree (LeL.refl _) ?_
            refine sq_nil ?_
            refine ay_1 11 (by kernel_rfl) rfl rfl ?_
            refine sq_appz TYok TYz rfl rfl rfl rfl rfl rfl rfl (by decide) (ha4.low e13) (.lst _ _ _ _) hn1 hn2 fun H5 ho5 => ?_
            refine sq_nil ?_
            refine ay_1 12 (by kernel_rfl) rfl rfl ?_
            refine sq_call rfl rfl rfl (.cons hle .nil) ((vals_s _ _).mono fun r H6 h6 => ?_)
            obtain ⟨rfl, hv6, ho6, hl6⟩ := h6
            refine sq_nil ?_
            refine ay_1 13 (by kernel_rfl) rfl rfl ?_
            refine sq_call rfl rfl rfl (LeL.refl _) ((hso hv6).mono fun r H7 h7 => ?_)
            obtain ⟨rfl, rfl⟩ := h7
            refine sq_nil ?_
            refine ay_e 14 rfl (by kernel_rfl) (by kernel_rfl) ?_
            refine sq_assign rfl rfl rfl ?_
            refine sq_nil ?_
            refine ay_done (by kernel_rfl) ?_
            exact then_normal ⟨(), _, by rw [rstf_eq]; rfl, .refl _, fin hx4 ha4 ho5 ho6⟩
          · refine sq_load TYok rfl rfl rfl (by first | exact hb13 | exact hx4.2 _ _ hb13) rfl Nat.zero_lt_one rfl ?_
            refine sq_nil ?_
            refine ay_2 2 9 (by kernel_rfl) rfl rfl rfl rfl  ?_ ?_
            · refine sq_call rfl rfl rfl (LeL.refl _) (hnod.mono fun fa H4 ⟨hx4, ha4⟩ => ?_)
              refine sq_nil ?_
              refine ay_1 9 (by kernel_rfl) rfl rfl ?_
              refine sq_pure TYok TYz false rfl rfl rfl sd ?_
              refine sq_nil ?_
              refine ay_1 10 (by kernel_rfl) rfl rfl ?_
              refine sq_ps rfl rfl rfl hfree (LeL.refl _) ?_
              refine sq_nil ?_
              refine ay_1 11 (by kernel_rfl) rfl rfl ?_
              refine sq_appz TYok TYz rfl rfl rfl rfl rfl rfl rfl (by decide) (ha4.low e13) (.lst _ _ _ _) hn1 hn2 fun H5 ho5 => ?_
              refine sq_nil ?_
              refine ay_1 12 (by kernel_rfl) rfl rfl ?_
              refine sq_call rfl rfl rfl (.cons hle .nil) ((vals_s _ _).mono fun r H6 h6 => ?_)
              obtain ⟨rfl, hv6, ho6, hl6⟩ := h6
              refine sq_nil ?_
              refine ay_1 13 (by kernel_rfl) rfl rfl ?_
              refine sq_call rfl rfl rfl (LeL.refl _) ((hso hv6).mono fun r H7 h7 => ?_)
              obtain ⟨rfl, rfl⟩ := h7
              refine sq_nil ?_
              refine ay_e 14 rfl (by kernel_rfl) (by kernel_rfl) ?_
              refine sq_assign rfl rfl rfl ?_
              refine sq_nil ?_
              refine ay_done (by kernel_rfl) ?_
              exact then_normal ⟨(), _, by rw [rstf_eq]; rfl, .refl _, fin hx4 ha4 ho5 ho6⟩
            · refine sq_pure TYok TYz false rfl rfl rfl sd ?_
              refine sq_nil ?_
              refine ay_1 2 (by kernel_rfl) rfl rfl ?_
              refine sq_call rfl rfl rfl (LeL.refl _) (hnod.mono fun fa H4 ⟨hx4, ha4⟩ => ?_)
              refine sq_nil ?_
              refine ay_1 10 (by kernel_rfl) rfl rfl ?_
              refine sq_ps rfl rfl rfl hfree (LeL.refl _) ?_
              refine sq_nil ?_
              refine ay_1 11 (by kernel_rfl) rfl rfl ?_
              refine sq_appz TYok TYz rfl rfl rfl rfl rfl rfl rfl (by decide) (ha4.low e13) (.lst _ _ _ _) hn1 hn2 fun H5 ho5 => ?_
              refine sq_nil ?_
              refine ay_1 12 (by kernel_rfl) rfl rfl ?_
              refine sq_call rfl rfl rfl (.cons hle .nil) ((vals_s _ _).mono fun r H6 h6 => ?_)
              obtain ⟨rfl, hv6, ho6, hl6⟩ := h6
              refine sq_nil ?_
              refine ay_1 13 (by kernel_rfl) rfl rfl ?_
              refine sq_call rfl rfl rfl (LeL.refl _) ((hso hv6).mono fun r H7 h7 => ?_)
              obtain ⟨rfl, rfl⟩ := h7
              refine sq_nil ?_
              refine ay_e 14 rfl (by kernel_rfl) (by kernel_rfl) ?_
              refine sq_assign rfl rfl rfl ?_
              refine sq_nil ?_
              refine ay_done (by kernel_rfl) ?_
              exact then_normal ⟨(), _, by rw [rstf_eq]; rfl, .refl _, fin hx4 ha4 ho5 ho6⟩
    · refine sq_load TYok rfl rfl rfl (by first | exact hb13 | exact hx4.2 _ _ hb13) rfl Nat.zero_lt_one rfl ?_
      refine sq_nil ?_
      refine ay_2 0 7 (by kernel_rfl) rfl rfl rfl rfl  ?_ ?_
      · refine sq_load TYok rfl rfl rfl (by first | exact hb13 | exact hx4.2 _ _ hb13) rfl Nat.zero_lt_one rfl ?_
        refine sq_nil ?_
        refine ay_2 2 7 (by kernel_rfl) rfl rfl rfl rfl  ?_ ?_
        · refine sq_call rfl rfl rfl (LeL.refl _) (hnod.mono fun fa H4 ⟨hx4, ha4⟩ => ?_)
          refine sq_nil ?_
          refine ay_1 7 (by kernel_rfl) rfl rfl ?_
          refine sq_load TYok rfl rfl rfl (by first | exact hb13 | exact hx4.2 _ _ hb13) rfl Nat.zero_lt_one rfl ?_
          refine sq_nil ?_
          refine ay_1 8 (by kernel_rfl) rfl rfl ?_
          refine sq_pure TYok TYz false rfl rfl rfl sd ?_
          refine sq_nil ?_
          refine ay_1 9 (by kernel_rfl) rfl rfl ?_
          refine sq_pure TYok TYz false rfl rfl rfl sd ?_
          refine sq_nil ?_
          refine ay_1 10 (by kernel_rfl) rfl rfl ?_
          refine sq_ps rfl rfl rfl hfree (LeL.refl _) ?_
          refine sq_nil ?_
          refine ay_1 11 (by kernel_rfl) rfl rfl ?_
          refine sq_appz TYok TYz rfl rfl rfl rfl rfl rfl rfl (by decide) (ha4.low e13) (.lst _ _ _ _) hn1 hn2 fun H5 ho5 => ?_
          refine sq_nil ?_
          refine ay_1 12 (by kernel_rfl) rfl rfl ?_
          refine sq_call rfl rfl rfl (.cons hle .nil) ((vals_s _ _).mono fun r H6 h6 => ?_)
          obtain ⟨rfl, hv6, ho6, hl6⟩ := h6
          refine sq_nil ?_
          refine ay_1 13 (by kernel_rfl) rfl rfl ?_
          refine sq_call rfl rfl rfl (LeL.refl _) ((hso hv6).mono fun r H7 h7 => ?_)
          obtain ⟨rfl, rfl⟩ := h7
          refine sq_nil ?_
          refine ay_e 14 rfl (by kernel_rfl) (by kernel_rfl) ?_
          refine sq_assign rfl rfl rfl ?_
          refine sq_nil ?_
          refine ay_done (by kernel_rfl) ?_
          exact then_normal ⟨(), _, by rw [rstf_eq]; rfl, .refl _, fin hx4 ha4 ho5 ho6⟩
        · refine sq_load TYok rfl rfl rfl (by first | exact hb13 | exact hx4.2 _ _ hb13) rfl Nat.zero_lt_one rfl ?_
          refine sq_nil ?_
          refine ay_2 2 8 (by kernel_rfl) rfl rfl rfl rfl  ?_ ?_
          · refine sq_call rfl rfl rfl (LeL.refl _) (hnod.mono fun fa H4 ⟨hx4, ha4⟩ => ?_)
            refine sq_nil ?_
            refine ay_1 8 (by kernel_rfl) rfl rfl ?_
            refine sq_pure TYok TYz false rfl rfl rfl sd ?_
            refine sq_nil ?_
            refine ay_1 9 (by kernel_rfl) rfl rfl ?_
            refine sq_pure TYok TYz false rfl rfl rfl sd ?_
            refine sq_nil ?_
            refine ay_1 10 (by kernel_rfl) rfl rfl ?_
            refine sq_ps rfl rfl rfl hfree (LeL.refl _) ?_
            refine sq_nil ?_
            refine ay_1 11 (by kernel_rfl) rfl rfl ?_
            refine sq_appz TYok TYz rfl rfl rfl rfl rfl rfl rfl (by decide) (ha4.low e13) (.lst _ _ _ _) hn1 hn2 fun H5 ho5 => ?_
            refine sq_nil ?_
            refine ay_1 12 (by kernel_rfl) rfl rfl ?_
            refine sq_call rfl rfl rfl (.cons hle .nil) ((vals_s _ _).mono fun r H6 h6 => ?_)
            obtain ⟨rfl, hv6, ho6, hl6⟩ := h6
            refine sq_nil ?_
            refine ay_1 13 (by kernel_rfl) rfl rfl ?_
            refine sq_call rfl rfl rfl (LeL.refl _) ((hso hv6).mono fun r H7 h7 => ?_)
            obtain ⟨rfl, rfl⟩ := h7
            refine sq_nil ?_
            refine ay_e 14 rfl (by kernel_rfl) (by kernel_rfl) ?_
            refine sq_assign rfl rfl rfl ?_
            refine sq_nil ?_
            refine ay_done (by kernel_rfl) ?_
            exact then_normal ⟨(), _, by rw [rstf_eq]; rfl, .refl _, fin hx4 ha4 ho5 ho6⟩
          · refine sq_pure TYok TYz false rfl rfl rfl sd ?_
            refine sq_nil ?_
            refine ay_2 2 9 (by kernel_rfl) rfl rfl rfl rfl  ?_ ?_
            · refine sq_call rfl rfl rfl (LeL.refl _) (hnod.mono fun fa H4 ⟨hx4, ha4⟩ => ?_)
              refine sq_nil ?_
              refine ay_1 9 (by kernel_rfl) rfl rfl ?_
              refine sq_pure TYok TYz false rfl rfl rfl sd ?_
              refine sq_nil ?_
              refine ay_1 10 (by kernel_rfl) rfl rfl ?_
              refine sq_ps rfl rfl rfl hfree (LeL.refl _) ?_
              refine sq_nil ?_
              refine ay_1 11 (by kernel_rfl) rfl rfl ?_
              refine sq_appz TYok TYz rfl rfl rfl rfl rfl rfl rfl (by decide) (ha4.low e13) (.lst _ _ _ _) hn1 hn2 fun H5 ho5 => ?_
              refine sq_nil ?_
              refine ay_1 12 (by kernel_rfl) rfl rfl ?_
              refine sq_call rfl rfl rfl (.cons hle .nil) ((vals_s _ _).mono fun r H6 h6 => ?_)
              obtain ⟨rfl, hv6, ho6, hl6⟩ := h6
              refine sq_nil ?_
              refine ay_1 13 (by kernel_rfl) rfl rfl ?_
              refine sq_call rfl rfl rfl (LeL.refl _) ((hso hv6).mono fun r H7 h7 => ?_)
              obtain ⟨rfl, rfl⟩ := h7
              refine sq_nil ?_
              refine ay_e 14 rfl (by kernel_rfl) (by kernel_rfl) ?_
              refine sq_assign rfl rfl rfl ?_
              refine sq_nil ?_
              refine ay_done (by kernel_rfl) ?_
              exact then_normal ⟨(), _, by rw [rstf_eq]; rfl, .refl _, fin hx4 ha4 ho5 ho6⟩
            · refine sq_pure TYok TYz false rfl rfl rfl sd ?_
              refine sq_nil ?_
              refine ay_1 2 (by kernel_rfl) rfl rfl ?_
              refine sq_call rfl rfl rfl (LeL.refl _) (hnod.mono fun fa H4 ⟨hx4, ha4⟩ => ?_)
              refine sq_nil ?_
              refine ay_1 10 (by kernel_rfl) rfl rfl ?_
              refine sq_ps rfl rfl rfl hfree (LeL.refl _) ?_
              refine sq_nil ?_
              refine ay_1 11 (by kernel_rfl) rfl rfl ?_
              refine sq_appz TYok TYz rfl rfl rfl rfl rfl rfl rfl (by decide) (ha4.low e13) (.lst _ _ _ _) hn1 hn2 fun H5 ho5 => ?_
              refine sq_nil ?_
              refine ay_1 12 (by kernel_rfl) rfl rfl ?_
              refine sq_call rfl rfl rfl (.cons hle .nil) ((vals_s _ _).mono fun r H6 h6 => ?_)
              obtain ⟨rfl, hv6, ho6, hl6⟩ := h6
              refine sq_nil ?_
              refine ay_1 13 (by kernel_rfl) rfl rfl ?_
              refine sq_call rfl rfl rfl (LeL.refl _) ((hso hv6).mono fun r H7 h7 => ?_)
              obtain ⟨rfl, rfl⟩ := h7
              refine sq_nil ?_
              refine ay_e 14 rfl (by kernel_rfl) (by kernel_rfl) ?_
              refine sq_assign rfl rfl rfl ?_
              refine sq_nil ?_
              refine ay_done (by kernel_rfl) ?_
              exact then_normal ⟨(), _, by rw [rstf_eq]; rfl, .refl _, fin hx4 ha4 ho5 ho6⟩
      · refine sq_load TYok rfl rfl rfl (by first | exact hb13 | exact hx4.2 _ _ hb13) rfl Nat.zero_lt_one rfl ?_
        refine sq_nil ?_
        refine ay_2 0 8 (by kernel_rfl) rfl rfl rfl rfl  ?_ ?_
        · refine sq_load TYok rfl rfl rfl (by first | exact hb13 | exact hx4.2 _ _ hb13) rfl Nat.zero_lt_one rfl ?_
          refine sq_nil ?_
          refine ay_2 2 8 (by kernel_rfl) rfl rfl rfl rfl  ?_ ?_
          · refine sq_call rfl rfl rfl (LeL.refl _) (hnod.mono fun fa H4 ⟨hx4, ha4⟩ => ?_)
            refine sq_nil ?_
            refine ay_1 8 (by kernel_rfl) rfl rfl ?_
            refine sq_pure TYok TYz false rfl rfl rfl sd ?_
            refine sq_nil ?_
            refine ay_1 9 (by kernel_rfl) rfl rfl ?_
            refine sq_pure TYok TYz false rfl rfl rfl sd ?_
            refine sq_nil ?_
            refine ay_1 10 (by kernel_rfl) rfl rfl ?_
            refine sq_ps rfl rfl rfl hfree (LeL.refl _) ?_
            refine sq_nil ?_
            refine ay_1 11 (by kernel_rfl) rfl rfl ?_
            refine sq_appz TYok TYz rfl rfl rfl rfl rfl rfl rfl (by decide) (ha4.low e13) (.lst _ _ _ _) hn1 hn2 fun H5 ho5 => ?_
            refine sq_nil ?_
            refine ay_1 12 (by kernel_rfl) rfl rfl ?_
            refine sq_call rfl rfl rfl (.cons hle .nil) ((vals_s _ _).mono fun r H6 h6 => ?_)
            obtain ⟨rfl, hv6, ho6, hl6⟩ := h6
            refine sq_nil ?_
            refine ay_1 13 (by kernel_rfl) rfl rfl ?_
            refine sq_call rfl rfl rfl (LeL.refl _) ((hso hv6).mono fun r H7 h7 => ?_)
            obtain ⟨rfl, rfl⟩ := h7
            refine sq_nil ?_
            refine ay_e 14 rfl (by kernel_rfl) (by kernel_rfl) ?_
            refine sq_assign rfl rfl rfl ?_
            refine sq_nil ?_
            refine ay_done (by kernel_rfl) ?_
            exact then_normal ⟨(), _, by rw [rstf_eq]; rfl, .refl _, fin hx4 ha4 ho5 ho6⟩
          · refine sq_pure TYok TYz false rfl rfl rfl sd ?_
            refine sq_nil ?_
            refine ay_2 2 9 (by kernel_rfl) rfl rfl rfl rfl  ?_ ?_
            · refine sq_call rfl rfl rfl (LeL.refl _) (hnod.mono fun fa H4 ⟨hx4, ha4⟩ => ?_)
              refine sq_nil ?_
              refine ay_1 9 (by kernel_rfl) rfl rfl ?_
              refine sq_pure TYok TYz false rfl rfl rfl sd ?_
              refine sq_nil ?_
              refine ay_1 10 (by kernel_rfl) rfl rfl ?_
              refine sq_ps rfl rfl rfl hfree (LeL.refl _) ?_
              refine sq_nil ?_
              refine ay_1 11 (by kernel_rfl) rfl rfl ?_
              refine sq_appz TYok TYz rfl rfl rfl rfl rfl rfl rfl (by decide) (ha4.low e13) (.lst _ _ _ _) hn1 hn2 fun H5 ho5 => ?_
              refine sq_nil ?_
              refine ay_1 12 (by kernel_rfl) rfl rfl ?_
              refine sq_call rfl rfl rfl (.cons hle .nil) ((vals_s _ _).mono fun r H6 h6 => ?_)
              obtain ⟨rfl, hv6, ho6, hl6⟩ := h6
              refine sq_nil ?_
              refine ay_1 13 (by kernel_rfl) rfl rfl ?_
              refine sq_call rfl rfl rfl (LeL.refl _) ((hso hv6).mono fun r H7 h7 => ?_)
              obtain ⟨rfl, rfl⟩ := h7
              refine sq_nil ?_
              refine ay_e 14 rfl (by kernel_rfl) (by kernel_rfl) ?_
              refine sq_assign rfl rfl rfl ?_
              refine sq_nil ?_
              refine ay_done (by kernel_rfl) ?_
              exact then_normal ⟨(), _, by rw [rstf_eq]; rfl, .refl _, fin hx4 ha4 ho5 ho6⟩
            · refine sq_pure TYok TYz false rfl rfl rfl sd ?_
              refine sq_nil ?_
              refine ay_1 2 (by kernel_rfl) rfl rfl ?_
              refine sq_call rfl rfl rfl (LeL.refl _) (hnod.mono fun fa H4 ⟨hx4, ha4⟩ => ?_)
              refine sq_nil ?_
              refine ay_1 10 (by kernel_rfl) rfl rfl ?_
              refine sq_ps rfl rfl rfl hfree (LeL.refl _) ?_
              refine sq_nil ?_
              refine ay_1 11 (by kernel_rfl) rfl rfl ?_
              refine sq_appz TYok TYz rfl rfl rfl rfl rfl rfl rfl (by decide) (ha4.low e13) (.lst _ _ _ _) hn1 hn2 fun H5 ho5 => ?_
              refine sq_nil ?_
              refine ay_1 12 (by kernel_rfl) rfl rfl ?_
              refine sq_call rfl rfl rfl (.cons hle .nil) ((vals_s _ _).mono fun r H6 h6 => ?_)
              obtain ⟨rfl, hv6, ho6, hl6⟩ := h6
              refine sq_nil ?_
              refine ay_1 13 (by kernel_rfl) rfl rfl ?_
              refine sq_call rfl rfl rfl (LeL.refl _) ((hso hv6).mono fun r H7 h7 => ?_)
              obtain ⟨rfl, rfl⟩ := h7
              refine sq_nil ?_
              refine ay_e 14 rfl (by kernel_rfl) (by kernel_rfl) ?_
              refine sq_assign rfl rfl rfl ?_
              refine sq_nil ?_
              refine ay_done (by kernel_rfl) ?_
              exact then_normal ⟨(), _, by rw [rstf_eq]; rfl, .refl _, fin hx4 ha4 ho5 ho6⟩
        · refine sq_pure TYok TYz false rfl rfl rfl sd ?_
          refine sq_nil ?_
          refine ay_2 0 9 (by kernel_rfl) rfl rfl rfl rfl  ?_ ?_
          · refine sq_load TYok rfl rfl rfl (by first | exact hb13 | exact hx4.2 _ _ hb13) rfl Nat.zero_lt_one rfl ?_
            refine sq_nil ?_
            refine ay_2 2 9 (by kernel_rfl) rfl rfl rfl rfl  ?_ ?_
            · refine sq_call rfl rfl rfl (LeL.refl _) (hnod.mono fun fa H4 ⟨hx4, ha4⟩ => ?_)
              refine sq_nil ?_
              refine ay_1 9 (by kernel_rfl) rfl rfl ?_
              refine sq_pure TYok TYz false rfl rfl rfl sd ?_
              refine sq_nil ?_
              refine ay_1 10 (by kernel_rfl) rfl rfl ?_
              refine sq_ps rfl rfl rfl hfree (LeL.refl _) ?_
              refine sq_nil ?_
              refine ay_1 11 (by kernel_rfl) rfl rfl ?_
              refine sq_appz TYok TYz rfl rfl rfl rfl rfl rfl rfl (by decide) (ha4.low e13) (.lst _ _ _ _) hn1 hn2 fun H5 ho5 => ?_
              refine sq_nil ?_
              refine ay_1 12 (by kernel_rfl) rfl rfl ?_
              refine sq_call rfl rfl rfl (.cons hle .nil) ((vals_s _ _).mono fun r H6 h6 => ?_)
              obtain ⟨rfl, hv6, ho6, hl6⟩ := h6
              refine sq_nil ?_
              refine ay_1 13 (by kernel_rfl) rfl rfl ?_
              refine sq_call rfl rfl rfl (LeL.refl _) ((hso hv6).mono fun r H7 h7 => ?_)
              obtain ⟨rfl, rfl⟩ := h7
              refine sq_nil ?_
              refine ay_e 14 rfl (by kernel_rfl) (by kernel_rfl) ?_
              refine sq_assign rfl rfl rfl ?_
              refine sq_nil ?_
              refine ay_done (by kernel_rfl) ?_
              exact then_normal ⟨(), _, by rw [rstf_eq]; rfl, .refl _, fin hx4 ha4 ho5 ho6⟩
            · refine sq_pure TYok TYz false rfl rfl rfl sd ?_
              refine sq_nil ?_
              refine ay_1 2 (by kernel_rfl) rfl rfl ?_
              refine sq_call rfl rfl rfl (LeL.refl _) (hnod.mono fun fa H4 ⟨hx4, ha4⟩ => ?_)
              refine sq_nil ?_
              refine ay_1 10 (by kernel_rfl) rfl rfl ?_
              refine sq_ps rfl rfl rfl hfree (LeL.refl _) ?_
              refine sq_nil ?_
              refine ay_1 11 (by kernel_rfl) rfl rfl ?_
              refine sq_appz TYok TYz rfl rfl rfl rfl rfl rfl rfl (by decide) (ha4.low e13) (.lst _ _ _ _) hn1 hn2 fun H5 ho5 => ?_
              refine sq_nil ?_
              refine ay_1 12 (by kernel_rfl) rfl rfl ?_
              refine sq_call rfl rfl rfl (.cons hle .nil) ((vals_s _ _).mono fun r H6 h6 => ?_)
              obtain ⟨rfl, hv6, ho6, hl6⟩ := h6
              refine sq_nil ?_
              refine ay_1 13 (by kernel_rfl) rfl rfl ?_
              refine sq_call rfl rfl rfl (LeL.refl _) ((hso hv6).mono fun r H7 h7 => ?_)
              obtain ⟨rfl, rfl⟩ := h7
              refine sq_nil ?_
              refine ay_e 14 rfl (by kernel_rfl) (by kernel_rfl) ?_
              refine sq_assign rfl rfl rfl ?_
              refine sq_nil ?_
              refine ay_done (by kernel_rfl) ?_
              exact then_normal ⟨(), _, by rw [rstf_eq]; rfl, .refl _, fin hx4 ha4 ho5 ho6⟩
          · refine sq_pure TYok TYz false rfl rfl rfl sd ?_
            refine sq_nil ?_
            refine ay_1 0 (by kernel_rfl) rfl rfl ?_
            refine sq_load TYok rfl rfl rfl (by first | exact hb13 | exact hx4.2 _ _ hb13) rfl Nat.zero_lt_one rfl ?_
            refine sq_nil ?_
            refine ay_1 2 (by kernel_rfl) rfl rfl ?_
            refine sq_call rfl rfl rfl (LeL.refl _) (hnod.mono fun fa H4 ⟨hx4, ha4⟩ => ?_)
            refine sq_nil ?_
            refine ay_1 10 (by kernel_rfl) rfl rfl ?_
            refine sq_ps rfl rfl rfl hfree (LeL.refl _) ?_
            refine sq_nil ?_
            refine ay_1 11 (by kernel_rfl) rfl rfl ?_
            refine sq_appz TYok TYz rfl rfl rfl rfl rfl rfl rfl (by decide) (ha4.low e13) (.lst _ _ _ _) hn1 hn2 fun H5 ho5 => ?_
            refine sq_nil ?_
            refine ay_1 12 (by kernel_rfl) rfl rfl ?_
            refine sq_call rfl rfl rfl (.cons hle .nil) ((vals_s _ _).mono fun r H6 h6 => ?_)
            obtain ⟨rfl, hv6, ho6, hl6⟩ := h6
            refine sq_nil ?_
            refine ay_1 13 (by kernel_rfl) rfl rfl ?_
            refine sq_call rfl rfl rfl (LeL.refl _) ((hso hv6).mono fun r H7 h7 => ?_)
            obtain ⟨rfl, rfl⟩ := h7
            refine sq_nil ?_
            refine ay_e 14 rfl (by kernel_rfl) (by kernel_rfl) ?_
            refine sq_assign rfl rfl rfl ?_
            refine sq_nil ?_
            refine ay_done (by kernel_rfl) ?_
            exact then_normal ⟨(), _, by rw [rstf_eq]; rfl, .refl _, fin hx4 ha4 ho5 ho6⟩
    · refine sq_load TYok rfl rfl rfl (by first | exact hb13 | exact hx4.2 _ _ hb13) rfl Nat.zero_lt_one rfl ?_
      refine sq_nil ?_
      refine ay_3 0 5 8 (by kernel_rfl) rfl rfl rfl rfl rfl rfl  ?_ ?_ ?_
      · refine sq_load TYok rfl rfl rfl (by first | exact hb13 | exact hx4.2 _ _ hb13) rfl Nat.zero_lt_one rfl ?_
        refine sq_nil ?_
        refine ay_3 2 5 8 (by kernel_rfl) rfl rfl rfl rfl rfl rfl  ?_ ?_ ?_
        · refine sq_call rfl rfl rfl (LeL.refl _) (hnod.mono fun fa H4 ⟨hx4, ha4⟩ => ?_)
          refine sq_nil ?_
          refine ay_2 5 8 (by kernel_rfl) rfl rfl rfl rfl  ?_ ?_
          · refine sq_load TYok rfl rfl rfl (by first | exact hb13 | exact hx4.2 _ _ hb13) rfl Nat.zero_lt_one rfl ?_
            refine sq_nil ?_
            refine ay_1 8 (by kernel_rfl) rfl rfl ?_
            refine sq_pure TYok TYz false rfl rfl rfl sd ?_
            refine sq_nil ?_
            refine ay_1 9 (by kernel_rfl) rfl rfl ?_
            refine sq_pure TYok TYz false rfl rfl rfl sd ?_
            refine sq_nil ?_
            refine ay_1 10 (by kernel_rfl) rfl rfl ?_
            refine sq_ps rfl rfl rfl hfree (LeL.refl _) ?_
            refine sq_nil ?_
            refine ay_1 11 (by kernel_rfl) rfl rfl ?_
            refine sq_appz TYok TYz rfl rfl rfl rfl rfl rfl rfl (by decide) (ha4.low e13) (.lst _ _ _ _) hn1 hn2 fun H5 ho5 => ?_
            refine sq_nil ?_
            refine ay_1 12 (by kernel_rfl) rfl rfl ?_
            refine sq_call rfl rfl rfl (.cons hle .nil) ((vals_s _ _).mono fun r H6 h6 => ?_)
            obtain ⟨rfl, hv6, ho6, hl6⟩ := h6
            refine sq_nil ?_
            refine ay_1 13 (by kernel_rfl) rfl rfl ?_
            refine sq_call rfl rfl rfl (LeL.refl _) ((hso hv6).mono fun r H7 h7 => ?_)
            obtain ⟨rfl, rfl⟩ := h7
            refine sq_nil ?_
            refine ay_e 14 rfl (by kernel_rfl) (by kernel_rfl) ?_
            refine sq_assign rfl rfl rfl ?_
            refine sq_nil ?_
            refine ay_done (by kernel_rfl) ?_
            exact then_normal ⟨(), _, by rw [rstf_eq]; rfl, .refl _, fin hx4 ha4 ho5 ho6⟩
          · refine sq_pure TYok TYz false rfl rfl rfl sd ?_
            refine sq_nil ?_
            refine ay_1 5 (by kernel_rfl) rfl rfl ?_
            refine sq_load TYok rfl rfl rfl (by first | exact hb13 | exact hx4.2 _ _ hb13) rfl Nat.zero_lt_one rfl ?_
            refine sq_nil ?_
            refine ay_1 9 (by kernel_rfl) rfl rfl ?_
            refine sq_pure TYok TYz false rfl rfl rfl sd ?_
            refine sq_nil ?_
            refine ay_1 10 (by kernel_rfl) rfl rfl ?_
            refine sq_ps rfl rfl rfl hfree (LeL.refl _) ?_
            refine sq_nil ?_
            refine ay_1 11 (by kernel_rfl) rfl rfl ?_
            refine sq_appz TYok TYz rfl rfl rfl rfl rfl rfl rfl (by decide) (ha4.low e13) (.lst _ _ _ _) hn1 hn2 fun H5 ho5 => ?_
            refine sq_nil ?_
            refine ay_1 12 (by kernel_rfl) rfl rfl ?_
            refine sq_call rfl rfl rfl (.cons hle .nil) ((vals_s _ _).mono fun r H6 h6 => ?_)
            obtain ⟨rfl, hv6, ho6, hl6⟩ := h6
            refine sq_nil ?_
            refine ay_1 13 (by kernel_rfl) rfl rfl ?_
            refine sq_call rfl rfl rfl (LeL.refl _) ((hso hv6).mono fun r H7 h7 => ?_)
            obtain ⟨rfl, rfl⟩ := h7
            refine sq_nil ?_
            refine ay_e 14 rfl (by kernel_rfl) (by kernel_rfl) ?_
            refine sq_assign rfl rfl rfl ?_
            refine sq_nil ?_
            refine ay_done (by kernel_rfl) ?_
            exact then_normal ⟨(), _, by rw [rstf_eq]; rfl, .refl _, fin hx4 ha4 ho5 ho6⟩
        · refine sq_load TYok rfl rfl rfl (by first | exact hb13 | exact hx4.2 _ _ hb13) rfl Nat.zero_lt_one rfl ?_
          refine sq_nil ?_
          refine ay_2 2 8 (by kernel_rfl) rfl rfl rfl rfl  ?_ ?_
          · refine sq_call rfl rfl rfl (LeL.refl _) (hnod.mono fun fa H4 ⟨hx4, ha4⟩ => ?_)
            refine sq_nil ?_
            refine ay_1 8 (by kernel_rfl) rfl rfl ?_
            refine sq_pure TYok TYz false rfl rfl rfl sd ?_
            refine sq_nil ?_
            refine ay_1 9 (by kernel_rfl) rfl rfl ?_
            refine sq_pure TYok TYz false rfl rfl rfl sd ?_
            refine sq_nil ?_
            refine ay_1 10 (by kernel_rfl) rfl rfl ?_
            refine sq_ps rfl rfl rfl hfree (LeL.refl _) ?_
            refine sq_nil ?_
            refine ay_1 11 (by kernel_rfl) rfl rfl ?_
            refine sq_appz TYok TYz rfl rfl rfl rfl rfl rfl rfl (by decide) (ha4.low e13) (.lst _ _ _ _) hn1 hn2 fun H5 ho5 => ?_
            refine sq_nil ?_
            refine ay_1 12 (by kernel_rfl) rfl rfl ?_
            refine sq_call rfl rfl rfl (.cons hle .nil) ((vals_s _ _).mono fun r H6 h6 => ?_)
            obtain ⟨rfl, hv6, ho6, hl6⟩ := h6
            refine sq_nil ?_
            refine ay_1 13 (by kernel_rfl) rfl rfl ?_
            refine sq_call rfl rfl rfl (LeL.refl _) ((hso hv6).mono fun r H7 h7 => ?_)
            obtain ⟨rfl, rfl⟩ := h7
            refine sq_nil ?_
            refine ay_e 14 rfl (by kernel_rfl) (by kernel_rfl) ?_
            refine sq_assign rfl rfl rfl ?_
            refine sq_nil ?_
            refine ay_done (by kernel_rfl) ?_
            exact then_normal ⟨(), _, by rw [rstf_eq]; rfl, .refl _, fin hx4 ha4 ho5 ho6⟩
          · refine sq_pure TYok TYz false rfl rfl rfl sd ?_
            refine sq_nil ?_
            refine ay_2 2 9 (by kernel_rfl) rfl rfl rfl rfl  ?_ ?_
            · refine sq_call rfl rfl rfl (LeL.refl _) (hnod.mono fun fa H4 ⟨hx4, ha4⟩ => ?_)
              refine sq_nil ?_
              refine ay_1 9 (by kernel_rfl) rfl rfl ?_
              refine sq_pure TYok TYz false rfl rfl rfl sd ?_
              refine sq_nil ?_
              refine ay_1 10 (by kernel_rfl) rfl rfl ?_
              refine sq_ps rfl rfl rfl hfree (LeL.refl _) ?_
              refine sq_nil ?_
              refine ay_1 11 (by kernel_rfl) rfl rfl ?_
              refine sq_appz TYok TYz rfl rfl rfl rfl rfl rfl rfl (by decide) (ha4.low e13) (.lst _ _ _ _) hn1 hn2 fun H5 ho5 => ?_
              refine sq_nil ?_
              refine ay_1 12 (by kernel_rfl) rfl rfl ?_
              refine sq_call rfl rfl rfl (.cons hle .nil) ((vals_s _ _).mono fun r H6 h6 => ?_)
              obtain ⟨rfl, hv6, ho6, hl6⟩ := h6
              refine sq_nil ?_
              refine ay_1 13 (by kernel_rfl) rfl rfl ?_
              refine sq_call rfl rfl rfl (LeL.refl _) ((hso hv6).mono fun r H7 h7 => ?_)
              obtain ⟨rfl, rfl⟩ := h7
              refine sq_nil ?_
              refine ay_e 14 rfl (by kernel_rfl) (by kernel_rfl) ?_
              refine sq_assign rfl rfl rfl ?_
              refine sq_nil ?_
              refine ay_done (by kernel_rfl) ?_
              exact then_normal ⟨(), _, by rw [rstf_eq]; rfl, .refl _, fin hx4 ha4 ho5 ho6⟩
            · refine sq_pure TYok TYz false rfl rfl rfl sd ?_
              refine sq_nil ?_
              refine ay_1 2 (by kernel_rfl) rfl rfl ?_
              refine sq_call rfl rfl rfl (LeL.refl _) (hnod.mono fun fa H4 ⟨hx4, ha4⟩ => ?_)
              refine sq_nil ?_
              refine ay_1 10 (by kernel_rfl) rfl rfl ?_
              refine sq_ps rfl rfl rfl hfree (LeL.refl _) ?_
              refine sq_nil ?_
              refine ay_1 11 (by kernel_rfl) rfl rfl ?_
              refine sq_appz TYok TYz rfl rfl rfl rfl rfl rfl rfl (by decide) (ha4.low e13) (.lst _ _ _ _) hn1 hn2 fun H5 ho5 => ?_
              refine sq_nil ?_
              refine ay_1 12 (by kernel_rfl) rfl rfl ?_
              refine sq_call rfl rfl rfl (.cons hle .nil) ((vals_s _ _).mono fun r H6 h6 => ?_)
              obtain ⟨rfl, hv6, ho6, hl6⟩ := h6
              refine sq_nil ?_
              refine ay_1 13 (by kernel_rfl) rfl rfl ?_
              refine sq_call rfl rfl rfl (LeL.refl _) ((hso hv6).mono fun r H7 h7 => ?_)
              obtain ⟨rfl, rfl⟩ := h7
              refine sq_nil ?_
              refine ay_e 14 rfl (by kernel_rfl) (by kernel_rfl) ?_
              refine sq_assign rfl rfl rfl ?_
              refine sq_nil ?_
              refine ay_done (by kernel_rfl) ?_
              exact then_normal ⟨(), _, by rw [rstf_eq]; rfl, .refl _, fin hx4 ha4 ho5 ho6⟩
        · refine sq_pure TYok TYz false rfl rfl rfl sd ?_
          refine sq_nil ?_
          refine ay_2 2 5 (by kernel_rfl) rfl rfl rfl rfl  ?_ ?_
          · refine sq_call rfl rfl rfl (LeL.refl _) (hnod.mono fun fa H4 ⟨hx4, ha4⟩ => ?_)
            refine sq_nil ?_
            refine ay_1 5 (by kernel_rfl) rfl rfl ?_
            refine sq_load TYok rfl rfl rfl (by first | exact hb13 | exact hx4.2 _ _ hb13) rfl Nat.zero_lt_one rfl ?_
            refine sq_nil ?_
            refine ay_1 9 (by kernel_rfl) rfl rfl ?_
            refine sq_pure TYok TYz false rfl rfl rfl sd ?_
            refine sq_nil ?_
            refine ay_1 10 (by kernel_rfl) rfl rfl ?_
            refine sq_ps rfl rfl rfl hfree (LeL.refl _) ?_
            refine sq_nil ?_
            refine ay_1 11 (by kernel_rfl) rfl rfl ?_
            refine sq_appz TYok TYz rfl rfl rfl rfl rfl rfl rfl (by decide) (ha4.low e13) (.lst _ _ _ _) hn1 hn2 fun H5 ho5 => ?_
            refine sq_nil ?_
            refine ay_1 12 (by kernel_rfl) rfl rfl ?_
            refine sq_call rfl rfl rfl (.cons hle .nil) ((vals_s _ _).mono fun r H6 h6 => ?_)
            obtain ⟨rfl, hv6, ho6, hl6⟩ := h6
            refine sq_nil ?_
            refine ay_1 13 (by kernel_rfl) rfl rfl ?_
            refine sq_call rfl rfl rfl (LeL.refl _) ((hso hv6).mono fun r H7 h7 => ?_)
            obtain ⟨rfl, rfl⟩ := h7
            refine sq_nil ?_
            refine ay_e 14 rfl (by kernel_rfl) (by kernel_rfl) ?_
            refine sq_assign rfl rfl rfl ?_
            refine sq_nil ?_
            refine ay_done (by kernel_rfl) ?_
            exact then_normal ⟨(), _, by rw [rstf_eq]; rfl, .refl _, fin hx4 ha4 ho5 ho6⟩
          · refine sq_load TYok rfl rfl rfl (by first | exact hb13 | exact hx4.2 _ _ hb13) rfl Nat.zero_lt_one rfl ?_
            refine sq_nil ?_
            refine ay_2 2 9 (by kernel_rfl) rfl rfl rfl rfl  ?_ ?_
            · refine sq_call rfl rfl rfl (LeL.refl _) (hnod.mono fun fa H4 ⟨hx4, ha4⟩ => ?_)
              refine sq_nil ?_
              refine ay_1 9 (by kernel_rfl) rfl rfl ?_
              refine sq_pure TYok TYz false rfl rfl rfl sd ?_
              refine sq_nil ?_
              refine ay_1 10 (by kernel_rfl) rfl rfl ?_
              refine sq_ps rfl rfl rfl hfree (LeL.refl _) ?_
              refine sq_nil ?_
              refine ay_1 11 (by kernel_rfl) rfl rfl ?_
              refine sq_appz TYok TYz rfl rfl rfl rfl rfl rfl rfl (by decide) (ha4.low e13) (.lst _ _ _ _) hn1 hn2 fun H5 ho5 => ?_
              refine sq_nil ?_
              refine ay_1 12 (by kernel_rfl) rfl rfl ?_
              refine sq_call rfl rfl rfl (.cons hle .nil) ((vals_s _ _).mono fun r H6 h6 => ?_)
              obtain ⟨rfl, hv6, ho6, hl6⟩ := h6
              refine sq_nil ?_
              refine ay_1 13 (by kernel_rfl) rfl rfl ?_
              refine sq_call rfl rfl rfl (LeL.refl _) ((hso hv6).mono fun r H7 h7 => ?_)
              obtain ⟨rfl, rfl⟩ := h7
              refine sq_nil ?_
              refine ay_e 14 rfl (by kernel_rfl) (by kernel_rfl) ?_
              refine sq_assign rfl rfl rfl ?_
              refine sq_nil ?_
              refine ay_done (by kernel_rfl) ?_
              exact then_normal ⟨(), _, by rw [rstf_eq]; rfl, .refl _, fin hx4 ha4 ho5 ho6⟩
            · refine sq_pure TYok TYz false rfl rfl rfl sd ?_
              refine sq_nil ?_
              refine ay_1 2 (by kernel_rfl) rfl rfl ?_
              refine sq_call rfl rfl rfl (LeL.refl _) (hnod.mono fun fa H4 ⟨hx4, ha4⟩ => ?_)
              refine sq_nil ?_
              refine ay_1 10 (by kernel_rfl) rfl rfl ?_
              refine sq_ps rfl rfl rfl hfree (LeL.refl _) ?_
              refine sq_nil ?_
              refine ay_1 11 (by kernel_rfl) rfl rfl ?_
              refine sq_appz TYok TYz rfl rfl rfl rfl rfl rfl rfl (by decide) (ha4.low e13) (.lst _ _ _ _) hn1 hn2 fun H5 ho5 => ?_
              refine sq_nil ?_
              refine ay_1 12 (by kernel_rfl) rfl rfl ?_
              refine sq_call rfl rfl rfl (.cons hle .nil) ((vals_s _ _).mono fun r H6 h6 => ?_)
              obtain ⟨rfl, hv6, ho6, hl6⟩ := h6
              refine sq_nil ?_
              refine ay_1 13 (by kernel_rfl) rfl rfl ?_
              refine sq_call rfl rfl rfl (LeL.refl _) ((hso hv6).mono fun r H7 h7 => ?_)
              obtain ⟨rfl, rfl⟩ := h7
              refine sq_nil ?_
              refine ay_e 14 rfl (by kernel_rfl) (by kernel_rfl) ?_
              refine sq_assign rfl rfl rfl ?_
              refine sq_nil ?_
              refine ay_done (by kernel_rfl) ?_
              exact then_normal ⟨(), _, by rw [rstf_eq]; rfl, .refl _, fin hx4 ha4 ho5 ho6⟩
      · refine sq_load TYok rfl rfl rfl (by first | exact hb13 | exact hx4.2 _ _ hb13) rfl Nat.zero_lt_one rfl ?_
        refine sq_nil ?_
        refine ay_2 0 8 (by kernel_rfl) rfl rfl rfl rfl  ?_ ?_
        · refine sq_load TYok rfl rfl rfl (by first | exact hb13 | exact hx4.2 _ _ hb13) rfl Nat.zero_lt_one rfl ?_
          refine sq_nil ?_
          refine ay_2 2 8 (by kernel_rfl) rfl rfl rfl rfl  ?_ ?_
          · refine sq_call rfl rfl rfl (LeL.refl _) (hnod.mono fun fa H4 ⟨hx4, ha4⟩ => ?_)
            refine sq_nil ?_
            refine ay_1 8 (by kernel_rfl) rfl rfl ?_
            refine sq_pure TYok TYz false rfl rfl rfl sd ?_
            refine sq_nil ?_
            refine ay_1 9 (by kernel_rfl) rfl rfl ?_
            refine sq_pure TYok TYz false rfl rfl rfl sd ?_
            refine sq_nil ?_
            refine ay_1 10 (by kernel_rfl) rfl rfl ?_
            refine sq_ps rfl rfl rfl hfree (LeL.refl _) ?_
            refine sq_nil ?_
            refine ay_1 11 (by kernel_rfl) rfl rfl ?_
            refine sq_appz TYok TYz rfl rfl rfl rfl rfl rfl rfl (by decide) (ha4.low e13) (.lst _ _ _ _) hn1 hn2 fun H5 ho5 => ?_
            refine sq_nil ?_
            refine ay_1 12 (by kernel_rfl) rfl rfl ?_
            refine sq_call rfl rfl rfl (.cons hle .nil) ((vals_s _ _).mono fun r H6 h6 => ?_)
            obtain ⟨rfl, hv6, ho6, hl6⟩ := h6
            refine sq_nil ?_
            refine ay_1 13 (by kernel_rfl) rfl rfl ?_
            refine sq_call rfl rfl rfl (LeL.refl _) ((hso hv6).mono fun r H7 h7 => ?_)
            obtain ⟨rfl, rfl⟩ := h7
            refine sq_nil ?_
            refine ay_e 14 rfl (by kernel_rfl) (by kernel_rfl) ?_
            refine sq_assign rfl rfl rfl ?_
            refine sq_nil ?_
            refine ay_done (by kernel_rfl) ?_
            exact then_normal ⟨(), _, by rw [rstf_eq]; rfl, .refl _, fin hx4 ha4 ho5 ho6⟩
          · refine sq_pure TYok TYz false rfl rfl rfl sd ?_
            refine sq_nil ?_
            refine ay_2 2 9 (by kernel_rfl) rfl rfl rfl rfl  ?_ ?_
            · refine sq_call rfl rfl rfl (LeL.refl _) (hnod.mono fun fa H4 ⟨hx4, ha4⟩ => ?_)
              refine sq_nil ?_
              refine ay_1 9 (by kernel_rfl) rfl rfl ?_
              refine sq_pure TYok TYz false rfl rfl rfl sd ?_
              refine sq_nil ?_
              refine ay_1 10 (by kernel_rfl) rfl rfl ?_
              refine sq_ps rfl rfl rfl hfree (LeL.refl _) ?_
              refine sq_nil ?_
              refine ay_1 11 (by kernel_rfl) rfl rfl ?_
              refine sq_appz TYok TYz rfl rfl rfl rfl rfl rfl rfl (by decide) (ha4.low e13) (.lst _ _ _ _) hn1 hn2 fun H5 ho5 => ?_
              refine sq_nil ?_
              refine ay_1 12 (by kernel_rfl) rfl rfl ?_
              refine sq_call rfl rfl rfl (.cons hle .nil) ((vals_s _ _).mono fun r H6 h6 => ?_)
              obtain ⟨rfl, hv6, ho6, hl6⟩ := h6
              refine sq_nil ?_
              refine ay_1 13 (by kernel_rfl) rfl rfl ?_
              refine sq_call rfl rfl rfl (LeL.refl _) ((hso hv6).mono fun r H7 h7 => ?_)
              obtain ⟨rfl, rfl⟩ := h7
              refine sq_nil ?_
              refine ay_e 14 rfl (by kernel_rfl) (by kernel_rfl) ?_
              refine sq_assign rfl rfl rfl ?_
              refine sq_nil ?_
              refine ay_done (by kernel_rfl) ?_
              exact then_normal ⟨(), _, by rw [rstf_eq]; rfl, .refl _, fin hx4 ha4 ho5 ho6⟩
            · refine sq_pure TYok TYz false rfl rfl rfl sd ?_
              refine sq_nil ?_
              refine ay_1 2 (by kernel_rfl) rfl rfl ?_
              refine sq_call rfl rfl rfl (LeL.refl _) (hnod.mono fun fa H4 ⟨hx4, ha4⟩ => ?_)
              refine sq_nil ?_
              refine ay_1 10 (by kernel_rfl) rfl rfl ?_
              refine sq_ps rfl rfl rfl hfree (LeL.refl _) ?_
              refine sq_nil ?_
              refine ay_1 11 (by kernel_rfl) rfl rfl ?_
              refine sq_appz TYok TYz rfl rfl rfl rfl rfl rfl rfl (by decide) (ha4.low e13) (.lst _ _ _ _) hn1 hn2 fun H5 ho5 => ?_
              refine sq_nil ?_
              refine ay_1 12 (by kernel_rfl) rfl rfl ?_
              refine sq_call rfl rfl rfl (.cons hle .nil) ((vals_s _ _).mono fun r H6 h6 => ?_)
              obtain ⟨rfl, hv6, ho6, hl6⟩ := h6
              refine sq_nil ?_
              refine ay_1 13 (by kernel_rfl) rfl rfl ?_
              refine sq_call rfl rfl rfl (LeL.refl _) ((hso hv6).mono fun r H7 h7 => ?_)
              obtain ⟨rfl, rfl⟩ := h7
              refine sq_nil ?_
              refine ay_e 14 rfl (by kernel_rfl) (by kernel_rfl) ?_
              refine sq_assign rfl rfl rfl ?_
              refine sq_nil ?_
              refine ay_done (by kernel_rfl) ?_
              exact then_normal ⟨(), _, by rw [rstf_eq]; rfl, .refl _, fin hx4 ha4 ho5 ho6⟩
        · refine sq_pure TYok TYz false rfl rfl rfl sd ?_
          refine sq_nil ?_
          refine ay_2 0 9 (by kernel_rfl) rfl rfl rfl rfl  ?_ ?_
          · refine sq_load TYok rfl rfl rfl (by first | exact hb13 | exact hx4.2 _ _ hb13) rfl Nat.zero_lt_one rfl ?_
            refine sq_nil ?_
            refine ay_2 2 9 (by kernel_rfl) rfl rfl rfl rfl  ?_ ?_
            · refine sq_call rfl rfl rfl (LeL.refl _) (hnod.mono fun fa H4 ⟨hx4, ha4⟩ => ?_)
              refine sq_nil ?_
              refine ay_1 9 (by kernel_rfl) rfl rfl ?_
              refine sq_pure TYok TYz false rfl rfl rfl sd ?_
              refine sq_nil ?_
              refine ay_1 10 (by kernel_rfl) rfl rfl ?_
              refine sq_ps rfl rfl rfl hfree (LeL.refl _) ?_
              refine sq_nil ?_
              refine ay_1 11 (by kernel_rfl) rfl rfl ?_
              refine sq_appz TYok TYz rfl rfl rfl rfl rfl rfl rfl (by decide) (ha4.low e13) (.lst _ _ _ _) hn1 hn2 fun H5 ho5 => ?_
              refine sq_nil ?_
              refine ay_1 12 (by kernel_rfl) rfl rfl ?_
              refine sq_call rfl rfl rfl (.cons hle .nil) ((vals_s _ _).mono fun r H6 h6 => ?_)
              obtain ⟨rfl, hv6, ho6, hl6⟩ := h6
              refine sq_nil ?_
              refine ay_1 13 (by kernel_rfl) rfl rfl ?_
              refine sq_call rfl rfl rfl (LeL.refl _) ((hso hv6).mono fun r H7 h7 => ?_)
              obtain ⟨rfl, rfl⟩ := h7
              refine sq_nil ?_
              refine ay_e 14 rfl (by kernel_rfl) (by kernel_rfl) ?_
              refine sq_assign rfl rfl rfl ?_
              refine sq_nil ?_
              refine ay_done (by kernel_rfl) ?_
              exact then_normal ⟨(), _, by rw [rstf_eq]; rfl, .refl _, fin hx4 ha4 ho5 ho6⟩
            · refine sq_pure TYok TYz false rfl rfl rfl sd ?_
              refine sq_nil ?_
              refine ay_1 2 (by kernel_rfl) rfl rfl ?_
              refine sq_call rfl rfl rfl (LeL.refl _) (hnod.mono fun fa H4 ⟨hx4, ha4⟩ => ?_)
              refine sq_nil ?_
              refine ay_1 10 (by kernel_rfl) rfl rfl ?_
              refine sq_ps rfl rfl rfl hfree (LeL.refl _) ?_
              refine sq_nil ?_
              refine ay_1 11 (by kernel_rfl) rfl rfl ?_
              refine sq_appz TYok TYz rfl rfl rfl rfl rfl rfl rfl (by decide) (ha4.low e13) (.lst _ _ _ _) hn1 hn2 fun H5 ho5 => ?_
              refine sq_nil ?_
              refine ay_1 12 (by kernel_rfl) rfl rfl ?_
              refine sq_call rfl rfl rfl (.cons hle .nil) ((vals_s _ _).mono fun r H6 h6 => ?_)
              obtain ⟨rfl, hv6, ho6, hl6⟩ := h6
              refine sq_nil ?_
              refine ay_1 13 (by kernel_rfl) rfl rfl ?_
              refine sq_call rfl rfl rfl (LeL.refl _) ((hso hv6).mono fun r H7 h7 => ?_)
              obtain ⟨rfl, rfl⟩ := h7
              refine sq_nil ?_
              refine ay_e 14 rfl (by kernel_rfl) (by kernel_rfl) ?_
              refine sq_assign rfl rfl rfl ?_
              refine sq_nil ?_
              refine ay_done (by kernel_rfl) ?_
              exact then_normal ⟨(), _, by rw [rstf_eq]; rfl, .refl _, fin hx4 ha4 ho5 ho6⟩
          · refine sq_pure TYok TYz false rfl rfl rfl sd ?_
            refine sq_nil ?_
            refine ay_1 0 (by kernel_rfl) rfl rfl ?_
            refine sq_load TYok rfl rfl rfl (by first | exact hb13 | exact hx4.2 _ _ hb13) rfl Nat.zero_lt_one rfl ?_
            refine sq_nil ?_
            refine ay_1 2 (by kernel_rfl) rfl rfl ?_
            refine sq_call rfl rfl rfl (LeL.refl _) (hnod.mono fun fa H4 ⟨hx4, ha4⟩ => ?_)
            refine sq_nil ?_
            refine ay_1 10 (by kernel_rfl) rfl rfl ?_
            refine sq_ps rfl rfl rfl hfree (LeL.refl _) ?_
            refine sq_nil ?_
            refine ay_1 11 (by kernel_rfl) rfl rfl ?_
            refine sq_appz TYok TYz rfl rfl rfl rfl rfl rfl rfl (by decide) (ha4.low e13) (.lst _ _ _ _) hn1 hn2 fun H5 ho5 => ?_
            refine sq_nil ?_
            refine ay_1 12 (by kernel_rfl) rfl rfl ?_
            refine sq_call rfl rfl rfl (.cons hle .nil) ((vals_s _ _).mono fun r H6 h6 => ?_)
            obtain ⟨rfl, hv6, ho6, hl6⟩ := h6
            refine sq_nil ?_
            refine ay_1 13 (by kernel_rfl) rfl rfl ?_
            refine sq_call rfl rfl rfl (LeL.refl _) ((hso hv6).mono fun r H7 h7 => ?_)
            obtain ⟨rfl, rfl⟩ := h7
            refine sq_nil ?_
            refine ay_e 14 rfl (by kernel_rfl) (by kernel_rfl) ?_
            refine sq_assign rfl rfl rfl ?_
            refine sq_nil ?_
            refine ay_done (by kernel_rfl) ?_
            exact then_normal ⟨(), _, by rw [rstf_eq]; rfl, .refl _, fin hx4 ha4 ho5 ho6⟩
      · refine sq_pure TYok TYz false rfl rfl rfl sd ?_
        refine sq_nil ?_
        refine ay_2 0 5 (by kernel_rfl) rfl rfl rfl rfl  ?_ ?_
        · refine sq_load TYok rfl rfl rfl (by first | exact hb13 | exact hx4.2 _ _ hb13) rfl Nat.zero_lt_one rfl ?_
          refine sq_nil ?_
          refine ay_2 2 5 (by kernel_rfl) rfl rfl rfl rfl  ?_ ?_
          · refine sq_call rfl rfl rfl (LeL.refl _) (hnod.mono fun fa H4 ⟨hx4, ha4⟩ => ?_)
            refine sq_nil ?_
            refine ay_1 5 (by kernel_rfl) rfl rfl ?_
            refine sq_load TYok rfl rfl rfl (by first | exact hb13 | exact hx4.2 _ _ hb13) rfl Nat.zero_lt_one rfl ?_
            refine sq_nil ?_
            refine ay_1 9 (by kernel_rfl) rfl rfl ?_
            refine sq_pure TYok TYz false rfl rfl rfl sd ?_
            refine sq_nil ?_
            refine ay_1 10 (by kernel_rfl) rfl rfl ?_
            refine sq_ps rfl rfl rfl hfree (LeL.refl _) ?_
            refine sq_nil ?_
            refine ay_1 11 (by kernel_rfl) rfl rfl ?_
            refine sq_appz TYok TYz rfl rfl rfl rfl rfl rfl rfl (by decide) (ha4.low e13) (.lst _ _ _ _) hn1 hn2 fun H5 ho5 => ?_
            refine sq_nil ?_
            refine ay_1 12 (by kernel_rfl) rfl rfl ?_
            refine sq_call rfl rfl rfl (.cons hle .nil) ((vals_s _ _).mono fun r H6 h6 => ?_)
            obtain ⟨rfl, hv6, ho6, hl6⟩ := h6
            refine sq_nil ?_
            refine ay_1 13 (by kernel_rfl) rfl rfl ?_
            refine sq_call rfl rfl rfl (LeL.refl _) ((hso hv6).mono fun r H7 h7 => ?_)
            obtain ⟨rfl, rfl⟩ := h7
            refine sq_nil ?_
            refine ay_e 14 rfl (by kernel_rfl) (by kernel_rfl) ?_
            refine sq_assign rfl rfl rfl ?_
            refine sq_nil ?_
            refine ay_done (by kernel_rfl) ?_
            exact then_normal ⟨(), _, by rw [rstf_eq]; rfl, .refl _, fin hx4 ha4 ho5 ho6⟩
          · refine sq_load TYok rfl rfl rfl (by first | exact hb13 | exact hx4.2 _ _ hb13) rfl Nat.zero_lt_one rfl ?_
            refine sq_nil ?_
            refine ay_2 2 9 (by kernel_rfl) rfl rfl rfl rfl  ?_ ?_
            · refine sq_call rfl rfl rfl (LeL.refl _) (hnod.mono fun fa H4 ⟨hx4, ha4⟩ => ?_)
              refine sq_nil ?_
              refine ay_1 9 (by kernel_rfl) rfl rfl ?_
              refine sq_pure TYok TYz false rfl rfl rfl sd ?_
              refine sq_nil ?_
              refine ay_1 10 (by kernel_rfl) rfl rfl ?_
              refine sq_ps rfl rfl rfl hfree (LeL.refl _) ?_
              refine sq_nil ?_
              refine ay_1 11 (by kernel_rfl) rfl rfl ?_
              refine sq_appz TYok TYz rfl rfl rfl rfl rfl rfl rfl (by decide) (ha4.low e13) (.lst _ _ _ _) hn1 hn2 fun H5 ho5 => ?_
              refine sq_nil ?_
              refine ay_1 12 (by kernel_rfl) rfl rfl ?_
              refine sq_call rfl rfl rfl (.cons hle .nil) ((vals_s _ _).mono fun r H6 h6 => ?_)
              obtain ⟨rfl, hv6, ho6, hl6⟩ := h6
              refine sq_nil ?_
              refine ay_1 13 (by kernel_rfl) rfl rfl ?_
              refine sq_call rfl rfl rfl (LeL.refl _) ((hso hv6).mono fun r H7 h7 => ?_)
              obtain ⟨rfl, rfl⟩ := h7
              refine sq_nil ?_
              refine ay_e 14 rfl (by kernel_rfl) (by kernel_rfl) ?_
              refine sq_assign rfl rfl rfl ?_
              refine sq_nil ?_
              refine ay_done (by kernel_rfl) ?_
              exact then_normal ⟨(), _, by rw [rstf_eq]; rfl, .refl _, fin hx4 ha4 ho5 ho6⟩
            · refine sq_pure TYok TYz false rfl rfl rfl sd ?_
              refine sq_nil ?_
              refine ay_1 2 (by kernel_rfl) rfl rfl ?_
              refine sq_call rfl rfl rfl (LeL.refl _) (hnod.mono fun fa H4 ⟨hx4, ha4⟩ => ?_)
              refine sq_nil ?_
              refine ay_1 10 (by kernel_rfl) rfl rfl ?_
              refine sq_ps rfl rfl rfl hfree (LeL.refl _) ?_
              refine sq_nil ?_
              refine ay_1 11 (by kernel_rfl) rfl rfl ?_
              refine sq_appz TYok TYz rfl rfl rfl rfl rfl rfl rfl (by decide) (ha4.low e13) (.lst _ _ _ _) hn1 hn2 fun H5 ho5 => ?_
              refine sq_nil ?_
              refine ay_1 12 (by kernel_rfl) rfl rfl ?_
              refine sq_call rfl rfl rfl (.cons hle .nil) ((vals_s _ _).mono fun r H6 h6 => ?_)
              obtain ⟨rfl, hv6, ho6, hl6⟩ := h6
              refine sq_nil ?_
              refine ay_1 13 (by kernel_rfl) rfl rfl ?_
              refine sq_call rfl rfl rfl (LeL.refl _) ((hso hv6).mono fun r H7 h7 => ?_)
              obtain ⟨rfl, rfl⟩ := h7
              refine sq_nil ?_
              refine ay_e 14 rfl (by kernel_rfl) (by kernel_rfl) ?_
              refine sq_assign rfl rfl rfl ?_
              refine sq_nil ?_
              refine ay_done (by kernel_rfl) ?_
              exact then_normal ⟨(), _, by rw [rstf_eq]; rfl, .refl _, fin hx4 ha4 ho5 ho6⟩
        · refine sq_load TYok rfl rfl rfl (by first | exact hb13 | exact hx4.2 _ _ hb13) rfl Nat.zero_lt_one rfl ?_
          refine sq_nil ?_
          refine ay_2 0 9 (by kernel_rfl) rfl rfl rfl rfl  ?_ ?_
          · refine sq_load TYok rfl rfl rfl (by first | exact hb13 | exact hx4.2 _ _ hb13) rfl Nat.zero_lt_one rfl ?_
            refine sq_nil ?_
            refine ay_2 2 9 (by kernel_rfl) rfl rfl rfl rfl  ?_ ?_
            · refine sq_call rfl rfl rfl (LeL.refl _) (hnod.mono fun fa H4 ⟨hx4, ha4⟩ => ?_)
              refine sq_nil ?_
              refine ay_1 9 (by kernel_rfl) rfl rfl ?_
              refine sq_pure TYok TYz false rfl rfl rfl sd ?_
              refine sq_nil ?_
              refine ay_1 10 (by kernel_rfl) rfl rfl ?_
              refine sq_ps rfl rfl rfl hfree (LeL.refl _) ?_
              refine sq_nil ?_
              refine ay_1 11 (by kernel_rfl) rfl rfl ?_
              refine sq_appz TYok TYz rfl rfl rfl rfl rfl rfl rfl (by decide) (ha4.low e13) (.lst _ _ _ _) hn1 hn2 fun H5 ho5 => ?_
              refine sq_nil ?_
              refine ay_1 12 (by kernel_rfl) rfl rfl ?_
              refine sq_call rfl rfl rfl (.cons hle .nil) ((vals_s _ _).mono fun r H6 h6 => ?_)
              obtain ⟨rfl, hv6, ho6, hl6⟩ := h6
              refine sq_nil ?_
              refine ay_1 13 (by kernel_rfl) rfl rfl ?_
              refine sq_call rfl rfl rfl (LeL.refl _) ((hso hv6).mono fun r H7 h7 => ?_)
              obtain ⟨rfl, rfl⟩ := h7
              refine sq_nil ?_
              refine ay_e 14 rfl (by kernel_rfl) (by kernel_rfl) ?_
              refine sq_assign rfl rfl rfl ?_
              refine sq_nil ?_
              refine ay_done (by kernel_rfl) ?_
              exact then_normal ⟨(), _, by rw [rstf_eq]; rfl, .refl _, fin hx4 ha4 ho5 ho6⟩
            · refine sq_pure TYok TYz false rfl rfl rfl sd ?_
              refine sq_nil ?_
              refine ay_1 2 (by kernel_rfl) rfl rfl ?_
              refine sq_call rfl rfl rfl (LeL.refl _) (hnod.mono fun fa H4 ⟨hx4, ha4⟩ => ?_)
              refine sq_nil ?_
              refine ay_1 10 (by kernel_rfl) rfl rfl ?_
              refine sq_ps rfl rfl rfl hfree (LeL.refl _) ?_
              refine sq_nil ?_
              refine ay_1 11 (by kernel_rfl) rfl rfl ?_
              refine sq_appz TYok TYz rfl rfl rfl rfl rfl rfl rfl (by decide) (ha4.low e13) (.lst _ _ _ _) hn1 hn2 fun H5 ho5 => ?_
              refine sq_nil ?_
              refine ay_1 12 (by kernel_rfl) rfl rfl ?_
              refine sq_call rfl rfl rfl (.cons hle .nil) ((vals_s _ _).mono fun r H6 h6 => ?_)
              obtain ⟨rfl, hv6, ho6, hl6⟩ := h6
              refine sq_nil ?_
              refine ay_1 13 (by kernel_rfl) rfl rfl ?_
              refine sq_call rfl rfl rfl (LeL.refl _) ((hso hv6).mono fun r H7 h7 => ?_)
              obtain ⟨rfl, rfl⟩ := h7
              refine sq_nil ?_
              refine ay_e 14 rfl (by kernel_rfl) (by kernel_rfl) ?_
              refine sq_assign rfl rfl rfl ?_
              refine sq_nil ?_
              refine ay_done (by kernel_rfl) ?_
              exact then_normal ⟨(), _, by rw [rstf_eq]; rfl, .refl _, fin hx4 ha4 ho5 ho6⟩
          · refine sq_pure TYok TYz false rfl rfl rfl sd ?_
            refine sq_nil ?_
            refine ay_1 0 (by kernel_rfl) rfl rfl ?_
            refine sq_load TYok rfl rfl rfl (by first | exact hb13 | exact hx4.2 _ _ hb13) rfl Nat.zero_lt_one rfl ?_
            refine sq_nil ?_
            refine ay_1 2 (by kernel_rfl) rfl rfl ?_
            refine sq_call rfl rfl rfl (LeL.refl _) (hnod.mono fun fa H4 ⟨hx4, ha4⟩ => ?_)
            refine sq_nil ?_
            refine ay_1 10 (by kernel_rfl) rfl rfl ?_
            refine sq_ps rfl rfl rfl hfree (LeL.refl _) ?_
            refine sq_nil ?_
            refine ay_1 11 (by kernel_rfl) rfl rfl ?_
            refine sq_appz TYok TYz rfl rfl rfl rfl rfl rfl rfl (by decide) (ha4.low e13) (.lst _ _ _ _) hn1 hn2 fun H5 ho5 => ?_
            refine sq_nil ?_
            refine ay_1 12 (by kernel_rfl) rfl rfl ?_
            refine sq_call rfl rfl rfl (.cons hle .nil) ((vals_s _ _).mono fun r H6 h6 => ?_)
            obtain ⟨rfl, hv6, ho6, hl6⟩ := h6
            refine sq_nil ?_
            refine ay_1 13 (by kernel_rfl) rfl rfl ?_
            refine sq_call rfl rfl rfl (LeL.refl _) ((hso hv6).mono fun r H7 h7 => ?_)
            obtain ⟨rfl, rfl⟩ := h7
            refine sq_nil ?_
            refine ay_e 14 rfl (by kernel_rfl) (by kernel_rfl) ?_
            refine sq_assign rfl rfl rfl ?_
            refine sq_nil ?_
            refine ay_done (by kernel_rfl) ?_
            exact then_normal ⟨(), _, by rw [rstf_eq]; rfl, .refl _, fin hx4 ha4 ho5 ho6⟩
  · rintro - H4 ⟨hx4, hb4⟩
    (repeat' (first | (refine sq_id ?_; first | refine sq_nil ?_ | refine sq_move rfl rfl rfl ?_ | refine sq_assign rfl rfl rfl ?_ | refine sq_skip rfl rfl ?_ | refine sq_t TYok TYz rfl rfl rfl True.intro so ?_ | refine sq_f TYok TYz rfl rfl rfl True.intro so ?_ | refine sq_pure TYok TYz false rfl rfl rfl sd ?_ | refine sq_pure TYok TYz true rfl rfl rfl sd ?_ | refine sq_load TYok rfl rfl rfl (by assumption) (by rfl) (by first | exact Nat.zero_lt_one | assumption | omega) (by rfl) ?_ | refine sq_lit TYok TYz rfl rfl rfl rfl rfl rfl rfl rfl ?_ | refine sq_ixa TYok rfl rfl rfl rfl rfl rfl rfl sd ?_ | refine sq_ixr TYok rfl rfl rfl rfl rfl rfl rfl sd ?_) | (refine rg_id ?_; first | refine rg_fin ?_ | refine rg_move rfl rfl rfl ?_ | refine rg_assign rfl rfl rfl ?_ | refine rg_skip rfl rfl ?_ | refine rg_t TYok TYz rfl rfl rfl True.intro so ?_ | refine rg_f TYok TYz rfl rfl rfl True.intro so ?_ | refine rg_pure TYok TYz false rfl rfl rfl sd ?_ | refine rg_pure TYok TYz true rfl rfl rfl sd ?_ | refine rg_load TYok rfl rfl rfl (by assumption) (by rfl) (by first | exact Nat.zero_lt_one | assumption | omega) (by rfl) ?_ | refine rg_lit TYok TYz rfl rfl rfl rfl rfl rfl rfl rfl ?_ | refine rg_ixa TYok rfl rfl rfl rfl rfl rfl rfl sd ?_ | refine rg_ixr TYok rfl rfl rfl rfl rfl rfl rfl sd ?_) | refine aw_rseq ?_ | refine aw_seq ?_ | refine aw_region ?_ | refine aw_skip ?_ | refine aw_true rfl ?_ | refine aw_false rfl ?_ | refine aw_d0seq rfl (by kernel_rfl) ?_ | refine aw_d0 rfl (by kernel_rfl) ?_ | refine aw_block ?_ | refine aw_exit ?_ | refine then_ret ?_ | refine then_exit ?_ | refine then_normal ?_ | refine blk_ret ?_ | refine blk_normal ?_ | refine blk_exit ?_ | refine blk_pass rfl ?_))
    refine aw_for [2, 6, 38, 39, 40] (fun i : Nat => [(2, .ref H.length 2 0 0), (6, ints (intsN (List.range N))), (38, ints (intsN (List.range N))), (39, .i (intsN (List.range N)).length), (40, .i i)]) (fun i H' => i ≤ N ∧ H' = H4) (fun i => N - i) 0 (by rw [rstf_eq]; rfl) ⟨by omega, rfl⟩ ?_
    rintro i H5 ⟨hi, rfl⟩
    by_cases hlt : i < N
    · have hri := hrat i hlt
      (repeat' (first | (refine sq_id ?_; first | refine sq_nil ?_ | refine sq_move rfl rfl rfl ?_ | refine sq_assign rfl rfl rfl ?_ | refine sq_skip rfl rfl ?_ | refine sq_t TYok TYz rfl rfl rfl True.intro so ?_ | refine sq_f TYok TYz rfl rfl rfl True.intro so ?_ | refine sq_pure TYok TYz false rfl rfl rfl sd ?_ | refine sq_pure TYok TYz true rfl rfl rfl sd ?_ | refine sq_load TYok rfl rfl rfl (by assumption) (by rfl) (by first | exact Nat.zero_lt_one | assumption | omega) (by rfl) ?_ | refine sq_lit TYok TYz rfl rfl rfl rfl rfl rfl rfl rfl ?_ | refine sq_ixa TYok rfl rfl rfl rfl rfl rfl rfl sd ?_ | refine sq_ixr TYok rfl rfl rfl rfl rfl rfl rfl sd ?_) | (refine rg_id ?_; first | refine rg_fin ?_ | refine rg_move rfl rfl rfl ?_ | refine rg_assign rfl rfl rfl ?_ | refine rg_skip rfl rfl ?_ | refine rg_t TYok TYz rfl rfl rfl True.intro so ?_ | refine rg_f TYok TYz rfl rfl rfl True.intro so ?_ | refine rg_pure TYok TYz false rfl rfl rfl sd ?_ | refine rg_pure TYok TYz true rfl rfl rfl sd ?_ | refine rg_load TYok rfl rfl rfl (by assumption) (by rfl) (by first | exact Nat.zero_lt_one | assumption | omega) (by rfl) ?_ | refine rg_lit TYok TYz rfl rfl rfl rfl rfl rfl rfl rfl ?_ | refine rg_ixa TYok rfl rfl rfl rfl rfl rfl rfl sd ?_ | refine rg_ixr TYok rfl rfl rfl rfl rfl rfl rfl sd ?_) | refine aw_rseq ?_ | refine aw_seq ?_ | refine aw_region ?_ | refine aw_skip ?_ | refine aw_true rfl ?_ | refine aw_false rfl ?_ | refine aw_d0seq rfl (by kernel_rfl) ?_ | refine aw_d0 rfl (by kernel_rfl) ?_ | refine aw_block ?_ | refine aw_exit ?_ | refine then_ret ?_ | refine then_exit ?_ | refine then_normal ?_ | refine blk_ret ?_ | refine blk_normal ?_ | refine blk_exit ?_ | refine blk_pass rfl ?_))
      exact ⟨i + 1, by rw [rstf_eq]; rfl, ⟨by omega, rfl⟩, by omega⟩
    · have : i = N := by omega
      subst this
      (repeat' (first | (refine sq_id ?_; first | refine sq_nil ?_ | refine sq_move rfl rfl rfl ?_ | refine sq_assign rfl rfl rfl ?_ | refine sq_skip rfl rfl ?_ | refine sq_t TYok TYz rfl rfl rfl True.intro so ?_ | refine sq_f TYok TYz rfl rfl rfl True.intro so ?_ | refine sq_pure TYok TYz false rfl rfl rfl sd ?_ | refine sq_pure TYok TYz true rfl rfl rfl sd ?_ | refine sq_load TYok rfl rfl rfl (by assumption) (by rfl) (by first | exact Nat.zero_lt_one | assumption | omega) (by rfl) ?_ | refine sq_lit TYok TYz rfl rfl rfl rfl rfl rfl rfl rfl ?_ | refine sq_ixa TYok rfl rfl rfl rfl rfl rfl rfl sd ?_ | refine sq_ixr TYok rfl rfl rfl rfl rfl rfl rfl sd ?_) | (refine rg_id ?_; first | refine rg_fin ?_ | refine rg_move rfl rfl rfl ?_ | refine rg_assign rfl rfl rfl ?_ | refine rg_skip rfl rfl ?_ | refine rg_t TYok TYz rfl rfl rfl True.intro so ?_ | refine rg_f TYok TYz rfl rfl rfl True.intro so ?_ | refine rg_pure TYok TYz false rfl rfl rfl sd ?_ | refine rg_pure TYok TYz true rfl rfl rfl sd ?_ | refine rg_load TYok rfl rfl rfl (by assumption) (by rfl) (by first | exact Nat.zero_lt_one | assumption | omega) (by rfl) ?_ | refine rg_lit TYok TYz rfl rfl rfl rfl rfl rfl rfl rfl ?_ | refine rg_ixa TYok rfl rfl rfl rfl rfl rfl rfl sd ?_ | refine rg_ixr TYok rfl rfl rfl rfl rfl rfl rfl sd ?_) | refine aw_rseq ?_ | refine aw_seq ?_ | refine aw_region ?_ | refine aw_skip ?_ | refine aw_true rfl ?_ | refine aw_false rfl ?_ | refine aw_d0seq rfl (by kernel_rfl) ?_ | refine aw_d0 rfl (by kernel_rfl) ?_ | refine aw_block ?_ | refine aw_exit ?_ | refine then_ret ?_ | refine then_exit ?_ | refine then_normal ?_ | refine blk_ret ?_ | refine blk_normal ?_ | refine blk_exit ?_ | refine blk_pass rfl ?_))
      ((try refine aw_ret ?_); (repeat (first | refine then_ret ?_ | refine blk_ret ?_)); refine fin_t True.intro rfl rfl ?_)
      exact ⟨hx4, rfl⟩
end Go.Proofs.Ytphjglbbhanmpaa.Ab
