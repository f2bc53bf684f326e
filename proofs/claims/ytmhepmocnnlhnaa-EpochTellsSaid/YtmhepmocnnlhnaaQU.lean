/- Epochs, in plain words: what may be stays so. -/
import Derived.Test.YtmhepmocnnlhnaaQD
import Derived.Test.YtmhepmocnnlhnaaQO
namespace Go.Proofs.Ytmhepmocnnlhnaa.Ab
open Go Go.RowKit
theorem RightE.bd {e : Ep} (h : RightE e) : Bd e := by
  have := nodesL_len e
  obtain ⟨_, h1, _, h2, _⟩ := h
  exact ⟨by omega, by omega⟩
theorem right_set {e : Ep} (h : RightE e) (j : Nat) (v : Int) (hv : pinP e.now v) : RightE { e with pins := e.pins.set j v } := by
  obtain ⟨h1, h2, h3, h4⟩ := h
  exact ⟨h1, by rw [List.length_set]; exact h2, fun p hp => (List.mem_or_eq_of_mem_set hp).elim (fun k => h3 p k) (fun k => k ▸ hv), h4⟩
theorem perm_addL (e : Ep) (k n : Int) : (nodesL (addL e k n)).Perm (n :: nodesL e) := by
  refine List.perm_iff_count.2 fun a => ?_
  unfold addL
  split
  · simp only [nodesL, nodesK, List.count_append, List.count_cons, List.count_nil]; omega
  · split
    · simp only [nodesL, nodesK, List.count_append, List.count_cons, List.count_nil]; omega
    · simp only [nodesL, nodesK, List.count_append, List.count_cons, List.count_nil]; omega
theorem perm_advT (e : Ep) : (nodesL (advT e)).Perm (nodesL e) := by
  refine List.perm_iff_count.2 fun a => ?_
  unfold advT
  split
  · simp only [nodesL, nodesK, List.count_append, List.count_nil]; omega
  · split
    · simp only [nodesL, nodesK, List.count_append, List.count_nil]; omega
    · simp only [nodesL, nodesK, List.count_append, List.count_nil]; omega
theorem addL_now (e : Ep) (k n : Int) : (addL e k n).now = e.now ∧ (addL e k n).pins = e.pins ∧ (addL e k n).free = e.free := by
  unfold addL; split
  · exact ⟨rfl, rfl, rfl⟩
  · split <;> exact ⟨rfl, rfl, rfl⟩
theorem advT_now (e : Ep) : (advT e).now = e.now + 1 ∧ (advT e).pins = e.pins := by
  unfold advT; split
  · exact ⟨rfl, rfl⟩
  · split <;> exact ⟨rfl, rfl⟩
theorem right_perm {e' : Ep} (h1 : nodeP e'.now) (h2 : 1 ≤ e'.pins.length ∧ e'.pins.length ≤ 64) (h3 : ∀ p ∈ e'.pins, pinP e'.now p) {l : List Int} (hp : (nodesL e').Perm l) (h4 : l.length ≤ 1000) (h5 : l.Nodup) (h6 : ∀ n ∈ l, nodeP n) : RightE e' :=
  ⟨h1, h2, h3, by rw [hp.length_eq]; exact h4, hp.nodup_iff.2 h5, fun n hn => h6 n (hp.mem_iff.1 hn)⟩
theorem right_addL {e : Ep} (h : RightE e) (k n : Int) (hn : nodeP n) (hne : n ∉ nodesL e) (hl : (nodesL e).length < 1000) : RightE (addL e k n) := by
  obtain ⟨h1, h2, h3, h4, h5, h6⟩ := h
  obtain ⟨a1, a2, _⟩ := addL_now e k n
  refine right_perm (by rw [a1]; exact h1) (by rw [a2]; exact h2) (by rw [a1, a2]; exact h3) (perm_addL e k n) (by simp; omega) (List.nodup_cons.2 ⟨hne, h5⟩) fun m hm => ?_
  rcases List.mem_cons.1 hm with rfl | hm
  · exact hn
  · exact h6 m hm
theorem right_advT {e : Ep} (h : RightE e) (hb : blockedB e = false) : RightE (advT e) := by
  obtain ⟨⟨n0, n1⟩, h2, h3, h4, h5, h6⟩ := h
  obtain ⟨a1, a2⟩ := advT_now e
  unfold blockedB behindB at hb
  rw [Bool.or_eq_false_iff, List.any_eq_false] at hb
  obtain ⟨hb, hn⟩ := hb
  have hn := of_decide_eq_false hn
  refine right_perm (by rw [a1]; exact ⟨by omega, by omega⟩) (by rw [a2]; exact h2) (fun p hp => ?_) (perm_advT e) h4 h5 h6
  rw [a2] at hp
  rw [a1]
  have := hb p hp
  simp only [decide_eq_true_eq] at this
  unfold pinP
  omega
theorem take_nodes {e : Ep} (hf : e.free ≠ []) : nodesL e = e.free.getD 0 0 :: nodesL { e with free := e.free.drop 1 } := by
  cases hfe : e.free with
  | nil => exact absurd hfe hf
  | cons a l => simp [nodesL, nodesK, hfe]
theorem right_take {e : Ep} (h : RightE e) (hf : e.free ≠ []) : RightE { e with free := e.free.drop 1 } := by
  have ht := take_nodes hf
  obtain ⟨h1, h2, h3, h4, h5, h6⟩ := h
  rw [ht] at h4 h5 h6
  exact ⟨h1, h2, h3, by rw [List.length_cons] at h4; omega, (List.nodup_cons.1 h5).2, fun n hn => h6 n (List.mem_cons_of_mem _ hn)⟩
/-- what each call does -/
theorem pin_cases (e : Ep) (i : Int) : ((pinE e i).1 = e ∧ (pinE e i).2 ≠ 0) ∨ (∃ j : Nat, i = j ∧ j < e.pins.length ∧ e.pins.getD j 0 = 0 ∧ RightE e ∧ pinE e i = ({ e with pins := e.pins.set j (e.now + 1) }, 0)) := by
  unfold pinE pinop
  by_cases h : RightE e ∧ 0 ≤ i ∧ i < e.pins.length
  · rw [if_pos h]
    by_cases h2 : e.pins.getD i.toNat 0 = 0
    · refine .inr ⟨i.toNat, by omega, by omega, h2, h.1, ?_⟩
      simp only [h2, if_true]
    · left
      simp only [h2, if_false]
      rw [if_neg (by decide)]
      exact ⟨rfl, fun k => by cases k⟩
  · rw [if_neg h]
    exact .inl ⟨rfl, fun k => by cases k⟩
theorem unpin_cases (e : Ep) (i : Int) : ((unpinE e i).1 = e ∧ (unpinE e i).2 ≠ 0) ∨ (∃ j : Nat, i = j ∧ j < e.pins.length ∧ e.pins.getD j 0 ≠ 0 ∧ RightE e ∧ unpinE e i = ({ e with pins := e.pins.set j 0 }, 0)) := by
  unfold unpinE pinop
  by_cases h : RightE e ∧ 0 ≤ i ∧ i < e.pins.length
  · rw [if_pos h]
    by_cases h2 : e.pins.getD i.toNat 0 = 0
    · left
      simp only [h2, if_true]
      rw [if_neg (by decide)]
      exact ⟨rfl, fun k => by cases k⟩
    · refine .inr ⟨i.toNat, by omega, by omega, h2, h.1, ?_⟩
      simp only [h2, if_false, if_true]
  · rw [if_neg h]
    exact .inl ⟨rfl, fun k => by cases k⟩
theorem retErr_eq {e : Ep} {p n : Int} : retErr e p n = 0 ↔ (nodeP n ∧ p ≠ 0 ∧ n ∉ nodesL e ∧ (nodesL e).length < 1000) := by
  unfold retErr
  by_cases h1 : nodeP n
  · rw [if_neg (fun k => k h1)]
    by_cases h2 : p = 0
    · rw [if_pos h2]; exact ⟨fun k => (by cases k), fun k => absurd h2 k.2.1⟩
    · rw [if_neg h2]
      by_cases h3 : n ∈ nodesL e
      · rw [if_pos h3]; exact ⟨fun k => (by cases k), fun k => absurd h3 k.2.2.1⟩
      · rw [if_neg h3]
        by_cases h4 : 1000 ≤ (nodesL e).length
        · rw [if_pos h4]; exact ⟨fun k => (by cases k), fun k => by omega⟩
        · rw [if_neg h4]; exact ⟨fun _ => ⟨h1, h2, h3, by omega⟩, fun _ => rfl⟩
  · rw [if_pos h1]; exact ⟨fun k => (by cases k), fun k => absurd k.1 h1⟩
theorem retire_cases (e : Ep) (i n : Int) : ((retireE e i n).1 = e ∧ (retireE e i n).2 ≠ 0) ∨ (∃ j : Nat, i = j ∧ j < e.pins.length ∧ e.pins.getD j 0 ≠ 0 ∧ RightE e ∧ nodeP n ∧ n ∉ nodesL e ∧ (nodesL e).length < 1000 ∧ retireE e i n = (addL e (e.now % 3) n, 0)) := by
  unfold retireE
  by_cases h : RightE e ∧ 0 ≤ i ∧ i < e.pins.length
  · rw [if_pos h]
    by_cases h2 : retErr e (e.pins.getD i.toNat 0) n = 0
    · rw [if_pos h2]
      obtain ⟨a, b, c, d⟩ := retErr_eq.1 h2
      exact .inr ⟨i.toNat, by omega, by omega, b, h.1, a, c, d, rfl⟩
    · rw [if_neg h2]
      exact .inl ⟨rfl, h2⟩
  · rw [if_neg h]
    exact .inl ⟨rfl, fun k => by cases k⟩
theorem advance_cases (e : Ep) : ((advanceE e).1 = e ∧ (advanceE e).2.1 = false) ∨ (RightE e ∧ blockedB e = false ∧ advanceE e = (advT e, true, 0)) := by
  unfold advanceE
  by_cases h : RightE e
  · rw [if_pos h]
    cases hb : blockedB e
    · exact .inr ⟨h, rfl, by rw [if_neg (by decide)]⟩
    · rw [if_pos rfl]; exact .inl ⟨rfl, rfl⟩
  · rw [if_neg h]; exact .inl ⟨rfl, rfl⟩
theorem take_cases (e : Ep) : ((takeE e).1 = e ∧ (takeE e).2.2.1 = false ∧ (takeE e).2.1 = 0) ∨ (RightE e ∧ e.free ≠ [] ∧ takeE e = ({ e with free := e.free.drop 1 }, e.free.getD 0 0, true, 0)) := by
  unfold takeE
  by_cases h : RightE e
  · rw [if_pos h]
    by_cases hf : e.free = []
    · rw [if_pos hf]; exact .inl ⟨rfl, rfl, rfl⟩
    · rw [if_neg hf]; exact .inr ⟨h, hf, rfl⟩
  · rw [if_neg h]; exact .inl ⟨rfl, rfl, rfl⟩
/-- epochs of so few workers, at most k nodes, all below m, at most k times on -/
structure EI (w k : Nat) (m : Int) (e : Ep) : Prop where
  right : RightE e
  wl : e.pins.length = w
  len : (nodesL e).length ≤ k
  low : ∀ n ∈ nodesL e, n < m
  now : e.now ≤ k
theorem EI.mono {w k k' : Nat} {m m' : Int} {e : Ep} (h : EI w k m e) (hk : k ≤ k') (hm : m ≤ m') : EI w k' m' e := ⟨h.right, h.wl, Nat.le_trans h.len hk, fun n hn => by have := h.low n hn; omega, by have := h.now; omega⟩
theorem EI.pin {w k : Nat} {m : Int} {e : Ep} (h : EI w k m e) (i : Int) : EI w k m (pinE e i).1 := by
  rcases pin_cases e i with ⟨h1, _⟩ | ⟨j, _, _, _, _, h1⟩
  · rw [h1]; exact h
  · rw [h1]; exact ⟨right_set h.right j _ (.inr (.inr rfl)), by rw [← h.wl]; exact List.length_set .., h.len, h.low, h.now⟩
theorem EI.unpin {w k : Nat} {m : Int} {e : Ep} (h : EI w k m e) (i : Int) : EI w k m (unpinE e i).1 := by
  rcases unpin_cases e i with ⟨h1, _⟩ | ⟨j, _, _, _, _, h1⟩
  · rw [h1]; exact h
  · rw [h1]; exact ⟨right_set h.right j _ (.inl rfl), by rw [← h.wl]; exact List.length_set .., h.len, h.low, h.now⟩
theorem EI.retire {w k : Nat} {m : Int} {e : Ep} (h : EI w k m e) (i n : Int) (hn : n < m) : EI w (k + 1) m (retireE e i n).1 := by
  rcases retire_cases e i n with ⟨h1, _⟩ | ⟨j, _, _, _, _, hp, hne, hl, h1⟩
  · rw [h1]; exact h.mono (Nat.le_succ k) (Int.le_refl m)
  · rw [h1]
    obtain ⟨a1, a2, _⟩ := addL_now e (e.now % 3) n
    refine ⟨right_addL h.right _ n hp hne hl, by rw [a2]; exact h.wl, ?_, fun x hx => ?_, by rw [a1]; have := h.now; omega⟩
    · rw [(perm_addL e _ n).length_eq]; have := h.len; simp; omega
    · rcases List.mem_cons.1 ((perm_addL e _ n).mem_iff.1 hx) with rfl | hx
      · exact hn
      · exact h.low x hx
theorem EI.advance {w k : Nat} {m : Int} {e : Ep} (h : EI w k m e) : EI w (k + 1) m (advanceE e).1 := by
  rcases advance_cases e with ⟨h1, _⟩ | ⟨_, hb, h1⟩
  · rw [h1]; exact h.mono (Nat.le_succ k) (Int.le_refl m)
  · rw [h1]
    obtain ⟨a1, a2⟩ := advT_now e
    refine ⟨right_advT h.right hb, by rw [a2]; exact h.wl, ?_, fun x hx => h.low x ((perm_advT e).mem_iff.1 hx), by rw [a1]; have := h.now; omega⟩
    rw [(perm_advT e).length_eq]; have := h.len; omega
theorem EI.take {w k : Nat} {m : Int} {e : Ep} (h : EI w k m e) : EI w k m (takeE e).1 := by
  rcases take_cases e with ⟨h1, _⟩ | ⟨_, hf, h1⟩
  · rw [h1]; exact h
  · rw [h1]
    have ht := take_nodes hf
    refine ⟨right_take h.right hf, h.wl, ?_, fun x hx => h.low x (by rw [ht]; exact List.mem_cons_of_mem _ hx), h.now⟩
    have := h.len
    rw [ht] at this
    rw [List.length_cons] at this
    show (nodesL { e with free := e.free.drop 1 }).length ≤ k
    omega
theorem EI.new (w : Int) (m : Int) (h1 : 1 ≤ w) (h2 : w ≤ 64) : EI w.toNat 0 m (newE w) := by
  unfold newE
  rw [if_pos ⟨h1, h2⟩]
  refine ⟨⟨⟨Int.le_refl 0, by show (0 : Int) ≤ 1099511627776; decide⟩, by rw [List.length_replicate]; omega, fun p hp => .inl (List.mem_replicate.1 hp).2, by simp [nodesL, nodesK], by simp [nodesL, nodesK], by simp [nodesL, nodesK]⟩, List.length_replicate .., by simp [nodesL, nodesK], by simp [nodesL, nodesK], Int.le_refl 0⟩
/-- one raw step -/
def stepE (e : Ep) (x : Int × Int × Int) : Ep :=
  if pick x.1 8 = 0 ∨ pick x.1 8 = 1 then (pinE e (pick x.2.1 5)).1 else if pick x.1 8 = 2 then (unpinE e (pick x.2.1 5)).1 else if pick x.1 8 = 3 ∨ pick x.1 8 = 4 then (retireE e (pick x.2.1 5) (pick x.2.2 20)).1 else if pick x.1 8 = 5 ∨ pick x.1 8 = 6 then (advanceE e).1 else (takeE e).1
theorem EI.step {w k : Nat} {m : Int} {e : Ep} (h : EI w k m e) (x : Int × Int × Int) (hm : 20 ≤ m) : EI w (k + 1) m (stepE e x) := by
  unfold stepE
  have h20 := (pick_bd x.2.2 20 (by decide)).2
  have up : ∀ e', EI w k m e' → EI w (k + 1) m e' := fun e' h => h.mono (Nat.le_succ k) (Int.le_refl m)
  split
  · exact up _ (h.pin _)
  · split
    · exact up _ (h.unpin _)
    · split
      · exact h.retire _ _ (by omega)
      · split
        · exact h.advance
        · exact up _ h.take
/-- epochs of raw steps, j of them done -/
def epAt (w : Int) (L : List (Int × Int × Int)) (j : Nat) : Ep := (L.take j).foldl stepE (newE (1 + pick w 5))
theorem epAt_succ (w : Int) (L : List (Int × Int × Int)) (j : Nat) (hj : j < L.length) : epAt w L (j + 1) = stepE (epAt w L j) (L.getD j (0, 0, 0)) := by
  unfold epAt
  rw [List.take_add_one, List.getElem?_eq_getElem hj, List.foldl_append, List.getD_eq_getElem?_getD, List.getElem?_eq_getElem hj]
  rfl
theorem epAt_inv (w : Int) (L : List (Int × Int × Int)) (j : Nat) (hj : j ≤ L.length) : EI (1 + pick w 5).toNat j 20 (epAt w L j) := by
  have hp := pick_bd w 5 (by decide)
  induction j with
  | zero => exact EI.new _ _ (by omega) (by omega)
  | succ j ih => rw [epAt_succ w L j hj]; exact (ih (by omega)).step _ (Int.le_refl 20)
def epochsE (w : Int) (L : List (Int × Int × Int)) : Ep := epAt w L (min L.length 40)
theorem epochs_inv (w : Int) (L : List (Int × Int × Int)) : EI (1 + pick w 5).toNat 40 20 (epochsE w L) := (epAt_inv w L _ (Nat.min_le_left _ _)).mono (Nat.min_le_right _ _) (Int.le_refl 20)
end Go.Proofs.Ytmhepmocnnlhnaa.Ab
