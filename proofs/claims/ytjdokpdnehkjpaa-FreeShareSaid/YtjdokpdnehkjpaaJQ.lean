/- Crowds that go on till all are done: plain. -/
import Derived.Test.YtjdokpdnehkjpaaJO
namespace Go.Proofs.Ytjdokpdnehkjpaa.Ab
open Go Go.RowKit
theorem doW_load (xs : List Int) (j : Nat) (o n : Int) (hj : j < xs.length) (hl : xs.length ≤ 100000) : doW xs 1 j o n = (xs, xs.getD j 0, true, 0) := by
  have hw : wrongE xs 1 j n = 0 := by
    unfold wrongE
    rw [if_neg (by omega), if_neg (by omega), if_neg (by simp)]
  rw [doW, if_pos hw, Int.toNat_natCast]
  simp [doneB]
theorem doW_swap (xs : List Int) (j : Nat) (o n : Int) (hj : j < xs.length) (hl : xs.length ≤ 100000) (hn : -1152921504606846975 ≤ n ∧ n ≤ 1152921504606846975) :
    doW xs 3 j o n = (if xs.getD j 0 = o then xs.set j n else xs, xs.getD j 0, decide (xs.getD j 0 = o), 0) := by
  have ht : toW xs 3 j n = n := by unfold toW; rw [if_neg (by omega)]
  have hw : wrongE xs 3 j n = 0 := by
    unfold wrongE
    rw [if_neg (by omega), if_neg (by omega), if_neg (by rw [ht]; unfold fits; simp; omega)]
  have hd : doneB xs 3 j o = decide (xs.getD j 0 = o) := by unfold doneB; rw [Int.toNat_natCast]; simp
  rw [doW, if_pos hw, ht, hd, Int.toNat_natCast]
  simp
/-- none is left: all are done -/
theorem none_left (picks : List Int) (step : Int) (l : List Wk) (last : Int) (h : nextV picks step (leftL l) last < 0) : ∀ w ∈ l, w.done = true := by
  have h0 : (allK (leftL l) (leftL l).length).length = 0 := by
    apply Decidable.byContradiction
    intro hne
    have key : ∀ y : Nat, y < (allK (leftL l) (leftL l).length).length → 0 ≤ (allK (leftL l) (leftL l).length).getD y 0 := fun y hy => by
      obtain ⟨j, hj, _⟩ := allK_mem (leftL l) (leftL l).length _ (mem_getD _ 0 y hy); omega
    unfold nextV at h
    rw [if_neg hne] at h
    by_cases h1 : 0 ≤ step ∧ step < picks.length
    · rw [if_pos h1] at h
      have := pick_bd (picks.getD step.toNat 0) (allK (leftL l) (leftL l).length).length (by omega)
      have := key (pick (picks.getD step.toNat 0) (allK (leftL l) (leftL l).length).length).toNat (by omega)
      omega
    · rw [if_neg h1] at h
      by_cases h2 : 0 ≤ idxOf (fun x => decide (last < x)) (allK (leftL l) (leftL l).length) ∧ 0 ≤ last
      · rw [if_pos h2] at h
        have := idxOf_lt _ _ h2.1
        have := key (idxOf (fun x => decide (last < x)) (allK (leftL l) (leftL l).length)).toNat (by omega)
        omega
      · rw [if_neg h2] at h
        have := key 0 (by omega)
        omega
  intro w hw
  obtain ⟨j, hj, rfl⟩ := List.getElem_of_mem hw
  apply Decidable.byContradiction
  intro hd
  have hlj : (leftL l).getD j 0 = 1 := by
    rw [leftL_getD l j hj, List.getD_eq_getElem?_getD, List.getElem?_eq_getElem hj]
    simp at hd
    simp [hd]
  have : (j : Int) ∈ allK (leftL l) (leftL l).length := by
    unfold allK
    refine List.mem_map.2 ⟨j, ?_, rfl⟩
    simp only [List.mem_filter, List.mem_range, decide_eq_true_eq]
    exact ⟨by rw [leftL_len]; exact hj, by omega⟩
  rw [List.eq_nil_of_length_eq_zero h0] at this
  simp at this
/-- what holds of words and workers, and is kept, holds at the end; steps that get fewer end -/
theorem driveL_inv (stp : Stp) (picks m0 : List Int) (l0 : List Wk) (Inv : List Int → List Wk → Prop) (φ : List Int → List Wk → Nat)
    (hstep : ∀ ws now j, Inv ws now → j < now.length → (now.getD j wk0).done = false → (stp ws (now.getD j wk0)).2.2 = 0 ∧ Inv (stp ws (now.getD j wk0)).1 (now.set j (stp ws (now.getD j wk0)).2.1) ∧ φ (stp ws (now.getD j wk0)).1 (now.set j (stp ws (now.getD j wk0)).2.1) < φ ws now) :
    ∀ (f : Nat) (last : Int) (ws : List Int) (now : List Wk), f ≤ 100000 → Inv ws now → φ ws now ≤ f → ∃ ws' now', driveL stp picks m0 l0 f last ws now = (ws', now', 0) ∧ Inv ws' now' ∧ ∀ w ∈ now', w.done = true := by
  intro f
  induction f with
  | zero =>
    intro last ws now hf hI hφ
    by_cases h : nextV picks 100000 (leftL now) last < 0
    · exact ⟨ws, now, by rw [driveL, if_pos h], hI, none_left _ _ _ _ h⟩
    · obtain ⟨j, _, hj, hp⟩ := nextV_lt _ _ _ _ h
      rw [leftL_len] at hj
      have hd : (now.getD j wk0).done = false := by
        rw [leftL_getD now j hj] at hp
        cases hx : (now.getD j wk0).done
        · rfl
        · rw [hx] at hp; simp at hp
      have := (hstep ws now j hI hj hd).2.2
      omega
  | succ f ih =>
    intro last ws now hf hI hφ
    have e : ((100000 - (f + 1) : Nat) : Int) = 100000 - ((f + 1 : Nat) : Int) := by omega
    have ef : 100000 - (100000 - (f + 1)) = f + 1 := by omega
    by_cases h : nextV picks ((100000 - (f + 1) : Nat) : Int) (leftL now) last < 0
    · have := driveL_neg (stp := stp) (m0 := m0) (l0 := l0) (ws := ws) (100000 - (f + 1)) (by omega) h
      rw [ef] at this
      exact ⟨ws, now, this, hI, none_left _ _ _ _ h⟩
    · obtain ⟨j, hv, hj, hp⟩ := nextV_lt _ _ _ _ h
      rw [leftL_len] at hj
      have hd : (now.getD j wk0).done = false := by
        rw [leftL_getD now j hj] at hp
        cases hx : (now.getD j wk0).done
        · rfl
        · rw [hx] at hp; simp at hp
      obtain ⟨s1, s2, s3⟩ := hstep ws now j hI hj hd
      have := driveL_go (stp := stp) (m0 := m0) (l0 := l0) (ws := ws) (100000 - (f + 1)) j (by omega) hv s1
      rw [ef, show 100000 - (100000 - (f + 1) + 1) = f by omega] at this
      obtain ⟨ws', now', r1, r2, r3⟩ := ih j _ _ (by omega) s2 (by omega)
      exact ⟨ws', now', by rw [this, r1], r2, r3⟩
theorem sum_le {α : Type} (f g : α → Nat) : ∀ (l : List α), (∀ x ∈ l, f x ≤ g x) → (l.map f).sum ≤ (l.map g).sum
  | [], _ => by simp
  | a :: l, h => by
    have h1 := h a (List.mem_cons_self ..)
    have h2 := sum_le f g l fun x hx => h x (List.mem_cons_of_mem _ hx)
    simp only [List.map_cons, List.sum_cons]
    omega
theorem sum_lt {α : Type} (F G : α → Nat) : ∀ (l : List α) (j : Nat) (x : α) (hj : j < l.length), (∀ w ∈ l, G w ≤ F w) → G x < F l[j] → ((l.set j x).map G).sum < (l.map F).sum
  | a :: l, 0, x, _, h, hx => by
    have := sum_le G F l fun y hy => h y (List.mem_cons_of_mem _ hy)
    simp only [List.set_cons_zero, List.map_cons, List.sum_cons, List.getElem_cons_zero] at hx ⊢
    omega
  | a :: l, j + 1, x, hj, h, hx => by
    have h1 := h a (List.mem_cons_self ..)
    have := sum_lt F G l j x (by simpa using hj) (fun y hy => h y (List.mem_cons_of_mem _ hy)) (by simpa using hx)
    simp only [List.set_cons_succ, List.map_cons, List.sum_cons]
    omega
theorem doW_write (xs : List Int) (j : Nat) (o n : Int) (hj : j < xs.length) (hl : xs.length ≤ 100000) (hn : -1152921504606846975 ≤ n ∧ n ≤ 1152921504606846975) :
    doW xs 2 j o n = (xs.set j n, xs.getD j 0, true, 0) := by
  have ht : toW xs 2 j n = n := by unfold toW; rw [if_neg (by omega)]
  have hw : wrongE xs 2 j n = 0 := by
    unfold wrongE
    rw [if_neg (by omega), if_neg (by omega), if_neg (by rw [ht]; unfold fits; simp; omega)]
  have hd : doneB xs 2 j o = true := by unfold doneB; simp
  rw [doW, if_pos hw, ht, hd, Int.toNat_natCast]
  simp
theorem sum_set {α : Type} (F G : α → Nat) : ∀ (l : List α) (j : Nat) (x : α) (hj : j < l.length), (∀ w ∈ l, G w ≤ F w) → ((l.set j x).map G).sum + F l[j] ≤ (l.map F).sum + G x
  | a :: l, 0, x, _, h => by
    have := sum_le G F l fun y hy => h y (List.mem_cons_of_mem _ hy)
    simp only [List.set_cons_zero, List.map_cons, List.sum_cons, List.getElem_cons_zero]
    omega
  | a :: l, j + 1, x, hj, h => by
    have h1 := h a (List.mem_cons_self ..)
    have := sum_set F G l j x (by simpa using hj) (fun y hy => h y (List.mem_cons_of_mem _ hy))
    simp only [List.set_cons_succ, List.map_cons, List.sum_cons, List.getElem_cons_succ]
    omega
theorem sum_same {α : Type} (F : α → Nat) : ∀ (l : List α) (j : Nat) (x : α) (hj : j < l.length), ((l.set j x).map F).sum + F l[j] = (l.map F).sum + F x
  | a :: l, 0, x, _ => by
    simp only [List.set_cons_zero, List.map_cons, List.sum_cons, List.getElem_cons_zero]; omega
  | a :: l, j + 1, x, hj => by
    have := sum_same F l j x (by simpa using hj)
    simp only [List.set_cons_succ, List.map_cons, List.sum_cons, List.getElem_cons_succ]; omega
theorem sum_add {α : Type} (F : α → Nat) (c : Nat) : ∀ l : List α, (l.map fun x => F x + c).sum = (l.map F).sum + c * l.length
  | [] => by simp
  | a :: l => by
    simp only [List.map_cons, List.sum_cons, sum_add F c l, List.length_cons, Nat.mul_succ]; omega
end Go.Proofs.Ytjdokpdnehkjpaa.Ab
