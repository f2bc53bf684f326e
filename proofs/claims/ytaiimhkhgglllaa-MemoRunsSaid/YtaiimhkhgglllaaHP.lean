/- What a crowd that keeps memos comes to: plain. -/
import Derived.Test.YtaiimhkhgglllaaHI
namespace Go.Proofs.Ytaiimhkhgglllaa.Ab
open Go Go.RowKit
theorem doW_load (xs : List Int) (j : Nat) (o n : Int) (hj : j < xs.length) (hl : xs.length ≤ 100000) : doW xs 1 j o n = (xs, xs.getD j 0, true, 0) := by
  have hw : wrongE xs 1 j n = 0 := by
    unfold wrongE
    rw [if_neg (by omega), if_neg (by omega), if_neg (by simp)]
  rw [doW, if_pos hw, Int.toNat_natCast]
  simp [doneB]
theorem doW_swap (xs : List Int) (j : Nat) (o n : Int) (hj : j < xs.length) (hl : xs.length ≤ 100000) (hn : -1152921504606846975 ≤ n ∧ n ≤ 1152921504606846975) :
    doW xs 3 j o n = (if xs.getD j 0 = o then xs.set j n else xs, xs.getD j 0, decide (xs.getD j 0 = o), 0) := by
  have ht : toW xs 3 j n = n := by unfold toW; rw [if_neg (by omega)]
  have hw : wrongE xs 3 j n = 0 := by
    unfold wrongE
    rw [if_neg (by omega), if_neg (by omega), if_neg (by rw [ht]; unfold fits; simp; omega)]
  have hd : doneB xs 3 j o = decide (xs.getD j 0 = o) := by unfold doneB; rw [Int.toNat_natCast]; simp
  rw [doW, if_pos hw, ht, hd, Int.toNat_natCast]
  simp
/-- a worker that wants a memo; a: the place of its word -/
structure Want (a : Nat) (at_ : Int) (o : Wk) : Prop where
  job : o.job = 4
  pc : o.pc = 0
  done : o.done = false
  r0 : 0 ≤ o.r0
  r1 : 0 ≤ o.r1 ∧ o.r1 < 1152921504606846974
  at0 : 0 ≤ at_
  place : at_ + o.r0 = a
/-- how far one is -/
def Far (a : Nat) (ws : List Int) (o w : Wk) : Prop :=
  w.job = 4 ∧ w.r0 = o.r0 ∧ w.r1 = o.r1 ∧ ((w.done = false ∧ (w.pc = 0 ∨ (w.pc = 1 ∧ w.r2 = 0))) ∨ (w.done = true ∧ 1 ≤ ws.getD a 0 ∧ w.out = ws.getD a 0 - 1))
/-- how many steps are left at most -/
def todo (a : Nat) (ws : List Int) (w : Wk) : Nat :=
  if w.done = true then 0 else if w.pc = 1 then 2 else if 1 ≤ ws.getD a 0 then 1 else 3
theorem todo_done {a : Nat} {ws : List Int} {w : Wk} (h : w.done = true) : todo a ws w = 0 := if_pos h
theorem todo_b {a : Nat} {ws : List Int} {w : Wk} (h : w.done = false) (h1 : w.pc = 1) : todo a ws w = 2 := by unfold todo; rw [if_neg (by rw [h]; simp), if_pos h1]
theorem todo_a1 {a : Nat} {ws : List Int} {w : Wk} (h : w.done = false) (h1 : w.pc = 0) (h2 : 1 ≤ ws.getD a 0) : todo a ws w = 1 := by unfold todo; rw [if_neg (by rw [h]; simp), if_neg (by omega), if_pos h2]
theorem todo_a3 {a : Nat} {ws : List Int} {w : Wk} (h : w.done = false) (h1 : w.pc = 0) (h2 : ¬ 1 ≤ ws.getD a 0) : todo a ws w = 3 := by unfold todo; rw [if_neg (by rw [h]; simp), if_neg (by omega), if_neg h2]
theorem stepM_look {at_ : Int} {a : Nat} {ws : List Int} {w : Wk} (hm : mayP w at_) (hpc : w.pc = 0) (hwr : at_ + w.r0 = a) (hl : ws.length ≤ 100000) (ha : a < ws.length) :
    stepM at_ ws w = (ws, if 1 ≤ ws.getD a 0 then { w with done := true, out := ws.getD a 0 - 1 } else { w with r2 := ws.getD a 0, pc := 1 }, 0) := by
  unfold stepM
  rw [if_pos hm, hwr, wrap_small (by omega), if_neg (by omega), doW_load ws a 0 0 ha hl]
  rfl
theorem stepM_keep {at_ : Int} {a : Nat} {ws : List Int} {w : Wk} (hm : mayP w at_) (hpc : w.pc = 1) (h2 : w.r2 = 0) (hr1 : w.r1 < 1152921504606846974) (hwr : at_ + w.r0 = a) (hl : ws.length ≤ 100000) (ha : a < ws.length) :
    stepM at_ ws w = (if ws.getD a 0 = 0 then ws.set a (w.r1 + 1) else ws, if decide (ws.getD a 0 = 0) = true then { w with done := true, out := w.r1 } else { w with pc := 0 }, 0) := by
  have := hm.2.2.2.2.2.2.1
  unfold stepM
  rw [if_pos hm, hwr, wrap_small (by omega), if_pos hpc, h2, doW_swap ws a 0 (w.r1 + 1) ha hl (by omega)]
  rfl
theorem stepM_far (at_ : Int) (a : Nat) (ws : List Int) (o w : Wk) (hW : Want a at_ o) (hl : ws.length ≤ 100000) (ha : a < ws.length) (h0 : 0 ≤ ws.getD a 0) (hF : Far a ws o w) (hd : w.done = false) :
    (stepM at_ ws w).2.2 = 0 ∧ ((stepM at_ ws w).1 = ws ∨ (ws.getD a 0 = 0 ∧ (stepM at_ ws w).1 = ws.set a (o.r1 + 1))) ∧ Far a (stepM at_ ws w).1 o (stepM at_ ws w).2.1 ∧ todo a (stepM at_ ws w).1 (stepM at_ ws w).2.1 < todo a ws w := by
  obtain ⟨hjob, hpc, hdo, hr0, ⟨hr1, hr1'⟩, hat, hpl⟩ := hW
  obtain ⟨f1, f2, f3, f4⟩ := hF
  have f4 := f4.resolve_right (fun h => by rw [hd] at h; cases h.1)
  have hm : mayP w at_ := by
    refine ⟨hd, f1, ?_, ?_, hat, ?_, ?_, ?_⟩ <;> first | (rcases f4.2 with h | ⟨h, _⟩ <;> omega) | omega
  have hwr : at_ + w.r0 = a := by rw [f2, hpl]
  rw [← f3]
  rcases f4.2 with h | ⟨h, h2⟩
  · rw [stepM_look hm h hwr hl ha]
    by_cases h1 : 1 ≤ ws.getD a 0
    · rw [if_pos h1, todo_a1 hd h h1]
      exact ⟨rfl, .inl rfl, ⟨f1, f2, f3, .inr ⟨rfl, h1, rfl⟩⟩, Nat.lt_of_le_of_lt (Nat.le_of_eq (todo_done rfl)) (by omega)⟩
    · rw [if_neg h1, todo_a3 hd h h1]
      exact ⟨rfl, .inl rfl, ⟨f1, f2, f3, .inl ⟨hd, .inr ⟨rfl, by show ws.getD a 0 = 0; omega⟩⟩⟩, Nat.lt_of_le_of_lt (Nat.le_of_eq (todo_b (w := { w with r2 := ws.getD a 0, pc := 1 }) hd rfl)) (by omega)⟩
  · rw [stepM_keep hm h h2 (by omega) hwr hl ha, todo_b hd h]
    by_cases h1 : ws.getD a 0 = 0
    · have hg : (ws.set a (w.r1 + 1)).getD a 0 = w.r1 + 1 := by rw [set_getD _ _ _ ha, if_pos rfl]
      rw [if_pos h1, if_pos (decide_eq_true h1)]
      exact ⟨rfl, .inr ⟨h1, rfl⟩, ⟨f1, f2, f3, .inr ⟨rfl, by rw [hg]; omega, by rw [hg]; show w.r1 = w.r1 + 1 - 1; omega⟩⟩, Nat.lt_of_le_of_lt (Nat.le_of_eq (todo_done rfl)) (by omega)⟩
    · rw [if_neg h1, if_neg (by rw [decide_eq_false h1]; simp)]
      exact ⟨rfl, .inl rfl, ⟨f1, f2, f3, .inl ⟨hd, .inl rfl⟩⟩, Nat.lt_of_le_of_lt (Nat.le_of_eq (todo_a1 (w := { w with pc := 0 }) hd rfl (by show 1 ≤ ws.getD a 0; omega))) (by omega)⟩
/-- none is left: all are done -/
theorem none_left (picks : List Int) (step : Int) (l : List Wk) (last : Int) (h : nextV picks step (leftL l) last < 0) : ∀ w ∈ l, w.done = true := by
  have h0 : (allK (leftL l) (leftL l).length).length = 0 := by
    apply Decidable.byContradiction
    intro hne
    have key : ∀ y : Nat, y < (allK (leftL l) (leftL l).length).length → 0 ≤ (allK (leftL l) (leftL l).length).getD y 0 := fun y hy => by
      obtain ⟨j, hj, _⟩ := allK_mem (leftL l) (leftL l).length _ (mem_getD _ 0 y hy); omega
    unfold nextV at h
    rw [if_neg hne] at h
    by_cases h1 : 0 ≤ step ∧ step < picks.length
    · rw [if_pos h1] at h
      have := pick_bd (picks.getD step.toNat 0) (allK (leftL l) (leftL l).length).length (by omega)
      have := key (pick (picks.getD step.toNat 0) (allK (leftL l) (leftL l).length).length).toNat (by omega)
      omega
    · rw [if_neg h1] at h
      by_cases h2 : 0 ≤ idxOf (fun x => decide (last < x)) (allK (leftL l) (leftL l).length) ∧ 0 ≤ last
      · rw [if_pos h2] at h
        have := idxOf_lt _ _ h2.1
        have := key (idxOf (fun x => decide (last < x)) (allK (leftL l) (leftL l).length)).toNat (by omega)
        omega
      · rw [if_neg h2] at h
        have := key 0 (by omega)
        omega
  intro w hw
  obtain ⟨j, hj, rfl⟩ := List.getElem_of_mem hw
  apply Decidable.byContradiction
  intro hd
  have hlj : (leftL l).getD j 0 = 1 := by
    rw [leftL_getD l j hj, List.getD_eq_getElem?_getD, List.getElem?_eq_getElem hj]
    simp at hd
    simp [hd]
  have : (j : Int) ∈ allK (leftL l) (leftL l).length := by
    unfold allK
    refine List.mem_map.2 ⟨j, ?_, rfl⟩
    simp only [List.mem_filter, List.mem_range, decide_eq_true_eq]
    exact ⟨by rw [leftL_len]; exact hj, by omega⟩
  rw [List.eq_nil_of_length_eq_zero h0] at this
  simp at this
/-- what holds of words and workers, and is kept, holds at the end; steps that get fewer end -/
theorem driveL_inv (stp : Stp) (picks m0 : List Int) (l0 : List Wk) (Inv : List Int → List Wk → Prop) (φ : List Int → List Wk → Nat)
    (hstep : ∀ ws now j, Inv ws now → j < now.length → (now.getD j wk0).done = false → (stp ws (now.getD j wk0)).2.2 = 0 ∧ Inv (stp ws (now.getD j wk0)).1 (now.set j (stp ws (now.getD j wk0)).2.1) ∧ φ (stp ws (now.getD j wk0)).1 (now.set j (stp ws (now.getD j wk0)).2.1) < φ ws now) :
    ∀ (f : Nat) (last : Int) (ws : List Int) (now : List Wk), f ≤ 100000 → Inv ws now → φ ws now ≤ f → ∃ ws' now', driveL stp picks m0 l0 f last ws now = (ws', now', 0) ∧ Inv ws' now' ∧ ∀ w ∈ now', w.done = true := by
  intro f
  induction f with
  | zero =>
    intro last ws now hf hI hφ
    by_cases h : nextV picks 100000 (leftL now) last < 0
    · exact ⟨ws, now, by rw [driveL, if_pos h], hI, none_left _ _ _ _ h⟩
    · obtain ⟨j, _, hj, hp⟩ := nextV_lt _ _ _ _ h
      rw [leftL_len] at hj
      have hd : (now.getD j wk0).done = false := by
        rw [leftL_getD now j hj] at hp
        cases hx : (now.getD j wk0).done
        · rfl
        · rw [hx] at hp; simp at hp
      have := (hstep ws now j hI hj hd).2.2
      omega
  | succ f ih =>
    intro last ws now hf hI hφ
    have e : ((100000 - (f + 1) : Nat) : Int) = 100000 - ((f + 1 : Nat) : Int) := by omega
    have ef : 100000 - (100000 - (f + 1)) = f + 1 := by omega
    by_cases h : nextV picks ((100000 - (f + 1) : Nat) : Int) (leftL now) last < 0
    · have := driveL_neg (stp := stp) (m0 := m0) (l0 := l0) (ws := ws) (100000 - (f + 1)) (by omega) h
      rw [ef] at this
      exact ⟨ws, now, this, hI, none_left _ _ _ _ h⟩
    · obtain ⟨j, hv, hj, hp⟩ := nextV_lt _ _ _ _ h
      rw [leftL_len] at hj
      have hd : (now.getD j wk0).done = false := by
        rw [leftL_getD now j hj] at hp
        cases hx : (now.getD j wk0).done
        · rfl
        · rw [hx] at hp; simp at hp
      obtain ⟨s1, s2, s3⟩ := hstep ws now j hI hj hd
      have := driveL_go (stp := stp) (m0 := m0) (l0 := l0) (ws := ws) (100000 - (f + 1)) j (by omega) hv s1
      rw [ef, show 100000 - (100000 - (f + 1) + 1) = f by omega] at this
      obtain ⟨ws', now', r1, r2, r3⟩ := ih j _ _ (by omega) s2 (by omega)
      exact ⟨ws', now', by rw [this, r1], r2, r3⟩
theorem sum_le {α : Type} (f g : α → Nat) : ∀ (l : List α), (∀ x ∈ l, f x ≤ g x) → (l.map f).sum ≤ (l.map g).sum
  | [], _ => by simp
  | a :: l, h => by
    have h1 := h a (List.mem_cons_self ..)
    have h2 := sum_le f g l fun x hx => h x (List.mem_cons_of_mem _ hx)
    simp only [List.map_cons, List.sum_cons]
    omega
theorem sum_lt {α : Type} (F G : α → Nat) : ∀ (l : List α) (j : Nat) (x : α) (hj : j < l.length), (∀ w ∈ l, G w ≤ F w) → G x < F l[j] → ((l.set j x).map G).sum < (l.map F).sum
  | a :: l, 0, x, _, h, hx => by
    have := sum_le G F l fun y hy => h y (List.mem_cons_of_mem _ hy)
    simp only [List.set_cons_zero, List.map_cons, List.sum_cons, List.getElem_cons_zero] at hx ⊢
    omega
  | a :: l, j + 1, x, hj, h, hx => by
    have h1 := h a (List.mem_cons_self ..)
    have := sum_lt F G l j x (by simpa using hj) (fun y hy => h y (List.mem_cons_of_mem _ hy)) (by simpa using hx)
    simp only [List.set_cons_succ, List.map_cons, List.sum_cons]
    omega
/-- where a worker's memo lies -/
def plc (at_ : Int) (w : Wk) : Nat := (at_ + w.r0).toNat
/-- what holds all the while -/
structure MI (at_ : Int) (m0 : List Int) (l0 : List Wk) (ws : List Int) (now : List Wk) : Prop where
  len : ws.length = m0.length
  wl : now.length = l0.length
  far : ∀ i, i < l0.length → Far (plc at_ (l0.getD i wk0)) ws (l0.getD i wk0) (now.getD i wk0)
  kept : ∀ j, j < m0.length → 1 ≤ m0.getD j 0 → ws.getD j 0 = m0.getD j 0
  words : ∀ j, j < m0.length → ws.getD j 0 = m0.getD j 0 ∨ (m0.getD j 0 = 0 ∧ ∃ i, i < l0.length ∧ j = plc at_ (l0.getD i wk0) ∧ ws.getD j 0 = (l0.getD i wk0).r1 + 1)
structure MG (at_ : Int) (m0 : List Int) (l0 : List Wk) : Prop where
  ml : m0.length ≤ 100000
  pos : ∀ j, j < m0.length → 0 ≤ m0.getD j 0
  want : ∀ i, i < l0.length → Want (plc at_ (l0.getD i wk0)) at_ (l0.getD i wk0) ∧ plc at_ (l0.getD i wk0) < m0.length
theorem MI.start {at_ : Int} {m0 : List Int} {l0 : List Wk} (g : MG at_ m0 l0) : MI at_ m0 l0 m0 l0 :=
  ⟨rfl, rfl, fun i hi => ⟨(g.want i hi).1.job, rfl, rfl, .inl ⟨(g.want i hi).1.done, .inl (g.want i hi).1.pc⟩⟩, fun _ _ _ => rfl, fun _ _ => .inl rfl⟩
def phi (at_ : Int) (ws : List Int) (now : List Wk) : Nat := (now.map fun w => todo (plc at_ w) ws w).sum
theorem todo_le (a : Nat) (ws : List Int) (w : Wk) : todo a ws w ≤ 3 := by
  unfold todo
  split
  · omega
  · split
    · omega
    · split <;> omega
theorem MI.step {at_ : Int} {m0 : List Int} {l0 : List Wk} (g : MG at_ m0 l0) {ws : List Int} {now : List Wk} (h : MI at_ m0 l0 ws now) (j : Nat) (hj : j < now.length) (hd : (now.getD j wk0).done = false) :
    (stepM at_ ws (now.getD j wk0)).2.2 = 0 ∧ MI at_ m0 l0 (stepM at_ ws (now.getD j wk0)).1 (now.set j (stepM at_ ws (now.getD j wk0)).2.1) ∧ phi at_ (stepM at_ ws (now.getD j wk0)).1 (now.set j (stepM at_ ws (now.getD j wk0)).2.1) < phi at_ ws now := by
  have hj0 : j < l0.length := by rw [← h.wl]; exact hj
  obtain ⟨hW, hp⟩ := g.want j hj0
  have hF := h.far j hj0
  have h0 : ∀ k, k < m0.length → 0 ≤ ws.getD k 0 := fun k hk => by
    rcases h.words k hk with e | ⟨_, i, hi, _, e⟩
    · rw [e]; exact g.pos k hk
    · rw [e]; have := (g.want i hi).1.r1; omega
  obtain ⟨s1, s2, s3, s4⟩ := stepM_far at_ _ ws _ _ hW (by rw [h.len]; exact g.ml) (by rw [h.len]; exact hp) (h0 _ hp) hF hd
  have hfr : (now.getD j wk0).r0 = (l0.getD j wk0).r0 := hF.2.1
  generalize hst : stepM at_ ws (now.getD j wk0) = rr at *
  obtain ⟨ws', w', e⟩ := rr
  simp only at s1 s2 s3 s4 ⊢
  have hw0 : w'.r0 = (l0.getD j wk0).r0 := s3.2.1
  have hsame : ∀ k, (ws'.getD k 0 = ws.getD k 0) ∨ (k = plc at_ (l0.getD j wk0) ∧ ws.getD k 0 = 0 ∧ ws'.getD k 0 = (l0.getD j wk0).r1 + 1) := fun k => by
    rcases s2 with s2 | ⟨s2, s2'⟩
    · exact .inl (by rw [s2])
    · rw [s2', set_getD _ _ _ (by rw [h.len]; exact hp)]
      by_cases hk : plc at_ (l0.getD j wk0) = k
      · subst hk; exact .inr ⟨rfl, s2, by rw [if_pos rfl]⟩
      · rw [if_neg hk]; exact .inl rfl
  have hlen : ws'.length = ws.length := by
    rcases s2 with s2 | ⟨_, s2⟩ <;> rw [s2]
    simp
  have hr1 := hW.r1
  refine ⟨s1, ⟨by rw [hlen, h.len], by simp [h.wl], fun i hi => ?_, fun k hk h1 => ?_, fun k hk => ?_⟩, ?_⟩
  · rw [setW_getD _ _ _ hj]
    by_cases hij : j = i
    · subst hij; rw [if_pos rfl]; exact s3
    · rw [if_neg hij]
      obtain ⟨f1, f2, f3, f4⟩ := h.far i hi
      refine ⟨f1, f2, f3, ?_⟩
      rcases f4 with f4 | ⟨f4, f5, f6⟩
      · exact .inl f4
      · rcases hsame (plc at_ (l0.getD i wk0)) with hs | ⟨_, hs, _⟩
        · rw [hs]; exact .inr ⟨f4, f5, f6⟩
        · omega
  · have := h.kept k hk h1
    rcases hsame k with hs | ⟨_, hs, _⟩
    · rw [hs, this]
    · omega
  · rcases hsame k with hs | ⟨hk1, hk2, hk3⟩
    · rw [hs]; exact h.words k hk
    · right
      refine ⟨?_, j, hj0, hk1, hk3⟩
      rcases h.words k hk with e | ⟨e, _⟩
      · rw [← e]; exact hk2
      · exact e
  · unfold phi
    refine sum_lt _ _ now j w' hj (fun x _ => ?_) ?_
    · show todo (plc at_ x) ws' x ≤ todo (plc at_ x) ws x
      unfold todo
      split
      · omega
      · split
        · omega
        · by_cases h2 : 1 ≤ ws.getD (plc at_ x) 0
          · have : 1 ≤ ws'.getD (plc at_ x) 0 := by
              rcases hsame (plc at_ x) with hs | ⟨_, hs, _⟩
              · rw [hs]; exact h2
              · omega
            rw [if_pos this, if_pos h2]
            omega
          · rw [if_neg h2]
            split <;> omega
    · have e1 : now[j] = now.getD j wk0 := by rw [List.getD_eq_getElem?_getD, List.getElem?_eq_getElem hj]; rfl
      show todo (plc at_ w') ws' w' < todo (plc at_ now[j]) ws now[j]
      rw [e1, show plc at_ w' = plc at_ (l0.getD j wk0) by unfold plc; rw [hw0], show plc at_ (now.getD j wk0) = plc at_ (l0.getD j wk0) by unfold plc; rw [hfr]]
      exact s4
theorem sum_const (at_ : Int) (ws : List Int) : ∀ l : List Wk, phi at_ ws l ≤ 3 * l.length
  | [] => by simp [phi]
  | w :: l => by
    have h1 := sum_const at_ ws l
    have h2 := todo_le (plc at_ w) ws w
    unfold phi at *
    simp only [List.map_cons, List.sum_cons, List.length_cons]
    omega
/-- a crowd goes on till all are done -/
theorem memo_ends (picks : List Int) (at_ : Int) (m0 : List Int) (l0 : List Wk) (g : MG at_ m0 l0) (hl : l0.length ≤ 64) :
    ∃ ws now, driveT (stepM at_) picks m0 l0 = (ws, now, 0) ∧ MI at_ m0 l0 ws now ∧ ∀ w ∈ now, w.done = true := by
  unfold driveT
  rw [if_neg (by omega)]
  exact driveL_inv (stepM at_) picks m0 l0 (MI at_ m0 l0) (phi at_) (fun ws now j h hj hd => MI.step g h j hj hd) 100000 (-1) m0 l0 (Nat.le_refl _) (MI.start g) (by have := sum_const at_ m0 l0; omega)
end Go.Proofs.Ytaiimhkhgglllaa.Ab
