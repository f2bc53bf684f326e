/- Of many that want a memo the first one that swaps has it. -/
import Derived.Test.YtaiimhkhgglllaaHP
namespace Go.Proofs.Ytaiimhkhgglllaa.Ab
open Go Go.RowKit
def firstL (n : Nat) : List Wk := (List.range n).map fun i : Nat => putW 0 (100 + (i : Int))
def fw1 (k : Nat) : Wk := ⟨1, 4, 0, 100 + (k : Int), 0, 0, 0, 0, 0, 0, false, 0⟩
def fw2 (k : Nat) : Wk := ⟨1, 4, 0, 100 + (k : Int), 0, 0, 0, 0, 0, 0, true, 100 + (k : Int)⟩
theorem firstL_len (n : Nat) : (firstL n).length = n := by unfold firstL; simp
theorem range_getD {α : Type} (f : Nat → α) (n i : Nat) (d : α) (hi : i < n) : ((List.range n).map f).getD i d = f i := by
  rw [List.getD_eq_getElem?_getD, List.getElem?_map, List.getElem?_range hi]; rfl
theorem firstL_getD (n i : Nat) (hi : i < n) : (firstL n).getD i wk0 = putW 0 (100 + (i : Int)) := range_getD _ n i wk0 hi
theorem allK_all (ls : List Int) (h : ∀ i, i < ls.length → 0 < ls.getD i 0) : allK ls ls.length = (List.range ls.length).map Int.ofNat := by
  unfold allK
  rw [List.filter_eq_self.2 fun i hi => by
    rw [decide_eq_true_eq]; exact h i (by simpa using hi)]
theorem nextV_pick (picks : List Int) (step : Nat) (l : List Wk) (last : Int) (k : Nat) (hs : step < picks.length) (hk : picks.getD step 0 = k) (hkl : k < l.length) (h : ∀ i, i < l.length → (l.getD i wk0).done = false) : nextV picks step (leftL l) last = k := by
  have ha := allK_all (leftL l) (fun i hi => by
    rw [leftL_len] at hi
    rw [leftL_getD l i hi, h i hi]; simp)
  unfold nextV
  rw [ha, leftL_len]
  have hl : ((List.range l.length).map Int.ofNat).length = l.length := by simp
  have hp : pick (picks.getD ((step : Int)).toNat 0) ((l.length : Nat) : Int) = k := by
    rw [Int.toNat_natCast, hk]
    unfold pick
    rw [if_neg (by omega), Int.emod_eq_of_lt (by omega) (by omega)]
  rw [hl, if_neg (by omega), if_pos ⟨by omega, by omega⟩, hp, Int.toNat_natCast, range_getD _ _ _ _ hkl]
  rfl
theorem first_law (n k : Nat) (hk : k < n) (hn : n ≤ 64) : ∃ now, driveT (stepM 0) [(k : Int), k] [0] (firstL n) = ([101 + (k : Int)], now, 0) ∧ now.length = n ∧ ∀ i, i < n → (now.getD i wk0).out = 100 + k := by
  have hl := firstL_len n
  have hd : ∀ i, i < (firstL n).length → ((firstL n).getD i wk0).done = false := fun i hi => by rw [firstL_getD n i (by omega)]; rfl
  have v0 : nextV [(k : Int), k] ((0 : Nat) : Int) (leftL (firstL n)) (-1) = k := nextV_pick _ 0 _ _ k (by simp) rfl (by omega) hd
  have g0 := firstL_getD n k hk
  have m0 : mayP (putW 0 (100 + (k : Int))) 0 := ⟨rfl, rfl, Int.le_refl _, by show (0 : Int) ≤ 1; omega, Int.le_refl _, Int.le_refl _, by show 0 ≤ 100 + (k : Int); omega, by show 100 + (k : Int) < _; omega⟩
  have m1 : mayP (fw1 k) 0 := ⟨rfl, rfl, by show (0 : Int) ≤ 1; omega, Int.le_refl _, Int.le_refl _, Int.le_refl _, by show 0 ≤ 100 + (k : Int); omega, by show 100 + (k : Int) < _; omega⟩
  have e0 : stepM 0 [0] (putW 0 (100 + (k : Int))) = ([0], (fw1 k), 0) := stepM_look (a := 0) m0 rfl rfl (by simp) (by simp)
  have e1 : stepM 0 [0] (fw1 k) = ([101 + (k : Int)], fw2 k, 0) := by
    rw [stepM_keep (a := 0) m1 rfl rfl (by show 100 + (k : Int) < _; omega) rfl (by simp) (by simp)]
    show ([100 + (k : Int) + 1], _, _) = ([101 + (k : Int)], _, _)
    rw [show 100 + (k : Int) + 1 = 101 + k by omega]
    rfl
  have hw : ∀ i, i < n → Want 0 0 ((firstL n).getD i wk0) := fun i hi => by
    rw [firstL_getD n i hi]
    exact ⟨rfl, rfl, rfl, Int.le_refl _, ⟨by show 0 ≤ 100 + (i : Int); omega, by show 100 + (i : Int) < _; omega⟩, Int.le_refl _, rfl⟩
  have g1 : ((firstL n).set k (fw1 k)).getD k wk0 = (fw1 k) := by rw [setW_getD _ _ _ (by omega), if_pos rfl]
  have v1 : nextV [(k : Int), k] ((1 : Nat) : Int) (leftL ((firstL n).set k (fw1 k))) k = k := nextV_pick _ 1 _ _ k (by simp) rfl (by simp; omega) (fun i hi => by
    rw [setW_getD _ _ _ (by omega)]
    split
    · rfl
    · exact hd i (by simpa using hi))
  unfold driveT
  rw [if_neg (by omega)]
  have d0 := driveL_go (stp := stepM 0) (m0 := [0]) (l0 := firstL n) (ws := [0]) 0 k (by omega) v0 (by rw [g0, e0])
  have d1 := driveL_go (stp := stepM 0) (m0 := [0]) (l0 := firstL n) (ws := [0]) 1 k (by omega) v1 (by rw [g1, e1])
  rw [g0, e0] at d0
  rw [g1, e1] at d1
  rw [show (100000 : Nat) = 100000 - 0 from rfl, d0, show 100000 - (0 + 1) = 100000 - 1 from rfl, d1]
  obtain ⟨ws, now, r1, ⟨rfl, r2, r3⟩, r4⟩ := driveL_inv (stepM 0) [(k : Int), k] [0] (firstL n) (fun ws now => ws = [101 + (k : Int)] ∧ now.length = n ∧ ∀ i, i < n → Far 0 [101 + (k : Int)] ((firstL n).getD i wk0) (now.getD i wk0)) (phi 0)
    (fun ws now j ⟨hws, hnl, hF⟩ hj hd => by
      subst hws
      obtain ⟨s1, s2, s3, s4⟩ := stepM_far 0 0 [101 + (k : Int)] _ _ (hw j (by omega)) (by simp) (by simp) (by simp; omega) (hF j (by omega)) hd
      have hr0 : (now.getD j wk0).r0 = 0 := by rw [(hF j (by omega)).2.1, firstL_getD n j (by omega)]; rfl
      have s2 := s2.resolve_right (fun h => by have := h.1; simp at this; omega)
      rw [s2] at s3 s4
      have hr1 : (stepM 0 [101 + (k : Int)] (now.getD j wk0)).2.1.r0 = 0 := by rw [s3.2.1, firstL_getD n j (by omega)]; rfl
      refine ⟨s1, ⟨s2, by simp [hnl], fun i hi => ?_⟩, ?_⟩
      · rw [setW_getD _ _ _ hj]
        by_cases hij : j = i
        · subst hij; rw [if_pos rfl]; exact s3
        · rw [if_neg hij]; exact hF i hi
      · rw [s2]
        refine sum_lt _ _ now j _ hj (fun x _ => Nat.le_refl _) ?_
        have e1 : now[j] = now.getD j wk0 := by rw [List.getD_eq_getElem?_getD, List.getElem?_eq_getElem hj]; rfl
        show todo (plc 0 _) _ _ < todo (plc 0 now[j]) _ now[j]
        rw [e1, show plc 0 (stepM 0 [101 + (k : Int)] (now.getD j wk0)).2.1 = 0 by unfold plc; rw [hr1]; rfl, show plc 0 (now.getD j wk0) = 0 by unfold plc; rw [hr0]; rfl]
        exact s4)
    (100000 - (1 + 1)) k [101 + (k : Int)] (((firstL n).set k (fw1 k)).set k (fw2 k)) (by omega)
    ⟨rfl, by simp [hl], fun i hi => by
      rw [setW_getD _ _ _ (by simp [hl]; omega), setW_getD _ _ _ (by omega), firstL_getD n i hi]
      by_cases hki : k = i
      · subst hki
        rw [if_pos rfl]
        exact ⟨rfl, rfl, rfl, .inr ⟨rfl, by show 1 ≤ 101 + (k : Int); omega, by show (100 + (k : Int)) = 101 + (k : Int) - 1; omega⟩⟩
      · rw [if_neg hki, if_neg hki]
        exact ⟨rfl, rfl, rfl, .inl ⟨rfl, .inl rfl⟩⟩⟩
    (by have := sum_const 0 [101 + (k : Int)] (((firstL n).set k (fw1 k)).set k (fw2 k)); rw [List.length_set, List.length_set, hl] at this; omega)
  refine ⟨now, r1, r2, fun i hi => ?_⟩
  have h1 := r4 _ (mem_getD now wk0 i (by omega))
  obtain ⟨_, _, _, h2⟩ := r3 i hi
  have h2 := h2.resolve_left (fun h => by rw [h1] at h; cases h.1)
  have h3 : (now.getD i wk0).out = 101 + (k : Int) - 1 := h2.2.2
  omega
end Go.Proofs.Ytaiimhkhgglllaa.Ab
