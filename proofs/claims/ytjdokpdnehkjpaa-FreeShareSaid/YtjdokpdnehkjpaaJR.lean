/- Crowds on a free list: what holds all the while. -/
import Derived.Test.YtjdokpdnehkjpaaJQ
namespace Go.Proofs.Ytjdokpdnehkjpaa.Ab
open Go Go.RowKit
def hdF : List Nat → Int
  | [] => 0
  | x :: _ => (x : Int) + 1
def Chain (ws : List Int) : List Nat → Prop
  | [] => True
  | x :: F => ws.getD (x + 1) 0 = hdF F ∧ Chain ws F
/-- the node that a worker has -/
def hasW (w : Wk) : List Nat := if w.job = 2 then (if w.done = true then [] else [w.r0.toNat]) else if w.done = true ∧ 0 ≤ w.out then [w.out.toNat] else []
def sucW (w : Wk) : Nat := if w.done = true ∧ (w.job = 2 ∨ 0 ≤ w.out) then 1 else 0
def leftM (h : Int) (w : Wk) : Nat := if w.done = true then 0 else 24 + (3 - w.pc.toNat) + (if 1 ≤ w.pc ∧ w.r1 ≠ h then 3 else 0)
structure Wok (n : Nat) (ws : List Int) (F : List Nat) (C : Nat) (w : Wk) : Prop where
  job : w.job = 1 ∨ w.job = 2
  pc : w.done = false → 0 ≤ w.pc ∧ w.pc ≤ 2
  old : w.done = false → 1 ≤ w.pc → ∃ c h : Nat, w.r1 = (c : Int) * 1048576 + h ∧ c ≤ C ∧ h ≤ n ∧ (c = C → (h : Int) = hdF F) ∧ (w.job = 1 → 1 ≤ h)
  two1 : w.done = false → w.pc = 2 → w.job = 1 → 0 ≤ w.r2 ∧ w.r2 ≤ n ∧ (w.r1 = ws.getD 0 0 → ∃ x F', F = x :: F' ∧ w.r2 = hdF F')
  two2 : w.done = false → w.pc = 2 → w.job = 2 → w.r1 = ws.getD 0 0 → ws.getD (w.r0.toNat + 1) 0 = hdF F
  push : w.job = 2 → 0 ≤ w.r0 ∧ w.r0 < n ∧ (w.done = true → w.out = w.r0)
  pop : w.job = 1 → w.done = true → w.out = -1 ∨ (0 ≤ w.out ∧ w.out < n)
structure FI (n : Nat) (R : List Nat) (C0 : Nat) (l0 : List Wk) (ws : List Int) (now : List Wk) (F : List Nat) (C : Nat) : Prop where
  len : ws.length = n + 1
  head : ws.getD 0 0 = (C : Int) * 1048576 + hdF F
  chain : Chain ws F
  range : ∀ i, 1 ≤ i → i < n + 1 → 0 ≤ ws.getD i 0 ∧ ws.getD i 0 ≤ n
  perm : ∀ a, F.count a + R.count a + (now.map fun w => (hasW w).count a).sum = if a < n then 1 else 0
  all : ∀ i, i < now.length → Wok n ws F C (now.getD i wk0)
  cnt : C = C0 + (now.map sucW).sum
  same : now.length = l0.length ∧ ∀ i, i < l0.length → (now.getD i wk0).job = (l0.getD i wk0).job ∧ (now.getD i wk0).r0 = (l0.getD i wk0).r0
theorem getD_at {α : Type} (l : List α) (j : Nat) (h : j < l.length) (d : α) : l.getD j d = l[j] := by
  rw [List.getD_eq_getElem?_getD, List.getElem?_eq_getElem h]; rfl
theorem set_getDw {α : Type} (l : List α) (j : Nat) (v d : α) (hj : j < l.length) (i : Nat) : (l.set j v).getD i d = if j = i then v else l.getD i d := by
  rw [List.getD_eq_getElem?_getD, List.getElem?_set]
  by_cases h : j = i
  · subst h; simp [hj]
  · rw [if_neg h, if_neg h, List.getD_eq_getElem?_getD]
theorem le_sum {α : Type} (F : α → Nat) : ∀ (l : List α) (j : Nat) (h : j < l.length), F l[j] ≤ (l.map F).sum
  | a :: l, 0, _ => by simp only [List.getElem_cons_zero, List.map_cons, List.sum_cons]; omega
  | a :: l, j + 1, h => by
    have := le_sum F l j (by simpa using h)
    simp only [List.getElem_cons_succ, List.map_cons, List.sum_cons]; omega
theorem two_le_sum {α : Type} (F : α → Nat) : ∀ (l : List α) (i j : Nat) (hi : i < l.length) (hj : j < l.length), i ≠ j → F l[i] + F l[j] ≤ (l.map F).sum
  | a :: l, 0, 0, _, _, h => absurd rfl h
  | a :: l, 0, j + 1, _, hj, _ => by
    have := le_sum F l j (by simpa using hj)
    simp only [List.getElem_cons_succ, List.getElem_cons_zero, List.map_cons, List.sum_cons]; omega
  | a :: l, i + 1, 0, hi, _, _ => by
    have := le_sum F l i (by simpa using hi)
    simp only [List.getElem_cons_succ, List.getElem_cons_zero, List.map_cons, List.sum_cons]; omega
  | a :: l, i + 1, j + 1, hi, hj, h => by
    have := two_le_sum F l i j (by simpa using hi) (by simpa using hj) (by omega)
    simp only [List.getElem_cons_succ, List.map_cons, List.sum_cons]; omega
theorem hn_at (c h : Nat) (hh : h < 1048576) : Hn ((c : Int) * 1048576 + h) = h := by unfold Hn; rw [if_neg (by omega)]; omega
theorem cn_at (c h : Nat) (hc : c ≤ 1000000) (hh : h < 1048576) : Cn ((c : Int) * 1048576 + h) = c := by
  unfold Cn
  rw [if_neg (by omega), Int.tdiv_eq_ediv_of_nonneg (by omega), show ((c : Int) * 1048576 + h) / 1048576 = c by omega]
  exact wrap_small (by omega)
theorem nwH_at (c h : Nat) (v : Int) (hc : c ≤ 1000000) (hh : h < 1048576) (hv : 0 ≤ v ∧ v < 1048576) : nwH ((c : Int) * 1048576 + h) v = ((c : Int) + 1) * 1048576 + v := by
  unfold nwH
  rw [cn_at c h hc hh, wrap_small (n := (c : Int) + 1) (by omega), wrap_small (n := ((c : Int) + 1) * 1048576) (by omega), wrap_small (by omega)]
section
variable {ws : List Int} {w : Wk}
theorem sF_may (hd : w.done = false) (hj : w.job = 1 ∨ w.job = 2) (hp : 0 ≤ w.pc ∧ w.pc ≤ 2) : mayF w 0 := ⟨hd, hj, hp.1, hp.2, Int.le_refl _⟩
theorem sF_load0 (hd : w.done = false) (hj : w.job = 1 ∨ w.job = 2) (hp : w.pc = 0) (h0 : 0 < ws.length) (hl : ws.length ≤ 100000) : stepF 0 ws w = (ws, behF w (ws.getD 0 0) true, 0) := by
  unfold stepF
  have ha : accF 0 w = (1, ((0 : Nat) : Int), 0, 0) := by unfold accF; rw [if_pos hp]; rfl
  rw [if_pos (sF_may hd hj (by omega)), ha]
  unfold doA
  dsimp only
  rw [doW_load ws 0 0 0 h0 hl]
  rfl
theorem sF_pop1 (hd : w.done = false) (hj : w.job = 1) (hp : w.pc = 1) (h : Nat) (hh : Hn w.r1 = h) (h0 : h < ws.length) (hl : ws.length ≤ 100000) : stepF 0 ws w = (ws, { w with r2 := ws.getD h 0, pc := 2 }, 0) := by
  unfold stepF
  have ha : accF 0 w = (1, (h : Int), 0, 0) := by
    unfold accF; rw [if_neg (by omega), if_pos hp, if_pos hj, hh, Int.zero_add, wrap_small (by omega)]
  rw [if_pos (sF_may hd (.inl hj) (by omega)), ha]
  unfold doA
  dsimp only
  rw [doW_load ws h 0 0 h0 hl]
  simp [behF, hp, hj]
theorem sF_push1 (hd : w.done = false) (hj : w.job = 2) (hp : w.pc = 1) (k : Nat) (hk : w.r0 = k) (h0 : k + 1 < ws.length) (hl : ws.length ≤ 100000) : stepF 0 ws w = (ws.set (k + 1) (Hn w.r1), { w with pc := 2 }, 0) := by
  unfold stepF
  have hr := Hn_r w.r1
  have ha : accF 0 w = (2, ((k + 1 : Nat) : Int), 0, Hn w.r1) := by
    unfold accF; rw [if_neg (by omega), if_pos hp, if_neg (by omega), hk, wrap_small (n := 0 + 1) (by omega), wrap_small (by omega)]
    have : (0 : Int) + 1 + k = ((k + 1 : Nat) : Int) := by omega
    rw [this]
  rw [if_pos (sF_may hd (.inr hj) (by omega)), ha]
  unfold doA
  dsimp only
  rw [doW_write ws (k + 1) 0 (Hn w.r1) h0 hl (by omega)]
  simp [behF, hp, hj]
theorem sF_swap (hd : w.done = false) (hj : w.job = 1 ∨ w.job = 2) (hp : w.pc = 2) (v : Int) (hv : nwH w.r1 (if w.job = 1 then w.r2 else IntKind.i64.wrap (w.r0 + 1)) = v) (hb : 0 ≤ v ∧ v ≤ 1152921504606846975) (h0 : 0 < ws.length) (hl : ws.length ≤ 100000) :
    stepF 0 ws w = (if ws.getD 0 0 = w.r1 then ws.set 0 v else ws, if ws.getD 0 0 = w.r1 then { w with done := true, out := if w.job = 1 then Hn w.r1 - 1 else w.r0 } else { w with pc := 0 }, 0) := by
  unfold stepF
  have ha : accF 0 w = (3, ((0 : Nat) : Int), w.r1, v) := by
    unfold accF; rw [if_neg (by omega), if_neg (by omega), hv]; rfl
  rw [if_pos (sF_may hd hj (by omega)), ha]
  unfold doA
  dsimp only
  rw [doW_swap ws 0 w.r1 v h0 hl (by omega)]
  dsimp only
  rw [if_pos rfl]
  unfold behF
  rw [if_neg (show ¬ w.pc = 0 by omega), if_neg (show ¬ w.pc = 1 by omega)]
  by_cases h : ws.getD 0 0 = w.r1
  · rw [if_pos h, if_pos h, if_pos (decide_eq_true h)]
  · rw [if_neg h, if_neg h, if_neg (by rw [decide_eq_false h]; simp)]
end
end Go.Proofs.Ytjdokpdnehkjpaa.Ab
