/- One worker alone: three steps. -/
import Derived.Test.YtjdokpdnehkjpaaJU
namespace Go.Proofs.Ytjdokpdnehkjpaa.Ab
open Go Go.RowKit
theorem next_one (w : Wk) (hd : w.done = false) (n : Nat) (last : Int) (hl : last = -1 ∨ last = 0) : nextV [] n (leftL [w]) last = ((0 : Nat) : Int) := by
  have e : leftL [w] = [1] := by simp [leftL, hd]
  have ea : allK [1] ([1] : List Int).length = [0] := by decide +kernel
  rw [e]
  unfold nextV
  rw [ea, if_neg (by simp), if_neg (by simp)]
  rcases hl with rfl | rfl
  · rw [if_neg (by omega)]; rfl
  · rw [if_neg (by
      have : idxOf (fun x => decide ((0 : Int) < x)) [0] = -1 := by decide +kernel
      rw [this]; omega)]; rfl
theorem next_none (w : Wk) (hd : w.done = true) (n : Nat) (last : Int) : nextV [] n (leftL [w]) last < 0 := by
  have e : leftL [w] = [0] := by simp [leftL, hd]
  rw [e]
  unfold nextV
  rw [if_pos (by decide +kernel)]; omega
theorem drive_three {stp : Stp} {ws ws1 ws2 ws3 : List Int} {w0 w1 w2 w3 : Wk} (s1 : stp ws w0 = (ws1, w1, 0)) (s2 : stp ws1 w1 = (ws2, w2, 0)) (s3 : stp ws2 w2 = (ws3, w3, 0))
    (d0 : w0.done = false) (d1 : w1.done = false) (d2 : w2.done = false) (d3 : w3.done = true) : driveT stp [] ws [w0] = (ws3, [w3], 0) := by
  unfold driveT
  rw [if_neg (by simp)]
  have go : ∀ {ws ws' : List Int} {w w' : Wk} (n : Nat) (last : Int), n < 100000 → (last = -1 ∨ last = 0) → w.done = false → stp ws w = (ws', w', 0) →
      ∀ {m0 l0}, driveL stp [] m0 l0 (100000 - n) last ws [w] = driveL stp [] m0 l0 (100000 - (n + 1)) 0 ws' [w'] := by
    intro ws ws' w w' n last hn hl hd hs m0 l0
    have e : ([w] : List Wk).getD 0 wk0 = w := rfl
    have := driveL_go (stp := stp) (picks := []) (m0 := m0) (l0 := l0) (ws := ws) (now := [w]) (last := last) n 0 hn (next_one w hd n last hl) (by rw [e, hs])
    rw [e, hs] at this
    exact this
  have g1 := go 0 (-1) (by omega) (.inl rfl) d0 s1 (m0 := ws) (l0 := [w0])
  have g2 := go 1 0 (by omega) (.inr rfl) d1 s2 (m0 := ws) (l0 := [w0])
  have g3 := go 2 0 (by omega) (.inr rfl) d2 s3 (m0 := ws) (l0 := [w0])
  have g4 := driveL_neg (stp := stp) (picks := []) (m0 := ws) (l0 := [w0]) (ws := ws3) (now := [w3]) (last := 0) 3 (by omega) (next_none w3 d3 3 0)
  exact g1.trans (g2.trans (g3.trans g4))
theorem one_pop {n : Nat} {ws : List Int} {x : Nat} {F R : List Nat} {C : Nat} (h : FJ n ws (x :: F) R C) (hn : n ≤ 20) (hC : C ≤ 1000) :
    ∃ ws' w1 w2 w3, stepF 0 ws popW = (ws, w1, 0) ∧ stepF 0 ws w1 = (ws, w2, 0) ∧ stepF 0 ws w2 = (ws', w3, 0) ∧ w1.done = false ∧ w2.done = false ∧ w3.done = true ∧ w3.out = x ∧ FJ n ws' F (x :: R) (C + 1) := by
  have hx : x < n := FJ_lt h x (.inl (List.mem_cons_self ..))
  have hlen := h.len
  have hh : ws.getD 0 0 = (C : Int) * 1048576 + ((x + 1 : Nat) : Int) := by rw [h.head]; rfl
  have hH : Hn (ws.getD 0 0) = ((x + 1 : Nat) : Int) := by rw [hh]; exact hn_at C (x + 1) (by omega)
  obtain ⟨m, hm, hmn⟩ := hdF_le (F := F) (n := n) fun y hy => FJ_lt h y (.inl (List.mem_cons_of_mem _ hy))
  have hlink : ws.getD (x + 1) 0 = m := by rw [h.chain.1, hm]
  have b1 : behF popW (ws.getD 0 0) true = ⟨1, 1, 0, ws.getD 0 0, 0, 0, 0, 0, 0, 0, false, 0⟩ := by
    unfold behF
    rw [if_pos (show popW.pc = 0 from rfl), if_neg (by rw [hH]; rintro ⟨_, h⟩; omega)]; rfl
  have s1 : stepF 0 ws popW = (ws, ⟨1, 1, 0, ws.getD 0 0, 0, 0, 0, 0, 0, 0, false, 0⟩, 0) := by
    rw [sF_load0 rfl (.inl rfl) rfl (by omega) (by omega), b1]
  have s2 : stepF 0 ws ⟨1, 1, 0, ws.getD 0 0, 0, 0, 0, 0, 0, 0, false, 0⟩ = (ws, ⟨2, 1, 0, ws.getD 0 0, m, 0, 0, 0, 0, 0, false, 0⟩, 0) := by
    rw [sF_pop1 rfl rfl rfl (x + 1) hH (by omega) (by omega), hlink]
  have hset := set_getDw ws 0 (((C : Int) + 1) * 1048576 + m) 0 (by omega)
  have s3 : stepF 0 ws ⟨2, 1, 0, ws.getD 0 0, m, 0, 0, 0, 0, 0, false, 0⟩ = (ws.set 0 (((C : Int) + 1) * 1048576 + m), ⟨2, 1, 0, ws.getD 0 0, m, 0, 0, 0, 0, 0, true, x⟩, 0) := by
    rw [sF_swap rfl (.inl rfl) rfl (((C : Int) + 1) * 1048576 + m) (by show nwH (ws.getD 0 0) m = _; rw [hh]; exact nwH_at C (x + 1) m (by omega) (by omega) (by omega)) (by omega) (by omega) (by omega)]
    rw [if_pos rfl, if_pos rfl]
    have : Hn (ws.getD 0 0) - 1 = (x : Int) := by rw [hH]; omega
    show (_, Wk.mk 2 1 0 _ m 0 0 0 0 0 true (if (1 : Int) = 1 then Hn (ws.getD 0 0) - 1 else 0), _) = _
    rw [if_pos rfl, this]
  refine ⟨_, _, _, _, s1, s2, s3, rfl, rfl, rfl, rfl, by rw [List.length_set]; exact hlen, by rw [hset, if_pos rfl, hm]; simp, Chain_set (by omega) F (fun _ _ => by omega) h.chain.2, fun i h1 h2 => by rw [hset, if_neg (by omega)]; exact h.range i h1 h2, fun a => ?_⟩
  have := h.perm a
  rw [List.count_cons] at this
  rw [List.count_cons]; omega
theorem one_push {n : Nat} {ws : List Int} {x : Nat} {F R : List Nat} {C : Nat} (h : FJ n ws F (x :: R) C) (hn : n ≤ 20) (hC : C ≤ 1000) :
    ∃ ws1 ws' w1 w2 w3, stepF 0 ws (pushW x) = (ws, w1, 0) ∧ stepF 0 ws w1 = (ws1, w2, 0) ∧ stepF 0 ws1 w2 = (ws', w3, 0) ∧ w1.done = false ∧ w2.done = false ∧ w3.done = true ∧ FJ n ws' (x :: F) R (C + 1) := by
  have hx : x < n := FJ_lt h x (.inr (List.mem_cons_self ..))
  have hlen := h.len
  have hnin : x ∉ F := fun hm => by
    have h1 := h.perm x
    have h2 := List.count_pos_iff.2 hm
    rw [List.count_cons_self] at h1
    split at h1 <;> omega
  obtain ⟨m, hm, hmn⟩ := hdF_le (F := F) (n := n) fun y hy => FJ_lt h y (.inl hy)
  have hh : ws.getD 0 0 = (C : Int) * 1048576 + m := by rw [h.head, hm]
  have hH : Hn (ws.getD 0 0) = m := by rw [hh]; exact hn_at C m (by omega)
  have b1 : behF (pushW x) (ws.getD 0 0) true = ⟨1, 2, x, ws.getD 0 0, 0, 0, 0, 0, 0, 0, false, 0⟩ := by
    unfold behF
    rw [if_pos (show (pushW x).pc = 0 from rfl), if_neg (by rintro ⟨h, _⟩; exact absurd h (by show ¬ (2 : Int) = 1; omega))]; rfl
  have s1 : stepF 0 ws (pushW x) = (ws, ⟨1, 2, x, ws.getD 0 0, 0, 0, 0, 0, 0, 0, false, 0⟩, 0) := by
    rw [sF_load0 rfl (.inr rfl) rfl (by omega) (by omega), b1]
  have s2 : stepF 0 ws ⟨1, 2, x, ws.getD 0 0, 0, 0, 0, 0, 0, 0, false, 0⟩ = (ws.set (x + 1) m, ⟨2, 2, x, ws.getD 0 0, 0, 0, 0, 0, 0, 0, false, 0⟩, 0) := by
    rw [sF_push1 rfl rfl rfl x rfl (by omega) (by omega), hH]
  have hset1 := set_getDw ws (x + 1) (m : Int) 0 (by omega)
  have hz : (ws.set (x + 1) (m : Int)).getD 0 0 = ws.getD 0 0 := by rw [hset1, if_neg (by omega)]
  have hl1 : (ws.set (x + 1) (m : Int)).length = n + 1 := by rw [List.length_set]; exact hlen
  have hset := set_getDw (ws.set (x + 1) (m : Int)) 0 (((C : Int) + 1) * 1048576 + ((x : Int) + 1)) 0 (by omega)
  have s3 : stepF 0 (ws.set (x + 1) m) ⟨2, 2, x, ws.getD 0 0, 0, 0, 0, 0, 0, 0, false, 0⟩ = ((ws.set (x + 1) (m : Int)).set 0 (((C : Int) + 1) * 1048576 + ((x : Int) + 1)), ⟨2, 2, x, ws.getD 0 0, 0, 0, 0, 0, 0, 0, true, x⟩, 0) := by
    rw [sF_swap rfl (.inr rfl) rfl (((C : Int) + 1) * 1048576 + ((x : Int) + 1)) (by
      rw [if_neg (show ¬ (2 : Int) = 1 by omega)]
      show nwH (ws.getD 0 0) (IntKind.i64.wrap ((x : Int) + 1)) = _
      rw [hh, wrap_small (by omega)]; exact nwH_at C m ((x : Int) + 1) (by omega) (by omega) (by omega)) (by omega) (by omega) (by omega)]
    rw [if_pos hz, if_pos hz]
    rfl
  have hnx : ∀ y ∈ F, x + 1 ≠ y + 1 := fun y hy he => hnin (by rw [show x = y by omega]; exact hy)
  refine ⟨_, _, _, _, _, s1, s2, s3, rfl, rfl, rfl, by rw [List.length_set]; exact hl1, by rw [hset, if_pos rfl]; show _ = _ + ((x : Int) + 1); simp, ⟨?_, Chain_set (by omega) F (fun _ _ => by omega) (Chain_set (by omega) F hnx h.chain)⟩, fun i h1 h2 => ?_, fun a => ?_⟩
  · rw [hset, if_neg (by omega), hset1, if_pos rfl, hm]
  · rw [hset, if_neg (by omega), hset1]
    split
    · omega
    · exact h.range i h1 h2
  · have := h.perm a
    rw [List.count_cons] at this
    rw [List.count_cons]; omega
end Go.Proofs.Ytjdokpdnehkjpaa.Ab
