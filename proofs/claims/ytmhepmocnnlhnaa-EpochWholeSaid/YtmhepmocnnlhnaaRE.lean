/- Epochs, in plain words: nodes are not lost, and come in order. -/
import Derived.Test.YtmhepmocnnlhnaaQX
namespace Go.Proofs.Ytmhepmocnnlhnaa.Ab
open Go Go.RowKit
abbrev iota (n : Nat) : List Int := (List.range n).map fun i : Nat => (i : Int)
theorem iota_succ (n : Nat) : iota (n + 1) = iota n ++ [(n : Int)] := by
  simp [iota, List.range_succ]
theorem iota_len (n : Nat) : (iota n).length = n := by simp [iota]
theorem iota_mem (n i : Nat) (h : i < n) : (i : Int) ∈ iota n := by simp [iota]; exact ⟨i, h, rfl⟩
/-- nx nodes were retired, those of tk taken -/
structure Whl (k nx : Nat) (tk : List Int) (e : Ep) : Prop where
  right : RightE e
  gap : Gap e
  seq : tk ++ e.free ++ lim e ((e.now + 2) % 3) ++ lim e (e.now % 3) = iota nx
  nk : nx ≤ k
section
variable {k nx : Nat} {tk : List Int} {e : Ep}
theorem Whl.mono {k' : Nat} (h : Whl k nx tk e) (hk : k ≤ k') : Whl k' nx tk e := ⟨h.right, h.gap, h.seq, Nat.le_trans h.nk hk⟩
theorem Whl.new (w : Int) (h1 : 1 ≤ w) (h2 : w ≤ 64) : Whl 0 0 [] (newE w) := by
  refine ⟨(EI.new w 0 h1 h2).right, gap_new w, ?_, Nat.le_refl 0⟩
  unfold newE
  rw [if_pos ⟨h1, h2⟩]
  rfl
theorem Whl.pin (h : Whl k nx tk e) (i : Int) : Whl k nx tk (pinE e i).1 := by
  rcases pin_cases e i with ⟨h1, _⟩ | ⟨j, _, _, _, _, h1⟩
  · rw [h1]; exact h
  · rw [h1]; exact ⟨right_set h.right j _ (.inr (.inr rfl)), h.gap, h.seq, h.nk⟩
theorem Whl.unpin (h : Whl k nx tk e) (i : Int) : Whl k nx tk (unpinE e i).1 := by
  rcases unpin_cases e i with ⟨h1, _⟩ | ⟨j, _, _, _, _, h1⟩
  · rw [h1]; exact h
  · rw [h1]; exact ⟨right_set h.right j _ (.inl rfl), h.gap, h.seq, h.nk⟩
theorem Whl.retire (h : Whl k nx tk e) (i : Int) : ((retireE e i nx).2 = 0 ∧ Whl (k + 1) (nx + 1) tk (retireE e i nx).1) ∨ ((retireE e i nx).2 ≠ 0 ∧ Whl (k + 1) nx tk (retireE e i nx).1) := by
  rcases retire_cases e i nx with ⟨h1, h2⟩ | ⟨j, _, _, _, _, hp, hne, hl, h1⟩
  · rw [h1]; exact .inr ⟨h2, h.mono (Nat.le_succ k)⟩
  · rw [h1]
    obtain ⟨a1, a2, a3⟩ := addL_now e (e.now % 3) nx
    refine .inl ⟨rfl, right_addL h.right _ _ hp hne hl, gap_addL h.gap _, ?_, by have := h.nk; omega⟩
    show tk ++ (addL e (e.now % 3) nx).free ++ lim (addL e (e.now % 3) nx) (((addL e (e.now % 3) nx).now + 2) % 3) ++ lim (addL e (e.now % 3) nx) ((addL e (e.now % 3) nx).now % 3) = _
    rw [a1, a3, lim_addL e _ _ _ (mod3 _) (mod3 _), lim_addL e _ _ _ (mod3 _) (mod3 _), if_neg (by omega), if_pos rfl, iota_succ, ← h.seq]
    simp only [List.append_assoc]
theorem Whl.advance (h : Whl k nx tk e) : Whl k nx tk (advanceE e).1 := by
  rcases advance_cases e with ⟨h1, _⟩ | ⟨_, hb, h1⟩
  · rw [h1]; exact h
  · rw [h1]
    refine ⟨right_advT h.right hb, gap_advT e, ?_, h.nk⟩
    have hg := h.gap
    unfold Gap at hg
    show tk ++ (advT e).free ++ lim (advT e) (((advT e).now + 2) % 3) ++ lim (advT e) ((advT e).now % 3) = _
    rw [(advT_now e).1, free_advT, lim_advT e _ (mod3 _), lim_advT e _ (mod3 _), if_neg (by omega), if_neg (by omega), hg, show (e.now + 1 + 2) % 3 = e.now % 3 by omega, ← h.seq]
    simp only [List.append_assoc, List.append_nil]
theorem Whl.take (h : Whl k nx tk e) : (takeE e).2.2.2 = 0 ∧ (((takeE e).2.2.1 = true ∧ Whl k nx (tk ++ [(takeE e).2.1]) (takeE e).1) ∨ ((takeE e).2.2.1 = false ∧ Whl k nx tk (takeE e).1)) := by
  by_cases hf : e.free = []
  · rw [take_none h.right hf]
    exact ⟨rfl, .inr ⟨rfl, h⟩⟩
  · rw [take_ok h.right hf]
    refine ⟨rfl, .inl ⟨rfl, right_take h.right hf, h.gap, ?_, h.nk⟩⟩
    show (tk ++ [e.free.getD 0 0]) ++ e.free.drop 1 ++ lim e ((e.now + 2) % 3) ++ lim e (e.now % 3) = _
    rw [← h.seq]
    cases hfe : e.free with
    | nil => exact absurd hfe hf
    | cons x l => simp
theorem Whl.perm (h : Whl k nx tk e) : ((((tk ++ e.free) ++ e.l0) ++ e.l1) ++ e.l2).Perm (iota nx) := by
  rw [← h.seq]
  have hg := h.gap
  unfold Gap at hg
  refine List.perm_iff_count.2 fun a => ?_
  rcases mod3 e.now with h3 | h3 | h3
  · rw [show (e.now + 1) % 3 = 1 by omega] at hg
    have hg : e.l1 = [] := hg
    rw [show (e.now + 2) % 3 = 2 by omega, h3]
    show _ = List.count a (tk ++ e.free ++ e.l2 ++ e.l0)
    simp only [List.count_append, hg, List.count_nil]; omega
  · rw [show (e.now + 1) % 3 = 2 by omega] at hg
    have hg : e.l2 = [] := hg
    rw [show (e.now + 2) % 3 = 0 by omega, h3]
    show _ = List.count a (tk ++ e.free ++ e.l0 ++ e.l1)
    simp only [List.count_append, hg, List.count_nil]; omega
  · rw [show (e.now + 1) % 3 = 0 by omega] at hg
    have hg : e.l0 = [] := hg
    rw [show (e.now + 2) % 3 = 1 by omega, h3]
    show _ = List.count a (tk ++ e.free ++ e.l1 ++ e.l2)
    simp only [List.count_append, hg, List.count_nil]; omega
theorem Whl.tks (h : Whl k nx tk e) (i : Nat) (hi : i < tk.length) : tk.getD i 0 = i := by
  have hs := h.seq
  rw [List.append_assoc, List.append_assoc] at hs
  have h1 : (iota nx)[i]? = tk[i]? := by rw [← hs, List.getElem?_append_left hi]
  have hl := congrArg List.length hs
  rw [List.length_append, iota_len] at hl
  have h2 : (iota nx)[i]? = some (i : Int) := by
    simp only [iota, List.getElem?_map]
    rw [List.getElem?_range (by omega)]
    rfl
  rw [List.getD_eq_getElem?_getD, ← h1, h2]
  rfl
theorem Whl.lens (h : Whl k nx tk e) : tk.length + e.free.length + e.l0.length + e.l1.length + e.l2.length = nx := by
  have := h.perm.length_eq
  rw [iota_len] at this
  simp only [List.length_append] at this
  omega
end
end Go.Proofs.Ytmhepmocnnlhnaa.Ab
