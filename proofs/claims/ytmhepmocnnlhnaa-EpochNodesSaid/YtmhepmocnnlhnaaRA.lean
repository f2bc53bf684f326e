/- Epochs, in plain words: once none is pinned. -/
import Derived.Test.YtmhepmocnnlhnaaQX
namespace Go.Proofs.Ytmhepmocnnlhnaa.Ab
open Go Go.RowKit
theorem free_nlim {e : Ep} (hr : RightE e) {n : Int} (h : n ∈ e.free) : n ∉ e.l0 ∧ n ∉ e.l1 ∧ n ∉ e.l2 := by
  have : ∀ k, n ∉ lim e k := fun k hk => lim_nfree hr hk h
  exact ⟨this 0, this 1, this 2⟩
theorem all_set {l : List Int} (h : ∀ p ∈ l, p = 0) (v : Int) : ∀ p ∈ (l.set 0 v).set 0 0, p = 0 := fun p hp => by
  rcases List.mem_or_eq_of_mem_set hp with h1 | h1
  · rw [List.set_set] at hp
    rcases List.mem_or_eq_of_mem_set hp with h2 | h2
    · exact h p h2
    · exact h2
  · exact h1
theorem nodes_chain {wl : Nat} {V : Ep} (hV : EI wl 40 20 V) (hp : ∀ p ∈ V.pins, p = 0) (n : Int) (h0 : 100 ≤ n) (h1 : n < 200) :
    ∃ a b c c1 c2 d, pinE V 0 = (a, 0) ∧ retireE a 0 n = (b, 0) ∧ retireE b 0 n = (b, 41) ∧ unpinE b 0 = (c, 0) ∧ advanceE c = (c1, true, 0) ∧ advanceE c1 = (c2, true, 0) ∧ pinE c2 0 = (d, 0) ∧ retireE d 0 n = (d, 41) ∧
      RightE a ∧ RightE b ∧ RightE c ∧ RightE c1 ∧ RightE c2 ∧ EI wl 43 200 d ∧ n ∈ d.free ∧ d.pins.getD 0 0 ≠ 0 ∧ 0 < d.pins.length := by
  have hw := hV.right.2.1.1
  have hz : V.pins.getD 0 0 = 0 := hp _ (mem_getD V.pins 0 0 (by omega))
  have hN := hV.right.1.1
  have hn := hV.now
  have hnP : nodeP n := ⟨by omega, by omega⟩
  have ea : pinE V 0 = _ := pin_ok hV.right (j := 0) (by omega) hz
  have Ia := hV.pin 0
  rw [ea] at Ia
  dsimp only at Ia
  have pa : ({ V with pins := V.pins.set 0 (V.now + 1) } : Ep).pins.getD 0 0 ≠ 0 := by
    show (V.pins.set 0 (V.now + 1)).getD 0 0 ≠ 0
    rw [getD_set' _ _ _ _ (by omega), if_pos rfl]; omega
  have la : 0 < ({ V with pins := V.pins.set 0 (V.now + 1) } : Ep).pins.length := by show 0 < (V.pins.set 0 _).length; rw [List.length_set]; omega
  have na : n ∉ nodesL V := fun hm => by have := hV.low _ hm; omega
  have za : ∀ p ∈ (({ V with pins := V.pins.set 0 (V.now + 1) } : Ep).pins.set 0 0), p = 0 := all_set hp _
  have nowa : ({ V with pins := V.pins.set 0 (V.now + 1) } : Ep).now = V.now := rfl
  have na' : n ∉ nodesL { V with pins := V.pins.set 0 (V.now + 1) } := na
  generalize ({ V with pins := V.pins.set 0 (V.now + 1) } : Ep) = a at *
  have eb : retireE a 0 n = _ := retire_ok Ia.right (j := 0) la pa hnP na' (by have := Ia.len; omega)
  have Ib := (Ia.mono (Nat.le_refl 40) (show (20 : Int) ≤ 200 by decide)).retire 0 n h1
  rw [eb] at Ib
  dsimp only at Ib
  obtain ⟨b1, b2, _⟩ := addL_now a (a.now % 3) n
  have mb : n ∈ lim (addL a (a.now % 3) n) (a.now % 3) := by rw [lim_addL a _ n _ (mod3 _) (mod3 _), if_pos rfl]; simp
  generalize addL a (a.now % 3) n = b at *
  have ebb : retireE b 0 n = _ := retire_busy Ib.right (j := 0) (by rw [b2]; exact la) (by rw [b2]; exact pa) hnP ((mem_nodes b n).2 (.inr (lim_mem mb)))
  have ec : unpinE b 0 = _ := unpin_ok Ib.right (j := 0) (by rw [b2]; exact la) (by rw [b2]; exact pa)
  have Ic := Ib.unpin 0
  rw [ec] at Ic
  dsimp only at Ic
  have zc : ∀ p ∈ ({ b with pins := b.pins.set 0 0 } : Ep).pins, p = 0 := by show ∀ p ∈ b.pins.set 0 0, p = 0; rw [b2]; exact za
  have mc : n ∈ lim { b with pins := b.pins.set 0 0 } (a.now % 3) := mb
  have nc : ({ b with pins := b.pins.set 0 0 } : Ep).now = a.now := b1
  generalize ({ b with pins := b.pins.set 0 0 } : Ep) = c at *
  have e1 := advance_ok Ic.right zc (by omega)
  have I1 := Ic.advance
  rw [e1] at I1
  dsimp only at I1
  obtain ⟨c1a, c1b⟩ := advT_now c
  have m1 : n ∈ lim (advT c) (a.now % 3) := by rw [lim_advT c _ (mod3 _), if_neg (by omega)]; exact mc
  generalize advT c = c1 at *
  have e2 := advance_ok I1.right (by rw [c1b]; exact zc) (by omega)
  have I2 := I1.advance
  rw [e2] at I2
  dsimp only at I2
  obtain ⟨c2a, c2b⟩ := advT_now c1
  have m2 : n ∈ (advT c1).free := by rw [free_advT c1, show (c1.now + 2) % 3 = a.now % 3 by omega]; exact List.mem_append_right _ m1
  generalize advT c1 = c2 at *
  have l2 : 0 < c2.pins.length := by have := I2.right.2.1.1; omega
  have ed : pinE c2 0 = _ := pin_ok I2.right (j := 0) l2 (by rw [c2b, c1b]; exact zc _ (mem_getD c.pins 0 0 (by have := Ic.right.2.1.1; omega)))
  have Id := I2.pin 0
  rw [ed] at Id
  dsimp only at Id
  have pd : ({ c2 with pins := c2.pins.set 0 (c2.now + 1) } : Ep).pins.getD 0 0 ≠ 0 := by
    show (c2.pins.set 0 (c2.now + 1)).getD 0 0 ≠ 0
    rw [getD_set' _ _ _ _ l2, if_pos rfl]; omega
  have md : n ∈ ({ c2 with pins := c2.pins.set 0 (c2.now + 1) } : Ep).free := m2
  have ld : 0 < ({ c2 with pins := c2.pins.set 0 (c2.now + 1) } : Ep).pins.length := by have := Id.right.2.1.1; omega
  generalize ({ c2 with pins := c2.pins.set 0 (c2.now + 1) } : Ep) = d at *
  have edd : retireE d 0 n = _ := retire_busy Id.right (j := 0) ld pd hnP ((mem_nodes d n).2 (.inl md))
  exact ⟨a, b, c, c1, c2, d, ea, eb, ebb, ec, e1, e2, ed, edd, Ia.right, Ib.right, Ic.right, I1.right, I2.right, Id, md, pd, ld⟩
/-- what waits for a taker, once the node is the only one that matters -/
structure Tk (n : Int) (x : Nat) (d : Ep) : Prop where
  right : RightE d
  pin : d.pins.getD 0 0 ≠ 0
  wl : 0 < d.pins.length
  len : (nodesL d).length ≤ 43
  lenf : d.free.length + x ≤ 43
  nl : n ∉ d.l0 ∧ n ∉ d.l1 ∧ n ∉ d.l2
theorem Tk.start {wl : Nat} {n : Int} {d : Ep} (h : EI wl 43 200 d) (hm : n ∈ d.free) (hp : d.pins.getD 0 0 ≠ 0) (hl : 0 < d.pins.length) : Tk n 0 d :=
  ⟨h.right, hp, hl, h.len, by have := nodesL_len d; have := h.len; omega, free_nlim h.right hm⟩
theorem Tk.step {n : Int} {x : Nat} {d : Ep} (h : Tk n x d) (hf : n ∈ d.free) : Tk n (x + 1) (takeE d).1 ∧ takeE d = ({ d with free := d.free.drop 1 }, d.free.getD 0 0, true, 0) := by
  have hne : d.free ≠ [] := fun k => by rw [k] at hf; cases hf
  have e1 := take_ok h.right hne
  refine ⟨?_, e1⟩
  rw [e1]
  have ht := take_nodes hne
  have hl := h.len
  rw [ht, List.length_cons] at hl
  have hpos := List.length_pos_iff.2 hne
  have := h.lenf
  exact ⟨right_take h.right hne, h.pin, h.wl, by show (nodesL { d with free := d.free.drop 1 }).length ≤ 43; omega, by show (d.free.drop 1).length + (x + 1) ≤ 43; rw [List.length_drop]; omega, h.nl⟩
theorem Tk.done {n : Int} {x : Nat} {d : Ep} (h : Tk n x d) (hf : n ∉ d.free) (h0 : 0 ≤ n) (h1 : n ≤ 1000) : retireE d 0 n = (addL d (d.now % 3) n, 0) :=
  retire_ok h.right (j := 0) h.wl h.pin ⟨h0, by omega⟩ (fun hm => by
    rcases (mem_nodes d n).1 hm with k | k | k | k
    · exact hf k
    · exact h.nl.1 k
    · exact h.nl.2.1 k
    · exact h.nl.2.2 k) (by have := h.len; omega)
end Go.Proofs.Ytmhepmocnnlhnaa.Ab
