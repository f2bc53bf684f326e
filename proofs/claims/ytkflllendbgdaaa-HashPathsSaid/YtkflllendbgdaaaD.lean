/- Worlds that differ by draws alone. -/
import Derived.Test.YtkflllendbgdaaaR
import Derived.Deep.Draws
namespace Go.Proofs.Ytkflllendbgdaaa
open Go.RowKit
def Drawn (w w' : World) : Prop := ∃ n, w' = w.drewN n
theorem drawn_refl (w : World) : Drawn w w := ⟨0, rfl⟩
theorem drawn_trans (a b c : World) (h : Drawn a b) (k : Drawn b c) : Drawn a c := by
  obtain ⟨n, rfl⟩ := h
  obtain ⟨m, rfl⟩ := k
  exact ⟨n + m, World.drewN_drewN ..⟩
theorem drawn_drew (w : World) : Drawn w w.drew := ⟨1, rfl⟩
@[go_sem] theorem setCell_drewN (w : World) (n : Nat) (a : Addr) (v : Value) : (w.drewN n).setCell a v = (w.setCell a v).drewN n := rfl
@[go_sem] theorem alloc_drewN (w : World) (n : Nat) (o : Obj) : (w.drewN n).alloc o = (w.alloc o).drewN n := rfl

/-- a block that the call writes: its cells, one by one -/
def Row1 (w : World) (b : Nat) (t : TypeId) (cs : List Value) : Prop := w.heap[b]? = some (.cells cs.toArray t (0, 0))
theorem row1_cell {w : World} {b : Nat} {t : TypeId} {cs : List Value} (h : Row1 w b t cs) (i : Nat) : w.cell? ⟨b, i, none⟩ = cs[i]? := by
  unfold Row1 at h
  rw [cell_of_row w b i cs.toArray t (0, 0) h]; simp
theorem row1_free {w : World} {b : Nat} {t : TypeId} {cs : List Value} (h : Row1 w b t cs) (i : Nat) : w.frozen? ⟨b, i, none⟩ = false := by
  unfold Row1 at h
  simp [World.frozen?, h]
theorem row1_lt {w : World} {b : Nat} {t : TypeId} {cs : List Value} (h : Row1 w b t cs) : b < w.heap.size := lt_of_block h
theorem row1_set {w : World} {b : Nat} {t : TypeId} {cs : List Value} (h : Row1 w b t cs) (i : Nat) (v : Value) : Row1 (w.setCell ⟨b, i, none⟩ v) b t (cs.set i v) := by
  have hlt := lt_of_block h
  unfold Row1 at *
  have h' : w.heap[b] = .cells cs.toArray t (0, 0) := by simpa [Array.getElem?_eq_getElem hlt] using h
  show (w.heap.modify b _)[b]? = _
  rw [Array.getElem?_eq_getElem (by simpa using hlt), Array.getElem_modify_self, h']
  simp
theorem row1_up {w w' : World} {b : Nat} {t : TypeId} {cs : List Value} (h : Row1 w b t cs) (hl : Below w.heap.size w w') : Row1 w' b t cs := by
  unfold Row1 at *; rw [hl.block b (lt_of_block h)]; exact h
theorem row1_new (w : World) (t : TypeId) (cs : List Value) : Row1 (w.alloc (.cells cs.toArray t)) w.heap.size t cs := heap_alloc_new w _
theorem row1_other {w : World} {b c : Nat} {t : TypeId} {cs : List Value} (h : Row1 w b t cs) (hne : b ≠ c) (i : Nat) (v : Value) : Row1 (w.setCell ⟨c, i, none⟩ v) b t cs := by
  unfold Row1 at *; rw [Below.heap_setCell _ _ _ _ (by simpa using hne)]; exact h
theorem madeCells_int (n : Nat) : madeCells (Value.int .i64 0).cells (n * 1) = ((List.replicate n 0).map (Value.int .i64)).toArray := by
  simp [madeCells, Value.cells]
  apply Array.ext
  · simp
  · intro i h1 h2; simp [Nat.mod_one]
end Go.Proofs.Ytkflllendbgdaaa
