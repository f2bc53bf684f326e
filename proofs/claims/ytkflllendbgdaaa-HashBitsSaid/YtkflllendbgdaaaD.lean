/- Worlds that differ by draws alone. -/
import Derived.Test.YtkflllendbgdaaaR
import Derived.Deep.Draws
namespace Go.Proofs.Ytkflllendbgdaaa
open Go.RowKit
def Drawn (w w' : World) : Prop := ∃ n, w' = w.drewN n
theorem drawn_refl (w : World) : Drawn w w := ⟨0, rfl⟩
theorem drawn_trans (a b c : World) (h : Drawn a b) (k : Drawn b c) : Drawn a c := by
  obtain ⟨n, rfl⟩ := h
  obtain ⟨m, rfl⟩ := k
  exact ⟨n + m, World.drewN_drewN ..⟩
theorem drawn_drew (w : World) : Drawn w w.drew := ⟨1, rfl⟩
@[go_sem] theorem setCell_drewN (w : World) (n : Nat) (a : Addr) (v : Value) : (w.drewN n).setCell a v = (w.setCell a v).drewN n := rfl
@[go_sem] theorem alloc_drewN (w : World) (n : Nat) (o : Obj) : (w.drewN n).alloc o = (w.alloc o).drewN n := rfl
end Go.Proofs.Ytkflllendbgdaaa
