/- mem.Do by its parts; lists that grow. -/
import Derived.Test.YtphjglbbhanmpaaGC
namespace Go.Proofs.Ytphjglbbhanmpaa.Ab
open Go Go.RowKit
attribute [local irreducible] SQ RG AW
abbrev accs (ls : List Four) : AV := .lst false 4 ls.length fun i => fours (ls.getD i (0, 0, 0, 0))
/-- what was gathered, and one more -/
theorem gather {α : Type} (d : α) (cells : α → List AV) {fs : List α} {k : Nat} (h : fs.length = k) (x : α) {sz : Nat} {cs : List AV} (hc : cs.take sz = cells x) (i : Nat) (hi : i < k + 1) : (if i < k then cells (fs.getD i d) else (cs.drop ((i - k) * sz)).take sz) = cells ((fs ++ [x]).getD i d) := by
  subst h
  by_cases hlt : i < fs.length
  · rw [if_pos hlt, List.getD_eq_getElem?_getD, List.getD_eq_getElem?_getD, List.getElem?_append_left hlt]
  · rw [if_neg hlt]
    have : i = fs.length := by omega
    subst this
    rw [Nat.sub_self, List.getD_eq_getElem?_getD (l := fs ++ [x]), List.getElem?_append_right (Nat.le_refl _), Nat.sub_self, Nat.zero_mul, List.drop_zero, hc]
    rfl
theorem do_lit (xs : List Int) (k a o n : Int) {m : List Int} {x : Int} {b : Bool} {er : Int} (h : doW xs k a o n = (m, x, b, er)) (hl : xs.length ≤ 1000000) : PS Try.prog 88 [ints xs, acc k a o n] (.tup [ints m, .i x, .b b, .i er]) := by
  have := do_s xs k a o n hl
  rwa [h] at this
end Go.Proofs.Ytphjglbbhanmpaa.Ab
