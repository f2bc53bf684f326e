/- mem.Do by its parts; lists that grow. -/
import Derived.Test.YtcehniefjelgeaaGC
namespace Go.Proofs.Ytcehniefjelgeaa.Ab
open Go Go.RowKit
attribute [local irreducible] SQ RG AW
abbrev accs (ls : List Four) : AV := .lst false 4 ls.length fun i => fours (ls.getD i (0, 0, 0, 0))
abbrev doF (xs : List Int) (a : Four) : List Int × Int × Bool × Int := doW xs a.1 a.2.1 a.2.2.1 a.2.2.2
/-- words behind accesses, and what each of them found -/
def playL (xs0 : List Int) : List Int → List Int → List Four → List Int × List Int × Int
  | xs, fs, [] => (xs, fs, 0)
  | xs, fs, a :: ls => if (doF xs a).2.2.2 = 0 then playL xs0 (doF xs a).1 (fs ++ [(doF xs a).2.1]) ls else (xs0, [], (doF xs a).2.2.2)
theorem doW_len (xs : List Int) (k a o n : Int) : (doW xs k a o n).1.length = xs.length := by
  unfold doW; split
  · simp only []; split <;> simp
  · rfl
abbrev playAV (r : List Int × List Int × Int) : AV := .tup [ints r.1, ints r.2.1, .i r.2.2]
theorem cl_play (r : List Int × List Int × Int) : Cl (playAV r) := .tup _ fun x hx => by
  simp only [List.mem_cons, List.not_mem_nil, or_false] at hx
  rcases hx with rfl | rfl | rfl
  · exact cl_ints _
  · exact cl_ints _
  · exact .p _
theorem drop_getD {α : Type} (l : List α) (d : α) (k : Nat) (h : k < l.length) : l.drop k = l.getD k d :: l.drop (k + 1) := by
  rw [List.drop_eq_getElem_cons h, List.getD_eq_getElem?_getD, List.getElem?_eq_getElem h]; rfl
/-- what was gathered, and one more -/
theorem gather {α : Type} (d : α) (cells : α → List AV) {fs : List α} {k : Nat} (h : fs.length = k) (x : α) {sz : Nat} {cs : List AV} (hc : cs.take sz = cells x) (i : Nat) (hi : i < k + 1) : (if i < k then cells (fs.getD i d) else (cs.drop ((i - k) * sz)).take sz) = cells ((fs ++ [x]).getD i d) := by
  subst h
  by_cases hlt : i < fs.length
  · rw [if_pos hlt, List.getD_eq_getElem?_getD, List.getD_eq_getElem?_getD, List.getElem?_append_left hlt]
  · rw [if_neg hlt]
    have : i = fs.length := by omega
    subst this
    rw [Nat.sub_self, List.getD_eq_getElem?_getD (l := fs ++ [x]), List.getElem?_append_right (Nat.le_refl _), Nat.sub_self, Nat.zero_mul, List.drop_zero, hc]
    rfl
theorem do_lit (xs : List Int) (k a o n : Int) {m : List Int} {x : Int} {b : Bool} {er : Int} (h : doW xs k a o n = (m, x, b, er)) (hl : xs.length ≤ 1000000) : PS Try.prog 62 [ints xs, acc k a o n] (.tup [ints m, .i x, .b b, .i er]) := by
  have := do_s xs k a o n hl
  rwa [h] at this
end Go.Proofs.Ytcehniefjelgeaa.Ab
