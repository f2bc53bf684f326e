/- Arguments opened, for whatever program. -/
import Derived.Test.YtkflllendbgdaaaT
import Derived.WalkKit
import Derived.ProofKit
import Derived.OpenShut
import Derived.ShutString
import Derived.ChangeOld
import Derived.Lib.SmallJoins
namespace Go.Proofs.Ytkflllendbgdaaa
open Go.ChangeShapes Go.WideShapes Go.ChangeAt Go.RowKit

theorem i64_of {x : Int} (h : (Lit.int .i64 x).wf = true) : I64 x := by
  simp [Lit.wf, IntKind.min, IntKind.max, IntKind.signed, IntKind.bits] at h
  unfold I64; omega
section
variable {H : Type} {enc : TypeId × Value → H} {P : Program} {w : World} {base : Nat} {spare : Nat → Bool} {held : Bool} {r : Reach} {b0 : Nat} {t : TypeId} {v : Value} {d : DataW H} {p : List MemPlace}
theorem open_i64 (ht : P.underlying t = some (.int .i64)) (hv : Value.okWide P w r b0 t v) (h : DataW.Trod enc P w base spare held t v d p) : ∃ x, v = .int .i64 x ∧ I64 x := by
  obtain ⟨x, rfl, _, _, hw⟩ := open_int ht hv h
  exact ⟨x, rfl, i64_of hw⟩
theorem okWide_arr {n : Nat} {e : TypeId} (ht : P.underlying t = some (.array n e)) (h : Value.okWide P w r b0 t v) : ∃ cs, v = .agg cs ∧ cs.size = P.cellsOf t := by
  simp only [Value.okWide, ht] at h
  obtain ⟨cs, h1, h2, _⟩ := h
  exact ⟨cs, h1, h2⟩
theorem open_four {e : TypeId} (ht : P.underlying t = some (.array 4 e)) (he : P.underlying e = some (.int .i64)) (hc1 : P.cellsOf e = 1) (hc4 : P.cellsOf t = 4)
    (hv : Value.okWide P w r b0 t v) (h : DataW.Trod enc P w base spare held t v d p) : ∃ k0 k1 k2 k3, v = .agg #[.int .i64 k0, .int .i64 k1, .int .i64 k2, .int .i64 k3] ∧ I64 k0 ∧ I64 k1 ∧ I64 k2 ∧ I64 k3 := by
  obtain ⟨cs, rfl, hsz⟩ := okWide_arr ht hv
  rw [hc4] at hsz
  obtain ⟨c0, c1, c2, c3, rfl⟩ := Go.Joins.array4 hsz
  obtain ⟨fuel, hf⟩ := h
  obtain ⟨xs, m, _, _, hl, hx, hi⟩ := DataW.trod_array ht hf
  have one : ∀ i, i < 4 → ∀ c, (([c0, c1, c2, c3].drop (i * 1)).take 1) = [c] → ∃ k, c = .int .i64 k ∧ I64 k := by
    intro i h4 c hc
    have := hi i h4
    simp only [hc1, Value.cells] at this
    rw [hc] at this
    cases hxi : xs[i]? with
    | none => rw [List.getElem?_eq_none_iff] at hxi; omega
    | some y =>
      rw [hxi] at this
      obtain ⟨n, hn, _, hw⟩ := DataW.trod_int he this
      simp at hn
      exact ⟨n, hn, i64_of hw⟩
  obtain ⟨k0, rfl, h0⟩ := one 0 (by omega) c0 rfl
  obtain ⟨k1, rfl, h1⟩ := one 1 (by omega) c1 rfl
  obtain ⟨k2, rfl, h2⟩ := one 2 (by omega) c2 rfl
  obtain ⟨k3, rfl, h3⟩ := one 3 (by omega) c3 rfl
  exact ⟨k0, k1, k2, k3, rfl, h0, h1, h2, h3⟩
end
theorem Try.own : ownKnob Try.prog.godebug = none := by kernel_rfl
theorem Try.laidOut : laidOutB Try.prog = true := by kernel_rfl
end Go.Proofs.Ytkflllendbgdaaa
