/- The document's own: own. -/
import Derived.Test.YtmhepmocnnlhnaaQP
import Derived.Test.YtmhepmocnnlhnaaQH
namespace Go.Proofs.Ytmhepmocnnlhnaa.Ab
open Go Go.RowKit
theorem AccE.cells {k0 : Nat} {H : AH} {v : AV} {e sz n : Nat} {g : Nat → List AV} (h : AccE k0 H v e sz n g) : acells v = some [v] := by
  rcases h with (⟨_, rfl⟩ | ⟨id, b, _, rfl, _⟩) | ⟨_, g', rfl⟩ <;> rfl
theorem apart_sl (a : AV) (r : List AV) : apart TY 23 (a :: r) = some a := by
  show fv a some = _
  rw [fv_eq]
/-- no block of the one is the other's -/
def Sep (a b : AV) : Prop := ∀ x, accId a = some x → accId b ≠ some x
theorem AccE.keepS {k0 : Nat} {H H' : AH} {v a : AV} {e sz n : Nat} {g : Nat → List AV} (h : AccE k0 H v e sz n g) (ho : Oth H H' (accId a)) (hs : Sep v a) : AccE k0 H' v e sz n g := by
  rcases h with h | h
  · refine .inl (h.keep ho ?_)
    cases hv : accId v with
    | none => exact .inl rfl
    | some x => exact .inr (fun k => hs x hv k.symm)
  · exact .inr h
abbrev cells5 (n : Int) (a0 a1 a2 a3 a4 : AV) : List AV := [.i n, a0, a1, a2, a3, a4]
def SS (a b : AV) : Prop := Sep a b ∧ Sep b a
/-- epochs in memory of their own -/
structure Own5 (k : Nat) (H : AH) (e : Ep) (a0 a1 a2 a3 a4 : AV) : Prop where
  h0 : AccL k H a0 e.pins
  h1 : AccL k H a1 e.l0
  h2 : AccL k H a2 e.l1
  h3 : AccL k H a3 e.l2
  h4 : AccL k H a4 e.free
  s01 : SS a0 a1
  s02 : SS a0 a2
  s03 : SS a0 a3
  s04 : SS a0 a4
  s12 : SS a1 a2
  s13 : SS a1 a3
  s14 : SS a1 a4
  s23 : SS a2 a3
  s24 : SS a2 a4
  s34 : SS a3 a4
  t0 : ∀ x, accId a0 = some x → x < H.length
  t1 : ∀ x, accId a1 = some x → x < H.length
  t2 : ∀ x, accId a2 = some x → x < H.length
  t3 : ∀ x, accId a3 = some x → x < H.length
  t4 : ∀ x, accId a4 = some x → x < H.length
theorem AccE.lt {k0 : Nat} {H : AH} {v : AV} {e sz n : Nat} {g : Nat → List AV} (h : AccE k0 H v e sz n g) : ∀ x, accId v = some x → x < H.length := by
  intro x hx
  rcases h with (⟨_, rfl⟩ | ⟨id, b, _, rfl, hb, _⟩) | ⟨_, g', rfl⟩
  · cases hx
  · cases hx; exact (List.getElem?_eq_some_iff.1 hb).1
  · cases hx
theorem sep_lt {a b : AV} {n : Nat} (ha : ∀ x, accId a = some x → x < n) (hb : ∀ x, accId b = some x → n ≤ x) : Sep a b ∧ Sep b a :=
  ⟨fun x h1 h2 => by have := ha x h1; have := hb x h2; omega, fun x h1 h2 => by have := hb x h1; have := ha x h2; omega⟩
theorem Own5.r0 {k : Nat} {H H' : AH} {e : Ep} {a0 a1 a2 a3 a4 r : AV} {xs : List Int} (h : Own5 k H e a0 a1 a2 a3 a4) (ho : Oth H H' (accId a0)) (hr : AccL k H' r xs) (hn : accId r = none ∨ accId r = accId a0 ∨ ∃ x, accId r = some x ∧ H.length ≤ x) : Own5 k H' { e with pins := xs } r a1 a2 a3 a4 := by
  have hl := ho.1
  have n1 : SS a1 r := by
    rcases hn with h1 | h1 | ⟨x, h1, h2⟩
    · exact ⟨fun i hi h2 => (by rw [h1] at h2; cases h2), fun i hi => (by rw [h1] at hi; cases hi)⟩
    · exact ⟨fun i hi => by rw [h1]; exact h.s01.2 i hi, fun i hi => by rw [h1] at hi; exact h.s01.1 i hi⟩
    · exact sep_lt (fun i hi => h.t1 i hi) (fun i hi => by rw [h1] at hi; cases hi; exact h2)
  have n2 : SS a2 r := by
    rcases hn with h1 | h1 | ⟨x, h1, h2⟩
    · exact ⟨fun i hi h2 => (by rw [h1] at h2; cases h2), fun i hi => (by rw [h1] at hi; cases hi)⟩
    · exact ⟨fun i hi => by rw [h1]; exact h.s02.2 i hi, fun i hi => by rw [h1] at hi; exact h.s02.1 i hi⟩
    · exact sep_lt (fun i hi => h.t2 i hi) (fun i hi => by rw [h1] at hi; cases hi; exact h2)
  have n3 : SS a3 r := by
    rcases hn with h1 | h1 | ⟨x, h1, h2⟩
    · exact ⟨fun i hi h2 => (by rw [h1] at h2; cases h2), fun i hi => (by rw [h1] at hi; cases hi)⟩
    · exact ⟨fun i hi => by rw [h1]; exact h.s03.2 i hi, fun i hi => by rw [h1] at hi; exact h.s03.1 i hi⟩
    · exact sep_lt (fun i hi => h.t3 i hi) (fun i hi => by rw [h1] at hi; cases hi; exact h2)
  have n4 : SS a4 r := by
    rcases hn with h1 | h1 | ⟨x, h1, h2⟩
    · exact ⟨fun i hi h2 => (by rw [h1] at h2; cases h2), fun i hi => (by rw [h1] at hi; cases hi)⟩
    · exact ⟨fun i hi => by rw [h1]; exact h.s04.2 i hi, fun i hi => by rw [h1] at hi; exact h.s04.1 i hi⟩
    · exact sep_lt (fun i hi => h.t4 i hi) (fun i hi => by rw [h1] at hi; cases hi; exact h2)
  exact ⟨hr, h.h1.keepS ho h.s01.2, h.h2.keepS ho h.s02.2, h.h3.keepS ho h.s03.2, h.h4.keepS ho h.s04.2, ⟨n1.2, n1.1⟩, ⟨n2.2, n2.1⟩, ⟨n3.2, n3.1⟩, ⟨n4.2, n4.1⟩, h.s12, h.s13, h.s14, h.s23, h.s24, h.s34, hr.lt, fun x hx => Nat.lt_of_lt_of_le (h.t1 x hx) hl, fun x hx => Nat.lt_of_lt_of_le (h.t2 x hx) hl, fun x hx => Nat.lt_of_lt_of_le (h.t3 x hx) hl, fun x hx => Nat.lt_of_lt_of_le (h.t4 x hx) hl⟩
theorem Own5.r1 {k : Nat} {H H' : AH} {e : Ep} {a0 a1 a2 a3 a4 r : AV} {xs : List Int} (h : Own5 k H e a0 a1 a2 a3 a4) (ho : Oth H H' (accId a1)) (hr : AccL k H' r xs) (hn : accId r = none ∨ accId r = accId a1 ∨ ∃ x, accId r = some x ∧ H.length ≤ x) : Own5 k H' { e with l0 := xs } a0 r a2 a3 a4 := by
  have hl := ho.1
  have n0 : SS a0 r := by
    rcases hn with h1 | h1 | ⟨x, h1, h2⟩
    · exact ⟨fun i hi h2 => (by rw [h1] at h2; cases h2), fun i hi => (by rw [h1] at hi; cases hi)⟩
    · exact ⟨fun i hi => by rw [h1]; exact h.s01.1 i hi, fun i hi => by rw [h1] at hi; exact h.s01.2 i hi⟩
    · exact sep_lt (fun i hi => h.t0 i hi) (fun i hi => by rw [h1] at hi; cases hi; exact h2)
  have n2 : SS a2 r := by
    rcases hn with h1 | h1 | ⟨x, h1, h2⟩
    · exact ⟨fun i hi h2 => (by rw [h1] at h2; cases h2), fun i hi => (by rw [h1] at hi; cases hi)⟩
    · exact ⟨fun i hi => by rw [h1]; exact h.s12.2 i hi, fun i hi => by rw [h1] at hi; exact h.s12.1 i hi⟩
    · exact sep_lt (fun i hi => h.t2 i hi) (fun i hi => by rw [h1] at hi; cases hi; exact h2)
  have n3 : SS a3 r := by
    rcases hn with h1 | h1 | ⟨x, h1, h2⟩
    · exact ⟨fun i hi h2 => (by rw [h1] at h2; cases h2), fun i hi => (by rw [h1] at hi; cases hi)⟩
    · exact ⟨fun i hi => by rw [h1]; exact h.s13.2 i hi, fun i hi => by rw [h1] at hi; exact h.s13.1 i hi⟩
    · exact sep_lt (fun i hi => h.t3 i hi) (fun i hi => by rw [h1] at hi; cases hi; exact h2)
  have n4 : SS a4 r := by
    rcases hn with h1 | h1 | ⟨x, h1, h2⟩
    · exact ⟨fun i hi h2 => (by rw [h1] at h2; cases h2), fun i hi => (by rw [h1] at hi; cases hi)⟩
    · exact ⟨fun i hi => by rw [h1]; exact h.s14.2 i hi, fun i hi => by rw [h1] at hi; exact h.s14.1 i hi⟩
    · exact sep_lt (fun i hi => h.t4 i hi) (fun i hi => by rw [h1] at hi; cases hi; exact h2)
  exact ⟨h.h0.keepS ho h.s01.1, hr, h.h2.keepS ho h.s12.2, h.h3.keepS ho h.s13.2, h.h4.keepS ho h.s14.2, n0, h.s02, h.s03, h.s04, ⟨n2.2, n2.1⟩, ⟨n3.2, n3.1⟩, ⟨n4.2, n4.1⟩, h.s23, h.s24, h.s34, fun x hx => Nat.lt_of_lt_of_le (h.t0 x hx) hl, hr.lt, fun x hx => Nat.lt_of_lt_of_le (h.t2 x hx) hl, fun x hx => Nat.lt_of_lt_of_le (h.t3 x hx) hl, fun x hx => Nat.lt_of_lt_of_le (h.t4 x hx) hl⟩
theorem Own5.r2 {k : Nat} {H H' : AH} {e : Ep} {a0 a1 a2 a3 a4 r : AV} {xs : List Int} (h : Own5 k H e a0 a1 a2 a3 a4) (ho : Oth H H' (accId a2)) (hr : AccL k H' r xs) (hn : accId r = none ∨ accId r = accId a2 ∨ ∃ x, accId r = some x ∧ H.length ≤ x) : Own5 k H' { e with l1 := xs } a0 a1 r a3 a4 := by
  have hl := ho.1
  have n0 : SS a0 r := by
    rcases hn with h1 | h1 | ⟨x, h1, h2⟩
    · exact ⟨fun i hi h2 => (by rw [h1] at h2; cases h2), fun i hi => (by rw [h1] at hi; cases hi)⟩
    · exact ⟨fun i hi => by rw [h1]; exact h.s02.1 i hi, fun i hi => by rw [h1] at hi; exact h.s02.2 i hi⟩
    · exact sep_lt (fun i hi => h.t0 i hi) (fun i hi => by rw [h1] at hi; cases hi; exact h2)
  have n1 : SS a1 r := by
    rcases hn with h1 | h1 | ⟨x, h1, h2⟩
    · exact ⟨fun i hi h2 => (by rw [h1] at h2; cases h2), fun i hi => (by rw [h1] at hi; cases hi)⟩
    · exact ⟨fun i hi => by rw [h1]; exact h.s12.1 i hi, fun i hi => by rw [h1] at hi; exact h.s12.2 i hi⟩
    · exact sep_lt (fun i hi => h.t1 i hi) (fun i hi => by rw [h1] at hi; cases hi; exact h2)
  have n3 : SS a3 r := by
    rcases hn with h1 | h1 | ⟨x, h1, h2⟩
    · exact ⟨fun i hi h2 => (by rw [h1] at h2; cases h2), fun i hi => (by rw [h1] at hi; cases hi)⟩
    · exact ⟨fun i hi => by rw [h1]; exact h.s23.2 i hi, fun i hi => by rw [h1] at hi; exact h.s23.1 i hi⟩
    · exact sep_lt (fun i hi => h.t3 i hi) (fun i hi => by rw [h1] at hi; cases hi; exact h2)
  have n4 : SS a4 r := by
    rcases hn with h1 | h1 | ⟨x, h1, h2⟩
    · exact ⟨fun i hi h2 => (by rw [h1] at h2; cases h2), fun i hi => (by rw [h1] at hi; cases hi)⟩
    · exact ⟨fun i hi => by rw [h1]; exact h.s24.2 i hi, fun i hi => by rw [h1] at hi; exact h.s24.1 i hi⟩
    · exact sep_lt (fun i hi => h.t4 i hi) (fun i hi => by rw [h1] at hi; cases hi; exact h2)
  exact ⟨h.h0.keepS ho h.s02.1, h.h1.keepS ho h.s12.1, hr, h.h3.keepS ho h.s23.2, h.h4.keepS ho h.s24.2, h.s01, n0, h.s03, h.s04, n1, h.s13, h.s14, ⟨n3.2, n3.1⟩, ⟨n4.2, n4.1⟩, h.s34, fun x hx => Nat.lt_of_lt_of_le (h.t0 x hx) hl, fun x hx => Nat.lt_of_lt_of_le (h.t1 x hx) hl, hr.lt, fun x hx => Nat.lt_of_lt_of_le (h.t3 x hx) hl, fun x hx => Nat.lt_of_lt_of_le (h.t4 x hx) hl⟩
theorem Own5.r3 {k : Nat} {H H' : AH} {e : Ep} {a0 a1 a2 a3 a4 r : AV} {xs : List Int} (h : Own5 k H e a0 a1 a2 a3 a4) (ho : Oth H H' (accId a3)) (hr : AccL k H' r xs) (hn : accId r = none ∨ accId r = accId a3 ∨ ∃ x, accId r = some x ∧ H.length ≤ x) : Own5 k H' { e with l2 := xs } a0 a1 a2 r a4 := by
  have hl := ho.1
  have n0 : SS a0 r := by
    rcases hn with h1 | h1 | ⟨x, h1, h2⟩
    · exact ⟨fun i hi h2 => (by rw [h1] at h2; cases h2), fun i hi => (by rw [h1] at hi; cases hi)⟩
    · exact ⟨fun i hi => by rw [h1]; exact h.s03.1 i hi, fun i hi => by rw [h1] at hi; exact h.s03.2 i hi⟩
    · exact sep_lt (fun i hi => h.t0 i hi) (fun i hi => by rw [h1] at hi; cases hi; exact h2)
  have n1 : SS a1 r := by
    rcases hn with h1 | h1 | ⟨x, h1, h2⟩
    · exact ⟨fun i hi h2 => (by rw [h1] at h2; cases h2), fun i hi => (by rw [h1] at hi; cases hi)⟩
    · exact ⟨fun i hi => by rw [h1]; exact h.s13.1 i hi, fun i hi => by rw [h1] at hi; exact h.s13.2 i hi⟩
    · exact sep_lt (fun i hi => h.t1 i hi) (fun i hi => by rw [h1] at hi; cases hi; exact h2)
  have n2 : SS a2 r := by
    rcases hn with h1 | h1 | ⟨x, h1, h2⟩
    · exact ⟨fun i hi h2 => (by rw [h1] at h2; cases h2), fun i hi => (by rw [h1] at hi; cases hi)⟩
    · exact ⟨fun i hi => by rw [h1]; exact h.s23.1 i hi, fun i hi => by rw [h1] at hi; exact h.s23.2 i hi⟩
    · exact sep_lt (fun i hi => h.t2 i hi) (fun i hi => by rw [h1] at hi; cases hi; exact h2)
  have n4 : SS a4 r := by
    rcases hn with h1 | h1 | ⟨x, h1, h2⟩
    · exact ⟨fun i hi h2 => (by rw [h1] at h2; cases h2), fun i hi => (by rw [h1] at hi; cases hi)⟩
    · exact ⟨fun i hi => by rw [h1]; exact h.s34.2 i hi, fun i hi => by rw [h1] at hi; exact h.s34.1 i hi⟩
    · exact sep_lt (fun i hi => h.t4 i hi) (fun i hi => by rw [h1] at hi; cases hi; exact h2)
  exact ⟨h.h0.keepS ho h.s03.1, h.h1.keepS ho h.s13.1, h.h2.keepS ho h.s23.1, hr, h.h4.keepS ho h.s34.2, h.s01, h.s02, n0, h.s04, h.s12, n1, h.s14, n2, h.s24, ⟨n4.2, n4.1⟩, fun x hx => Nat.lt_of_lt_of_le (h.t0 x hx) hl, fun x hx => Nat.lt_of_lt_of_le (h.t1 x hx) hl, fun x hx => Nat.lt_of_lt_of_le (h.t2 x hx) hl, hr.lt, fun x hx => Nat.lt_of_lt_of_le (h.t4 x hx) hl⟩
theorem Own5.r4 {k : Nat} {H H' : AH} {e : Ep} {a0 a1 a2 a3 a4 r : AV} {xs : List Int} (h : Own5 k H e a0 a1 a2 a3 a4) (ho : Oth H H' (accId a4)) (hr : AccL k H' r xs) (hn : accId r = none ∨ accId r = accId a4 ∨ ∃ x, accId r = some x ∧ H.length ≤ x) : Own5 k H' { e with free := xs } a0 a1 a2 a3 r := by
  have hl := ho.1
  have n0 : SS a0 r := by
    rcases hn with h1 | h1 | ⟨x, h1, h2⟩
    · exact ⟨fun i hi h2 => (by rw [h1] at h2; cases h2), fun i hi => (by rw [h1] at hi; cases hi)⟩
    · exact ⟨fun i hi => by rw [h1]; exact h.s04.1 i hi, fun i hi => by rw [h1] at hi; exact h.s04.2 i hi⟩
    · exact sep_lt (fun i hi => h.t0 i hi) (fun i hi => by rw [h1] at hi; cases hi; exact h2)
  have n1 : SS a1 r := by
    rcases hn with h1 | h1 | ⟨x, h1, h2⟩
    · exact ⟨fun i hi h2 => (by rw [h1] at h2; cases h2), fun i hi => (by rw [h1] at hi; cases hi)⟩
    · exact ⟨fun i hi => by rw [h1]; exact h.s14.1 i hi, fun i hi => by rw [h1] at hi; exact h.s14.2 i hi⟩
    · exact sep_lt (fun i hi => h.t1 i hi) (fun i hi => by rw [h1] at hi; cases hi; exact h2)
  have n2 : SS a2 r := by
    rcases hn with h1 | h1 | ⟨x, h1, h2⟩
    · exact ⟨fun i hi h2 => (by rw [h1] at h2; cases h2), fun i hi => (by rw [h1] at hi; cases hi)⟩
    · exact ⟨fun i hi => by rw [h1]; exact h.s24.1 i hi, fun i hi => by rw [h1] at hi; exact h.s24.2 i hi⟩
    · exact sep_lt (fun i hi => h.t2 i hi) (fun i hi => by rw [h1] at hi; cases hi; exact h2)
  have n3 : SS a3 r := by
    rcases hn with h1 | h1 | ⟨x, h1, h2⟩
    · exact ⟨fun i hi h2 => (by rw [h1] at h2; cases h2), fun i hi => (by rw [h1] at hi; cases hi)⟩
    · exact ⟨fun i hi => by rw [h1]; exact h.s34.1 i hi, fun i hi => by rw [h1] at hi; exact h.s34.2 i hi⟩
    · exact sep_lt (fun i hi => h.t3 i hi) (fun i hi => by rw [h1] at hi; cases hi; exact h2)
  exact ⟨h.h0.keepS ho h.s04.1, h.h1.keepS ho h.s14.1, h.h2.keepS ho h.s24.1, h.h3.keepS ho h.s34.1, hr, h.s01, h.s02, h.s03, n0, h.s12, h.s13, n1, h.s23, n2, n3, fun x hx => Nat.lt_of_lt_of_le (h.t0 x hx) hl, fun x hx => Nat.lt_of_lt_of_le (h.t1 x hx) hl, fun x hx => Nat.lt_of_lt_of_le (h.t2 x hx) hl, fun x hx => Nat.lt_of_lt_of_le (h.t3 x hx) hl, hr.lt⟩
theorem Oth.weak0 {H H' : AH} (h : Oth H H' none) (x : Option Nat) : Oth H H' x := ⟨h.1, fun j hj _ => h.2 j hj (by simp)⟩
theorem acc_or {a r : AV} {n : Nat} (h : ∀ x, accId r = some x → n ≤ x) : accId r = none ∨ accId r = accId a ∨ ∃ x, accId r = some x ∧ n ≤ x := by
  cases hr : accId r with
  | none => exact .inl rfl
  | some x => exact .inr (.inr ⟨x, rfl, h x hr⟩)
theorem AccE.keepO {k0 : Nat} {H H' : AH} {v : AV} {e sz n : Nat} {g : Nat → List AV} {x : Option Nat} (h : AccE k0 H v e sz n g) (ho : Oth H H' x) (hx : ∀ i, accId v = some i → some i ≠ x) : AccE k0 H' v e sz n g := by
  rcases h with h | h
  · refine .inl (h.keep ho ?_)
    cases hv : accId v with
    | none => exact .inl rfl
    | some i => exact .inr (hx i hv)
  · exact .inr h
theorem Own5.keepO {k : Nat} {H H' : AH} {e : Ep} {a0 a1 a2 a3 a4 : AV} {x : Option Nat} (h : Own5 k H e a0 a1 a2 a3 a4) (ho : Oth H H' x) (hx : ∀ a ∈ [a0, a1, a2, a3, a4], ∀ i, accId a = some i → some i ≠ x) : Own5 k H' e a0 a1 a2 a3 a4 :=
  ⟨h.h0.keepO ho (hx _ (by simp)), h.h1.keepO ho (hx _ (by simp)), h.h2.keepO ho (hx _ (by simp)), h.h3.keepO ho (hx _ (by simp)), h.h4.keepO ho (hx _ (by simp)), h.s01, h.s02, h.s03, h.s04, h.s12, h.s13, h.s14, h.s23, h.s24, h.s34, fun x hx => Nat.lt_of_lt_of_le (h.t0 x hx) ho.1, fun x hx => Nat.lt_of_lt_of_le (h.t1 x hx) ho.1, fun x hx => Nat.lt_of_lt_of_le (h.t2 x hx) ho.1, fun x hx => Nat.lt_of_lt_of_le (h.t3 x hx) ho.1, fun x hx => Nat.lt_of_lt_of_le (h.t4 x hx) ho.1⟩
theorem Own5.frz {k : Nat} {H : AH} {e : Ep} {a0 a1 a2 a3 a4 : AV} (h : Own5 k H e a0 a1 a2 a3 a4) : Frz k H (.agg (cells5 e.now a0 a1 a2 a3 a4)) (epv e) :=
  FrzL.agg (.cons (.le (Le.refl _)) (.cons h.h0.frz (.cons h.h1.frz (.cons h.h2.frz (.cons h.h3.frz (.cons h.h4.frz .nil))))))
def ek (e : Ep) : Nat → Ep
  | 0 => { e with l0 := [], l1 := [], l2 := [] }
  | 1 => { e with l1 := [], l2 := [] }
  | 2 => { e with l2 := [] }
  | _ => e
theorem build_ep {d : Nat} {ty : TypeId} {pos : String} {after : Array Edge} {gd : Option (Nat × Bool)} {ρ : Operand → AV} {m : Nat} {x y z : Operand} {n : Int} {a0 a4 : AV} (hx : ρ x = .p (.int .i64 n)) (hy : ρ y = a0) (hz : ρ z = a4) (h0 : acells a0 = some [a0]) (h4 : acells a4 = some [a4]) :
    aop TY false ⟨some d, .build 26 #[(0, x), (1, y), (3, z)], ty, pos, after, gd⟩ ρ m = some (True, .agg (cells5 n a0 (.p (.slice none 0 0)) (.p (.slice none 0 0)) (.p (.slice none 0 0)) a4), none) := by
  show Option.bind (abuild (fun j => ([(0, 1), (1, 1), (2, 3), (5, 1)] : List (Nat × Nat))[j]?) ρ [.p (.int .i64 0), .p (.slice none 0 0), .p (.slice none 0 0), .p (.slice none 0 0), .p (.slice none 0 0), .p (.slice none 0 0)] [(0, x), (1, y), (3, z)]) (fun cs => keep (.agg cs)) = _
  have e0 : acells (ρ x) = some [.p (.int .i64 n)] := by rw [hx]; rfl
  have e1 : acells (ρ y) = some [a0] := by rw [hy]; exact h0
  have e2 : acells (ρ z) = some [a4] := by rw [hz]; exact h4
  simp only [abuild, e0, e1, e2, fl_eq]
  rfl
section
variable {P : Program} {T : TT} {q : Bool} {n k0 : Nat} {ops : Array Oper} {os : List Oper} {K : AF → AH → Prop} {F : AF} {H N : AH} {d : Nat} {ty : TypeId} {pos : String} {after : Array Edge} {gd : Option (Nat × Bool)} {o : Oper} {ρ : Operand → AV}
theorem ao_app0n (hT : TTok P T) {x y : Operand} {t e : TypeId} {ei : TI} (hap : IsAppend T o x y t e ei) (hx : ρ x = .p (.slice none 0 0)) {g : Nat → List AV} (hy : Src H (ρ y) ei.size 0 g) : AO P q k0 o ρ H (fun r H' => r = .p (.slice none 0 0) ∧ H' = H) := by
  intro B U φ V w ρc hq gd hr hf
  obtain ⟨info, z, ht, hi, hzz, hsz, hby, hzs⟩ := hap.types hT
  obtain ⟨ad, c, hv, _⟩ := src_read gd.heap hy (hr y hap.mem.2)
  have hrx := hr x hap.mem.1
  rw [hx] at hrx
  have hxv := hrx.inv_p
  have hrun := run_append_zero (P := P) w t o.type e info ht hi none 0 0 (Nat.le_refl _) ad c
  rw [← hxv, ← hv] at hrun
  rw [hap.run hrun]
  exact ⟨_, U, φ, V, H, ⟨rfl, rfl⟩, gd, hrx, Step.refl ..⟩
theorem rg_app0n (hT : TTok P T) {x y : Operand} {t e : TypeId} {ts : TI} {ei : TI} (hg : gst ops F gd = some true) (hd : dok n (some d) = true) (hts : tget T t = some ts) (htk : ts.kind = .slice e) (hei : tget T e = some ei) (hp : 0 < ei.size) (hx : aev F x = .p (.slice none 0 0)) {g : Nat → List AV} {m : Nat} (hm : m = 0) (hy : Src (H ++ nones N) (aev F y) ei.size m g)
    (hK : RG P n ops H os K ((d, .p (.slice none 0 0)) :: F) N) : RG P n ops H (⟨some d, .call ⟨.builtin .append, #[x, y], #[t, t]⟩, ty, pos, after, gd⟩ :: os) K F N := by
  subst hm
  exact rg_ao (r := .p (.slice none 0 0)) (D := []) hg rfl hd (AO.mono (ao_app0n hT ⟨⟨_, rfl, rfl, rfl, rfl⟩, ⟨ts, hts, htk⟩, hei, hp⟩ hx hy) fun r H' e => ⟨e.1, by rw [e.2, List.append_nil]⟩) (by rw [List.append_nil]; exact hK)
theorem rg_fresh (hT : TTok P T) (hz : TTz T) {x y : Operand} {t e : TypeId} {ts : TI} {ei : TI} (hg : gst ops F gd = some true) (hd : dok n (some d) = true) (hts : tget T t = some ts) (htk : ts.kind = .slice e) (hei : tget T e = some ei) (hp : 0 < ei.size) (hx : aev F x = .p (.slice none 0 0)) {m : Nat} {g : Nat → List AV} (hy : Src (H ++ nones N) (aev F y) ei.size m g)
    (hm : m * ei.bytes ≤ 140737488355328) (hm2 : m ≤ 9223372036854775807) (h0 : 0 < m)
    (hK : RG P n ops H os K ((d, .arr (H.length + N.length) ei.size 0 m) :: F) (N ++ [some ⟨e, ei.size, m, g⟩])) : RG P n ops H (⟨some d, .call ⟨.builtin .append, #[x, y], #[t, t]⟩, ty, pos, after, gd⟩ :: os) K F N :=
  rg_ao (r := .arr (H.length + N.length) ei.size 0 m) (D := [some ⟨e, ei.size, m, g⟩]) hg rfl hd (AO.mono (ao_fresh hT hz ⟨⟨_, rfl, rfl, rfl, rfl⟩, ⟨ts, hts, htk⟩, hei, hp⟩ (.inl hx) hy hm hm2 h0) fun r H' e => ⟨by rw [e.1, nones_len], e.2⟩) hK
theorem rg_fin3 {ops' : Array Oper} {os' : List Oper} {K' : AF → AH → Prop} {b b2 b3 : Blk} (h : ∀ H', H'[H.length]? = some (some b) → H'[H.length + 1]? = some (some b2) → H'[H.length + 2]? = some (some b3) → Oth H H' none → H'.length = H.length + 3 → SQ P q n k0 ops' os' K' F H') : RG P n ops H [] (fun F' N => SQ P q n k0 ops' os' K' F' (H ++ N)) F [some b, some b2, some b3] :=
  h (H ++ [some b, some b2, some b3]) (by simp) (by rw [List.getElem?_append_right (by omega)]; simp) (by rw [List.getElem?_append_right (by omega)]; simp) ⟨by simp, fun j hj _ => by rw [List.getElem?_append_left hj]⟩ (by simp)
end
set_option maxHeartbeats 4000000 in
theorem refown_s (e : Ep) (hbd : Bd e) (H : AH) : SC true Try.prog 30 [epv e] H (fun r H' => Oth H H' none ∧ ∃ a0 a1 a2 a3 a4, r = .agg (cells5 e.now a0 a1 a2 a3 a4) ∧ Own5 H.length H' e a0 a1 a2 a3 a4) := by
  obtain ⟨hb1, hb2⟩ := hbd
  refine sc_in TYok Try.func30 (by kernel_rfl) Try.ntmps30 rfl rfl rfl ?_
  refine aw_seq ?_
  refine aw_region ?_
  refine nw fun H1 hb1 ho1 hl1 => ?_
  refine nw fun H2 hb2 ho2 hl2 => ?_
  refine sq_nil ?_
  have hbx := ho2.get0 hb1
  refine aw_seq ?_
  refine aw_mid [1, 2, 3] (fun s : AV × AV × Nat => [(1, .ref H.length 6 0 0), (2, .ref H1.length 6 0 0), (3, .ref s.2.2 6 0 0)]) (fun s H' => H2.length ≤ s.2.2 ∧ Oth H2 H' none ∧ IsBox H' s.2.2 (cells5 e.now s.1 (.p (.slice none 0 0)) (.p (.slice none 0 0)) (.p (.slice none 0 0)) s.2.1) ∧ AccL H2.length H' s.1 e.pins ∧ AccL H2.length H' s.2.1 e.free ∧ (Sep s.1 s.2.1 ∧ Sep s.2.1 s.1) ∧ (∀ x, accId s.1 = some x → x < s.2.2) ∧ ∀ x, accId s.2.1 = some x → x < s.2.2) ?_ ?_
  · rcases Nat.eq_zero_or_pos e.pins.length with p0 | p0
    · have pe := List.eq_nil_of_length_eq_zero p0
      rcases Nat.eq_zero_or_pos e.free.length with f0 | f0
      · have fe := List.eq_nil_of_length_eq_zero f0
        refine aw_draw 10 rfl (by kernel_rfl) ?_
        (repeat' (first | (refine sq_id ?_; first | refine rg_app0n TYok rfl rfl rfl rfl rfl (by decide) rfl p0 (.lst _ _ _ _) ?_ | refine rg_app0n TYok rfl rfl rfl rfl rfl (by decide) rfl f0 (.lst _ _ _ _) ?_ | refine rg_new TYok TYz false rfl rfl rfl True.intro ?_ | refine sq_nil ?_ | refine sm ?_ | refine sa ?_ | refine ss ?_ | refine st ?_ | refine sf ?_ | refine sp ?_ | refine sq ?_ | refine sl ?_ | refine si ?_ | refine sx ?_ | refine sy ?_) | (refine rg_id ?_; first | refine rg_app0n TYok rfl rfl rfl rfl rfl (by decide) rfl p0 (.lst _ _ _ _) ?_ | refine rg_app0n TYok rfl rfl rfl rfl rfl (by decide) rfl f0 (.lst _ _ _ _) ?_ | refine rg_new TYok TYz false rfl rfl rfl True.intro ?_ | refine rg_fin ?_ | refine rm ?_ | refine ra ?_ | refine rs ?_ | refine rt ?_ | refine rf ?_ | refine rp ?_ | refine rq ?_ | refine rl ?_ | refine ri ?_ | refine rx ?_ | refine ry ?_)))
        refine rg_fin1 fun H3 hb3 ho3 hl3 => ?_
        refine sw hb3 fun H4 hb4 ho4 hl4 => ?_
        refine sq_nil ?_
        exact then_normal ⟨(.p (.slice none 0 0), .p (.slice none 0 0), H2.length), _, by rw [rstf_eq]; rfl, .refl _, Nat.le_refl _, ho3.new ho4 (Nat.le_refl _), ⟨_, hb4, rfl, rfl, rfl, rfl⟩, (by rw [pe]; exact AccE.nil _ _ _ _ _), (by rw [fe]; exact AccE.nil _ _ _ _ _), ⟨fun x h1 h2 => (by cases h1), fun x h1 h2 => (by cases h1)⟩, (fun x hx => by cases hx), (fun x hx => by cases hx)⟩
      ·
        refine aw_draw 10 rfl (by kernel_rfl) ?_
        (repeat' (first | (refine sq_id ?_; first | refine rg_app0n TYok rfl rfl rfl rfl rfl (by decide) rfl p0 (.lst _ _ _ _) ?_ | refine rg_fresh TYok TYz rfl rfl rfl rfl rfl (by decide) rfl (m := e.free.length) (.lst _ _ _ _) (by show e.free.length * 8 ≤ _; omega) (by omega) f0 ?_ | refine rg_new TYok TYz false rfl rfl rfl True.intro ?_ | refine sq_nil ?_ | refine sm ?_ | refine sa ?_ | refine ss ?_ | refine st ?_ | refine sf ?_ | refine sp ?_ | refine sq ?_ | refine sl ?_ | refine si ?_ | refine sx ?_ | refine sy ?_) | (refine rg_id ?_; first | refine rg_app0n TYok rfl rfl rfl rfl rfl (by decide) rfl p0 (.lst _ _ _ _) ?_ | refine rg_fresh TYok TYz rfl rfl rfl rfl rfl (by decide) rfl (m := e.free.length) (.lst _ _ _ _) (by show e.free.length * 8 ≤ _; omega) (by omega) f0 ?_ | refine rg_new TYok TYz false rfl rfl rfl True.intro ?_ | refine rg_fin ?_ | refine rm ?_ | refine ra ?_ | refine rs ?_ | refine rt ?_ | refine rf ?_ | refine rp ?_ | refine rq ?_ | refine rl ?_ | refine ri ?_ | refine rx ?_ | refine ry ?_)))
        refine rg_fin2 fun H3 hm3 hb3 ho3 hl3 => ?_
        refine sw hb3 fun H4 hb4 ho4 hl4 => ?_
        refine sq_nil ?_
        exact then_normal ⟨(.p (.slice none 0 0), .arr H2.length 1 0 e.free.length, (H2.length + 1)), _, by rw [rstf_eq]; rfl, .refl _, Nat.le_add_right _ _, ho3.new ho4 (Nat.le_add_right _ _), ⟨_, hb4, rfl, rfl, rfl, rfl⟩, (by rw [pe]; exact AccE.nil _ _ _ _ _), (.inl (.inr ⟨H2.length, _, Nat.le_refl _, rfl, ho4.get hm3 (by simp), rfl, rfl, rfl, fun _ _ => rfl⟩)), ⟨fun x h1 h2 => (by cases h1), fun x h1 h2 => (by cases h2)⟩, (fun x hx => by cases hx), (fun x hx => by cases hx; dsimp only; omega)⟩
    · rcases Nat.eq_zero_or_pos e.free.length with f0 | f0
      · have fe := List.eq_nil_of_length_eq_zero f0
        refine aw_draw 10 rfl (by kernel_rfl) ?_
        (repeat' (first | (refine sq_id ?_; first | refine rg_fresh TYok TYz rfl rfl rfl rfl rfl (by decide) rfl (m := e.pins.length) (.lst _ _ _ _) (by show e.pins.length * 8 ≤ _; omega) (by omega) p0 ?_ | refine rg_app0n TYok rfl rfl rfl rfl rfl (by decide) rfl f0 (.lst _ _ _ _) ?_ | refine rg_new TYok TYz false rfl rfl rfl True.intro ?_ | refine sq_nil ?_ | refine sm ?_ | refine sa ?_ | refine ss ?_ | refine st ?_ | refine sf ?_ | refine sp ?_ | refine sq ?_ | refine sl ?_ | refine si ?_ | refine sx ?_ | refine sy ?_) | (refine rg_id ?_; first | refine rg_fresh TYok TYz rfl rfl rfl rfl rfl (by decide) rfl (m := e.pins.length) (.lst _ _ _ _) (by show e.pins.length * 8 ≤ _; omega) (by omega) p0 ?_ | refine rg_app0n TYok rfl rfl rfl rfl rfl (by decide) rfl f0 (.lst _ _ _ _) ?_ | refine rg_new TYok TYz false rfl rfl rfl True.intro ?_ | refine rg_fin ?_ | refine rm ?_ | refine ra ?_ | refine rs ?_ | refine rt ?_ | refine rf ?_ | refine rp ?_ | refine rq ?_ | refine rl ?_ | refine ri ?_ | refine rx ?_ | refine ry ?_)))
        refine rg_fin2 fun H3 hm3 hb3 ho3 hl3 => ?_
        refine sw hb3 fun H4 hb4 ho4 hl4 => ?_
        refine sq_nil ?_
        exact then_normal ⟨(.arr H2.length 1 0 e.pins.length, .p (.slice none 0 0), (H2.length + 1)), _, by rw [rstf_eq]; rfl, .refl _, Nat.le_add_right _ _, ho3.new ho4 (Nat.le_add_right _ _), ⟨_, hb4, rfl, rfl, rfl, rfl⟩, (.inl (.inr ⟨H2.length, _, Nat.le_refl _, rfl, ho4.get hm3 (by simp), rfl, rfl, rfl, fun _ _ => rfl⟩)), (by rw [fe]; exact AccE.nil _ _ _ _ _), ⟨fun x h1 h2 => (by cases h2), fun x h1 h2 => (by cases h1)⟩, (fun x hx => by cases hx; dsimp only; omega), (fun x hx => by cases hx)⟩
      ·
        refine aw_draw 10 rfl (by kernel_rfl) ?_
        (repeat' (first | (refine sq_id ?_; first | refine rg_fresh TYok TYz rfl rfl rfl rfl rfl (by decide) rfl (m := e.pins.length) (.lst _ _ _ _) (by show e.pins.length * 8 ≤ _; omega) (by omega) p0 ?_ | refine rg_fresh TYok TYz rfl rfl rfl rfl rfl (by decide) rfl (m := e.free.length) (.lst _ _ _ _) (by show e.free.length * 8 ≤ _; omega) (by omega) f0 ?_ | refine rg_new TYok TYz false rfl rfl rfl True.intro ?_ | refine sq_nil ?_ | refine sm ?_ | refine sa ?_ | refine ss ?_ | refine st ?_ | refine sf ?_ | refine sp ?_ | refine sq ?_ | refine sl ?_ | refine si ?_ | refine sx ?_ | refine sy ?_) | (refine rg_id ?_; first | refine rg_fresh TYok TYz rfl rfl rfl rfl rfl (by decide) rfl (m := e.pins.length) (.lst _ _ _ _) (by show e.pins.length * 8 ≤ _; omega) (by omega) p0 ?_ | refine rg_fresh TYok TYz rfl rfl rfl rfl rfl (by decide) rfl (m := e.free.length) (.lst _ _ _ _) (by show e.free.length * 8 ≤ _; omega) (by omega) f0 ?_ | refine rg_new TYok TYz false rfl rfl rfl True.intro ?_ | refine rg_fin ?_ | refine rm ?_ | refine ra ?_ | refine rs ?_ | refine rt ?_ | refine rf ?_ | refine rp ?_ | refine rq ?_ | refine rl ?_ | refine ri ?_ | refine rx ?_ | refine ry ?_)))
        refine rg_fin3 fun H3 hm3 hk3 hb3 ho3 hl3 => ?_
        refine sw hb3 fun H4 hb4 ho4 hl4 => ?_
        refine sq_nil ?_
        exact then_normal ⟨(.arr H2.length 1 0 e.pins.length, .arr (H2.length + 1) 1 0 e.free.length, (H2.length + 2)), _, by rw [rstf_eq]; rfl, .refl _, Nat.le_add_right _ _, ho3.new ho4 (Nat.le_add_right _ _), ⟨_, hb4, rfl, rfl, rfl, rfl⟩, (.inl (.inr ⟨H2.length, _, Nat.le_refl _, rfl, ho4.get hm3 (by simp), rfl, rfl, rfl, fun _ _ => rfl⟩)), (.inl (.inr ⟨(H2.length + 1), _, by omega, rfl, ho4.get hk3 (by simp), rfl, rfl, rfl, fun _ _ => rfl⟩)), ⟨fun x h1 h2 => (by cases h1; simp [accId] at h2), fun x h1 h2 => (by cases h1; simp [accId] at h2)⟩, (fun x hx => by cases hx; dsimp only; omega), (fun x hx => by cases hx; dsimp only; omega)⟩
  · rintro ⟨a0, a4, id3⟩ H3 ⟨hid, ho3, hbx3, ha0, ha4, ⟨s1, s2⟩, hl0, hl4⟩
    simp only at hid ho3 hbx3 ha0 ha4 s1 s2 hl0 hl4
    have hl3 := ho3.1
    have hbe3 := ho3.get0 hbx
    have hb23 := ho3.get0 hb2
    have hil : id3 < H3.length := by
      obtain ⟨b, hb, _⟩ := hbx3
      exact (List.getElem?_eq_some_iff.1 hb).1
    have nn : ∀ a : AV, SS a (.p (.slice none 0 0)) := fun a => ⟨fun x _ h => (by cases h), fun x h => (by cases h)⟩
    have nn' : ∀ a : AV, SS (.p (.slice none 0 0)) a := fun a => ⟨fun x h => (by cases h), fun x _ h => (by cases h)⟩
    have hw3 : Own5 H.length H3 (ek e 0) a0 (.p (.slice none 0 0)) (.p (.slice none 0 0)) (.p (.slice none 0 0)) a4 :=
      ⟨ha0.down (by omega), AccE.nil _ _ _ _ _, AccE.nil _ _ _ _ _, AccE.nil _ _ _ _ _, ha4.down (by omega), nn _, nn _, nn _, ⟨s1, s2⟩, nn _, nn _, nn' _, nn _, nn' _, nn' _, ha0.lt, fun x h => (by cases h), fun x h => (by cases h), fun x h => (by cases h), ha4.lt⟩
    have hni3 : ∀ a ∈ [a0, .p (.slice none 0 0), .p (.slice none 0 0), .p (.slice none 0 0), a4], ∀ i, accId a = some i → some i ≠ some id3 := fun a ham i hi => by
      simp only [List.mem_cons, List.not_mem_nil, or_false] at ham
      rcases ham with rfl | rfl | rfl | rfl | rfl
      · have := hl0 i hi; simp; omega
      · cases hi
      · cases hi
      · cases hi
      · have := hl4 i hi; simp; omega
    have hri3 : ∀ a ∈ [a0, .p (.slice none 0 0), .p (.slice none 0 0), .p (.slice none 0 0), a4], ∀ i, accId a = some i → some i ≠ some H1.length := fun a ham i hi => by
      simp only [List.mem_cons, List.not_mem_nil, or_false] at ham
      rcases ham with rfl | rfl | rfl | rfl | rfl
      · have := ha0.up i hi; simp; omega
      · cases hi
      · cases hi
      · cases hi
      · have := ha4.up i hi; simp; omega
    (repeat' (first | (refine sq_id ?_; first | refine sq_nil ?_ | refine sm ?_ | refine sa ?_ | refine ss ?_ | refine st ?_ | refine sf ?_ | refine sp ?_ | refine sq ?_ | refine sl ?_ | refine si ?_ | refine sx ?_ | refine sy ?_) | (refine rg_id ?_; first | refine rg_fin ?_ | refine rm ?_ | refine ra ?_ | refine rs ?_ | refine rt ?_ | refine rf ?_ | refine rp ?_ | refine rq ?_ | refine rl ?_ | refine ri ?_ | refine rx ?_ | refine ry ?_) | refine aw_rseq ?_ | refine aw_seq ?_ | refine aw_region ?_ | refine aw_skip ?_ | refine ct ?_ | refine cf ?_ | refine d0s ?_ | refine d0r ?_ | refine aw_block ?_ | refine aw_exit ?_ | refine then_ret ?_ | refine then_exit ?_ | refine then_normal ?_ | refine blk_ret ?_ | refine blk_normal ?_ | refine blk_exit ?_ | refine blk_pass rfl ?_))
    refine aw_for [1, 2, 3, 4] (fun s : Nat × AV × AV × AV => [(1, .ref H.length 6 0 0), (2, .ref H1.length 6 0 0), (3, .ref id3 6 0 0), (4, .i s.1)])
      (fun s H' => s.1 ≤ 3 ∧ Oth H H' none ∧ H'[H.length]? = some (some (ebk (epc e))) ∧ H'[H1.length]? = H2[H1.length]? ∧ IsBox H' id3 (cells5 e.now a0 s.2.1 s.2.2.1 s.2.2.2 a4) ∧ Own5 H.length H' (ek e s.1) a0 s.2.1 s.2.2.1 s.2.2.2 a4 ∧ (∀ a ∈ [a0, s.2.1, s.2.2.1, s.2.2.2, a4], ∀ i, accId a = some i → some i ≠ some id3) ∧ ∀ a ∈ [a0, s.2.1, s.2.2.1, s.2.2.2, a4], ∀ i, accId a = some i → some i ≠ some H1.length) (fun s => 3 - s.1) (0, .p (.slice none 0 0), .p (.slice none 0 0), .p (.slice none 0 0)) (by rw [rstf_eq]; rfl)
      ⟨by simp, (ho1.trans0 ho2).trans0 ho3, hbe3, ho3.2 _ (by omega) (by simp), hbx3, hw3, hni3, hri3⟩ ?_
    rintro ⟨k, a1, a2, a3⟩ H5 ⟨hk, hoH, hbe, hre, hbx5, hw, hni, hri⟩
    simp only at hk hoH hbe hre hbx5 hw hni hri
    have hb25 := hre.trans hb2
    have hlH := hoH.1
    have hil5 : id3 < H5.length := by
      obtain ⟨b, hb, _⟩ := hbx5
      exact (List.getElem?_eq_some_iff.1 hb).1
    rcases (by omega : k = 0 ∨ k = 1 ∨ k = 2 ∨ k = 3) with rfl | rfl | rfl | rfl
    · obtain ⟨b, hb, e1, e2, e3, e4⟩ := hbx5
      (repeat' (first | (refine sq_id ?_; first | refine sq_nil ?_ | refine sm ?_ | refine sa ?_ | refine ss ?_ | refine st ?_ | refine sf ?_ | refine sp ?_ | refine sq ?_ | refine sl ?_ | refine si ?_ | refine sx ?_ | refine sy ?_) | (refine rg_id ?_; first | refine rg_fin ?_ | refine rm ?_ | refine ra ?_ | refine rs ?_ | refine rt ?_ | refine rf ?_ | refine rp ?_ | refine rq ?_ | refine rl ?_ | refine ri ?_ | refine rx ?_ | refine ry ?_) | refine aw_rseq ?_ | refine aw_seq ?_ | refine aw_region ?_ | refine aw_skip ?_ | refine ct ?_ | refine cf ?_ | refine d0s ?_ | refine d0r ?_ | refine aw_block ?_ | refine aw_exit ?_ | refine then_ret ?_ | refine then_exit ?_ | refine then_normal ?_ | refine blk_ret ?_ | refine blk_normal ?_ | refine blk_exit ?_ | refine blk_pass rfl ?_))
      refine sq_appe TYok TYz rfl rfl rfl rfl rfl rfl rfl (by decide) (AccE.nil 0 _ _ _ fun _ => []) (.lst _ _ _ _) (by show (0 + e.l0.length) * 8 ≤ _; omega) (by show 0 + e.l0.length ≤ _; omega) fun r H6 ha6 ho6 hn6 => ?_
      have ho6 : Oth H5 H6 none := ho6
      have hl6 := ho6.1
      have hr6 : ∀ x, accId r = some x → H5.length ≤ x := fun x hx => by
        rcases hn6 with h | ⟨y, h, h2⟩
        · rw [h] at hx; cases hx
        · rw [h] at hx; cases hx; exact h2
      have har : AccL H.length H6 r e.l0 := AccE.own (AccE.app (a := []) ha6) fun x hx => by have := hr6 x hx; omega
      (repeat' (first | (refine sq_id ?_; first | refine sq_nil ?_ | refine sm ?_ | refine sa ?_ | refine ss ?_ | refine st ?_ | refine sf ?_ | refine sp ?_ | refine sq ?_ | refine sl ?_ | refine si ?_ | refine sx ?_ | refine sy ?_ | refine sq_movek (v := r) rfl rfl rfl ?_ | refine sq_assignk (v := r) rfl rfl rfl ?_ | refine rg_movek (v := r) rfl rfl rfl ?_ | refine rg_assignk (v := r) rfl rfl rfl ?_) | (refine rg_id ?_; first | refine rg_fin ?_ | refine rm ?_ | refine ra ?_ | refine rs ?_ | refine rt ?_ | refine rf ?_ | refine rp ?_ | refine rq ?_ | refine rl ?_ | refine ri ?_ | refine rx ?_ | refine ry ?_ | refine sq_movek (v := r) rfl rfl rfl ?_ | refine sq_assignk (v := r) rfl rfl rfl ?_ | refine rg_movek (v := r) rfl rfl rfl ?_ | refine rg_assignk (v := r) rfl rfl rfl ?_) | refine aw_rseq ?_ | refine aw_seq ?_ | refine aw_region ?_ | refine aw_skip ?_ | refine ct ?_ | refine cf ?_ | refine d0s ?_ | refine d0r ?_ | refine aw_block ?_ | refine aw_exit ?_ | refine then_ret ?_ | refine then_exit ?_ | refine then_normal ?_ | refine blk_ret ?_ | refine blk_normal ?_ | refine blk_exit ?_ | refine blk_pass rfl ?_ | refine sq_movek (v := r) rfl rfl rfl ?_ | refine sq_assignk (v := r) rfl rfl rfl ?_ | refine rg_movek (v := r) rfl rfl rfl ?_ | refine rg_assignk (v := r) rfl rfl rfl ?_))
      refine sq_storek TYok rfl rfl rfl (ho6.get0 hb) e2 (by omega) rfl har.cells rfl (by rw [← e2]; exact Nat.le_of_ble_eq_true (by rw [e2]; rfl)) fun H7 hb7 ho7 hl7 => ?_
      have hw6 := hw.r1 (H' := H6) (r := r) (xs := e.l0) (ho6.weak0 _) har (acc_or hr6)
      have hid6 : ∀ a ∈ [a0, r, a2, a3, a4], ∀ i, accId a = some i → some i ≠ some id3 := fun a ham i hi => by
        simp only [List.mem_cons, List.not_mem_nil, or_false] at ham
        rcases ham with rfl | rfl | rfl | rfl | rfl
        · exact hni _ (by simp) i hi
        · have := hr6 i hi; simp; omega
        · exact hni _ (by simp) i hi
        · exact hni _ (by simp) i hi
        · exact hni _ (by simp) i hi
      have hir6 : ∀ a ∈ [a0, r, a2, a3, a4], ∀ i, accId a = some i → some i ≠ some H1.length := fun a ham i hi => by
        simp only [List.mem_cons, List.not_mem_nil, or_false] at ham
        rcases ham with rfl | rfl | rfl | rfl | rfl
        · exact hri _ (by simp) i hi
        · have := hr6 i hi; simp; omega
        · exact hri _ (by simp) i hi
        · exact hri _ (by simp) i hi
        · exact hri _ (by simp) i hi
      (repeat' (first | (refine sq_id ?_; first | refine sq_nil ?_ | refine sm ?_ | refine sa ?_ | refine ss ?_ | refine st ?_ | refine sf ?_ | refine sp ?_ | refine sq ?_ | refine sl ?_ | refine si ?_ | refine sx ?_ | refine sy ?_) | (refine rg_id ?_; first | refine rg_fin ?_ | refine rm ?_ | refine ra ?_ | refine rs ?_ | refine rt ?_ | refine rf ?_ | refine rp ?_ | refine rq ?_ | refine rl ?_ | refine ri ?_ | refine rx ?_ | refine ry ?_) | refine aw_rseq ?_ | refine aw_seq ?_ | refine aw_region ?_ | refine aw_skip ?_ | refine ct ?_ | refine cf ?_ | refine d0s ?_ | refine d0r ?_ | refine aw_block ?_ | refine aw_exit ?_ | refine then_ret ?_ | refine then_exit ?_ | refine then_normal ?_ | refine blk_ret ?_ | refine blk_normal ?_ | refine blk_exit ?_ | refine blk_pass rfl ?_))
      refine ⟨(1, r, a2, a3), by rw [rstf_eq]; rfl, ⟨by simp, (hoH.trans0 ho6).new ho7 (by omega), ho7.get (ho6.get0 hbe) (by simp; omega), (ho7.2 _ (by have := (List.getElem?_eq_some_iff.1 hb25).1; omega) (by simp; omega)).trans ((ho6.2 _ (List.getElem?_eq_some_iff.1 hb25).1 (by simp)).trans hre), ⟨_, hb7, e1, e2, e3, ?_⟩, hw6.keepO ho7 hid6, hid6, hir6⟩, by simp⟩
      show splice (b.g 0) _ [r] = _
      rw [e4]; rfl
    · obtain ⟨b, hb, e1, e2, e3, e4⟩ := hbx5
      (repeat' (first | (refine sq_id ?_; first | refine sq_nil ?_ | refine sm ?_ | refine sa ?_ | refine ss ?_ | refine st ?_ | refine sf ?_ | refine sp ?_ | refine sq ?_ | refine sl ?_ | refine si ?_ | refine sx ?_ | refine sy ?_) | (refine rg_id ?_; first | refine rg_fin ?_ | refine rm ?_ | refine ra ?_ | refine rs ?_ | refine rt ?_ | refine rf ?_ | refine rp ?_ | refine rq ?_ | refine rl ?_ | refine ri ?_ | refine rx ?_ | refine ry ?_) | refine aw_rseq ?_ | refine aw_seq ?_ | refine aw_region ?_ | refine aw_skip ?_ | refine ct ?_ | refine cf ?_ | refine d0s ?_ | refine d0r ?_ | refine aw_block ?_ | refine aw_exit ?_ | refine then_ret ?_ | refine then_exit ?_ | refine then_normal ?_ | refine blk_ret ?_ | refine blk_normal ?_ | refine blk_exit ?_ | refine blk_pass rfl ?_))
      refine sq_appe TYok TYz rfl rfl rfl rfl rfl rfl rfl (by decide) (AccE.nil 0 _ _ _ fun _ => []) (.lst _ _ _ _) (by show (0 + e.l1.length) * 8 ≤ _; omega) (by show 0 + e.l1.length ≤ _; omega) fun r H6 ha6 ho6 hn6 => ?_
      have ho6 : Oth H5 H6 none := ho6
      have hl6 := ho6.1
      have hr6 : ∀ x, accId r = some x → H5.length ≤ x := fun x hx => by
        rcases hn6 with h | ⟨y, h, h2⟩
        · rw [h] at hx; cases hx
        · rw [h] at hx; cases hx; exact h2
      have har : AccL H.length H6 r e.l1 := AccE.own (AccE.app (a := []) ha6) fun x hx => by have := hr6 x hx; omega
      (repeat' (first | (refine sq_id ?_; first | refine sq_nil ?_ | refine sm ?_ | refine sa ?_ | refine ss ?_ | refine st ?_ | refine sf ?_ | refine sp ?_ | refine sq ?_ | refine sl ?_ | refine si ?_ | refine sx ?_ | refine sy ?_ | refine sq_movek (v := r) rfl rfl rfl ?_ | refine sq_assignk (v := r) rfl rfl rfl ?_ | refine rg_movek (v := r) rfl rfl rfl ?_ | refine rg_assignk (v := r) rfl rfl rfl ?_) | (refine rg_id ?_; first | refine rg_fin ?_ | refine rm ?_ | refine ra ?_ | refine rs ?_ | refine rt ?_ | refine rf ?_ | refine rp ?_ | refine rq ?_ | refine rl ?_ | refine ri ?_ | refine rx ?_ | refine ry ?_ | refine sq_movek (v := r) rfl rfl rfl ?_ | refine sq_assignk (v := r) rfl rfl rfl ?_ | refine rg_movek (v := r) rfl rfl rfl ?_ | refine rg_assignk (v := r) rfl rfl rfl ?_) | refine aw_rseq ?_ | refine aw_seq ?_ | refine aw_region ?_ | refine aw_skip ?_ | refine ct ?_ | refine cf ?_ | refine d0s ?_ | refine d0r ?_ | refine aw_block ?_ | refine aw_exit ?_ | refine then_ret ?_ | refine then_exit ?_ | refine then_normal ?_ | refine blk_ret ?_ | refine blk_normal ?_ | refine blk_exit ?_ | refine blk_pass rfl ?_ | refine sq_movek (v := r) rfl rfl rfl ?_ | refine sq_assignk (v := r) rfl rfl rfl ?_ | refine rg_movek (v := r) rfl rfl rfl ?_ | refine rg_assignk (v := r) rfl rfl rfl ?_))
      refine sq_storek TYok rfl rfl rfl (ho6.get0 hb) e2 (by omega) rfl har.cells rfl (by rw [← e2]; exact Nat.le_of_ble_eq_true (by rw [e2]; rfl)) fun H7 hb7 ho7 hl7 => ?_
      have hw6 := hw.r2 (H' := H6) (r := r) (xs := e.l1) (ho6.weak0 _) har (acc_or hr6)
      have hid6 : ∀ a ∈ [a0, a1, r, a3, a4], ∀ i, accId a = some i → some i ≠ some id3 := fun a ham i hi => by
        simp only [List.mem_cons, List.not_mem_nil, or_false] at ham
        rcases ham with rfl | rfl | rfl | rfl | rfl
        · exact hni _ (by simp) i hi
        · exact hni _ (by simp) i hi
        · have := hr6 i hi; simp; omega
        · exact hni _ (by simp) i hi
        · exact hni _ (by simp) i hi
      have hir6 : ∀ a ∈ [a0, a1, r, a3, a4], ∀ i, accId a = some i → some i ≠ some H1.length := fun a ham i hi => by
        simp only [List.mem_cons, List.not_mem_nil, or_false] at ham
        rcases ham with rfl | rfl | rfl | rfl | rfl
        · exact hri _ (by simp) i hi
        · exact hri _ (by simp) i hi
        · have := hr6 i hi; simp; omega
        · exact hri _ (by simp) i hi
        · exact hri _ (by simp) i hi
      (repeat' (first | (refine sq_id ?_; first | refine sq_nil ?_ | refine sm ?_ | refine sa ?_ | refine ss ?_ | refine st ?_ | refine sf ?_ | refine sp ?_ | refine sq ?_ | refine sl ?_ | refine si ?_ | refine sx ?_ | refine sy ?_) | (refine rg_id ?_; first | refine rg_fin ?_ | refine rm ?_ | refine ra ?_ | refine rs ?_ | refine rt ?_ | refine rf ?_ | refine rp ?_ | refine rq ?_ | refine rl ?_ | refine ri ?_ | refine rx ?_ | refine ry ?_) | refine aw_rseq ?_ | refine aw_seq ?_ | refine aw_region ?_ | refine aw_skip ?_ | refine ct ?_ | refine cf ?_ | refine d0s ?_ | refine d0r ?_ | refine aw_block ?_ | refine aw_exit ?_ | refine then_ret ?_ | refine then_exit ?_ | refine then_normal ?_ | refine blk_ret ?_ | refine blk_normal ?_ | refine blk_exit ?_ | refine blk_pass rfl ?_))
      refine ⟨(2, a1, r, a3), by rw [rstf_eq]; rfl, ⟨by simp, (hoH.trans0 ho6).new ho7 (by omega), ho7.get (ho6.get0 hbe) (by simp; omega), (ho7.2 _ (by have := (List.getElem?_eq_some_iff.1 hb25).1; omega) (by simp; omega)).trans ((ho6.2 _ (List.getElem?_eq_some_iff.1 hb25).1 (by simp)).trans hre), ⟨_, hb7, e1, e2, e3, ?_⟩, hw6.keepO ho7 hid6, hid6, hir6⟩, by simp⟩
      show splice (b.g 0) _ [r] = _
      rw [e4]; rfl
    · obtain ⟨b, hb, e1, e2, e3, e4⟩ := hbx5
      (repeat' (first | (refine sq_id ?_; first | refine sq_nil ?_ | refine sm ?_ | refine sa ?_ | refine ss ?_ | refine st ?_ | refine sf ?_ | refine sp ?_ | refine sq ?_ | refine sl ?_ | refine si ?_ | refine sx ?_ | refine sy ?_) | (refine rg_id ?_; first | refine rg_fin ?_ | refine rm ?_ | refine ra ?_ | refine rs ?_ | refine rt ?_ | refine rf ?_ | refine rp ?_ | refine rq ?_ | refine rl ?_ | refine ri ?_ | refine rx ?_ | refine ry ?_) | refine aw_rseq ?_ | refine aw_seq ?_ | refine aw_region ?_ | refine aw_skip ?_ | refine ct ?_ | refine cf ?_ | refine d0s ?_ | refine d0r ?_ | refine aw_block ?_ | refine aw_exit ?_ | refine then_ret ?_ | refine then_exit ?_ | refine then_normal ?_ | refine blk_ret ?_ | refine blk_normal ?_ | refine blk_exit ?_ | refine blk_pass rfl ?_))
      refine sq_appe TYok TYz rfl rfl rfl rfl rfl rfl rfl (by decide) (AccE.nil 0 _ _ _ fun _ => []) (.lst _ _ _ _) (by show (0 + e.l2.length) * 8 ≤ _; omega) (by show 0 + e.l2.length ≤ _; omega) fun r H6 ha6 ho6 hn6 => ?_
      have ho6 : Oth H5 H6 none := ho6
      have hl6 := ho6.1
      have hr6 : ∀ x, accId r = some x → H5.length ≤ x := fun x hx => by
        rcases hn6 with h | ⟨y, h, h2⟩
        · rw [h] at hx; cases hx
        · rw [h] at hx; cases hx; exact h2
      have har : AccL H.length H6 r e.l2 := AccE.own (AccE.app (a := []) ha6) fun x hx => by have := hr6 x hx; omega
      (repeat' (first | (refine sq_id ?_; first | refine sq_nil ?_ | refine sm ?_ | refine sa ?_ | refine ss ?_ | refine st ?_ | refine sf ?_ | refine sp ?_ | refine sq ?_ | refine sl ?_ | refine si ?_ | refine sx ?_ | refine sy ?_ | refine sq_movek (v := r) rfl rfl rfl ?_ | refine sq_assignk (v := r) rfl rfl rfl ?_ | refine rg_movek (v := r) rfl rfl rfl ?_ | refine rg_assignk (v := r) rfl rfl rfl ?_) | (refine rg_id ?_; first | refine rg_fin ?_ | refine rm ?_ | refine ra ?_ | refine rs ?_ | refine rt ?_ | refine rf ?_ | refine rp ?_ | refine rq ?_ | refine rl ?_ | refine ri ?_ | refine rx ?_ | refine ry ?_ | refine sq_movek (v := r) rfl rfl rfl ?_ | refine sq_assignk (v := r) rfl rfl rfl ?_ | refine rg_movek (v := r) rfl rfl rfl ?_ | refine rg_assignk (v := r) rfl rfl rfl ?_) | refine aw_rseq ?_ | refine aw_seq ?_ | refine aw_region ?_ | refine aw_skip ?_ | refine ct ?_ | refine cf ?_ | refine d0s ?_ | refine d0r ?_ | refine aw_block ?_ | refine aw_exit ?_ | refine then_ret ?_ | refine then_exit ?_ | refine then_normal ?_ | refine blk_ret ?_ | refine blk_normal ?_ | refine blk_exit ?_ | refine blk_pass rfl ?_ | refine sq_movek (v := r) rfl rfl rfl ?_ | refine sq_assignk (v := r) rfl rfl rfl ?_ | refine rg_movek (v := r) rfl rfl rfl ?_ | refine rg_assignk (v := r) rfl rfl rfl ?_))
      refine sq_storek TYok rfl rfl rfl (ho6.get0 hb) e2 (by omega) rfl har.cells rfl (by rw [← e2]; exact Nat.le_of_ble_eq_true (by rw [e2]; rfl)) fun H7 hb7 ho7 hl7 => ?_
      have hw6 := hw.r3 (H' := H6) (r := r) (xs := e.l2) (ho6.weak0 _) har (acc_or hr6)
      have hid6 : ∀ a ∈ [a0, a1, a2, r, a4], ∀ i, accId a = some i → some i ≠ some id3 := fun a ham i hi => by
        simp only [List.mem_cons, List.not_mem_nil, or_false] at ham
        rcases ham with rfl | rfl | rfl | rfl | rfl
        · exact hni _ (by simp) i hi
        · exact hni _ (by simp) i hi
        · exact hni _ (by simp) i hi
        · have := hr6 i hi; simp; omega
        · exact hni _ (by simp) i hi
      have hir6 : ∀ a ∈ [a0, a1, a2, r, a4], ∀ i, accId a = some i → some i ≠ some H1.length := fun a ham i hi => by
        simp only [List.mem_cons, List.not_mem_nil, or_false] at ham
        rcases ham with rfl | rfl | rfl | rfl | rfl
        · exact hri _ (by simp) i hi
        · exact hri _ (by simp) i hi
        · exact hri _ (by simp) i hi
        · have := hr6 i hi; simp; omega
        · exact hri _ (by simp) i hi
      (repeat' (first | (refine sq_id ?_; first | refine sq_nil ?_ | refine sm ?_ | refine sa ?_ | refine ss ?_ | refine st ?_ | refine sf ?_ | refine sp ?_ | refine sq ?_ | refine sl ?_ | refine si ?_ | refine sx ?_ | refine sy ?_) | (refine rg_id ?_; first | refine rg_fin ?_ | refine rm ?_ | refine ra ?_ | refine rs ?_ | refine rt ?_ | refine rf ?_ | refine rp ?_ | refine rq ?_ | refine rl ?_ | refine ri ?_ | refine rx ?_ | refine ry ?_) | refine aw_rseq ?_ | refine aw_seq ?_ | refine aw_region ?_ | refine aw_skip ?_ | refine ct ?_ | refine cf ?_ | refine d0s ?_ | refine d0r ?_ | refine aw_block ?_ | refine aw_exit ?_ | refine then_ret ?_ | refine then_exit ?_ | refine then_normal ?_ | refine blk_ret ?_ | refine blk_normal ?_ | refine blk_exit ?_ | refine blk_pass rfl ?_))
      refine ⟨(3, a1, a2, r), by rw [rstf_eq]; rfl, ⟨by simp, (hoH.trans0 ho6).new ho7 (by omega), ho7.get (ho6.get0 hbe) (by simp; omega), (ho7.2 _ (by have := (List.getElem?_eq_some_iff.1 hb25).1; omega) (by simp; omega)).trans ((ho6.2 _ (List.getElem?_eq_some_iff.1 hb25).1 (by simp)).trans hre), ⟨_, hb7, e1, e2, e3, ?_⟩, hw6.keepO ho7 hid6, hid6, hir6⟩, by simp⟩
      show splice (b.g 0) _ [r] = _
      rw [e4]; rfl
    · obtain ⟨b, hb, e1, e2, e3, e4⟩ := hbx5
      (repeat' (first | (refine sq_id ?_; first | refine sq_nil ?_ | refine sm ?_ | refine sa ?_ | refine ss ?_ | refine st ?_ | refine sf ?_ | refine sp ?_ | refine sq ?_ | refine sl ?_ | refine si ?_ | refine sx ?_ | refine sy ?_) | (refine rg_id ?_; first | refine rg_fin ?_ | refine rm ?_ | refine ra ?_ | refine rs ?_ | refine rt ?_ | refine rf ?_ | refine rp ?_ | refine rq ?_ | refine rl ?_ | refine ri ?_ | refine rx ?_ | refine ry ?_) | refine aw_rseq ?_ | refine aw_seq ?_ | refine aw_region ?_ | refine aw_skip ?_ | refine ct ?_ | refine cf ?_ | refine d0s ?_ | refine d0r ?_ | refine aw_block ?_ | refine aw_exit ?_ | refine then_ret ?_ | refine then_exit ?_ | refine then_normal ?_ | refine blk_ret ?_ | refine blk_normal ?_ | refine blk_exit ?_ | refine blk_pass rfl ?_))
      refine sq_load (v := .agg (cells5 e.now a0 a1 a2 a3 a4)) TYok rfl rfl rfl hb e2 (by omega) (by rw [e4]; exact apart_ep _ rfl) ?_
      refine sq_storek TYok rfl rfl rfl hb25 rfl Nat.zero_lt_one rfl rfl rfl (Nat.le_of_ble_eq_true rfl) fun H7 hb7 ho7 hl7 => ?_
      (repeat' (first | (refine sq_id ?_; first | refine sq_nil ?_ | refine sm ?_ | refine sa ?_ | refine ss ?_ | refine st ?_ | refine sf ?_ | refine sp ?_ | refine sq ?_ | refine sl ?_ | refine si ?_ | refine sx ?_ | refine sy ?_) | (refine rg_id ?_; first | refine rg_fin ?_ | refine rm ?_ | refine ra ?_ | refine rs ?_ | refine rt ?_ | refine rf ?_ | refine rp ?_ | refine rq ?_ | refine rl ?_ | refine ri ?_ | refine rx ?_ | refine ry ?_) | refine aw_rseq ?_ | refine aw_seq ?_ | refine aw_region ?_ | refine aw_skip ?_ | refine ct ?_ | refine cf ?_ | refine d0s ?_ | refine d0r ?_ | refine aw_block ?_ | refine aw_exit ?_ | refine then_ret ?_ | refine then_exit ?_ | refine then_normal ?_ | refine blk_ret ?_ | refine blk_normal ?_ | refine blk_exit ?_ | refine blk_pass rfl ?_ | refine aw_dec rfl (fun _ => ?_) (fun _ => ?_)))
      ((try refine aw_ret ?_); (repeat (first | refine then_ret ?_ | refine blk_ret ?_)))
      exact ⟨True.intro, _, .cell _ _ _ _ _ _ _ _ _ rfl hb7 rfl Nat.zero_lt_one (by show apart TY _ (splice _ 0 (cells5 e.now a0 a1 a2 a3 a4)) = _; rw [splice_all (by rfl)]; exact apart_ep _ rfl) .nil, hoH.new ho7 (by omega), a0, a1, a2, a3, a4, rfl, hw.keepO ho7 hri⟩
end Go.Proofs.Ytmhepmocnnlhnaa.Ab
