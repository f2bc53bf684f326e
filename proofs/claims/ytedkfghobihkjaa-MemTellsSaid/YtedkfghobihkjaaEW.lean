/- Where two ways of a test meet again; slices' sizes. -/
import Derived.Test.YtedkfghobihkjaaET
import Derived.SizedLaws
namespace Go.Proofs.Ytedkfghobihkjaa.Ab
open Go Go.ChangeShapes Go.WideShapes Go.ChangeAt Go.RowKit
section
variable {P : Program} {q : Bool} {n k0 : Nat} {Q : AQ} {F : AF} {H : AH} {c y : Code}
theorem aw_mono {Q' : AQ} (h : AW P q n k0 c Q' F H) (k : ∀ x F H, Q' x F H → Q x F H) : AW P q n k0 c Q F H := by
  intro B U φ V w a hb r
  refine wp_mono (h B U φ V w a hb r) fun e a' w' hl => ?_
  obtain ⟨x, F', H', U', φ', V', h1, h2, h3, h4⟩ := hl
  exact ⟨x, F', H', U', φ', V', h1, k _ _ _ h2, h3, h4⟩
inductive LeF : AF → AF → Prop
  | nil : LeF [] []
  | cons {t : Nat} {a b : AV} {F F' : AF} : Le a b → LeF F F' → LeF ((t, a) :: F) ((t, b) :: F')
theorem LeF.refl : ∀ F : AF, LeF F F
  | [] => .nil
  | (_, a) :: F => .cons (.refl a) (LeF.refl F)
theorem LeF.get {F F' : AF} (h : LeF F F') (t : Nat) : Le (aget F t) (aget F' t) := by
  induction h with
  | nil => exact .refl _
  | cons h1 _ ih =>
    rw [aget_cons, aget_cons]
    split
    · exact h1
    · exact ih
/-- what comes behind is walked once -/
theorem aw_mid {α : Type} (slots : List Nat) (St : α → AF) (Inv : α → AH → Prop) (h : AW P q n k0 c (AX.then (fun F' H' => ∃ a F1, rstf F' slots = some F1 ∧ LeF F1 (St a) ∧ Inv a H') Q) F H)
    (k : ∀ a H', Inv a H' → AW P q n k0 y Q (St a) H') : AW P q n k0 c (AX.then (AW P q n k0 y Q) Q) F H :=
  aw_mono h fun x F H hq => by
    cases x
    · obtain ⟨a, F1, hF, hl, hI⟩ := hq
      exact aw_rst slots hF (aw_le hl.get (k a H hI))
    · exact hq
    · exact hq
end
theorem sized_len {P : Program} {H : Type} {enc : TypeId × Value → H} {ts : List TypeId} {ds : List (DataW H)} (h : (DataW.weightsEach P ts ds).all (· ≤ reachBytes) = true) {j : Nat} {t e : TypeId} {w : World} {v : Value} {d : DataW H} {p : List MemPlace} {φ : Pl} {sz n : Nat} {g : Nat → List AV}
    (ht : ts[j]? = some t) (hd : ds[j]? = some d) (hu : P.underlying t = some (.slice e)) (hT : DataW.Trod enc P w 0 (fun _ => true) true t v d p) (hv : VRel (fun _ => False) φ (fun b => b < w.heap.size) w (.lst false sz n g) v) (bt : Nat) (hb : P.bytesOf e = bt) : n * bt ≤ 140737488351232 := by
  obtain ⟨a0, c0, rfl, _⟩ := hv.inv_lst
  obtain ⟨fuel, hf⟩ := hT
  rcases DataW.trod_slice hu hf with ⟨hc, _⟩ | ⟨a, len, cap, elems, rest, m, _, hc, hx, _, _, _, hlen, _⟩
  · simp [Value.cells] at hc
    obtain ⟨_, rfl, _⟩ := hc
    simp
  · simp [Value.cells] at hc
    obtain ⟨_, rfl, _⟩ := hc
    simp only [Prod.mk.injEq] at hx
    obtain ⟨rfl, _⟩ := hx
    have := sized_slice h ht hd hu
    rw [hb, List.length_map, hlen] at this
    have hr : reachBytes = 140737488351232 := by decide
    rw [hr] at this
    have h2 : n * bt ≤ (n + (rest.map (·.1)).length) * bt := Nat.mul_le_mul_right _ (Nat.le_add_right _ _)
    omega
end Go.Proofs.Ytedkfghobihkjaa.Ab
