/- Arguments opened; a law's end. -/
import Derived.Test.YtphjglbbhanmpaaEV
import Derived.Test.YtphjglbbhanmpaaRows
import Derived.ProofKit
import Derived.OpenShut
import Derived.ShutString
import Derived.ChangeOld
import Derived.ChangeSlices
namespace Go.Proofs.Ytphjglbbhanmpaa.Ab
open Go Go.ChangeShapes Go.WideShapes Go.ChangeAt Go.RowKit

def I64 (x : Int) : Prop := -9223372036854775808 ≤ x ∧ x ≤ 9223372036854775807
theorem i64_of {x : Int} (h : (Lit.int .i64 x).wf = true) : I64 x := by
  simp [Lit.wf, IntKind.min, IntKind.max, IntKind.signed, IntKind.bits] at h
  unfold I64; omega
/-- no name is known; the blocks of the world never change -/
abbrev VR0 (φ : Pl) (w : World) (bs : List AV) (cs : List Value) : Prop := VRels (fun _ => False) φ (fun b => b < w.heap.size) w bs cs
/-- what a tree of this type stands for -/
def OpR (P : Program) (t : TypeId) (sz : Nat) (R : List AV → Prop) : Prop :=
  P.cellsOf t = sz ∧ ∀ (H : Type) (enc : TypeId × Value → H) (w : World) (fuel : Nat) (cs : List Value) (x : DataW H × List MemPlace) (φ : Pl),
    DataW.trod enc P w 0 (fun _ => true) true fuel t cs = some x → ∃ bs, R bs ∧ bs.length = sz ∧ VR0 φ w bs cs ∧ ∀ u ∈ cs, u.oneCell' = true
theorem VRels.len {U : Nat → Prop} {φ : Pl} {V : Nat → Prop} {w : World} {bs : List AV} {cs : List Value} (h : VRels U φ V w bs cs) : cs.length = bs.length := h.1
section
variable {P : Program} {t e : TypeId}
theorem op_i64 (ht : P.underlying t = some (.int .i64)) (hc : P.cellsOf t = 1) : OpR P t 1 (fun bs => ∃ n, bs = [.i n] ∧ I64 n) := by
  refine ⟨hc, fun H enc w fuel cs x φ h => ?_⟩
  obtain ⟨n, rfl, _, hw⟩ := DataW.trod_int ht h
  exact ⟨_, ⟨n, rfl, i64_of hw⟩, rfl, .mk1 (.p _), by simp [Value.oneCell']⟩
theorem op_slice {sz : Nat} {R : List AV → Prop} (ht : P.underlying t = some (.slice e)) (hc : P.cellsOf t = 1) (he : OpR P e sz R) (h0 : 0 < sz) :
    OpR P t 1 (fun bs => ∃ n g, bs = [.lst false sz n g] ∧ n ≤ maxLen ∧ ∀ i, i < n → R (g i)) := by
  refine ⟨hc, fun H enc w fuel cs x φ h => ?_⟩
  rcases DataW.trod_slice ht h with ⟨rfl, _⟩ | ⟨a, len, cap, elems, rest, n, _, rfl, _, hb, hl, hm, hlen, hel, _, _⟩
  · exact ⟨_, ⟨0, fun _ => [], rfl, Nat.zero_le _, fun i hi => by omega⟩, rfl, .mk1 (.lst0 _ _ _ _ _ (by simp [maxLen]) (fun _ => rfl)), by simp [Value.oneCell']⟩
  · have each : ∀ i, i < len → ∃ bs us, R bs ∧ bs.length = sz ∧ VR0 φ w bs us ∧ (∀ u ∈ us, u.oneCell' = true) ∧ us.length = sz ∧ ∀ j, j < sz → w.cell? ((a.add (i * sz)).add j) = us[j]? := by
      intro i hi
      have h1 := hel i hi
      rw [List.getElem?_eq_getElem (by omega), Option.bind_eq_some_iff, he.1] at h1
      obtain ⟨us, h2, h3⟩ := h1
      obtain ⟨bs, h4, h5, h6, h7⟩ := he.2 H enc w n us _ φ h3
      obtain ⟨_, h8, h9⟩ := World.cells?_some h2
      exact ⟨bs, us, h4, h5, h6, h7, h8, h9⟩
    let g : Nat → List AV := fun i => if hi : i < len then (each i hi).choose else []
    have hg : ∀ i, i < len → ∃ us, R (g i) ∧ (g i).length = sz ∧ VR0 φ w (g i) us ∧ (∀ u ∈ us, u.oneCell' = true) ∧ us.length = sz ∧ ∀ j, j < sz → w.cell? ((a.add (i * sz)).add j) = us[j]? := by
      intro i hi
      have : g i = (each i hi).choose := dif_pos hi
      rw [this]
      exact (each i hi).choose_spec
    refine ⟨_, ⟨len, g, rfl, by omega, fun i hi => (hg i hi).choose_spec.1⟩, rfl, .mk1 ?_, by simp [Value.oneCell']⟩
    rcases Nat.eq_zero_or_pos len with h1 | h1
    · subst h1; exact .lst0 _ _ _ _ _ hm (fun h => by cases h)
    · have spot : a.spot = none := by
        obtain ⟨us, _, _, _, _, h8, h9⟩ := hg 0 h1
        have h9 := h9 0 h0
        rw [List.getElem?_eq_getElem (by omega)] at h9
        have := World.cell?_spot h9
        simp [Addr.add] at this
        obtain ⟨b, o, s⟩ := a
        cases s
        · rfl
        · simp at this
      obtain ⟨b, off, s⟩ := a
      cases spot
      have cellat : ∀ i, i < len → ∃ us, VR0 φ w (g i) us ∧ (∀ u ∈ us, u.oneCell' = true) ∧ us.length = sz ∧ (g i).length = sz ∧ ∀ j, j < sz → w.cell? ⟨b, off + i * sz + j, none⟩ = us[j]? := by
        intro i hi
        obtain ⟨us, _, h5, h6, h7, h8, h9⟩ := hg i hi
        exact ⟨us, h6, h7, h8, h5, fun j hj => by have := h9 j hj; rw [addr_add', addr_add'] at this; exact this⟩
      obtain ⟨us0, _, _, h8, _, h9⟩ := cellat 0 h1
      have h9 := h9 0 h0
      rw [List.getElem?_eq_getElem (by omega)] at h9
      obtain ⟨cur, et, fz, hc'⟩ : ∃ cur et fz, w.heap[b]? = some (.cells cur et fz) := by
        unfold World.cell? at h9
        split at h9
        · rename_i c x y hx; exact ⟨_, _, _, hx⟩
        · cases h9
      have hb' : b < w.heap.size := (Array.getElem?_eq_some_iff.1 hc').1
      refine VRel.mk_lst hl hm (fun h => by cases h) hb' hc' (fun i hi => (cellat i hi).choose_spec.2.2.2.1) fun i j y hi hy => ?_
      obtain ⟨us, k1, k2, k3, k4, k5⟩ := cellat i hi
      have hj : j < sz := by rw [← k4]; exact (List.getElem?_eq_some_iff.1 hy).1
      have k6 := k5 j hj
      rw [List.getElem?_eq_getElem (by omega)] at k6
      unfold World.cell? at k6
      rw [hc'] at k6
      exact ⟨us[j], by simpa using k6, k2 _ (List.getElem_mem _), k1.2 j y _ hy (List.getElem?_eq_getElem (by omega))⟩
def RS : List (Nat × (List AV → Prop)) → List AV → Prop
  | [], bs => bs = []
  | (_, R) :: Rs, bs => ∃ a b, R a ∧ RS Rs b ∧ bs = a ++ b
def szs (Rs : List (Nat × (List AV → Prop))) : Nat := (Rs.map (·.1)).sum
theorem op_pieces {φ : Pl} {w : World} : ∀ (Rs : List (Nat × (List AV → Prop))) (cs : List Value), cs.length = szs Rs →
    (∀ (i : Nat) sz R, Rs[i]? = some (sz, R) → ∃ bs, R bs ∧ bs.length = sz ∧ VR0 φ w bs ((cs.drop (szs (Rs.take i))).take sz) ∧ ∀ u ∈ (cs.drop (szs (Rs.take i))).take sz, u.oneCell' = true) →
    ∃ bs, RS Rs bs ∧ bs.length = szs Rs ∧ VR0 φ w bs cs ∧ ∀ u ∈ cs, u.oneCell' = true := by
  intro Rs
  induction Rs with
  | nil =>
    intro cs hl _
    have : cs = [] := List.eq_nil_of_length_eq_zero (by simpa [szs] using hl)
    subst this
    exact ⟨[], rfl, rfl, ⟨rfl, fun i x u hx => by simp at hx⟩, by simp⟩
  | cons r Rs ih =>
    obtain ⟨sz, R⟩ := r
    intro cs hl h
    have hl' : cs.length = sz + szs Rs := by simpa [szs] using hl
    obtain ⟨a, h1, h2, h3, h4⟩ := h 0 sz R rfl
    have e0 : szs (((sz, R) :: Rs).take 0) = 0 := rfl
    rw [e0, List.drop_zero] at h3 h4
    obtain ⟨b, h5, h6, h7, h8⟩ := ih (cs.drop sz) (by simp [hl']) (fun i sz' R' hi => by
      have := h (i + 1) sz' R' hi
      have e1 : szs (((sz, R) :: Rs).take (i + 1)) = sz + szs (Rs.take i) := by simp [szs]
      rw [e1, ← List.drop_drop] at this
      exact this)
    refine ⟨a ++ b, ⟨a, b, h1, h5, rfl⟩, by simp [h2, h6, szs], ?_, ?_⟩
    · rw [← List.take_append_drop sz cs]
      refine ⟨by simp [h2, h6, hl'], fun i x u hx hu => ?_⟩
      have ht : (cs.take sz).length = sz := by simp; omega
      by_cases hi : i < sz
      · rw [List.getElem?_append_left (by omega)] at hx hu
        exact h3.2 i x u hx hu
      · rw [List.getElem?_append_right (by omega)] at hx hu
        rw [h2] at hx
        rw [ht] at hu
        exact h7.2 _ x u hx hu
    · intro u hu
      rw [← List.take_append_drop sz cs] at hu
      rcases List.mem_append.1 hu with h | h
      · exact h4 u h
      · exact h8 u h
theorem op_array {n sz : Nat} {R : List AV → Prop} (ht : P.underlying t = some (.array n e)) (hc : P.cellsOf t = n * sz) (he : OpR P e sz R) : OpR P t (n * sz) (RS (List.replicate n (sz, R))) := by
  refine ⟨hc, fun H enc w fuel cs x φ h => ?_⟩
  obtain ⟨xs, m, _, _, hl, hx, hi⟩ := DataW.trod_array ht h
  have e1 : szs (List.replicate n (sz, R)) = n * sz := by simp [szs]
  have := op_pieces (φ := φ) (w := w) (List.replicate n (sz, R)) cs (by rw [hl, hc, e1]) (fun i sz' R' hi' => by
    rw [List.getElem?_replicate] at hi'
    split at hi'
    · rename_i hlt
      cases hi'
      have h1 := hi i hlt
      rw [he.1, List.getElem?_eq_getElem (by omega)] at h1
      have e2 : szs ((List.replicate n (sz, R)).take i) = i * sz := by simp [szs, Nat.min_eq_left (Nat.le_of_lt hlt)]
      rw [e2]
      exact he.2 H enc w m _ _ φ h1
    · cases hi')
  rw [e1] at this
  exact this
end

section
variable {P : Program} {t e : TypeId}
/-- what the cells of a type stand for -/
abbrev OpE (P : Program) (t : TypeId) (sz : Nat) {α : Type} (cells : α → List AV) (S : α → Prop) : Prop := OpR P t sz fun bs => ∃ x, bs = cells x ∧ S x
theorem OpR.conv {sz : Nat} {R R' : List AV → Prop} (h : OpR P t sz R) (k : ∀ bs, R bs → R' bs) : OpR P t sz R' :=
  ⟨h.1, fun H enc w fuel cs x φ hx => by obtain ⟨bs, h1, h2⟩ := h.2 H enc w fuel cs x φ hx; exact ⟨bs, k bs h1, h2⟩⟩
theorem as_list {α : Type} (d : α) {n : Nat} {Q : Nat → α → Prop} (h : ∀ i, i < n → ∃ a, Q i a) : ∃ xs : List α, xs.length = n ∧ ∀ i, i < n → Q i (xs.getD i d) := by
  induction n with
  | zero => exact ⟨[], rfl, fun i hi => by omega⟩
  | succ n ih =>
    obtain ⟨xs, h1, h2⟩ := ih fun i hi => h i (by omega)
    obtain ⟨a, ha⟩ := h n (by omega)
    refine ⟨xs ++ [a], by simp [h1], fun i hi => ?_⟩
    rw [List.getD_eq_getElem?_getD]
    by_cases hn : i < n
    · rw [List.getElem?_append_left (by omega), ← List.getD_eq_getElem?_getD]; exact h2 i hn
    · have : i = n := by omega
      subst this
      rw [List.getElem?_append_right (by omega)]; simpa [h1] using ha
theorem e_slice {sz : Nat} {α : Type} {cells : α → List AV} {S : α → Prop} (d : α) (ht : P.underlying t = some (.slice e)) (hc : P.cellsOf t = 1) (he : OpE P e sz cells S) (h0 : 0 < sz) :
    ∀ (H : Type) (enc : TypeId × Value → H) (w : World) (fuel : Nat) (cs : List Value) (x : DataW H × List MemPlace) (φ : Pl), DataW.trod enc P w 0 (fun _ => true) true fuel t cs = some x →
      ∃ xs : List α, (xs.length ≤ maxLen ∧ ∀ x ∈ xs, S x) ∧ VR0 φ w [.lst false sz xs.length fun i => cells (xs.getD i d)] cs ∧ ∀ u ∈ cs, u.oneCell' = true := by
  intro H enc w fuel cs x φ h
  obtain ⟨bs, ⟨n, g, rfl, hn, hg⟩, _, h2, h3⟩ := (op_slice ht hc he h0).2 H enc w fuel cs x φ h
  obtain ⟨xs, h4, h5⟩ := as_list d hg
  subst h4
  refine ⟨xs, ⟨hn, fun x hx => ?_⟩, ?_, h3⟩
  · obtain ⟨i, hi, rfl⟩ := List.getElem_of_mem hx
    have := (h5 i hi).2
    rwa [List.getD_eq_getElem?_getD, List.getElem?_eq_getElem hi] at this
  · refine ⟨h2.1, fun i y u hy hu => ?_⟩
    cases i with
    | succ i => simp at hy
    | zero =>
      simp at hy; subst hy
      exact le_lst (fun h => h) (fun i hi => (h5 i hi).1) _ _ _ _ _ (h2.2 0 _ u rfl hu)
/-- what a value of a type stands for -/
def Kd (P : Program) (t : TypeId) {α : Type} (av : α → AV) (S : α → Prop) : Prop :=
  ∀ (H : Type) (enc : TypeId × Value → H) (w : World) (r : Reach) (b0 : Nat) (v : Value) (d : DataW H) (p : List MemPlace) (φ : Pl), Value.okWide P w r b0 t v → DataW.Trod enc P w 0 (fun _ => true) true t v d p →
    ∃ x, VRel (fun _ => False) φ (fun b => b < w.heap.size) w (av x) v ∧ S x
theorem k_int (ht : P.underlying t = some (.int .i64)) : Kd P t AV.i I64 := by
  intro H enc w r b0 v d p φ hv h
  obtain ⟨x, rfl, _, _, hw⟩ := open_int ht hv h
  exact ⟨x, .p _, i64_of hw⟩
theorem k_slice {sz : Nat} {α : Type} {cells : α → List AV} {S : α → Prop} (d : α) (ht : P.underlying t = some (.slice e)) (hc : P.cellsOf t = 1) (he : OpE P e sz cells S) (h0 : 0 < sz) :
    Kd P t (fun xs : List α => .lst false sz xs.length fun i => cells (xs.getD i d)) (fun xs => xs.length ≤ maxLen ∧ ∀ x ∈ xs, S x) := by
  intro H enc w r b0 v d' p φ hv h
  obtain ⟨a, len, cap, rfl⟩ := okWide_slice ht hv
  obtain ⟨fuel, hf⟩ := h
  obtain ⟨xs, h1, h2, _⟩ := e_slice d ht hc he h0 H enc w fuel _ _ φ hf
  exact ⟨xs, h2.2 0 _ _ rfl rfl, h1⟩
theorem e_int (ht : P.underlying t = some (.int .i64)) (hc : P.cellsOf t = 1) : OpE P t 1 (fun n : Int => [.i n]) I64 := op_i64 ht hc
abbrev Four : Type := Int × Int × Int × Int
abbrev fours (x : Four) : List AV := [.i x.1, .i x.2.1, .i x.2.2.1, .i x.2.2.2]
def F64 (x : Four) : Prop := I64 x.1 ∧ I64 x.2.1 ∧ I64 x.2.2.1 ∧ I64 x.2.2.2
theorem e_arr4 (ht : P.underlying t = some (.array 4 e)) (he : P.underlying e = some (.int .i64)) (hc : P.cellsOf t = 4) (hc1 : P.cellsOf e = 1) : OpE P t 4 fours F64 :=
  (op_array ht hc (op_i64 he hc1)).conv fun bs h => by
    obtain ⟨_, _, ⟨a, rfl, ha⟩, ⟨_, _, ⟨b, rfl, hb⟩, ⟨_, _, ⟨c, rfl, hc⟩, ⟨_, _, ⟨d, rfl, hd⟩, rfl, rfl⟩, rfl⟩, rfl⟩, rfl⟩ := h
    exact ⟨(a, b, c, d), rfl, ha, hb, hc, hd⟩
/-- a law, run -/
theorem law_run {f : FuncId} {bs : List AV} (h : SC true P f bs [] fun r _ => r = .b true) {φ : Pl} {w : World} {vs : List Value} (hv : VR0 φ w bs vs) (ht : TabV (fun b => b < w.heap.size) w := by exact True.intro) :
    Calls P f vs.toArray w fun e w' => e = .returned (.bool true) ∧ Below w.heap.size w w' := by
  refine (h.2 (fun _ => False) φ (fun b => b < w.heap.size) w vs ⟨fun id b hb => by simp at hb, fun id id' h => by obtain ⟨b, hb⟩ := h; simp at hb, fun id h => by obtain ⟨b, hb⟩ := h; simp at hb, fun b h => h, fun id h => h.elim, ht⟩ hv).mono ?_
  rintro e w' ⟨v, rfl, r, U', φ', V', H', rfl, g, hr, s⟩
  refine ⟨by rw [hr.inv_p], s.os, s.tape, s.output, s.size, fun b hb => s.block b hb fun id hl => by obtain ⟨b, hb⟩ := hl; simp at hb⟩
theorem vr0_nil {φ : Pl} {w : World} : VR0 φ w [] [] := ⟨rfl, fun i x u hx => by simp at hx⟩
theorem vr0_cons {φ : Pl} {w : World} {a : AV} {v : Value} {bs : List AV} {vs : List Value} (h : VRel (fun _ => False) φ (fun b => b < w.heap.size) w a v) (hr : VR0 φ w bs vs) : VR0 φ w (a :: bs) (v :: vs) :=
  ⟨by simp [hr.1], fun i x u hx hu => by
    cases i with
    | zero => simp at hx hu; subst hx hu; exact h
    | succ i => exact hr.2 i x u (by simpa using hx) (by simpa using hu)⟩
end
theorem Try.own : ownKnob Try.prog.godebug = none := by kernel_rfl
theorem Try.laidOut : laidOutB Try.prog = true := by kernel_rfl
end Go.Proofs.Ytphjglbbhanmpaa.Ab
