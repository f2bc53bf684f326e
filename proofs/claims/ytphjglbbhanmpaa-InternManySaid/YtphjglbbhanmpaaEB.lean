/- What single operations do, on abstract values. -/
import Derived.Test.YtphjglbbhanmpaaEA
namespace Go.Proofs.Ytphjglbbhanmpaa.Ab
open Go Go.RowKit

/-- types, as far as is needed -/
inductive TK where
  | int (k : IntKind)
  | bool
  | str
  | slice (e : Nat)
  | array (n e : Nat)
  | struct (fs : List (Nat × Nat))
  | other
structure TI where
  kind : TK
  size : Nat
  bytes : Nat
  zs : List Value
abbrev TT := List (Nat × TI)
def tget : TT → Nat → Option TI
  | [], _ => none
  | (k, i) :: r, t => bif Nat.beq k t then some i else tget r t
def kindOf : TypeDesc → TK
  | .int k => .int k
  | .bool => .bool
  | .string => .str
  | .slice e => .slice e
  | .array n e => .array n e
  | .struct fs => .struct (fs.toList.map fun f => (f.offset, f.type))
  | _ => .other
def look1 (P : Program) (t : Nat) : Option (TK × Nat × Nat × List Value) :=
  match P.info? t, P.underlying t with
  | some i, some d => match i.zero with
    | some z => some (kindOf d, i.size, i.bytes, z.cells.toList)
    | none => none
  | _, _ => none
def TTok (P : Program) (T : TT) : Prop := ∀ t i, tget T t = some i → ∃ info d z, P.info? t = some info ∧ P.underlying t = some d ∧ info.zero = some z ∧ kindOf d = i.kind ∧ info.size = i.size ∧ info.bytes = i.bytes ∧ z.cells.toList = i.zs
theorem ttok_of {P : Program} {T : TT} (h : T.map (fun x => look1 P x.1) = T.map (fun x => some (x.2.kind, x.2.size, x.2.bytes, x.2.zs))) : TTok P T := by
  intro t i hi
  have : look1 P t = some (i.kind, i.size, i.bytes, i.zs) := by
    induction T with
    | nil => cases hi
    | cons x r ih =>
      obtain ⟨k, j⟩ := x
      simp only [List.map_cons, List.cons.injEq] at h
      simp only [tget] at hi
      cases hk : Nat.beq k t with
      | true =>
        rw [hk] at hi; cases hi
        have := Nat.eq_of_beq_eq_true hk
        subst this; exact h.1
      | false => rw [hk] at hi; exact ih h.2 hi
  unfold look1 at this
  split at this
  · rename_i info d h1 h2
    split at this
    · rename_i z hz
      simp only [Option.some.injEq, Prod.mk.injEq] at this
      exact ⟨info, d, z, h1, h2, hz, this.1, this.2.1, this.2.2.1, this.2.2.2⟩
    · cases this
  · cases this

/-- the state is a good one; k0: the blocks that this call has made begin here -/
structure Good (k0 B : Nat) (U : Nat → Prop) (φ : Pl) (V : Nat → Prop) (w : World) (H : AH) : Prop where
  heap : HRel U φ V w H
  base : B ≤ w.heap.size
  own : ∀ id, k0 ≤ id → Live H id → B ≤ (φ id).1
  ownk : k0 ≤ H.length
def Post (k0 B : Nat) (U : Nat → Prop) (φ : Pl) (V : Nat → Prop) (w : World) (H : AH) (K : AV → AH → Prop) (v : Value) (w' : World) : Prop :=
  ∃ r U' φ' V' H', K r H' ∧ Good k0 B U' φ' V' w' H' ∧ VRel U' φ' V' w' r v ∧ Step B U φ V w H U' φ' V' w' H'
def Res (P : Program) (R : Value → World → Prop) : Result Next → Prop
  | .ok (.value v) w => R v w
  | .ok .skip w => R undef w
  | .ok (.enter f args) w => Calls P f args w fun e w' => ∃ v, e = .returned v ∧ R v w'
  | _ => False
/-- an operation, whatever memory is like -/
def AO (P : Program) (q : Bool) (k0 : Nat) (o : Oper) (ρ : Operand → AV) (H : AH) (K : AV → AH → Prop) : Prop :=
  ∀ B U φ V w (ρc : Operand → Value), (q = false → B = 0) → Good k0 B U φ V w H → (∀ x ∈ o.op.operands, VRel U φ V w (ρ x) (ρc x)) → (∀ f, ρc (.func f) = .func (.func f) #[] #[]) →
    Res P (Post k0 B U φ V w H K) ((execOp ρc o).run P w)
theorem Res.mono {P : Program} {R R' : Value → World → Prop} {r : Result Next} (h : Res P R r) (hr : ∀ v w, R v w → R' v w) : Res P R' r := by
  cases r with
  | ok n w => cases n <;> simp only [Res] at h ⊢ <;> first | exact hr _ _ h | exact h | (exact h.mono fun e w' ⟨v, he, h⟩ => ⟨v, he, hr _ _ h⟩)
  | halt => exact h
theorem AO.mono {P : Program} {q : Bool} {k0 : Nat} {o : Oper} {ρ : Operand → AV} {H : AH} {K K' : AV → AH → Prop} (h : AO P q k0 o ρ H K) (hk : ∀ r H', K r H' → K' r H') : AO P q k0 o ρ H K' :=
  fun B U φ V w ρc hq g ho hf => (h B U φ V w ρc hq g ho hf).mono fun _ _ ⟨r, U', φ', V', H', hK, x⟩ => ⟨r, U', φ', V', H', hk _ _ hK, x⟩
/-- it leaves memory alone -/
theorem ao_keep {P : Program} {q : Bool} {k0 : Nat} {o : Oper} {ρ : Operand → AV} {H : AH} {v : AV}
    (h : ∀ U φ V w (ρc : Operand → Value), HRel U φ V w H → (∀ x ∈ o.op.operands, VRel U φ V w (ρ x) (ρc x)) → ∃ u, (execOp ρc o).run P w = .ok (.value u) w ∧ VRel U φ V w v u) :
    AO P q k0 o ρ H (fun r H' => r = v ∧ H' = H) := by
  intro B U φ V w ρc _ g ho _
  obtain ⟨u, hr, hv⟩ := h U φ V w ρc g.heap ho
  rw [hr]
  exact ⟨v, U, φ, V, H, ⟨rfl, rfl⟩, g, hv, Step.refl ..⟩
theorem alloc_step {k0 B : Nat} {U : Nat → Prop} {φ : Pl} {V : Nat → Prop} {w : World} {H : AH} (g : Good k0 B U φ V w H) (cur : Array Value) (e : TypeId) :
    Good k0 B U φ (fun b => V b ∨ b = w.heap.size) (w.alloc (.cells cur e)) H ∧ Step B U φ V w H U φ (fun b => V b ∨ b = w.heap.size) (w.alloc (.cells cur e)) H := by
  have old : ∀ b, b < w.heap.size → (w.alloc (.cells cur e)).heap[b]? = w.heap[b]? := fun b hb => heap_alloc_old w _ hb
  have blt : ∀ id b, H[id]? = some (some b) → (φ id).1 < w.heap.size := fun id b hb => by
    obtain ⟨cur, hc, _⟩ := g.heap.blk id b hb
    exact (Array.getElem?_eq_some_iff.1 hc).1
  have st : Step B U φ V w H U φ (fun b => V b ∨ b = w.heap.size) (w.alloc (.cells cur e)) H :=
    ⟨rfl, rfl, rfl, by simp, fun b hb _ => old b hb, fun b h => .inl h, fun b hb h => by
      rcases h with h | h
      · exact h
      · have := g.base; omega, fun _ _ => rfl, Nat.le_refl _, fun _ h => h, fun _ h => .inl h, fun _ _ h => h, fun id h => .inl ⟨id, h, rfl⟩⟩
  refine ⟨⟨⟨?_, g.heap.inj, ?_, ?_, g.heap.ult, g.heap.tabs st⟩, by have := g.base; simp; omega, g.own, g.ownk⟩, st⟩
  · intro id b hb
    obtain ⟨c, hc, h1, h2, h3, h4, h5⟩ := g.heap.blk id b hb
    refine ⟨c, (old _ (blt id b hb)).trans hc, h1, h2, h3, h4, fun i j x hi hx => ?_⟩
    obtain ⟨u, hu, h1, hr⟩ := h5 i j x hi hx
    exact ⟨u, hu, h1, hr.step g.heap st⟩
  · rintro id hl (h | h)
    · exact g.heap.apart id hl h
    · obtain ⟨b, hb⟩ := hl
      have := blt id b hb; omega
  · rintro b (h | h)
    · have := g.heap.vlt b h; simp; omega
    · subst h; simp
/-- a new block that may change -/
theorem new_step {k0 B : Nat} {U : Nat → Prop} {φ : Pl} {V : Nat → Prop} {w : World} {H : AH} (g : Good k0 B U φ V w H) (cur : Array Value) (b : Blk) (cap : Nat) (hs : cur.size = cap * b.sz) (hn : b.n ≤ cap) (hm : cap ≤ maxLen)
    (hl : ∀ i, i < b.n → (b.g i).length = b.sz) (hc : ∀ (i j : Nat) x, i < b.n → (b.g i)[j]? = some x → ∃ u, cur[i * b.sz + j]? = some u ∧ u.oneCell' = true ∧ VRel U φ V w x u) :
    ∃ φ', φ' H.length = (w.heap.size, cap) ∧ Good k0 B (fun id => U id ∨ id = H.length) φ' V (w.alloc (.cells cur b.ety)) (H ++ [some b]) ∧ Step B U φ V w H (fun id => U id ∨ id = H.length) φ' V (w.alloc (.cells cur b.ety)) (H ++ [some b]) := by
  have old : ∀ x, x < w.heap.size → (w.alloc (.cells cur b.ety)).heap[x]? = w.heap[x]? := fun x hb => heap_alloc_old w _ hb
  have blt : ∀ id, Live H id → (φ id).1 < w.heap.size := fun id ⟨b, hb⟩ => by
    obtain ⟨cur, hc, _⟩ := g.heap.blk id b hb
    exact (Array.getElem?_eq_some_iff.1 hc).1
  have liv : ∀ id, Live (H ++ [some b]) id → Live H id ∨ id = H.length := by
    rintro id ⟨b', hb'⟩
    rcases Nat.lt_or_ge id H.length with h | h
    · rw [List.getElem?_append_left h] at hb'; exact .inl ⟨b', hb'⟩
    · rw [List.getElem?_append_right h] at hb'
      have : id - H.length = 0 := by
        rcases Nat.eq_zero_or_pos (id - H.length) with h | h
        · exact h
        · rw [List.getElem?_eq_none (by simp; omega)] at hb'; cases hb'
      exact .inr (by omega)
  let φ' : Pl := fun id => if id = H.length then (w.heap.size, cap) else φ id
  have pn : φ' H.length = (w.heap.size, cap) := if_pos rfl
  have po : ∀ id, id < H.length → φ' id = φ id := fun id h => if_neg (by omega)
  have st : Step B U φ V w H (fun id => U id ∨ id = H.length) φ' V (w.alloc (.cells cur b.ety)) (H ++ [some b]) := by
    refine ⟨rfl, rfl, rfl, by simp, fun x hb _ => old x hb, fun _ h => h, fun _ _ h => h, po, by simp, fun id h => .inl h, fun _ h => h.imp (fun h => h) (fun h => by omega), fun id h hl => (liv id hl).resolve_right (by omega), fun id h => ?_⟩
    rcases liv id h with h | h
    · exact .inl ⟨id, h, by rw [po id h.lt]⟩
    · subst h; rw [pn]; exact .inr (Nat.le_refl _)
  refine ⟨φ', pn, ⟨⟨?_, ?_, ?_, fun x h => by have := g.heap.vlt x h; simp; omega, fun id h => by
    rcases h with h | h
    · have := g.heap.ult id h; simp; omega
    · subst h; simp, g.heap.tabs st⟩, by have := g.base; simp; omega, ?_, by have := g.ownk; simp; omega⟩, st⟩
  · intro id b' hb
    rcases liv id ⟨b', hb⟩ with h | h
    · have hlt := h.lt
      rw [List.getElem?_append_left hlt] at hb
      obtain ⟨c, hc, h1, h2, h3, h4, h5⟩ := g.heap.blk id b' hb
      rw [po id hlt]
      refine ⟨c, (old _ (blt id h)).trans hc, h1, h2, h3, h4, fun i j x hi hx => ?_⟩
      obtain ⟨u, hu, h1, hr⟩ := h5 i j x hi hx
      exact ⟨u, hu, h1, hr.step g.heap st⟩
    · subst h
      have : b' = b := by simpa using hb.symm
      subst this
      rw [pn]
      refine ⟨cur, heap_alloc_new w _, hs, hn, hm, hl, fun i j x hi hx => ?_⟩
      obtain ⟨u, hu, h1, hr⟩ := hc i j x hi hx
      exact ⟨u, hu, h1, hr.step g.heap st⟩
  · intro id id' h h' e
    rcases liv id h with h | h <;> rcases liv id' h' with h' | h'
    · rw [po id h.lt, po id' h'.lt] at e; exact g.heap.inj id id' h h' e
    · subst h'; rw [po id h.lt, pn] at e; have := blt id h; simp at e; omega
    · subst h; rw [po id' h'.lt, pn] at e; have := blt id' h'; simp at e; omega
    · rw [h, h']
  · intro id h hv
    rcases liv id h with h | h
    · rw [po id h.lt] at hv; exact g.heap.apart id h hv
    · subst h; rw [pn] at hv; have := g.heap.vlt _ hv; simp at this
  · intro id hk h
    rcases liv id h with h | h
    · rw [po id h.lt]; exact g.own id hk h
    · subst h; rw [pn]; exact g.base
end Go.Proofs.Ytphjglbbhanmpaa.Ab
