/- Memory that changes: stores, appends, freezing. -/
import Derived.Test.YtphjglbbhanmpaaEL
namespace Go.Proofs.Ytphjglbbhanmpaa.Ab
open Go Go.RowKit

section steps
variable {k0 B : Nat} {U : Nat → Prop} {φ : Pl} {V : Nat → Prop} {w : World} {H : AH}
theorem live_set_none {id j : Nat} (h : Live (H.set id none) j) : Live H j ∧ j ≠ id := by
  obtain ⟨b, hb⟩ := h
  rw [List.getElem?_set] at hb
  split at hb
  · split at hb <;> cases hb
  · rename_i hne; exact ⟨⟨b, hb⟩, fun e => hne e.symm⟩
theorem get_set_none {id j : Nat} {b : Blk} (h : (H.set id none)[j]? = some (some b)) : H[j]? = some (some b) ∧ j ≠ id := by
  rw [List.getElem?_set] at h
  split at h
  · split at h <;> cases h
  · rename_i hne; exact ⟨h, fun e => hne e.symm⟩
/-- a name is forgotten -/
theorem kill_step (g : Good k0 B U φ V w H) (id : Nat) : Good k0 B U φ V w (H.set id none) ∧ Step B U φ V w H U φ V w (H.set id none) := by
  refine ⟨⟨⟨fun j b hb => g.heap.blk j b (get_set_none hb).1, fun j j' h h' e => g.heap.inj j j' (live_set_none h).1 (live_set_none h').1 e, fun j h => g.heap.apart j (live_set_none h).1, g.heap.vlt, fun j h => by simpa using g.heap.ult j h, g.heap.tab⟩, g.base, fun j hk h => g.own j hk (live_set_none h).1, by simpa using g.ownk⟩,
    ⟨rfl, rfl, rfl, Nat.le_refl _, fun _ _ _ => rfl, fun _ h => h, fun _ _ h => h, fun _ _ => rfl, by simp, fun _ h => h, fun _ h => .inl h, fun j _ h => (live_set_none h).1, fun j h => .inl ⟨j, (live_set_none h).1, rfl⟩⟩⟩
/-- a block that may change never changes from now on -/
theorem freeze_step (g : Good k0 B U φ V w H) {id : Nat} (hk : k0 ≤ id) {b : Blk} (hb : H[id]? = some (some b)) :
    Good k0 B U φ (fun x => V x ∨ x = (φ id).1) w (H.set id none) ∧ Step B U φ V w H U φ (fun x => V x ∨ x = (φ id).1) w (H.set id none) := by
  have hlive : Live H id := ⟨b, hb⟩
  have vup : ∀ x v, VRel U φ V w x v → VRel U φ (fun x => V x ∨ x = (φ id).1) w x v := fun x v h => h.up (fun _ h => h) (fun _ _ => rfl) (fun _ h => .inl h) (fun _ _ => rfl)
  refine ⟨⟨⟨fun j b' hb' => (g.heap.blk j b' (get_set_none hb').1).up rfl vup, fun j j' h h' e => g.heap.inj j j' (live_set_none h).1 (live_set_none h').1 e, ?_, ?_, fun j h => by simpa using g.heap.ult j h, g.heap.tab.up (fun _ h => .inl h) fun _ _ => rfl⟩, g.base, fun j hk h => g.own j hk (live_set_none h).1, by simpa using g.ownk⟩,
    ⟨rfl, rfl, rfl, Nat.le_refl _, fun _ _ _ => rfl, fun _ h => .inl h, ?_, fun _ _ => rfl, by simp, fun _ h => h, fun _ h => .inl h, fun j _ h => (live_set_none h).1, fun j h => .inl ⟨j, (live_set_none h).1, rfl⟩⟩⟩
  · rintro j h (hv | hv)
    · exact g.heap.apart j (live_set_none h).1 hv
    · exact (live_set_none h).2 (g.heap.inj j id (live_set_none h).1 hlive hv)
  · rintro x (h | h)
    · exact g.heap.vlt x h
    · obtain ⟨cur, hc, _⟩ := g.heap.blk id b hb
      rw [h]; exact (Array.getElem?_eq_some_iff.1 hc).1
  · rintro x hx (h | h)
    · exact h
    · have := g.own id hk hlive; omega
/-- a block's cells are written anew -/
theorem set_step (g : Good k0 B U φ V w H) {id : Nat} {b b' : Blk} (hb : H[id]? = some (some b)) {w' : World} (hos : w'.os = w.os) (htape : w'.tape = w.tape) (hout : w'.output = w.output) (hsz : w'.heap.size = w.heap.size)
    (hblk : ∀ k, k ≠ (φ id).1 → w'.heap[k]? = w.heap[k]?) (hnew : (∀ x v, VRel U φ V w x v → VRel U φ V w' x v) → BlkRel U φ V w' (φ id) b') :
    Good k0 B U φ V w' (H.set id (some b')) ∧ Step B U φ V w H U φ V w' (H.set id (some b')) := by
  have hlive : Live H id := ⟨b, hb⟩
  have hlt := hlive.lt
  have hliv : ∀ j, Live (H.set id (some b')) j → Live H j := by
    rintro j ⟨x, hx⟩
    rw [List.getElem?_set] at hx
    split at hx
    · rename_i e; subst e; exact hlive
    · exact ⟨x, hx⟩
  have vk : ∀ x, V x → w'.heap[x]? = w.heap[x]? := fun x hx => hblk x (fun e => g.heap.apart id hlive (e ▸ hx))
  have vup : ∀ x v, VRel U φ V w x v → VRel U φ V w' x v := fun x v h => h.up (fun _ h => h) (fun _ _ => rfl) (fun _ h => h) vk
  have st : Step B U φ V w H U φ V w' (H.set id (some b')) := ⟨hos, htape, hout, Nat.le_of_eq hsz.symm, fun x hx hl => hblk x (fun e => hl id hlive e.symm), fun _ h => h, fun _ _ h => h, fun _ _ => rfl, by simp, fun _ h => h, fun _ h => .inl h, fun j _ h => hliv j h, fun j h => .inl ⟨j, hliv j h, rfl⟩⟩
  refine ⟨⟨⟨fun j x hx => ?_, fun j j' h h' e => g.heap.inj j j' (hliv j h) (hliv j' h') e, fun j h => g.heap.apart j (hliv j h), fun x h => by rw [hsz]; exact g.heap.vlt x h, fun j h => by simpa using g.heap.ult j h, g.heap.tabs st⟩, by rw [hsz]; exact g.base, fun j hk h => g.own j hk (hliv j h), by simpa using g.ownk⟩, st⟩
  rw [List.getElem?_set] at hx
  split at hx
  · rename_i e; subst e
    cases hx
    exact hnew vup
  · rename_i hne
    refine (g.heap.blk j x hx).up (hblk _ fun e => hne ?_) vup
    exact (g.heap.inj j id ⟨x, hx⟩ hlive e).symm
/-- a block gets another name -/
theorem rename_step (g : Good k0 B U φ V w H) {id : Nat} (hk : k0 ≤ id) {b : Blk} (hb : H[id]? = some (some b)) :
    ∃ φ' : Pl, φ' H.length = φ id ∧ Good k0 B (fun j => U j ∨ j = H.length) φ' V w (H.set id none ++ [some b]) ∧ Step B U φ V w H (fun j => U j ∨ j = H.length) φ' V w (H.set id none ++ [some b]) := by
  have hlive : Live H id := ⟨b, hb⟩
  let φ' : Pl := fun j => if j = H.length then φ id else φ j
  have pn : φ' H.length = φ id := if_pos rfl
  have po : ∀ j, j < H.length → φ' j = φ j := fun j h => if_neg (by omega)
  have sort : ∀ (j : Nat) x, (H.set id none ++ [some b])[j]? = some (some x) → (H[j]? = some (some x) ∧ j ≠ id ∧ φ' j = φ j) ∨ (j = H.length ∧ x = b) := by
    intro j x hx
    rcases Nat.lt_or_ge j H.length with h | h
    · rw [List.getElem?_append_left (by simpa using h)] at hx
      obtain ⟨h1, h2⟩ := get_set_none hx
      exact .inl ⟨h1, h2, po j h⟩
    · rw [List.getElem?_append_right (by simpa using h)] at hx
      have : j - H.length = 0 := by
        rcases Nat.eq_zero_or_pos (j - H.length) with h | h
        · exact h
        · rw [List.getElem?_eq_none (by simp; omega)] at hx; cases hx
      refine .inr ⟨by omega, ?_⟩
      simp only [List.length_set, this, List.getElem?_cons_zero, Option.some.injEq] at hx
      exact hx.symm
  have vup : ∀ x v, VRel U φ V w x v → VRel (fun j => U j ∨ j = H.length) φ' V w x v := fun x v h => h.up (fun _ h => .inl h) (fun j h => po j (g.heap.ult j h)) (fun _ h => h) (fun _ _ => rfl)
  refine ⟨φ', pn, ⟨⟨?_, ?_, ?_, g.heap.vlt, ?_, g.heap.tab⟩, g.base, ?_, by have := g.ownk; simp; omega⟩, ⟨rfl, rfl, rfl, Nat.le_refl _, fun _ _ _ => rfl, fun _ h => h, fun _ _ h => h, po, by simp, fun _ h => .inl h, fun j h => h.imp (fun h => h) (fun h => by omega), ?_, ?_⟩⟩
  · intro j x hx
    rcases sort j x hx with ⟨h1, h2, h3⟩ | ⟨h1, h2⟩
    · rw [h3]; exact (g.heap.blk j x h1).up rfl vup
    · subst h1 h2; rw [pn]; exact (g.heap.blk id x hb).up rfl vup
  · rintro j j' ⟨x, hx⟩ ⟨x', hx'⟩ e
    rcases sort j x hx with ⟨h1, h2, h3⟩ | ⟨h1, h2⟩ <;> rcases sort j' x' hx' with ⟨h1', h2', h3'⟩ | ⟨h1', h2'⟩
    · rw [h3, h3'] at e; exact g.heap.inj j j' ⟨x, h1⟩ ⟨x', h1'⟩ e
    · rw [h3, h1', pn] at e; exact absurd (g.heap.inj j id ⟨x, h1⟩ hlive e) h2
    · rw [h3', h1, pn] at e; exact absurd (g.heap.inj j' id ⟨x', h1'⟩ hlive e.symm) h2'
    · rw [h1, h1']
  · rintro j ⟨x, hx⟩ hv
    rcases sort j x hx with ⟨h1, h2, h3⟩ | ⟨h1, h2⟩
    · rw [h3] at hv; exact g.heap.apart j ⟨x, h1⟩ hv
    · rw [h1, pn] at hv; exact g.heap.apart id hlive hv
  · rintro j (h | h)
    · have := g.heap.ult j h; simp; omega
    · subst h; simp
  · rintro j hkj ⟨x, hx⟩
    rcases sort j x hx with ⟨h1, h2, h3⟩ | ⟨h1, h2⟩
    · rw [h3]; exact g.own j hkj ⟨x, h1⟩
    · rw [h1, pn]; exact g.own id hk hlive
  · rintro j hlt ⟨x, hx⟩
    rcases sort j x hx with ⟨h1, h2, h3⟩ | ⟨h1, h2⟩
    · exact ⟨x, h1⟩
    · omega
  · rintro j ⟨x, hx⟩
    rcases sort j x hx with ⟨h1, h2, h3⟩ | ⟨h1, h2⟩
    · exact .inl ⟨j, ⟨x, h1⟩, by rw [h3]⟩
    · exact .inl ⟨id, hlive, by rw [h1, pn]⟩
theorem drew_step (g : Good k0 B U φ V w H) : Good k0 B U φ V w.drew H ∧ Step B U φ V w H U φ V w.drew H := by
  have vup : ∀ x v, VRel U φ V w x v → VRel U φ V w.drew x v := fun x v h => h.up (fun _ h => h) (fun _ _ => rfl) (fun _ h => h) (fun _ _ => rfl)
  exact ⟨⟨⟨fun j b hb => (g.heap.blk j b hb).up rfl vup, g.heap.inj, g.heap.apart, g.heap.vlt, g.heap.ult, g.heap.tab.up (fun _ h => h) fun _ _ => rfl⟩, g.base, g.own, g.ownk⟩, ⟨rfl, rfl, rfl, Nat.le_refl _, fun _ _ _ => rfl, fun _ h => h, fun _ _ h => h, fun _ _ => rfl, Nat.le_refl _, fun _ h => h, fun _ h => .inl h, fun _ _ h => h, fun j h => .inl ⟨j, h, rfl⟩⟩⟩
end steps

section ops
variable {P : Program} {T : TT} {q : Bool} {k0 : Nat} {H : AH} {o : Oper} {ρ : Operand → AV}
theorem ao_load (hT : TTok P T) (t : TypeId) (x : Operand) (ho : o.op = .load t x) {id sz i off : Nat} {b : Blk} {v : AV} (hx : ρ x = .ref id sz i off) (hb : H[id]? = some (some b)) (hs : b.sz = sz) (hi : i < b.n) (h : apart T t ((b.g i).drop off) = some v) : AO P q k0 o ρ H (fun r H' => r = v ∧ H' = H) := by
  refine ao_keep fun U φ V w ρc hh hr => ?_
  have h1 := hr x (by simp [ho, Op.operands])
  rw [hx] at h1
  obtain ⟨h1, _⟩ := h1.inv_ref
  obtain ⟨u, h2, h3⟩ := run_load_ref hT (hh.blk id b hb) hi h
  rw [hs] at h2
  exact ⟨u, by simp [execOp, ho, h1, Instr.loadAt, Instr.sureAddr, h2], h3⟩
/-- a part of an element is written -/
def splice (cs : List AV) (off : Nat) (new : List AV) : List AV := cs.take off ++ new ++ cs.drop (off + new.length)
def Blk.put (b : Blk) (i off : Nat) (new : List AV) : Blk := { b with g := fun j => bif Nat.beq j i then splice (b.g i) off new else b.g j }
theorem ao_store (hT : TTok P T) (t : TypeId) (x y : Operand) (ho : o.op = .store t x y) {ti : TI} {id sz i off : Nat} {b : Blk} {new : List AV} (hx : ρ x = .ref id sz i off) (hb : H[id]? = some (some b)) (hs : b.sz = sz) (hi : i < b.n)
    (hti : tget T t = some ti) (hy : acells (ρ y) = some new) (hl : new.length = ti.size) (hfit : off + new.length ≤ sz) : AO P q k0 o ρ H (fun r H' => r = .any ∧ H' = H.set id (some (b.put i off new))) := by
  subst hs
  intro B U φ V w ρc hq g hr hf
  have h1 := hr x (by simp [ho, Op.operands])
  have h2 := hr y (by simp [ho, Op.operands])
  rw [hx] at h1
  obtain ⟨h1, _⟩ := h1.inv_ref
  obtain ⟨us, hu, hrel, hc1⟩ := acells_ok hy h2
  obtain ⟨cur, hc, hcs, hbn, hpm, hgl, hcell⟩ := g.heap.blk id b hb
  have hul : us.length = new.length := hrel.1
  have hbound : i * b.sz + off + us.length ≤ cur.size := by
    have : (i + 1) * b.sz ≤ (φ id).2 * b.sz := Nat.mul_le_mul_right _ (by omega)
    rw [Nat.add_mul] at this; omega
  have hst := run_storeCells_at P (φ id).1 (i * b.sz + off) b.ety us 0 cur w hc (by simpa using hbound) hc1
  simp only [Nat.add_zero] at hst
  have hsz := tt_size hT hti w
  have hrun : (execOp ρc o).run P w = .ok .skip (w.setRow (φ id).1 (cur.toList.take (i * b.sz + off) ++ us ++ cur.toList.drop (i * b.sz + off + us.length)).toArray) := by
    have e1 : us.length = ti.size := by omega
    simp [execOp, ho, h1, Instr.storeAt, Instr.sureAddr, storeVar, hu, hsz, e1, hst]
  rw [hrun]
  obtain ⟨g', st⟩ := set_step (b' := b.put i off new) g hb (w' := w.setRow (φ id).1 (cur.toList.take (i * b.sz + off) ++ us ++ cur.toList.drop (i * b.sz + off + us.length)).toArray) rfl rfl rfl (by simp [World.setRow]) (fun k hk => setRow_other w _ _ _ hk) (fun vup => by
    refine ⟨_, setRow_heap w _ cur _ _ _ hc, ?_, hbn, hpm, fun j hj => ?_, fun j l z hj hz => ?_⟩
    · show _ = (φ id).2 * b.sz
      simp; omega
    · show (bif Nat.beq j i then splice (b.g i) off new else b.g j).length = b.sz
      cases hji : Nat.beq j i with
      | true => simp only [cond_true, splice, List.length_append, List.length_take, List.length_drop, hgl i hi]; omega
      | false => exact hgl j hj
    · have hz' : (bif Nat.beq j i then splice (b.g i) off new else b.g j)[l]? = some z := hz
      have hget : ∀ k, (cur.toList.take (i * b.sz + off) ++ us ++ cur.toList.drop (i * b.sz + off + us.length)).toArray[k]? = if k < i * b.sz + off then cur[k]? else if k < i * b.sz + off + us.length then us[k - (i * b.sz + off)]? else cur[k]? := by
        intro k
        have hlt : (cur.toList.take (i * b.sz + off)).length = i * b.sz + off := by simp; omega
        simp only [List.getElem?_toArray]
        rcases Nat.lt_or_ge k (i * b.sz + off) with h | h
        · rw [if_pos h, List.getElem?_append_left (by simp; omega), List.getElem?_append_left (by omega), List.getElem?_take, if_pos h]; simp
        · rw [if_neg (by omega)]
          rcases Nat.lt_or_ge k (i * b.sz + off + us.length) with h' | h'
          · rw [if_pos h', List.getElem?_append_left (by simp; omega), List.getElem?_append_right (by omega), hlt]
          · rw [if_neg (by omega), List.getElem?_append_right (by simp; omega), List.getElem?_drop]
            simp only [List.length_append, hlt]
            rw [show i * b.sz + off + us.length + (k - (i * b.sz + off + us.length)) = k by omega]; simp
      have hll : l < b.sz := by
        have := (List.getElem?_eq_some_iff.1 hz').1
        cases hji : Nat.beq j i with
        | true => rw [hji] at this; simp only [cond_true, splice, List.length_append, List.length_take, List.length_drop, hgl i hi] at this; omega
        | false => rw [hji] at this; rw [cond_false, hgl j hj] at this; exact this
      cases hji : Nat.beq j i with
      | true =>
        have hji := Nat.eq_of_beq_eq_true hji
        subst hji
        rw [show Nat.beq j j = true by simp, cond_true] at hz'
        simp only [splice] at hz'
        have htl : ((b.g j).take off).length = off := by simp [hgl j hi]; omega
        show ∃ u, (_ : Array Value)[j * b.sz + l]? = some u ∧ _
        rw [hget]
        rcases Nat.lt_or_ge l off with h | h
        · rw [if_pos (by omega)]
          rw [List.getElem?_append_left (by simp [hgl j hi]; omega), List.getElem?_append_left (by omega), List.getElem?_take, if_pos h] at hz'
          obtain ⟨u, k1, k2, k3⟩ := hcell j l z hi hz'
          exact ⟨u, k1, k2, vup _ _ k3⟩
        · rw [if_neg (by omega)]
          rcases Nat.lt_or_ge l (off + new.length) with h' | h'
          · rw [if_pos (by omega), show j * b.sz + l - (j * b.sz + off) = l - off by omega]
            rw [List.getElem?_append_left (by simp [hgl j hi]; omega), List.getElem?_append_right (by omega), htl] at hz'
            obtain ⟨u, k1, k2⟩ := hrel.get hz'
            exact ⟨u, k1, hc1 u (List.mem_of_getElem? k1), vup _ _ k2⟩
          · rw [if_neg (by omega)]
            rw [List.getElem?_append_right (by simp [hgl j hi]; omega), List.getElem?_drop] at hz'
            simp only [List.length_append, htl] at hz'
            rw [show off + new.length + (l - (off + new.length)) = l by omega] at hz'
            obtain ⟨u, k1, k2, k3⟩ := hcell j l z hi hz'
            exact ⟨u, k1, k2, vup _ _ k3⟩
      | false =>
        rw [hji, cond_false] at hz'
        have hne : j ≠ i := fun e => by rw [e] at hji; simp at hji
        obtain ⟨u, k1, k2, k3⟩ := hcell j l z hj hz'
        refine ⟨u, ?_, k2, vup _ _ k3⟩
        show (_ : Array Value)[j * b.sz + l]? = some u
        rw [hget]
        rcases Nat.lt_or_ge j i with h | h
        · have : (j + 1) * b.sz ≤ i * b.sz := Nat.mul_le_mul_right _ h
          rw [Nat.add_mul] at this
          rw [if_pos (by omega)]; exact k1
        · have : (i + 1) * b.sz ≤ j * b.sz := Nat.mul_le_mul_right _ (by omega)
          rw [Nat.add_mul] at this
          rw [if_neg (by omega), if_neg (by omega)]; exact k1)
  exact ⟨.any, U, φ, V, _, ⟨rfl, rfl⟩, g', .any _, st⟩
end ops
end Go.Proofs.Ytphjglbbhanmpaa.Ab
