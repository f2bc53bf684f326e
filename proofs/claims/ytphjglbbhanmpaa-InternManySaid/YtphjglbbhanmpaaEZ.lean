/- Maps that never change: looking up; a literal whose order is drawn. -/
import Derived.Test.YtphjglbbhanmpaaEY
import Derived.MapKept
import Derived.WideKeyRuns
import Derived.Carry
namespace Go.Proofs.Ytphjglbbhanmpaa.Ab
open Go Go.RowKit
section
variable {P : Program}
/-- a key that may be asked for -/
def KeyC (P : Program) (kt : TypeId) (k : Value) : Prop := ∀ (em : Bool) (w : World), (Instr.checkKey em 10000 kt k).run P w = .ok () w
theorem keyC_int {kt : TypeId} {q : IntKind} (h : P.underlying kt = some (.int q)) (k : Value) : KeyC P kt k := by
  intro em w
  obtain ⟨m, hm⟩ : ∃ m, (10000 : Nat) = m + 1 := ⟨9999, rfl⟩
  rw [hm]
  simp [Instr.checkKey, run_underlying h]
/-- what looking for a key in a list of entries finds -/
def Finds (P : Program) (kt : TypeId) (k : Value) (es : List MapEntry) (b : MapEntry → Bool) : Prop :=
  ∃ r, (∀ w, (Instr.findKey kt k es).run P w = .ok r w) ∧ match r with
    | none => ∀ e ∈ es, b e = false
    | some (_, v) => ∃ e ∈ es, b e = true ∧ v = e.val
theorem finds_int {kt : TypeId} {q : IntKind} (hu : P.underlying kt = some (.int q)) {n : Int} {es : List MapEntry} {b : MapEntry → Bool} (h : ∀ e ∈ es, ∃ m, e.key = .int .i64 m ∧ b e = (n == m)) : Finds P kt (.int .i64 n) es b := by
  have key : ∀ (es : List MapEntry) (i : Nat), (∀ e ∈ es, ∃ m, e.key = .int .i64 m ∧ b e = (n == m)) → ∃ r, Instr.findNow (.int q) (.int .i64 n) es i = some r ∧ match r with
      | none => ∀ e ∈ es, b e = false
      | some (_, v) => ∃ e ∈ es, b e = true ∧ v = e.val := by
    intro es
    induction es with
    | nil => exact fun i _ => ⟨none, rfl, fun e he => by cases he⟩
    | cons e es ih =>
      intro i h
      obtain ⟨m, hm, hb⟩ := h e (List.mem_cons_self ..)
      cases hx : (n == m) with
      | true => exact ⟨some (i, e.val), by simp [Instr.findNow, Instr.sameNow, hm, hx], e, List.mem_cons_self .., by rw [hb, hx], rfl⟩
      | false =>
        obtain ⟨r, h1, h2⟩ := ih (i + 1) fun e' he => h e' (List.mem_cons_of_mem _ he)
        refine ⟨r, ?_, ?_⟩
        · simp only [Instr.findNow, Instr.sameNow, hm, if_true, hx]; exact h1
        · cases r with
          | none =>
            exact fun e' he => by
              rcases List.mem_cons.1 he with rfl | he
              · rw [hb, hx]
              · exact h2 e' he
          | some p => obtain ⟨e', he, h3⟩ := h2; exact ⟨e', List.mem_cons_of_mem _ he, h3⟩
  obtain ⟨r, h1, h2⟩ := key es 0 h
  refine ⟨r, fun w => ?_, h2⟩
  exact MapKept.run_findKey hu h1
/-- the keys of a map against one that is asked for: which is it? -/
def Asked (P : Program) (kt : TypeId) (ks : List Value) (k : Value) (bs : List Bool) : Prop :=
  KeyC P kt k ∧ bs.length = ks.length ∧ ∀ es : List MapEntry, (∀ e ∈ es, e.key ∈ ks) → ∃ b : Value → Bool, Finds P kt k es (fun e => b e.key) ∧ ∀ (i : Nat) x y, ks[i]? = some x → bs[i]? = some y → b x = y
theorem asked_int {kt : TypeId} {q : IntKind} (hu : P.underlying kt = some (.int q)) (ns : List Int) (n : Int) {bs : List Bool} (h : ns.map (fun m => (n == m)) = bs) : Asked P kt (ns.map fun m => .int .i64 m) (.int .i64 n) bs := by
  subst h
  refine ⟨keyC_int hu _, by simp, fun es he => ?_⟩
  refine ⟨fun x => match x with | .int _ m => (n == m) | _ => false, finds_int hu fun e hm => ?_, fun i x y hx hy => ?_⟩
  · obtain ⟨m, _, hxe⟩ := List.mem_map.1 (he e hm)
    exact ⟨m, hxe.symm, by rw [← hxe]⟩
  · rw [List.getElem?_map] at hx hy
    cases hk : ns[i]? with
    | none => rw [hk] at hx; cases hx
    | some z => rw [hk] at hx hy; cases hx; cases hy; rfl
section
variable {q : Bool} {k0 : Nat} {H : AH} {o : Oper} {ρ : Operand → AV}
/-- it is there -/
theorem ao_look (t : TypeId) (x ix : Operand) (ho : o.op = .lookup t x ix true) {kt et : TypeId} (hm : P.underlying t = some (.map kt et)) {ks : List Value} {vs : List AV} (hx : ρ x = .mp ks vs) {k : Value} (hk : ∀ U φ V w v, VRel U φ V w (ρ ix) v → v = k) {bs : List Bool} (ha : Asked P kt ks k bs)
    (p : Nat) {v : AV} (hp : vs[p]? = some v) (hb : ∀ i : Nat, bs[i]? = some true → i = p) (hbp : bs[p]? = some true) : AO P q k0 o ρ H (fun r' H' => r' = .tup [v, .b true] ∧ H' = H) := by
  refine ao_keep fun U φ V w ρc hh hr => ?_
  have h1 := hr x (by simp [ho, Op.operands])
  have h2 := hk _ _ _ _ _ (hr ix (by simp [ho, Op.operands]))
  rw [hx] at h1
  obtain ⟨b, es, clock, us, hbx, hV, hblk, hl, hes, hks, hus⟩ := h1.inv_mp
  obtain ⟨hc, hbl, hf⟩ := ha
  obtain ⟨bb, ⟨r, hrun, hr2⟩, hbb⟩ := hf es.toList fun e he => by
    obtain ⟨i, h3, _⟩ := hes e he; exact List.mem_of_getElem? h3
  have hbk : ∀ (i : Nat) x, ks[i]? = some x → bb x = true → i = p := fun i x h3 h4 => by
    have hi := (List.getElem?_eq_some_iff.1 h3).1
    have h5 : bs[i]? = some (bs[i]'(by omega)) := List.getElem?_eq_getElem _
    have h6 := hbb i x _ h3 h5
    rw [h4] at h6
    exact hb i (by rw [h5, ← h6])
  cases r with
  | none =>
    exfalso
    have hpk : p < ks.length := by rw [← hbl]; exact (List.getElem?_eq_some_iff.1 hbp).1
    obtain ⟨e, he, h3⟩ := hks ks[p] (List.getElem_mem hpk)
    have h4 : bb e.key = false := hr2 e he
    rw [h3, hbb p ks[p] true (List.getElem?_eq_getElem hpk) hbp] at h4
    cases h4
  | some pr =>
    obtain ⟨j, u⟩ := pr
    obtain ⟨e, he, h3, rfl⟩ := hr2
    obtain ⟨i, h4, h5⟩ := hes e he
    have hip := hbk i e.key h4 h3
    subst hip
    refine ⟨.tuple #[e.val, .bool true], ?_, ?_⟩
    · have hck : (Instr.checkKey es.isEmpty 10000 kt k).run P w = .ok () w := hc _ w
      simp only [execOp, ho, hbx, h2, Instr.lookup, Sem.run_bind, run_underlying hm, Result.andThen_ok, MapKept.run_getObj_map hblk, Sem.run_pure, hck, hrun w, if_true]
    · exact .tup [v, .b true] [e.val, .bool true] rfl fun i' x u hx hu => by
        rcases i' with _ | _ | i'
        · cases hx; cases hu; exact hus i v e.val hp h5
        · cases hx; cases hu; exact .p _
        · simp at hx
end
section
variable {q : Bool} {n k0 : Nat} {ops : Array Oper} {os : List Oper} {K : AF → AH → Prop} {F : AF} {H N : AH} {d : Nat} {ty : TypeId} {pos : String} {after : Array Edge} {gd : Option (Nat × Bool)}
theorem is_p {k : Value} (U : Nat → Prop) (φ : Pl) (V : Nat → Prop) (w : World) (v : Value) (h : VRel U φ V w (.p k) v) : v = k := h.inv_p
theorem sq_look {t : TypeId} {x ix : Operand} {kt et : TypeId} (hm : P.underlying t = some (.map kt et)) {ks : List Value} {vs : List AV} (hg : gst ops F gd = some true) (hd : dok n (some d) = true) (hx : aev F x = .mp ks vs) {k : Value} (hk : ∀ U φ V w v, VRel U φ V w (aev F ix) v → v = k) {bs : List Bool} (ha : Asked P kt ks k bs)
    (p : Nat) {v : AV} (hp : vs[p]? = some v) (hb : ∀ i : Nat, bs[i]? = some true → i = p) (hbp : bs[p]? = some true) (h : SQ P q n k0 ops os K ((d, .tup [v, .b true]) :: F) H) : SQ P q n k0 ops (⟨some d, .lookup t x ix true, ty, pos, after, gd⟩ :: os) K F H :=
  sq_ao hg rfl hd (AO.mono (ao_look t x ix rfl hm hx hk ha p hp hb hbp) fun r H' e => by rw [e.1, e.2]; exact h)
end
/-- a new map that nobody changes -/
theorem map_step {k0 B : Nat} {U : Nat → Prop} {φ : Pl} {V : Nat → Prop} {w : World} {H : AH} (g : Good k0 B U φ V w H) (es : Array MapEntry) (clock : Nat) :
    Good k0 B U φ (fun b => V b ∨ b = w.heap.size) (w.alloc (.map es clock)) H ∧ Step B U φ V w H U φ (fun b => V b ∨ b = w.heap.size) (w.alloc (.map es clock)) H := by
  have old : ∀ b, b < w.heap.size → (w.alloc (.map es clock)).heap[b]? = w.heap[b]? := fun b hb => heap_alloc_old w _ hb
  have blt : ∀ id b, H[id]? = some (some b) → (φ id).1 < w.heap.size := fun id b hb => by
    obtain ⟨cur, hc, _⟩ := g.heap.blk id b hb
    exact (Array.getElem?_eq_some_iff.1 hc).1
  have st : Step B U φ V w H U φ (fun b => V b ∨ b = w.heap.size) (w.alloc (.map es clock)) H :=
    ⟨rfl, rfl, rfl, by simp, fun b hb _ => old b hb, fun b h => .inl h, fun b hb h => by
      rcases h with h | h
      · exact h
      · have := g.base; omega, fun _ _ => rfl, Nat.le_refl _, fun _ h => h, fun _ h => .inl h, fun _ _ h => h, fun id h => .inl ⟨id, h, rfl⟩⟩
  refine ⟨⟨⟨?_, g.heap.inj, ?_, ?_, g.heap.ult, g.heap.tabs st⟩, by have := g.base; simp; omega, g.own, g.ownk⟩, st⟩
  · intro id b hb
    obtain ⟨c, hc, h1, h2, h3, h4, h5⟩ := g.heap.blk id b hb
    refine ⟨c, (old _ (blt id b hb)).trans hc, h1, h2, h3, h4, fun i j x hi hx => ?_⟩
    obtain ⟨u, hu, h1, hr⟩ := h5 i j x hi hx
    exact ⟨u, hu, h1, hr.step g.heap st⟩
  · rintro id hl (h | h)
    · exact g.heap.apart id hl h
    · obtain ⟨b, hb⟩ := hl
      have := blt id b hb; omega
  · rintro b (h | h)
    · have := g.heap.vlt b h; simp; omega
    · subst h; simp
theorem set_alloc (w : World) (o o' : Obj) : { (w.alloc o) with heap := (w.alloc o).heap.setIfInBounds w.heap.size o' } = w.alloc o' := by
  simp only [World.alloc]
  congr 1
  apply Array.ext_getElem?
  intro i
  rw [Array.getElem?_setIfInBounds]
  by_cases h : w.heap.size = i
  · subst h; simp
  · rw [if_neg h, Array.getElem?_push, Array.getElem?_push, if_neg (Ne.symm h), if_neg (Ne.symm h)]
/-- a literal's entry -/
theorem run_insert {mt kt et : TypeId} (hmt : P.underlying mt = some (.map kt et)) (w : World) (es : Array MapEntry) (clock : Nat) (k v : Value) (hk : KeyC P kt k) (hf : Finds P kt k es.toList fun _ => false) :
    (Instr.mapUpdate mt (.map (some w.heap.size)) k v).run P (w.alloc (.map es clock)) = .ok () (w.alloc (.map (es.push { key := k, val := v, born := clock }) (clock + 1))) := by
  have hb : (w.alloc (.map es clock)).heap[w.heap.size]? = some (.map es clock) := (MapKept.heap_alloc w _).1
  obtain ⟨r, h1, h2⟩ := hf
  have hck : (Instr.checkKey false 10000 kt k).run P (w.alloc (.map es clock)) = .ok () (w.alloc (.map es clock)) := hk _ _
  cases r with
  | some p =>
    obtain ⟨_, _, h3, _⟩ := h2
    cases h3
  | none =>
    simp only [Instr.mapUpdate, Sem.run_bind, run_underlying hmt, Result.andThen_ok, MapKept.run_getObj_map hb, hck, h1, MapKept.run_setObj_map _ hb, set_alloc]
end
end Go.Proofs.Ytphjglbbhanmpaa.Ab
