/- Maps that never change: looking up; a literal whose order is drawn. -/
import Derived.Test.YtdddkoacolglkaaDoorEY
import Derived.MapKept
import Derived.WideKeyRuns
import Derived.Carry
namespace Go.Proofs.YtdddkoacolglkaaDoor.Ab
open Go Go.RowKit
section
variable {P : Program}
/-- a key that may be asked for -/
def KeyC (P : Program) (kt : TypeId) (k : Value) : Prop := ∀ (em : Bool) (w : World), (Instr.checkKey em 10000 kt k).run P w = .ok () w
theorem keyC_int {kt : TypeId} {q : IntKind} (h : P.underlying kt = some (.int q)) (k : Value) : KeyC P kt k := by
  intro em w
  obtain ⟨m, hm⟩ : ∃ m, (10000 : Nat) = m + 1 := ⟨9999, rfl⟩
  rw [hm]
  simp [Instr.checkKey, run_underlying h]
def flatKey (P : Program) (kt : TypeId) (n : Nat) : Bool := match P.underlying kt with
  | some (.struct fs) => fs.toList.all (fun f => f.name != "_" && (match P.underlying f.type with | some (.int _) => true | _ => false) && Nat.blt f.offset n)
  | _ => false
theorem keyC_flat {kt : TypeId} {n : Nat} (hf : flatKey P kt n = true) (cs : List Value) (hn : cs.length = n) : KeyC P kt (.agg cs.toArray) := by
  intro em w
  obtain ⟨fs, h, hf⟩ : ∃ fs, P.underlying kt = some (.struct fs) ∧ fs.toList.all (fun f => f.name != "_" && (match P.underlying f.type with | some (.int _) => true | _ => false) && Nat.blt f.offset n) = true := by
    unfold flatKey at hf
    split at hf
    · rename_i fs h; exact ⟨fs, h, hf⟩
    · cases hf
  obtain ⟨m, hm⟩ : ∃ m, (10000 : Nat) = m + 1 + 1 := ⟨9998, rfl⟩
  rw [hm, Instr.checkKey]
  simp only [Sem.run_bind, run_underlying h, Result.andThen_ok]
  rw [← Array.forIn_toList]
  generalize fs.toList = L at hf
  induction L with
  | nil => simp
  | cons f L ih =>
    simp only [List.all_cons, Bool.and_eq_true, bne_iff_ne, ne_eq] at hf
    obtain ⟨⟨⟨h1, h2⟩, h3⟩, h4⟩ := hf
    have h3 : f.offset < cs.length := by rw [hn]; simpa [Nat.blt_eq] using h3
    cases hu : P.underlying f.type with
    | none => rw [hu] at h2; cases h2
    | some d =>
      rw [hu] at h2
      cases d <;> simp only [Bool.false_eq_true] at h2
      have p1 := run_part_plain (P := P) w (e := f.type) (xs := cs.toArray) (off := f.offset) (v := cs[f.offset]) (by simp [Program.plainKey, hu]) (by simp [h3])
      have p2 : (Instr.checkKey em (m + 1) f.type cs[f.offset]).run P w = .ok () w := by
        simp [Instr.checkKey, run_underlying hu]
      simp only [List.forIn_cons, Sem.run_bind, h1, ne_eq, not_false_eq_true, if_true, Result.andThen_ok, p1, p2, Sem.run_pure]
      exact ih h4
/-- what looking for a key in a list of entries finds -/
def Finds (P : Program) (kt : TypeId) (k : Value) (es : List MapEntry) (b : MapEntry → Bool) : Prop :=
  ∃ r, (∀ w, (Instr.findKey kt k es).run P w = .ok r w) ∧ match r with
    | none => ∀ e ∈ es, b e = false
    | some (_, v) => ∃ e ∈ es, b e = true ∧ v = e.val
theorem asking {kt : TypeId} {k : Value} (b : MapEntry → Bool) : ∀ (es : List MapEntry) (i : Nat), (∀ e ∈ es, ∀ w, (Op.equal kt k e.key).run P w = .ok (b e) w) → ∃ r, (∀ w, (Instr.findAsking kt k es i).run P w = .ok r w) ∧ match r with
    | none => ∀ e ∈ es, b e = false
    | some (_, v) => ∃ e ∈ es, b e = true ∧ v = e.val
  | [], i, h => ⟨none, fun w => by simp [Instr.findAsking], fun e he => by cases he⟩
  | e :: es, i, h => by
    have h0 := h e (List.mem_cons_self ..)
    cases hb : b e with
    | true =>
      refine ⟨some (i, e.val), fun w => ?_, e, List.mem_cons_self .., hb, rfl⟩
      simp [Instr.findAsking, h0 w, hb]
    | false =>
      obtain ⟨r, h1, h2⟩ := asking b es (i + 1) fun e' he => h e' (List.mem_cons_of_mem _ he)
      refine ⟨r, fun w => ?_, ?_⟩
      · simp only [Instr.findAsking, Sem.run_bind, h0 w, hb, Result.andThen_ok, Bool.false_eq_true, if_false, h1 w]
      · cases r with
        | none =>
          exact fun e' he => by
            rcases List.mem_cons.1 he with rfl | he
            · exact hb
            · exact h2 e' he
        | some p => obtain ⟨e', he, h3⟩ := h2; exact ⟨e', List.mem_cons_of_mem _ he, h3⟩
theorem finds_wide {kt : TypeId} {k : Value} {es : List MapEntry} {b : MapEntry → Bool} (ht : isAggT P kt = true) (h : ∀ e ∈ es, ∀ w, (Op.equal kt k e.key).run P w = .ok (b e) w) : Finds P kt k es b := by
  obtain ⟨r, h1, h2⟩ := asking b es 0 h
  refine ⟨r, fun w => ?_, h2⟩
  rw [run_findKey_eq w (by unfold isAggT at ht; split at ht <;> simp_all) k es]
  exact h1 w
theorem finds_int {kt : TypeId} {q : IntKind} (hu : P.underlying kt = some (.int q)) {n : Int} {es : List MapEntry} {b : MapEntry → Bool} (h : ∀ e ∈ es, ∃ m, e.key = .int .i64 m ∧ b e = (n == m)) : Finds P kt (.int .i64 n) es b := by
  have key : ∀ (es : List MapEntry) (i : Nat), (∀ e ∈ es, ∃ m, e.key = .int .i64 m ∧ b e = (n == m)) → ∃ r, Instr.findNow (.int q) (.int .i64 n) es i = some r ∧ match r with
      | none => ∀ e ∈ es, b e = false
      | some (_, v) => ∃ e ∈ es, b e = true ∧ v = e.val := by
    intro es
    induction es with
    | nil => exact fun i _ => ⟨none, rfl, fun e he => by cases he⟩
    | cons e es ih =>
      intro i h
      obtain ⟨m, hm, hb⟩ := h e (List.mem_cons_self ..)
      cases hx : (n == m) with
      | true => exact ⟨some (i, e.val), by simp [Instr.findNow, Instr.sameNow, hm, hx], e, List.mem_cons_self .., by rw [hb, hx], rfl⟩
      | false =>
        obtain ⟨r, h1, h2⟩ := ih (i + 1) fun e' he => h e' (List.mem_cons_of_mem _ he)
        refine ⟨r, ?_, ?_⟩
        · simp only [Instr.findNow, Instr.sameNow, hm, if_true, hx]; exact h1
        · cases r with
          | none =>
            exact fun e' he => by
              rcases List.mem_cons.1 he with rfl | he
              · rw [hb, hx]
              · exact h2 e' he
          | some p => obtain ⟨e', he, h3⟩ := h2; exact ⟨e', List.mem_cons_of_mem _ he, h3⟩
  obtain ⟨r, h1, h2⟩ := key es 0 h
  refine ⟨r, fun w => ?_, h2⟩
  exact MapKept.run_findKey hu h1
/-- the keys of a map against one that is asked for: which is it? -/
def Asked (P : Program) (kt : TypeId) (ks : List Value) (k : Value) (bs : List Bool) : Prop :=
  KeyC P kt k ∧ bs.length = ks.length ∧ ∀ es : List MapEntry, (∀ e ∈ es, e.key ∈ ks) → ∃ b : Value → Bool, Finds P kt k es (fun e => b e.key) ∧ ∀ (i : Nat) x y, ks[i]? = some x → bs[i]? = some y → b x = y
theorem asked_wide {kt : TypeId} {kcs : List (List Value)} {c : List Value} {bs : List Bool} (hc : KeyC P kt (.agg c.toArray)) (ht : isAggT P kt = true) (h : kcs.map (fun x => ceq P 10 kt c x) = bs.map some) : Asked P kt (kcs.map fun x => .agg x.toArray) (.agg c.toArray) bs := by
  have hl : bs.length = kcs.length := by have := congrArg List.length h; simpa using this.symm
  have hs : ∀ l, shaped P kt l = .agg l.toArray := fun l => by
    unfold isAggT at ht
    unfold shaped
    split at ht <;> simp_all
  have at_ : ∀ (i : Nat) x y, kcs[i]? = some x → bs[i]? = some y → ceq P 10 kt c x = some y := fun i x y hx hy => by
    have := congrArg (fun l => l[i]?) h
    simp only [List.getElem?_map, hx, hy, Option.map_some, Option.some.injEq] at this
    exact this
  have uneq : ∀ l l' : List Value, (Value.agg l.toArray = Value.agg l'.toArray) → l = l' := fun l l' e => by
    have := Value.agg.inj e
    exact congrArg Array.toList this
  refine ⟨hc, by simpa using hl, fun es he => ?_⟩
  refine ⟨fun x => match x with | .agg a => (ceq P 10 kt c a.toList).getD false | _ => false, finds_wide ht fun e hm w => ?_, fun i x y hx hy => ?_⟩
  · obtain ⟨x, hx, hxe⟩ := List.mem_map.1 (he e hm)
    obtain ⟨i, hi, hix⟩ := List.mem_iff_getElem.1 hx
    have h1 := at_ i x (bs[i]'(by omega)) (by rw [← hix]; exact List.getElem?_eq_getElem hi) (List.getElem?_eq_getElem _)
    have h2 := run_ceq 9990 10 kt c x _ w h1
    rw [hs, hs] at h2
    rw [← hxe]
    simp only [h1, Option.getD_some]
    exact h2
  · rw [List.getElem?_map] at hx
    cases hk : kcs[i]? with
    | none => rw [hk] at hx; cases hx
    | some z =>
      rw [hk] at hx; cases hx
      simp only [at_ i z y hk hy, Option.getD_some]
theorem asked_int {kt : TypeId} {q : IntKind} (hu : P.underlying kt = some (.int q)) (ns : List Int) (n : Int) {bs : List Bool} (h : ns.map (fun m => (n == m)) = bs) : Asked P kt (ns.map fun m => .int .i64 m) (.int .i64 n) bs := by
  subst h
  refine ⟨keyC_int hu _, by simp, fun es he => ?_⟩
  refine ⟨fun x => match x with | .int _ m => (n == m) | _ => false, finds_int hu fun e hm => ?_, fun i x y hx hy => ?_⟩
  · obtain ⟨m, _, hxe⟩ := List.mem_map.1 (he e hm)
    exact ⟨m, hxe.symm, by rw [← hxe]⟩
  · rw [List.getElem?_map] at hx hy
    cases hk : ns[i]? with
    | none => rw [hk] at hx; cases hx
    | some z => rw [hk] at hx hy; cases hx; cases hy; rfl
section
variable {q : Bool} {k0 : Nat} {H : AH} {o : Oper} {ρ : Operand → AV}
/-- it is there -/
theorem ao_look (t : TypeId) (x ix : Operand) (ho : o.op = .lookup t x ix true) {kt et : TypeId} (hm : P.underlying t = some (.map kt et)) {ks : List Value} {vs : List AV} (hx : ρ x = .mp ks vs) {k : Value} (hk : ∀ U φ V w v, VRel U φ V w (ρ ix) v → v = k) {bs : List Bool} (ha : Asked P kt ks k bs)
    (p : Nat) {v : AV} (hp : vs[p]? = some v) (hb : ∀ i : Nat, bs[i]? = some true → i = p) (hbp : bs[p]? = some true) : AO P q k0 o ρ H (fun r' H' => r' = .tup [v, .b true] ∧ H' = H) := by
  refine ao_keep fun U φ V w ρc hh hr => ?_
  have h1 := hr x (by simp [ho, Op.operands])
  have h2 := hk _ _ _ _ _ (hr ix (by simp [ho, Op.operands]))
  rw [hx] at h1
  obtain ⟨b, es, clock, us, hbx, hV, hblk, hl, hes, hks, hus⟩ := h1.inv_mp
  obtain ⟨hc, hbl, hf⟩ := ha
  obtain ⟨bb, ⟨r, hrun, hr2⟩, hbb⟩ := hf es.toList fun e he => by
    obtain ⟨i, h3, _⟩ := hes e he; exact List.mem_of_getElem? h3
  have hbk : ∀ (i : Nat) x, ks[i]? = some x → bb x = true → i = p := fun i x h3 h4 => by
    have hi := (List.getElem?_eq_some_iff.1 h3).1
    have h5 : bs[i]? = some (bs[i]'(by omega)) := List.getElem?_eq_getElem _
    have h6 := hbb i x _ h3 h5
    rw [h4] at h6
    exact hb i (by rw [h5, ← h6])
  cases r with
  | none =>
    exfalso
    have hpk : p < ks.length := by rw [← hbl]; exact (List.getElem?_eq_some_iff.1 hbp).1
    obtain ⟨e, he, h3⟩ := hks ks[p] (List.getElem_mem hpk)
    have h4 : bb e.key = false := hr2 e he
    rw [h3, hbb p ks[p] true (List.getElem?_eq_getElem hpk) hbp] at h4
    cases h4
  | some pr =>
    obtain ⟨j, u⟩ := pr
    obtain ⟨e, he, h3, rfl⟩ := hr2
    obtain ⟨i, h4, h5⟩ := hes e he
    have hip := hbk i e.key h4 h3
    subst hip
    refine ⟨.tuple #[e.val, .bool true], ?_, ?_⟩
    · have hck : (Instr.checkKey es.isEmpty 10000 kt k).run P w = .ok () w := hc _ w
      simp only [execOp, ho, hbx, h2, Instr.lookup, Sem.run_bind, run_underlying hm, Result.andThen_ok, MapKept.run_getObj_map hblk, Sem.run_pure, hck, hrun w, if_true]
    · exact .tup [v, .b true] [e.val, .bool true] rfl fun i' x u hx hu => by
        rcases i' with _ | _ | i'
        · cases hx; cases hu; exact hus i v e.val hp h5
        · cases hx; cases hu; exact .p _
        · simp at hx
/-- it is not there -/
theorem ao_look0 (t : TypeId) (x ix : Operand) (ho : o.op = .lookup t x ix true) {kt et : TypeId} (hm : P.underlying t = some (.map kt et)) {ks : List Value} {vs : List AV} (hx : ρ x = .mp ks vs) {k : Value} (hk : ∀ U φ V w v, VRel U φ V w (ρ ix) v → v = k) {bs : List Bool} (ha : Asked P kt ks k bs)
    (hb : ∀ i : Nat, bs[i]? ≠ some true) {info : TypeInfo} {z : Value} (hi : P.info? et = some info) (hz : info.zero = some z) : AO P q k0 o ρ H (fun r' H' => r' = .tup [.p z, .b false] ∧ H' = H) := by
  refine ao_keep fun U φ V w ρc hh hr => ?_
  have h1 := hr x (by simp [ho, Op.operands])
  have h2 := hk _ _ _ _ _ (hr ix (by simp [ho, Op.operands]))
  rw [hx] at h1
  obtain ⟨b, es, clock, us, hbx, hV, hblk, hl, hes, hks, hus⟩ := h1.inv_mp
  obtain ⟨hc, hbl, hf⟩ := ha
  obtain ⟨bb, ⟨r, hrun, hr2⟩, hbb⟩ := hf es.toList fun e he => by
    obtain ⟨i, h3, _⟩ := hes e he; exact List.mem_of_getElem? h3
  cases r with
  | none =>
    refine ⟨.tuple #[z, .bool false], ?_, ?_⟩
    · have hz' : (zeroValue et).run P w = .ok z w := by simp [zeroValue, typeInfo, hi, hz]
      have hck : (Instr.checkKey es.isEmpty 10000 kt k).run P w = .ok () w := hc _ w
      simp only [execOp, ho, hbx, h2, Instr.lookup, Sem.run_bind, run_underlying hm, Result.andThen_ok, MapKept.run_getObj_map hblk, Sem.run_pure, hck, hrun w, hz', if_true]
    · exact .tup [.p z, .b false] [z, .bool false] rfl fun i' x u hx hu => by
        rcases i' with _ | _ | i'
        · cases hx; cases hu; exact .p _
        · cases hx; cases hu; exact .p _
        · simp at hx
  | some pr =>
    exfalso
    obtain ⟨j, u⟩ := pr
    obtain ⟨e, he, h3, rfl⟩ := hr2
    obtain ⟨i, h4, h5⟩ := hes e he
    have hil := (List.getElem?_eq_some_iff.1 h4).1
    have h6 : bs[i]? = some (bs[i]'(by omega)) := List.getElem?_eq_getElem _
    have h7 := hbb i e.key _ h4 h6
    rw [show bb e.key = true from h3] at h7
    exact hb i (by rw [h6, ← h7])
end
section
variable {q : Bool} {n k0 : Nat} {ops : Array Oper} {os : List Oper} {K : AF → AH → Prop} {F : AF} {H N : AH} {d : Nat} {ty : TypeId} {pos : String} {after : Array Edge} {gd : Option (Nat × Bool)}
theorem vals_map : ∀ (k : List Value), vals (k.map .p) = some k
  | [] => rfl
  | x :: k => by simp only [List.map_cons, vals, vals_map k]
theorem is_agg {k : List Value} (U : Nat → Prop) (φ : Pl) (V : Nat → Prop) (w : World) (v : Value) (h : VRel U φ V w (.agg (k.map .p)) v) : v = .agg k.toArray := agg_vals h (vals_map k)
theorem is_p {k : Value} (U : Nat → Prop) (φ : Pl) (V : Nat → Prop) (w : World) (v : Value) (h : VRel U φ V w (.p k) v) : v = k := h.inv_p
theorem sq_look {t : TypeId} {x ix : Operand} {kt et : TypeId} (hm : P.underlying t = some (.map kt et)) {ks : List Value} {vs : List AV} (hg : gst ops F gd = some true) (hd : dok n (some d) = true) (hx : aev F x = .mp ks vs) {k : Value} (hk : ∀ U φ V w v, VRel U φ V w (aev F ix) v → v = k) {bs : List Bool} (ha : Asked P kt ks k bs)
    (p : Nat) {v : AV} (hp : vs[p]? = some v) (hb : ∀ i : Nat, bs[i]? = some true → i = p) (hbp : bs[p]? = some true) (h : SQ P q n k0 ops os K ((d, .tup [v, .b true]) :: F) H) : SQ P q n k0 ops (⟨some d, .lookup t x ix true, ty, pos, after, gd⟩ :: os) K F H :=
  sq_ao hg rfl hd (AO.mono (ao_look t x ix rfl hm hx hk ha p hp hb hbp) fun r H' e => by rw [e.1, e.2]; exact h)
theorem rg_look {t : TypeId} {x ix : Operand} {kt et : TypeId} (hm : P.underlying t = some (.map kt et)) {ks : List Value} {vs : List AV} (hg : gst ops F gd = some true) (hd : dok n (some d) = true) (hx : aev F x = .mp ks vs) {k : Value} (hk : ∀ U φ V w v, VRel U φ V w (aev F ix) v → v = k) {bs : List Bool} (ha : Asked P kt ks k bs)
    (p : Nat) {v : AV} (hp : vs[p]? = some v) (hb : ∀ i : Nat, bs[i]? = some true → i = p) (hbp : bs[p]? = some true) (h : RG P n ops H os K ((d, .tup [v, .b true]) :: F) N) : RG P n ops H (⟨some d, .lookup t x ix true, ty, pos, after, gd⟩ :: os) K F N :=
  rg_ao (r := .tup [v, .b true]) (D := []) hg rfl hd (AO.mono (ao_look t x ix rfl hm hx hk ha p hp hb hbp) fun r H' e => by rw [e.1, e.2]; exact ⟨rfl, by simp⟩) (by rw [List.append_nil]; exact h)
theorem sq_look0 {t : TypeId} {x ix : Operand} {kt et : TypeId} (hm : P.underlying t = some (.map kt et)) {ks : List Value} {vs : List AV} (hg : gst ops F gd = some true) (hd : dok n (some d) = true) (hx : aev F x = .mp ks vs) {k : Value} (hk : ∀ U φ V w v, VRel U φ V w (aev F ix) v → v = k) {bs : List Bool} (ha : Asked P kt ks k bs)
    (hb : ∀ i : Nat, bs[i]? ≠ some true) {info : TypeInfo} {z : Value} (hi : P.info? et = some info) (hz : info.zero = some z) (h : SQ P q n k0 ops os K ((d, .tup [.p z, .b false]) :: F) H) : SQ P q n k0 ops (⟨some d, .lookup t x ix true, ty, pos, after, gd⟩ :: os) K F H :=
  sq_ao hg rfl hd (AO.mono (ao_look0 t x ix rfl hm hx hk ha hb hi hz) fun r H' e => by rw [e.1, e.2]; exact h)
theorem rg_look0 {t : TypeId} {x ix : Operand} {kt et : TypeId} (hm : P.underlying t = some (.map kt et)) {ks : List Value} {vs : List AV} (hg : gst ops F gd = some true) (hd : dok n (some d) = true) (hx : aev F x = .mp ks vs) {k : Value} (hk : ∀ U φ V w v, VRel U φ V w (aev F ix) v → v = k) {bs : List Bool} (ha : Asked P kt ks k bs)
    (hb : ∀ i : Nat, bs[i]? ≠ some true) {info : TypeInfo} {z : Value} (hi : P.info? et = some info) (hz : info.zero = some z) (h : RG P n ops H os K ((d, .tup [.p z, .b false]) :: F) N) : RG P n ops H (⟨some d, .lookup t x ix true, ty, pos, after, gd⟩ :: os) K F N :=
  rg_ao (r := .tup [.p z, .b false]) (D := []) hg rfl hd (AO.mono (ao_look0 t x ix rfl hm hx hk ha hb hi hz) fun r H' e => by rw [e.1, e.2]; exact ⟨rfl, by simp⟩) (by rw [List.append_nil]; exact h)
end
/-- a new map that nobody changes -/
theorem map_step {k0 B : Nat} {U : Nat → Prop} {φ : Pl} {V : Nat → Prop} {w : World} {H : AH} (g : Good k0 B U φ V w H) (es : Array MapEntry) (clock : Nat) :
    Good k0 B U φ (fun b => V b ∨ b = w.heap.size) (w.alloc (.map es clock)) H ∧ Step B U φ V w H U φ (fun b => V b ∨ b = w.heap.size) (w.alloc (.map es clock)) H := by
  have old : ∀ b, b < w.heap.size → (w.alloc (.map es clock)).heap[b]? = w.heap[b]? := fun b hb => heap_alloc_old w _ hb
  have blt : ∀ id b, H[id]? = some (some b) → (φ id).1 < w.heap.size := fun id b hb => by
    obtain ⟨cur, hc, _⟩ := g.heap.blk id b hb
    exact (Array.getElem?_eq_some_iff.1 hc).1
  have st : Step B U φ V w H U φ (fun b => V b ∨ b = w.heap.size) (w.alloc (.map es clock)) H :=
    ⟨rfl, rfl, rfl, by simp, fun b hb _ => old b hb, fun b h => .inl h, fun b hb h => by
      rcases h with h | h
      · exact h
      · have := g.base; omega, fun _ _ => rfl, Nat.le_refl _, fun _ h => h, fun _ h => .inl h, fun _ _ h => h, fun id h => .inl ⟨id, h, rfl⟩⟩
  refine ⟨⟨⟨?_, g.heap.inj, ?_, ?_, g.heap.ult, g.heap.tabs st⟩, by have := g.base; simp; omega, g.own, g.ownk⟩, st⟩
  · intro id b hb
    obtain ⟨c, hc, h1, h2, h3, h4, h5⟩ := g.heap.blk id b hb
    refine ⟨c, (old _ (blt id b hb)).trans hc, h1, h2, h3, h4, fun i j x hi hx => ?_⟩
    obtain ⟨u, hu, h1, hr⟩ := h5 i j x hi hx
    exact ⟨u, hu, h1, hr.step g.heap st⟩
  · rintro id hl (h | h)
    · exact g.heap.apart id hl h
    · obtain ⟨b, hb⟩ := hl
      have := blt id b hb; omega
  · rintro b (h | h)
    · have := g.heap.vlt b h; simp; omega
    · subst h; simp
theorem set_alloc (w : World) (o o' : Obj) : { (w.alloc o) with heap := (w.alloc o).heap.setIfInBounds w.heap.size o' } = w.alloc o' := by
  simp only [World.alloc]
  congr 1
  apply Array.ext_getElem?
  intro i
  rw [Array.getElem?_setIfInBounds]
  by_cases h : w.heap.size = i
  · subst h; simp
  · rw [if_neg h, Array.getElem?_push, Array.getElem?_push, if_neg (Ne.symm h), if_neg (Ne.symm h)]
/-- a literal's entry -/
theorem run_insert {mt kt et : TypeId} (hmt : P.underlying mt = some (.map kt et)) (w : World) (es : Array MapEntry) (clock : Nat) (k v : Value) (hk : KeyC P kt k) (hf : Finds P kt k es.toList fun _ => false) :
    (Instr.mapUpdate mt (.map (some w.heap.size)) k v).run P (w.alloc (.map es clock)) = .ok () (w.alloc (.map (es.push { key := k, val := v, born := clock }) (clock + 1))) := by
  have hb : (w.alloc (.map es clock)).heap[w.heap.size]? = some (.map es clock) := (MapKept.heap_alloc w _).1
  obtain ⟨r, h1, h2⟩ := hf
  have hck : (Instr.checkKey false 10000 kt k).run P (w.alloc (.map es clock)) = .ok () (w.alloc (.map es clock)) := hk _ _
  cases r with
  | some p =>
    obtain ⟨_, _, h3, _⟩ := h2
    cases h3
  | none =>
    simp only [Instr.mapUpdate, Sem.run_bind, run_underlying hmt, Result.andThen_ok, MapKept.run_getObj_map hb, hck, h1, MapKept.run_setObj_map _ hb, set_alloc]
/-- A MAP'S LITERAL IN A REGION THAT DRAWS ITS ORDER: the map, then each key and its entry; the rest comes behind -/
theorem aw_mlit {q : Bool} {n k0 : Nat} {ops : Array Oper} {Q : AQ} {F : AF} {H : AH} {id : Nat} (hm : P.follows .mixedOrders = true) (hback : backOk ops = true) (hns : Region.noSelect ops = true) {mt kt et : TypeId} {m : Tmp} {ks : List Value} {ss : List Tmp} {fs : List FuncId}
    (ht : tailOk ops (1 + 2 * ks.length) = true) (hls : ss.length = ks.length) (hlf : fs.length = ks.length) (hmn : m < n) (hnd : (m :: ss).Nodup)
    (h0 : ∃ o, ops[0]? = some o ∧ o.op = .makeMap mt none ∧ o.dst = some m ∧ o.guard = none)
    (hb : ∀ (i : Nat) k s, ks[i]? = some k → ss[i]? = some s → ∃ o, ops[1 + 2 * i]? = some o ∧ o.guard = none ∧ o.dst = some s ∧ s < n ∧ ∀ (a : Act) w, (execOp a.eval o).run P w = .ok (.value k) w)
    (hi : ∀ (i : Nat) s f, ss[i]? = some s → fs[i]? = some f → ∃ o, ops[2 + 2 * i]? = some o ∧ o.guard = none ∧ o.dst = none ∧ o.op = .insert mt (.tmp m) (.tmp s) (.func f) ∧ (∃ e ∈ o.after, Region.binds .any e = true ∧ e.on = 0) ∧ ∃ e ∈ o.after, Region.binds .any e = true ∧ e.on = 1 + 2 * i)
    (hmt : P.underlying mt = some (.map kt et)) (hck : ∀ k ∈ ks, KeyC P kt k) (hag : isAggT P kt = true) (hne : ∀ (i j : Nat) k k', i ≠ j → ks[i]? = some k → ks[j]? = some k' → ∀ w, (Op.equal kt k k').run P w = .ok false w)
    (hrest : SQ P q n k0 ops (ops.toList.drop (1 + 2 * ks.length)) (Q .normal) ((m, .mp ks (fs.map fun f => .fn (.func f) [] [])) :: (ss.map fun s => (s, AV.any)) ++ F) H) : AW P q n k0 (.region id ops true) Q F H := by
  intro B U φ V w00 a hq r00
  have hnd := List.nodup_cons.1 hnd
  have hms : ∀ (i : Nat) s, ss[i]? = some s → m ≠ s := fun i s h e => hnd.1 (e ▸ List.mem_of_getElem? h)
  have hss : ∀ (i j : Nat) s, ss[i]? = some s → ss[j]? = some s → i = j := fun i j s h1 h2 => by
    obtain ⟨h3, _⟩ := List.getElem?_eq_some_iff.1 h1
    exact (List.getElem?_inj h3 hnd.2).1 (h1.trans h2.symm)
  have hsz : 1 + 2 * ks.length < ops.size := by
    simp only [tailOk, Bool.and_eq_true, decide_eq_true_eq] at ht; exact ht.1.1.1
  refine wp_region_any hm ?_
  have st1 : Step B U φ V w00 H U φ V { w00 with drawn := w00.drawn + 1 } H := ⟨rfl, rfl, rfl, Nat.le_refl _, fun _ _ _ => rfl, fun _ h => h, fun _ _ h => h, fun _ _ => rfl, Nat.le_refl _, fun _ h => h, fun _ h => .inl h, fun _ _ h => h, fun id h => .inl ⟨id, h, rfl⟩⟩
  have r1 : Rel n k0 B U φ V { w00 with drawn := w00.drawn + 1 } F H a := by
    have hh := r00.heap
    refine ⟨r00.size, r00.defers, fun t => (r00.frame t).step r00.heap st1, ⟨fun id b hb => ?_, hh.inj, hh.apart, hh.vlt, hh.ult, hh.tabs st1⟩, r00.base, r00.own, r00.ownk⟩
    exact (hh.blk id b hb).up rfl fun x v hv => hv.up (fun _ h => h) (fun _ _ => rfl) (fun _ h => h) (fun _ _ => rfl)
  have hnp : ∀ c a' w', ¬ Lift n k0 B U φ V w00 H Q (.panic c) a' w' := by
    intro c a' w' hl
    obtain ⟨x, F', H', U', φ', V', h1, _⟩ := hl
    cases x <;> exact h1.elim
  have hlo : ¬ LetsOut (Lift n k0 B U φ V w00 H Q) := by
    rintro ⟨a', w', hl⟩
    obtain ⟨x, F', H', U', φ', V', h1, _⟩ := hl
    cases x <;> exact h1.elim
  have fin : ∀ w1 : World, Step B U φ V w00 H U φ V w1 H → Rel n k0 B U φ V w1 F H a → wpAny P .any ops (Lift n k0 B U φ V w00 H Q) ops.size (Array.replicate ops.size false) a w1 := by
    clear st1 r1 r00
    intro w st1 r
    let I : Array Bool → Act → World → Prop := fun listed a' w' => a'.tmps.size = n ∧ a'.defers = [] ∧ (∀ t, t ≠ m → t ∉ ss → a'.tmps.getD t undef = a.tmps.getD t undef) ∧
      (∀ (i : Nat) k s, ks[i]? = some k → ss[i]? = some s → listed.getD (1 + 2 * i) false = true → a'.tmps.getD s undef = k) ∧
      (∀ i, i < ks.length → listed.getD (2 + 2 * i) false = true → listed.getD 0 false = true) ∧
      (listed.getD 0 false = false → w' = w) ∧
      (listed.getD 0 false = true → ∃ es clock, w' = w.alloc (.map es clock) ∧ a'.tmps.getD m undef = .map (some w.heap.size) ∧
        (∀ e ∈ es.toList, ∃ (i : Nat) (f : FuncId), listed.getD (2 + 2 * i) false = true ∧ ks[i]? = some e.key ∧ fs[i]? = some f ∧ e.val = .func (.func f) #[] #[]) ∧
        ∀ (i : Nat) k, ks[i]? = some k → listed.getD (2 + 2 * i) false = true → ∃ e ∈ es.toList, e.key = k)
    refine wp_orders hback hns hlo hnp (1 + 2 * ks.length) (.inr ht) I ?_ ?_ ?_
    · intro i o listed a' w' hih ho hl hI hun hpre hhd
      obtain ⟨g1, g2, g3, g4, g7, g5, g6⟩ := hI
      have hil : i < listed.size := by rw [hl]; omega
      have hunl : listed.getD i false = false := by rw [← getD_ff hil]; exact hun
      have hset : ∀ j, (listed.setIfInBounds i true).getD j false = true → j = i ∨ listed.getD j false = true := fun j hj => by
        rw [getD_set hil] at hj; by_cases e : j = i
        · exact .inl e
        · rw [if_neg e] at hj; exact .inr hj
      have hsetn : ∀ j, j ≠ i → (listed.setIfInBounds i true).getD j false = listed.getD j false := fun j hj => by
        rw [getD_set hil, if_neg hj]
      have hseti : (listed.setIfInBounds i true).getD i false = true := by rw [getD_set hil, if_pos rfl]
      have up : ∀ j, listed.getD j false = true → (listed.setIfInBounds i true).getD j false = true := fun j hj => by
        rw [getD_set hil]; split
        · rfl
        · exact hj
      have wput : ∀ d v t, d < n → ((a'.put (some d) v).tmps.getD t undef) = if d = t then v else a'.tmps.getD t undef := fun d v t hd => by
        simp only [Act.put, Array.getD_eq_getD_getElem?, Array.getElem?_setIfInBounds, g1, hd, if_true]
        split <;> simp
      have run : ∀ {nx w2}, (execOp a'.eval o).run P w' = .ok nx w2 → o.guard = none → (nx = .skip → I (listed.setIfInBounds i true) (a'.put o.dst undef) w2) → (∀ v, nx = .value v → I (listed.setIfInBounds i true) (a'.put o.dst v) w2) → (nx = .skip ∨ ∃ v, nx = .value v) → wpOp P ops (Lift n k0 B U φ V w00 H Q) i (fun x y => I (listed.setIfInBounds i true) x y) a' w' := by
        intro nx w2 hr hg h1 h2 h3
        unfold wpOp
        have hw : Region.wanted o (yielded ops a'.tmps) = true := by simp [Region.wanted, hg]
        simp only [ho, hw, if_true]
        refine .inl ?_
        unfold Oper.wp
        rw [hr]
        rcases h3 with h3 | ⟨v, h3⟩
        · subst h3; exact h1 rfl
        · subst h3; exact h2 v rfl
      rcases Nat.eq_zero_or_pos i with hi0 | hip
      · subst hi0
        obtain ⟨o', ho', hop, hod, hog⟩ := h0
        rw [ho] at ho'; cases ho'
        have hw : w' = w := g5 hunl
        subst hw
        refine run (nx := .value (.map (some w'.heap.size))) (w2 := w'.alloc (.map #[] 0)) (by simp [execOp, hop, run_makeMap]) hog (fun h => by cases h) (fun v hv => ?_) (.inr ⟨_, rfl⟩)
        cases hv
        rw [hod]
        have none_ : ∀ i, listed.getD (2 + 2 * i) false = true → i < ks.length → False := fun i h2 h3 => by
          have h4 := g7 i h3 h2
          rw [hunl] at h4; cases h4
        refine ⟨by simp [Act.put, g1], g2, fun t h1 h2 => ?_, fun i k s h1 h2 h3 => ?_, fun _ _ _ => hseti, fun h => (by rw [hseti] at h; cases h), fun _ => ⟨#[], 0, rfl, ?_, fun e he => by simp at he, fun i k h1 h2 => ?_⟩⟩
        · rw [wput m _ t hmn, if_neg (Ne.symm h1)]; exact g3 t h1 h2
        · rw [wput m _ s hmn, if_neg (hms i s h2)]
          rw [hsetn _ (by omega)] at h3
          exact g4 i k s h1 h2 h3
        · rw [wput m _ m hmn, if_pos rfl]
        · rw [hsetn _ (by omega)] at h2
          exact (none_ i h2 (List.getElem?_eq_some_iff.1 h1).1).elim
      · rcases Nat.mod_two_eq_zero_or_one i with hmod | hmod
        · obtain ⟨j, hj⟩ : ∃ j, i = 2 + 2 * j := ⟨(i - 2) / 2, by omega⟩
          subst hj
          have hjk : j < ks.length := by omega
          have hk1 : ks[j]? = some ks[j] := List.getElem?_eq_getElem _
          have hs1 : ss[j]? = some (ss[j]'(by omega)) := List.getElem?_eq_getElem _
          have hf1 : fs[j]? = some (fs[j]'(by omega)) := List.getElem?_eq_getElem _
          obtain ⟨o', ho', hog, hod, hop, ⟨e0, he0, hb0, hz0⟩, ⟨e1, he1, hb1, hz1⟩⟩ := hi j _ _ hs1 hf1
          rw [ho] at ho'; cases ho'
          have l0 := hpre e0 he0 hb0
          have l1 := hpre e1 he1 hb1
          rw [hz0] at l0
          rw [hz1] at l1
          obtain ⟨es, clock, rfl, hmv, h2, h3⟩ := g6 l0
          have hkv := g4 j _ _ hk1 hs1 l1
          have hfd : Finds P kt ks[j] es.toList fun _ => false := finds_wide hag fun e he w => by
            obtain ⟨i, f, k1, k2, _⟩ := h2 e he
            exact hne j i _ _ (fun e => by subst e; rw [hunl] at k1; cases k1) hk1 k2 w
          have hrun := run_insert hmt w es clock ks[j] (.func (.func (fs[j]'(by omega))) #[] #[]) (hck _ (List.getElem_mem _)) hfd
          refine run (nx := .skip) (w2 := w.alloc (.map (es.push { key := ks[j], val := .func (.func (fs[j]'(by omega))) #[] #[], born := clock }) (clock + 1))) ?_ hog (fun _ => ?_) (fun v hv => by cases hv) (.inl rfl)
          · have em : a'.eval (.tmp m) = .map (some w.heap.size) := hmv
            have ek : a'.eval (.tmp (ss[j]'(by omega))) = ks[j] := hkv
            have ef : a'.eval (.func (fs[j]'(by omega))) = .func (.func (fs[j]'(by omega))) #[] #[] := rfl
            simp only [execOp, hop, em, ek, ef]
            rw [Sem.run_bind, hrun]; rfl
          · rw [hod]
            refine ⟨g1, g2, g3, fun i k s k1 k2 k3 => g4 i k s k1 k2 (by rw [hsetn _ (by omega)] at k3; exact k3), fun _ _ _ => up _ l0, fun h => (by rw [hsetn _ (by omega), l0] at h; cases h), fun _ => ⟨_, _, rfl, hmv, fun e he => ?_, fun i k k1 k2 => ?_⟩⟩
            · simp only [Array.toList_push, List.mem_append, List.mem_singleton] at he
              rcases he with he | he
              · obtain ⟨i, f, k1, k2⟩ := h2 e he
                exact ⟨i, f, up _ k1, k2⟩
              · subst he; exact ⟨j, _, hseti, hk1, hf1, rfl⟩
            · simp only [Array.toList_push, List.mem_append, List.mem_singleton]
              rcases hset _ k2 with k2 | k2
              · have : i = j := by omega
                subst this
                exact ⟨_, .inr rfl, by rw [hk1] at k1; cases k1; rfl⟩
              · obtain ⟨e, he, h4⟩ := h3 i k k1 k2
                exact ⟨e, .inl he, h4⟩
        · obtain ⟨j, hj⟩ : ∃ j, i = 1 + 2 * j := ⟨(i - 1) / 2, by omega⟩
          subst hj
          have hjk : j < ks.length := by omega
          have hk1 : ks[j]? = some ks[j] := List.getElem?_eq_getElem _
          have hs1 : ss[j]? = some (ss[j]'(by omega)) := List.getElem?_eq_getElem _
          obtain ⟨o', ho', hog, hod, hsn, hrun⟩ := hb j _ _ hk1 hs1
          rw [ho] at ho'; cases ho'
          refine run (hrun _ _) hog (fun h => by cases h) (fun v hv => ?_) (.inr ⟨_, rfl⟩)
          cases hv
          rw [hod]
          refine ⟨by simp [Act.put, g1], g2, fun t h1 h2 => ?_, fun i k s h1 h2 h3 => ?_, fun i h1 h2 => up _ (g7 i h1 (by rw [hsetn _ (by omega)] at h2; exact h2)), fun h => g5 (by rw [hsetn _ (by omega)] at h; exact h), fun h => ?_⟩
          · rw [wput _ _ t hsn, if_neg (fun e => h2 (by rw [← e]; exact List.getElem_mem _))]; exact g3 t h1 h2
          · rw [wput _ _ s hsn]
            by_cases e : i = j
            · subst e; rw [hs1] at h2; cases h2; rw [if_pos rfl]; rw [hk1] at h1; cases h1; rfl
            · rw [if_neg (fun e' => e (hss i j s h2 (by rw [hs1, e'])))]
              exact g4 i k s h1 h2 (by rw [hsetn _ (by omega)] at h3; exact h3)
          · rw [hsetn _ (by omega)] at h
            obtain ⟨es, clock, h1, h2, h3, h4⟩ := g6 h
            refine ⟨es, clock, h1, ?_, fun e he => ?_, fun i k k1 k2 => h4 i k k1 (by rw [hsetn _ (by omega)] at k2; exact k2)⟩
            · rw [wput _ _ m hsn, if_neg (Ne.symm (hms j _ hs1))]; exact h2
            · obtain ⟨i, f, k1, k2⟩ := h3 e he
              exact ⟨i, f, up _ k1, k2⟩
    · intro listed a' w' hl hall hI
      obtain ⟨g1, g2, g3, g4, g7, g5, g6⟩ := hI
      have hlist : ∀ j, j < 1 + 2 * ks.length → listed.getD j false = true := fun j hj => by
        rw [← getD_ff (by omega), hall j (by omega)]; simp [hj]
      obtain ⟨es, clock, rfl, hmv, h2, h3⟩ := g6 (hlist 0 (by omega))
      obtain ⟨g, st⟩ := map_step r.good es clock
      have hr : Rel n k0 B U φ (fun b => V b ∨ b = w.heap.size) (w.alloc (.map es clock)) ((m, .mp ks (fs.map fun f => .fn (.func f) [] [])) :: (ss.map fun s => (s, AV.any)) ++ F) H a' := by
        refine ⟨g1, g2, fun t => ?_, g.heap, g.base, g.own, g.ownk⟩
        rw [List.cons_append, aget_cons]
        split
        · rename_i e; subst e
          rw [hmv]
          refine .mp ks _ w.heap.size es clock (fs.map fun f => .func (.func f) #[] #[]) (.inr rfl) (MapKept.heap_alloc w _).1 (by simp) (fun e he => ?_) (fun k hk => ?_) (fun i x u hx hu => ?_)
          · obtain ⟨i, f, _, k2, k3, k4⟩ := h2 e he
            exact ⟨i, k2, by rw [List.getElem?_map, k3, k4]; rfl⟩
          · obtain ⟨i, hi2, hik⟩ := List.mem_iff_getElem.1 hk
            exact h3 i k (by rw [← hik]; exact List.getElem?_eq_getElem hi2) (hlist _ (by omega))
          · rw [List.getElem?_map] at hx hu
            cases hf : fs[i]? with
            | none => rw [hf] at hx; cases hx
            | some f =>
              rw [hf] at hx hu; cases hx; cases hu
              exact .fn (.func f) [] [] [] [] rfl rfl (fun i x u hx => by simp at hx) (fun i x u hx => by simp at hx)
        · rename_i hne2
          have key : ∀ l : List Tmp, (∀ s ∈ l, s ∈ ss) → VRel U φ (fun b => V b ∨ b = w.heap.size) (w.alloc (.map es clock)) (aget (l.map (fun s => (s, AV.any)) ++ F) t) (a'.tmps.getD t undef) ∨ (t ∉ l ∧ aget (l.map (fun s => (s, AV.any)) ++ F) t = aget F t) := by
            intro l
            induction l with
            | nil => exact fun _ => .inr ⟨by simp, rfl⟩
            | cons s l ih =>
              intro hl
              rw [List.map_cons, List.cons_append, aget_cons]
              split
              · exact .inl (.any _)
              · rename_i hne3
                rcases ih fun s hs => hl s (List.mem_cons_of_mem _ hs) with h | ⟨h4, h5⟩
                · exact .inl h
                · exact .inr ⟨fun h => by
                    rcases List.mem_cons.1 h with h | h
                    · exact hne3 h.symm
                    · exact h4 h, h5⟩
          rcases key ss fun _ h => h with h | ⟨h4, h5⟩
          · exact h
          · rw [h5, g3 t (fun e => hne2 e.symm) h4]
            exact (r.frame t).step r.heap st
      have := sq_ops (P := P) (q := q) (QQ := Lift n k0 B U φ V w00 H Q) hq (fun F' H' U' φ' V' w' a' hk r' s' => ⟨.normal, F', H', U', φ', V', True.intro, hk, r', s'⟩) ops.toList (fun i => by simp) (ops.toList.drop (1 + 2 * ks.length)) (ops.toList.take (1 + 2 * ks.length)) _ _ U φ _ _ a' (by simp) hrest hr (st1.trans st)
      have e2 : (List.range (ops.toList.drop (1 + 2 * ks.length)).length).map (· + (ops.toList.take (1 + 2 * ks.length)).length) = List.range' (1 + 2 * ks.length) (ops.size - (1 + 2 * ks.length)) := by
        rw [List.range'_eq_map_range]
        simp [Nat.min_eq_left (Nat.le_of_lt hsz)]
        intro x _; omega
      rw [e2] at this
      exact this
    · have hnone : ∀ j, (Array.replicate ops.size false).getD j false = false := fun j => by
        by_cases hj : j < ops.size <;> simp [hj]
      exact ⟨r.size, r.defers, fun _ _ _ => rfl, fun i k s _ _ h => (by rw [hnone] at h; cases h), fun i _ h => (by rw [hnone] at h; cases h), fun _ => rfl, fun h => (by rw [hnone] at h; cases h)⟩
  exact fin _ st1 r1
end
end Go.Proofs.YtdddkoacolglkaaDoor.Ab
