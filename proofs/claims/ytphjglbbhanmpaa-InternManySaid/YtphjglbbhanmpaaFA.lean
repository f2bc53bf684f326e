/- A region that draws its order, walked in an order of our own: at each step the one that may come, or one that may as well come at once. -/
import Derived.Test.YtphjglbbhanmpaaEZ
namespace Go.Proofs.Ytphjglbbhanmpaa.Ab
open Go Go.RowKit
section
variable {P : Program}
/-- the same in every world, and leaves it alone -/
def WI {α : Type} (P : Program) (m : Sem α) : Prop := (∃ x, ∀ w, m.run P w = .ok x w) ∨ ∃ z, ∀ w, m.run P w = .halt z w
theorem WI.pure {α : Type} (x : α) : WI P (Pure.pure x : Sem α) := .inl ⟨x, fun w => by simp⟩
theorem WI.stuck {α : Type} (s : String) : WI P (stuck s : Sem α) := .inr ⟨_, fun _ => rfl⟩
theorem WI.unsup {α : Type} (s : Unsupported) : WI P (unsupported s : Sem α) := .inr ⟨_, fun _ => rfl⟩
theorem WI.nilDeref {α : Type} : WI P (runtimePanic .nilDeref : Sem α) := .inr ⟨_, fun _ => rfl⟩
theorem WI.bind {α β : Type} {m : Sem α} {f : α → Sem β} (h : WI P m) (hf : ∀ x, WI P (f x)) : WI P (m >>= f) := by
  rcases h with ⟨x, h⟩ | ⟨z, h⟩
  · rcases hf x with ⟨y, h2⟩ | ⟨y, h2⟩
    · exact .inl ⟨y, fun w => by simp only [Sem.run_bind, h w, Result.andThen_ok, h2 w]⟩
    · exact .inr ⟨y, fun w => by simp only [Sem.run_bind, h w, Result.andThen_ok, h2 w]⟩
  · exact .inr ⟨z, fun w => by simp only [Sem.run_bind, h w]; rfl⟩
theorem WI.program : WI P program := .inl ⟨P, fun _ => rfl⟩
theorem WI.typeInfo (t : TypeId) : WI P (typeInfo t) := by
  refine WI.bind .program fun p => ?_
  split
  · exact .pure _
  · exact .stuck _
theorem WI.under (t : TypeId) : WI P (underlying t) := by
  refine WI.bind .program fun p => ?_
  split
  · exact .pure _
  · exact .stuck _
theorem WI.isAgg (t : TypeId) : WI P (isAgg t) := by
  refine WI.bind (.under t) fun p => ?_
  split <;> exact .pure _
theorem WI.sizeOf (t : TypeId) : WI P (sizeOf t) := WI.bind (.typeInfo t) fun _ => .pure _
theorem WI.part (t : TypeId) (cs : Array Value) (off : Nat) : WI P (part t cs off) := by
  refine WI.bind (.isAgg t) fun b => ?_
  split
  · exact WI.bind (.sizeOf t) fun _ => .pure _
  · split
    · exact .pure _
    · exact .stuck _
theorem WI.blind : ∀ (l : List FieldStep) (t : TypeId) (x : Option Value), WI P (followBlind l t x)
  | [], t, x => by unfold followBlind; exact .pure _
  | s :: rest, t, x => by
    unfold followBlind
    refine WI.bind (.under _) fun d => ?_
    split
    · split
      · split
        · exact .pure _
        · exact WI.blind rest _ _
        · exact .stuck _
        · exact .pure _
        · exact WI.bind (.part _ _ _) fun y => WI.blind rest _ _
        · exact .stuck _
        · exact WI.blind rest _ _
      · exact .stuck _
    · exact .stuck _
theorem WI.ahead : ∀ (n : Nat) (t : TypeId) (v : Value) (name : String), WI P (nilAhead n t v name)
  | 0, t, v, name => by unfold nilAhead; exact .pure _
  | n + 1, t, v, name => by
    unfold nilAhead
    refine WI.bind (.typeInfo _) fun d => ?_
    split
    · refine WI.bind (.blind _ _ _) fun y => ?_
      split
      · exact .pure _
      · split
        · exact WI.ahead n _ _ _
        · exact .pure _
        · exact .stuck _
        · exact .pure _
        · exact .pure _
        · refine WI.bind (.under _) fun d => ?_
          split <;> exact .pure _
    · exact .stuck _
/-- it may be done at once: what it tells does not hang on memory -/
def stillAddr (P : Program) (s : TypeId) (f : Nat) : Bool := match P.underlying s with
  | some (.struct fields) => match fields[f]? with
    | some fl => match P.info? fl.type with
      | some i => !(Nat.beq i.size 0)
      | none => false
    | none => false
  | _ => false
def still (P : Program) (o : Oper) : Bool := (match o.guard with
  | none => true
  | some _ => false) && match o.op with
  | .move _ => true
  | .assign _ => true
  | .extract _ _ => true
  | .nilCheck _ => true
  | .fieldAddr s _ f => stillAddr P s f
  | _ => false
theorem still_run {o : Oper} (h : still P o = true) (ρ : Operand → Value) : (∃ v, ∀ w, (execOp ρ o).run P w = .ok (.value v) w) ∨ ∃ z, ∀ w, (execOp ρ o).run P w = .halt z w := by
  have lift : ∀ {m : Sem Value}, WI P m → (execOp ρ o = (do return .value (← m))) → (∃ v, ∀ w, (execOp ρ o).run P w = .ok (.value v) w) ∨ ∃ z, ∀ w, (execOp ρ o).run P w = .halt z w := by
    intro m hm he
    rcases hm with ⟨x, hm⟩ | ⟨z, hm⟩
    · exact .inl ⟨x, fun w => by rw [he]; simp only [Sem.run_bind, hm w, Result.andThen_ok, Sem.run_pure]⟩
    · exact .inr ⟨z, fun w => by rw [he]; simp only [Sem.run_bind, hm w]; rfl⟩
  obtain ⟨dst, op, ty, pos, after, guard⟩ := o
  unfold still at h
  simp only [Bool.and_eq_true] at h
  have h2 := h.2
  cases op <;> simp only [Bool.false_eq_true] at h2
  case move x => exact .inl ⟨ρ x, fun w => by simp [execOp]⟩
  case assign x => exact .inl ⟨ρ x, fun w => by simp [execOp]⟩
  case extract x i =>
    refine lift (m := Instr.extract (ρ x) i) ?_ rfl
    unfold Instr.extract
    split
    · split
      · exact .pure _
      · exact .stuck _
    · exact .stuck _
  case nilCheck x =>
    have key : WI P (execOp ρ ⟨dst, .nilCheck x, ty, pos, after, guard⟩) ∧ ∀ w w' nx, (execOp ρ ⟨dst, .nilCheck x, ty, pos, after, guard⟩).run P w = .ok nx w' → ∃ v, nx = .value v := by
      simp only [execOp]
      split
      · exact ⟨.nilDeref, fun w w' nx h => by cases h⟩
      · exact ⟨.nilDeref, fun w w' nx h => by cases h⟩
      · exact ⟨.nilDeref, fun w w' nx h => by cases h⟩
      · split
        · exact ⟨.nilDeref, fun w w' nx h => by cases h⟩
        · refine ⟨WI.bind .program fun p => WI.bind (.ahead _ _ _ _) fun b => ?_, fun w w' nx h => ?_⟩
          · split
            · exact WI.bind (.unsup _) fun _ => .pure _
            · exact WI.bind (.pure _) fun _ => .pure _
          · simp only [Sem.run_bind, run_program, Result.andThen_ok] at h
            rcases WI.ahead (P := P) _ _ _ _ with ⟨b, hb⟩ | ⟨z, hz⟩
            · rw [hb w] at h
              simp only [Result.andThen_ok] at h
              split at h
              · cases h
              · simp only [Sem.run_pure] at h
                cases h; exact ⟨_, rfl⟩
            · rw [hz w] at h; cases h
        · exact ⟨.pure _, fun w w' nx h => by cases h; exact ⟨_, rfl⟩⟩
      · exact ⟨.pure _, fun w w' nx h => by cases h; exact ⟨_, rfl⟩⟩
    obtain ⟨h1 | h1, h2⟩ := key
    · obtain ⟨nx, h1⟩ := h1
      obtain ⟨v, rfl⟩ := h2 default default nx (h1 default)
      exact .inl ⟨v, h1⟩
    · exact .inr h1
  case fieldAddr s x f =>
    refine lift (m := Instr.fieldAt s (ρ x) f) ?_ rfl
    unfold stillAddr at h2
    split at h2
    · rename_i fields hu
      split at h2
      · rename_i fl hfl
        split at h2
        · rename_i i hi
          have hs : ∀ w, (sizeOf fl.type).run P w = .ok i.size w := fun w => by simp [Go.sizeOf, Go.typeInfo, hi]
          have h0 : ¬ i.size = 0 := by intro e; rw [e] at h2; simp at h2
          cases hx : ρ x with
          | pointer a =>
            cases a with
            | none => exact .inr ⟨_, fun w => by simp [Instr.fieldAt, run_underlying hu, hfl, Instr.sureAddr]; rfl⟩
            | some a => exact .inl ⟨_, fun w => by simp [Instr.fieldAt, run_underlying hu, hfl, Instr.sureAddr, fieldPlace, hs, h0]; rfl⟩
          | _ => exact .inr ⟨_, fun w => by simp [Instr.fieldAt, run_underlying hu, hfl, Instr.sureAddr]; rfl⟩
        · cases h2
      · cases h2
    · cases h2
def eager (P : Program) (ops : Array Oper) (listed : Array Bool) (i : Nat) (o : Oper) : Bool :=
  still P o && (List.range ops.size).all fun j => Nat.beq j i || listed.getD j true || match ops[j]? with
    | none => true
    | some oj => (oj.after.any fun e => Region.binds .any e && Nat.beq e.on i) || o.apart ops oj
/-- may it be walked so? -/
def permOk (P : Program) (ops : Array Oper) : List Nat → Array Bool → Bool
  | [], listed => (Region.ready .any ops listed).isEmpty
  | i :: is, listed => (Region.ready .any ops listed).contains i && (match ops[i]? with
    | some o => (match o.guard with
      | none => true
      | some _ => false) && (Nat.beq (Region.ready .any ops listed).length 1 || eager P ops listed i o)
    | none => false) && permOk P ops is (listed.setIfInBounds i true)
section
variable {q : Bool} {n k0 : Nat} {ops : Array Oper}
theorem perm_ops {QQ : Exit → Act → World → Prop} {K : AF → AH → Prop} {B : Nat} {U0 : Nat → Prop} {φ0 : Pl} {V0 : Nat → Prop} {w0 : World} {H0 : AH} (hb : q = false → B = 0) (hns : Region.noSelect ops = true) (hnp : ∀ c a w, ¬ QQ (.panic c) a w)
    (hK : ∀ F H U φ V w a, K F H → Rel n k0 B U φ V w F H a → Step B U0 φ0 V0 w0 H0 U φ V w H → QQ .normal a w) :
    ∀ (is : List Nat) (listed : Array Bool) (os : List Oper) (F : AF) (H : AH) (U : Nat → Prop) (φ : Pl) (V : Nat → Prop) (w : World) (a : Act), permOk P ops is listed = true → is.map (fun i => ops[i]?) = os.map some → SQ P q n k0 ops os K F H → Rel n k0 B U φ V w F H a → Step B U0 φ0 V0 w0 H0 U φ V w H →
      wpAny P .any ops QQ is.length listed a w := by
  intro is
  induction is with
  | nil =>
    intro listed os F H U φ V w a hp hos hq r s
    cases os with
    | nil => exact ⟨by simpa [permOk] using hp, hK F H U φ V w a hq r s⟩
    | cons o os => simp at hos
  | cons i is ih =>
    intro listed os F H U φ V w a hp hos hq r s
    cases os with
    | nil => simp at hos
    | cons o os =>
      simp only [List.map_cons, List.cons.injEq] at hos
      obtain ⟨ho, hos⟩ := hos
      simp only [permOk, ho, Bool.and_eq_true, Bool.or_eq_true, List.contains_iff_mem] at hp
      obtain ⟨⟨hir, hgd, hone⟩, hp⟩ := hp
      have hg : o.guard = none := by
        cases hx : o.guard with
        | none => rfl
        | some _ => rw [hx] at hgd; cases hgd
      have hw : Region.wanted o (yielded ops a.tmps) = true := by simp [Region.wanted, hg]
      obtain ⟨hd, hao⟩ := hq
      rw [hg] at hao
      have hrun := hao B U φ V w a.eval hb r.good (fun x _ => aev_rel r.frame x) (fun f => rfl)
      have go : ∀ v w', Post k0 B U φ V w H (fun r H' => SQ P q n k0 ops os K (aput F o.dst r) H') v w' → wpAny P .any ops QQ is.length (listed.setIfInBounds i true) (a.put o.dst v) w' := by
        rintro v w' ⟨x, U', φ', V', H', hS, g, hv, st⟩
        exact ih _ os _ H' U' φ' V' w' _ hp hos hS (rel_put r g st hd hv) (s.trans st)
      rcases hone with hone | hone
      · have h1 : Region.ready .any ops listed = [i] := by
          have h2 := Nat.eq_of_beq_eq_true hone
          obtain ⟨x, hx⟩ := List.length_eq_one_iff.1 h2
          rw [hx] at hir ⊢
          rw [List.mem_singleton.1 hir]
        refine ⟨fun h => (by rw [h1] at h; cases h), fun j hj => ?_⟩
        rw [h1] at hj
        have := List.mem_singleton.1 hj
        subst this
        unfold wpOp
        simp only [ho, hw, if_true]
        refine .inl ?_
        unfold Oper.wp
        generalize (execOp a.eval o).run P w = res at *
        cases res with
        | ok nx y =>
          cases nx <;> simp only [Res] at hrun <;> simp only [Oper.upon]
          · exact go _ _ hrun
          · exact go _ _ hrun
          · exact hrun.mono fun e w' ⟨v, he, hp⟩ => by subst he; exact go _ _ hp
        | halt z y => exact hrun.elim
      · simp only [eager, Bool.and_eq_true, List.all_eq_true, List.mem_range] at hone
        obtain ⟨hst, hall⟩ := hone
        rcases still_run hst a.eval with ⟨v, hv⟩ | ⟨z, hz⟩
        · rw [hv w] at hrun
          refine wpAny_first ho (Region.noSelect_spec hns) (fun c a w h => absurd h (hnp c _ w)) is.length listed a w (fun j oj hj hne hun hno => ?_) hir (.inl ⟨hw, hv⟩) (go v w hrun)
          have h1 := hall j (Array.getElem?_eq_some_iff.1 hj).1
          simp only [hj, hun, Bool.or_eq_true, Bool.false_eq_true, or_false, Array.any_eq_true] at h1
          rcases h1 with h1 | h1 | h1
          · exact absurd (Nat.eq_of_beq_eq_true h1) hne
          · obtain ⟨k, hk, h2⟩ := h1
            simp only [Bool.and_eq_true] at h2
            exact absurd (Nat.eq_of_beq_eq_true h2.2) (hno _ (Array.getElem_mem hk) h2.1)
          · exact h1
        · rw [hz w] at hrun
          exact hrun.elim
def pickF (ops : Array Oper) : List Nat → (List Oper → Option (List Oper)) → Option (List Oper)
  | [], k => k []
  | i :: is, k => match ops[i]? with
    | some o => pickF ops is fun r => k (o :: r)
    | none => none
theorem pickF_spec (ops : Array Oper) : ∀ (is : List Nat) (k : List Oper → Option (List Oper)) (r : List Oper), pickF ops is k = some r → ∃ os, is.map (fun i => ops[i]?) = os.map some ∧ k os = some r
  | [], k, r, h => ⟨[], rfl, h⟩
  | i :: is, k, r, h => by
    simp only [pickF] at h
    split at h
    · rename_i o ho
      obtain ⟨os, h1, h2⟩ := pickF_spec ops is _ r h
      exact ⟨o :: os, by simp only [List.map_cons, h1, ho], h2⟩
    · cases h
/-- A REGION THAT DRAWS ITS ORDER, walked in an order of our own -/
theorem aw_perm {Q : AQ} {F : AF} {H : AH} {id : Nat} (is : List Nat) {os : List Oper} (hm : P.follows .mixedOrders = true) (hns : Region.noSelect ops = true) (hl : is.length = ops.size) (hp : permOk P ops is (Array.replicate ops.size false) = true) (hos : pickF ops is some = some os)
    (h : SQ P q n k0 ops os (Q .normal) F H) : AW P q n k0 (.region id ops true) Q F H := by
  intro B U φ V w a hq r
  obtain ⟨os', hos, he⟩ := pickF_spec ops is some os hos
  cases he
  refine wp_region_any hm ?_
  have st1 : Step B U φ V w H U φ V { w with drawn := w.drawn + 1 } H := ⟨rfl, rfl, rfl, Nat.le_refl _, fun _ _ _ => rfl, fun _ h => h, fun _ _ h => h, fun _ _ => rfl, Nat.le_refl _, fun _ h => h, fun _ h => .inl h, fun _ _ h => h, fun id h => .inl ⟨id, h, rfl⟩⟩
  have r1 : Rel n k0 B U φ V { w with drawn := w.drawn + 1 } F H a := by
    have hh := r.heap
    refine ⟨r.size, r.defers, fun t => (r.frame t).step r.heap st1, ⟨fun id b hb => ?_, hh.inj, hh.apart, hh.vlt, hh.ult, hh.tabs st1⟩, r.base, r.own, r.ownk⟩
    exact (hh.blk id b hb).up rfl fun x v hv => hv.up (fun _ h => h) (fun _ _ => rfl) (fun _ h => h) (fun _ _ => rfl)
  have hnp : ∀ c a' w', ¬ Lift n k0 B U φ V w H Q (.panic c) a' w' := by
    intro c a' w' hl
    obtain ⟨x, F', H', U', φ', V', h1, _⟩ := hl
    cases x <;> exact h1.elim
  have := perm_ops (P := P) (q := q) (QQ := Lift n k0 B U φ V w H Q) hq hns hnp (fun F' H' U' φ' V' w' a' hk r' s' => ⟨.normal, F', H', U', φ', V', True.intro, hk, r', s'⟩) is _ os F H U φ V _ a hp hos h r1 st1
  rw [hl] at this
  exact this
end
/-- A REGION THAT DRAWS ITS ORDER, every order that matters -/
def AY (P : Program) (q : Bool) (n k0 : Nat) (ops : Array Oper) (K : AF → AH → Prop) (fuel : Nat) (listed : Array Bool) (F : AF) (H : AH) : Prop :=
  ∀ (QQ : Exit → Act → World → Prop) (B : Nat) (U0 : Nat → Prop) (φ0 : Pl) (V0 : Nat → Prop) (w0 : World) (H0 : AH), (q = false → B = 0) → (∀ c a w, ¬ QQ (.panic c) a w) →
    (∀ F H U φ V w a, K F H → Rel n k0 B U φ V w F H a → Step B U0 φ0 V0 w0 H0 U φ V w H → QQ .normal a w) →
    ∀ (U : Nat → Prop) (φ : Pl) (V : Nat → Prop) (w : World) (a : Act), Rel n k0 B U φ V w F H a → Step B U0 φ0 V0 w0 H0 U φ V w H → wpAny P .any ops QQ fuel listed a w
section
variable {q : Bool} {n k0 : Nat} {ops : Array Oper} {K : AF → AH → Prop} {fuel : Nat} {listed : Array Bool} {F : AF} {H : AH}
theorem ay_run {o : Oper} (hg : o.guard = none) {B : Nat} {U : Nat → Prop} {φ : Pl} {V : Nat → Prop} {w : World} {a : Act} {K' : AF → AH → Prop} (h : SQ P q n k0 ops [o] K' F H) (hb : q = false → B = 0) (r : Rel n k0 B U φ V w F H a) :
    Res P (fun v w' => ∃ F' H' U' φ' V', K' F' H' ∧ Rel n k0 B U' φ' V' w' F' H' (a.put o.dst v) ∧ Step B U φ V w H U' φ' V' w' H') ((execOp a.eval o).run P w) := by
  obtain ⟨hd, hao⟩ := h
  rw [hg] at hao
  exact (hao B U φ V w a.eval hb r.good (fun x _ => aev_rel r.frame x) (fun f => rfl)).mono fun v w' ⟨x, U', φ', V', H', hS, g, hv, st⟩ => ⟨_, H', U', φ', V', hS, rel_put r g st hd hv, st⟩
theorem ay_done (hr : (Region.ready .any ops listed).isEmpty = true) (h : K F H) : AY P q n k0 ops K 0 listed F H :=
  fun _QQ _B _U0 _φ0 _V0 _w0 _H0 _hb _hnp hK U φ V w a r s => ⟨by simpa using hr, hK F H U φ V w a h r s⟩
theorem ay_all (rs : List Nat) (hr : (Region.ready .any ops listed == rs) = true) (hne : rs ≠ []) (h : ∀ i ∈ rs, ∃ o, ops[i]? = some o ∧ o.guard = none ∧ SQ P q n k0 ops [o] (AY P q n k0 ops K fuel (listed.setIfInBounds i true)) F H) : AY P q n k0 ops K (fuel + 1) listed F H := by
  intro QQ B U0 φ0 V0 w0 H0 hb hnp hK U φ V w a r s
  have hr := eq_of_beq hr
  refine ⟨fun e => (hne (by rw [← hr, e])).elim, fun i hi => ?_⟩
  rw [hr] at hi
  obtain ⟨o, ho, hg, hq⟩ := h i hi
  have hrun := ay_run hg hq hb r
  have hw : Region.wanted o (yielded ops a.tmps) = true := by simp [Region.wanted, hg]
  unfold wpOp
  simp only [ho, hw, if_true]
  refine .inl ?_
  unfold Oper.wp
  have go : ∀ v w', (∃ F' H' U' φ' V', AY P q n k0 ops K fuel (listed.setIfInBounds i true) F' H' ∧ Rel n k0 B U' φ' V' w' F' H' (a.put o.dst v) ∧ Step B U φ V w H U' φ' V' w' H') → wpAny P .any ops QQ fuel (listed.setIfInBounds i true) (a.put o.dst v) w' := by
    rintro v w' ⟨F', H', U', φ', V', h1, h2, h3⟩
    exact h1 QQ B U0 φ0 V0 w0 H0 hb hnp hK U' φ' V' w' _ h2 (s.trans h3)
  generalize (execOp a.eval o).run P w = res at *
  cases res with
  | ok nx y =>
    cases nx <;> simp only [Res] at hrun <;> simp only [Oper.upon]
    · exact go _ _ hrun
    · exact go _ _ hrun
    · exact hrun.mono fun e w' ⟨v, he, hp⟩ => by subst he; exact go _ _ hp
  | halt z y => exact hrun.elim
theorem ay_1 (i : Nat) {o : Oper} (hr : (Region.ready .any ops listed == [i]) = true) (ho : ops[i]? = some o) (hg : o.guard = none) (h : SQ P q n k0 ops [o] (AY P q n k0 ops K fuel (listed.setIfInBounds i true)) F H) : AY P q n k0 ops K (fuel + 1) listed F H :=
  ay_all [i] hr (by simp) fun j hj => by
    rw [List.mem_singleton.1 hj]; exact ⟨o, ho, hg, h⟩
theorem ay_2 (i j : Nat) {o o2 : Oper} (hr : (Region.ready .any ops listed == [i, j]) = true) (ho : ops[i]? = some o) (hg : o.guard = none) (ho2 : ops[j]? = some o2) (hg2 : o2.guard = none) (h : SQ P q n k0 ops [o] (AY P q n k0 ops K fuel (listed.setIfInBounds i true)) F H)
    (h2 : SQ P q n k0 ops [o2] (AY P q n k0 ops K fuel (listed.setIfInBounds j true)) F H) : AY P q n k0 ops K (fuel + 1) listed F H :=
  ay_all [i, j] hr (by simp) fun k hk => by
    simp only [List.mem_cons, List.not_mem_nil, or_false] at hk
    rcases hk with rfl | rfl
    · exact ⟨o, ho, hg, h⟩
    · exact ⟨o2, ho2, hg2, h2⟩
theorem ay_3 (i j l : Nat) {o o2 o3 : Oper} (hr : (Region.ready .any ops listed == [i, j, l]) = true) (ho : ops[i]? = some o) (hg : o.guard = none) (ho2 : ops[j]? = some o2) (hg2 : o2.guard = none) (ho3 : ops[l]? = some o3) (hg3 : o3.guard = none) (h : SQ P q n k0 ops [o] (AY P q n k0 ops K fuel (listed.setIfInBounds i true)) F H)
    (h2 : SQ P q n k0 ops [o2] (AY P q n k0 ops K fuel (listed.setIfInBounds j true)) F H) (h3 : SQ P q n k0 ops [o3] (AY P q n k0 ops K fuel (listed.setIfInBounds l true)) F H) : AY P q n k0 ops K (fuel + 1) listed F H :=
  ay_all [i, j, l] hr (by simp) fun k hk => by
    simp only [List.mem_cons, List.not_mem_nil, or_false] at hk
    rcases hk with rfl | rfl | rfl
    · exact ⟨o, ho, hg, h⟩
    · exact ⟨o2, ho2, hg2, h2⟩
    · exact ⟨o3, ho3, hg3, h3⟩
theorem ay_e (i : Nat) {o : Oper} (ho : ops[i]? = some o) (hns : Region.noSelect ops = true) (he : ((Region.ready .any ops listed).contains i && eager P ops listed i o) = true) (h : SQ P q n k0 ops [o] (AY P q n k0 ops K fuel (listed.setIfInBounds i true)) F H) : AY P q n k0 ops K (fuel + 1) listed F H := by
  intro QQ B U0 φ0 V0 w0 H0 hb hnp hK U φ V w a r s
  simp only [eager, Bool.and_eq_true, List.all_eq_true, List.mem_range, List.contains_iff_mem] at he
  obtain ⟨hir, hst, hall⟩ := he
  have hg : o.guard = none := by
    simp only [still, Bool.and_eq_true] at hst
    cases hx : o.guard with
    | none => rfl
    | some _ => rw [hx] at hst; cases hst.1
  have hrun := ay_run hg h hb r
  have hw : Region.wanted o (yielded ops a.tmps) = true := by simp [Region.wanted, hg]
  rcases still_run hst a.eval with ⟨v, hv⟩ | ⟨z, hz⟩
  · rw [hv w] at hrun
    obtain ⟨F', H', U', φ', V', h1, h2, h3⟩ := hrun
    refine wpAny_first ho (Region.noSelect_spec hns) (fun c a w h => absurd h (hnp c _ w)) fuel listed a w (fun j oj hj hne hun hno => ?_) hir (.inl ⟨hw, hv⟩) (h1 QQ B U0 φ0 V0 w0 H0 hb hnp hK U' φ' V' w _ h2 (s.trans h3))
    have h1 := hall j (Array.getElem?_eq_some_iff.1 hj).1
    simp only [hj, hun, Bool.or_eq_true, Bool.false_eq_true, or_false, Array.any_eq_true] at h1
    rcases h1 with h1 | h1 | h1
    · exact absurd (Nat.eq_of_beq_eq_true h1) hne
    · obtain ⟨k, hk, h2⟩ := h1
      simp only [Bool.and_eq_true] at h2
      exact absurd (Nat.eq_of_beq_eq_true h2.2) (hno _ (Array.getElem_mem hk) h2.1)
    · exact h1
  · rw [hz w] at hrun
    exact hrun.elim
theorem aw_all {Q : AQ} {id : Nat} (hm : P.follows .mixedOrders = true) (m : Nat) (hs : m = ops.size) (h : AY P q n k0 ops (Q .normal) m (Array.replicate m false) F H) : AW P q n k0 (.region id ops true) Q F H := by
  subst hs
  intro B U φ V w a hq r
  refine wp_region_any hm ?_
  have st1 : Step B U φ V w H U φ V { w with drawn := w.drawn + 1 } H := ⟨rfl, rfl, rfl, Nat.le_refl _, fun _ _ _ => rfl, fun _ h => h, fun _ _ h => h, fun _ _ => rfl, Nat.le_refl _, fun _ h => h, fun _ h => .inl h, fun _ _ h => h, fun id h => .inl ⟨id, h, rfl⟩⟩
  have r1 : Rel n k0 B U φ V { w with drawn := w.drawn + 1 } F H a := by
    have hh := r.heap
    refine ⟨r.size, r.defers, fun t => (r.frame t).step r.heap st1, ⟨fun id b hb => ?_, hh.inj, hh.apart, hh.vlt, hh.ult, hh.tabs st1⟩, r.base, r.own, r.ownk⟩
    exact (hh.blk id b hb).up rfl fun x v hv => hv.up (fun _ h => h) (fun _ _ => rfl) (fun _ h => h) (fun _ _ => rfl)
  refine h (Lift n k0 B U φ V w H Q) B U φ V w H hq (fun c a' w' hl => ?_) (fun F' H' U' φ' V' w' a' hk r' s' => ⟨.normal, F', H', U', φ', V', True.intro, hk, r', s'⟩) U φ V _ a r1 st1
  obtain ⟨x, F', H', U', φ', V', h1, _⟩ := hl
  cases x <;> exact h1.elim
end
end
end Go.Proofs.Ytphjglbbhanmpaa.Ab
