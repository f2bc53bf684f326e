/- A region that draws its order: facts, one for each operation, that hold from then on. -/
import Derived.WalkKit
import Derived.Deep.RegionHeld3
namespace Go.Proofs.Ytkflllendbgdaaa
open Go.RowKit

/-- what is known of an operation's value: which it is, or what holds of it -/
inductive Fact (E : World → World → Prop) where
  | eq (c : Value)
  | is (p : Value → World → Prop) (up : ∀ v w w', p v w → E w w' → p v w')
section
variable {E : World → World → Prop}
def Fact.p (F : Fact E) (v : Value) (w : World) : Prop := match F with
  | .eq c => v = c
  | .is p _ => p v w
def Fact.all (F : Fact E) (w : World) (k : Value → Prop) : Prop := match F with
  | .eq c => k c
  | .is p _ => ∀ v, p v w → k v
theorem Fact.all_use {F : Fact E} {w : World} {k : Value → Prop} (h : F.all w k) {v : Value} (hv : F.p v w) : k v := by
  cases F with
  | eq c => cases hv; exact h
  | is p => exact h v hv
theorem fact_rfl {v : Value} {w : World} : (Fact.eq (E := E) v).p v w := rfl
theorem Fact.up {F : Fact E} {v : Value} {w w' : World} (hv : F.p v w) (he : E w w') : F.p v w' := by
  cases F with
  | eq c => exact hv
  | is p up => exact up v w w' hv he
/-- what an operation's run must come to -/
def Fact.gives (F : Fact E) (w : World) (k : Value → World → Prop) : Prop := match F with
  | .eq c => ∀ w', E w w' → k c w'
  | .is p _ => ∀ v w', E w w' → p v w' → k v w'
theorem Fact.gives_of {F : Fact E} {w : World} {k : Value → World → Prop} (h : ∀ v w', E w w' → F.p v w' → k v w') : F.gives w k := by
  cases F with
  | eq c => exact fun w' he => h c w' he rfl
  | is p => exact h
end

@[go_sem] def dstOf (ops : Array Oper) (j : Nat) : Option Tmp := (ops[j]?).bind (·.dst)
def dataPreds (o : Oper) : List Nat :=
  ((o.after.toList.filter fun e => Region.binds .any e && (e.ground == .data || e.ground == .guard)).map (·.on)).eraseDups
def withPreds (ops : Array Oper) {E : World → World → Prop} (Fs : Nat → Fact E) (w : World) : List Nat → Act → (Act → Prop) → Prop
  | [], a, k => k a
  | j :: js, a, k => (Fs j).all w fun v => withPreds ops Fs w js (a.put (dstOf ops j) v) k
def putL (ops : Array Oper) (vs : Nat → Value) : List Nat → Act → Act
  | [], a => a
  | j :: js, a => putL ops vs js (a.put (dstOf ops j) (vs j))
theorem withPreds_use {ops : Array Oper} {E : World → World → Prop} {Fs : Nat → Fact E} {w : World} {vs : Nat → Value} {k : Act → Prop} :
    ∀ (js : List Nat) (a : Act), (∀ j ∈ js, (Fs j).p (vs j) w) → withPreds ops Fs w js a k → k (putL ops vs js a) := by
  intro js
  induction js with
  | nil => intro a _ h; exact h
  | cons j js ih =>
    intro a hj h
    exact ih _ (fun i hi => hj i (List.mem_cons_of_mem _ hi)) (Fact.all_use h (hj j (List.mem_cons_self ..)))

/-- an operation leads to what its fact says, whatever its forerunners' values are -/
def StepV (P : Program) (ops : Array Oper) (Q : Exit → Act → World → Prop) {E : World → World → Prop} (Fs : Nat → Fact E) (a : Act) (w : World) (i : Nat) (o : Oper) : Prop :=
  ∀ w', E w w' → ∀ vs : Nat → Value, (∀ j ∈ dataPreds o, (Fs j).p (vs j) w') →
    ∀ K : Act → World → Prop, (∀ v w'', E w' w'' → (Fs i).p v w'' → K ((putL ops vs (dataPreds o) a).put o.dst v) w'') →
      if Region.wanted o (yielded ops (putL ops vs (dataPreds o) a).tmps) then o.wp P (putL ops vs (dataPreds o) a) w' K Q else K ((putL ops vs (dataPreds o) a).put o.dst undef) w'
def Steps (P : Program) (ops : Array Oper) (Q : Exit → Act → World → Prop) {E : World → World → Prop} (Fs : Nat → Fact E) (a : Act) (w : World) : Nat → List Oper → Prop
  | _, [] => True
  | i, o :: os => StepV P ops Q Fs a w i o ∧ Steps P ops Q Fs a w (i + 1) os
theorem steps_nil {P : Program} {ops : Array Oper} {Q : Exit → Act → World → Prop} {E : World → World → Prop} {Fs : Nat → Fact E} {a : Act} {w : World} {k : Nat} : Steps P ops Q Fs a w k [] := True.intro
theorem steps_cons {P : Program} {ops : Array Oper} {Q : Exit → Act → World → Prop} {E : World → World → Prop} {Fs : Nat → Fact E} {a : Act} {w : World} {k : Nat} {o : Oper} {os : List Oper}
    (h : StepV P ops Q Fs a w k o) (h' : Steps P ops Q Fs a w (k + 1) os) : Steps P ops Q Fs a w k (o :: os) := ⟨h, h'⟩
theorem steps_get {P : Program} {ops : Array Oper} {Q : Exit → Act → World → Prop} {E : World → World → Prop} {Fs : Nat → Fact E} {a : Act} {w : World} :
    ∀ (l : List Oper) (k : Nat), Steps P ops Q Fs a w k l → ∀ i o, l[i]? = some o → StepV P ops Q Fs a w (k + i) o := by
  intro l
  induction l with
  | nil => intro k _ i o h; simp at h
  | cons x xs ih =>
    intro k h i o hi
    cases i with
    | zero => simp at hi; subst hi; exact h.1
    | succ i =>
      have := ih (k + 1) h.2 i o (by simpa using hi)
      rw [show k + (i + 1) = k + 1 + i from by omega]; exact this

/-- what the kernel is asked of a region: edges lead back; each slot is written once; what is read is written by an operation that the reader stands behind, or by none -/
def regionOk (ops : Array Oper) (size : Nat) : Bool :=
  let ds := ops.toList.filterMap (·.dst)
  Region.noSelect ops && ds.all (· < size) && decide (ds.Nodup) &&
  (List.range ops.size).all fun i => match ops[i]? with
    | none => true
    | some o =>
      o.after.all (fun e => !Region.binds .any e || e.on < i) &&
      (o.looksAt ops).all fun t => !ds.contains t || (dataPreds o).any fun j => dstOf ops j == some t

theorem nodup_filterMap {α β : Type} (f : α → Option β) : ∀ (l : List α), (l.filterMap f).Nodup → ∀ (i j : Nat) x y d, l[i]? = some x → l[j]? = some y → f x = some d → f y = some d → i = j := by
  intro l
  induction l with
  | nil => intro _ i j x y d h; simp at h
  | cons a l ih =>
    intro hn i j x y d hi hj hx hy
    have mem : ∀ (k : Nat) z, l[k]? = some z → f z = some d → d ∈ l.filterMap f := fun k z hz hf => List.mem_filterMap.2 ⟨z, List.mem_of_getElem? hz, hf⟩
    cases i with
    | zero =>
      simp at hi; subst hi
      rw [List.filterMap_cons_some hx] at hn
      cases j with
      | zero => rfl
      | succ j => exact absurd (mem j y (by simpa using hj) hy) (List.nodup_cons.1 hn).1
    | succ i =>
      have hn' : (l.filterMap f).Nodup := by
        cases hfa : f a with
        | none => rw [List.filterMap_cons_none hfa] at hn; exact hn
        | some b => rw [List.filterMap_cons_some hfa] at hn; exact (List.nodup_cons.1 hn).2
      cases j with
      | zero =>
        simp at hj; subst hj
        rw [List.filterMap_cons_some hy] at hn
        exact absurd (mem i x (by simpa using hi) hx) (List.nodup_cons.1 hn).1
      | succ j => rw [ih hn' i j x y d (by simpa using hi) (by simpa using hj) hx hy]

section
variable {ops : Array Oper}
theorem put_get (a : Act) (x : Option Tmp) (v : Value) (t : Tmp) : (a.put x v).tmps[t]? = if x = some t ∧ t < a.tmps.size then some v else a.tmps[t]? := by
  cases x with
  | none => simp [Act.put]
  | some d =>
    simp only [Act.put, Array.getElem?_setIfInBounds, Option.some.injEq]
    by_cases h : d = t
    · subst h
      by_cases h2 : d < a.tmps.size <;> simp [h2]
    · simp [h]
theorem put_size (a : Act) (x : Option Tmp) (v : Value) : (a.put x v).tmps.size = a.tmps.size := by cases x <;> simp [Act.put]
theorem put_defers' (a : Act) (x : Option Tmp) (v : Value) : (a.put x v).defers = a.defers := by cases x <;> rfl
theorem putL_size (vs : Nat → Value) : ∀ (js : List Nat) (a : Act), (putL ops vs js a).tmps.size = a.tmps.size := by
  intro js
  induction js with
  | nil => intro a; rfl
  | cons j js ih => intro a; rw [putL, ih, put_size]
theorem putL_defers (vs : Nat → Value) : ∀ (js : List Nat) (a : Act), (putL ops vs js a).defers = a.defers := by
  intro js
  induction js with
  | nil => intro a; rfl
  | cons j js ih => intro a; rw [putL, ih, put_defers']
theorem putL_other (vs : Nat → Value) (t : Tmp) : ∀ (js : List Nat) (a : Act), (∀ j ∈ js, dstOf ops j ≠ some t) → (putL ops vs js a).tmps[t]? = a.tmps[t]? := by
  intro js
  induction js with
  | nil => intro a _; rfl
  | cons j js ih =>
    intro a h
    rw [putL, ih _ (fun i hi => h i (List.mem_cons_of_mem _ hi)), put_get, if_neg (fun x => h j (List.mem_cons_self ..) x.1)]
theorem putL_at (vs : Nat → Value) (t : Tmp) (j0 : Nat) (h0 : dstOf ops j0 = some t) (hu : ∀ j, dstOf ops j = some t → j = j0) :
    ∀ (js : List Nat) (a : Act), j0 ∈ js → t < a.tmps.size → (putL ops vs js a).tmps[t]? = some (vs j0) := by
  intro js
  induction js with
  | nil => intro a h; cases h
  | cons j js ih =>
    intro a hj ht
    rw [putL]
    by_cases hm : j0 ∈ js
    · exact ih _ hm (by rw [put_size]; exact ht)
    · have : j = j0 := by
        rcases List.mem_cons.1 hj with h | h
        · exact h.symm
        · exact absurd h hm
      subst this
      rw [putL_other vs t js _ (fun i hi he => hm (hu i he ▸ hi)), put_get, if_pos ⟨h0, ht⟩]
theorem dst_uniq (hd : (ops.toList.filterMap (·.dst)).Nodup) {i j : Nat} {t : Tmp} (hi : dstOf ops i = some t) (hj : dstOf ops j = some t) : i = j := by
  unfold dstOf at hi hj
  cases hx : ops[i]? with
  | none => rw [hx] at hi; cases hi
  | some x =>
    cases hy : ops[j]? with
    | none => rw [hy] at hj; cases hj
    | some y =>
      rw [hx] at hi; rw [hy] at hj
      exact nodup_filterMap (·.dst) ops.toList hd i j x y t (by simpa using hx) (by simpa using hy) hi hj
theorem dst_mem {i : Nat} {t : Tmp} (hi : dstOf ops i = some t) : t ∈ ops.toList.filterMap (·.dst) := by
  unfold dstOf at hi
  cases hx : ops[i]? with
  | none => rw [hx] at hi; cases hi
  | some x => rw [hx] at hi; exact List.mem_filterMap.2 ⟨x, List.mem_of_getElem? (i := i) (by simpa using hx), hi⟩
theorem mem_dst {t : Tmp} (h : t ∈ ops.toList.filterMap (·.dst)) : ∃ j, j < ops.size ∧ dstOf ops j = some t := by
  obtain ⟨o, ho, hd⟩ := List.mem_filterMap.1 h
  obtain ⟨j, hj⟩ := List.mem_iff_getElem?.1 ho
  have hj' : ops[j]? = some o := by simpa using hj
  exact ⟨j, (Array.getElem?_eq_some_iff.1 hj').1, by unfold dstOf; rw [hj']; exact hd⟩

/-- what holds in the midst of the region -/
structure Mid (ops : Array Oper) {E : World → World → Prop} (Fs : Nat → Fact E) (a : Act) (w : World) (listed : Array Bool) (a' : Act) (w' : World) : Prop where
  size : listed.size = ops.size
  ext : E w w'
  frame : a'.tmps.size = a.tmps.size
  defers : a'.defers = a.defers
  other : ∀ t, (∀ j, listed.getD j false = true → dstOf ops j ≠ some t) → a'.tmps[t]? = a.tmps[t]?
  facts : ∃ vs : Nat → Value, ∀ j, listed.getD j false = true → (Fs j).p (vs j) w' ∧ ∀ d, dstOf ops j = some d → a'.tmps[d]? = some (vs j)

theorem getD_lt {listed : Array Bool} {j : Nat} (h : listed.getD j false = true) : j < listed.size := by
  rcases Nat.lt_or_ge j listed.size with h' | h'
  · exact h'
  · simp [Array.getElem?_eq_none h'] at h
theorem getD_unlisted {listed : Array Bool} {j : Nat} (h : listed.getD j true = false) : listed.getD j false = false ∧ j < listed.size := by
  rcases Nat.lt_or_ge j listed.size with h' | h'
  · simp [h'] at h ⊢; exact h
  · simp [Array.getElem?_eq_none h'] at h
theorem getD_set {listed : Array Bool} {i j : Nat} (hi : i < listed.size) : (listed.setIfInBounds i true).getD j false = (if j = i then true else listed.getD j false) := by
  by_cases h : j = i
  · subst h; simp [hi]
  · rw [getD_set_ne false (Ne.symm h), if_neg h]

theorem act_eval_congr {a b : Act} {x : Operand} (h : ∀ t, x = .tmp t → a.tmps[t]? = b.tmps[t]?) : a.eval x = b.eval x := by
  cases x with
  | tmp t => simp only [Act.eval, Array.getD_eq_getD_getElem?]; rw [h t rfl]
  | _ => rfl
theorem mem_looks {o : Oper} {t : Tmp} (h : Operand.tmp t ∈ o.op.operands) : t ∈ o.looksAt ops :=
  List.mem_append_left _ (List.mem_filterMap.2 ⟨.tmp t, by simpa using h, rfl⟩)
theorem wanted_congr {o : Oper} {a b : Act} (h : ∀ t ∈ o.looksAt ops, a.tmps[t]? = b.tmps[t]?) :
    Region.wanted o (yielded ops a.tmps) = Region.wanted o (yielded ops b.tmps) := by
  unfold Region.wanted
  cases hg : o.guard with
  | none => rfl
  | some gw =>
    obtain ⟨g, want⟩ := gw
    have hy : yielded ops a.tmps g = yielded ops b.tmps g := by
      unfold yielded
      cases ht : (ops[g]?).bind (·.dst) with
      | none => rfl
      | some t =>
        have := h t (by simp [Oper.looksAt, hg, ht])
        simp only [Option.bind_some, this]
    simp only [hy]

variable {P : Program} {Q : Exit → Act → World → Prop} {E : World → World → Prop} {Fs : Nat → Fact E} {a : Act} {w : World} {n : Nat}

theorem step_mid (htrans : ∀ a b c, E a b → E b c → E a c) (hn : a.tmps.size = n) (hok : regionOk ops n = true) {i : Nat} {o : Oper} {listed : Array Bool} {a' : Act} {w' : World}
    (hi : ops[i]? = some o) (hstep : StepV P ops Q Fs a w i o) (hm : Mid ops Fs a w listed a' w') (hun : listed.getD i true = false)
    (hpre : ∀ e ∈ o.after, Region.binds .any e = true → listed.getD e.on false = true)
    {K : Act → World → Prop} (hK : ∀ x y, Mid ops Fs a w (listed.setIfInBounds i true) x y → K x y) (hQ : ∀ c x y, ¬ Q (.panic c) x y) : wpOp P ops Q i K a' w' := by
  simp only [regionOk, Bool.and_eq_true, decide_eq_true_eq] at hok
  obtain ⟨⟨⟨hsel, hsz⟩, hnd⟩, hall⟩ := hok
  have hio : i < ops.size := (Array.getElem?_eq_some_iff.1 hi).1
  have ho := List.all_eq_true.1 hall i (by simpa using hio)
  simp only [hi, Bool.and_eq_true] at ho
  obtain ⟨_, hlook⟩ := ho
  obtain ⟨vs, hvs⟩ := hm.facts
  have hpl : ∀ j ∈ dataPreds o, listed.getD j false = true := by
    intro j hj
    simp only [dataPreds, List.mem_eraseDups, List.mem_map, List.mem_filter, Bool.and_eq_true] at hj
    obtain ⟨e, ⟨he, hb, _⟩, rfl⟩ := hj
    exact hpre e (by simpa using he) hb
  have h2 := hstep w' hm.ext vs (fun j hj => (hvs j (hpl j hj)).1)
  have hag : ∀ t ∈ o.looksAt ops, a'.tmps[t]? = (putL ops vs (dataPreds o) a).tmps[t]? := by
    intro t ht
    have h := List.all_eq_true.1 hlook t ht
    simp only [Bool.or_eq_true, Bool.not_eq_true', List.any_eq_true, beq_iff_eq] at h
    by_cases hc : ∃ j ∈ dataPreds o, dstOf ops j = some t
    · obtain ⟨j, hj, hjt⟩ := hc
      have hts : t < a.tmps.size := by
        have := List.all_eq_true.1 hsz t (dst_mem hjt)
        rw [hn]; simpa using this
      rw [putL_at vs t j hjt (fun k hk => dst_uniq hnd hk hjt) _ _ hj hts]
      exact (hvs j (hpl j hj)).2 t hjt
    · have hnc : ¬ t ∈ ops.toList.filterMap (·.dst) := by
        rcases h with h | h
        · simpa using h
        · exact absurd h hc
      have hno : ∀ j, dstOf ops j ≠ some t := fun j hj => hnc (dst_mem hj)
      rw [putL_other vs t _ _ (fun j _ => hno j)]
      exact hm.other t (fun j _ => hno j)
  have hex : execOp a'.eval o = execOp (putL ops vs (dataPreds o) a).eval o :=
    execOp_congr o (Region.noSelect_spec hsel i o · · hi) fun x hx => act_eval_congr fun t ht => by
      subst ht
      exact hag t (mem_looks hx)
  have hwa := wanted_congr (o := o) (fun t ht => hag t ht)
  -- what is done behind the operation
  have hdst : dstOf ops i = o.dst := by unfold dstOf; rw [hi]; rfl
  have next : ∀ v y, E w' y → (Fs i).p v y → Mid ops Fs a w (listed.setIfInBounds i true) (a'.put o.dst v) y := by
    intro v y hy hv
    have hil : i < listed.size := by rw [hm.size]; exact hio
    refine ⟨by simp [hm.size], htrans _ _ _ hm.ext hy, by rw [put_size]; exact hm.frame, by rw [put_defers']; exact hm.defers, ?_, ?_⟩
    · intro t ht
      have hti : o.dst ≠ some t := by
        have := ht i (by rw [getD_set hil, if_pos rfl])
        rwa [hdst] at this
      rw [put_get, if_neg (fun x => hti x.1)]
      exact hm.other t fun j hj => ht j (by rw [getD_set hil]; split; rfl; exact hj)
    · refine ⟨fun j => if j = i then v else vs j, fun j hj => ?_⟩
      rw [getD_set hil] at hj
      by_cases hji : j = i
      · subst hji
        simp only [if_true]
        refine ⟨hv, fun d hd => ?_⟩
        rw [hdst] at hd
        have hds : d < a'.tmps.size := by
          have := List.all_eq_true.1 hsz d (dst_mem (i := j) (by rw [hdst]; exact hd))
          rw [hm.frame, hn]; simpa using this
        rw [put_get, if_pos ⟨hd, hds⟩]
      · rw [if_neg hji] at hj
        simp only [if_neg hji]
        refine ⟨Fact.up (hvs j hj).1 hy, fun d hd => ?_⟩
        have hne : o.dst ≠ some d := fun e => hji (dst_uniq hnd hd (by rw [hdst]; exact e))
        rw [put_get, if_neg (fun x => hne x.1)]
        exact (hvs j hj).2 d hd
  -- the value is told by the frame, where there is a slot for it
  have tell : ∀ u y, (∃ v, (putL ops vs (dataPreds o) a).put o.dst u = (putL ops vs (dataPreds o) a).put o.dst v ∧ E w' y ∧ (Fs i).p v y) → Mid ops Fs a w (listed.setIfInBounds i true) (a'.put o.dst u) y := by
    rintro u y ⟨v, he, hy, hv⟩
    cases hd : o.dst with
    | none =>
      have := next v y hy hv
      rw [hd] at this
      exact this
    | some d =>
      have hds : d < (putL ops vs (dataPreds o) a).tmps.size := by
        have := List.all_eq_true.1 hsz d (dst_mem (i := i) (by rw [hdst]; exact hd))
        rw [putL_size, hn]; simpa using this
      have h3 := congrArg (fun x : Act => x.tmps[d]?) he
      simp only [put_get, hd, hds, and_self, if_true, Option.some.injEq] at h3
      subst h3
      rw [← hd]; exact next _ _ hy hv
  have h3 := h2 (fun x y => ∃ v, x = (putL ops vs (dataPreds o) a).put o.dst v ∧ E w' y ∧ (Fs i).p v y) (fun v y hy hv => ⟨v, rfl, hy, hv⟩)
  clear h2
  unfold wpOp
  simp only [hi]
  rw [hwa]
  split
  · rename_i hw
    rw [if_pos hw] at h3
    refine .inl ?_
    unfold Oper.wp at *
    rw [hex]
    generalize (execOp (putL ops vs (dataPreds o) a).eval o).run P w' = r at *
    cases r with
    | ok nx y =>
      cases nx <;> simp only [Oper.upon] at h3 ⊢
      case value u => exact hK _ _ (tell u y h3)
      case skip => exact hK _ _ (tell undef y h3)
      case defer d =>
        obtain ⟨v, he, _⟩ := h3
        have h4 := congrArg (fun x : Act => x.defers.length) he
        simp [put_defers'] at h4
      case enter f args =>
        refine Calls.mono h3 fun e y he => ?_
        cases e with
        | returned u => exact hK _ _ (tell u y he)
        | panicked c => exact (hQ _ _ _ he).elim
        | outgrown => exact he
      case row row args => exact Rows.mono h3 fun u y he => hK _ _ (tell u y he)
    | halt x y =>
      cases x <;> simp only [Oper.upon] at h3 ⊢
      case panic u => exact (hQ _ _ _ h3).elim
  · rename_i hw
    rw [if_neg hw] at h3
    exact hK _ _ (tell undef w' h3)

theorem mid_any (htrans : ∀ a b c, E a b → E b c → E a c) (hn : a.tmps.size = n) (hok : regionOk ops n = true) (hsteps : Steps P ops Q Fs a w 0 ops.toList) (hQ : ∀ c x y, ¬ Q (.panic c) x y)
    (hend : ∀ a' w', Mid ops Fs a w (Array.replicate ops.size true) a' w' → Q .normal a' w') :
    ∀ (fuel : Nat) (listed : Array Bool) (a' : Act) (w' : World), listed.toList.countP (fun b => !b) = fuel → Mid ops Fs a w listed a' w' → wpAny P .any ops Q fuel listed a' w' := by
  have hback : ∀ i o, ops[i]? = some o → ∀ e ∈ o.after, Region.binds .any e = true → e.on < i := by
    intro i o hi e he hb
    simp only [regionOk, Bool.and_eq_true, decide_eq_true_eq] at hok
    have ho := List.all_eq_true.1 hok.2 i (by simpa using (Array.getElem?_eq_some_iff.1 hi).1)
    simp only [hi, Bool.and_eq_true] at ho
    have := Array.all_eq_true_iff_forall_mem.1 ho.1 e he
    simpa [hb] using this
  have full : ∀ (listed : Array Bool) a' w', Mid ops Fs a w listed a' w' → Region.ready .any ops listed = [] → listed = Array.replicate ops.size true := by
    intro listed a' w' hm hr
    have hall : ∀ i, i < ops.size → listed.getD i true = true := by
      intro i
      induction i using Nat.strongRecOn with
      | ind i ih =>
        intro hi
        cases hx : listed.getD i true with
        | true => rfl
        | false =>
          have hio : ops[i]? = some ops[i] := Array.getElem?_eq_getElem hi
          have : i ∈ Region.ready .any ops listed := mem_ready.2 ⟨hx, _, hio, fun e he hb => by
            have hlt := hback i _ hio e he hb
            have := ih e.on hlt (Nat.lt_trans hlt hi)
            have hs : e.on < listed.size := by rw [hm.size]; exact Nat.lt_trans hlt hi
            simp only [Array.getD, hs, dite_true] at this ⊢
            exact this⟩
          rw [hr] at this; cases this
    apply Array.ext
    · simp [hm.size]
    · intro i h1 h2
      have := hall i (by rw [← hm.size]; exact h1)
      simp only [Array.getD, h1, dite_true] at this
      simpa using this
  intro fuel
  induction fuel with
  | zero =>
    intro listed a' w' hc hm
    have hr : Region.ready .any ops listed = [] := by
      cases hx : Region.ready .any ops listed with
      | nil => rfl
      | cons i is =>
        have hi : i ∈ Region.ready .any ops listed := by rw [hx]; exact List.mem_cons_self ..
        have hu := getD_unlisted (mem_ready.1 hi).1
        have h0 := List.countP_eq_zero.1 hc false (by
          have h3 := hu.1
          simp only [Array.getD, hu.2, dite_true] at h3
          rw [← h3]
          exact Array.getElem_mem_toList _)
        simp at h0
    exact ⟨hr, hend a' w' (full listed a' w' hm hr ▸ hm)⟩
  | succ fuel ih =>
    intro listed a' w' hc hm
    refine ⟨fun hr => hend a' w' (full listed a' w' hm hr ▸ hm), fun i hi => ?_⟩
    obtain ⟨hun, o, ho, hpre⟩ := mem_ready.1 hi
    have hu := getD_unlisted hun
    refine step_mid htrans hn hok ho ?_ hm hun hpre (fun x y hxy => ih _ x y ?_ hxy) hQ
    · have := steps_get ops.toList 0 hsteps i o (by simpa using ho)
      rwa [Nat.zero_add] at this
    · rw [Array.toList_setIfInBounds, List.countP_set (by simpa using hu.2)]
      have h3 := hu.1
      simp only [Array.getD, hu.2, dite_true] at h3
      have h4 : listed.toList[i]'(by simpa using hu.2) = false := by simpa using h3
      simp only [h4]
      simp only [Bool.not_false, if_true, Bool.not_true, Bool.false_eq_true, if_false]
      omega

end
/-- what an operation's run must come to -/
def Out (P : Program) (R : Value → World → Prop) : Result Next → Prop
  | .ok (.value v) w => R v w
  | .ok .skip w => R undef w
  | .ok (.enter f args) w => Calls P f args w fun e w' => ∃ v, e = .returned v ∧ R v w'
  | .ok (.row row args) w => Rows P row args w R
  | _ => False
section
variable (P : Program) (R : Value → World → Prop) (w : World)
@[go_sem] theorem out_value (v : Value) : Out P R (.ok (.value v) w) = R v w := rfl
@[go_sem] theorem out_skip : Out P R (.ok .skip w) = R undef w := rfl
@[go_sem] theorem out_enter (f : FuncId) (args : Array Value) : Out P R (.ok (.enter f args) w) = Calls P f args w fun e w' => ∃ v, e = .returned v ∧ R v w' := rfl
@[go_sem] theorem out_row (row : String) (args : Array Value) : Out P R (.ok (.row row args) w) = Rows P row args w R := rfl
end
@[go_sem] def wantedR (gd : Option (Option Tmp × Bool)) (ρ : Operand → Value) : Bool := match gd with
  | none => true
  | some (none, _) => false
  | some (some t, b) => match ρ (.tmp t) with
    | .bool x => x == b
    | _ => false
/-- an operation's run, behind a name that nothing opens by itself -/
@[irreducible] def RunsR (P : Program) (o : Oper) (gd : Option (Option Tmp × Bool)) (ρ : Operand → Value) (w : World) (R : Value → World → Prop) : Prop :=
  if wantedR gd ρ then Out P R ((execOp ρ o).run P w) else R undef w
theorem runs_of {P : Program} {o : Oper} {gd : Option (Option Tmp × Bool)} {ρ : Operand → Value} {w : World} {R : Value → World → Prop}
    (h : if wantedR gd ρ then Out P R ((execOp ρ o).run P w) else R undef w) : RunsR P o gd ρ w R := by unfold RunsR; exact h
def withSrc {E : World → World → Prop} (Fl : List (Fact E)) (w : World) (ρ : Operand → Value) : List (Nat × Tmp) → Prop → Prop
  | [], k => k
  | (j, t) :: js, k => (Fl.getD j (.eq undef)).all w fun v => (ρ (.tmp t) = v → withSrc Fl w ρ js k)
def withBase (vals : List Value) (ρ : Operand → Value) : List (Nat × Tmp) → Prop → Prop
  | [], k => k
  | (i, t) :: js, k => ρ (.tmp t) = vals.getD i undef → withBase vals ρ js k
theorem withSrc_use {E : World → World → Prop} {Fl : List (Fact E)} {w : World} {ρ : Operand → Value} {k : Prop} :
    ∀ (js : List (Nat × Tmp)), (∀ p ∈ js, (Fl.getD p.1 (.eq undef)).p (ρ (.tmp p.2)) w) → withSrc Fl w ρ js k → k := by
  intro js
  induction js with
  | nil => intro _ h; exact h
  | cons p js ih =>
    intro hp h
    exact ih (fun q hq => hp q (List.mem_cons_of_mem _ hq)) (Fact.all_use h (hp p (List.mem_cons_self ..)) rfl)
theorem withBase_use {vals : List Value} {ρ : Operand → Value} {k : Prop} :
    ∀ (js : List (Nat × Tmp)), (∀ p ∈ js, ρ (.tmp p.2) = vals.getD p.1 undef) → withBase vals ρ js k → k := by
  intro js
  induction js with
  | nil => intro _ h; exact h
  | cons p js ih =>
    intro hp h
    exact ih (fun q hq => hp q (List.mem_cons_of_mem _ hq)) (h (hp p (List.mem_cons_self ..)))
/-- what the kernel is asked of an operation's sources -/
def srcOk (ops : Array Oper) (n : Nat) (o : Oper) (slots : List Tmp) (bs js : List (Nat × Tmp)) (gd : Option (Option Tmp × Bool)) : Bool :=
  (js.all fun p => (dataPreds o).contains p.1 && dstOf ops p.1 == some p.2 && decide (p.2 < n)) &&
  (bs.all fun p => !(ops.toList.filterMap (·.dst)).contains p.2 && decide (p.1 < slots.length) && slots.getD p.1 0 == p.2) &&
  decide (o.guard.map (fun g => (dstOf ops g.1, g.2)) = gd)
theorem step_r {P : Program} {ops : Array Oper} {Q : Exit → Act → World → Prop} {E : World → World → Prop} {Fl : List (Fact E)} {a : Act} {w : World} {i n : Nat} {o : Oper} {slots : List Tmp} {vals : List Value}
    (hn : a.tmps.size = n) (hnd : (ops.toList.filterMap (·.dst)).Nodup) (hvals : slots.map (fun t => a.tmps.getD t undef) = vals)
    (bs js : List (Nat × Tmp)) (gd : Option (Option Tmp × Bool)) (hok : srcOk ops n o slots bs js gd = true)
    (h : ∀ w', E w w' → ∀ ρ : Operand → Value, (∀ c, ρ (.const c) = c) → (∀ f, ρ (.func f) = .func (.func f) #[] #[]) →
      withBase vals ρ bs (withSrc Fl w' ρ js (RunsR P o gd ρ w' fun v w'' => E w' w'' ∧ (Fl.getD i (.eq undef)).p v w''))) :
    StepV P ops Q (fun i => Fl.getD i (.eq undef)) a w i o := by
  intro w' hw vs hvs K hK
  generalize hx : putL ops vs (dataPreds o) a = x at *
  simp only [srcOk, Bool.and_eq_true, decide_eq_true_eq] at hok
  obtain ⟨⟨hj, hb⟩, hg⟩ := hok
  have hxn : x.tmps.size = n := by rw [← hx, putL_size]; exact hn
  have h1 := h w' hw x.eval (fun _ => rfl) (fun _ => rfl)
  have h2 := withBase_use bs (fun p hp => by
    have := List.all_eq_true.1 hb p hp
    simp only [Bool.and_eq_true, Bool.not_eq_true', decide_eq_true_eq, beq_iff_eq] at this
    obtain ⟨⟨hc, hl⟩, he⟩ := this
    have hno : ∀ j, dstOf ops j ≠ some p.2 := fun j hj => by
      have hm := dst_mem hj
      have : (ops.toList.filterMap (·.dst)).contains p.2 = true := by simpa using hm
      rw [this] at hc; cases hc
    show x.tmps.getD p.2 undef = _
    rw [Array.getD_eq_getD_getElem?, ← hx, putL_other vs p.2 _ _ (fun j _ => hno j), ← Array.getD_eq_getD_getElem?, ← hvals, ← he]
    simp [List.getD_eq_getElem?_getD, hl]) h1
  have h3 := withSrc_use js (fun p hp => by
    have := List.all_eq_true.1 hj p hp
    simp only [Bool.and_eq_true, decide_eq_true_eq, beq_iff_eq] at this
    obtain ⟨⟨hc, hd⟩, hl⟩ := this
    have hm : p.1 ∈ dataPreds o := by simpa using hc
    have : x.eval (.tmp p.2) = vs p.1 := by
      show x.tmps.getD p.2 undef = _
      rw [Array.getD_eq_getD_getElem?, ← hx, putL_at vs p.2 p.1 hd (fun k hk => dst_uniq hnd hk hd) _ _ hm (by rw [hn]; exact hl)]
      rfl
    rw [this]
    exact hvs p.1 hm) h2
  unfold RunsR at h3
  have hwa : wantedR gd x.eval = Region.wanted o (yielded ops x.tmps) := by
    rw [← hg]
    unfold Region.wanted
    cases o.guard with
    | none => rfl
    | some g =>
      obtain ⟨j, b⟩ := g
      simp only [Option.map_some, wantedR, yielded, dstOf]
      cases hd : (ops[j]?).bind (·.dst) with
      | none => rfl
      | some t =>
        simp only [Option.bind_some, Act.eval, Array.getD_eq_getD_getElem?]
        cases x.tmps[t]? with
        | none => rfl
        | some v => cases v <;> simp
  rw [hwa] at h3
  split
  · rename_i hw1
    rw [if_pos hw1] at h3
    unfold Oper.wp
    generalize (execOp x.eval o).run P w' = r at *
    cases r with
    | ok nx y =>
      cases nx <;> simp only [Out] at h3 <;> simp only [Oper.upon]
      case value u => exact hK _ _ h3.1 h3.2
      case skip => exact hK _ _ h3.1 h3.2
      case enter f args =>
        refine Calls.mono h3 fun e y he => ?_
        obtain ⟨v, rfl, he⟩ := he
        exact hK _ _ he.1 he.2
      case row row args => exact Rows.mono h3 fun u y he => hK _ _ he.1 he.2
    | halt z y => exact h3.elim
  · rename_i hw1
    rw [if_neg hw1] at h3
    exact hK _ _ h3.1 h3.2
/-- an operation's sources: the frame's slots, the forerunners' slots, the guard -/
structure Row where
  bs : List (Nat × Tmp)
  js : List (Nat × Tmp)
  gd : Option (Option Tmp × Bool)
def StepR (P : Program) {E : World → World → Prop} (Fl : List (Fact E)) (vals : List Value) (w : World) (i : Nat) (o : Oper) (r : Row) : Prop :=
  ∀ w', E w w' → ∀ ρ : Operand → Value, (∀ c, ρ (.const c) = c) → (∀ f, ρ (.func f) = .func (.func f) #[] #[]) →
    withBase vals ρ r.bs (withSrc Fl w' ρ r.js (RunsR P o r.gd ρ w' fun v w'' => E w' w'' ∧ (Fl.getD i (.eq undef)).p v w''))
def StepsR (P : Program) {E : World → World → Prop} (Fl : List (Fact E)) (vals : List Value) (w : World) : Nat → List Oper → List Row → Prop
  | i, o :: os, r :: rs => StepR P Fl vals w i o r ∧ StepsR P Fl vals w (i + 1) os rs
  | _, _, _ => True
theorem stepsR_cons {P : Program} {E : World → World → Prop} {Fl : List (Fact E)} {vals : List Value} {w : World} {i : Nat} {o : Oper} {os : List Oper} {r : Row} {rs : List Row}
    (h : StepR P Fl vals w i o r) (h' : StepsR P Fl vals w (i + 1) os rs) : StepsR P Fl vals w i (o :: os) (r :: rs) := ⟨h, h'⟩
theorem stepsR_nil {P : Program} {E : World → World → Prop} {Fl : List (Fact E)} {vals : List Value} {w : World} {i : Nat} : StepsR P Fl vals w i [] [] := True.intro
def rowsOk (ops : Array Oper) (n : Nat) (slots : List Tmp) : List Oper → List Row → Bool
  | o :: os, r :: rs => srcOk ops n o slots r.bs r.js r.gd && rowsOk ops n slots os rs
  | [], [] => true
  | _, _ => false
theorem steps_of_rows {P : Program} {ops : Array Oper} {Q : Exit → Act → World → Prop} {E : World → World → Prop} {Fl : List (Fact E)} {a : Act} {w : World} {n : Nat} {slots : List Tmp} {vals : List Value}
    (hn : a.tmps.size = n) (hnd : (ops.toList.filterMap (·.dst)).Nodup) (hvals : slots.map (fun t => a.tmps.getD t undef) = vals) :
    ∀ (l : List Oper) (rows : List Row) (i : Nat), rowsOk ops n slots l rows = true → StepsR P Fl vals w i l rows → Steps P ops Q (fun i => Fl.getD i (.eq undef)) a w i l := by
  intro l
  induction l with
  | nil => intro rows i _ _; exact True.intro
  | cons o os ih =>
    intro rows i hok h
    cases rows with
    | nil => simp [rowsOk] at hok
    | cons r rs =>
      simp only [rowsOk, Bool.and_eq_true] at hok
      exact ⟨step_r hn hnd hvals r.bs r.js r.gd hok.1 h.1, ih rs (i + 1) hok.2 h.2⟩
section
variable {ops : Array Oper} {P : Program} {Q : Exit → Act → World → Prop} {E : World → World → Prop} {a : Act} {w : World} {n : Nat}
def dstsNodup (ops : Array Oper) : Bool := decide ((ops.toList.filterMap (·.dst)).Nodup)
theorem nodup_of {ops : Array Oper} (h : dstsNodup ops = true) : (ops.toList.filterMap (·.dst)).Nodup := of_decide_eq_true h

/-- A REGION THAT DRAWS ITS ORDER, by facts. -/
theorem wp_region_raw {id : Nat} (Fl : List (Fact E)) (hm : P.follows .mixedOrders = true) (htrans : ∀ a b c, E a b → E b c → E a c) (hdrew : E w w.drew) (hn : a.tmps.size = n) (hok : regionOk ops n = true)
    (hsteps : Steps P ops (NoPanic Q) (fun i => Fl.getD i (.eq undef)) a w 0 ops.toList)
    (hend : ∀ w', E w w' → withPreds ops (fun i => Fl.getD i (.eq undef)) w' (List.range ops.size) a (fun a' => Q .normal a' w')) :
    (Code.region id ops true).wp P Q a w := by
  refine wp_region_noPanic (wp_region_any hm ?_)
  refine mid_any htrans hn hok hsteps (fun _ _ _ h => h) ?_ _ _ _ _ (by simp [List.countP_replicate]) ⟨by simp, hdrew, rfl, rfl, fun _ _ => rfl, fun _ => undef, fun j hj => ?_⟩
  · intro a' w' hx
    show Q .normal a' w'
    obtain ⟨vs, hvs⟩ := hx.facts
    have hlist : ∀ j, j < ops.size → (Array.replicate ops.size true).getD j false = true := fun j hj => by simp [hj]
    have h1 := withPreds_use (List.range ops.size) a (fun j hj => (hvs j (hlist j (by simpa using hj))).1) (hend w' hx.ext)
    have hok' := hok
    simp only [regionOk, Bool.and_eq_true, decide_eq_true_eq] at hok'
    obtain ⟨⟨⟨_, hsz⟩, hnd⟩, _⟩ := hok'
    have e : a' = putL ops vs (List.range ops.size) a := by
      have h2 : a'.tmps = (putL ops vs (List.range ops.size) a).tmps := by
        apply Array.ext_getElem?
        intro t
        by_cases hc : t ∈ ops.toList.filterMap (·.dst)
        · obtain ⟨j, hj, hjt⟩ := mem_dst hc
          have hts : t < a.tmps.size := by
            have := List.all_eq_true.1 hsz t hc
            rw [hn]; simpa using this
          rw [putL_at vs t j hjt (fun k hk => dst_uniq hnd hk hjt) _ _ (by simpa using hj) hts]
          exact (hvs j (hlist j hj)).2 t hjt
        · have hno : ∀ j, dstOf ops j ≠ some t := fun j hj => hc (dst_mem hj)
          rw [putL_other vs t _ _ (fun j _ => hno j)]
          exact hx.other t (fun j _ => hno j)
      have h3 : a'.defers = (putL ops vs (List.range ops.size) a).defers := by rw [putL_defers]; exact hx.defers
      cases a'
      generalize putL ops vs (List.range ops.size) a = z at *
      cases z
      simp only at h2 h3
      subst h2; subst h3; rfl
    rw [e]; exact h1
  · simp at hj
    rcases Nat.lt_or_ge j ops.size with h | h
    · simp [h] at hj
    · simp [h] at hj

/-- the last operations are forced: each stands behind the one ahead of it, the first of them behind all others -/
def tailOk (ops : Array Oper) (h : Nat) : Bool :=
  decide (h < ops.size) &&
  ((List.range ops.size).all fun i => i ≤ h || match ops[i]? with
    | none => true
    | some o => o.after.any fun e => Region.binds .any e && e.on == i - 1) &&
  ((List.range h).all fun j => (List.range (h + 1)).any fun k => decide (j < k) && match ops[k]? with
    | none => false
    | some o => o.after.any fun e => Region.binds .any e && e.on == j)

theorem getD_ff {listed : Array Bool} {j : Nat} (h : j < listed.size) : listed.getD j true = listed.getD j false := by
  simp [h]

theorem forced_any (hok : regionOk ops n = true) {h : Nat} (ht : tailOk ops h = true) :
    ∀ (m k : Nat) (listed : Array Bool) (a : Act) (w : World), h ≤ k → k + m = ops.size → listed.size = ops.size → (∀ i, i < ops.size → listed.getD i true = decide (i < k)) →
      wpOps P ops Q (List.range' k m) a w → wpAny P .any ops Q m listed a w := by
  have hback : ∀ i o, ops[i]? = some o → ∀ e ∈ o.after, Region.binds .any e = true → e.on < i := by
    intro i o hi e he hb
    simp only [regionOk, Bool.and_eq_true, decide_eq_true_eq] at hok
    have ho := List.all_eq_true.1 hok.2 i (by simpa using (Array.getElem?_eq_some_iff.1 hi).1)
    simp only [hi, Bool.and_eq_true] at ho
    have := Array.all_eq_true_iff_forall_mem.1 ho.1 e he
    simpa [hb] using this
  simp only [tailOk, Bool.and_eq_true, decide_eq_true_eq] at ht
  obtain ⟨⟨hh, hc⟩, _⟩ := ht
  intro m
  induction m with
  | zero =>
    intro k listed a w hk hkm hs hl hw
    refine ⟨?_, by simpa [wpOps] using hw⟩
    cases hx : Region.ready .any ops listed with
    | nil => rfl
    | cons i is =>
      have hi : i ∈ Region.ready .any ops listed := by rw [hx]; exact List.mem_cons_self ..
      obtain ⟨hun, o, ho, _⟩ := mem_ready.1 hi
      have hio := (Array.getElem?_eq_some_iff.1 ho).1
      have := hl i hio
      rw [hun] at this
      simp at this
      omega
  | succ m ih =>
    intro k listed a w hk hkm hs hl hw
    have hks : k < ops.size := by omega
    have hko : ops[k]? = some ops[k] := Array.getElem?_eq_getElem hks
    have hready : k ∈ Region.ready .any ops listed := mem_ready.2 ⟨by rw [hl k hks]; simp, _, hko, fun e he hb => by
      have hlt := hback k _ hko e he hb
      rw [← getD_ff (by omega), hl e.on (by omega)]; simpa using hlt⟩
    refine ⟨fun hr => (by rw [hr] at hready; cases hready), fun i hi => ?_⟩
    obtain ⟨hun, o, ho, hpre⟩ := mem_ready.1 hi
    have hio := (Array.getElem?_eq_some_iff.1 ho).1
    have hik : i = k := by
      have hl1 := hl i hio
      rw [hun] at hl1
      have hge : k ≤ i := by simpa using hl1
      rcases Nat.lt_or_ge k i with hlt | h'
      · have h1 := List.all_eq_true.1 hc i (by simpa using hio)
        simp only [ho, Bool.or_eq_true, decide_eq_true_eq] at h1
        rcases h1 with h1 | h1
        · omega
        · obtain ⟨e, he, hb⟩ := Array.any_eq_true'.1 h1
          simp only [Bool.and_eq_true, beq_iff_eq] at hb
          have h2 := hpre e he hb.1
          rw [← getD_ff (by omega), hl e.on (by omega), hb.2] at h2
          simp at h2
          omega
      · omega
    subst hik
    rw [List.range'_succ, wpOps_cons] at hw
    refine wpOp_mono (fun a w h1 => ih (i + 1) _ a w (by omega) (by omega) (by simp [hs]) (fun j hj => ?_) h1) hw
    by_cases hji : j = i
    · subst hji; simp [hs, hj]
    · rw [getD_set_ne true (Ne.symm hji), hl j hj]
      simp only [decide_eq_decide]
      omega

/-- A REGION THAT DRAWS ITS ORDER, by facts; the operations from h on are forced and walked as they stand. -/
theorem wp_region_tail_raw {id : Nat} (Fl : List (Fact E)) (h : Nat) (tl : List Oper) (hm : P.follows .mixedOrders = true) (htrans : ∀ a b c, E a b → E b c → E a c) (hdrew : E w w.drew) (hn : a.tmps.size = n) (hok : regionOk ops n = true) (ht : tailOk ops h = true)
    (htl : ops.toList.drop h = tl) (hsteps : Steps P ops (NoPanic Q) (fun i => Fl.getD i (.eq undef)) a w 0 (ops.toList.take h))
    (hend : ∀ w', E w w' → withPreds ops (fun i => Fl.getD i (.eq undef)) w' (List.range h) a (fun a' => wpList P ops (NoPanic Q) tl a' w')) :
    (Code.region id ops true).wp P Q a w := by
  refine wp_region_noPanic (wp_region_any hm ?_)
  have hback : ∀ i o, ops[i]? = some o → ∀ e ∈ o.after, Region.binds .any e = true → e.on < i := by
    intro i o hi e he hb
    have hok' := hok
    simp only [regionOk, Bool.and_eq_true, decide_eq_true_eq] at hok'
    have ho := List.all_eq_true.1 hok'.2 i (by simpa using (Array.getElem?_eq_some_iff.1 hi).1)
    simp only [hi, Bool.and_eq_true] at ho
    have := Array.all_eq_true_iff_forall_mem.1 ho.1 e he
    simpa [hb] using this
  have ht' := ht
  simp only [tailOk, Bool.and_eq_true, decide_eq_true_eq] at ht'
  obtain ⟨⟨hh, hc⟩, hs⟩ := ht'
  have main : ∀ (c fuel : Nat) (listed : Array Bool) (a' : Act) (w' : World), fuel = c + (ops.size - h) → (listed.toList.take h).countP (fun b => !b) = c →
      (∀ i, h ≤ i → i < ops.size → listed.getD i true = false) → (∀ i o, ops[i]? = some o → listed.getD i false = true → ∀ e ∈ o.after, Region.binds .any e = true → listed.getD e.on false = true) →
      Mid ops (fun i => Fl.getD i (.eq undef)) a w listed a' w' → wpAny P .any ops (NoPanic Q) fuel listed a' w' := by
    intro c
    induction c with
    | zero =>
      intro fuel listed a' w' hf hcnt htu hcl hmid
      have hl : ∀ i, i < ops.size → listed.getD i true = decide (i < h) := by
        intro i hi
        by_cases hih : i < h
        · have hlt : i < (listed.toList.take h).length := by simp [hmid.size]; omega
          have h0 := List.countP_eq_zero.1 hcnt ((listed.toList.take h)[i]) (List.getElem_mem hlt)
          have hls : i < listed.size := by rw [hmid.size]; exact hi
          simp only [List.getElem_take, Array.getElem_toList, Bool.not_eq_true', Bool.not_eq_false] at h0
          simp only [Array.getD, hls, dite_true, hih, decide_true]
          simpa using h0
        · rw [htu i (by omega) hi]; simp [hih]
      subst hf
      refine forced_any hok ht (0 + (ops.size - h)) h listed a' w' (Nat.le_refl _) (by omega) hmid.size hl ?_
      obtain ⟨vs, hvs⟩ := hmid.facts
      have hls : ∀ j, j < h → listed.getD j false = true := fun j hj => by
        rw [← getD_ff (by rw [hmid.size]; omega), hl j (by omega)]; simpa using hj
      have h1 := withPreds_use (List.range h) a (fun j hj => (hvs j (hls j (by simpa using hj))).1) (hend w' hmid.ext)
      have hok' := hok
      simp only [regionOk, Bool.and_eq_true, decide_eq_true_eq] at hok'
      obtain ⟨⟨⟨_, hsz⟩, hnd⟩, _⟩ := hok'
      have e : a' = putL ops vs (List.range h) a := by
        have h2 : a'.tmps = (putL ops vs (List.range h) a).tmps := by
          apply Array.ext_getElem?
          intro t
          by_cases hc : ∃ j, j < h ∧ dstOf ops j = some t
          · obtain ⟨j, hj, hjt⟩ := hc
            have hts : t < a.tmps.size := by
              have := List.all_eq_true.1 hsz t (dst_mem hjt)
              rw [hn]; simpa using this
            rw [putL_at vs t j hjt (fun k hk => dst_uniq hnd hk hjt) _ _ (by simpa using hj) hts]
            exact (hvs j (hls j hj)).2 t hjt
          · have hno : ∀ j, j < h → dstOf ops j ≠ some t := fun j hj he => hc ⟨j, hj, he⟩
            rw [putL_other vs t _ _ (fun j hj => hno j (by simpa using hj))]
            refine hmid.other t (fun j hj => ?_)
            have hjs := getD_lt hj
            rw [hmid.size] at hjs
            refine hno j ?_
            have := hl j hjs
            rw [getD_ff (by rw [hmid.size]; exact hjs), hj] at this
            simpa using this.symm
        have h3 : a'.defers = (putL ops vs (List.range h) a).defers := by rw [putL_defers]; exact hmid.defers
        cases a'
        generalize putL ops vs (List.range h) a = z at *
        cases z
        simp only at h2 h3
        subst h2; subst h3; rfl
      have h5 : wpOps P ops (NoPanic Q) (List.range' h tl.length) = wpList P ops (NoPanic Q) tl := wpOps_eq_wpList tl h (fun j => by rw [← htl]; simp)
      have h6 : tl.length = 0 + (ops.size - h) := by rw [← htl]; simp
      rw [h6] at h5
      rw [h5, e]; exact h1
    | succ c ih =>
      intro fuel listed a' w' hf hcnt htu hcl hmid
      subst hf
      rw [show c + 1 + (ops.size - h) = (c + (ops.size - h)) + 1 from by omega]
      -- an operation of the tail is not ready yet
      have notail : ∀ i, i ∈ Region.ready .any ops listed → i < h := by
        intro i hi
        rcases Nat.lt_or_ge i h with hlt | hge
        · exact hlt
        exfalso
        obtain ⟨hun, o, ho, hpre⟩ := mem_ready.1 hi
        have hio := (Array.getElem?_eq_some_iff.1 ho).1
        have hih : i = h := by
          rcases Nat.lt_or_ge h i with hlt | h'
          · have h1 := List.all_eq_true.1 hc i (by simpa using hio)
            simp only [ho, Bool.or_eq_true, decide_eq_true_eq] at h1
            rcases h1 with h1 | h1
            · omega
            · obtain ⟨e, he, hb⟩ := Array.any_eq_true'.1 h1
              simp only [Bool.and_eq_true, beq_iff_eq] at hb
              have h2 := hpre e he hb.1
              rw [hb.2, ← getD_ff (by rw [hmid.size]; omega), htu (i - 1) (by omega) (by omega)] at h2
              cases h2
          · omega
        subst hih
        have heads : ∀ d j, j + d + 1 = i → listed.getD j false = true := by
          intro d
          induction d using Nat.strongRecOn with
          | ind d ihd =>
            intro j hj
            have h1 := List.all_eq_true.1 hs j (by simp; omega)
            obtain ⟨k, hk, h2⟩ := List.any_eq_true.1 h1
            simp only [List.mem_range] at hk
            cases hko : ops[k]? with
            | none => simp [hko] at h2
            | some ok =>
              simp only [hko, Bool.and_eq_true, decide_eq_true_eq] at h2
              obtain ⟨hjk, h2⟩ := h2
              obtain ⟨e, he, hb⟩ := Array.any_eq_true'.1 h2
              simp only [Bool.and_eq_true, beq_iff_eq] at hb
              by_cases hki : k = i
              · subst hki
                rw [ho] at hko; cases hko
                rw [← hb.2]; exact hpre e he hb.1
              · rw [← hb.2]
                exact hcl k ok hko (ihd (i - k - 1) (by omega) k (by omega)) e he hb.1
        have h0 : (listed.toList.take i).countP (fun b => !b) = 0 := by
          refine List.countP_eq_zero.2 fun b hb => ?_
          obtain ⟨j, hj, hjb⟩ := List.mem_iff_getElem.1 hb
          have hji : j < i := by simp at hj; omega
          have h3 := heads (i - j - 1) j (by omega)
          have hjs : j < listed.size := getD_lt h3
          simp only [Array.getD, hjs, dite_true] at h3
          rw [← hjb]
          simp only [List.getElem_take, Array.getElem_toList]
          have h4 : listed[j] = true := by simpa using h3
          simp [h4]
        omega
      refine ⟨fun hr => ?_, fun i hi => ?_⟩
      · exfalso
        have hall : ∀ i, i < ops.size → listed.getD i true = true := by
          intro i
          induction i using Nat.strongRecOn with
          | ind i ihi =>
            intro hi
            cases hx : listed.getD i true with
            | true => rfl
            | false =>
              have hio : ops[i]? = some ops[i] := Array.getElem?_eq_getElem hi
              have : i ∈ Region.ready .any ops listed := mem_ready.2 ⟨hx, _, hio, fun e he hb => by
                have hlt := hback i _ hio e he hb
                rw [← getD_ff (by rw [hmid.size]; omega)]
                exact ihi e.on hlt (Nat.lt_trans hlt hi)⟩
              rw [hr] at this; cases this
        have := hall h hh
        rw [htu h (Nat.le_refl _) hh] at this
        cases this
      · have hih := notail i hi
        obtain ⟨hun, o, ho, hpre⟩ := mem_ready.1 hi
        have hu := getD_unlisted hun
        refine step_mid htrans hn hok ho ?_ hmid hun hpre (fun x y hxy => ih _ _ x y rfl ?_ ?_ ?_ hxy) (fun _ _ _ h => h)
        · have := steps_get (ops.toList.take h) 0 hsteps i o (by rw [List.getElem?_take, if_pos hih]; simpa using ho)
          rwa [Nat.zero_add] at this
        · rw [Array.toList_setIfInBounds, List.take_set, List.countP_set (by simp; omega)]
          have h3 := hu.1
          simp only [Array.getD, hu.2, dite_true] at h3
          have h4 : (listed.toList.take h)[i]'(by simp; omega) = false := by simpa using h3
          simp only [h4]
          simp only [Bool.not_false, if_true, Bool.not_true, Bool.false_eq_true, if_false]
          omega
        · intro j hj hjs
          rw [getD_set_ne true (by omega)]; exact htu j hj hjs
        · intro j oj hoj hlj e he hb
          rw [getD_set hu.2] at hlj
          by_cases hji : j = i
          · subst hji
            rw [ho] at hoj; cases hoj
            exact getD_set_true (hpre e he hb)
          · rw [if_neg hji] at hlj
            exact getD_set_true (hcl j oj hoj hlj e he hb)
  have hcount : ((Array.replicate ops.size false).toList.take h).countP (fun b => !b) = h := by
    rw [Array.toList_replicate, List.take_replicate, List.countP_replicate]; simp; omega
  have := main h ops.size (Array.replicate ops.size false) a w.drew (by omega) hcount (fun i _ hi => by simp [hi]) (fun i o _ hx => by
    have := getD_lt hx
    simp only [Array.size_replicate] at this
    simp [this] at hx) ⟨by simp, hdrew, rfl, rfl, fun _ _ => rfl, fun _ => undef, fun j hj => by
      have := getD_lt hj
      simp only [Array.size_replicate] at this
      simp [this] at hj⟩
  exact this

/- THE SAME AGAIN: behind the region the frame is a fresh one, of which the slots that are still wanted are known. -/
def withBaseG (g : Nat → Value) : List Tmp → List Value → Prop → Prop
  | t :: ts, v :: vs, k => g t = v → withBaseG g ts vs k
  | _, _, k => k
def withSrcG {E : World → World → Prop} (Fl : List (Fact E)) (w : World) (g : Nat → Value) : List (Nat × Tmp) → Prop → Prop
  | [], k => k
  | (j, t) :: js, k => (Fl.getD j (.eq undef)).all w fun v => (g t = v → withSrcG Fl w g js k)
theorem withBaseG_use {g f : Nat → Value} {k : Prop} : ∀ (ts : List Tmp), (∀ t ∈ ts, g t = f t) → withBaseG g ts (ts.map f) k → k := by
  intro ts
  induction ts with
  | nil => intro _ h; exact h
  | cons p js ih => intro hp h; exact ih (fun q hq => hp q (List.mem_cons_of_mem _ hq)) (h (hp p (List.mem_cons_self ..)))
theorem withSrcG_use {Fl : List (Fact E)} {w : World} {g : Nat → Value} {k : Prop} : ∀ (js : List (Nat × Tmp)), (∀ p ∈ js, (Fl.getD p.1 (.eq undef)).p (g p.2) w) → withSrcG Fl w g js k → k := by
  intro js
  induction js with
  | nil => intro _ h; exact h
  | cons p js ih => intro hp h; exact ih (fun q hq => hp q (List.mem_cons_of_mem _ hq)) (Fact.all_use h (hp p (List.mem_cons_self ..)) rfl)
def liveOk (ops : Array Oper) (n h : Nat) (lb : List Tmp) (lr : List (Nat × Tmp)) : Bool :=
  (lr.all fun p => decide (p.1 < h) && dstOf ops p.1 == some p.2 && decide (p.2 < n)) &&
  (lb.all fun t => !(ops.toList.filterMap (·.dst)).contains t)
theorem live_use {Fl : List (Fact E)} {vlb : List Value} {h : Nat} {w' : World} {R : Act → Prop} (hn : a.tmps.size = n) (hnd : (ops.toList.filterMap (·.dst)).Nodup)
    (lb : List Tmp) (hvlb : lb.map (fun t => a.tmps.getD t undef) = vlb) (lr : List (Nat × Tmp)) (hlive : liveOk ops n h lb lr = true)
    (lit : (Nat → Value) → List Value) (hlit : ∀ g, (List.range n).map g = lit g)
    (H : ∀ g : Nat → Value, withBaseG g lb vlb (withSrcG Fl w' g lr (R ⟨(lit g).toArray, a.defers⟩))) :
    withPreds ops (fun i => Fl.getD i (.eq undef)) w' (List.range h) a R := by
  have key : ∀ vs : Nat → Value, (∀ j ∈ List.range h, (Fl.getD j (.eq undef)).p (vs j) w') → R (putL ops vs (List.range h) a) := by
    intro vs hvs
    generalize hx : putL ops vs (List.range h) a = x
    have hxn : x.tmps.size = n := by rw [← hx, putL_size]; exact hn
    simp only [liveOk, Bool.and_eq_true] at hlive
    have h1 := H (fun t => x.tmps.getD t undef)
    rw [← hvlb] at h1
    have h2 := withBaseG_use lb (fun t ht => by
      have hc := List.all_eq_true.1 hlive.2 t ht
      simp only [Bool.not_eq_true'] at hc
      have hno : ∀ j, dstOf ops j ≠ some t := fun j hj => by
        have hm := dst_mem hj
        have : (ops.toList.filterMap (·.dst)).contains t = true := by simpa using hm
        rw [this] at hc; cases hc
      show x.tmps.getD t undef = a.tmps.getD t undef
      rw [Array.getD_eq_getD_getElem?, ← hx, putL_other vs t _ _ (fun j _ => hno j), ← Array.getD_eq_getD_getElem?]) h1
    have h3 := withSrcG_use lr (fun p hp => by
      have := List.all_eq_true.1 hlive.1 p hp
      simp only [Bool.and_eq_true, decide_eq_true_eq, beq_iff_eq] at this
      obtain ⟨⟨hc, hd⟩, hl⟩ := this
      have : x.tmps.getD p.2 undef = vs p.1 := by
        rw [Array.getD_eq_getD_getElem?, ← hx, putL_at vs p.2 p.1 hd (fun k hk => dst_uniq hnd hk hd) _ _ (by simpa using hc) (by rw [hn]; exact hl)]
        rfl
      show (Fl.getD p.1 (.eq undef)).p (x.tmps.getD p.2 undef) w'
      rw [this]
      exact hvs p.1 (by simpa using hc)) h2
    rw [← hlit] at h3
    have e : x = ⟨((List.range n).map fun t => x.tmps.getD t undef).toArray, a.defers⟩ := by
      have e1 : x.tmps = ((List.range n).map fun t => x.tmps.getD t undef).toArray := by
        apply Array.ext_getElem?
        intro t
        rcases Nat.lt_or_ge t n with hlt | hge
        · simp only [List.getElem?_toArray, List.getElem?_map]
          rw [List.getElem?_range hlt]
          simp only [Option.map_some, Array.getD_eq_getD_getElem?]
          simp [Array.getElem?_eq_getElem (show t < x.tmps.size by omega)]
        · simp only [List.getElem?_toArray, List.getElem?_map]
          rw [List.getElem?_eq_none (by simpa using hge), Array.getElem?_eq_none (by omega)]
          rfl
      have e2 : x.defers = a.defers := by rw [← hx, putL_defers]
      cases x
      simp only at e1 e2
      rw [← e2, ← e1]
    rw [e]; exact h3
  have back : ∀ (js : List Nat) (a : Act), js.Nodup → (∀ vs : Nat → Value, (∀ j ∈ js, (Fl.getD j (.eq undef)).p (vs j) w') → R (putL ops vs js a)) → withPreds ops (fun i => Fl.getD i (.eq undef)) w' js a R := by
    intro js
    induction js with
    | nil => intro a _ h; exact h (fun _ => undef) (fun j hj => by cases hj)
    | cons j js ih =>
      intro a hnj h
      have hj := List.nodup_cons.1 hnj
      have one : ∀ v, (Fl.getD j (.eq undef)).p v w' → withPreds ops (fun i => Fl.getD i (.eq undef)) w' js (a.put (dstOf ops j) v) R := by
        intro v hv
        refine ih _ hj.2 fun vs hvs => ?_
        have := h (fun i => if i = j then v else vs i) (fun i hi => by
          by_cases hij : i = j
          · subst hij; simpa using hv
          · simp only [if_neg hij]
            rcases List.mem_cons.1 hi with h1 | h1
            · exact absurd h1 hij
            · exact hvs i h1)
        have e : ∀ (l : List Nat) (a : Act), j ∉ l → putL ops (fun i => if i = j then v else vs i) l a = putL ops vs l a := by
          intro l
          induction l with
          | nil => intro a _; rfl
          | cons k l ihl =>
            intro a hk
            simp only [putL]
            rw [if_neg (show ¬ k = j by intro h; subst h; exact hk (List.mem_cons_self ..)), ihl _ (fun h => hk (List.mem_cons_of_mem _ h))]
        simp only [putL, if_true] at this
        rwa [e _ _ hj.1] at this
      simp only [withPreds]
      cases hF : Fl.getD j (.eq undef) with
      | eq c => exact one c (by rw [hF]; rfl)
      | is p up => exact fun v hv => one v (by rw [hF]; exact hv)
  exact back _ a List.nodup_range key

theorem wp_region_g {id : Nat} (Fl : List (Fact E)) (hm : P.follows .mixedOrders = true) (htrans : ∀ a b c, E a b → E b c → E a c) (hdrew : E w w.drew) (hn : a.tmps.size = n) (hok : regionOk ops n = true)
    (slots : List Tmp) (vals : List Value) (hvals : slots.map (fun t => a.tmps.getD t undef) = vals) (rows : List Row) (hrows : rowsOk ops n slots ops.toList rows = true)
    (lb : List Tmp) (vlb : List Value) (hvlb : lb.map (fun t => a.tmps.getD t undef) = vlb) (lr : List (Nat × Tmp)) (hlive : liveOk ops n ops.size lb lr = true) (lit : (Nat → Value) → List Value) (hlit : ∀ g, (List.range n).map g = lit g)
    (hsteps : StepsR P Fl vals w 0 ops.toList rows)
    (hend : ∀ w', E w w' → ∀ g : Nat → Value, withBaseG g lb vlb (withSrcG Fl w' g lr (Q .normal ⟨(lit g).toArray, a.defers⟩ w'))) :
    (Code.region id ops true).wp P Q a w := by
  have hok' := hok
  simp only [regionOk, Bool.and_eq_true, decide_eq_true_eq] at hok'
  exact wp_region_raw Fl hm htrans hdrew hn hok (steps_of_rows hn hok'.1.2 hvals _ rows 0 hrows hsteps)
    (fun w' hw => live_use (R := fun a' => Q .normal a' w') hn hok'.1.2 lb hvlb lr hlive lit hlit (hend w' hw))
theorem wp_region_gt {id : Nat} (Fl : List (Fact E)) (h : Nat) (tl : List Oper) (hm : P.follows .mixedOrders = true) (htrans : ∀ a b c, E a b → E b c → E a c) (hdrew : E w w.drew) (hn : a.tmps.size = n) (hok : regionOk ops n = true) (ht : tailOk ops h = true)
    (htl : ops.toList.drop h = tl) (slots : List Tmp) (vals : List Value) (hvals : slots.map (fun t => a.tmps.getD t undef) = vals) (rows : List Row) (hrows : rowsOk ops n slots (ops.toList.take h) rows = true)
    (lb : List Tmp) (vlb : List Value) (hvlb : lb.map (fun t => a.tmps.getD t undef) = vlb) (lr : List (Nat × Tmp)) (hlive : liveOk ops n h lb lr = true) (lit : (Nat → Value) → List Value) (hlit : ∀ g, (List.range n).map g = lit g)
    (hsteps : StepsR P Fl vals w 0 (ops.toList.take h) rows)
    (hend : ∀ w', E w w' → ∀ g : Nat → Value, withBaseG g lb vlb (withSrcG Fl w' g lr (wpList P ops (NoPanic Q) tl ⟨(lit g).toArray, a.defers⟩ w'))) :
    (Code.region id ops true).wp P Q a w := by
  have hok' := hok
  simp only [regionOk, Bool.and_eq_true, decide_eq_true_eq] at hok'
  exact wp_region_tail_raw Fl h tl hm htrans hdrew hn hok ht htl (steps_of_rows hn hok'.1.2 hvals _ rows 0 hrows hsteps)
    (fun w' hw => live_use (R := fun a' => wpList P ops (NoPanic Q) tl a' w') hn hok'.1.2 lb hvlb lr hlive lit hlit (hend w' hw))
/-- a call of a Go function, whatever tells the operands' values -/
@[go_sem ↓] theorem execOp_call_rho (ρ : Operand → Value) (dst : Option Tmp) (f : FuncId) (xs : Array Operand) (ats : Array TypeId) (ty : TypeId) (pos : String) (after : Array Edge) (guard : Option (Nat × Bool)) (hf : ρ (.func f) = .func (.func f) #[] #[]) :
    execOp ρ { dst, op := .call { callee := .value (.func f), args := xs, argTypes := ats }, type := ty, pos, after, guard } = callFunc f (xs.map ρ) := by
  simp [execOp, resolve, hf, go_sem]
end
end Go.Proofs.Ytkflllendbgdaaa
