/- Code, on abstract values: calls, regions in the text's order, branches, loops. -/
import Derived.Test.YtphjglbbhanmpaaEG
import Derived.LoopN
namespace Go.Proofs.Ytphjglbbhanmpaa.Ab
open Go Go.RowKit

def fnOK (P : Program) (f : FuncId) : Bool := match P.funcs[f]? with
  | some fn => !(fn.name == "runtime.NumGoroutine") && fn.body.isSome
  | none => false
theorem run_call {P : Program} {f : FuncId} (h : fnOK P f = true) (args : Array Value) (w : World) : (callFunc f args).run P w = .ok (.enter f args) w := by
  unfold fnOK at h
  split at h
  · rename_i fn hf
    simp only [Bool.and_eq_true, Bool.not_eq_true'] at h
    have hb : fn.body.isNone = false := by cases hx : fn.body <;> simp [hx] at h ⊢
    unfold callFunc
    simp only [Sem.run_bind, run_program, Result.andThen_ok, hf, h.1, hb, Bool.false_eq_true, if_false, Sem.run_pure]
  · cases h
/-- a call; q: it is sure not to freeze what the caller made -/
def SC (q : Bool) (P : Program) (f : FuncId) (args : List AV) (H : AH) (Q : AV → AH → Prop) : Prop :=
  fnOK P f = true ∧ ∀ U φ V w (cargs : List Value), HRel U φ V w H → VRels U φ V w args cargs →
    Calls P f cargs.toArray w fun e w' => ∃ v, e = .returned v ∧ Post H.length (if q then w.heap.size else 0) U φ V w H Q v w'
theorem SC.mono {q : Bool} {P : Program} {f : FuncId} {args : List AV} {H : AH} {Q Q' : AV → AH → Prop} (h : SC q P f args H Q) (hq : ∀ r H', Q r H' → Q' r H') : SC q P f args H Q' :=
  ⟨h.1, fun U φ V w ca hh ha => (h.2 U φ V w ca hh ha).mono fun _ _ ⟨v, he, r, U', φ', V', H', hQ, x⟩ => ⟨v, he, r, U', φ', V', H', hq _ _ hQ, x⟩⟩
theorem SC.weak {P : Program} {f : FuncId} {args : List AV} {H : AH} {Q : AV → AH → Prop} (h : SC true P f args H Q) : SC false P f args H Q :=
  ⟨h.1, fun U φ V w ca hh ha => (h.2 U φ V w ca hh ha).mono fun _ _ ⟨v, he, r, U', φ', V', H', hQ, g, hv, s⟩ => ⟨v, he, r, U', φ', V', H', hQ, ⟨g.heap, Nat.zero_le _, fun _ _ _ => Nat.zero_le _, g.ownk⟩, hv, s.mono (Nat.zero_le _)⟩⟩
section
variable {P : Program} {q : Bool} {k0 : Nat} {H : AH} {o : Oper} {ρ : Operand → AV} {K : AV → AH → Prop}
theorem post_call {q : Bool} {B : Nat} {U : Nat → Prop} {φ : Pl} {V : Nat → Prop} {w : World} (hq : q = false → B = 0) (g : Good k0 B U φ V w H) {v : Value} {w' : World} (h : Post H.length (if q then w.heap.size else 0) U φ V w H K v w') : Post k0 B U φ V w H K v w' := by
  obtain ⟨r, U', φ', V', H', hK, g', hv, s⟩ := h
  have hB : B ≤ (if q then w.heap.size else 0) := by
    cases q
    · rw [hq rfl]; exact Nat.zero_le _
    · exact g.base
  refine ⟨r, U', φ', V', H', hK, ⟨g'.heap, Nat.le_trans g.base s.size, fun id hk hl => ?_, Nat.le_trans g.ownk s.len⟩, hv, s.mono hB⟩
  rcases Nat.lt_or_ge id H.length with h | h
  · rw [s.name id h]; exact g.own id hk (s.dead id h hl)
  · exact Nat.le_trans hB (g'.own id h hl)
theorem ao_call (cl : Call) (f : FuncId) (ho : o.op = .call cl) (hc : cl.callee = .value (.func f)) (h : SC q P f (cl.args.toList.map ρ) H K) : AO P q k0 o ρ H K := by
  intro B U φ V w ρc hq g hr hf
  have ha : VRels U φ V w (cl.args.toList.map ρ) (cl.args.toList.map ρc) := ⟨by simp, fun i x u hx hu => by
    rw [List.getElem?_map] at hx hu
    cases hy : cl.args.toList[i]? with
    | none => rw [hy] at hx; cases hx
    | some y =>
      rw [hy] at hx hu; cases hx; cases hu
      exact hr y (by
        have := List.mem_of_getElem? hy
        simp [ho, Op.operands, Call.operands]; exact .inr (by simpa using this))⟩
  have := h.2 U φ V w _ g.heap ha
  have e : (cl.args.toList.map ρc).toArray = cl.args.map ρc := Array.toList_inj.1 (by simp)
  rw [e] at this
  have hrun : (execOp ρc o).run P w = .ok (.enter f (cl.args.map ρc)) w := by
    simp [execOp, ho, resolve, hc, hf, Deferred.ofValue, invoke, run_call h.1]
  rw [hrun]
  exact this.mono fun e w' ⟨v, he, hp⟩ => ⟨v, he, post_call hq g hp⟩
/-- a call of a function value -/
theorem ao_callv (cl : Call) (x : Operand) (f : FuncId) (fs cs : List AV) (ho : o.op = .call cl) (hc : cl.callee = .value x) (hx : ρ x = .fn (.func f) fs cs) (h : SC q P f (fs ++ cl.args.toList.map ρ ++ cs) H K) : AO P q k0 o ρ H K := by
  intro B U φ V w ρc hq g hr hf
  have hm : ∀ y, y = x ∨ y ∈ cl.args → VRel U φ V w (ρ y) (ρc y) := fun y hy => hr y (by
    simp [ho, Op.operands, Call.operands, hc]; exact hy)
  have h1 := hm x (.inl rfl)
  rw [hx] at h1
  obtain ⟨us, vs, hb, hus, hvs⟩ := h1.inv_fn
  have ha : VRels U φ V w (cl.args.toList.map ρ) (cl.args.toList.map ρc) := ⟨by simp, fun i x u hx hu => by
    rw [List.getElem?_map] at hx hu
    cases hy : cl.args.toList[i]? with
    | none => rw [hy] at hx; cases hx
    | some y =>
      rw [hy] at hx hu; cases hx; cases hu
      exact hm y (.inr (by simpa using List.mem_of_getElem? hy))⟩
  have app : ∀ {as bs : List AV} {xs ys : List Value}, VRels U φ V w as xs → VRels U φ V w bs ys → VRels U φ V w (as ++ bs) (xs ++ ys) := fun {as bs xs ys} h1 h2 => ⟨by simp [h1.1, h2.1], fun i x u hx hu => by
    rcases Nat.lt_or_ge i as.length with hi | hi
    · rw [List.getElem?_append_left hi] at hx
      rw [List.getElem?_append_left (by rw [h1.1]; exact hi)] at hu
      exact h1.2 i x u hx hu
    · rw [List.getElem?_append_right hi] at hx
      rw [List.getElem?_append_right (by rw [h1.1]; exact hi), h1.1] at hu
      exact h2.2 _ x u hx hu⟩
  have := h.2 U φ V w _ g.heap (app (app hus ha) hvs)
  have e : (us ++ cl.args.toList.map ρc ++ vs).toArray = us.toArray ++ cl.args.map ρc ++ vs.toArray := Array.toList_inj.1 (by simp)
  rw [e] at this
  have hrun : (execOp ρc o).run P w = .ok (.enter f (us.toArray ++ cl.args.map ρc ++ vs.toArray)) w := by
    simp only [execOp, ho, resolve, hc, hb, Deferred.ofValue, invoke, Sem.run_bind, Sem.run_pure, Result.andThen_ok, run_call h.1]
  rw [hrun]
  exact this.mono fun e w' ⟨v, he, hp⟩ => ⟨v, he, post_call hq g hp⟩
end

/-- where code ends -/
inductive AX where
  | normal
  | exit (id : Nat)
  | ret
def AX.rel : AX → Exit → Prop
  | .normal, .normal => True
  | .exit i, .exit j => i = j
  | .ret, .ret => True
  | _, _ => False
abbrev AQ := AX → AF → AH → Prop
def Lift (n k0 B : Nat) (U : Nat → Prop) (φ : Pl) (V : Nat → Prop) (w : World) (H : AH) (Q : AQ) : Exit → Act → World → Prop :=
  fun e a' w' => ∃ x F' H' U' φ' V', AX.rel x e ∧ Q x F' H' ∧ Rel n k0 B U' φ' V' w' F' H' a' ∧ Step B U φ V w H U' φ' V' w' H'
def AW (P : Program) (q : Bool) (n k0 : Nat) (c : Code) (Q : AQ) (F : AF) (H : AH) : Prop :=
  ∀ B U φ V w a, (q = false → B = 0) → Rel n k0 B U φ V w F H a → c.wp P (Lift n k0 B U φ V w H Q) a w
theorem Rel.good {n k0 B : Nat} {U : Nat → Prop} {φ : Pl} {V : Nat → Prop} {w : World} {F : AF} {H : AH} {a : Act} (r : Rel n k0 B U φ V w F H a) : Good k0 B U φ V w H := ⟨r.heap, r.base, r.own, r.ownk⟩
theorem Lift.trans {n k0 B : Nat} {φ φ1 : Pl} {U U1 V V1 : Nat → Prop} {w w1 : World} {H H1 : AH} {Q : AQ} {e : Exit} {a : Act} {w' : World} (s : Step B U φ V w H U1 φ1 V1 w1 H1) (h : Lift n k0 B U1 φ1 V1 w1 H1 Q e a w') : Lift n k0 B U φ V w H Q e a w' := by
  obtain ⟨x, F', H', U', φ', V', h1, h2, h3, h4⟩ := h
  exact ⟨x, F', H', U', φ', V', h1, h2, h3, s.trans h4⟩
section
variable {P : Program} {q : Bool} {n k0 : Nat} {Q : AQ} {F : AF} {H : AH}
theorem AW.mono {c : Code} {Q' : AQ} (h : AW P q n k0 c Q F H) (hq : ∀ x F H, Q x F H → Q' x F H) : AW P q n k0 c Q' F H :=
  fun B U φ V w a hb r => wp_mono (h B U φ V w a hb r) fun _ _ _ ⟨x, F', H', U', φ', V', h1, h2, h3⟩ => ⟨x, F', H', U', φ', V', h1, hq _ _ _ h2, h3⟩
theorem aw_skip (h : Q .normal F H) : AW P q n k0 .skip Q F H := fun _B U φ V _w _a _hb r => wp_skip ⟨.normal, F, H, U, φ, V, True.intro, h, r, Step.refl ..⟩
theorem aw_ret (h : Q .ret F H) : AW P q n k0 .ret Q F H := fun _B U φ V _w _a _hb r => wp_ret ⟨.ret, F, H, U, φ, V, True.intro, h, r, Step.refl ..⟩
theorem aw_exit {id : Nat} (h : Q (.exit id) F H) : AW P q n k0 (.exit id) Q F H := fun _B U φ V _w _a _hb r => wp_exit ⟨.exit id, F, H, U, φ, V, rfl, h, r, Step.refl ..⟩
def AX.then (K : AF → AH → Prop) (Q : AQ) : AQ
  | .normal, F, H => K F H
  | x, F, H => Q x F H
theorem aw_seq {x y : Code} (h : AW P q n k0 x (AX.then (AW P q n k0 y Q) Q) F H) : AW P q n k0 (.seq x y) Q F H := by
  intro B U φ V w a hb r
  refine wp_seq (wp_mono (h B U φ V w a hb r) fun e a' w' hl => ?_)
  obtain ⟨x, F', H', U', φ', V', h1, h2, h3, h4⟩ := hl
  cases x <;> cases e <;> first | (exact h1.elim) | skip
  · exact wp_mono (h2 B U' φ' V' w' a' hb h3) fun _ _ _ hl => hl.trans h4
  · exact ⟨_, F', H', U', φ', V', h1, h2, h3, h4⟩
  · exact ⟨_, F', H', U', φ', V', h1, h2, h3, h4⟩
theorem aw_cond {c : Operand} {x y : Code} {t : Bool} (hc : aev F c = .p (.bool t)) (ht : t = true → AW P q n k0 x Q F H) (hf : t = false → AW P q n k0 y Q F H) : AW P q n k0 (.cond c x y) Q F H := by
  intro B U φ V w a hb r
  have h1 := aev_rel r.frame c
  rw [hc] at h1
  have h1 := h1.inv_p
  exact wp_cond_split h1 (fun h => ht h B U φ V w a hb r) (fun h => hf h B U φ V w a hb r)
theorem aw_true {c : Operand} {x y : Code} (hc : aev F c = .p (.bool true)) (ht : AW P q n k0 x Q F H) : AW P q n k0 (.cond c x y) Q F H := aw_cond hc (fun _ => ht) (fun h => by cases h)
theorem aw_false {c : Operand} {x y : Code} (hc : aev F c = .p (.bool false)) (hf : AW P q n k0 y Q F H) : AW P q n k0 (.cond c x y) Q F H := aw_cond hc (fun h => by cases h) (fun _ => hf)
theorem aw_dec {c : Operand} {x y : Code} {p : Prop} [Decidable p] (hc : aev F c = .p (.bool (decide p))) (ht : p → AW P q n k0 x Q F H) (hf : ¬ p → AW P q n k0 y Q F H) : AW P q n k0 (.cond c x y) Q F H :=
  aw_cond hc (fun h => ht (of_decide_eq_true h)) (fun h => hf (of_decide_eq_false h))
def AX.inBlock (id : Nat) (Q : AQ) : AQ
  | .exit i, F, H => if i = id then Q .normal F H else Q (.exit i) F H
  | x, F, H => Q x F H
theorem aw_block {id : Nat} {c : Code} (h : AW P q n k0 c (AX.inBlock id Q) F H) : AW P q n k0 (.block id c) Q F H := by
  intro B U φ V w a hb r
  refine wp_block (wp_mono (h B U φ V w a hb r) fun e a' w' hl => ?_)
  obtain ⟨x, F', H', U', φ', V', h1, h2, h3, h4⟩ := hl
  cases x <;> cases e <;> first | (exact h1.elim) | skip
  · exact ⟨_, F', H', U', φ', V', h1, h2, h3, h4⟩
  · cases h1
    simp only [Exit.inBlock, AX.inBlock] at h2 ⊢
    split
    · rename_i he; rw [if_pos he] at h2; exact ⟨.normal, F', H', U', φ', V', True.intro, h2, h3, h4⟩
    · rename_i he; rw [if_neg he] at h2; exact ⟨.exit _, F', H', U', φ', V', rfl, h2, h3, h4⟩
  · exact ⟨_, F', H', U', φ', V', h1, h2, h3, h4⟩

/-- regions in the text's order -/
def gslot (ops : Array Oper) (g : Nat) : Option Tmp := (ops[g]?).bind (·.dst)
def dok (n : Nat) : Option Tmp → Bool
  | some d => Nat.blt d n
  | none => true
def aput (F : AF) (d : Option Tmp) (v : AV) : AF := match d with
  | some d => (d, v) :: F
  | none => F
def SQ (P : Program) (q : Bool) (n k0 : Nat) (ops : Array Oper) : List Oper → (AF → AH → Prop) → AF → AH → Prop
  | [], K, F, H => K F H
  | o :: os, K, F, H => dok n o.dst = true ∧ match o.guard with
    | none => AO P q k0 o (aev F) H fun r H' => SQ P q n k0 ops os K (aput F o.dst r) H'
    | some (g, want) => ∃ t, gslot ops g = some t ∧ ((aget F t = .p (.bool want) ∧ AO P q k0 o (aev F) H fun r H' => SQ P q n k0 ops os K (aput F o.dst r) H') ∨
        ((aget F t = .p (.bool !want) ∨ ∃ vs, aget F t = .p (.tuple vs)) ∧ SQ P q n k0 ops os K (aput F o.dst (.p undef)) H))
theorem slot_at {tmps : Array Value} {t : Nat} {v : Value} (h : tmps.getD t undef = v) (hv : v ≠ undef) : tmps[t]? = some v := by
  rw [Array.getD_eq_getD_getElem?] at h
  cases hx : tmps[t]? with
  | none => rw [hx] at h; exact absurd h.symm hv
  | some y => rw [hx] at h; simp at h; rw [h]
theorem slot_no {tmps : Array Value} {t : Nat} {vs : Array Value} (h : tmps.getD t undef = .tuple vs) : tmps[t]? = none ∨ tmps[t]? = some (.tuple vs) := by
  rw [Array.getD_eq_getD_getElem?] at h
  cases hx : tmps[t]? with
  | none => exact .inl rfl
  | some y => rw [hx] at h; simp at h; right; rw [h]
theorem yields {ops : Array Oper} {g : Nat} {t : Tmp} (hgs : gslot ops g = some t) {tmps : Array Value} {b : Bool} (h : tmps.getD t undef = .bool b) : yielded ops tmps g = some b := by
  unfold gslot at hgs
  unfold yielded
  simp only [hgs, Option.bind_some]
  simp [slot_at h (by simp [undef])]
theorem yields_no {ops : Array Oper} {g : Nat} {t : Tmp} (hgs : gslot ops g = some t) {tmps : Array Value} {vs : Array Value} (h : tmps.getD t undef = .tuple vs) : yielded ops tmps g = none := by
  unfold gslot at hgs
  unfold yielded
  simp only [hgs, Option.bind_some]
  rcases slot_no h with h | h <;> simp [h]
theorem rel_put {B : Nat} {φ φ' : Pl} {U U' V V' : Nat → Prop} {w w' : World} {a : Act} {H' : AH} (r : Rel n k0 B U φ V w F H a) (g : Good k0 B U' φ' V' w' H') (s : Step B U φ V w H U' φ' V' w' H') {d : Option Tmp} (hd : dok n d = true) {x : AV} {v : Value} (hv : VRel U' φ' V' w' x v) :
    Rel n k0 B U' φ' V' w' (aput F d x) H' (a.put d v) := by
  have hf : ∀ t, VRel U' φ' V' w' (aget F t) (a.tmps.getD t undef) := fun t => (r.frame t).step r.heap s
  refine ⟨?_, ?_, ?_, g.heap, g.base, g.own, g.ownk⟩
  · cases d <;> simp [Act.put, r.size]
  · cases d <;> exact r.defers
  · cases d with
    | none => exact hf
    | some d => exact aget_put r.size (by simpa [dok, Nat.blt_eq] using hd) hf hv
theorem sq_ops {ops : Array Oper} {QQ : Exit → Act → World → Prop} {K : AF → AH → Prop} {B : Nat} {U0 : Nat → Prop} {φ0 : Pl} {V0 : Nat → Prop} {w0 : World} {H0 : AH} (hb : q = false → B = 0)
    (hK : ∀ F H U φ V w a, K F H → Rel n k0 B U φ V w F H a → Step B U0 φ0 V0 w0 H0 U φ V w H → QQ .normal a w) (all : List Oper) (hall : ∀ i : Nat, ops[i]? = all[i]?) :
    ∀ (os : List Oper) (pre : List Oper) (F : AF) (H : AH) (U : Nat → Prop) (φ : Pl) (V : Nat → Prop) (w : World) (a : Act), all = pre ++ os → SQ P q n k0 ops os K F H → Rel n k0 B U φ V w F H a → Step B U0 φ0 V0 w0 H0 U φ V w H →
      wpOps P ops QQ ((List.range os.length).map (· + pre.length)) a w := by
  intro os
  induction os with
  | nil => intro pre F H U φ V w a _ h r s; exact hK F H U φ V w a h r s
  | cons o os ih =>
    intro pre F H U φ V w a hal h r s
    have hi : ops[pre.length]? = some o := by rw [hall, hal]; simp
    have hl : (List.range (o :: os).length).map (· + pre.length) = pre.length :: (List.range os.length).map (· + (pre ++ [o]).length) := by
      simp only [List.length_cons, List.range_succ_eq_map, List.map_cons, List.map_map, Nat.zero_add, List.length_append, List.length_nil, List.cons.injEq, true_and]
      apply List.map_congr_left; intro x _; simp; omega
    rw [hl]
    simp only [wpOps, hi]
    have run : AO P q k0 o (aev F) H (fun r H' => SQ P q n k0 ops os K (aput F o.dst r) H') → dok n o.dst = true → o.wp P a w (wpOps P ops QQ ((List.range os.length).map (· + (pre ++ [o]).length))) QQ := by
      intro h hd
      have := h B U φ V w a.eval hb r.good (fun x _ => aev_rel r.frame x) (fun f => rfl)
      unfold Oper.wp
      generalize (execOp a.eval o).run P w = res at *
      have go : ∀ v w', Post k0 B U φ V w H (fun r H' => SQ P q n k0 ops os K (aput F o.dst r) H') v w' → wpOps P ops QQ ((List.range os.length).map (· + (pre ++ [o]).length)) (a.put o.dst v) w' := by
        rintro v w' ⟨x, U', φ', V', H', hS, g, hv, st⟩
        exact ih (pre ++ [o]) _ _ U' φ' V' w' _ (by rw [hal]; simp) hS (rel_put r g st hd hv) (s.trans st)
      cases res with
      | ok nx y =>
        cases nx <;> simp only [Res] at this <;> simp only [Oper.upon]
        · exact go _ _ this
        · exact go _ _ this
        · exact this.mono fun e w' ⟨v, he, hp⟩ => by subst he; exact go _ _ hp
      | halt z y => exact this.elim
    obtain ⟨hd, h⟩ := h
    cases hg : o.guard with
    | none =>
      rw [hg] at h
      have hw : Region.wanted o (yielded ops a.tmps) = true := by simp [Region.wanted, hg]
      rw [if_pos hw]
      exact .inl (run h hd)
    | some gw =>
      obtain ⟨g, want⟩ := gw
      rw [hg] at h
      obtain ⟨t, hgs, h⟩ := h
      have h1 := r.frame t
      rcases h with ⟨hgb, h⟩ | ⟨hgb, h⟩
      · rw [hgb] at h1
        have hw : Region.wanted o (yielded ops a.tmps) = true := by simp [Region.wanted, hg, yields hgs h1.inv_p]
        rw [if_pos hw]
        exact .inl (run h hd)
      · have hw : ¬ Region.wanted o (yielded ops a.tmps) = true := by
          rcases hgb with hgb | ⟨vs, hgb⟩ <;> rw [hgb] at h1
          · simp [Region.wanted, hg, yields hgs h1.inv_p]
          · simp [Region.wanted, hg, yields_no hgs h1.inv_p]
        rw [if_neg hw]
        exact ih (pre ++ [o]) _ _ U φ V w _ (by rw [hal]; simp) h (rel_put r r.good (Step.refl ..) hd (.p _)) s
theorem aw_region {id : Nat} {ops : Array Oper} (h : SQ P q n k0 ops ops.toList (Q .normal) F H) : AW P q n k0 (.region id ops false) Q F H := by
  intro B U φ V w a hb r
  refine wp_region ?_
  have := sq_ops (P := P) (q := q) (QQ := Lift n k0 B U φ V w H Q) hb (fun F' H' U' φ' V' w' a' hk r' s' => ⟨.normal, F', H', U', φ', V', True.intro, hk, r', s'⟩) ops.toList (fun i => by simp) ops.toList [] F H U φ V w a rfl h r (Step.refl ..)
  simpa using this
end
end Go.Proofs.Ytphjglbbhanmpaa.Ab
