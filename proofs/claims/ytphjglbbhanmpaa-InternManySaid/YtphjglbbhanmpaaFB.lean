/- A map's literal whose entries are made in their order: function values that hold one thing. -/
import Derived.Test.YtphjglbbhanmpaaFA
namespace Go.Proofs.Ytphjglbbhanmpaa.Ab
open Go Go.RowKit
section
variable {P : Program} {q : Bool} {n k0 : Nat}
inductive MSeq (mt : TypeId) (m p : Tmp) (n : Nat) : List Oper → List (Int × FuncId) → List Tmp → List Oper → Prop
  | nil (rest : List Oper) : MSeq mt m p n rest [] [] rest
  | cons {os : List Oper} {es : List (Int × FuncId)} {ts : List Tmp} {rest : List Oper} {a b : Tmp} {k : Int} {f : FuncId} {y1 y2 y3 : TypeId} {p1 p2 p3 : String} {c1 c2 c3 : Array Edge} (h : MSeq mt m p n os es ts rest) :
      MSeq mt m p n (⟨some a, .move (.tmp p), y1, p1, c1, none⟩ :: ⟨some b, .makeFunc (.func f) #[.tmp a] #[], y2, p2, c2, none⟩ :: ⟨none, .insert mt (.tmp m) (.const (.int .i64 k)) (.tmp b), y3, p3, c3, none⟩ :: os) ((k, f) :: es) (a :: b :: ts) rest
theorem ops_value {ops : Array Oper} {QQ : Exit → Act → World → Prop} {o : Oper} {i : Nat} {is : List Nat} {a : Act} {w w' : World} {v : Value} (hi : ops[i]? = some o) (hg : o.guard = none) (hx : (execOp a.eval o).run P w = .ok (.value v) w') (h : wpOps P ops QQ is (a.put o.dst v) w') : wpOps P ops QQ (i :: is) a w := by
  have hw : Region.wanted o (yielded ops a.tmps) = true := by simp [Region.wanted, hg]
  simp only [wpOps, hi]
  rw [if_pos hw]
  refine .inl ?_
  unfold Oper.wp
  rw [hx]
  exact h
theorem ops_skip {ops : Array Oper} {QQ : Exit → Act → World → Prop} {o : Oper} {i : Nat} {is : List Nat} {a : Act} {w w' : World} (hi : ops[i]? = some o) (hg : o.guard = none) (hd : o.dst = none) (hx : (execOp a.eval o).run P w = .ok .skip w') (h : wpOps P ops QQ is a w') : wpOps P ops QQ (i :: is) a w := by
  have hw : Region.wanted o (yielded ops a.tmps) = true := by simp [Region.wanted, hg]
  simp only [wpOps, hi]
  rw [if_pos hw]
  refine .inl ?_
  unfold Oper.wp
  rw [hx]
  show wpOps P ops QQ is (a.put o.dst undef) w'
  rw [hd]
  exact h
theorem put_getD {a : Act} {d t : Tmp} {v : Value} (hs : a.tmps.size = n) (hd : d < n) : ((a.put (some d) v).tmps.getD t undef) = if d = t then v else a.tmps.getD t undef := by
  simp only [Act.put, Array.getD_eq_getD_getElem?, Array.getElem?_setIfInBounds, hs, hd, if_true]
  split <;> simp
theorem put_size {a : Act} {d : Tmp} {v : Value} : (a.put (some d) v).tmps.size = a.tmps.size := by simp [Act.put]
theorem mseq_ops {ops : Array Oper} {QQ : Exit → Act → World → Prop} {K : AF → AH → Prop} {B : Nat} {U0 : Nat → Prop} {φ0 : Pl} {V0 : Nat → Prop} {wi : World} {H0 : AH} (hb : q = false → B = 0)
    (hK : ∀ F H U φ V w a, K F H → Rel n k0 B U φ V w F H a → Step B U0 φ0 V0 wi H0 U φ V w H → QQ .normal a w) (all : List Oper) (hall : ∀ i : Nat, ops[i]? = all[i]?) {mt kt et : TypeId} {qk : IntKind} {m p : Tmp}
    (hmt : P.underlying mt = some (.map kt et)) (hkt : P.underlying kt = some (.int qk)) (hpm : p ≠ m) {U : Nat → Prop} {φ : Pl} {V : Nat → Prop} {w0 : World} {F : AF} {H : AH} {a0 : Act} (hr : Rel n k0 B U φ V w0 F H a0) (hst : Step B U0 φ0 V0 wi H0 U φ V w0 H) {os : List Oper} {es : List (Int × FuncId)} {ts : List Tmp} {rest : List Oper} (hs : MSeq mt m p n os es ts rest) :
    ∀ (pre : List Oper) (done : List (Int × FuncId)) (tch : List Tmp) (mes : Array MapEntry) (clock : Nat) (a : Act), all = pre ++ os → (done.map Prod.fst ++ es.map Prod.fst).Nodup → p ∉ tch ++ ts → m ∉ tch ++ ts → (∀ t ∈ ts, t < n) →
      a.tmps.size = n → a.defers = [] → (∀ t, t ≠ m → t ∉ tch → a.tmps.getD t undef = a0.tmps.getD t undef) → a.tmps.getD m undef = .map (some w0.heap.size) →
      mes.toList.map (fun e => (e.key, e.val)) = done.map (fun x => (Value.int .i64 x.1, Value.func (.func x.2) #[a0.tmps.getD p undef] #[])) →
      SQ P q n k0 ops rest K ((m, .mp ((done ++ es).map fun x => .int .i64 x.1) ((done ++ es).map fun x => .fn (.func x.2) [aget F p] [])) :: ((tch ++ ts).map fun s => (s, AV.any)) ++ F) H →
      wpOps P ops QQ ((List.range os.length).map (· + pre.length)) a (w0.alloc (.map mes clock)) := by
  induction hs with
  | nil rest =>
    intro pre done tch mes clock a hal hnd hp hm ht g1 g2 g3 g4 g5 h
    rw [List.append_nil] at hp hm h
    rw [List.append_nil] at h
    obtain ⟨g, st⟩ := map_step hr.good mes clock
    have hr' : Rel n k0 B U φ (fun b => V b ∨ b = w0.heap.size) (w0.alloc (.map mes clock)) ((m, .mp (done.map fun x => .int .i64 x.1) (done.map fun x => .fn (.func x.2) [aget F p] [])) :: (tch.map fun s => (s, AV.any)) ++ F) H a := by
      refine ⟨g1, g2, fun t => ?_, g.heap, g.base, g.own, g.ownk⟩
      rw [List.cons_append, aget_cons]
      split
      · rename_i e; subst e
        rw [g4]
        have at_ : ∀ (i : Nat) e, mes.toList[i]? = some e → ∃ x, done[i]? = some x ∧ e.key = .int .i64 x.1 ∧ e.val = .func (.func x.2) #[a0.tmps.getD p undef] #[] := fun i e he => by
          have := congrArg (fun l => l[i]?) g5
          simp only [List.getElem?_map, he, Option.map_some] at this
          cases hd : done[i]? with
          | none => rw [hd] at this; cases this
          | some x => rw [hd] at this; simp only [Option.map_some, Option.some.injEq, Prod.mk.injEq] at this; exact ⟨x, rfl, this⟩
        have hlen : mes.toList.length = done.length := by have := congrArg List.length g5; simpa using this
        refine .mp _ _ w0.heap.size mes clock (done.map fun x => .func (.func x.2) #[a0.tmps.getD p undef] #[]) (.inr rfl) (MapKept.heap_alloc w0 _).1 (by simp) (fun e he => ?_) (fun k hk => ?_) (fun i x u hx hu => ?_)
        · obtain ⟨i, hi, rfl⟩ := List.mem_iff_getElem.1 he
          obtain ⟨x, h1, h2, h3⟩ := at_ i _ (List.getElem?_eq_getElem hi)
          exact ⟨i, by rw [List.getElem?_map, h1, h2]; rfl, by rw [List.getElem?_map, h1, h3]; rfl⟩
        · obtain ⟨i, hi2, hik⟩ := List.mem_iff_getElem.1 hk
          rw [List.length_map] at hi2
          obtain ⟨x, h1, h2, h3⟩ := at_ i _ (List.getElem?_eq_getElem (by omega))
          refine ⟨_, List.getElem_mem (by omega : i < mes.toList.length), ?_⟩
          rw [h2, ← hik, List.getElem_map]
          rw [List.getElem?_eq_getElem hi2] at h1
          cases h1; rfl
        · rw [List.getElem?_map] at hx hu
          cases hf : done[i]? with
          | none => rw [hf] at hx; cases hx
          | some y =>
            rw [hf] at hx hu; cases hx; cases hu
            exact .fn (.func y.2) [aget F p] [] [a0.tmps.getD p undef] [] rfl rfl (fun i x u hx hu => by
              rcases i with _ | i
              · cases hx; cases hu; exact (hr.frame p).step hr.heap st
              · simp at hx) (fun i x u hx => by simp at hx)
      · rename_i hne2
        have key : ∀ l : List Tmp, VRel U φ (fun b => V b ∨ b = w0.heap.size) (w0.alloc (.map mes clock)) (aget (l.map (fun s => (s, AV.any)) ++ F) t) (a.tmps.getD t undef) ∨ (t ∉ l ∧ aget (l.map (fun s => (s, AV.any)) ++ F) t = aget F t) := by
          intro l
          induction l with
          | nil => exact .inr ⟨by simp, rfl⟩
          | cons s l ih =>
            rw [List.map_cons, List.cons_append, aget_cons]
            split
            · exact .inl (.any _)
            · rename_i hne3
              rcases ih with h | ⟨h4, h5⟩
              · exact .inl h
              · exact .inr ⟨fun h => by
                  rcases List.mem_cons.1 h with h | h
                  · exact hne3 h.symm
                  · exact h4 h, h5⟩
        rcases key tch with h | ⟨h4, h5⟩
        · exact h
        · rw [h5, g3 t (fun e => hne2 e.symm) h4]
          exact (hr.frame t).step hr.heap st
    exact sq_ops hb hK all hall rest pre _ _ U φ _ _ a hal h hr' (hst.trans st)
  | @cons os es ts rest ta tb k f y1 y2 y3 p1 p2 p3 c1 c2 c3 _ ih =>
    intro pre done tch mes clock a hal hnd hp hm ht g1 g2 g3 g4 g5 h
    have hl : ∀ x y z : Oper, (List.range (x :: y :: z :: os).length).map (· + pre.length) = pre.length :: (pre.length + 1) :: (pre.length + 2) :: (List.range os.length).map (· + (pre ++ [x, y, z]).length) := fun x y z => by
      simp only [List.length_cons, List.range_succ_eq_map, List.map_cons, List.map_map, Nat.zero_add, List.length_append, List.length_nil, List.cons.injEq]
      refine ⟨trivial, by simp; omega, by simp; omega, ?_⟩
      apply List.map_congr_left; intro x _; simp; omega
    rw [hl]
    simp only [List.mem_append, List.mem_cons, not_or] at hp hm
    have ha : ta < n := ht ta (by simp)
    have hbn : tb < n := ht tb (by simp)
    have i0 : ops[pre.length]? = some ⟨some ta, .move (.tmp p), y1, p1, c1, none⟩ := by rw [hall, hal]; simp
    have i1 : ops[pre.length + 1]? = some ⟨some tb, .makeFunc (.func f) #[.tmp ta] #[], y2, p2, c2, none⟩ := by rw [hall, hal, List.getElem?_append_right (by omega)]; simp
    have i2 : ops[pre.length + 2]? = some ⟨none, .insert mt (.tmp m) (.const (.int .i64 k)) (.tmp tb), y3, p3, c3, none⟩ := by rw [hall, hal, List.getElem?_append_right (by omega)]; simp
    have ep : a.tmps.getD p undef = a0.tmps.getD p undef := g3 p hpm hp.1
    refine ops_value i0 rfl (v := a0.tmps.getD p undef) (w' := w0.alloc (.map mes clock)) ?_ ?_
    · have : a.eval (.tmp p) = a0.tmps.getD p undef := ep
      simp [execOp, this]
    refine ops_value i1 rfl (v := .func (.func f) #[a0.tmps.getD p undef] #[]) (w' := w0.alloc (.map mes clock)) ?_ ?_
    · have : (a.put (some ta) (a0.tmps.getD p undef)).eval (.tmp ta) = a0.tmps.getD p undef := by
        show (a.put (some ta) (a0.tmps.getD p undef)).tmps.getD ta undef = _
        rw [put_getD g1 ha, if_pos rfl]
      simp [execOp, Instr.makeFunc]
      simpa using this
    have s1 : (a.put (some ta) (a0.tmps.getD p undef)).tmps.size = n := by rw [put_size, g1]
    have gm : ((a.put (some ta) (a0.tmps.getD p undef)).put (some tb) (.func (.func f) #[a0.tmps.getD p undef] #[])).tmps.getD m undef = .map (some w0.heap.size) := by
      rw [put_getD s1 hbn, if_neg (fun e => hm.2.2.1 e.symm), put_getD g1 ha, if_neg (fun e => hm.2.1 e.symm), g4]
    have gb : ((a.put (some ta) (a0.tmps.getD p undef)).put (some tb) (.func (.func f) #[a0.tmps.getD p undef] #[])).tmps.getD tb undef = .func (.func f) #[a0.tmps.getD p undef] #[] := by
      rw [put_getD s1 hbn, if_pos rfl]
    have hfd : Finds P kt (.int .i64 k) mes.toList fun _ => false := finds_int hkt fun e he => by
      obtain ⟨i, hi, rfl⟩ := List.mem_iff_getElem.1 he
      have := congrArg (fun l => l[i]?) g5
      simp only [List.getElem?_map, List.getElem?_eq_getElem hi, Option.map_some] at this
      cases hd : done[i]? with
      | none => rw [hd] at this; cases this
      | some x =>
        rw [hd] at this; simp only [Option.map_some, Option.some.injEq, Prod.mk.injEq] at this
        refine ⟨x.1, this.1, ?_⟩
        have hx : x.1 ∈ done.map Prod.fst := List.mem_map.2 ⟨x, List.mem_of_getElem? hd, rfl⟩
        have : k ≠ x.1 := fun e => (List.nodup_append.1 hnd).2.2 x.1 hx k (by simp) e.symm
        simp [this]
    have hrun := run_insert hmt w0 mes clock (.int .i64 k) (.func (.func f) #[a0.tmps.getD p undef] #[]) (keyC_int hkt _) hfd
    refine ops_skip i2 rfl rfl (w' := w0.alloc (.map (mes.push { key := .int .i64 k, val := .func (.func f) #[a0.tmps.getD p undef] #[], born := clock }) (clock + 1))) ?_ ?_
    · have em : ((a.put (some ta) (a0.tmps.getD p undef)).put (some tb) (.func (.func f) #[a0.tmps.getD p undef] #[])).eval (.tmp m) = .map (some w0.heap.size) := gm
      have ef : ((a.put (some ta) (a0.tmps.getD p undef)).put (some tb) (.func (.func f) #[a0.tmps.getD p undef] #[])).eval (.tmp tb) = .func (.func f) #[a0.tmps.getD p undef] #[] := gb
      have ek : ((a.put (some ta) (a0.tmps.getD p undef)).put (some tb) (.func (.func f) #[a0.tmps.getD p undef] #[])).eval (.const (.int .i64 k)) = .int .i64 k := rfl
      simp only [execOp, em, ek, ef]
      rw [Sem.run_bind, hrun]; rfl
    · refine ih (pre ++ [_, _, _]) (done ++ [(k, f)]) (tch ++ [ta, tb]) _ (clock + 1) _ (by rw [hal]; simp) (by simpa using hnd) (by simp; exact ⟨hp.1, hp.2.1, hp.2.2.1, hp.2.2.2⟩) (by simp; exact ⟨hm.1, hm.2.1, hm.2.2.1, hm.2.2.2⟩) (fun t h => ht t (by simp [h])) (by rw [put_size, s1]) g2 (fun t h1 h2 => ?_) gm ?_ ?_
      · simp only [List.mem_append, List.mem_cons, List.not_mem_nil, or_false, not_or] at h2
        rw [put_getD s1 hbn, if_neg (fun e => h2.2.2 e.symm), put_getD g1 ha, if_neg (fun e => h2.2.1 e.symm)]
        exact g3 t h1 h2.1
      · simp [g5]
      · simpa using h
theorem aw_mseq {id : Nat} {ops : Array Oper} {Q : AQ} {F : AF} {H : AH} {mt kt et : TypeId} {qk : IntKind} {m p : Tmp} {y0 : TypeId} {p0 : String} {c0 : Array Edge} {os : List Oper} {es : List (Int × FuncId)} {ts : List Tmp} {rest : List Oper} (hmt : P.underlying mt = some (.map kt et)) (hkt : P.underlying kt = some (.int qk)) (hpm : p ≠ m) (hmn : m < n)
    (ho : ops.toList = ⟨some m, .makeMap mt none, y0, p0, c0, none⟩ :: os) (hs : MSeq mt m p n os es ts rest) (hnd : (es.map Prod.fst).Nodup) (hp : p ∉ ts) (hm : m ∉ ts) (ht : ∀ t ∈ ts, t < n)
    (h : SQ P q n k0 ops rest (Q .normal) ((m, .mp (es.map fun x => .int .i64 x.1) (es.map fun x => .fn (.func x.2) [aget F p] [])) :: (ts.map fun s => (s, AV.any)) ++ F) H) : AW P q n k0 (.region id ops false) Q F H := by
  intro B U φ V w a hb r
  refine wp_region ?_
  have hall : ∀ i : Nat, ops[i]? = ops.toList[i]? := fun i => by simp
  have hsz : List.range ops.size = 0 :: (List.range os.length).map (· + [(⟨some m, .makeMap mt none, y0, p0, c0, none⟩ : Oper)].length) := by
    have : ops.size = os.length + 1 := by rw [← Array.length_toList, ho]; rfl
    rw [this, List.range_succ_eq_map]; rfl
  rw [hsz]
  have i0 : ops[0]? = some ⟨some m, .makeMap mt none, y0, p0, c0, none⟩ := by rw [hall, ho]; rfl
  refine ops_value i0 rfl (v := .map (some w.heap.size)) (w' := w.alloc (.map #[] 0)) (by simp [execOp, run_makeMap]) ?_
  have s1 : (a.put (some m) (.map (some w.heap.size))).tmps.size = n := by rw [put_size, r.size]
  exact mseq_ops (P := P) (q := q) (QQ := Lift n k0 B U φ V w H Q) hb (fun F' H' U' φ' V' w' a' hk r' s' => ⟨.normal, F', H', U', φ', V', True.intro, hk, r', s'⟩) ops.toList hall hmt hkt hpm r (Step.refl ..) hs [_] [] [] #[] 0 _ ho (by simpa using hnd) (by simpa using hp) (by simpa using hm) ht s1 r.defers
    (fun t h1 _ => by rw [put_getD r.size hmn, if_neg (fun e => h1 e.symm)]) (by rw [put_getD r.size hmn, if_pos rfl]) (by simp) (by simpa using h)
end
end Go.Proofs.Ytphjglbbhanmpaa.Ab
