/- A region that draws its order, in which one operation turns memory: each other one is reckoned once ahead of it, once behind it. -/
import Derived.Test.YtmhepmocnnlhnaaFG
namespace Go.Proofs.Ytmhepmocnnlhnaa.Ab
open Go Go.RowKit
section
variable {P : Program} {q : Bool} {n k0 : Nat} {ops : Array Oper} {K : AF → AH → Prop}
theorem ay_le {fuel : Nat} {listed : Array Bool} {F F' : AF} {H : AH} (h : ∀ t, Le (aget F t) (aget F' t)) (h' : AY P q n k0 ops K fuel listed F' H) : AY P q n k0 ops K fuel listed F H :=
  fun QQ B U0 φ0 V0 w0 H0 hb hnp hK U φ V w a r s => h' QQ B U0 φ0 V0 w0 H0 hb hnp hK U φ V w a ⟨r.size, r.defers, fun t => h t _ _ _ _ _ (r.frame t), r.heap, r.base, r.own, r.ownk⟩ s
theorem AO.le {o : Oper} {ρ ρ' : Operand → AV} {H : AH} {K' : AV → AH → Prop} (h : AO P q k0 o ρ' H K') (hl : ∀ x ∈ o.op.operands, Le (ρ x) (ρ' x)) : AO P q k0 o ρ H K' :=
  fun B U φ V w ρc hq g ho hf => h B U φ V w ρc hq g (fun x hx => hl x hx _ _ _ _ _ (ho x hx)) hf
def fcs (vs : List AV) : List Fc := vs.map fun v => (v, [])
/-- the slots of all those that come ahead of the tail -/
def Ff (ops : Array Oper) (h : Nat) (vs : List AV) (F : AF) : AF := FR F (ops.toList.take h) (fcs vs)
def upTo (N h : Nat) : Array Bool := ((List.range N).map fun i => Nat.blt i h).toArray
/-- those of the tail come behind all others; no operation ahead of it is guarded -/
def tailAll (ops : Array Oper) (h : Nat) : Bool :=
  ((List.range ops.size).all fun i => Nat.blt i h || (Nat.blt h i && (predsOf ops i).contains h) || (List.range h).all fun j => (predsOf ops i).contains j) && (List.range h).all fun i => match ops[i]? with
    | some o => (match o.guard with | none => true | some _ => false) && (o.op.operands.all fun x => match x with
      | .tmp t => (o.looksAt ops).contains t
      | _ => true)
    | none => false
/-- each one, but p, gives its value, wherever it comes -/
def FAll (P : Program) (q : Bool) (n k0 : Nat) (ops : Array Oper) (F : AF) (H : AH) (p : Nat) : Nat → List Oper → List AV → Prop
  | i, o :: os, v :: vs => (bif Nat.beq i p then True else SQ P q n k0 ops [o] (fun F' H' => F' = aput F o.dst v ∧ H' = H) F H) ∧ FAll P q n k0 ops F H p (i + 1) os vs
  | _, _, _ => True
theorem fall_get {F : AF} {H : AH} {p : Nat} : ∀ (os : List Oper) (vs : List AV) (i : Nat), FAll P q n k0 ops F H p i os vs → ∀ (j : Nat) o v, os[j]? = some o → vs[j]? = some v → i + j ≠ p → SQ P q n k0 ops [o] (fun F' H' => F' = aput F o.dst v ∧ H' = H) F H
  | [], _, _, _, j, o, v, ho, _, _ => by simp at ho
  | _ :: _, [], _, _, j, o, v, _, hv, _ => by simp at hv
  | o' :: os, v' :: vs, i, h, j, o, v, ho, hv, hne => by
    cases j with
    | zero =>
      simp at ho hv
      subst ho hv
      have h1 := h.1
      rw [show Nat.beq i p = false from by rw [Bool.eq_false_iff]; intro e; exact hne (Nat.eq_of_beq_eq_true e)] at h1
      exact h1
    | succ j => exact fall_get os vs (i + 1) h.2 j o v (by simpa using ho) (by simpa using hv) (by omega)
theorem ay_one (p h : Nat) (vs : AV → List AV) (R : AV → AH → Prop) {F0 : AF} {H0 : AH} (hN : h ≤ ops.size) (hreg : regOk ops h = true) (hback : backOk ops = true) (htail : tailAll ops h = true)
    (hlen : ∀ a, (vs a).length = h) (hvs : ∀ a j, j ≠ p → (vs a)[j]? = (vs .any)[j]?) (hvp : ∀ a, (vs a)[p]? = some a)
    (hA0 : FAll P q n k0 ops (Ff ops h (vs .any) F0) H0 p 0 (ops.toList.take h) (vs .any))
    (hA1 : ∀ a H, R a H → FAll P q n k0 ops (Ff ops h (vs a) F0) H p 0 (ops.toList.take h) (vs a))
    (hB : ∀ o, ops[p]? = some o → SQ P q n k0 ops [o] (fun F' H' => ∃ a, F' = aput (Ff ops h (vs .any) F0) o.dst a ∧ R a H') (Ff ops h (vs .any) F0) H0)
    (hZ : ∀ a H, R a H → AY P q n k0 ops K ((upTo ops.size h).toList.countP (!·)) (upTo ops.size h) (Ff ops h (vs a) F0) H) :
    ∀ (m : Nat) (listed : Array Bool) (F : AF) (H : AH), listed.toList.countP (!·) = m → listed.size = ops.size → (∀ i, h ≤ i → listed.getD i false = false) →
      (∃ a, ((listed.getD p false = false ∧ H = H0 ∧ a = .any) ∨ (listed.getD p false = true ∧ R a H)) ∧
        (∀ (i : Nat) o t v, i < h → ops[i]? = some o → o.dst = some t → (vs a)[i]? = some v → listed.getD i false = true → Le (aget F t) v) ∧ ∀ t, (∀ o ∈ ops.toList.take h, o.dst ≠ some t) → Le (aget F t) (aget F0 t)) → AY P q n k0 ops K m listed F H := by
  have hreg' := hreg
  simp only [regOk, Bool.and_eq_true, decide_eq_true_eq] at hreg
  obtain ⟨⟨_, hnd⟩, hall⟩ := hreg
  simp only [tailAll, Bool.and_eq_true] at htail
  obtain ⟨ht1, ht2⟩ := htail
  have hb := back_of hback
  have huniq : ∀ (j k : Nat) x y d, j < h → k < h → ops[j]? = some x → ops[k]? = some y → x.dst = some d → y.dst = some d → j = k := fun j k x y d hjh hkh hj hk hx hy => nodup_filterMap (·.dst) (ops.toList.take h) hnd j k x y d (by rw [List.getElem?_take, if_pos hjh]; simpa using hj) (by rw [List.getElem?_take, if_pos hkh]; simpa using hk) hx hy
  have htk : ∀ (j : Nat) o, j < h → ops[j]? = some o → (ops.toList.take h)[j]? = some o := fun j o hj ho => by rw [List.getElem?_take, if_pos hj]; simpa using ho
  have fat : ∀ (a : AV) (j : Nat) o t v, j < h → ops[j]? = some o → o.dst = some t → (vs a)[j]? = some v → aget (Ff ops h (vs a) F0) t = v := fun a j o t v hj ho ht hv =>
    fr_at (ops.toList.take h) (fcs (vs a)) F0 j o (v, []) (htk j o hj ho) (by unfold fcs; rw [List.getElem?_map, hv]; rfl) ht (fun k o' hk hd => by
      rw [List.getElem?_take] at hk
      split at hk
      · rename_i hkh; exact huniq k j o' o t hkh hj (by simpa using hk) ho hd ht
      · cases hk)
  have foth : ∀ (a : AV) t, (∀ o ∈ ops.toList.take h, o.dst ≠ some t) → aget (Ff ops h (vs a) F0) t = aget F0 t := fun a t ht => fr_other (ops.toList.take h) (fcs (vs a)) F0 ht
  have vat : ∀ (a : AV) (j : Nat), j < h → ∃ v, (vs a)[j]? = some v := fun a j hj => ⟨_, List.getElem?_eq_getElem (by rw [hlen]; exact hj)⟩
  have hph : p < h := by
    have := (List.getElem?_eq_some_iff.1 (hvp .any)).1
    rw [hlen] at this; exact this
  -- all are done but the tail
  have key : ∀ (m : Nat) (listed : Array Bool) (F : AF) (H : AH), listed.toList.countP (!·) = m → listed.size = ops.size → (∀ i, h ≤ i → listed.getD i false = false) → (∀ i, i < h → listed.getD i false = true) →
      (∃ a, ((listed.getD p false = false ∧ H = H0 ∧ a = .any) ∨ (listed.getD p false = true ∧ R a H)) ∧
        (∀ (i : Nat) o t v, i < h → ops[i]? = some o → o.dst = some t → (vs a)[i]? = some v → listed.getD i false = true → Le (aget F t) v) ∧ ∀ t, (∀ o ∈ ops.toList.take h, o.dst ≠ some t) → Le (aget F t) (aget F0 t)) → AY P q n k0 ops K m listed F H := by
    intro m listed F H hc hs hhi hlo ⟨a, hst, hl1, hl2⟩
    have hR : R a H := by
      rcases hst with ⟨h1, _⟩ | ⟨_, h1⟩
      · rw [hlo p hph] at h1; cases h1
      · exact h1
    have he : listed = upTo ops.size h := by
      apply Array.ext
      · simp [upTo, hs]
      · intro i h1 h2
        have e1 : listed[i] = listed.getD i false := by simp [h1]
        rw [e1]
        simp only [upTo, List.getElem_toArray, List.getElem_map, List.getElem_range]
        by_cases hi : i < h
        · rw [hlo i hi]; simpa [Nat.blt_eq] using hi
        · rw [hhi i (by omega)]
          symm
          rw [Bool.eq_false_iff]
          intro k
          exact hi (by simpa [Nat.blt_eq] using k)
    subst hc
    rw [he]
    refine ay_le (fun t => ?_) (hZ a H hR)
    by_cases ht : ∃ (i : Nat) (o : Oper), i < h ∧ ops[i]? = some o ∧ o.dst = some t
    · obtain ⟨i, o, hi, ho, hd⟩ := ht
      obtain ⟨v, hv⟩ := vat a i hi
      rw [fat a i o t v hi ho hd hv]
      exact hl1 i o t v hi ho hd hv (hlo i hi)
    · have hno : ∀ o ∈ ops.toList.take h, o.dst ≠ some t := fun o ho hd => ht (by
        obtain ⟨i, hi, he⟩ := List.mem_take_iff_getElem.1 ho
        exact ⟨i, o, by omega, by rw [← he]; simp, hd⟩)
      rw [foth a t hno]
      exact hl2 t hno
  intro m
  induction m with
  | zero =>
    intro listed F H hc hs hhi hI
    refine key 0 listed F H hc hs hhi (fun i hi => ?_) hI
    have h0 := List.countP_eq_zero.1 hc
    have hil : i < listed.size := by omega
    have := h0 listed[i] (by simp)
    simpa [hil] using this
  | succ m ih =>
    intro listed F H hc hs hhi hI
    by_cases hallu : ∀ i, i < h → listed.getD i false = true
    · exact key _ listed F H hc hs hhi hallu hI
    obtain ⟨a, hst, hl1, hl2⟩ := hI
    -- the first one that is not done may come
    have hfirst : ∃ i, i < h ∧ listed.getD i false = false ∧ ∀ j, j < i → listed.getD j false = true := by
      refine Classical.byContradiction fun hno => hallu ?_
      intro i
      induction i using Nat.strongRecOn with
      | _ i ihi =>
        intro hi
        refine Classical.byContradiction fun hx => hno ⟨i, hi, by simpa using hx, fun j hj => ihi j hj (by omega)⟩
    refine ay_all (Region.ready .any ops listed) (by simp) ?_ fun i hi => ?_
    · intro hemp
      obtain ⟨i, hih, hun, hlt⟩ := hfirst
      have hio : i < ops.size := by omega
      have : i ∈ Region.ready .any ops listed := mem_ready.2 ⟨by rw [getD_ff (by omega)]; exact hun, _, Array.getElem?_eq_getElem hio, fun e he hbd => hlt _ (hb i _ (Array.getElem?_eq_getElem hio) e he hbd)⟩
      rw [hemp] at this
      cases this
    · obtain ⟨hun, o, ho, hpre⟩ := mem_ready.1 hi
      have hio : i < ops.size := (Array.getElem?_eq_some_iff.1 ho).1
      have hunf : listed.getD i false = false := by rw [← getD_ff (by omega)]; exact hun
      have hih : i < h := by
        refine Classical.byContradiction fun hge => ?_
        obtain ⟨j, hj, hjn, _⟩ := hfirst
        have h1 := List.all_eq_true.1 ht1 i (List.mem_range.2 hio)
        simp only [Bool.or_eq_true, Bool.and_eq_true, Nat.blt_eq] at h1
        rcases h1 with (h1 | ⟨_, h1⟩) | h1
        · exact hge h1
        · obtain ⟨e, he, hbd, hon⟩ := (mem_preds ho).1 (by simpa using h1)
          have h3 := hpre e he hbd
          rw [hon, hhi h (Nat.le_refl _)] at h3
          cases h3
        · have h2 := List.all_eq_true.1 h1 j (List.mem_range.2 hj)
          obtain ⟨e, he, hbd, rfl⟩ := (mem_preds ho).1 (by simpa using h2)
          rw [hpre e he hbd] at hjn
          cases hjn
      have hgd := List.all_eq_true.1 ht2 i (List.mem_range.2 hih)
      simp only [ho, Bool.and_eq_true] at hgd
      have hg : o.guard = none := by
        cases hx : o.guard with
        | none => rfl
        | some _ => rw [hx] at hgd; cases hgd.1
      have hlook := List.all_eq_true.1 hall i (List.mem_range.2 hih)
      simp only [ho] at hlook
      have hop : ∀ x ∈ o.op.operands, Le (aev F x) (aev (Ff ops h (vs a) F0) x) := by
        intro x hx
        cases x with
        | const v => exact Le.refl _
        | func f => exact Le.refl _
        | global g => exact Le.refl _
        | tmp t =>
          show Le (aget F t) (aget (Ff ops h (vs a) F0) t)
          have hin := Array.all_eq_true_iff_forall_mem.1 hgd.2 _ hx
          simp only [List.contains_iff_mem] at hin
          have h1 := List.all_eq_true.1 hlook t hin
          simp only [Bool.or_eq_true, Bool.not_eq_true', List.any_eq_true, beq_iff_eq] at h1
          by_cases hcx : ∃ j ∈ dataPreds o, (ops[j]?).bind (·.dst) = some t
          · obtain ⟨j, hj, hjt⟩ := hcx
            obtain ⟨e, he, rfl⟩ := List.mem_map.1 hj
            simp only [List.mem_filter, Bool.and_eq_true] at he
            have hea : e ∈ o.after := by simpa using he.1
            have hlj := hpre e hea he.2.1
            have hlt := hb i o ho e hea he.2.1
            cases hoj : ops[e.on]? with
            | none => rw [hoj] at hjt; cases hjt
            | some oj =>
              rw [hoj] at hjt
              obtain ⟨v, hv⟩ := vat a e.on (by omega)
              rw [fat a e.on oj t v (by omega) hoj hjt hv]
              exact hl1 e.on oj t v (by omega) hoj hjt hv hlj
          · have hnc : ¬ ((ops.toList.take h).filterMap (·.dst)).contains t = true := by
              rcases h1 with h1 | h1
              · rw [h1]; simp
              · exact absurd h1 hcx
            have hno : ∀ o' ∈ ops.toList.take h, o'.dst ≠ some t := fun o' ho' he => hnc (by
              have := List.mem_filterMap.2 ⟨o', ho', he⟩
              simpa using this)
            rw [foth a t hno]
            exact hl2 t hno
      have hcnt : (listed.setIfInBounds i true).toList.countP (!·) = m := by
        rw [Array.toList_setIfInBounds, List.countP_set (by simpa using (show i < listed.size by omega))]
        have hx : listed.toList[i]'(by simpa using (show i < listed.size by omega)) = false := by
          have : listed[i]'(by omega) = false := by simpa [show i < listed.size by omega] using hunf
          simpa using this
        rw [hc, hx]
        simp
      have hset : ∀ j, (listed.setIfInBounds i true).getD j false = if j = i then true else listed.getD j false := fun j => getD_set (by omega)
      -- how it goes on
      have goon : ∀ (r a' : AV) (H' : AH), (∀ v, (vs a')[i]? = some v → o.dst ≠ none → r = v) → (∀ j, j ≠ i → (vs a')[j]? = (vs a)[j]?) → (((listed.setIfInBounds i true).getD p false = false ∧ H' = H0 ∧ a' = .any) ∨ ((listed.setIfInBounds i true).getD p false = true ∧ R a' H')) →
          AY P q n k0 ops K m (listed.setIfInBounds i true) (aput F o.dst r) H' := by
        intro r a' H' hr hva hst'
        refine ih _ _ _ hcnt (by simpa using hs) (fun j hj => by rw [hset, if_neg (by omega)]; exact hhi j hj) ⟨a', hst', fun j oj t v hj hoj hd hv hlj => ?_, fun t ht => ?_⟩
        · by_cases hji : j = i
          · subst hji
            rw [ho] at hoj
            cases hoj
            rw [hd]
            show Le (aget ((t, r) :: F) t) v
            rw [aget_cons, if_pos rfl, hr v hv (by rw [hd]; simp)]
            exact Le.refl _
          · rw [hset, if_neg hji] at hlj
            rw [hva j hji] at hv
            have h2 := hl1 j oj t v hj hoj hd hv hlj
            cases hod : o.dst with
            | none => exact h2
            | some d =>
              show Le (aget ((d, r) :: F) t) v
              rw [aget_cons, if_neg (fun e => hji (huniq j i oj o t hj hih hoj ho hd (by rw [hod, e])))]
              exact h2
        · have h2 := hl2 t ht
          cases hod : o.dst with
          | none => exact h2
          | some d =>
            show Le (aget ((d, r) :: F) t) _
            rw [aget_cons, if_neg (fun e => ht o (List.mem_of_getElem? (htk i o hih ho)) (by rw [hod, e]))]
            exact h2
      have same : ∀ {G : AF} {r v : AV}, aput G o.dst r = aput G o.dst v → o.dst ≠ none → r = v := fun {G r v} e hn => by
        cases hod : o.dst with
        | none => exact absurd hod hn
        | some d =>
          rw [hod] at e
          have e : (d, r) :: G = (d, v) :: G := e
          exact (Prod.mk.inj (List.cons.inj e).1).2
      refine ⟨o, ho, hg, ?_⟩
      by_cases hip : i = p
      · subst hip
        rcases hst with ⟨_, rfl, rfl⟩ | ⟨h1, _⟩
        · obtain ⟨hd, hao⟩ := hB o ho
          rw [hg] at hao
          refine ⟨hd, ?_⟩
          rw [hg]
          refine (AO.le hao hop).mono fun r H' hk => ?_
          obtain ⟨a', hF', hR'⟩ := hk
          exact goon r a' H' (fun v hv hn => by rw [hvp a'] at hv; cases hv; exact same hF' hn) (fun j hj => hvs a' j hj) (.inr ⟨by rw [hset, if_pos rfl], hR'⟩)
        · rw [hunf] at h1; cases h1
      · obtain ⟨v, hv⟩ := vat a i hih
        have hfact : SQ P q n k0 ops [o] (fun F' H' => F' = aput (Ff ops h (vs a) F0) o.dst v ∧ H' = H) (Ff ops h (vs a) F0) H := by
          rcases hst with ⟨_, rfl, rfl⟩ | ⟨_, hR⟩
          · exact fall_get _ _ 0 hA0 i o v (htk i o hih ho) hv (by omega)
          · exact fall_get _ _ 0 (hA1 a H hR) i o v (htk i o hih ho) hv (by omega)
        obtain ⟨hd, hao⟩ := hfact
        rw [hg] at hao
        refine ⟨hd, ?_⟩
        rw [hg]
        refine (AO.le hao hop).mono fun r H' hk => ?_
        obtain ⟨hF', rfl⟩ := hk
        exact goon r a H' (fun v' hv' hn => by rw [hv] at hv'; cases hv'; exact same hF' hn) (fun j _ => rfl) (by rw [hset, if_neg (fun e => hip e.symm)]; exact hst)
theorem fa_s {F : AF} {H : AH} {p i : Nat} {o : Oper} {os : List Oper} {v : AV} {vs : List AV} (h : SQ P q n k0 ops [o] (fun F' H' => F' = aput F o.dst v ∧ H' = H) F H) (ht : FAll P q n k0 ops F H p (i + 1) os vs) : FAll P q n k0 ops F H p i (o :: os) (v :: vs) :=
  ⟨by cases Nat.beq i p; exact h; exact True.intro, ht⟩
theorem fa_p {F : AF} {H : AH} {p i : Nat} {o : Oper} {os : List Oper} {v : AV} {vs : List AV} (hip : Nat.beq i p = true) (ht : FAll P q n k0 ops F H p (i + 1) os vs) : FAll P q n k0 ops F H p i (o :: os) (v :: vs) :=
  ⟨by rw [hip]; exact True.intro, ht⟩
theorem aw_one {Q : AQ} {id : Nat} {F0 : AF} {H0 : AH} (p h : Nat) (pre post : List AV) (lz : Array Bool) (mz : Nat) (R : AV → AH → Prop) (hm : P.follows .mixedOrders = true) (hN : Nat.ble h ops.size = true) (hreg : regOk ops h = true) (hback : backOk ops = true) (htail : tailAll ops h = true)
    (hpre : pre.length = p) (hpost : p + 1 + post.length = h) (hlz : upTo ops.size h = lz) (hmz : lz.toList.countP (!·) = mz)
    (hA0 : FAll P q n k0 ops (Ff ops h (pre ++ .any :: post) F0) H0 p 0 (ops.toList.take h) (pre ++ .any :: post))
    (hB : ∀ o, ops[p]? = some o → SQ P q n k0 ops [o] (fun F' H' => ∃ a, F' = aput (Ff ops h (pre ++ .any :: post) F0) o.dst a ∧ R a H') (Ff ops h (pre ++ .any :: post) F0) H0)
    (hA1 : ∀ a H, R a H → FAll P q n k0 ops (Ff ops h (pre ++ a :: post) F0) H p 0 (ops.toList.take h) (pre ++ a :: post))
    (hZ : ∀ a H, R a H → AY P q n k0 ops (Q .normal) mz lz (Ff ops h (pre ++ a :: post) F0) H) : AW P q n k0 (.region id ops true) Q F0 H0 := by
  subst hlz hmz hpre
  have hph : pre.length < h := by omega
  refine aw_all hm ops.size rfl (ay_one pre.length h (fun a => pre ++ a :: post) R (Nat.le_of_ble_eq_true hN) hreg hback htail (fun a => by simp; omega) (fun a j hj => ?_) (fun a => by simp) hA0 hA1 hB hZ ops.size _ F0 H0 (by simp [List.countP_replicate]) (by simp) (fun i _ => ?_) ⟨.any, .inl ⟨?_, rfl, rfl⟩, fun i o t v _ _ _ _ hl => ?_, fun t _ => Le.refl _⟩)
  · rcases Nat.lt_or_ge j pre.length with h1 | h1
    · rw [List.getElem?_append_left h1, List.getElem?_append_left h1]
    · rw [List.getElem?_append_right h1, List.getElem?_append_right h1]
      have : j - pre.length = (j - pre.length - 1) + 1 := by omega
      rw [this, List.getElem?_cons_succ, List.getElem?_cons_succ]
  · simp [Array.getD_eq_getD_getElem?, Array.getElem?_replicate]; split <;> rfl
  · simp [Array.getD_eq_getD_getElem?, Array.getElem?_replicate]; split <;> rfl
  · exfalso
    simp [Array.getD_eq_getD_getElem?, Array.getElem?_replicate] at hl
    split at hl <;> cases hl
end
end Go.Proofs.Ytmhepmocnnlhnaa.Ab
