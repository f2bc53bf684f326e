/- A region that draws its order, on abstract values. -/
import Derived.Test.YtphjglbbhanmpaaEI
namespace Go.Proofs.Ytphjglbbhanmpaa.Ab
open Go Go.RowKit

/-- the names that a value speaks of -/
inductive Bel (U : Nat → Prop) : AV → Prop
  | p (v : Value) : Bel U (.p v)
  | agg (cs : List AV) : (∀ x ∈ cs, Bel U x) → Bel U (.agg cs)
  | tup (cs : List AV) : (∀ x ∈ cs, Bel U x) → Bel U (.tup cs)
  | lst (t : Bool) (sz n : Nat) (g : Nat → List AV) : (∀ i x, i < n → x ∈ g i → Bel U x) → Bel U (.lst t sz n g)
  | fref (cs : List AV) : (∀ x ∈ cs, Bel U x) → Bel U (.fref cs)
  | ref (id sz i off : Nat) : U id → Bel U (.ref id sz i off)
  | arr (id sz i n : Nat) : U id → Bel U (.arr id sz i n)
  | sub (id sz i off n : Nat) : U id → Bel U (.sub id sz i off n)
  | fn (f : Fn) (fs cs : List AV) : (∀ x ∈ fs, Bel U x) → (∀ x ∈ cs, Bel U x) → Bel U (.fn f fs cs)
  | mp (ks : List Value) (vs : List AV) : (∀ x ∈ vs, Bel U x) → Bel U (.mp ks vs)
  | any : Bel U .any
theorem Bel.up {U U' : Nat → Prop} (hu : ∀ id, U id → U' id) {a : AV} (h : Bel U a) : Bel U' a := by
  induction h with
  | p v => exact .p v
  | agg cs _ ih => exact .agg cs ih
  | tup cs _ ih => exact .tup cs ih
  | lst t sz n g _ ih => exact .lst t sz n g ih
  | fref cs _ ih => exact .fref cs ih
  | ref id sz i off h => exact .ref id sz i off (hu id h)
  | arr id sz i n h => exact .arr id sz i n (hu id h)
  | sub id sz i off n h => exact .sub id sz i off n (hu id h)
  | fn f fs cs _ _ ih1 ih2 => exact .fn f fs cs ih1 ih2
  | mp ks vs _ ih => exact .mp ks vs ih
  | any => exact .any
theorem mem_rel {cs : List AV} {us : List Value} (hl : us.length = cs.length) {x : AV} (hx : x ∈ cs) : ∃ (i : Nat) (u : Value), cs[i]? = some x ∧ us[i]? = some u := by
  obtain ⟨i, hi⟩ := List.mem_iff_getElem?.1 hx
  have hlt : i < us.length := by have := (List.getElem?_eq_some_iff.1 hi).1; omega
  exact ⟨i, us[i], hi, List.getElem?_eq_getElem hlt⟩
theorem VRel.bel {U : Nat → Prop} {φ : Pl} {V : Nat → Prop} {w : World} {a : AV} {v : Value} (h : VRel U φ V w a v) : Bel U a := by
  induction h with
  | p v => exact .p v
  | agg cs us hl _ _ ih => exact .agg cs fun x hx => by obtain ⟨i, u, h1, h2⟩ := mem_rel hl hx; exact ih i x u h1 h2
  | tup cs us hl _ ih => exact .tup cs fun x hx => by obtain ⟨i, u, h1, h2⟩ := mem_rel hl hx; exact ih i x u h1 h2
  | lst0 t sz g a c _ _ => exact .lst t sz 0 g fun i x hi => by omega
  | lst t sz n g b off c cur e fz us _ _ _ _ _ _ _ _ ih => exact .lst t sz n g fun i x hi hx => by obtain ⟨j, hj⟩ := List.mem_iff_getElem?.1 hx; exact ih i j x hi hj
  | fref cs b off cur e fz us _ _ _ _ ih => exact .fref cs fun x hx => by obtain ⟨j, hj⟩ := List.mem_iff_getElem?.1 hx; exact ih j x hj
  | ref id sz i off hid => exact .ref id sz i off hid
  | arr id sz i n o hid _ _ => exact .arr id sz i n hid
  | sub id sz i off n c hid _ => exact .sub id sz i off n hid
  | fn f fs cs us vs h1 h2 _ _ ih1 ih2 => exact .fn f fs cs (fun x hx => by obtain ⟨i, u, h3, h4⟩ := mem_rel h1 hx; exact ih1 i x u h3 h4) (fun x hx => by obtain ⟨i, u, h3, h4⟩ := mem_rel h2 hx; exact ih2 i x u h3 h4)
  | mp ks vs b es clock us _ _ hl _ _ _ ih => exact .mp ks vs fun x hx => by obtain ⟨i, u, h3, h4⟩ := mem_rel hl hx; exact ih i x u h3 h4
  | any v => exact .any
theorem VRel.down {U U' : Nat → Prop} {φ : Pl} {V : Nat → Prop} {w : World} {a : AV} {v : Value} (h : VRel U' φ V w a v) (hb : Bel U a) : VRel U φ V w a v := by
  induction h with
  | p v => exact .p v
  | agg cs us hl h1 _ ih => cases hb with | agg _ hb => exact .agg cs us hl h1 fun i x u hx hu => ih i x u hx hu (hb x (List.mem_of_getElem? hx))
  | tup cs us hl _ ih => cases hb with | tup _ hb => exact .tup cs us hl fun i x u hx hu => ih i x u hx hu (hb x (List.mem_of_getElem? hx))
  | lst0 t sz g a c h0 h1 => exact .lst0 t sz g a c h0 h1
  | lst t sz n g b off c cur e fz us h0 h1 h2 h3 h4 h5 h6 _ ih => cases hb with | lst _ _ _ _ hb => exact .lst t sz n g b off c cur e fz us h0 h1 h2 h3 h4 h5 h6 fun i j x hi hx => ih i j x hi hx (hb i x hi (List.mem_of_getElem? hx))
  | fref cs b off cur e fz us h0 h1 h2 _ ih => cases hb with | fref _ hb => exact .fref cs b off cur e fz us h0 h1 h2 fun j x hx => ih j x hx (hb x (List.mem_of_getElem? hx))
  | ref id sz i off hid => cases hb with | ref _ _ _ _ hb => exact .ref id sz i off hb
  | arr id sz i n o hid h1 h2 => cases hb with | arr _ _ _ _ hb => exact .arr id sz i n o hb h1 h2
  | sub id sz i off n c hid h1 => cases hb with | sub _ _ _ _ _ hb => exact .sub id sz i off n c hb h1
  | fn f fs cs us vs h1 h2 _ _ ih1 ih2 => cases hb with | fn _ _ _ hb1 hb2 => exact .fn f fs cs us vs h1 h2 (fun i x u hx hu => ih1 i x u hx hu (hb1 x (List.mem_of_getElem? hx))) (fun i x u hx hu => ih2 i x u hx hu (hb2 x (List.mem_of_getElem? hx)))
  | mp ks vs b es clock us h0 h1 h2 h3 h4 _ ih => cases hb with | mp _ _ hb => exact .mp ks vs b es clock us h0 h1 h2 h3 h4 fun i x u hx hu => ih i x u hx hu (hb x (List.mem_of_getElem? hx))
  | any v => exact .any v
theorem BlkRel.up {φ φ' : Pl} {U U' V V' : Nat → Prop} {w w' : World} {pl : Nat × Nat} {b : Blk} (h : BlkRel U φ V w pl b) (hb : w'.heap[pl.1]? = w.heap[pl.1]?) (hv : ∀ x v, VRel U φ V w x v → VRel U' φ' V' w' x v) : BlkRel U' φ' V' w' pl b := by
  obtain ⟨cur, h0, h1, h2, h3, h4, h5⟩ := h
  exact ⟨cur, hb.trans h0, h1, h2, h3, h4, fun i j x hi hx => by obtain ⟨u, g1, g2, g3⟩ := h5 i j x hi hx; exact ⟨u, g1, g2, hv x u g3⟩⟩

section
open Classical
/-- blocks that one may see -/
noncomputable def mask (vis : Nat → Prop) (L : AH) : AH := L.mapIdx fun id x => if vis id then x else none
theorem mask_len (vis : Nat → Prop) (L : AH) : (mask vis L).length = L.length := by simp [mask]
theorem mask_get (vis : Nat → Prop) (L : AH) (id : Nat) (b : Blk) : (mask vis L)[id]? = some (some b) ↔ vis id ∧ L[id]? = some (some b) := by
  simp only [mask, List.getElem?_mapIdx]
  cases L[id]? with
  | none => simp
  | some x => by_cases h : vis id <;> simp [h]
theorem mask_live (vis : Nat → Prop) (L : AH) (id : Nat) : Live (mask vis L) id ↔ vis id ∧ Live L id := by
  constructor
  · rintro ⟨b, h⟩; have := (mask_get vis L id b).1 h; exact ⟨this.1, b, this.2⟩
  · rintro ⟨h, b, hb⟩; exact ⟨b, (mask_get vis L id b).2 ⟨h, hb⟩⟩
theorem mask_all (vis : Nat → Prop) (L : AH) (h : ∀ id, id < L.length → vis id) : mask vis L = L := by
  apply List.ext_getElem?
  intro i
  simp only [mask, List.getElem?_mapIdx]
  cases hx : L[i]? with
  | none => rfl
  | some x => simp [h i (List.getElem?_eq_some_iff.1 hx).1]
end

abbrev Fc := AV × AH
def nones (N : AH) : AH := N.map fun _ => none
def news (fs : List Fc) : AH := fs.flatMap (·.2)
def FR : AF → List Oper → List Fc → AF
  | F, o :: os, f :: fs => FR (aput F o.dst f.1) os fs
  | F, _, _ => F
def F1 (P : Program) (n : Nat) (ops : Array Oper) (H : AH) (o : Oper) (f : Fc) (F : AF) (N : AH) : Prop :=
  dok n o.dst = true ∧ match o.guard with
    | none => AO P true (H.length + N.length) o (aev F) (H ++ nones N) (fun r H' => r = f.1 ∧ H' = H ++ nones N ++ f.2)
    | some (g, want) => ∃ t, gslot ops g = some t ∧ ((aget F t = .p (.bool want) ∧ AO P true (H.length + N.length) o (aev F) (H ++ nones N) (fun r H' => r = f.1 ∧ H' = H ++ nones N ++ f.2)) ∨
        ((aget F t = .p (.bool !want) ∨ ∃ vs, aget F t = .p (.tuple vs)) ∧ f = (.p undef, [])))
def FO (P : Program) (n : Nat) (ops : Array Oper) (H : AH) : List Oper → List Fc → AF → AH → Prop
  | [], [], _, _ => True
  | o :: os, f :: fs, F, N => F1 P n ops H o f F N ∧ FO P n ops H os fs (aput F o.dst f.1) (N ++ f.2)
  | _, _, _, _ => False
/-- operations one behind the other, each in a state that no other one has turned -/
def RG (P : Program) (n : Nat) (ops : Array Oper) (H : AH) : List Oper → (AF → AH → Prop) → AF → AH → Prop
  | [], K, F, N => K F N
  | o :: os, K, F, N => ∃ f : Fc, F1 P n ops H o f F N ∧ RG P n ops H os K (aput F o.dst f.1) (N ++ f.2)
section
variable {P : Program} {n : Nat} {ops : Array Oper} {H : AH}
theorem rg_facts {K : AF → AH → Prop} : ∀ (os : List Oper) (F : AF) (N : AH), RG P n ops H os K F N → ∃ fs, FO P n ops H os fs F N ∧ K (FR F os fs) (N ++ news fs) := by
  intro os
  induction os with
  | nil => intro F N h; exact ⟨[], True.intro, by simpa [FR, news, RG] using h⟩
  | cons o os ih =>
    rintro F N ⟨f, h1, h2⟩
    obtain ⟨fs, h3, h4⟩ := ih _ _ h2
    exact ⟨f :: fs, ⟨h1, h3⟩, by simpa [FR, news] using h4⟩
theorem fo_len : ∀ (os : List Oper) (fs : List Fc) (F : AF) (N : AH), FO P n ops H os fs F N → fs.length = os.length := by
  intro os
  induction os with
  | nil => intro fs F N h; cases fs with | nil => rfl | cons => exact h.elim
  | cons o os ih => intro fs F N h; cases fs with | nil => exact h.elim | cons f fs => simp [ih fs _ _ h.2]
theorem fo_get : ∀ (os : List Oper) (fs : List Fc) (F : AF) (N : AH), FO P n ops H os fs F N → ∀ (i : Nat) (o : Oper) (f : Fc), os[i]? = some o → fs[i]? = some f → F1 P n ops H o f (FR F (os.take i) (fs.take i)) (N ++ news (fs.take i)) := by
  intro os
  induction os with
  | nil => intro fs F N _ i o f h; simp at h
  | cons o os ih =>
    intro fs F N h i o' f' ho hf
    cases fs with
    | nil => exact h.elim
    | cons f fs =>
      cases i with
      | zero => simp at ho hf; subst ho hf; simpa [FR, news] using h.1
      | succ i =>
        have := ih fs _ _ h.2 i o' f' (by simpa using ho) (by simpa using hf)
        simpa [FR, news] using this
theorem fr_other {t : Tmp} : ∀ (os : List Oper) (fs : List Fc) (F : AF), (∀ o ∈ os, o.dst ≠ some t) → aget (FR F os fs) t = aget F t := by
  intro os
  induction os with
  | nil => intro fs F _; cases fs <;> rfl
  | cons o os ih =>
    intro fs F h
    cases fs with
    | nil => rfl
    | cons f fs =>
      simp only [FR]
      rw [ih fs _ (fun o ho => h o (List.mem_cons_of_mem _ ho))]
      have hne := h o (List.mem_cons_self ..)
      cases hd : o.dst with
      | none => rfl
      | some d =>
        rw [hd] at hne
        simp only [aput, aget]
        have : Nat.beq d t = false := by rw [← Bool.not_eq_true]; simp; exact fun e => hne (by rw [e])
        rw [this]; rfl
theorem fr_at {t : Tmp} : ∀ (os : List Oper) (fs : List Fc) (F : AF) (j : Nat) (o : Oper) (f : Fc), os[j]? = some o → fs[j]? = some f → o.dst = some t → (∀ (k : Nat) o', os[k]? = some o' → o'.dst = some t → k = j) → aget (FR F os fs) t = f.1 := by
  intro os
  induction os with
  | nil => intro fs F j o f h; simp at h
  | cons o os ih =>
    intro fs F j o' f' ho hf hd hu
    cases fs with
    | nil => simp at hf
    | cons f fs =>
      simp only [FR]
      cases j with
      | zero =>
        simp at ho hf
        subst ho hf
        rw [fr_other os fs _ (fun x hx e => by
          obtain ⟨k, hk⟩ := List.mem_iff_getElem?.1 hx
          have := hu (k + 1) x (by simpa using hk) e
          omega)]
        rw [hd]
        simp [aput, aget]
      | succ j =>
        exact ih fs _ j o' f' (by simpa using ho) (by simpa using hf) hd (fun k x hk e => by have := hu (k + 1) x (by simpa using hk) e; omega)
theorem news_take (fs : List Fc) (i : Nat) (f : Fc) (h : fs[i]? = some f) : news (fs.take (i + 1)) = news (fs.take i) ++ f.2 := by
  rw [List.take_add_one, h]; simp [news]
theorem news_mono (fs : List Fc) {i j : Nat} (h : i ≤ j) : (news (fs.take i)).length ≤ (news (fs.take j)).length := by
  obtain ⟨k, rfl⟩ := Nat.exists_eq_add_of_le h
  induction k with
  | zero => exact Nat.le_refl _
  | succ k ih =>
    refine Nat.le_trans (ih (by omega)) ?_
    rw [← Nat.add_assoc, List.take_add_one]
    simp [news, List.flatMap_append]
theorem news_split (fs : List Fc) (i : Nat) : news fs = news (fs.take i) ++ news (fs.drop i) := by
  unfold news
  rw [← List.flatMap_append, List.take_append_drop]
/-- the operations whose values one reads -/
def dataPreds (o : Oper) : List Nat := ((o.after.toList.filter fun e => Region.binds .any e && (e.ground == .data || e.ground == .guard)).map (·.on))
def regOk (ops : Array Oper) (h : Nat) : Bool :=
  let ds := (ops.toList.take h).filterMap (·.dst)
  Region.noSelect ops && decide (ds.Nodup) &&
  (List.range h).all fun i => match ops[i]? with
    | none => true
    | some o => (o.looksAt ops).all fun t => !ds.contains t || (dataPreds o).any fun j => ((ops[j]?).bind (·.dst)) == some t
theorem nodup_filterMap {α β : Type} (f : α → Option β) : ∀ (l : List α), (l.filterMap f).Nodup → ∀ (i j : Nat) x y d, l[i]? = some x → l[j]? = some y → f x = some d → f y = some d → i = j := by
  intro l
  induction l with
  | nil => intro _ i j x y d h; simp at h
  | cons a l ih =>
    intro hn i j x y d hi hj hx hy
    have mem : ∀ (k : Nat) z, l[k]? = some z → f z = some d → d ∈ l.filterMap f := fun k z hz hf => List.mem_filterMap.2 ⟨z, List.mem_of_getElem? hz, hf⟩
    cases i with
    | zero =>
      simp at hi; subst hi
      rw [List.filterMap_cons_some hx] at hn
      cases j with
      | zero => rfl
      | succ j => exact absurd (mem j y (by simpa using hj) hy) (List.nodup_cons.1 hn).1
    | succ i =>
      have hn' : (l.filterMap f).Nodup := by
        cases hfa : f a with
        | none => rw [List.filterMap_cons_none hfa] at hn; exact hn
        | some b => rw [List.filterMap_cons_some hfa] at hn; exact (List.nodup_cons.1 hn).2
      cases j with
      | zero =>
        simp at hj; subst hj
        rw [List.filterMap_cons_some hy] at hn
        exact absurd (mem i x (by simpa using hi) hx) (List.nodup_cons.1 hn).1
      | succ j => rw [ih hn' i j x y d (by simpa using hi) (by simpa using hj) hx hy]
end
end Go.Proofs.Ytphjglbbhanmpaa.Ab
