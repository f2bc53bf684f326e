/- A region that draws its order: whatever order, if what holds at each operation bears it. -/
import Derived.Test.YtphjglbbhanmpaaEH
namespace Go.Proofs.Ytphjglbbhanmpaa.Ab
open Go Go.RowKit

theorem getD_lt {listed : Array Bool} {j : Nat} (h : listed.getD j false = true) : j < listed.size := by
  rcases Nat.lt_or_ge j listed.size with h' | h'
  · exact h'
  · simp [Array.getElem?_eq_none h'] at h
theorem getD_ff {listed : Array Bool} {j : Nat} (h : j < listed.size) : listed.getD j true = listed.getD j false := by simp [h]
theorem getD_set {listed : Array Bool} {i j : Nat} (hi : i < listed.size) : (listed.setIfInBounds i true).getD j false = (if j = i then true else listed.getD j false) := by
  by_cases h : j = i
  · subst h; simp [hi]
  · rw [getD_set_ne false (Ne.symm h), if_neg h]
def backOk (ops : Array Oper) : Bool := (List.range ops.size).all fun i => match ops[i]? with
  | none => true
  | some o => o.after.all (fun e => !Region.binds .any e || decide (e.on < i))
/-- the operations that one must come behind -/
def predsOf (ops : Array Oper) (i : Nat) : List Nat := match ops[i]? with
  | none => []
  | some o => (o.after.toList.filter fun e => Region.binds .any e).map (·.on)
/-- it only writes its slot, from slots -/
def movey (o : Oper) : Bool := (match o.guard with
  | none => true
  | some _ => false) && match o.op with
  | .move _ => true
  | .assign _ => true
  | .extract _ _ => true
  | _ => false
def moveyAt (ops : Array Oper) (i : Nat) : Bool := match ops[i]? with
  | none => false
  | some o => movey o
/-- it may be done as soon as it may come -/
def floats (ops : Array Oper) (i : Nat) : Bool := match ops[i]? with
  | none => false
  | some o => movey o && (List.range ops.size).all fun j => Nat.beq j i || match ops[j]? with
    | none => true
    | some oj => (predsOf ops j).contains i || (predsOf ops i).contains j || o.apart ops oj
def tailOk (ops : Array Oper) (h : Nat) : Bool :=
  decide (h < ops.size) &&
  ((List.range ops.size).all fun i => Nat.ble i h || (predsOf ops i).any fun m => Nat.ble h m) &&
  ((List.range ops.size).all fun k => Nat.ble k h || ((List.range ops.size).all fun i => Nat.ble i k || (predsOf ops i).any fun m => Nat.ble k m) || floats ops k) &&
  ((List.range h).all fun j => ((List.range (h + 1)).any fun k => Nat.blt j k && (Nat.beq k h || !moveyAt ops k) && (predsOf ops k).contains j) || floats ops j)
section
variable {P : Program} {ops : Array Oper} {Q : Exit → Act → World → Prop}
theorem back_of (hok : backOk ops = true) : ∀ i o, ops[i]? = some o → ∀ e ∈ o.after, Region.binds .any e = true → e.on < i := by
  intro i o hi e he hb
  have ho := List.all_eq_true.1 hok i (by simpa using (Array.getElem?_eq_some_iff.1 hi).1)
  simp only [hi] at ho
  have := Array.all_eq_true_iff_forall_mem.1 ho e he
  simpa [hb] using this
theorem mem_preds {i m : Nat} {o : Oper} (ho : ops[i]? = some o) : m ∈ predsOf ops i ↔ ∃ e ∈ o.after, Region.binds .any e = true ∧ e.on = m := by
  unfold predsOf
  simp only [ho, List.mem_map, List.mem_filter, Array.mem_toList_iff]
  constructor
  · rintro ⟨e, ⟨h1, h2⟩, h3⟩; exact ⟨e, h1, h2, h3⟩
  · rintro ⟨e, h1, h2, h3⟩; exact ⟨e, ⟨h1, h2⟩, h3⟩
theorem floats_movey {i : Nat} (h : floats ops i = true) : ∃ o, ops[i]? = some o ∧ movey o = true := by
  unfold floats at h
  cases ho : ops[i]? with
  | none => rw [ho] at h; cases h
  | some o => rw [ho] at h; simp only [Bool.and_eq_true] at h; exact ⟨o, rfl, h.1⟩
theorem movey_spec {o : Oper} (h : movey o = true) : o.guard = none ∧ ((∃ x, o.op = .move x) ∨ (∃ x, o.op = .assign x) ∨ ∃ x k, o.op = .extract x k) := by
  obtain ⟨dst, op, ty, pos, after, guard⟩ := o
  unfold movey at h
  simp only [Bool.and_eq_true] at h
  refine ⟨by cases guard <;> simp_all, ?_⟩
  have h2 := h.2
  cases op <;> simp_all
theorem movey_run {o : Oper} (h : movey o = true) (ρ : Operand → Value) : (∃ v, ∀ w, (execOp ρ o).run P w = .ok (.value v) w) ∨ ∀ w K (a : Act) (Q : Exit → Act → World → Prop), ¬ o.upon P a K Q ((execOp ρ o).run P w) := by
  rcases (movey_spec h).2 with ⟨x, hx⟩ | ⟨x, hx⟩ | ⟨x, k, hx⟩
  · exact .inl ⟨ρ x, fun w => by simp [execOp, hx]⟩
  · exact .inl ⟨ρ x, fun w => by simp [execOp, hx]⟩
  · cases hv : ρ x with
    | tuple vs =>
      cases hk : vs[k]? with
      | none => exact .inr fun w K a Q => by simp [execOp, hx, hv, Instr.extract, hk, Oper.upon]
      | some v => exact .inl ⟨v, fun w => by simp [execOp, hx, hv, Instr.extract, hk]⟩
    | _ => exact .inr fun w K a Q => by simp [execOp, hx, hv, Instr.extract, Oper.upon]
/-- one that only moves: it may be done at once -/
theorem wpOp_movey {i : Nat} {o : Oper} (ho : ops[i]? = some o) (hm : movey o = true) (hlo : ¬ LetsOut Q) {K : Act → World → Prop} {a : Act} {w : World} (h : wpOp P ops Q i K a w) : ∃ v, Yields P ops o v a ∧ K (a.put o.dst v) w := by
  have hw : Region.wanted o (yielded ops a.tmps) = true := by simp [Region.wanted, (movey_spec hm).1]
  unfold wpOp at h
  simp only [ho, hw, if_true] at h
  rcases h with h | ⟨_, h⟩
  · rcases movey_run (P := P) hm a.eval with ⟨v, hv⟩ | hv
    · refine ⟨v, .inl ⟨hw, hv⟩, ?_⟩
      unfold Oper.wp at h
      rw [hv w] at h
      exact h
    · exact absurd h (hv w _ _ _)
  · exact absurd h hlo
theorem floats_free {i : Nat} {oi : Oper} (hi : ops[i]? = some oi) (hf : floats ops i = true) {listed : Array Bool} (hr : ∀ e ∈ oi.after, Region.binds .any e = true → listed.getD e.on false = true) :
    ∀ j oj, ops[j]? = some oj → j ≠ i → listed.getD j true = false → (∀ e ∈ oj.after, Region.binds .any e = true → e.on ≠ i) → oi.apart ops oj = true := by
  intro j oj hj hne hun hno
  have hlt := (Array.getElem?_eq_some_iff.1 hj).1
  unfold floats at hf
  simp only [hi, Bool.and_eq_true, List.all_eq_true, List.mem_range] at hf
  have h1 := hf.2 j hlt
  simp only [hj, Bool.or_eq_true] at h1
  rcases h1 with h1 | ((h1 | h1) | h1)
  · exact absurd (Nat.eq_of_beq_eq_true h1) hne
  · obtain ⟨e, he, hb, heq⟩ := (mem_preds hj).1 (by simpa using h1)
    exact absurd heq (hno e he hb)
  · obtain ⟨e, he, hb, heq⟩ := (mem_preds hi).1 (by simpa using h1)
    have h2 := hr e he hb
    rw [heq] at h2
    rw [← getD_ff (getD_lt h2), hun] at h2
    cases h2
  · exact h1
theorem forced_any (hok : backOk ops = true) (hns : Region.noSelect ops = true) (hlo : ¬ LetsOut Q) (hnp : ∀ c a w, ¬ Q (.panic c) a w) {h : Nat} (ht : h = ops.size ∨ tailOk ops h = true) :
    ∀ (m k : Nat) (listed : Array Bool) (a : Act) (w : World), h ≤ k → k + m = ops.size → listed.size = ops.size → (∀ i, i < ops.size → listed.getD i true = decide (i < k)) →
      wpOps P ops Q (List.range' k m) a w → wpAny P .any ops Q m listed a w := by
  have hback := back_of hok
  intro m
  induction m with
  | zero =>
    intro k listed a w hk hkm hs hl hw
    refine ⟨?_, by simpa [wpOps] using hw⟩
    cases hx : Region.ready .any ops listed with
    | nil => rfl
    | cons i is =>
      have hi : i ∈ Region.ready .any ops listed := by rw [hx]; exact List.mem_cons_self ..
      obtain ⟨hun, o, ho, _⟩ := mem_ready.1 hi
      have hio := (Array.getElem?_eq_some_iff.1 ho).1
      have := hl i hio
      rw [hun] at this
      simp at this
      omega
  | succ m ih =>
    intro k listed a w hk hkm hs hl hw
    have ht : tailOk ops h = true := by
      rcases ht with ht | ht
      · omega
      · exact ht
    simp only [tailOk, Bool.and_eq_true, decide_eq_true_eq] at ht
    obtain ⟨⟨⟨hh, hc⟩, hd⟩, _⟩ := ht
    have hks : k < ops.size := by omega
    have hko : ops[k]? = some ops[k] := Array.getElem?_eq_getElem hks
    have hpk : ∀ e ∈ ops[k].after, Region.binds .any e = true → listed.getD e.on false = true := fun e he hb => by
      have hlt := hback k _ hko e he hb
      rw [← getD_ff (by omega), hl e.on (by omega)]; simpa using hlt
    have hready : k ∈ Region.ready .any ops listed := mem_ready.2 ⟨by rw [hl k hks]; simp, _, hko, hpk⟩
    rw [List.range'_succ, wpOps_cons] at hw
    have hnext : ∀ j, j < ops.size → (listed.setIfInBounds k true).getD j true = decide (j < k + 1) := fun j hj => by
      by_cases hji : j = k
      · subst hji; simp [hs, hj]
      · rw [getD_set_ne true (Ne.symm hji), hl j hj]
        simp only [decide_eq_decide]
        omega
    have alone : (∀ i, k < i → i < ops.size → ∃ m ∈ predsOf ops i, k ≤ m) → wpAny P .any ops Q (m + 1) listed a w := by
      intro hal
      refine ⟨fun hr => (by rw [hr] at hready; cases hready), fun i hi => ?_⟩
      obtain ⟨hun, o, ho, hpre⟩ := mem_ready.1 hi
      have hio := (Array.getElem?_eq_some_iff.1 ho).1
      have hik : i = k := by
        have hl1 := hl i hio
        rw [hun] at hl1
        have hge : k ≤ i := by simpa using hl1
        rcases Nat.lt_or_ge k i with hlt | h'
        · obtain ⟨p, hp, hkp⟩ := hal i hlt hio
          obtain ⟨e, he, hb, rfl⟩ := (mem_preds ho).1 hp
          have h2 := hpre e he hb
          have hlt2 := hback i o ho e he hb
          rw [← getD_ff (by omega), hl e.on (by omega)] at h2
          simp at h2
          omega
        · omega
      subst hik
      exact wpOp_mono (fun a w h1 => ih (i + 1) _ a w (by omega) (by omega) (by simp [hs]) hnext h1) hw
    rcases Nat.lt_or_ge h k with hhk | hhk
    · have h1 := List.all_eq_true.1 hd k (by simpa using hks)
      simp only [Bool.or_eq_true, Nat.ble_eq] at h1
      rcases h1 with (h1 | h1) | h1
      · omega
      · exact alone fun i hki his => by
          have h2 := List.all_eq_true.1 h1 i (by simpa using his)
          simp only [Bool.or_eq_true, Nat.ble_eq, List.any_eq_true] at h2
          rcases h2 with h2 | h2
          · omega
          · exact h2
      · obtain ⟨o, ho, hm⟩ := floats_movey h1
        have heq : o = ops[k] := by rw [hko] at ho; exact (Option.some.inj ho).symm
        subst heq
        obtain ⟨v, hy, hK⟩ := wpOp_movey hko hm hlo hw
        exact wpAny_first hko (Region.noSelect_spec hns) (fun c a w h => absurd h (hnp c _ w)) m listed a w (floats_free hko h1 hpk) hready hy (ih (k + 1) _ _ w (by omega) (by omega) (by simp [hs]) hnext hK)
    · exact alone fun i hki his => by
        have h2 := List.all_eq_true.1 hc i (by simpa using his)
        simp only [Bool.or_eq_true, Nat.ble_eq, List.any_eq_true] at h2
        rcases h2 with h2 | ⟨p, hp, hhp⟩
        · omega
        · exact ⟨p, hp, by omega⟩
/-- whatever order: what holds of those that are done is kept by each one that may come next -/
theorem wp_orders (hok : backOk ops = true) (hns : Region.noSelect ops = true) (hlo : ¬ LetsOut Q) (hnp : ∀ c a w, ¬ Q (.panic c) a w) (h : Nat) (ht : h = ops.size ∨ tailOk ops h = true) (I : Array Bool → Act → World → Prop)
    (hstep : ∀ i o listed a w, i < h → ops[i]? = some o → listed.size = ops.size → I listed a w → listed.getD i true = false → (∀ e ∈ o.after, Region.binds .any e = true → listed.getD e.on false = true) → (∀ j, listed.getD j false = true → j < h) →
      wpOp P ops Q i (fun x y => I (listed.setIfInBounds i true) x y) a w)
    (hend : ∀ listed a w, listed.size = ops.size → (∀ i, i < ops.size → listed.getD i true = decide (i < h)) → I listed a w → wpOps P ops Q (List.range' h (ops.size - h)) a w)
    {a : Act} {w : World} (h0 : I (Array.replicate ops.size false) a w) : wpAny P .any ops Q ops.size (Array.replicate ops.size false) a w := by
  have hback := back_of hok
  have hhs : h ≤ ops.size := by
    rcases ht with ht | ht
    · omega
    · simp only [tailOk, Bool.and_eq_true, decide_eq_true_eq] at ht; omega
  have main : ∀ (c fuel : Nat) (listed : Array Bool) (a' : Act) (w' : World), fuel = c + (ops.size - h) → listed.size = ops.size → (listed.toList.take h).countP (fun b => !b) = c →
      (∀ i, h ≤ i → i < ops.size → listed.getD i true = false) → (∀ i o, ops[i]? = some o → listed.getD i false = true → ∀ e ∈ o.after, Region.binds .any e = true → listed.getD e.on false = true) →
      I listed a' w' → wpAny P .any ops Q fuel listed a' w' := by
    intro c
    induction c with
    | zero =>
      intro fuel listed a' w' hf hsz hcnt htu hcl hI
      have hl : ∀ i, i < ops.size → listed.getD i true = decide (i < h) := by
        intro i hi
        by_cases hih : i < h
        · have hlt : i < (listed.toList.take h).length := by simp [hsz]; omega
          have h0 := List.countP_eq_zero.1 hcnt ((listed.toList.take h)[i]) (List.getElem_mem hlt)
          have hls : i < listed.size := by rw [hsz]; exact hi
          simp only [List.getElem_take, Array.getElem_toList, Bool.not_eq_true', Bool.not_eq_false] at h0
          simp only [Array.getD, hls, dite_true, hih, decide_true]
          simpa using h0
        · rw [htu i (by omega) hi]; simp [hih]
      subst hf
      exact forced_any hok hns hlo hnp ht (0 + (ops.size - h)) h listed a' w' (Nat.le_refl _) (by omega) hsz hl (by simpa using hend listed a' w' hsz hl hI)
    | succ c ih =>
      intro fuel listed a' w' hf hsz hcnt htu hcl hI
      subst hf
      rw [show c + 1 + (ops.size - h) = (c + (ops.size - h)) + 1 from by omega]
      by_cases hfl : ∃ i, i < h ∧ floats ops i = true ∧ i ∈ Region.ready .any ops listed
      · obtain ⟨i, hih, hfi, hir⟩ := hfl
        obtain ⟨o, ho, hm⟩ := floats_movey hfi
        obtain ⟨hun, o', ho', hpre⟩ := mem_ready.1 hir
        have heq : o' = o := by rw [ho] at ho'; exact (Option.some.inj ho').symm
        subst heq
        have his : i < listed.size := by rw [hsz]; exact (Array.getElem?_eq_some_iff.1 ho).1
        have hhd : ∀ j, listed.getD j false = true → j < h := fun j hj => by
          rcases Nat.lt_or_ge j h with h' | h'
          · exact h'
          · have hjs := getD_lt hj
            have := htu j h' (by omega)
            rw [getD_ff hjs, hj] at this; cases this
        obtain ⟨v, hy, hK⟩ := wpOp_movey ho hm hlo (hstep i o' listed a' w' hih ho hsz hI hun hpre hhd)
        refine wpAny_first ho (Region.noSelect_spec hns) (fun c a w h => absurd h (hnp c _ w)) _ listed a' w' (floats_free ho hfi hpre) hir hy (ih _ _ _ w' rfl (by simp [hsz]) ?_ ?_ ?_ hK)
        · rw [Array.toList_setIfInBounds, List.take_set, List.countP_set (by simp; omega)]
          have h3 : listed.getD i false = false := by rw [← getD_ff his]; exact hun
          simp only [Array.getD, his, dite_true] at h3
          have h4 : (listed.toList.take h)[i]'(by simp; omega) = false := by simpa using h3
          simp only [h4]
          simp only [Bool.not_false, if_true, Bool.not_true, Bool.false_eq_true, if_false]
          omega
        · intro j hj hjs
          rw [getD_set_ne true (by omega)]; exact htu j hj hjs
        · intro j oj hoj hlj e he hb
          rw [getD_set his] at hlj ⊢
          by_cases hji : j = i
          · subst hji
            rw [ho] at hoj; cases hoj
            rw [hpre e he hb]; split <;> rfl
          · rw [if_neg hji] at hlj
            rw [hcl j oj hoj hlj e he hb]; split <;> rfl
      have notail : ∀ i, i ∈ Region.ready .any ops listed → i < h := by
        intro i hi
        rcases Nat.lt_or_ge i h with hlt | hge
        · exact hlt
        exfalso
        obtain ⟨hun, o, ho, hpre⟩ := mem_ready.1 hi
        have hio := (Array.getElem?_eq_some_iff.1 ho).1
        have ht : tailOk ops h = true := by
          rcases ht with ht | ht
          · omega
          · exact ht
        simp only [tailOk, Bool.and_eq_true, decide_eq_true_eq] at ht
        obtain ⟨⟨⟨hh, hc⟩, _⟩, hs⟩ := ht
        have hih : i = h := by
          rcases Nat.lt_or_ge h i with hlt | h'
          · have h1 := List.all_eq_true.1 hc i (by simpa using hio)
            simp only [Bool.or_eq_true, Nat.ble_eq, List.any_eq_true] at h1
            rcases h1 with h1 | ⟨p, hp, hhp⟩
            · omega
            · obtain ⟨e, he, hb, rfl⟩ := (mem_preds ho).1 hp
              have h2 := hpre e he hb
              have hel := getD_lt h2
              rw [← getD_ff hel, htu e.on hhp (by omega)] at h2
              cases h2
          · omega
        subst hih
        have heads : ∀ d j, j + d + 1 = i → moveyAt ops j = false → listed.getD j false = true := by
          intro d
          induction d using Nat.strongRecOn with
          | ind d ihd =>
            intro j hj hnm
            have h1 := List.all_eq_true.1 hs j (by simp; omega)
            simp only [Bool.or_eq_true, List.any_eq_true, List.mem_range, Bool.and_eq_true, Bool.not_eq_true', List.contains_iff_mem] at h1
            rcases h1 with ⟨k, hk, ⟨hjk, hkm⟩, hp⟩ | h1
            · have hjk : j < k := by simpa [Nat.blt_eq] using hjk
              have hks : k < ops.size := by omega
              have hko : ops[k]? = some ops[k] := Array.getElem?_eq_getElem hks
              obtain ⟨e, he, hb, rfl⟩ := (mem_preds hko).1 hp
              by_cases hki : k = i
              · subst hki
                rw [ho] at hko
                have := Option.some.inj hko
                rw [← this] at he
                exact hpre e he hb
              · exact hcl k _ hko (ihd (i - k - 1) (by omega) k (by omega) (by rcases hkm with h | h <;> simp_all)) e he hb
            · obtain ⟨oj, hoj, hm⟩ := floats_movey h1
              unfold moveyAt at hnm
              rw [hoj] at hnm
              simp only [hm] at hnm
              cases hnm
        have all : ∀ j, j < i → listed.getD j false = true := by
          intro j
          induction j using Nat.strongRecOn with
          | ind j ihj =>
            intro hji
            have hjs : j < ops.size := by omega
            have hko : ops[j]? = some ops[j] := Array.getElem?_eq_getElem hjs
            cases hx : listed.getD j false with
            | true => rfl
            | false =>
              exfalso
              have hready : j ∈ Region.ready .any ops listed := mem_ready.2 ⟨by rw [getD_ff (by omega)]; exact hx, _, hko, fun e he hb => by
                have hlt := hback j _ hko e he hb
                exact ihj e.on hlt (by omega)⟩
              cases hmj : moveyAt ops j with
              | false => rw [heads (i - j - 1) j (by omega) hmj] at hx; cases hx
              | true =>
                have h1 := List.all_eq_true.1 hs j (by simp; omega)
                simp only [Bool.or_eq_true, List.any_eq_true, List.mem_range, Bool.and_eq_true, Bool.not_eq_true', List.contains_iff_mem] at h1
                rcases h1 with ⟨k, hk, ⟨hjk, hkm⟩, hp⟩ | h1
                · have hjk : j < k := by simpa [Nat.blt_eq] using hjk
                  have hks : k < ops.size := by omega
                  have hko' : ops[k]? = some ops[k] := Array.getElem?_eq_getElem hks
                  obtain ⟨e, he, hb, heq⟩ := (mem_preds hko').1 hp
                  have hlk : listed.getD j false = true := by
                    by_cases hki : k = i
                    · subst hki
                      rw [ho] at hko'
                      have := Option.some.inj hko'
                      rw [← this] at he
                      rw [← heq]; exact hpre e he hb
                    · rw [← heq]
                      exact hcl k _ hko' (heads (i - k - 1) k (by omega) (by rcases hkm with h | h <;> simp_all)) e he hb
                  rw [hlk] at hx; cases hx
                · exact hfl ⟨j, hji, h1, hready⟩
        have h0 : (listed.toList.take i).countP (fun b => !b) = 0 := by
          refine List.countP_eq_zero.2 fun b hb => ?_
          obtain ⟨j, hj, hjb⟩ := List.mem_iff_getElem.1 hb
          have hji : j < i := by simp at hj; omega
          have h3 := all j hji
          have hjs : j < listed.size := getD_lt h3
          simp only [Array.getD, hjs, dite_true] at h3
          rw [← hjb]
          simp only [List.getElem_take, Array.getElem_toList]
          have h4 : listed[j] = true := by simpa using h3
          simp [h4]
        omega
      refine ⟨fun hr => ?_, fun i hi => ?_⟩
      · exfalso
        have hall : ∀ i, i < ops.size → listed.getD i true = true := by
          intro i
          induction i using Nat.strongRecOn with
          | ind i ihi =>
            intro hi
            cases hx : listed.getD i true with
            | true => rfl
            | false =>
              have hio : ops[i]? = some ops[i] := Array.getElem?_eq_getElem hi
              have : i ∈ Region.ready .any ops listed := mem_ready.2 ⟨hx, _, hio, fun e he hb => by
                have hlt := hback i _ hio e he hb
                rw [← getD_ff (by omega)]
                exact ihi e.on hlt (Nat.lt_trans hlt hi)⟩
              rw [hr] at this; cases this
        have h0 : (listed.toList.take h).countP (fun b => !b) = 0 := by
          refine List.countP_eq_zero.2 fun b hb => ?_
          obtain ⟨j, hj, hjb⟩ := List.mem_iff_getElem.1 hb
          have hjs : j < listed.size := by simp at hj; omega
          have := hall j (by omega)
          simp only [Array.getD, hjs, dite_true] at this
          rw [← hjb]
          simp only [List.getElem_take, Array.getElem_toList]
          have h4 : listed[j] = true := by simpa using this
          simp [h4]
        omega
      · have hih := notail i hi
        obtain ⟨hun, o, ho, hpre⟩ := mem_ready.1 hi
        have his : i < listed.size := by rw [hsz]; exact (Array.getElem?_eq_some_iff.1 ho).1
        have hhd : ∀ j, listed.getD j false = true → j < h := fun j hj => by
          rcases Nat.lt_or_ge j h with h' | h'
          · exact h'
          · have hjs := getD_lt hj
            have := htu j h' (by omega)
            rw [getD_ff hjs, hj] at this; cases this
        refine wpOp_mono (fun x y hxy => ih _ _ x y rfl (by simp [hsz]) ?_ ?_ ?_ hxy) (hstep i o listed a' w' hih ho hsz hI hun hpre hhd)
        · rw [Array.toList_setIfInBounds, List.take_set, List.countP_set (by simp; omega)]
          have h3 : listed.getD i false = false := by rw [← getD_ff his]; exact hun
          simp only [Array.getD, his, dite_true] at h3
          have h4 : (listed.toList.take h)[i]'(by simp; omega) = false := by simpa using h3
          simp only [h4]
          simp only [Bool.not_false, if_true, Bool.not_true, Bool.false_eq_true, if_false]
          omega
        · intro j hj hjs
          rw [getD_set_ne true (by omega)]; exact htu j hj hjs
        · intro j oj hoj hlj e he hb
          rw [getD_set his] at hlj ⊢
          by_cases hji : j = i
          · subst hji
            rw [ho] at hoj; cases hoj
            rw [hpre e he hb]; split <;> rfl
          · rw [if_neg hji] at hlj
            rw [hcl j oj hoj hlj e he hb]; split <;> rfl
  have hcount : ((Array.replicate ops.size false).toList.take h).countP (fun b => !b) = h := by
    rw [Array.toList_replicate, List.take_replicate, List.countP_replicate]; simp; omega
  exact main h ops.size (Array.replicate ops.size false) a w (by omega) (by simp) hcount (fun i _ hi => by simp [hi]) (fun i o _ hx => by
    have := getD_lt hx
    simp only [Array.size_replicate] at this
    simp [this] at hx) h0
end
end Go.Proofs.Ytphjglbbhanmpaa.Ab
