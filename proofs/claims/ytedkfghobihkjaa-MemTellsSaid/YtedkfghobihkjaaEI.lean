/- A region that draws its order: whatever order, if what holds at each operation bears it. -/
import Derived.Test.YtedkfghobihkjaaEH
namespace Go.Proofs.Ytedkfghobihkjaa.Ab
open Go Go.RowKit

theorem getD_lt {listed : Array Bool} {j : Nat} (h : listed.getD j false = true) : j < listed.size := by
  rcases Nat.lt_or_ge j listed.size with h' | h'
  · exact h'
  · simp [Array.getElem?_eq_none h'] at h
theorem getD_ff {listed : Array Bool} {j : Nat} (h : j < listed.size) : listed.getD j true = listed.getD j false := by simp [h]
theorem getD_set {listed : Array Bool} {i j : Nat} (hi : i < listed.size) : (listed.setIfInBounds i true).getD j false = (if j = i then true else listed.getD j false) := by
  by_cases h : j = i
  · subst h; simp [hi]
  · rw [getD_set_ne false (Ne.symm h), if_neg h]
def backOk (ops : Array Oper) : Bool := (List.range ops.size).all fun i => match ops[i]? with
  | none => true
  | some o => o.after.all (fun e => !Region.binds .any e || decide (e.on < i))
def tailOk (ops : Array Oper) (h : Nat) : Bool :=
  decide (h < ops.size) &&
  ((List.range ops.size).all fun i => i ≤ h || match ops[i]? with
    | none => true
    | some o => o.after.any fun e => Region.binds .any e && e.on == i - 1) &&
  ((List.range h).all fun j => (List.range (h + 1)).any fun k => decide (j < k) && match ops[k]? with
    | none => false
    | some o => o.after.any fun e => Region.binds .any e && e.on == j)
section
variable {P : Program} {ops : Array Oper} {Q : Exit → Act → World → Prop}
theorem back_of (hok : backOk ops = true) : ∀ i o, ops[i]? = some o → ∀ e ∈ o.after, Region.binds .any e = true → e.on < i := by
  intro i o hi e he hb
  have ho := List.all_eq_true.1 hok i (by simpa using (Array.getElem?_eq_some_iff.1 hi).1)
  simp only [hi] at ho
  have := Array.all_eq_true_iff_forall_mem.1 ho e he
  simpa [hb] using this
theorem forced_any (hok : backOk ops = true) {h : Nat} (ht : h = ops.size ∨ tailOk ops h = true) :
    ∀ (m k : Nat) (listed : Array Bool) (a : Act) (w : World), h ≤ k → k + m = ops.size → listed.size = ops.size → (∀ i, i < ops.size → listed.getD i true = decide (i < k)) →
      wpOps P ops Q (List.range' k m) a w → wpAny P .any ops Q m listed a w := by
  have hback := back_of hok
  intro m
  induction m with
  | zero =>
    intro k listed a w hk hkm hs hl hw
    refine ⟨?_, by simpa [wpOps] using hw⟩
    cases hx : Region.ready .any ops listed with
    | nil => rfl
    | cons i is =>
      have hi : i ∈ Region.ready .any ops listed := by rw [hx]; exact List.mem_cons_self ..
      obtain ⟨hun, o, ho, _⟩ := mem_ready.1 hi
      have hio := (Array.getElem?_eq_some_iff.1 ho).1
      have := hl i hio
      rw [hun] at this
      simp at this
      omega
  | succ m ih =>
    intro k listed a w hk hkm hs hl hw
    have ht : tailOk ops h = true := by
      rcases ht with ht | ht
      · omega
      · exact ht
    simp only [tailOk, Bool.and_eq_true, decide_eq_true_eq] at ht
    obtain ⟨⟨hh, hc⟩, _⟩ := ht
    have hks : k < ops.size := by omega
    have hko : ops[k]? = some ops[k] := Array.getElem?_eq_getElem hks
    have hready : k ∈ Region.ready .any ops listed := mem_ready.2 ⟨by rw [hl k hks]; simp, _, hko, fun e he hb => by
      have hlt := hback k _ hko e he hb
      rw [← getD_ff (by omega), hl e.on (by omega)]; simpa using hlt⟩
    refine ⟨fun hr => (by rw [hr] at hready; cases hready), fun i hi => ?_⟩
    obtain ⟨hun, o, ho, hpre⟩ := mem_ready.1 hi
    have hio := (Array.getElem?_eq_some_iff.1 ho).1
    have hik : i = k := by
      have hl1 := hl i hio
      rw [hun] at hl1
      have hge : k ≤ i := by simpa using hl1
      rcases Nat.lt_or_ge k i with hlt | h'
      · have h1 := List.all_eq_true.1 hc i (by simpa using hio)
        simp only [ho, Bool.or_eq_true, decide_eq_true_eq] at h1
        rcases h1 with h1 | h1
        · omega
        · obtain ⟨e, he, hb⟩ := Array.any_eq_true'.1 h1
          simp only [Bool.and_eq_true, beq_iff_eq] at hb
          have h2 := hpre e he hb.1
          rw [← getD_ff (by omega), hl e.on (by omega), hb.2] at h2
          simp at h2
          omega
      · omega
    subst hik
    rw [List.range'_succ, wpOps_cons] at hw
    refine wpOp_mono (fun a w h1 => ih (i + 1) _ a w (by omega) (by omega) (by simp [hs]) (fun j hj => ?_) h1) hw
    by_cases hji : j = i
    · subst hji; simp [hs, hj]
    · rw [getD_set_ne true (Ne.symm hji), hl j hj]
      simp only [decide_eq_decide]
      omega
/-- whatever order: what holds of those that are done is kept by each one that may come next -/
theorem wp_orders (hok : backOk ops = true) (h : Nat) (ht : h = ops.size ∨ tailOk ops h = true) (I : Array Bool → Act → World → Prop)
    (hstep : ∀ i o listed a w, i < h → ops[i]? = some o → listed.size = ops.size → I listed a w → listed.getD i true = false → (∀ e ∈ o.after, Region.binds .any e = true → listed.getD e.on false = true) → (∀ j, listed.getD j false = true → j < h) →
      wpOp P ops Q i (fun x y => I (listed.setIfInBounds i true) x y) a w)
    (hend : ∀ listed a w, listed.size = ops.size → (∀ i, i < ops.size → listed.getD i true = decide (i < h)) → I listed a w → wpOps P ops Q (List.range' h (ops.size - h)) a w)
    {a : Act} {w : World} (h0 : I (Array.replicate ops.size false) a w) : wpAny P .any ops Q ops.size (Array.replicate ops.size false) a w := by
  have hback := back_of hok
  have hhs : h ≤ ops.size := by
    rcases ht with ht | ht
    · omega
    · simp only [tailOk, Bool.and_eq_true, decide_eq_true_eq] at ht; omega
  have main : ∀ (c fuel : Nat) (listed : Array Bool) (a' : Act) (w' : World), fuel = c + (ops.size - h) → listed.size = ops.size → (listed.toList.take h).countP (fun b => !b) = c →
      (∀ i, h ≤ i → i < ops.size → listed.getD i true = false) → (∀ i o, ops[i]? = some o → listed.getD i false = true → ∀ e ∈ o.after, Region.binds .any e = true → listed.getD e.on false = true) →
      I listed a' w' → wpAny P .any ops Q fuel listed a' w' := by
    intro c
    induction c with
    | zero =>
      intro fuel listed a' w' hf hsz hcnt htu hcl hI
      have hl : ∀ i, i < ops.size → listed.getD i true = decide (i < h) := by
        intro i hi
        by_cases hih : i < h
        · have hlt : i < (listed.toList.take h).length := by simp [hsz]; omega
          have h0 := List.countP_eq_zero.1 hcnt ((listed.toList.take h)[i]) (List.getElem_mem hlt)
          have hls : i < listed.size := by rw [hsz]; exact hi
          simp only [List.getElem_take, Array.getElem_toList, Bool.not_eq_true', Bool.not_eq_false] at h0
          simp only [Array.getD, hls, dite_true, hih, decide_true]
          simpa using h0
        · rw [htu i (by omega) hi]; simp [hih]
      subst hf
      exact forced_any hok ht (0 + (ops.size - h)) h listed a' w' (Nat.le_refl _) (by omega) hsz hl (by simpa using hend listed a' w' hsz hl hI)
    | succ c ih =>
      intro fuel listed a' w' hf hsz hcnt htu hcl hI
      subst hf
      rw [show c + 1 + (ops.size - h) = (c + (ops.size - h)) + 1 from by omega]
      have notail : ∀ i, i ∈ Region.ready .any ops listed → i < h := by
        intro i hi
        rcases Nat.lt_or_ge i h with hlt | hge
        · exact hlt
        exfalso
        obtain ⟨hun, o, ho, hpre⟩ := mem_ready.1 hi
        have hio := (Array.getElem?_eq_some_iff.1 ho).1
        have ht : tailOk ops h = true := by
          rcases ht with ht | ht
          · omega
          · exact ht
        simp only [tailOk, Bool.and_eq_true, decide_eq_true_eq] at ht
        obtain ⟨⟨hh, hc⟩, hs⟩ := ht
        have hih : i = h := by
          rcases Nat.lt_or_ge h i with hlt | h'
          · have h1 := List.all_eq_true.1 hc i (by simpa using hio)
            simp only [ho, Bool.or_eq_true, decide_eq_true_eq] at h1
            rcases h1 with h1 | h1
            · omega
            · obtain ⟨e, he, hb⟩ := Array.any_eq_true'.1 h1
              simp only [Bool.and_eq_true, beq_iff_eq] at hb
              have h2 := hpre e he hb.1
              rw [hb.2, ← getD_ff (by omega), htu (i - 1) (by omega) (by omega)] at h2
              cases h2
          · omega
        subst hih
        have heads : ∀ d j, j + d + 1 = i → listed.getD j false = true := by
          intro d
          induction d using Nat.strongRecOn with
          | ind d ihd =>
            intro j hj
            have h1 := List.all_eq_true.1 hs j (by simp; omega)
            obtain ⟨k, hk, h2⟩ := List.any_eq_true.1 h1
            simp only [List.mem_range] at hk
            cases hko : ops[k]? with
            | none => simp [hko] at h2
            | some ok =>
              simp only [hko, Bool.and_eq_true, decide_eq_true_eq] at h2
              obtain ⟨hjk, h2⟩ := h2
              obtain ⟨e, he, hb⟩ := Array.any_eq_true'.1 h2
              simp only [Bool.and_eq_true, beq_iff_eq] at hb
              by_cases hki : k = i
              · subst hki
                rw [ho] at hko; cases hko
                rw [← hb.2]; exact hpre e he hb.1
              · rw [← hb.2]
                exact hcl k ok hko (ihd (i - k - 1) (by omega) k (by omega)) e he hb.1
        have h0 : (listed.toList.take i).countP (fun b => !b) = 0 := by
          refine List.countP_eq_zero.2 fun b hb => ?_
          obtain ⟨j, hj, hjb⟩ := List.mem_iff_getElem.1 hb
          have hji : j < i := by simp at hj; omega
          have h3 := heads (i - j - 1) j (by omega)
          have hjs : j < listed.size := getD_lt h3
          simp only [Array.getD, hjs, dite_true] at h3
          rw [← hjb]
          simp only [List.getElem_take, Array.getElem_toList]
          have h4 : listed[j] = true := by simpa using h3
          simp [h4]
        omega
      refine ⟨fun hr => ?_, fun i hi => ?_⟩
      · exfalso
        have hall : ∀ i, i < ops.size → listed.getD i true = true := by
          intro i
          induction i using Nat.strongRecOn with
          | ind i ihi =>
            intro hi
            cases hx : listed.getD i true with
            | true => rfl
            | false =>
              have hio : ops[i]? = some ops[i] := Array.getElem?_eq_getElem hi
              have : i ∈ Region.ready .any ops listed := mem_ready.2 ⟨hx, _, hio, fun e he hb => by
                have hlt := hback i _ hio e he hb
                rw [← getD_ff (by omega)]
                exact ihi e.on hlt (Nat.lt_trans hlt hi)⟩
              rw [hr] at this; cases this
        have h0 : (listed.toList.take h).countP (fun b => !b) = 0 := by
          refine List.countP_eq_zero.2 fun b hb => ?_
          obtain ⟨j, hj, hjb⟩ := List.mem_iff_getElem.1 hb
          have hjs : j < listed.size := by simp at hj; omega
          have := hall j (by omega)
          simp only [Array.getD, hjs, dite_true] at this
          rw [← hjb]
          simp only [List.getElem_take, Array.getElem_toList]
          have h4 : listed[j] = true := by simpa using this
          simp [h4]
        omega
      · have hih := notail i hi
        obtain ⟨hun, o, ho, hpre⟩ := mem_ready.1 hi
        have his : i < listed.size := by rw [hsz]; exact (Array.getElem?_eq_some_iff.1 ho).1
        have hhd : ∀ j, listed.getD j false = true → j < h := fun j hj => by
          rcases Nat.lt_or_ge j h with h' | h'
          · exact h'
          · have hjs := getD_lt hj
            have := htu j h' (by omega)
            rw [getD_ff hjs, hj] at this; cases this
        refine wpOp_mono (fun x y hxy => ih _ _ x y rfl (by simp [hsz]) ?_ ?_ ?_ hxy) (hstep i o listed a' w' hih ho hsz hI hun hpre hhd)
        · rw [Array.toList_setIfInBounds, List.take_set, List.countP_set (by simp; omega)]
          have h3 : listed.getD i false = false := by rw [← getD_ff his]; exact hun
          simp only [Array.getD, his, dite_true] at h3
          have h4 : (listed.toList.take h)[i]'(by simp; omega) = false := by simpa using h3
          simp only [h4]
          simp only [Bool.not_false, if_true, Bool.not_true, Bool.false_eq_true, if_false]
          omega
        · intro j hj hjs
          rw [getD_set_ne true (by omega)]; exact htu j hj hjs
        · intro j oj hoj hlj e he hb
          rw [getD_set his] at hlj ⊢
          by_cases hji : j = i
          · subst hji
            rw [ho] at hoj; cases hoj
            rw [hpre e he hb]; split <;> rfl
          · rw [if_neg hji] at hlj
            rw [hcl j oj hoj hlj e he hb]; split <;> rfl
  have hcount : ((Array.replicate ops.size false).toList.take h).countP (fun b => !b) = h := by
    rw [Array.toList_replicate, List.take_replicate, List.countP_replicate]; simp; omega
  exact main h ops.size (Array.replicate ops.size false) a w (by omega) (by simp) hcount (fun i _ hi => by simp [hi]) (fun i o _ hx => by
    have := getD_lt hx
    simp only [Array.size_replicate] at this
    simp [this] at hx) h0
end
end Go.Proofs.Ytedkfghobihkjaa.Ab
