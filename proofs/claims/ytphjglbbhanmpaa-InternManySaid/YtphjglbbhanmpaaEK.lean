/- A region that draws its order, on abstract values: the whole. -/
import Derived.Test.YtphjglbbhanmpaaEJ
namespace Go.Proofs.Ytphjglbbhanmpaa.Ab
open Go Go.RowKit

/-- what holds in the midst of the region -/
structure Mid (ops : Array Oper) (H : AH) (fs : List Fc) (n k0 B : Nat) (U0 : Nat → Prop) (φ0 : Pl) (V0 : Nat → Prop) (w0 : World) (a : Act) (L : Nat → Prop) (a' : Act) (w : World) (U : Nat → Prop) (φ : Pl) (V : Nat → Prop) : Prop where
  size : a'.tmps.size = n
  defers : a'.defers = []
  other : ∀ t, (∀ j, L j → (ops[j]?).bind (·.dst) ≠ some t) → a'.tmps[t]? = a.tmps[t]?
  heap : HRel U φ V w (mask (fun id => id < H.length ∨ ∃ j, L j ∧ H.length + (news (fs.take j)).length ≤ id ∧ id < H.length + (news (fs.take (j + 1))).length) (H ++ news fs))
  base : B ≤ w.heap.size
  own : ∀ id, k0 ≤ id → Live (mask (fun id => id < H.length ∨ ∃ j, L j ∧ H.length + (news (fs.take j)).length ≤ id ∧ id < H.length + (news (fs.take (j + 1))).length) (H ++ news fs)) id → B ≤ (φ id).1
  step : Step B U0 φ0 V0 w0 H U φ V w (mask (fun id => id < H.length ∨ ∃ j, L j ∧ H.length + (news (fs.take j)).length ≤ id ∧ id < H.length + (news (fs.take (j + 1))).length) (H ++ news fs))
  names : ∀ id, U id → id < H.length ∨ ∃ j, L j ∧ H.length + (news (fs.take j)).length ≤ id ∧ id < H.length + (news (fs.take (j + 1))).length
  facts : ∀ j f, L j → fs[j]? = some f → Bel (fun id => U id ∧ id < H.length + (news (fs.take (j + 1))).length) f.1 ∧ ∀ d, (ops[j]?).bind (·.dst) = some d → VRel U φ V w f.1 (a'.tmps.getD d undef)

theorem pos_lt (fs : List Fc) {i j : Nat} (h : i < j) : (news (fs.take (i + 1))).length ≤ (news (fs.take j)).length := news_mono fs h
theorem full_old {H N : AH} {id : Nat} (h : id < H.length) : (H ++ N)[id]? = H[id]? := List.getElem?_append_left h

section
variable {P : Program} {n k0 B : Nat} {ops : Array Oper} {H : AH} {fs : List Fc} {U0 : Nat → Prop} {φ0 : Pl} {V0 : Nat → Prop} {w0 : World} {a : Act} {F : AF}
set_option maxHeartbeats 2000000 in
theorem mid_step (r0 : Rel n k0 B U0 φ0 V0 w0 F H a) {i h : Nat} (hok : regOk ops h = true) (hb : backOk ops = true) {o : Oper} {f : Fc} (hih : i < h) (hfl : fs.length = h) (ho : ops[i]? = some o) (hf : fs[i]? = some f)
    (hF : F1 P n ops H o f (FR F (ops.toList.take i) (fs.take i)) (news (fs.take i))) {listed : Array Bool} (hls : listed.size = ops.size) {a' : Act} {w : World} {U : Nat → Prop} {φ : Pl} {V : Nat → Prop}
    (m : Mid ops H fs n k0 B U0 φ0 V0 w0 a (fun j => listed.getD j false = true) a' w U φ V) (hun : listed.getD i true = false) (hpre : ∀ e ∈ o.after, Region.binds .any e = true → listed.getD e.on false = true) (hhd : ∀ j, listed.getD j false = true → j < h)
    {QQ : Exit → Act → World → Prop} {K : Act → World → Prop} (hK : ∀ x y U φ V, Mid ops H fs n k0 B U0 φ0 V0 w0 a (fun j => (listed.setIfInBounds i true).getD j false = true) x y U φ V → K x y) : wpOp P ops QQ i K a' w := by
  have hok' := hok
  simp only [regOk, Bool.and_eq_true, decide_eq_true_eq] at hok
  obtain ⟨⟨hsel, hnd⟩, hall⟩ := hok
  have hio : i < ops.size := (Array.getElem?_eq_some_iff.1 ho).1
  have hil : i < listed.size := by rw [hls]; exact hio
  have hlook := List.all_eq_true.1 hall i (by simpa using hih)
  simp only [ho] at hlook
  have hback := back_of hb
  have huniq : ∀ (j k : Nat) x y d, j < h → k < h → ops[j]? = some x → ops[k]? = some y → x.dst = some d → y.dst = some d → j = k := fun j k x y d hjh hkh hj hk hx hy => nodup_filterMap (·.dst) (ops.toList.take h) hnd j k x y d (by rw [List.getElem?_take, if_pos hjh]; simpa using hj) (by rw [List.getElem?_take, if_pos hkh]; simpa using hk) hx hy
  have hunl : listed.getD i false = false := by rw [← getD_ff hil]; exact hun
  -- what is read
  have hUi : ∀ id, U0 id → U id ∧ id < H.length + (news (fs.take i)).length := fun id h => ⟨m.step.know id h, by have := r0.heap.ult id h; omega⟩
  have read : ∀ t, t ∈ o.looksAt ops → VRel (fun id => U id ∧ id < H.length + (news (fs.take i)).length) φ V w (aget (FR F (ops.toList.take i) (fs.take i)) t) (a'.tmps.getD t undef) := by
    intro t ht
    have h1 := List.all_eq_true.1 hlook t ht
    simp only [Bool.or_eq_true, Bool.not_eq_true', List.any_eq_true, beq_iff_eq] at h1
    by_cases hc : ∃ j ∈ dataPreds o, (ops[j]?).bind (·.dst) = some t
    · obtain ⟨j, hj, hjt⟩ := hc
      obtain ⟨e, he, rfl⟩ := List.mem_map.1 hj
      simp only [List.mem_filter, Bool.and_eq_true] at he
      have hea : e ∈ o.after := by simpa using he.1
      have hlj := hpre e hea he.2.1
      have hlt := hback i o ho e hea he.2.1
      cases hoj : ops[e.on]? with
      | none => rw [hoj] at hjt; cases hjt
      | some oj =>
        rw [hoj] at hjt
        have hjf : ∃ fj, fs[e.on]? = some fj := ⟨fs[e.on]'(by omega), List.getElem?_eq_getElem _⟩
        obtain ⟨fj, hfj⟩ := hjf
        rw [fr_at (ops.toList.take i) (fs.take i) F e.on oj fj (by rw [List.getElem?_take, if_pos hlt]; simpa using hoj) (by rw [List.getElem?_take, if_pos hlt]; exact hfj) hjt (fun k o' hk hd => by
          rw [List.getElem?_take] at hk
          split at hk
          · rename_i hki; exact huniq k e.on o' oj t (by omega) (by omega) (by simpa using hk) hoj hd hjt
          · cases hk)]
        obtain ⟨hbel, hv⟩ := m.facts e.on fj hlj hfj
        exact (hv t (by rw [hoj]; exact hjt)).down (hbel.up fun id hid => ⟨hid.1, by have := pos_lt fs hlt; omega⟩)
    · have hnc : ¬ ((ops.toList.take h).filterMap (·.dst)).contains t = true := by
        rcases h1 with h1 | h1
        · rw [h1]; simp
        · exact absurd h1 hc
      have hno : ∀ o' ∈ ops.toList.take h, o'.dst ≠ some t := fun o' ho' he => hnc (by
        have := List.mem_filterMap.2 ⟨o', ho', he⟩
        simpa using this)
      rw [fr_other _ _ F (fun o' ho' => hno o' (by rw [show ops.toList.take i = (ops.toList.take h).take i from by rw [List.take_take, Nat.min_eq_left (Nat.le_of_lt hih)]] at ho'; exact List.mem_of_mem_take ho'))]
      have e1 : a'.tmps.getD t undef = a.tmps.getD t undef := by
        rw [Array.getD_eq_getD_getElem?, Array.getD_eq_getD_getElem?, m.other t (fun j hLj he => by
          cases hoj : ops[j]? with
          | none => rw [hoj] at he; cases he
          | some oj => rw [hoj] at he; exact hno oj (List.mem_iff_getElem?.2 ⟨j, by rw [List.getElem?_take, if_pos (hhd j hLj)]; simpa using hoj⟩) he)]
      rw [e1]
      have h2 := r0.frame t
      exact (h2.step r0.heap m.step).down (h2.bel.up hUi)
  have readOp : ∀ x ∈ o.op.operands, VRel (fun id => U id ∧ id < H.length + (news (fs.take i)).length) φ V w (aev (FR F (ops.toList.take i) (fs.take i)) x) (a'.eval x) := by
    intro x hx
    cases x with
    | tmp t => exact read t (List.mem_append_left _ (List.mem_filterMap.2 ⟨.tmp t, by simpa using hx, rfl⟩))
    | const v => exact avConst_rel _ _ _ _ v
    | global g => exact .any _
    | func f => exact .fn (.func f) [] [] [] [] rfl rfl (fun i x u hx => by simp at hx) (fun i x u hx => by simp at hx)
  have fnew : ∀ (id : Nat), Live (H ++ news fs) id → H.length + (news (fs.take i)).length ≤ id → id < H.length + (news (fs.take (i + 1))).length → ∃ b, (H ++ news fs)[id]? = some (some b) ∧ f.2[id - (H.length + (news (fs.take i)).length)]? = some (some b) := by
    rintro id ⟨b, hb⟩ h1 h2
    refine ⟨b, hb, ?_⟩
    rw [news_take fs i f hf] at h2
    rw [List.getElem?_append_right (by omega), news_split fs (i + 1), news_take fs i f hf, List.getElem?_append_left (by omega), List.getElem?_append_right (by omega)] at hb
    rw [← hb]; congr 1; omega
  have hlen : H.length + (news (fs.take (i + 1))).length ≤ (H ++ news fs).length := by
    rw [List.length_append, news_split fs (i + 1), List.length_append]; omega
  -- the operation is done
  have hLi : ∀ j, (listed.setIfInBounds i true).getD j false = true ↔ j = i ∨ listed.getD j false = true := by
    intro j; rw [getD_set hil]; by_cases e : j = i <;> simp [e]
  obtain ⟨hd, hF⟩ := hF
  -- behind the operation, if it left memory alone and its value is not known
  have skip : f = (.p undef, []) → Mid ops H fs n k0 B U0 φ0 V0 w0 a (fun j => (listed.setIfInBounds i true).getD j false = true) (a'.put o.dst undef) w U φ V := by
    intro hf0
    have e0 : news (fs.take (i + 1)) = news (fs.take i) := by rw [news_take fs i f hf, hf0]; simp
    have hvis : ∀ id, (id < H.length ∨ ∃ j, (listed.setIfInBounds i true).getD j false = true ∧ H.length + (news (fs.take j)).length ≤ id ∧ id < H.length + (news (fs.take (j + 1))).length) ↔ (id < H.length ∨ ∃ j, listed.getD j false = true ∧ H.length + (news (fs.take j)).length ≤ id ∧ id < H.length + (news (fs.take (j + 1))).length) := by
      intro id
      constructor
      · rintro (h | ⟨j, h1, h2, h3⟩)
        · exact .inl h
        · rcases (hLi j).1 h1 with rfl | h1
          · rw [e0] at h3; omega
          · exact .inr ⟨j, h1, h2, h3⟩
      · rintro (h | ⟨j, h1, h2⟩)
        · exact .inl h
        · exact .inr ⟨j, (hLi j).2 (.inr h1), h2⟩
    have hm : mask (fun id => id < H.length ∨ ∃ j, (listed.setIfInBounds i true).getD j false = true ∧ H.length + (news (fs.take j)).length ≤ id ∧ id < H.length + (news (fs.take (j + 1))).length) (H ++ news fs) = mask (fun id => id < H.length ∨ ∃ j, listed.getD j false = true ∧ H.length + (news (fs.take j)).length ≤ id ∧ id < H.length + (news (fs.take (j + 1))).length) (H ++ news fs) := by
      congr 1; funext id; exact propext (hvis id)
    have hx : ∀ t, (∀ j, (listed.setIfInBounds i true).getD j false = true → (ops[j]?).bind (·.dst) ≠ some t) → (a'.put o.dst undef).tmps[t]? = a.tmps[t]? := by
      intro t ht
      rw [← m.other t (fun j hj => ht j ((hLi j).2 (.inr hj)))]
      have := ht i ((hLi i).2 (.inl rfl))
      rw [ho] at this
      cases hd : o.dst with
      | none => rfl
      | some d =>
        rw [show (some o).bind (·.dst) = o.dst from rfl, hd] at this
        simp [Act.put, Array.getElem?_setIfInBounds_ne (show d ≠ t from fun e => this (by rw [e]))]
    refine ⟨?_, ?_, hx, by rw [hm]; exact m.heap, m.base, by rw [hm]; exact m.own, by rw [hm]; exact m.step, fun id h => (hvis id).2 (m.names id h), fun j fj hj hfj => ?_⟩
    · cases o.dst <;> simp [Act.put, m.size]
    · cases o.dst <;> exact m.defers
    · rcases (hLi j).1 hj with rfl | hj
      · rw [hf] at hfj; cases hfj
        rw [hf0]
        refine ⟨.p _, fun d hd' => ?_⟩
        rw [ho] at hd'
        have e : (a'.put o.dst undef).tmps.getD d undef = undef := by
          rw [show o.dst = some d from hd', Array.getD_eq_getD_getElem?]
          simp only [Act.put, Array.getElem?_setIfInBounds]
          split <;> (try split) <;> simp_all
        rw [e]; exact .p _
      · obtain ⟨h1, h2⟩ := m.facts j fj hj hfj
        refine ⟨h1, fun d hjd => ?_⟩
        have hji : j ≠ i := fun e => by rw [e, hunl] at hj; cases hj
        cases hoj : ops[j]? with
        | none => rw [hoj] at hjd; cases hjd
        | some oj =>
          have e1 : (a'.put o.dst undef).tmps.getD d undef = a'.tmps.getD d undef := by
            cases hd : o.dst with
            | none => rfl
            | some d' =>
              have hne : d' ≠ d := fun e => hji (huniq j i oj o d (hhd j (by assumption)) hih hoj ho (by rw [hoj] at hjd; exact hjd) (by rw [hd, e]))
              simp [Act.put, Array.getD_eq_getD_getElem?, Array.getElem?_setIfInBounds_ne hne]
          rw [e1]; exact h2 d hjd
  have run : AO P true (H.length + (news (fs.take i)).length) o (aev (FR F (ops.toList.take i) (fs.take i))) (H ++ nones (news (fs.take i))) (fun r H' => r = f.1 ∧ H' = H ++ nones (news (fs.take i)) ++ f.2) → o.wp P a' w K QQ := by
    intro hao
    have hnl : (H ++ nones (news (fs.take i))).length = H.length + (news (fs.take i)).length := by simp [nones]
    have hpl : ∀ (id : Nat) b, (H ++ nones (news (fs.take i)))[id]? = some (some b) → id < H.length ∧ H[id]? = some (some b) := by
      intro id b hb
      rcases Nat.lt_or_ge id H.length with h | h
      · rw [full_old h] at hb; exact ⟨h, hb⟩
      · rw [List.getElem?_append_right h] at hb
        simp [nones] at hb
    have hmk : ∀ (id : Nat) b, H[id]? = some (some b) → (mask (fun id => id < H.length ∨ ∃ j, listed.getD j false = true ∧ H.length + (news (fs.take j)).length ≤ id ∧ id < H.length + (news (fs.take (j + 1))).length) (H ++ news fs))[id]? = some (some b) := by
      intro id b hb
      have hlt := (List.getElem?_eq_some_iff.1 hb).1
      exact (mask_get _ _ _ _).2 ⟨.inl hlt, by rw [full_old hlt]; exact hb⟩
    have hplive : ∀ id, Live (H ++ nones (news (fs.take i))) id → id < H.length ∧ Live H id ∧ Live (mask (fun id => id < H.length ∨ ∃ j, listed.getD j false = true ∧ H.length + (news (fs.take j)).length ≤ id ∧ id < H.length + (news (fs.take (j + 1))).length) (H ++ news fs)) id := by
      rintro id ⟨b, hb⟩
      obtain ⟨h1, h2⟩ := hpl id b hb
      exact ⟨h1, ⟨b, h2⟩, ⟨b, hmk id b h2⟩⟩
    have hbel : ∀ (id : Nat) b, H[id]? = some (some b) → ∀ (i' j : Nat) x, i' < b.n → (b.g i')[j]? = some x → Bel U0 x := by
      intro id b hb i' j x hi hx
      obtain ⟨cur, _, _, _, _, _, h5⟩ := r0.heap.blk id b hb
      obtain ⟨u, _, _, hv⟩ := h5 i' j x hi hx
      exact hv.bel
    have hg : Good (H.length + (news (fs.take i)).length) w.heap.size (fun id => U id ∧ id < H.length + (news (fs.take i)).length) φ V w (H ++ nones (news (fs.take i))) := by
      refine ⟨⟨fun id b hb => ?_, fun id id' h h' e => m.heap.inj id id' (hplive id h).2.2 (hplive id' h').2.2 e, fun id h => m.heap.apart id (hplive id h).2.2, m.heap.vlt, fun id h => by rw [hnl]; exact h.2, m.heap.tab⟩, Nat.le_refl _, fun id h1 h2 => by have := (hplive id h2).1; omega, by rw [hnl]; exact Nat.le_refl _⟩
      obtain ⟨h1, h2⟩ := hpl id b hb
      obtain ⟨cur, g1, g2, g3, g4, g5, g6⟩ := m.heap.blk id b (hmk id b h2)
      exact ⟨cur, g1, g2, g3, g4, g5, fun i' j x hi hx => by
        obtain ⟨u, k1, k2, k3⟩ := g6 i' j x hi hx
        exact ⟨u, k1, k2, k3.down ((hbel id b h2 i' j x hi hx).up hUi)⟩⟩
    have h := hao w.heap.size _ φ V w a'.eval (fun e => by cases e) hg readOp (fun f => rfl)
    unfold Oper.wp
    generalize (execOp a'.eval o).run P w = res at *
    have go : ∀ v w', Post (H.length + (news (fs.take i)).length) w.heap.size (fun id => U id ∧ id < H.length + (news (fs.take i)).length) φ V w (H ++ nones (news (fs.take i))) (fun r H' => r = f.1 ∧ H' = H ++ nones (news (fs.take i)) ++ f.2) v w' → K (a'.put o.dst v) w' := by
      rintro v w' ⟨r, U', φ', V', H', ⟨rfl, rfl⟩, g', hv, st⟩
      have hei : H.length + (news (fs.take (i + 1))).length = H.length + (news (fs.take i)).length + f.2.length := by rw [news_take fs i f hf]; simp; omega
      have hU' : ∀ id, U' id → id < H.length + (news (fs.take (i + 1))).length := fun id h => by
        have := g'.heap.ult id h
        rw [List.length_append, hnl] at this; omega
      have hnot : ∀ id, U id → ¬ (H.length + (news (fs.take i)).length ≤ id ∧ id < H.length + (news (fs.take (i + 1))).length) := by
        rintro id hid ⟨h1, h2⟩
        rcases m.names id hid with h | ⟨j, hj, h3, h4⟩
        · omega
        · have hji : j ≠ i := fun e => by rw [e, hunl] at hj; cases hj
          rcases Nat.lt_or_ge j i with hlt | hge
          · have := pos_lt fs hlt; omega
          · have := pos_lt fs (show i < j by omega); omega
      let φ2 : Pl := fun id => if id < H.length + (news (fs.take (i + 1))).length then φ' id else φ id
      have ag1 : ∀ id, id < H.length + (news (fs.take (i + 1))).length → φ2 id = φ' id := fun id h => if_pos h
      have ag2 : ∀ id, ¬ (H.length + (news (fs.take i)).length ≤ id ∧ id < H.length + (news (fs.take (i + 1))).length) → φ2 id = φ id := by
        intro id h
        rcases Nat.lt_or_ge id (H.length + (news (fs.take (i + 1))).length) with h1 | h1
        · rw [ag1 id h1]; exact st.name id (by rw [hnl]; omega)
        · exact if_neg (by omega)
      have nolive : ∀ b, (∀ id, Live (mask (fun id => id < H.length ∨ ∃ j, listed.getD j false = true ∧ H.length + (news (fs.take j)).length ≤ id ∧ id < H.length + (news (fs.take (j + 1))).length) (H ++ news fs)) id → id < H.length → (φ id).1 ≠ b) → b < w.heap.size → w'.heap[b]? = w.heap[b]? := fun b hb hlt => st.block b hlt fun id hl => hb id (hplive id hl).2.2 (hplive id hl).1
      have vkeep : ∀ b, V b → w'.heap[b]? = w.heap[b]? := fun b hb => nolive b (fun id hl _ e => m.heap.apart id hl (e ▸ hb)) (m.heap.vlt b hb)
      have upA : ∀ x u, VRel U φ V w x u → VRel (fun id => U id ∨ U' id) φ2 V' w' x u := fun x u h => h.up (fun id h => .inl h) (fun id h => ag2 id (hnot id h)) st.keep vkeep
      have upB : ∀ x u, VRel U' φ' V' w' x u → VRel (fun id => U id ∨ U' id) φ2 V' w' x u := fun x u h => h.up (fun id h => .inr h) (fun id h => ag1 id (hU' id h)) (fun _ h => h) (fun _ _ => rfl)
      -- the sorts of blocks that one sees now
      have sort : ∀ (id : Nat) b, (mask (fun id => id < H.length ∨ ∃ j, (listed.setIfInBounds i true).getD j false = true ∧ H.length + (news (fs.take j)).length ≤ id ∧ id < H.length + (news (fs.take (j + 1))).length) (H ++ news fs))[id]? = some (some b) →
          ((H ++ nones (news (fs.take i)) ++ f.2)[id]? = some (some b) ∧ φ2 id = φ' id ∧ (H.length ≤ id → H.length + (news (fs.take i)).length ≤ id)) ∨
          ((mask (fun id => id < H.length ∨ ∃ j, listed.getD j false = true ∧ H.length + (news (fs.take j)).length ≤ id ∧ id < H.length + (news (fs.take (j + 1))).length) (H ++ news fs))[id]? = some (some b) ∧ H.length ≤ id ∧ φ2 id = φ id) := by
        intro id b hb
        obtain ⟨hv, hfull⟩ := (mask_get _ _ _ _).1 hb
        rcases Nat.lt_or_ge id H.length with hlt | hge
        · refine .inl ⟨?_, ag1 id (by omega), fun h => by omega⟩
          rw [full_old hlt] at hfull
          rw [List.append_assoc, full_old hlt]; exact hfull
        · rcases hv with h | ⟨j, hj, h3, h4⟩
          · omega
          · rcases (hLi j).1 hj with rfl | hj
            · obtain ⟨b', hb1, hb2⟩ := fnew id ⟨b, hfull⟩ h3 h4
              rw [hfull] at hb1; cases hb1
              refine .inl ⟨?_, ag1 id h4, fun _ => h3⟩
              rw [List.getElem?_append_right (by rw [hnl]; exact h3), hnl]; exact hb2
            · refine .inr ⟨(mask_get _ _ _ _).2 ⟨.inr ⟨j, hj, h3, h4⟩, hfull⟩, hge, ag2 id fun h => ?_⟩
              have hji : j ≠ i := fun e => by rw [e, hunl] at hj; cases hj
              rcases Nat.lt_or_ge j i with hlt | hge
              · have := pos_lt fs hlt; omega
              · have := pos_lt fs (show i < j by omega); omega
      have oldblk : ∀ (id : Nat) b, (mask (fun id => id < H.length ∨ ∃ j, listed.getD j false = true ∧ H.length + (news (fs.take j)).length ≤ id ∧ id < H.length + (news (fs.take (j + 1))).length) (H ++ news fs))[id]? = some (some b) → H.length ≤ id → (φ id).1 < w.heap.size ∧ w'.heap[(φ id).1]? = w.heap[(φ id).1]? := by
        intro id b hb hge
        obtain ⟨cur, hc, _⟩ := m.heap.blk id b hb
        have hlt := (Array.getElem?_eq_some_iff.1 hc).1
        refine ⟨hlt, nolive _ (fun id2 hl2 h2 e => ?_) hlt⟩
        have := m.heap.inj id2 id hl2 ⟨b, hb⟩ e
        omega
      refine hK _ _ (fun id => U id ∨ U' id) φ2 V' ⟨?_, ?_, ?_, ⟨?_, ?_, ?_, g'.heap.vlt, ?_, g'.heap.tab⟩, ?_, ?_, ⟨?_, ?_, ?_, ?_, ?_, ?_, ?_, ?_, ?_, ?_, ?_, ?_, ?_⟩, ?_, ?_⟩
      · cases o.dst <;> simp [Act.put, m.size]
      · cases o.dst <;> exact m.defers
      · intro t ht
        rw [← m.other t (fun j hj => ht j ((hLi j).2 (.inr hj)))]
        have := ht i ((hLi i).2 (.inl rfl))
        rw [ho] at this
        cases hd : o.dst with
        | none => rfl
        | some d =>
          rw [show (some o).bind (·.dst) = o.dst from rfl, hd] at this
          simp [Act.put, Array.getElem?_setIfInBounds_ne (show d ≠ t from fun e => this (by rw [e]))]
      · intro id b hb
        rcases sort id b hb with ⟨h1, h2, _⟩ | ⟨h1, h2, h3⟩
        · rw [h2]; exact (g'.heap.blk id b h1).up rfl upB
        · rw [h3]; exact (m.heap.blk id b h1).up (oldblk id b h1 h2).2 upA
      · rintro id id' ⟨b, hb⟩ ⟨b', hb'⟩ e
        rcases sort id b hb with ⟨h1, h2, h9⟩ | ⟨h1, h2, h3⟩ <;> rcases sort id' b' hb' with ⟨h1', h2', h9'⟩ | ⟨h1', h2', h3'⟩
        · rw [h2, h2'] at e; exact g'.heap.inj id id' ⟨b, h1⟩ ⟨b', h1'⟩ e
        · rw [h2, h3'] at e
          rcases Nat.lt_or_ge id H.length with hlt | hge
          · rw [st.name id (by rw [hnl]; omega)] at e
            have hH : H[id]? = some (some b) := by rw [List.append_assoc, full_old hlt] at h1; exact h1
            exact m.heap.inj id id' ⟨b, hmk id b hH⟩ ⟨b', h1'⟩ e
          · have := g'.own id (h9 hge) ⟨b, h1⟩
            have := (oldblk id' b' h1' h2').1
            omega
        · rw [h3, h2'] at e
          rcases Nat.lt_or_ge id' H.length with hlt | hge
          · rw [st.name id' (by rw [hnl]; omega)] at e
            have hH : H[id']? = some (some b') := by rw [List.append_assoc, full_old hlt] at h1'; exact h1'
            exact m.heap.inj id id' ⟨b, h1⟩ ⟨b', hmk id' b' hH⟩ e
          · have := g'.own id' (h9' hge) ⟨b', h1'⟩
            have := (oldblk id b h1 h2).1
            omega
        · rw [h3, h3'] at e; exact m.heap.inj id id' ⟨b, h1⟩ ⟨b', h1'⟩ e
      · rintro id ⟨b, hb⟩ hV
        rcases sort id b hb with ⟨h1, h2, _⟩ | ⟨h1, h2, h3⟩
        · rw [h2] at hV; exact g'.heap.apart id ⟨b, h1⟩ hV
        · rw [h3] at hV; exact m.heap.apart id ⟨b, h1⟩ (st.old _ (oldblk id b h1 h2).1 hV)
      · intro id hid
        rw [mask_len]
        rcases hid with h | h
        · have := m.heap.ult id h; rw [mask_len] at this; exact this
        · exact Nat.lt_of_lt_of_le (hU' id h) hlen
      · exact Nat.le_trans m.base st.size
      · rintro id hk ⟨b, hb⟩
        rcases sort id b hb with ⟨h1, h2, h9⟩ | ⟨h1, h2, h3⟩
        · rcases Nat.lt_or_ge id H.length with hlt | hge
          · have hH : H[id]? = some (some b) := by rw [List.append_assoc, full_old hlt] at h1; exact h1
            rw [h2, st.name id (by rw [hnl]; omega)]
            exact m.own id hk ⟨b, hmk id b hH⟩
          · rw [h2]; exact Nat.le_trans m.base (g'.own id (h9 hge) ⟨b, h1⟩)
        · rw [h3]; exact m.own id hk ⟨b, h1⟩
      · exact st.os.trans m.step.os
      · exact st.tape.trans m.step.tape
      · exact st.output.trans m.step.output
      · exact Nat.le_trans m.step.size st.size
      · intro b hb hl
        refine (nolive b (fun id hli hlt e => ?_) (Nat.lt_of_lt_of_le hb m.step.size)).trans (m.step.block b hb hl)
        have hH : Live H id := by
          obtain ⟨_, hx⟩ := (mask_live _ _ _).1 hli
          obtain ⟨b', hb'⟩ := hx
          rw [full_old hlt] at hb'; exact ⟨b', hb'⟩
        exact hl id hH (by rw [← m.step.name id hlt]; exact e)
      · exact fun b h => st.keep b (m.step.keep b h)
      · exact fun b hb h => m.step.old b hb (st.old b (Nat.lt_of_lt_of_le hb m.base) h)
      · intro id hlt
        rw [ag1 id (by omega), st.name id (by rw [hnl]; omega)]
        exact m.step.name id hlt
      · rw [mask_len]; simp
      · exact fun id h => .inl (m.step.know id h)
      · rintro id (h | h)
        · exact m.step.unew id h
        · rcases st.unew id h with h | h
          · exact m.step.unew id h.1
          · rw [hnl] at h; exact .inr (by omega)
      · rintro id hlt ⟨b, hb⟩
        obtain ⟨_, hfull⟩ := (mask_get _ _ _ _).1 hb
        rw [full_old hlt] at hfull; exact ⟨b, hfull⟩
      · rintro id ⟨b, hb⟩
        rcases sort id b hb with ⟨h1, h2, h9⟩ | ⟨h1, h2, h3⟩
        · rcases Nat.lt_or_ge id H.length with hlt | hge
          · have hH : H[id]? = some (some b) := by rw [List.append_assoc, full_old hlt] at h1; exact h1
            exact .inl ⟨id, ⟨b, hH⟩, by rw [h2, st.name id (by rw [hnl]; omega), m.step.name id hlt]⟩
          · rw [h2]; exact .inr (Nat.le_trans m.step.size (g'.own id (h9 hge) ⟨b, h1⟩))
        · rw [h3]; exact m.step.live id ⟨b, h1⟩
      · rintro id (h | h)
        · rcases m.names id h with h | ⟨j, hj, h3⟩
          · exact .inl h
          · exact .inr ⟨j, (hLi j).2 (.inr hj), h3⟩
        · rcases st.unew id h with h' | h'
          · rcases m.names id h'.1 with h | ⟨j, hj, h3⟩
            · exact .inl h
            · exact .inr ⟨j, (hLi j).2 (.inr hj), h3⟩
          · rw [hnl] at h'; exact .inr ⟨i, (hLi i).2 (.inl rfl), h', hU' id h⟩
      · intro j fj hj hfj
        rcases (hLi j).1 hj with rfl | hj
        · rw [hf] at hfj; cases hfj
          refine ⟨hv.bel.up fun id h => ⟨.inr h, hU' id h⟩, fun d hjd => ?_⟩
          rw [ho] at hjd
          have hjd : o.dst = some d := hjd
          rw [hjd] at hd ⊢
          have : d < a'.tmps.size := by rw [m.size]; simpa [dok, Nat.blt_eq] using hd
          simp [Act.put, this]
          exact upB _ _ hv
        · obtain ⟨h1, h2⟩ := m.facts j fj hj hfj
          refine ⟨h1.up fun id h => ⟨.inl h.1, h.2⟩, fun d hjd => ?_⟩
          have hji : j ≠ i := fun e => by rw [e, hunl] at hj; cases hj
          cases hoj : ops[j]? with
          | none => rw [hoj] at hjd; cases hjd
          | some oj =>
            have e1 : (a'.put o.dst v).tmps.getD d undef = a'.tmps.getD d undef := by
              cases hd : o.dst with
              | none => rfl
              | some d' =>
                have hne : d' ≠ d := fun e => hji (huniq j i oj o d (hhd j (by assumption)) hih hoj ho (by rw [hoj] at hjd; exact hjd) (by rw [hd, e]))
                simp [Act.put, Array.getD_eq_getD_getElem?, Array.getElem?_setIfInBounds_ne hne]
            rw [e1]; exact upA _ _ (h2 d hjd)
    cases res with
    | ok nx y =>
      cases nx <;> simp only [Res] at h <;> simp only [Oper.upon]
      · exact go _ _ h
      · exact go _ _ h
      · exact h.mono fun e w' ⟨v, he, hp⟩ => by subst he; exact go _ _ hp
    | halt z y => exact h.elim
  unfold wpOp
  simp only [ho]
  cases hg : o.guard with
  | none =>
    rw [hg] at hF
    have hw : Region.wanted o (yielded ops a'.tmps) = true := by simp [Region.wanted, hg]
    rw [if_pos hw]
    exact .inl (run hF)
  | some gw =>
    obtain ⟨g, want⟩ := gw
    rw [hg] at hF
    obtain ⟨t, hgs, hF⟩ := hF
    have h1 := read t (List.mem_append_right _ (by simp only [hg]; unfold gslot at hgs; simp [hgs]))
    rcases hF with ⟨hgb, hF⟩ | ⟨hgb, hF⟩
    · rw [hgb] at h1
      have hw : Region.wanted o (yielded ops a'.tmps) = true := by simp [Region.wanted, hg, yields hgs h1.inv_p]
      rw [if_pos hw]
      exact .inl (run hF)
    · have hw : ¬ Region.wanted o (yielded ops a'.tmps) = true := by
        rcases hgb with hgb | ⟨vs, hgb⟩ <;> rw [hgb] at h1
        · simp [Region.wanted, hg, yields hgs h1.inv_p]
        · simp [Region.wanted, hg, yields_no hgs h1.inv_p]
      rw [if_neg hw]
      exact hK _ _ U φ V (skip hF)
end
end Go.Proofs.Ytphjglbbhanmpaa.Ab
