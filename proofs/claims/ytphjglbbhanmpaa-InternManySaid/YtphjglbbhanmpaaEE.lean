/- Single operations: what was reckoned holds (the whole). -/
import Derived.Test.YtphjglbbhanmpaaED
namespace Go.Proofs.Ytphjglbbhanmpaa.Ab
open Go Go.RowKit

section
variable {P : Program} {T : TT}
theorem aplaces_ok (hT : TTok P T) : ∀ (fields : List Field) (places : List (Nat × Nat)), aplaces T (fields.map fun f => (f.offset, f.type)) = some places → fields.mapM (fun f => (P.info? f.type).map fun i => (f.offset, i.size)) = some places
  | [], places, h => by cases h; rfl
  | f :: r, places, h => by
    simp only [List.map_cons, aplaces] at h
    split at h
    · rename_i i l hi hl
      obtain ⟨info, d, z, h1, h2, h3, h4, h5, _⟩ := hT _ i hi
      cases h
      simp [List.mapM_cons, h1, h5, aplaces_ok hT r l hl]
    · cases h
theorem zs_rel {U : Nat → Prop} {φ : Pl} {V : Nat → Prop} {w : World} (zs : List Value) : VRels U φ V w (zs.map .p) zs :=
  ⟨by simp, fun i x u hx hu => by rw [List.getElem?_map, hu] at hx; cases hx; exact .p _⟩
variable {q : Bool} {k0 : Nat} {H : AH}
theorem ok_val {o : Oper} {ρ : Operand → AV} (x : Operand) (hx : x ∈ o.op.operands) (hr : ∀ (ρc : Operand → Value) (w : World), (execOp ρc o).run P w = .ok (.value (ρc x)) w) : AO P q k0 o ρ H (fun r H' => r = ρ x ∧ H' = H) :=
  ao_keep fun _U _φ _V w ρc _hh ho => ⟨ρc x, hr ρc w, ho x hx⟩
/-- the table's zeros are cells -/
def TTz (T : TT) : Prop := ∀ t i, tget T t = some i → i.zs.length = i.size ∧ ∀ u ∈ i.zs, u.oneCell' = true
theorem ttz_of {T : TT} (h : T.all (fun x => decide (x.2.zs.length = x.2.size) && x.2.zs.all (·.oneCell')) = true) : TTz T := by
  intro t i hi
  induction T with
  | nil => cases hi
  | cons x r ih =>
    obtain ⟨k, j⟩ := x
    simp only [List.all_cons, Bool.and_eq_true] at h
    simp only [tget] at hi
    cases hk : Nat.beq k t with
    | true =>
      rw [hk] at hi; cases hi
      exact ⟨of_decide_eq_true h.1.1, List.all_eq_true.1 h.1.2⟩
    | false => rw [hk] at hi; exact ih (by simpa using h.2) hi

/-- a new block: what a box or a made row comes to -/
theorem ao_new {o : Oper} {ρ : Operand → AV} {v : AV} {b : Blk} (_hsz : 0 < b.sz)
    (h : ∀ U φ V w (ρc : Operand → Value), HRel U φ V w H → (∀ x ∈ o.op.operands, VRel U φ V w (ρ x) (ρc x)) → ∃ u cap, ∃ cur : Array Value, (execOp ρc o).run P w = .ok (.value u) (w.alloc (.cells cur b.ety)) ∧ cur.size = cap * b.sz ∧ b.n ≤ cap ∧ cap ≤ maxLen ∧
      (∀ i, i < b.n → (b.g i).length = b.sz) ∧ (∀ (i j : Nat) x, i < b.n → (b.g i)[j]? = some x → ∃ u, cur[i * b.sz + j]? = some u ∧ u.oneCell' = true ∧ VRel U φ V w x u) ∧
      ∀ φ' : Pl, φ' H.length = (w.heap.size, cap) → VRel (fun id => U id ∨ id = H.length) φ' V (w.alloc (.cells cur b.ety)) v u) :
    AO P q k0 o ρ H (fun r H' => r = v ∧ H' = H ++ [some b]) := by
  intro B U φ V w ρc _ g ho _
  obtain ⟨u, cap, cur, hr, h1, h2, h3, h4, h5, h6⟩ := h U φ V w ρc g.heap ho
  rw [hr]
  obtain ⟨φ', hn, hg, hs⟩ := new_step g cur b cap h1 h2 h3 h4 h5
  exact ⟨v, _, φ', V, _, ⟨rfl, rfl⟩, hg, h6 φ' hn, hs⟩

theorem keep_eq {v v' : AV} {c : Prop} {e : Option Blk} (h : keep v = some (c, v', e)) : v' = v ∧ e = none := by cases h; exact ⟨rfl, rfl⟩
theorem keepv_eq {v v' : AV} {c : Prop} {e : Option Blk} (h : keepv v = some (c, v', e)) : v' = v ∧ e = none := by
  unfold keepv at h; rw [fv_eq] at h; cases h; exact ⟨rfl, rfl⟩
abbrev Ends (v : AV) (e : Option Blk) (H : AH) : AV → AH → Prop := fun r H' => r = v ∧ H' = match e with | none => H | some b => H ++ [some b]
section
variable {o : Oper} {ρ : Operand → AV} {c : Prop} {v : AV} {e : Option Blk}
theorem ok_move (x : Operand) (ho : o.op = .move x ∨ o.op = .assign x) (h : keepv (ρ x) = some (c, v, e)) : AO P q k0 o ρ H (Ends v e H) := by
  obtain ⟨rfl, rfl⟩ := keepv_eq h
  refine ok_val x ?_ ?_
  · rcases ho with ho | ho <;> simp [ho, Op.operands]
  · intro ρc w
    rcases ho with ho | ho <;> simp [execOp, ho]
theorem ok_pick (x a b : Operand) (t : Bool) (ho : o.op = .pick x a b) (hx : ρ x = .p (.bool t)) (h : keepv (ρ (if t then a else b)) = some (c, v, e)) : AO P q k0 o ρ H (Ends v e H) := by
  obtain ⟨rfl, rfl⟩ := keepv_eq h
  refine ao_keep fun U φ V w ρc hh hr => ?_
  have h1 := hr x (by simp [ho, Op.operands])
  rw [hx] at h1
  have h1 := h1.inv_p
  refine ⟨ρc (if t then a else b), ?_, hr _ ?_⟩
  · cases t <;> simp [execOp, ho, h1, asBool]
  · cases t <;> simp [ho, Op.operands]
theorem ok_box (_hT : TTok P T) (t : TypeId) (x : Operand) (ho : o.op = .box t x) {i : TI} {cs : List AV} (_hi : tget T t = some i) (hc : acells (ρ x) = some cs) (hb : (Nat.beq i.size cs.length && !(Nat.beq i.size 0)) = true) :
    AO P q k0 o ρ H (Ends (.ref H.length i.size 0 0) (some ⟨t, i.size, 1, fun _ => cs⟩) H) := by
  simp only [Bool.and_eq_true, Nat.beq_eq, Bool.not_eq_true'] at hb
  have hs : 0 < i.size := by
    rcases Nat.eq_zero_or_pos i.size with h | h
    · rw [h] at hb; simp at hb
    · exact h
  refine ao_new hs fun U φ V w ρc hh hr => ?_
  obtain ⟨us, hu, hv, h1⟩ := acells_ok hc (hr x (by simp [ho, Op.operands]))
  have hl : us.length = i.size := hv.1.trans hb.1.symm
  refine ⟨.pointer (some ⟨w.heap.size, 0, none⟩), 1, us.toArray, ?_, by simp [hl], Nat.le_refl _, by simp [maxLen], fun j hj => hb.1.symm, fun j l y hj hy => ?_, fun φ' hn => ?_⟩
  · simp [execOp, ho, Instr.box, newVar, newRow, hu]
  · have : j = 0 := Nat.lt_one_iff.1 hj
    subst this
    obtain ⟨u, hu', hr'⟩ := hv.get hy
    exact ⟨u, by simpa using hu', h1 u (List.mem_of_getElem? hu'), hr'⟩
  · have := VRel.ref (U := fun id => U id ∨ id = H.length) (φ := φ') (V := V) (w := w.alloc (.cells us.toArray t)) H.length i.size 0 0 (.inr rfl)
    rw [hn] at this; simpa using this
theorem ok_alloc (hT : TTok P T) (hz : TTz T) (t : TypeId) (ho : o.op = .alloc t) {i : TI} (hi : tget T t = some i) (hb : Nat.beq i.size 0 = false) :
    AO P q k0 o ρ H (Ends (.ref H.length i.size 0 0) (some ⟨t, i.size, 1, fun _ => i.zs.map .p⟩) H) := by
  have hs : 0 < i.size := by
    rcases Nat.eq_zero_or_pos i.size with h | h
    · rw [h] at hb; simp at hb
    · exact h
  obtain ⟨info, d, z, h1, h2, h3, h4, h5, h6, h7⟩ := hT t i hi
  obtain ⟨hzl, hzc⟩ := hz t i hi
  refine ao_new hs fun U φ V w ρc hh hr => ⟨.pointer (some ⟨w.heap.size, 0, none⟩), 1, z.cells, ?_, ?_, Nat.le_refl _, by simp [maxLen], fun j hj => by simp [hzl], fun j l y hj hy => ?_, fun φ' hn => ?_⟩
  · simp [execOp, ho, Instr.alloc, newVar, newRow, zeroValue, typeInfo, h1, h3]
  · have := congrArg List.length h7; simp at this; rw [this, hzl]; simp
  · have : j = 0 := Nat.lt_one_iff.1 hj
    subst this
    rw [List.getElem?_map] at hy
    cases hu : i.zs[l]? with
    | none => rw [hu] at hy; cases hy
    | some u =>
      rw [hu] at hy; cases hy
      refine ⟨u, ?_, hzc u (List.mem_of_getElem? hu), .p _⟩
      rw [← h7] at hu; simpa using hu
  · have := VRel.ref (U := fun id => U id ∨ id = H.length) (φ := φ') (V := V) (w := w.alloc (.cells z.cells t)) H.length i.size 0 0 (.inr rfl)
    rw [hn] at this; simpa using this
theorem ok_build (t : TypeId) (parts : Array (Nat × Operand)) (ho : o.op = .build t parts) {cs : List AV} {z : List Value} {place : Nat → Option (Nat × Nat)} (hzc : ∀ u ∈ z, u.oneCell' = true)
    (hb : ∀ (l : List (Nat × Value)) us, Instr.fill place z.toArray l = some us → P.built t l = some us) (h : abuild place ρ (z.map .p) parts.toList = some cs) : AO P q k0 o ρ H (Ends (.agg cs) none H) := by
  refine ao_keep fun U φ V w ρc hh hr => ?_
  obtain ⟨us, h1, h2, h3⟩ := abuild_ok (ρc := ρc) parts.toList (z.map .p) cs z (zs_rel z) hzc (fun p hp => hr p.2 (by
    simp only [ho, Op.operands, List.mem_toArray, List.mem_map]
    exact ⟨p, hp, rfl⟩)) h
  refine ⟨.agg us.toArray, ?_, .agg _ _ h2.1 h3 h2.2⟩
  have h5 := hb _ _ h1
  simp [execOp, ho, run_build w t (parts.map fun p => (p.1, ρc p.2)) us.toArray (by simpa using h5)]
theorem ok_load (hT : TTok P T) (t : TypeId) (x : Operand) (ho : o.op = .load t x) {cs : List AV} (hx : ρ x = .fref cs) (h : (apart T t cs).bind keep = some (c, v, e)) : AO P q k0 o ρ H (Ends v e H) := by
  cases ha : apart T t cs with
  | none => rw [ha] at h; cases h
  | some v' =>
    rw [ha] at h
    obtain ⟨rfl, rfl⟩ := keep_eq h
    refine ao_keep fun U φ V w ρc hh hr => ?_
    have h1 := hr x (by simp [ho, Op.operands])
    rw [hx] at h1
    obtain ⟨b, off, cur, et, fz, hb, _, hc, hcell⟩ := h1.inv_fref
    unfold apart at ha
    cases hi : tget T t with
    | none => rw [hi] at ha; cases ha
    | some i =>
      rw [hi] at ha
      have hg := tt_agg hT hi w
      have hs := tt_size hT hi w
      obtain ⟨info, d, z, g1, g2, g3, g4, g5, _⟩ := hT t i hi
      have cellAt : ∀ (j : Nat) y, cs[j]? = some y → ∃ u, w.cell? ⟨b, off + j, none⟩ = some u ∧ u.oneCell' = true ∧ VRel U φ V w y u := fun j y hy => by
        obtain ⟨u, hu, h1, h2⟩ := hcell j y hy
        exact ⟨u, by simp [World.cell?, hc, hu], h1, h2⟩
      have aggc : (bif Nat.ble i.size cs.length then fl (cs.take i.size) fun l => some (AV.agg l) else none) = some v → d.isRow = true → ∃ u, (execOp ρc o).run P w = .ok (.value u) w ∧ VRel U φ V w v u := by
        intro ha hd
        cases hb' : Nat.ble i.size cs.length with
        | false => rw [hb'] at ha; cases ha
        | true =>
          rw [hb', cond_true, fl_eq] at ha; cases ha
          have hle := Nat.le_of_ble_eq_true hb'
          have hus : ∃ us : List Value, us.length = i.size ∧ ∀ j, j < i.size → ∃ u y, us[j]? = some u ∧ cs[j]? = some y ∧ w.cell? ⟨b, off + j, none⟩ = some u ∧ u.oneCell' = true ∧ VRel U φ V w y u := by
            refine ⟨(List.range i.size).map fun j => (w.cell? ⟨b, off + j, none⟩).getD undef, by simp, fun j hj => ?_⟩
            obtain ⟨u, hu, h1, h2⟩ := cellAt j cs[j] (List.getElem?_eq_getElem (by omega))
            exact ⟨u, cs[j], by simp [hj, hu], List.getElem?_eq_getElem (by omega), hu, h1, h2⟩
          obtain ⟨us, hul, hus⟩ := hus
          have hra : w.rangeAt b off us := fun j u hu => by
            have hj : j < us.length := (List.getElem?_eq_some_iff.1 hu).1
            obtain ⟨u', y, k1, k2, k3, _⟩ := hus j (by omega)
            rw [hu] at k1; cases k1; exact k3
          refine ⟨.agg us.toArray, ?_, .agg _ _ (by simp [hul]; omega) (fun u hu => ?_) (fun j y u hy hu => ?_)⟩
          · simp only [execOp, ho]
            simp [hb, run_loadAt_mid w b off t us d hra g2 hd (by simp [g1, g5, hul])]
          · obtain ⟨j, hj, rfl⟩ := List.mem_iff_getElem.1 hu
            obtain ⟨u', y, k1, k2, k3, k4, _⟩ := hus j (by omega)
            rw [List.getElem?_eq_getElem hj] at k1; cases k1; exact k4
          · have hj : j < us.length := (List.getElem?_eq_some_iff.1 hu).1
            obtain ⟨u', y', k1, k2, k3, k4, k5⟩ := hus j (by omega)
            rw [hu] at k1; cases k1
            rw [List.getElem?_take, if_pos (by omega), k2] at hy; cases hy
            exact k5
      have cellc : ahead cs = some v → (isAgg t).run P w = .ok false w → ∃ u, (execOp ρc o).run P w = .ok (.value u) w ∧ VRel U φ V w v u := by
        intro ha hg
        cases cs with
        | nil => cases ha
        | cons a r =>
          simp only [ahead, fv_eq] at ha; cases ha
          obtain ⟨u, hu, h1, h2⟩ := cellAt 0 v rfl
          refine ⟨u, ?_, h2⟩
          simp only [execOp, ho]
          simp only [Nat.add_zero] at hu
          simp [hb, Instr.loadAt, Instr.sureAddr, loadVar, hg, hu]
      obtain ⟨kd, sz, bt, zs⟩ := i
      cases kd
      case array => exact aggc ha (by cases d <;> simp [kindOf] at g4 <;> rfl)
      case struct => exact aggc ha (by cases d <;> simp [kindOf] at g4 <;> rfl)
      all_goals exact cellc ha hg
end
end
end Go.Proofs.Ytphjglbbhanmpaa.Ab
