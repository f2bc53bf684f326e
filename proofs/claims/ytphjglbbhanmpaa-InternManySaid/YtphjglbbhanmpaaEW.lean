/- Where two ways of a test meet again; slices' sizes. -/
import Derived.Test.YtphjglbbhanmpaaET
import Derived.SizedLaws
namespace Go.Proofs.Ytphjglbbhanmpaa.Ab
open Go Go.ChangeShapes Go.WideShapes Go.ChangeAt Go.RowKit
section
variable {P : Program} {q : Bool} {n k0 : Nat} {Q : AQ} {F : AF} {H : AH} {c y : Code}
theorem aw_mono {Q' : AQ} (h : AW P q n k0 c Q' F H) (k : ∀ x F H, Q' x F H → Q x F H) : AW P q n k0 c Q F H := by
  intro B U φ V w a hb r
  refine wp_mono (h B U φ V w a hb r) fun e a' w' hl => ?_
  obtain ⟨x, F', H', U', φ', V', h1, h2, h3, h4⟩ := hl
  exact ⟨x, F', H', U', φ', V', h1, k _ _ _ h2, h3, h4⟩
inductive LeF : AF → AF → Prop
  | nil : LeF [] []
  | cons {t : Nat} {a b : AV} {F F' : AF} : Le a b → LeF F F' → LeF ((t, a) :: F) ((t, b) :: F')
theorem LeF.refl : ∀ F : AF, LeF F F
  | [] => .nil
  | (_, a) :: F => .cons (.refl a) (LeF.refl F)
theorem LeF.get {F F' : AF} (h : LeF F F') (t : Nat) : Le (aget F t) (aget F' t) := by
  induction h with
  | nil => exact .refl _
  | cons h1 _ ih =>
    rw [aget_cons, aget_cons]
    split
    · exact h1
    · exact ih
/-- what comes behind is walked once -/
theorem aw_mid {α : Type} (slots : List Nat) (St : α → AF) (Inv : α → AH → Prop) (h : AW P q n k0 c (AX.then (fun F' H' => ∃ a F1, rstf F' slots = some F1 ∧ LeF F1 (St a) ∧ Inv a H') Q) F H)
    (k : ∀ a H', Inv a H' → AW P q n k0 y Q (St a) H') : AW P q n k0 c (AX.then (AW P q n k0 y Q) Q) F H :=
  aw_mono h fun x F H hq => by
    cases x
    · obtain ⟨a, F1, hF, hl, hI⟩ := hq
      exact aw_rst slots hF (aw_le hl.get (k a H hI))
    · exact hq
    · exact hq
end
theorem Acc.low {k k0 : Nat} {H : AH} {v : AV} {e sz n : Nat} {g : Nat → List AV} (h : Acc k H v e sz n g) (hk : k0 ≤ k) : Acc k0 H v e sz n g := by
  rcases h with h | ⟨id, b, h1, h2⟩
  · exact .inl h
  · exact .inr ⟨id, b, Nat.le_trans hk h1, h2⟩
/-- what has grown is still as young -/
theorem Acc.up {k k0 : Nat} {H H' : AH} {v r : AV} {e e' sz sz' n n' : Nat} {g g' : Nat → List AV} (h : Acc k H v e sz n g) (h' : Acc k0 H' r e' sz' n' g') (hk : k ≤ H.length) (ho : accId r = accId v ∨ ∃ id, accId r = some id ∧ H.length ≤ id) : Acc k H' r e' sz' n' g' := by
  rcases h' with h' | ⟨id, b, h1, rfl, h3⟩
  · exact .inl h'
  · refine .inr ⟨id, b, ?_, rfl, h3⟩
    rcases ho with ho | ⟨id', ho, hl⟩
    · rcases h with ⟨_, rfl⟩ | ⟨id2, b2, h4, rfl, _⟩
      · cases ho
      · cases ho; exact h4
    · cases ho; omega
section
variable {P : Program} {q : Bool} {n k0 : Nat} {Q : AQ} {F : AF} {H : AH} {c : Code}
/-- a block, told in other words -/
theorem aw_norm (id : Nat) {b : Blk} (b' : Blk) (hb : H[id]? = some (some b)) (he : b'.ety = b.ety) (hs : b'.sz = b.sz) (hn : b'.n = b.n) (hg : ∀ i, i < b.n → b.g i = b'.g i)
    (h : ∀ H', H'[id]? = some (some b') → Oth H H' (some id) → H'.length = H.length → AW P q n k0 c Q F H') : AW P q n k0 c Q F H := by
  intro B U φ V w a hq r
  obtain ⟨g', s⟩ := set_step (b' := b') r.good hb (w' := w) rfl rfl rfl rfl (fun _ _ => rfl) (fun _ => by
    obtain ⟨cur, k1, k2, k3, k4, k5, k6⟩ := r.heap.blk id b hb
    exact ⟨cur, by rw [he]; exact k1, by rw [hs]; exact k2, by rw [hn]; exact k3, k4, fun i hi => by rw [← hg i (by omega), hs]; exact k5 i (by omega), fun i j x hi hx => by rw [hs]; exact k6 i j x (by omega) (by rw [hg i (by omega)]; exact hx)⟩)
  exact wp_mono (h (H.set id (some b')) (by rw [List.getElem?_set]; simp [(List.getElem?_eq_some_iff.1 hb).1]) ⟨by simp, fun j hj hne => by rw [List.getElem?_set, if_neg (fun e => hne (by rw [e]))]⟩ (by simp) B U φ V w a hq ⟨r.size, r.defers, fun t' => (r.frame t').step r.heap s, g'.heap, g'.base, g'.own, g'.ownk⟩) fun _ _ _ hl => hl.trans s
end
/-- a block at a call's end, told in other words -/
theorem sc_norm {q : Bool} {P : Program} {f : FuncId} {args : List AV} {H : AH} {Q : AV → AH → Prop} (id : Nat) (b' : Blk)
    (h : SC q P f args H (fun r H' => Q r (H'.set id (some b')) ∧ ∃ b, H'[id]? = some (some b) ∧ b'.ety = b.ety ∧ b'.sz = b.sz ∧ b'.n = b.n ∧ ∀ i, i < b.n → b.g i = b'.g i)) : SC q P f args H Q := by
  refine ⟨h.1, fun U φ V w ca hh ha => (h.2 U φ V w ca hh ha).mono ?_⟩
  rintro ee w' ⟨v, he, r, U', φ', V', H', ⟨hq, b, hb, h1, h2, h3, h4⟩, gd, hv, st⟩
  obtain ⟨g', s⟩ := set_step (b' := b') gd hb (w' := w') rfl rfl rfl rfl (fun _ _ => rfl) (fun _ => by
    obtain ⟨cur, k1, k2, k3, k4, k5, k6⟩ := gd.heap.blk id b hb
    exact ⟨cur, by rw [h1]; exact k1, by rw [h2]; exact k2, by rw [h3]; exact k3, k4, fun i hi => by rw [← h4 i (by omega), h2]; exact k5 i (by omega), fun i j x hi hx => by rw [h2]; exact k6 i j x (by omega) (by rw [h4 i (by omega)]; exact hx)⟩)
  exact ⟨v, he, r, _, _, _, _, hq, g', hv.step gd.heap s, st.trans s⟩
section
variable {P : Program} {T : TT} {q : Bool} {k0 : Nat} {H : AH} {o : Oper} {ρ : Operand → AV}
/-- a list written out, as a block of one's own -/
theorem ao_litb (hT : TTok P T) (hz : TTz T) (t : TypeId) (len : Nat) (parts : Array (Nat × Operand)) (ho : o.op = .buildSlice t len parts) {ti ei : TI} {e : TypeId} (hti : tget T t = some ti) (hk : ti.kind = .slice e) (hei : tget T e = some ei) (hs : 0 < ei.size) {cs : List AV}
    (hcs : abuild (fun i => some (i * ei.size, ei.size)) ρ ((List.replicate len (ei.zs.map AV.p)).flatten) parts.toList = some cs) (hlen : len * ei.size ≤ 16777216) : AO P q k0 o ρ H (fun r H' => r = .arr H.length ei.size 0 len ∧ H' = H ++ [some ⟨e, ei.size, len, fun i => (cs.drop (i * ei.size)).take ei.size⟩]) := by
  refine ao_new hs fun U φ V w ρc hh hr => ?_
  obtain ⟨info, d, z, g1, g2, g3, g4, g5, g6, g7⟩ := hT e ei hei
  obtain ⟨hzl, hzc⟩ := hz e ei hei
  have hzs : z.cells.size = ei.size := by have := congrArg List.length g7; simp at this; rw [this, hzl]
  have zrel : VRels U φ V w ((List.replicate len (ei.zs.map AV.p)).flatten) ((List.replicate len ei.zs).flatten) := by
    have : (List.replicate len (ei.zs.map AV.p)).flatten = ((List.replicate len ei.zs).flatten).map AV.p := by simp [List.map_flatten]
    rw [this]; exact zs_rel _
  obtain ⟨us, h1, h2, h3⟩ := abuild_ok (ρc := ρc) parts.toList _ cs _ zrel (fun u hu => by
    obtain ⟨l, hl, hu⟩ := List.mem_flatten.1 hu
    rw [List.eq_of_mem_replicate hl] at hu; exact hzc u hu) (fun p hp => hr p.2 (by
    simp only [ho, Op.operands, List.mem_toArray, List.mem_map]; exact ⟨p, hp, rfl⟩)) hcs
  have hlenu : us.length = len * ei.size := by
    have e1 := h2.1
    have e2 : ∀ (ps : List (Nat × Operand)) (cs cs' : List AV), abuild (fun i => some (i * ei.size, ei.size)) ρ cs ps = some cs' → cs'.length = cs.length := by
      intro ps
      induction ps with
      | nil => intro cs cs' h; cases h; rfl
      | cons p ps ih =>
        obtain ⟨i, x⟩ := p
        intro cs cs' h
        simp only [abuild] at h
        split at h
        · rename_i off sz new _ _
          cases hb : Nat.beq new.length sz && Nat.ble (off + new.length) cs.length with
          | false => rw [hb] at h; cases h
          | true => rw [hb, cond_true, fl_eq] at h; rw [ih _ _ h, afill_len]
        · cases h
    rw [e1, e2 _ _ _ hcs]; simp [hzl]
  have hzero : ∀ n : Nat, (Array.range (n * ei.size)).map (z.cells[· % z.cells.size]!) = ((List.replicate n ei.zs).flatten).toArray := by
    intro n
    apply Array.ext_getElem?
    intro k
    rw [hzs]
    by_cases hk : k < n * ei.size
    · have hm : k % ei.size < ei.size := Nat.mod_lt _ hs
      have hgz : z.cells[k % ei.size]? = some (z.cells[k % ei.size]'(by omega)) := Array.getElem?_eq_getElem _
      have hfl : ∀ (n k : Nat), k < n * ei.size → ((List.replicate n ei.zs).flatten)[k]? = ei.zs[k % ei.size]? := by
        intro n
        induction n with
        | zero => intro k hk; omega
        | succ n ih =>
          intro k hk
          rw [List.replicate_succ, List.flatten_cons]
          rcases Nat.lt_or_ge k ei.size with h | h
          · rw [List.getElem?_append_left (by omega), Nat.mod_eq_of_lt h]
          · rw [List.getElem?_append_right (by omega), hzl, ih _ (by rw [Nat.add_mul] at hk; omega), Nat.mod_eq_sub_mod h]
      simp only [List.getElem?_toArray, hfl n k hk, Array.getElem?_map, Array.getElem?_range, hk, if_true, Option.map_some]
      rw [← g7]; simp [getElem!_def, hgz]
    · have h' : ((List.replicate n ei.zs).flatten).length = n * ei.size := by simp [hzl]
      rw [Array.getElem?_eq_none (by simp; omega), Array.getElem?_eq_none (by simp [hzl]; omega)]
  have hrun : (execOp ρc o).run P w = .ok (.value (.slice (some ⟨w.heap.size, 0, none⟩) len len)) (w.alloc (.cells us.toArray e)) := by
    have hu := tt_slice hT hti hk
    have hsz := tt_size hT hei w
    have hsz2 := tt_size hT hei
    have hbig : ¬ len * ei.size > 2 ^ 24 := by omega
    have hbig' : ¬ (16777216 < len * ei.size) := by omega
    have hfill := h1
    rw [← hzero len] at hfill
    have hfill' : Instr.fill (fun i => some (i * ei.size, ei.size)) ((Array.range (len * ei.size)).map (z.cells[· % z.cells.size]!)) (parts.toList.map fun p => (p.1, ρc p.2)) = some us.toArray := hfill
    by_cases h0 : len * ei.size = 0
    · have h00 : len = 0 := by
        rcases Nat.eq_zero_or_pos len with h | h
        · exact h
        · have := Nat.mul_pos h hs; omega
      subst h00
      simp only [Nat.zero_mul] at hfill' 
      have e0 : (Array.range 0).map (z.cells[· % z.cells.size]!) = #[] := by simp
      rw [e0] at hfill'
      have e1 : Array.map (fun _ : Nat => (default : Value)) (Array.range 0) = #[] := by simp
      simp [execOp, ho, Instr.buildSlice, run_underlying hu, hsz, newRow, e1, hfill']
    · simp [execOp, ho, Instr.buildSlice, run_underlying hu, hsz, hbig', h0, zeroValue, typeInfo, g1, g3, newRow, hfill']
  have hcl : cs.length = len * ei.size := by rw [← h2.1, hlenu]
  have hin : ∀ i, i < len → i * ei.size + ei.size ≤ len * ei.size := fun i hi => by
    have : (i + 1) * ei.size ≤ len * ei.size := Nat.mul_le_mul_right _ hi
    rw [Nat.add_mul] at this; omega
  have hmax : len ≤ maxLen := by
    have : len * 1 ≤ len * ei.size := Nat.mul_le_mul_left _ hs
    simp only [maxLen]; omega
  refine ⟨_, len, us.toArray, hrun, by simpa using hlenu, Nat.le_refl _, hmax, fun i hi => by have := hin i hi; simp; omega, fun i j y hi hy => ?_, fun φ' hn => ?_⟩
  · have hy : ((cs.drop (i * ei.size)).take ei.size)[j]? = some y := hy
    rw [List.getElem?_take] at hy
    split at hy
    · rw [List.getElem?_drop] at hy
      obtain ⟨u, k1, k2⟩ := h2.get hy
      exact ⟨u, by simpa using k1, h3 u (List.mem_of_getElem? k1), k2⟩
    · cases hy
  · have := VRel.arr (U := fun id => U id ∨ id = H.length) (φ := φ') (V := V) (w := w.alloc (.cells us.toArray e)) H.length ei.size 0 len 0 (.inr rfl) (by rw [hn]; simp) (.inl (by simp))
    rw [hn] at this; simpa using this
end
section
variable {P : Program} {T : TT} {q : Bool} {n k0 : Nat} {ops : Array Oper} {os : List Oper} {K : AF → AH → Prop} {F : AF} {H : AH} {d : Nat} {ty : TypeId} {pos : String} {after : Array Edge} {gd : Option (Nat × Bool)}
theorem sq_litb (hT : TTok P T) (hz : TTz T) {t len : Nat} {parts : Array (Nat × Operand)} {ti ei : TI} {e : TypeId} {cs : List AV} (hg : gst ops F gd = some true) (hd : dok n (some d) = true) (hti : tget T t = some ti) (hk : ti.kind = .slice e) (hei : tget T e = some ei) (hs : Nat.blt 0 ei.size = true)
    (hcs : abuild (fun i => some (i * ei.size, ei.size)) (aev F) ((List.replicate len (ei.zs.map AV.p)).flatten) parts.toList = some cs) (hlen : Nat.ble (len * ei.size) 16777216 = true)
    (h : ∀ H', H'[H.length]? = some (some ⟨e, ei.size, len, fun i => (cs.drop (i * ei.size)).take ei.size⟩) → Oth H H' none → H'.length = H.length + 1 → SQ P q n k0 ops os K ((d, .arr H.length ei.size 0 len) :: F) H') :
    SQ P q n k0 ops (⟨some d, .buildSlice t len parts, ty, pos, after, gd⟩ :: os) K F H :=
  sq_ao hg rfl hd (AO.mono (ao_litb hT hz t len parts rfl hti hk hei (by simpa [Nat.blt_eq] using hs) hcs (Nat.le_of_ble_eq_true hlen)) fun r H' e => by rw [e.1, e.2]; exact h _ (by simp) (oth_app _ _) (by simp))
end
end Go.Proofs.Ytphjglbbhanmpaa.Ab
