/- More operations: lists written out, a list made anew that may change, a list held against nil; memory by what is known of it. -/
import Derived.Test.YtphjglbbhanmpaaEP
import Derived.WalkSpells
namespace Go.Proofs.Ytphjglbbhanmpaa.Ab
open Go Go.RowKit

theorem Oth.get {H H' : AH} {x : Option Nat} (h : Oth H H' x) {id : Nat} {b : Option Blk} (hb : H[id]? = some b) (hx : some id ≠ x) : H'[id]? = some b := by
  rw [h.2 id (List.getElem?_eq_some_iff.1 hb).1 hx]; exact hb
theorem Oth.get0 {H H' : AH} (h : Oth H H' none) {id : Nat} {b : Option Blk} (hb : H[id]? = some b) : H'[id]? = some b := h.get hb (by simp)
theorem Oth.ext {H H' : AH} (h : Oth H H' none) : Ext H H' := ⟨h.1, fun _ _ hb => h.get0 hb⟩
theorem oth_app (H : AH) (b : Option Blk) : Oth H (H ++ [b]) none := ⟨by simp, fun j hj _ => by rw [List.getElem?_append_left hj]⟩
theorem oth_set (H : AH) (id : Nat) (b : Option Blk) : Oth H (H.set id b) (some id) := ⟨by simp, fun j _ hne => by rw [List.getElem?_set, if_neg (fun e => hne (by rw [e]))]⟩

section ops
variable {P : Program} {T : TT} {q : Bool} {k0 : Nat} {H : AH} {o : Oper} {ρ : Operand → AV}
/-- a list written out -/
theorem ao_lit (hT : TTok P T) (hz : TTz T) (t : TypeId) (len : Nat) (parts : Array (Nat × Operand)) (ho : o.op = .buildSlice t len parts) {ti ei : TI} {e : TypeId} (hti : tget T t = some ti) (hk : ti.kind = .slice e) (hei : tget T e = some ei) (hs : 0 < ei.size) {cs : List AV}
    (hcs : abuild (fun i => some (i * ei.size, ei.size)) ρ ((List.replicate len (ei.zs.map AV.p)).flatten) parts.toList = some cs) (hlen : len * ei.size ≤ 16777216) : AO P q k0 o ρ H (fun r H' => r = .lst true ei.size len (fun i => (cs.drop (i * ei.size)).take ei.size) ∧ H' = H) := by
  intro B U φ V w ρc hq gd hr hf
  obtain ⟨info, d, z, g1, g2, g3, g4, g5, g6, g7⟩ := hT e ei hei
  obtain ⟨hzl, hzc⟩ := hz e ei hei
  have hzs : z.cells.size = ei.size := by have := congrArg List.length g7; simp at this; rw [this, hzl]
  have zrel : VRels U φ V w ((List.replicate len (ei.zs.map AV.p)).flatten) ((List.replicate len ei.zs).flatten) := by
    have : (List.replicate len (ei.zs.map AV.p)).flatten = ((List.replicate len ei.zs).flatten).map AV.p := by simp [List.map_flatten]
    rw [this]; exact zs_rel _
  obtain ⟨us, h1, h2, h3⟩ := abuild_ok (ρc := ρc) parts.toList _ cs _ zrel (fun u hu => by
    obtain ⟨l, hl, hu⟩ := List.mem_flatten.1 hu
    rw [List.eq_of_mem_replicate hl] at hu; exact hzc u hu) (fun p hp => hr p.2 (by
    simp only [ho, Op.operands, List.mem_toArray, List.mem_map]; exact ⟨p, hp, rfl⟩)) hcs
  have hlenu : us.length = len * ei.size := by
    have e1 := h2.1
    have e2 : ∀ (ps : List (Nat × Operand)) (cs cs' : List AV), abuild (fun i => some (i * ei.size, ei.size)) ρ cs ps = some cs' → cs'.length = cs.length := by
      intro ps
      induction ps with
      | nil => intro cs cs' h; cases h; rfl
      | cons p ps ih =>
        obtain ⟨i, x⟩ := p
        intro cs cs' h
        simp only [abuild] at h
        split at h
        · rename_i off sz new _ _
          cases hb : Nat.beq new.length sz && Nat.ble (off + new.length) cs.length with
          | false => rw [hb] at h; cases h
          | true => rw [hb, cond_true, fl_eq] at h; rw [ih _ _ h, afill_len]
        · cases h
    rw [e1, e2 _ _ _ hcs]; simp [hzl]
  have hzero : ∀ n : Nat, (Array.range (n * ei.size)).map (z.cells[· % z.cells.size]!) = ((List.replicate n ei.zs).flatten).toArray := by
    intro n
    apply Array.ext_getElem?
    intro k
    rw [hzs]
    by_cases hk : k < n * ei.size
    · have hm : k % ei.size < ei.size := Nat.mod_lt _ hs
      have hgz : z.cells[k % ei.size]? = some (z.cells[k % ei.size]'(by omega)) := Array.getElem?_eq_getElem _
      have hfl : ∀ (n k : Nat), k < n * ei.size → ((List.replicate n ei.zs).flatten)[k]? = ei.zs[k % ei.size]? := by
        intro n
        induction n with
        | zero => intro k hk; omega
        | succ n ih =>
          intro k hk
          rw [List.replicate_succ, List.flatten_cons]
          rcases Nat.lt_or_ge k ei.size with h | h
          · rw [List.getElem?_append_left (by omega), Nat.mod_eq_of_lt h]
          · rw [List.getElem?_append_right (by omega), hzl, ih _ (by rw [Nat.add_mul] at hk; omega), Nat.mod_eq_sub_mod h]
      simp only [List.getElem?_toArray, hfl n k hk, Array.getElem?_map, Array.getElem?_range, hk, if_true, Option.map_some]
      rw [← g7]; simp [getElem!_def, hgz]
    · have h' : ((List.replicate n ei.zs).flatten).length = n * ei.size := by simp [hzl]
      rw [Array.getElem?_eq_none (by simp; omega), Array.getElem?_eq_none (by simp [hzl]; omega)]
  have hrun : (execOp ρc o).run P w = .ok (.value (.slice (some ⟨w.heap.size, 0, none⟩) len len)) (w.alloc (.cells us.toArray e)) := by
    have hu := tt_slice hT hti hk
    have hsz := tt_size hT hei w
    have hsz2 := tt_size hT hei
    have hbig : ¬ len * ei.size > 2 ^ 24 := by omega
    have hbig' : ¬ (16777216 < len * ei.size) := by omega
    have hfill := h1
    rw [← hzero len] at hfill
    have hfill' : Instr.fill (fun i => some (i * ei.size, ei.size)) ((Array.range (len * ei.size)).map (z.cells[· % z.cells.size]!)) (parts.toList.map fun p => (p.1, ρc p.2)) = some us.toArray := hfill
    by_cases h0 : len * ei.size = 0
    · have h00 : len = 0 := by
        rcases Nat.eq_zero_or_pos len with h | h
        · exact h
        · have := Nat.mul_pos h hs; omega
      subst h00
      simp only [Nat.zero_mul] at hfill' 
      have e0 : (Array.range 0).map (z.cells[· % z.cells.size]!) = #[] := by simp
      rw [e0] at hfill'
      have e1 : Array.map (fun _ : Nat => (default : Value)) (Array.range 0) = #[] := by simp
      simp [execOp, ho, Instr.buildSlice, run_underlying hu, hsz, newRow, e1, hfill']
    · simp [execOp, ho, Instr.buildSlice, run_underlying hu, hsz, hbig', h0, zeroValue, typeInfo, g1, g3, newRow, hfill']
  rw [hrun]
  obtain ⟨g2', s2⟩ := alloc_step gd us.toArray e
  refine ⟨_, U, φ, _, H, ⟨rfl, rfl⟩, g2', ?_, s2⟩
  have hcl : cs.length = len * ei.size := by rw [← h2.1, hlenu]
  have hin : ∀ i, i < len → i * ei.size + ei.size ≤ len * ei.size := fun i hi => by
    have : (i + 1) * ei.size ≤ len * ei.size := Nat.mul_le_mul_right _ hi
    rw [Nat.add_mul] at this; omega
  have hmax : len ≤ maxLen := by
    have : len * 1 ≤ len * ei.size := Nat.mul_le_mul_left _ hs
    simp only [maxLen]; omega
  refine VRel.mk_lst (e := e) (fz := (0, 0)) (cur := us.toArray) (Nat.le_refl _) hmax (fun _ => rfl) (.inr rfl) (heap_alloc_new w _) (fun i hi => by have := hin i hi; simp; omega) fun i j y hi hy => ?_
  rw [List.getElem?_take] at hy
  split at hy
  · rename_i hj
    rw [List.getElem?_drop] at hy
    obtain ⟨u, k1, k2⟩ := h2.get hy
    exact ⟨u, by simpa using k1, h3 u (List.mem_of_getElem? k1), k2.step gd.heap s2⟩
  · cases hy
/-- a list is made anew out of another one; it may change -/
theorem ao_fresh (hT : TTok P T) (hz : TTz T) {x y : Operand} {t e : TypeId} {ei : TI} (hap : IsAppend T o x y t e ei) (hx : ρ x = .p (.slice none 0 0) ∨ ∃ sz g, ρ x = .lst true sz 0 g) {m : Nat} {g : Nat → List AV} (hy : Src H (ρ y) ei.size m g)
    (hm : m * ei.bytes ≤ 140737488355328) (hm2 : m ≤ 9223372036854775807) (h0 : 0 < m) : AO P q k0 o ρ H (fun r H' => r = .arr H.length ei.size 0 m ∧ H' = H ++ [some ⟨e, ei.size, m, g⟩]) := by
  intro B U φ V w ρc hq gd hr hf
  obtain ⟨info, z, ht, hi, hzz, hsz, hby, hzs⟩ := hap.types hT
  obtain ⟨ad, c, hv, hsrc⟩ := src_read gd.heap hy (hr y hap.mem.2)
  have hzl : z.cells.size = ei.size := by have := congrArg List.length hzs; simp at this; rw [this, (hz e ei hap.el).1]
  have hxv : ∃ a, ρc x = .slice a 0 0 := by
    have := hr x hap.mem.1
    rcases hx with hx | ⟨sz, g, hx⟩ <;> rw [hx] at this
    · exact ⟨none, this.inv_p⟩
    · obtain ⟨a, c, h1, _, _, h2, _⟩ := this.inv_lst
      rw [h2 rfl] at h1; exact ⟨a, h1⟩
  obtain ⟨a, hxv⟩ := hxv
  obtain ⟨x', rfl, hgl, vs, hvl, hvc, hv1, hvg⟩ := hsrc h0
  have hrun : (Builtin.append_ #[t, t] o.type #[ρc x, ρc y]).run P w = .ok (.slice (some ⟨w.heap.size, 0, none⟩) m (grownCap w m 0 e)) (w.drew.alloc (.cells (vs.toArray ++ Builtin.zeroCells z.cells (grownCap w m 0 e - m)) e)) := by
    rw [hxv, hv]
    cases a with
    | none =>
      exact run_append_nil (P := P) w t o.type e info z ht hi hzz x' m c vs (by rw [hvl, hsz]) hvc h0 (by omega) (by rw [hby]; omega)
    | some b =>
      have := run_append_grow (P := P) w t o.type e info z ht hi hzz b 0 0 [] (by simp) (by simp) x' m c vs (by rw [hvl, hsz]) hvc (by omega) (by omega) (growslice_fits (by omega) (by rw [hby, Nat.zero_add]; exact hm))
      simpa using this
  rw [hap.run hrun]
  obtain ⟨g1, s1⟩ := drew_step gd
  obtain ⟨φ2, hn2, g2, s2⟩ := new_step g1 (vs.toArray ++ Builtin.zeroCells z.cells (grownCap w m 0 e - m)) ⟨e, ei.size, m, g⟩ (grownCap w m 0 e) (by
    simp only [Array.size_append, List.size_toArray, size_zeroCells, hzl, hvl, ← Nat.add_mul]; congr 1; have := grownCap_ge w m 0 e; omega) (grownCap_ge w m 0 e) (grownCap_le_maxLen w m 0 e (by simp only [maxLen]; omega)) hgl (fun i j y hi hy => by
    obtain ⟨u, h1, h2⟩ := hvg i j y hi hy
    have hlt := (List.getElem?_eq_some_iff.1 h1).1
    exact ⟨u, by show (_ : Array Value)[i * ei.size + j]? = some u; rw [Array.getElem?_append_left (by simpa using hlt)]; simpa using h1, hv1 u (List.mem_of_getElem? h1), h2.step gd.heap s1⟩)
  refine ⟨_, _, φ2, V, _, ⟨rfl, rfl⟩, g2, ?_, s1.trans s2⟩
  have := VRel.arr (U := fun j => U j ∨ j = H.length) (φ := φ2) (V := V) (w := w.drew.alloc (.cells (vs.toArray ++ Builtin.zeroCells z.cells (grownCap w m 0 e - m)) e)) H.length ei.size 0 m 0 (.inr rfl) (by rw [hn2]; have := grownCap_ge w m 0 e; simpa using this) (.inl (by simp))
  rw [hn2] at this; simpa using this
/-- is a list nil? one that holds something is not -/
theorem ao_nileq (hT : TTok P T) (t yt : TypeId) (x : Operand) (ho : o.op = .binOp .eql t x (.const (.slice none 0 0)) yt) (hrc : ρ (.const (.slice none 0 0)) = .p (.slice none 0 0)) {ti : TI} {e : TypeId} (hti : tget T t = some ti) (hk : ti.kind = .slice e) {sz m : Nat} {g : Nat → List AV} (hx : Src H (ρ x) sz m g) {K : AV → AH → Prop}
    (h : ∀ b : Bool, (b = true → m = 0) → K (.p (.bool b)) H) : AO P q k0 o ρ H K := by
  intro B U φ V w ρc hq gd hr hf
  have h2 := hr (.const (.slice none 0 0)) (by simp [ho, Op.operands])
  rw [hrc] at h2
  have h2 := h2.inv_p
  obtain ⟨ad, c, hv, hsrc⟩ := src_read gd.heap hx (hr x (by simp [ho, Op.operands]))
  have hrun : (execOp ρc o).run P w = .ok (.value (.bool ad.isNone)) w := by
    have := Lib.run_eql_slice_nil (P := P) w t e ad m c 0 0 (tt_slice hT hti hk)
    simp only [execOp, ho, hv, h2]
    simp [eqGuard, this]
  rw [hrun]
  refine ⟨_, U, φ, V, H, h ad.isNone (fun e => ?_), gd, .p _, Step.refl ..⟩
  rcases Nat.eq_zero_or_pos m with h0 | h0
  · exact h0
  · obtain ⟨x', rfl, _⟩ := hsrc h0; cases e
end ops
section
variable {P : Program} {T : TT} {q : Bool} {n k0 : Nat} {ops : Array Oper} {os : List Oper} {K : AF → AH → Prop} {F : AF} {H N : AH} {d : Nat} {op : Op} {ty : TypeId} {pos : String} {after : Array Edge} {gd : Option (Nat × Bool)}
theorem sq_move {x : Operand} {v : AV} (hg : gst ops F gd = some true) (ha : fv (aev F x) some = some v) (hd : dok n (some d) = true) (h : SQ P q n k0 ops os K ((d, v) :: F) H) : SQ P q n k0 ops (⟨some d, .move x, ty, pos, after, gd⟩ :: os) K F H := by
  rw [fv_eq] at ha; cases ha
  exact sq_ao hg rfl hd (AO.mono (ok_val x (by simp [Op.operands]) (fun ρc w => by simp [execOp])) fun r H' e => by rw [e.1, e.2]; exact h)
theorem sq_assign {x : Operand} {v : AV} (hg : gst ops F gd = some true) (ha : fv (aev F x) some = some v) (hd : dok n (some d) = true) (h : SQ P q n k0 ops os K ((d, v) :: F) H) : SQ P q n k0 ops (⟨some d, .assign x, ty, pos, after, gd⟩ :: os) K F H := by
  rw [fv_eq] at ha; cases ha
  exact sq_ao hg rfl hd (AO.mono (ok_val x (by simp [Op.operands]) (fun ρc w => by simp [execOp])) fun r H' e => by rw [e.1, e.2]; exact h)
theorem rg_move {x : Operand} {v : AV} (hg : gst ops F gd = some true) (ha : fv (aev F x) some = some v) (hd : dok n (some d) = true) (h : RG P n ops H os K ((d, v) :: F) N) : RG P n ops H (⟨some d, .move x, ty, pos, after, gd⟩ :: os) K F N := by
  rw [fv_eq] at ha
  exact rg_ao (r := v) (D := []) hg rfl hd (AO.mono (ok_val x (by simp [Op.operands]) (fun ρc w => by simp [execOp])) fun r H' e => by rw [e.1, e.2]; exact ⟨Option.some.inj ha, by simp⟩) (by rw [List.append_nil]; exact h)
theorem rg_assign {x : Operand} {v : AV} (hg : gst ops F gd = some true) (ha : fv (aev F x) some = some v) (hd : dok n (some d) = true) (h : RG P n ops H os K ((d, v) :: F) N) : RG P n ops H (⟨some d, .assign x, ty, pos, after, gd⟩ :: os) K F N := by
  rw [fv_eq] at ha
  exact rg_ao (r := v) (D := []) hg rfl hd (AO.mono (ok_val x (by simp [Op.operands]) (fun ρc w => by simp [execOp])) fun r H' e => by rw [e.1, e.2]; exact ⟨Option.some.inj ha, by simp⟩) (by rw [List.append_nil]; exact h)
theorem sq_lit (hT : TTok P T) (hz : TTz T) {t len : Nat} {parts : Array (Nat × Operand)} {ti ei : TI} {e : TypeId} {cs : List AV} (hg : gst ops F gd = some true) (hd : dok n (some d) = true) (hti : tget T t = some ti) (hk : ti.kind = .slice e) (hei : tget T e = some ei) (hs : Nat.blt 0 ei.size = true)
    (hcs : abuild (fun i => some (i * ei.size, ei.size)) (aev F) ((List.replicate len (ei.zs.map AV.p)).flatten) parts.toList = some cs) (hlen : Nat.ble (len * ei.size) 16777216 = true) (h : SQ P q n k0 ops os K ((d, .lst true ei.size len (fun i => (cs.drop (i * ei.size)).take ei.size)) :: F) H) :
    SQ P q n k0 ops (⟨some d, .buildSlice t len parts, ty, pos, after, gd⟩ :: os) K F H :=
  sq_ao hg rfl hd (AO.mono (ao_lit hT hz t len parts rfl hti hk hei (by simpa [Nat.blt_eq] using hs) hcs (Nat.le_of_ble_eq_true hlen)) fun r H' e => by rw [e.1, e.2]; exact h)
theorem rg_lit (hT : TTok P T) (hz : TTz T) {t len : Nat} {parts : Array (Nat × Operand)} {ti ei : TI} {e : TypeId} {cs : List AV} (hg : gst ops F gd = some true) (hd : dok n (some d) = true) (hti : tget T t = some ti) (hk : ti.kind = .slice e) (hei : tget T e = some ei) (hs : Nat.blt 0 ei.size = true)
    (hcs : abuild (fun i => some (i * ei.size, ei.size)) (aev F) ((List.replicate len (ei.zs.map AV.p)).flatten) parts.toList = some cs) (hlen : Nat.ble (len * ei.size) 16777216 = true) (h : RG P n ops H os K ((d, .lst true ei.size len (fun i => (cs.drop (i * ei.size)).take ei.size)) :: F) N) :
    RG P n ops H (⟨some d, .buildSlice t len parts, ty, pos, after, gd⟩ :: os) K F N :=
  rg_ao (r := .lst true ei.size len (fun i => (cs.drop (i * ei.size)).take ei.size)) (D := []) hg rfl hd (AO.mono (ao_lit hT hz t len parts rfl hti hk hei (by simpa [Nat.blt_eq] using hs) hcs (Nat.le_of_ble_eq_true hlen)) fun r H' e => by rw [e.1, e.2]; exact ⟨rfl, by simp⟩) (by rw [List.append_nil]; exact h)
theorem sq_fresh (hT : TTok P T) (hz : TTz T) {x y : Operand} {t e : TypeId} {ts : TI} {ei : TI} (hg : gst ops F gd = some true) (hd : dok n (some d) = true) (hts : tget T t = some ts) (htk : ts.kind = .slice e) (hei : tget T e = some ei) (hp : 0 < ei.size) (hx : aev F x = .p (.slice none 0 0) ∨ ∃ sz g, aev F x = .lst true sz 0 g) {m : Nat} {g : Nat → List AV} (hy : Src H (aev F y) ei.size m g)
    (hm : m * ei.bytes ≤ 140737488355328) (hm2 : m ≤ 9223372036854775807) (h0 : 0 < m)
    (h : SQ P q n k0 ops os K ((d, .arr H.length ei.size 0 m) :: F) (H ++ [some ⟨e, ei.size, m, g⟩])) : SQ P q n k0 ops (⟨some d, .call ⟨.builtin .append, #[x, y], #[t, t]⟩, ty, pos, after, gd⟩ :: os) K F H :=
  sq_ao hg rfl hd (AO.mono (ao_fresh hT hz ⟨⟨_, rfl, rfl, rfl, rfl⟩, ⟨ts, hts, htk⟩, hei, hp⟩ hx hy hm hm2 h0) fun r H' e => by rw [e.1, e.2]; exact h)
theorem sq_nileq (hT : TTok P T) {t yt : TypeId} {x : Operand} {ti : TI} {e : TypeId} (hg : gst ops F gd = some true) (hd : dok n (some d) = true) (hti : tget T t = some ti) (hk : ti.kind = .slice e) {sz m : Nat} {g : Nat → List AV} (hx : Src H (aev F x) sz m g) (h : ∀ b : Bool, (b = true → m = 0) → SQ P q n k0 ops os K ((d, .p (.bool b)) :: F) H) :
    SQ P q n k0 ops (⟨some d, .binOp .eql t x (.const (.slice none 0 0)) yt, ty, pos, after, gd⟩ :: os) K F H :=
  sq_ao hg rfl hd (ao_nileq hT t yt x rfl rfl hti hk hx h)
theorem sq_slice (hT : TTok P T) {t : TypeId} {y : Operand} {lo hi : Option Operand} {ti : TI} {e es : Nat} {ek : TK} (hg : gst ops F gd = some true) (hd : dok n (some d) = true) (hti : tget T t = some ti) (hk : ti.kind = .slice e) (he : aslot T e = some (ek, es)) {m : Nat} {l h : Int} {tg : Bool} {g : Nat → List AV} (hy : aev F y = .lst tg es m g)
    (hl : bnd (aev F) 0 lo l) (hh : bnd (aev F) m hi h) (hb : 0 ≤ l ∧ l ≤ h ∧ h ≤ m) (hk' : SQ P q n k0 ops os K ((d, .lst false es (h.toNat - l.toNat) (fun i => g (l.toNat + i))) :: F) H) :
    SQ P q n k0 ops (⟨some d, .slice t y lo hi none, ty, pos, after, gd⟩ :: os) K F H :=
  sq_ao hg rfl hd (AO.mono (ao_slice hT t y lo hi rfl hti hk he hl hh hb.1 hb.2.1 hb.2.2 (.inl ⟨tg, g, hy, rfl⟩)) fun r H' e => by rw [e.1, e.2]; exact hk')
/-- a new block, by what is known of memory -/
theorem sq_newk (hT : TTok P T) (hz : TTz T) (ov : Bool) {c : Prop} {v : AV} {b : Blk} (hg : gst ops F gd = some true) (ha : aop T ov ⟨some d, op, ty, pos, after, gd⟩ (aev F) H.length = some (c, v, some b)) (hd : dok n (some d) = true) (hc : c) (h : ∀ H', H'[H.length]? = some (some b) → Oth H H' none → H'.length = H.length + 1 → SQ P q n k0 ops os K ((d, v) :: F) H') : SQ P q n k0 ops (⟨some d, op, ty, pos, after, gd⟩ :: os) K F H :=
  sq_new hT hz ov hg ha hd hc (h _ (by simp) (oth_app _ _) (by simp))
theorem sq_storek (hT : TTok P T) {t : TypeId} {x y : Operand} {ti : TI} {id sz i off : Nat} {b : Blk} {new : List AV} {ds : Option Nat} (hg : gst ops F gd = some true) (hx : aev F x = .ref id sz i off) (hd : dok n ds = true) (hb : H[id]? = some (some b)) (hs : b.sz = sz) (hi : i < b.n)
    (hti : tget T t = some ti) (hy : acells (aev F y) = some new) (hl : new.length = ti.size) (hfit : off + new.length ≤ sz) (h : ∀ H', H'[id]? = some (some (b.put i off new)) → Oth H H' (some id) → H'.length = H.length → SQ P q n k0 ops os K (aput F ds .any) H') : SQ P q n k0 ops (⟨ds, .store t x y, ty, pos, after, gd⟩ :: os) K F H :=
  sq_store hT hg hx hd hb hs hi hti hy hl hfit (h _ (by rw [List.getElem?_set]; simp [(List.getElem?_eq_some_iff.1 hb).1]) (oth_set _ _ _) (by simp))
theorem rg_fin1 {ops' : Array Oper} {os' : List Oper} {K' : AF → AH → Prop} {b : Blk} (h : ∀ H', H'[H.length]? = some (some b) → Oth H H' none → H'.length = H.length + 1 → SQ P q n k0 ops' os' K' F H') : RG P n ops H [] (fun F' N => SQ P q n k0 ops' os' K' F' (H ++ N)) F [some b] :=
  h (H ++ [some b]) (by simp) (oth_app _ _) (by simp)
theorem rg_fin2 {ops' : Array Oper} {os' : List Oper} {K' : AF → AH → Prop} {b b2 : Blk} (h : ∀ H', H'[H.length]? = some (some b) → H'[H.length + 1]? = some (some b2) → Oth H H' none → H'.length = H.length + 2 → SQ P q n k0 ops' os' K' F H') : RG P n ops H [] (fun F' N => SQ P q n k0 ops' os' K' F' (H ++ N)) F [some b, some b2] :=
  h (H ++ [some b, some b2]) (by simp) (by rw [List.getElem?_append_right (by omega)]; simp) ⟨by simp, fun j hj _ => by rw [List.getElem?_append_left hj]⟩ (by simp)
/-- a call that makes one block that may change -/
theorem rg_mk {f : FuncId} {xs : Array Operand} {ats : Array TypeId} {as as' : List AV} {r : Nat → AV} {b : Blk} (hg : gst ops F gd = some true) (ha : fl (xs.toList.map (aev F)) some = some as) (hd : dok n (some d) = true) (hps : ∀ H, SC true P f as' H (fun r' H' => r' = r H.length ∧ H' = H ++ [some b])) (hl : LeL as as') (h : RG P n ops H os K ((d, r (H.length + N.length)) :: F) (N ++ [some b])) : RG P n ops H (⟨some d, .call ⟨.value (.func f), xs, ats⟩, ty, pos, after, gd⟩ :: os) K F N := by
  rw [fl_eq] at ha
  cases ha
  exact rg_ao (r := r (H.length + N.length)) (D := [some b]) hg rfl hd (ao_call ⟨.value (.func f), xs, ats⟩ f rfl rfl (((hps (H ++ nones N)).le hl).mono fun r' H' e => by rw [e.1, e.2, nones_len]; exact ⟨rfl, rfl⟩)) h
theorem sq_mk {f : FuncId} {xs : Array Operand} {ats : Array TypeId} {as as' : List AV} {r : Nat → AV} {b : Blk} (hg : gst ops F gd = some true) (ha : fl (xs.toList.map (aev F)) some = some as) (hd : dok n (some d) = true) (hps : ∀ H, SC true P f as' H (fun r' H' => r' = r H.length ∧ H' = H ++ [some b])) (hl : LeL as as')
    (h : ∀ H', H'[H.length]? = some (some b) → Oth H H' none → H'.length = H.length + 1 → SQ P q n k0 ops os K ((d, r H.length) :: F) H') : SQ P q n k0 ops (⟨some d, .call ⟨.value (.func f), xs, ats⟩, ty, pos, after, gd⟩ :: os) K F H := by
  have h1 : SC true P f as' H fun r H' => SQ P q n k0 ops os K ((d, r) :: F) H' := (hps H).mono fun r' H' e => by rw [e.1, e.2]; exact h _ (by simp) (oth_app _ _) (by simp)
  refine sq_call hg ha hd hl ?_
  cases q
  · exact h1.weak
  · exact h1
end
end Go.Proofs.Ytphjglbbhanmpaa.Ab
