/- Arrays that are sliced, slices that are arrays, copy. -/
import Derived.Test.YtdddkoacolglkaaDoorFB
import Derived.Laws.CopyRow
namespace Go.Proofs.YtdddkoacolglkaaDoor.Ab
open Go Go.RowKit
section
variable {P : Program} {T : TT} {q : Bool} {k0 : Nat} {H : AH} {o : Oper} {ρ : Operand → AV}
/-- an array behind a pointer is sliced from its begin -/
theorem ao_subarr (hT : TTok P T) (t : TypeId) (y : Operand) (hi : Option Operand) (ho : o.op = .slice t y none hi none) {ti : TI} {N e es : Nat} {ek : TK} (hti : tget T t = some ti) (hk : ti.kind = .array N e) (he : aslot T e = some (ek, es)) {id sz i off : Nat} {h : Int} (hy : ρ y = .ref id sz i off) (hh : bnd ρ N hi h) (h0 : 0 ≤ h) (h2 : h ≤ N) :
    AO P q k0 o ρ H (fun r H' => r = .sub id sz i off h.toNat ∧ H' = H) := by
  refine ao_keep fun U φ V w ρc hhr hr => ?_
  have h1 := hr y (by simp [ho, Op.operands])
  rw [hy] at h1
  obtain ⟨h1, hu⟩ := h1.inv_ref
  have b2 := bnd_run (_P := P) hh fun x hx => hr x (by subst hx; simp [ho, Op.operands])
  have ht := tt_array hT hti hk
  have hsz := tt_size_slot hT he w
  have key : (Instr.sliceBounds false N N none (hi.map ρc) none).run P w = .ok (0, h.toNat, N) w := by
    unfold Instr.sliceBounds
    rcases b2 with ⟨rfl, hh⟩ | ⟨kh, hh⟩
    · subst hh; simp
    · have := fun code => run_sliceBound (P := P) w kh h N code (by omega) (by omega)
      simp [hh, this]
  refine ⟨.slice (some ⟨(φ id).1, i * sz + off, none⟩) h.toNat N, ?_, .sub id sz i off h.toNat N hu (by omega)⟩
  have e0 : (if N = 0 then (⟨(φ id).1, i * sz + off, none⟩ : Addr) else (⟨(φ id).1, i * sz + off, none⟩ : Addr).add (0 * es)) = ⟨(φ id).1, i * sz + off, none⟩ := by
    split
    · rfl
    · rw [addr_add]; simp
  simp only [execOp, ho, h1]
  simp [Instr.sliceAt, run_underlying ht, Instr.sureAddr, key, hsz]
  simpa using e0
/-- a slice of a part is an array -/
theorem ao_s2a (hT : TTok P T) (t : TypeId) (x : Operand) (ho : o.op = .sliceToArrayPointer t x) {ti : TI} {N e : Nat} (hti : tget T t = some ti) (hk : ti.kind = .array N e) {id sz i off m : Nat} (hx : ρ x = .sub id sz i off m) (h2 : N ≤ m) :
    AO P q k0 o ρ H (fun r H' => r = .ref id sz i off ∧ H' = H) := by
  refine ao_keep fun U φ V w ρc hhr hr => ?_
  have h1 := hr x (by simp [ho, Op.operands])
  rw [hx] at h1
  obtain ⟨c, h1, hu, hc⟩ := h1.inv_sub
  refine ⟨.pointer (some ⟨(φ id).1, i * sz + off, none⟩), ?_, .ref id sz i off hu⟩
  simp [execOp, ho, h1, Instr.arrayAt, run_underlying (tt_array hT hti hk), Nat.not_lt.2 h2]
/-- a frozen slice is an array -/
theorem ao_s2af (hT : TTok P T) (t : TypeId) (x : Operand) (ho : o.op = .sliceToArrayPointer t x) {ti : TI} {N e : Nat} (hti : tget T t = some ti) (hk : ti.kind = .array N e) {tg : Bool} {m : Nat} {g : Nat → List AV} (hx : ρ x = .lst tg 1 m g) (h2 : N ≤ m) (h0 : 0 < m) {cs : List AV} (hcs : ∀ (j : Nat) z, cs[j]? = some z → j < m ∧ (g j)[0]? = some z) :
    AO P q k0 o ρ H (fun r H' => r = .fref cs ∧ H' = H) := by
  refine ao_keep fun U φ V w ρc hhr hr => ?_
  have h1 := hr x (by simp [ho, Op.operands])
  rw [hx] at h1
  obtain ⟨a, c, h1, hc, hc2, _, h3⟩ := h1.inv_lst
  obtain ⟨b, off, cur, et, fz, rfl, hV, hcur, _, hcell⟩ := h3 h0
  refine ⟨.pointer (some ⟨b, off, none⟩), ?_, ?_⟩
  · simp [execOp, ho, h1, Instr.arrayAt, run_underlying (tt_array hT hti hk), Nat.not_lt.2 h2]
  · have hv : ∀ (j : Nat) z, cs[j]? = some z → ∃ u, cur[off + j]? = some u ∧ u.oneCell' = true ∧ VRel U φ V w z u := fun j z hj => by
      obtain ⟨g1, g2⟩ := hcs j z hj
      obtain ⟨u, k1, k2, k3⟩ := hcell j 0 z g1 g2
      exact ⟨u, by simpa using k1, k2, k3⟩
    refine .fref cs b off cur et fz (fun j => (cur[off + j]?).getD undef) hV hcur (fun j z hj => ?_) (fun j z hj => ?_)
    · obtain ⟨u, k1, k2, k3⟩ := hv j z hj
      rw [k1]; exact ⟨rfl, k2⟩
    · obtain ⟨u, k1, k2, k3⟩ := hv j z hj
      rw [k1]; exact k3
/-- cells of one part are copied into another one -/
theorem ao_copy (hT : TTok P T) (x y : Operand) (t1 t2 : TypeId) (ho : o.op = .call ⟨.builtin .copy, #[x, y], #[t1, t2]⟩) {ti at_ : TI} {e : Nat} {ek : TK} {ta : TypeId} (hti : tget T t1 = some ti) (hk : ti.kind = .slice e) (he : aslot T e = some (ek, 1)) (hta : tget T ta = some at_)
    {id sz i off n : Nat} (hx : ρ x = .sub id sz i off n) {b : Blk} (hb : H[id]? = some (some b)) (hs : b.sz = sz) (hi : i < b.n) {id2 sz2 i2 off2 m : Nat} (hy : ρ y = .sub id2 sz2 i2 off2 m) {b2 : Blk} (hb2 : H[id2]? = some (some b2)) (hs2 : b2.sz = sz2) (hi2 : i2 < b2.n)
    {new : List AV} (hnew : ((b2.g i2).drop off2).take (min m n) = new) (hlen : new.length = min m n) (hat : at_.size = min m n) (hfit : off + new.length ≤ sz) :
    AO P q k0 o ρ H (fun r H' => r = .p (goInt new.length) ∧ H' = H.set id (some (b.put i off new))) := by
  intro B U φ V w ρc hq g hr hf
  have h1 := hr x (by simp [ho, Op.operands, Call.operands])
  have h2 := hr y (by simp [ho, Op.operands, Call.operands])
  rw [hx] at h1
  rw [hy] at h2
  obtain ⟨c1, h1, hu1, hc1⟩ := h1.inv_sub
  obtain ⟨c2, h2, hu2, hc2⟩ := h2.inv_sub
  obtain ⟨cur, hc, hcs, hbn, hpm, hgl, hcell⟩ := g.heap.blk id b hb
  obtain ⟨cur2, hcc, hcs2, hbn2, hpm2, hgl2, hcell2⟩ := g.heap.blk id2 b2 hb2
  subst hs hs2
  -- the cells that are read
  have hin : ∀ (l : Nat) z, new[l]? = some z → ∃ u, cur2[i2 * b2.sz + (off2 + l)]? = some u ∧ u.oneCell' = true ∧ VRel U φ V w z u := fun l z hz => by
    rw [← hnew, List.getElem?_take] at hz
    split at hz
    · rw [List.getElem?_drop] at hz
      exact hcell2 i2 (off2 + l) z hi2 hz
    · cases hz
  obtain ⟨us, hus⟩ : ∃ us : List Value, us = (List.range new.length).map fun l => (cur2[i2 * b2.sz + (off2 + l)]?).getD undef := ⟨_, rfl⟩
  have hul : us.length = new.length := by rw [hus]; simp
  have hug : ∀ (l : Nat) u, us[l]? = some u → ∃ z, new[l]? = some z ∧ cur2[i2 * b2.sz + (off2 + l)]? = some u ∧ u.oneCell' = true ∧ VRel U φ V w z u := fun l u hl => by
    have hlt : l < new.length := by have := (List.getElem?_eq_some_iff.1 hl).1; omega
    obtain ⟨u', k1, k2, k3⟩ := hin l new[l] (List.getElem?_eq_getElem hlt)
    rw [hus, List.getElem?_map, List.getElem?_range hlt] at hl
    simp only [Option.map_some, k1, Option.getD_some, Option.some.injEq] at hl
    subst hl
    exact ⟨_, List.getElem?_eq_getElem hlt, k1, k2, k3⟩
  have hone : ∀ u ∈ us, u.oneCell' = true := fun u hu => by
    obtain ⟨l, hl⟩ := List.mem_iff_getElem?.1 hu
    obtain ⟨_, _, _, k, _⟩ := hug l u hl; exact k
  have hrel : VRels U φ V w new us := ⟨hul, fun l z u hz hu => by
    obtain ⟨z', k1, _, _, k4⟩ := hug l u hu
    rw [hz] at k1; cases k1; exact k4⟩
  have hbound : i * b.sz + off + us.length ≤ cur.size := by
    have : (i + 1) * b.sz ≤ (φ id).2 * b.sz := Nat.mul_le_mul_right _ (by omega)
    rw [Nat.add_mul] at this; omega
  -- the same cells stored
  have hso := ao_store (P := P) (T := T) (q := q) (k0 := k0) (H := H) (o := ⟨none, .store ta (.tmp 0) (.tmp 1), ta, "", #[], none⟩) (ρ := fun z => match z with | .tmp 0 => .ref id b.sz i off | .tmp 1 => .agg new | _ => .any) hT ta (.tmp 0) (.tmp 1) rfl (id := id) (sz := b.sz) (i := i) (off := off) (b := b) (new := new) rfl hb rfl hi hta rfl (by omega) hfit
  have hso := hso B U φ V w (fun z => match z with | .tmp 0 => .pointer (some ⟨(φ id).1, i * b.sz + off, none⟩) | .tmp 1 => .agg us.toArray | .func f => .func (.func f) #[] #[] | _ => undef) hq g (fun z hz => by
    have hz : z = .tmp 0 ∨ z = .tmp 1 := by simpa [Op.operands] using hz
    rcases hz with rfl | rfl
    · exact .ref id b.sz i off hu1
    · exact .agg new us hul hone fun l z u hz hu => hrel.2 l z u hz hu) (fun f => rfl)
  have hst := run_storeCells_at P (φ id).1 (i * b.sz + off) b.ety us 0 cur w hc (by simpa using hbound) hone
  simp only [Nat.add_zero] at hst
  have hsz := tt_size hT hta w
  have e1 : us.length = at_.size := by omega
  have hrs : (execOp (fun z => match z with | .tmp 0 => Value.pointer (some ⟨(φ id).1, i * b.sz + off, none⟩) | .tmp 1 => .agg us.toArray | .func f => .func (.func f) #[] #[] | _ => undef) ⟨none, .store ta (.tmp 0) (.tmp 1), ta, "", #[], none⟩).run P w = .ok .skip (w.setRow (φ id).1 (cur.toList.take (i * b.sz + off) ++ us ++ cur.toList.drop (i * b.sz + off + us.length)).toArray) := by
    simp [execOp, Instr.storeAt, Instr.sureAddr, storeVar, Value.cells, hsz, e1, hst]
  rw [hrs] at hso
  simp only [Res] at hso
  have hp1 : (P.info? e).map (·.size) = some 1 := by
    unfold aslot at he
    split at he
    · rename_i ie hie
      obtain ⟨info, d, z, g1, g2, g3, g4, g5, g6, g7⟩ := hT e ie hie
      have he : ie.size = 1 := by simp only [Option.some.injEq, Prod.mk.injEq] at he; exact he.2
      rw [g1, Option.map_some, g5, he]
    · cases he
  have hrun := run_copy_row P w t1 t2 o.type e (φ id).1 (i * b.sz + off) n c1 ⟨(φ id2).1, i2 * b2.sz + off2, none⟩ m c2 cur b.ety us (tt_slice hT hti hk) hp1 hc (by rw [hul, hlen]) (fun l u hl => by
    obtain ⟨_, _, k, _⟩ := hug l u hl
    rw [addr_add]
    simp [World.cell?, hcc]
    rw [← k]; congr 1; omega) hbound hone
  have hrc : (execOp ρc o).run P w = .ok (.value (goInt us.length)) (w.setRow (φ id).1 (cur.toList.take (i * b.sz + off) ++ us ++ cur.toList.drop (i * b.sz + off + us.length)).toArray) := by
    simp [execOp, ho, resolve, invoke, builtin, h1, h2, hrun]
  rw [hrc]
  obtain ⟨r, U', φ', V', H', hK, x⟩ := hso
  exact ⟨.p (goInt us.length), U', φ', V', H', ⟨by rw [hul], hK.2⟩, x.1, .p _, x.2.2⟩
end
section
variable {P : Program} {T : TT} {q : Bool} {n k0 : Nat} {ops : Array Oper} {os : List Oper} {K : AF → AH → Prop} {F : AF} {H N : AH} {d : Nat} {ty : TypeId} {pos : String} {after : Array Edge} {gd : Option (Nat × Bool)}
theorem sq_sub (hT : TTok P T) {t : TypeId} {y : Operand} {hi : Option Operand} {ti : TI} {M e es : Nat} {ek : TK} {id sz i off : Nat} {h : Int} (hg : gst ops F gd = some true) (hd : dok n (some d) = true) (hti : tget T t = some ti) (hk : ti.kind = .array M e) (he : aslot T e = some (ek, es)) (hy : aev F y = .ref id sz i off) (hh : bnd (aev F) M hi h) (hb : 0 ≤ h ∧ h ≤ M) (h' : SQ P q n k0 ops os K ((d, .sub id sz i off h.toNat) :: F) H) :
    SQ P q n k0 ops (⟨some d, .slice t y none hi none, ty, pos, after, gd⟩ :: os) K F H :=
  sq_ao hg rfl hd (AO.mono (ao_subarr hT t y hi rfl hti hk he hy hh hb.1 hb.2) fun r H' e => by rw [e.1, e.2]; exact h')
theorem rg_sub (hT : TTok P T) {t : TypeId} {y : Operand} {hi : Option Operand} {ti : TI} {M e es : Nat} {ek : TK} {id sz i off : Nat} {h : Int} (hg : gst ops F gd = some true) (hd : dok n (some d) = true) (hti : tget T t = some ti) (hk : ti.kind = .array M e) (he : aslot T e = some (ek, es)) (hy : aev F y = .ref id sz i off) (hh : bnd (aev F) M hi h) (hb : 0 ≤ h ∧ h ≤ M) (h' : RG P n ops H os K ((d, .sub id sz i off h.toNat) :: F) N) :
    RG P n ops H (⟨some d, .slice t y none hi none, ty, pos, after, gd⟩ :: os) K F N :=
  rg_ao (r := .sub id sz i off h.toNat) (D := []) hg rfl hd (AO.mono (ao_subarr hT t y hi rfl hti hk he hy hh hb.1 hb.2) fun r H' e => by rw [e.1, e.2]; exact ⟨rfl, by simp⟩) (by rw [List.append_nil]; exact h')
theorem sq_s2a (hT : TTok P T) {t : TypeId} {x : Operand} {ti : TI} {M e : Nat} {id sz i off m : Nat} (hg : gst ops F gd = some true) (hd : dok n (some d) = true) (hti : tget T t = some ti) (hk : ti.kind = .array M e) (hx : aev F x = .sub id sz i off m) (hb : Nat.ble M m = true) (h' : SQ P q n k0 ops os K ((d, .ref id sz i off) :: F) H) :
    SQ P q n k0 ops (⟨some d, .sliceToArrayPointer t x, ty, pos, after, gd⟩ :: os) K F H :=
  sq_ao hg rfl hd (AO.mono (ao_s2a hT t x rfl hti hk hx (Nat.le_of_ble_eq_true hb)) fun r H' e => by rw [e.1, e.2]; exact h')
theorem rg_s2a (hT : TTok P T) {t : TypeId} {x : Operand} {ti : TI} {M e : Nat} {id sz i off m : Nat} (hg : gst ops F gd = some true) (hd : dok n (some d) = true) (hti : tget T t = some ti) (hk : ti.kind = .array M e) (hx : aev F x = .sub id sz i off m) (hb : Nat.ble M m = true) (h' : RG P n ops H os K ((d, .ref id sz i off) :: F) N) :
    RG P n ops H (⟨some d, .sliceToArrayPointer t x, ty, pos, after, gd⟩ :: os) K F N :=
  rg_ao (r := .ref id sz i off) (D := []) hg rfl hd (AO.mono (ao_s2a hT t x rfl hti hk hx (Nat.le_of_ble_eq_true hb)) fun r H' e => by rw [e.1, e.2]; exact ⟨rfl, by simp⟩) (by rw [List.append_nil]; exact h')
theorem sq_s2af (hT : TTok P T) {t : TypeId} {x : Operand} {ti : TI} {M e : Nat} {tg : Bool} {m : Nat} {g : Nat → List AV} (hg : gst ops F gd = some true) (hd : dok n (some d) = true) (hti : tget T t = some ti) (hk : ti.kind = .array M e) (hx : aev F x = .lst tg 1 m g) (hb : M ≤ m ∧ 0 < m) (cs : List AV) (hcs : ∀ (j : Nat) z, cs[j]? = some z → j < m ∧ (g j)[0]? = some z) (h' : SQ P q n k0 ops os K ((d, .fref cs) :: F) H) :
    SQ P q n k0 ops (⟨some d, .sliceToArrayPointer t x, ty, pos, after, gd⟩ :: os) K F H :=
  sq_ao hg rfl hd (AO.mono (ao_s2af hT t x rfl hti hk hx hb.1 hb.2 hcs) fun r H' e => by rw [e.1, e.2]; exact h')
/-- copied between parts of two cells; 'ta' is a type of as many cells -/
theorem sq_copy (hT : TTok P T) (ta : TypeId) {x y : Operand} {t1 t2 : TypeId} {ti at_ : TI} {e : Nat} {ek : TK} {id sz i off m : Nat} {b : Blk} {id2 sz2 i2 off2 m2 : Nat} {b2 : Blk} {new : List AV} (hg : gst ops F gd = some true) (hd : dok n (some d) = true) (hti : tget T t1 = some ti) (hk : ti.kind = .slice e) (he : aslot T e = some (ek, 1)) (hta : tget T ta = some at_)
    (hx : aev F x = .sub id sz i off m) (hb : H[id]? = some (some b)) (hs : b.sz = sz) (hi : i < b.n) (hy : aev F y = .sub id2 sz2 i2 off2 m2) (hb2 : H[id2]? = some (some b2)) (hs2 : b2.sz = sz2) (hi2 : i2 < b2.n)
    (hnew : ((b2.g i2).drop off2).take (min m2 m) = new) (hlen : new.length = min m2 m) (hat : at_.size = min m2 m) (hfit : off + new.length ≤ sz)
    (h' : ∀ H', H'[id]? = some (some (b.put i off new)) → Oth H H' (some id) → H'.length = H.length → SQ P q n k0 ops os K ((d, .p (goInt new.length)) :: F) H') :
    SQ P q n k0 ops (⟨some d, .call ⟨.builtin .copy, #[x, y], #[t1, t2]⟩, ty, pos, after, gd⟩ :: os) K F H :=
  sq_ao hg rfl hd (AO.mono (ao_copy hT x y t1 t2 rfl hti hk he hta hx hb hs hi hy hb2 hs2 hi2 hnew hlen hat hfit) fun r H' e => by
    rw [e.1, e.2]
    exact h' _ (by rw [List.getElem?_set]; simp [(List.getElem?_eq_some_iff.1 hb).1]) (oth_set _ _ _) (by simp))
theorem sq_bin {bop : BinOp} {bt yt : TypeId} {x y : Operand} {a b v : Value} (hg : gst ops F gd = some true) (hd : dok n (some d) = true) (hx : aev F x = .p a) (hy : aev F y = .p b) (h0 : ∀ w, (do eqGuard bop bt x y a b; binOp bop bt a b : Sem Value).run P w = .ok v w) (h' : SQ P q n k0 ops os K ((d, .p v) :: F) H) :
    SQ P q n k0 ops (⟨some d, .binOp bop bt x y yt, ty, pos, after, gd⟩ :: os) K F H :=
  sq_ao (o := ⟨some d, .binOp bop bt x y yt, ty, pos, after, gd⟩) hg rfl hd (AO.mono (ao_keep (v := .p v) fun U φ V w ρc hh hr => by
    have h1 := hr x (by simp [Op.operands])
    have h2 := hr y (by simp [Op.operands])
    rw [hx] at h1
    rw [hy] at h2
    have h1 := h1.inv_p
    have h2 := h2.inv_p
    refine ⟨v, ?_, .p v⟩
    have := h0 w
    simp only [execOp, h1, h2]
    rw [Sem.run_bind, this]; rfl) fun r H' e => by rw [e.1, e.2]; exact h')
theorem sq_and {bt yt : TypeId} {x y : Operand} {a b : Int} (hg : gst ops F gd = some true) (hd : dok n (some d) = true) (hx : aev F x = .p (.int .i64 a)) (hy : aev F y = .p (.int .i64 b)) (h' : SQ P q n k0 ops os K ((d, .p (.int .i64 (bits .and .i64 a b))) :: F) H) :
    SQ P q n k0 ops (⟨some d, .binOp .and bt x y yt, ty, pos, after, gd⟩ :: os) K F H :=
  sq_bin hg hd hx hy (fun w => by simp [eqGuard, binOp, Op.intBits, bits]) h'
theorem sq_xor {bt yt : TypeId} {x y : Operand} {a b : Int} (hg : gst ops F gd = some true) (hd : dok n (some d) = true) (hx : aev F x = .p (.int .i64 a)) (hy : aev F y = .p (.int .i64 b)) (h' : SQ P q n k0 ops os K ((d, .p (.int .i64 (bits .xor .i64 a b))) :: F) H) :
    SQ P q n k0 ops (⟨some d, .binOp .xor bt x y yt, ty, pos, after, gd⟩ :: os) K F H :=
  sq_bin hg hd hx hy (fun w => by simp [eqGuard, binOp, Op.intBits, bits]) h'
theorem sq_shr {bt yt : TypeId} {x y : Operand} {a b : Int} {k : IntKind} (hg : gst ops F gd = some true) (hd : dok n (some d) = true) (hx : aev F x = .p (.int .i64 a)) (hy : aev F y = .p (.int k b)) (hb : 0 ≤ b) (h' : SQ P q n k0 ops os K ((d, .p (.int .i64 (a.fdiv (2 ^ min b.toNat 64)))) :: F) H) :
    SQ P q n k0 ops (⟨some d, .binOp .shr bt x y yt, ty, pos, after, gd⟩ :: os) K F H :=
  sq_bin hg hd hx hy (fun w => by simp [eqGuard, binOp, Op.shift, Int.not_lt.2 hb]; rfl) h'
end
end Go.Proofs.YtdddkoacolglkaaDoor.Ab
