/- Single operations: what was reckoned holds (the rest). -/
import Derived.Test.YtphjglbbhanmpaaEE
namespace Go.Proofs.Ytphjglbbhanmpaa.Ab
open Go Go.RowKit

section
variable {P : Program} {T : TT} {q : Bool} {k0 : Nat} {H : AH} {o : Oper} {ρ : Operand → AV} {c : Prop} {v : AV} {e : Option Blk}
theorem ok_nilCheck (x : Operand) (ho : o.op = .nilCheck x) (hx : (∃ cs, ρ x = .fref cs) ∨ (∃ a b c d, ρ x = .ref a b c d) ∨ ∃ f a b, ρ x = .fn (.func f) a b) : AO P q k0 o ρ H (Ends (ρ x) none H) := by
  refine ao_keep fun U φ V w ρc hh hr => ?_
  have h1 := hr x (by simp [ho, Op.operands])
  refine ⟨ρc x, ?_, h1⟩
  rcases hx with ⟨cs, hx⟩ | ⟨a, b, c, d, hx⟩ | ⟨f, a, b, hx⟩ <;> rw [hx] at h1
  · obtain ⟨b, off, cur, et, fz, hb, _⟩ := h1.inv_fref
    simp [execOp, ho, hb]
  · obtain ⟨hb, _⟩ := h1.inv_ref
    simp [execOp, ho, hb]
  · obtain ⟨us, vs, hb, _⟩ := h1.inv_fn
    simp [execOp, ho, hb]
theorem ok_binOp (hT : TTok P T) {ov : Bool} (op : BinOp) (t yt : TypeId) (x y : Operand) (ho : o.op = .binOp op t x y yt) (h : abin T ov op t (ρ x) (ρ y) = some (c, v)) (hc : c) : AO P q k0 o ρ H (Ends v none H) := by
  refine ao_keep fun U φ V w ρc hh hr => ?_
  have h1 := hr x (by simp [ho, Op.operands])
  have h2 := hr y (by simp [ho, Op.operands])
  obtain ⟨u, ub, uv, e1, e2, rfl, hrun⟩ := abin_ok hT h hc w x y
  rw [e1] at h1
  rw [e2] at h2
  have h1 := h1.inv_p
  have h2 := h2.inv_p
  refine ⟨uv, ?_, .p _⟩
  simp only [execOp, ho, h1, h2]
  rw [Sem.run_bind, hrun]; rfl
theorem ok_not (t : TypeId) (x : Operand) (ho : o.op = .unOp .not t x) {b : Bool} (hx : ρ x = .p (.bool b)) : AO P q k0 o ρ H (Ends (.p (.bool (!b))) none H) := by
  refine ao_keep fun U φ V w ρc hh hr => ?_
  have h1 := hr x (by simp [ho, Op.operands])
  rw [hx] at h1
  have h1 := h1.inv_p
  exact ⟨.bool (!b), by simp [execOp, ho, h1, Op.unary], .p _⟩
theorem ok_neg (t : TypeId) (x : Operand) (ho : o.op = .unOp .neg t x) {n : Int} (hx : ρ x = .p (.int .i64 n)) : AO P q k0 o ρ H (Ends (.p (.int .i64 (IntKind.i64.wrap (-n)))) none H) := by
  refine ao_keep fun U φ V w ρc hh hr => ?_
  have h1 := hr x (by simp [ho, Op.operands])
  rw [hx] at h1
  have h1 := h1.inv_p
  exact ⟨.int .i64 (IntKind.i64.wrap (-n)), by simp [execOp, ho, h1, Op.unary, Op.intArith], .p _⟩
theorem tt_int (hT : TTok P T) {t : Nat} {i : TI} {k : IntKind} (h : tget T t = some i) (hk : i.kind = .int k) : P.underlying t = some (.int k) := by
  obtain ⟨info, d, z, h1, h2, h3, h4, h5, _⟩ := hT t i h
  rw [hk] at h4
  cases d <;> simp [kindOf] at h4
  subst h4; exact h2
theorem ok_convert (hT : TTok P T) (src dst : TypeId) (x : Operand) (ho : o.op = .convert src dst x) {si i : TI} {k k1 k' : IntKind} {n : Int} (hs : tget T src = some si) (hd : tget T dst = some i) (hsk : si.kind = .int k) (hk : i.kind = .int k1)
    (hx : ρ x = .p (.int k' n)) : AO P q k0 o ρ H (Ends (.p (.int k1 (k1.wrap n))) none H) := by
  refine ao_keep fun U φ V w ρc hh hr => ?_
  have h1 := hr x (by simp [ho, Op.operands])
  rw [hx] at h1
  have h1 := h1.inv_p
  refine ⟨.int k1 (k1.wrap n), ?_, .p _⟩
  simp [execOp, ho, h1, convert, run_underlying (tt_int hT hs hsk), run_underlying (tt_int hT hd hk), Conv.intToInt]
theorem ok_makeFunc (f : Fn) (a b : Array Operand) (ho : o.op = .makeFunc f a b) : AO P q k0 o ρ H (Ends (.fn f (a.toList.map ρ) (b.toList.map ρ)) none H) := by
  refine ao_keep fun U φ V w ρc hh hr => ?_
  have key : ∀ l : List Operand, (∀ x ∈ l, VRel U φ V w (ρ x) (ρc x)) → ∀ (i : Nat) x u, (l.map ρ)[i]? = some x → (l.map ρc)[i]? = some u → VRel U φ V w x u := by
    intro l hl i x u hx hu
    rw [List.getElem?_map] at hx hu
    cases hy : l[i]? with
    | none => rw [hy] at hx; cases hx
    | some y => rw [hy] at hx hu; cases hx; cases hu; exact hl y (List.mem_of_getElem? hy)
  have h1 := key a.toList (fun x hx => hr x (by simp [ho, Op.operands]; exact .inl (by simpa using hx)))
  have h2 := key b.toList (fun x hx => hr x (by simp [ho, Op.operands]; exact .inr (by simpa using hx)))
  refine ⟨.func f (a.map ρc) (b.map ρc), by simp [execOp, ho, Instr.makeFunc], ?_⟩
  have := VRel.fn (U := U) (φ := φ) (V := V) (w := w) f (a.toList.map ρ) (b.toList.map ρ) (a.toList.map ρc) (b.toList.map ρc) (by simp) (by simp) h1 h2
  have e : ∀ a : Array Operand, (a.toList.map ρc).toArray = a.map ρc := fun a => Array.toList_inj.1 (by simp)
  rw [e, e] at this
  exact this
theorem ok_extract (x : Operand) (i : Nat) (ho : o.op = .extract x i) {vs : List AV} {v : AV} (hx : ρ x = .tup vs) (hv : vs[i]? = some v) : AO P q k0 o ρ H (Ends v none H) := by
  refine ao_keep fun U φ V w ρc hh hr => ?_
  have h1 := hr x (by simp [ho, Op.operands])
  rw [hx] at h1
  obtain ⟨us, hu, hrel⟩ := h1.inv_tup
  obtain ⟨u, h2, h3⟩ := hrel.get hv
  exact ⟨u, by simp [execOp, ho, hu, Instr.extract, h2], h3⟩
theorem tt_field (hT : TTok P T) {t off ft : Nat} {i : TI} {fs : List (Nat × Nat)} (h : tget T t = some i) (hk : i.kind = .struct fs) {f : Nat} (hf : fs[f]? = some (off, ft)) : ∃ (fields : Array Field) (fld : Field), P.underlying t = some (.struct fields) ∧ fields[f]? = some fld ∧ fld.offset = off ∧ fld.type = ft := by
  obtain ⟨fields, h1, h2⟩ := tt_struct hT h hk
  rw [← h2, List.getElem?_map] at hf
  cases hx : fields.toList[f]? with
  | none => rw [hx] at hf; cases hf
  | some fld =>
    rw [hx] at hf
    simp only [Option.map_some, Option.some.injEq, Prod.mk.injEq] at hf
    exact ⟨fields, fld, h1, by simpa using hx, hf.1, hf.2⟩
theorem ok_field (hT : TTok P T) (t : TypeId) (x : Operand) (f : Nat) (ho : o.op = .field t x f) {i : TI} {fs : List (Nat × Nat)} {off ft : Nat} {cs : List AV} {v : AV} (hi : tget T t = some i) (hk : i.kind = .struct fs) (hf : fs[f]? = some (off, ft)) (hx : ρ x = .agg cs)
    (h : apart T ft (cs.drop off) = some v) : AO P q k0 o ρ H (Ends v none H) := by
  refine ao_keep fun U φ V w ρc hh hr => ?_
  have h1 := hr x (by simp [ho, Op.operands])
  rw [hx] at h1
  obtain ⟨us, hu, hrel, hc⟩ := h1.inv_agg
  obtain ⟨fields, fld, g1, g2, rfl, rfl⟩ := tt_field hT hi hk hf
  obtain ⟨u, g3, g4⟩ := part_ok hT hrel hc h
  exact ⟨u, by simp [execOp, ho, hu, Instr.field, run_underlying g1, g2, asAgg, g3], g4⟩
theorem addr_add (b off j : Nat) : (⟨b, off, none⟩ : Addr).add j = ⟨b, off + j, none⟩ := by unfold Addr.add; split <;> simp_all
theorem ok_fieldAddr (hT : TTok P T) (t : TypeId) (x : Operand) (f : Nat) (ho : o.op = .fieldAddr t x f) {i fi : TI} {fs : List (Nat × Nat)} {off ft : Nat} (hi : tget T t = some i) (hk : i.kind = .struct fs) (hf : fs[f]? = some (off, ft)) (hfi : tget T ft = some fi) (hs : Nat.beq fi.size 0 = false)
    {v : AV} (hx : (∃ cs, ρ x = .fref cs ∧ v = .fref (cs.drop off)) ∨ ∃ id sz j o, ρ x = .ref id sz j o ∧ v = .ref id sz j (o + off)) : AO P q k0 o ρ H (Ends v none H) := by
  refine ao_keep fun U φ V w ρc hh hr => ?_
  have h1 := hr x (by simp [ho, Op.operands])
  obtain ⟨fields, fld, g1, g2, rfl, rfl⟩ := tt_field hT hi hk hf
  have hsz := tt_size hT hfi w
  have h0 : ¬ fi.size = 0 := by intro e; rw [e] at hs; simp at hs
  have run : ∀ b off, ρc x = .pointer (some ⟨b, off, none⟩) → (execOp ρc o).run P w = .ok (.value (.pointer (some ⟨b, off + fld.offset, none⟩))) w := by
    intro b off hb
    simp [execOp, ho, hb, Instr.fieldAt, run_underlying g1, g2, Instr.sureAddr, fieldPlace, hsz, h0, addr_add]
  rcases hx with ⟨cs, hx, rfl⟩ | ⟨id, sz, j, o', hx, rfl⟩
  · rw [hx] at h1
    obtain ⟨b, off, cur, et, fz, hb, hV, hc, hcell⟩ := h1.inv_fref
    refine ⟨_, run b off hb, .mk_fref hV hc fun j y hy => ?_⟩
    rw [List.getElem?_drop] at hy
    obtain ⟨u, h2, h3⟩ := hcell _ y hy
    exact ⟨u, by rw [Nat.add_assoc]; exact h2, h3⟩
  · rw [hx] at h1
    obtain ⟨hb, hid⟩ := h1.inv_ref
    refine ⟨_, run _ _ hb, ?_⟩
    rw [Nat.add_assoc]
    exact .ref id sz j _ hid
theorem ok_indexAgg (hT : TTok P T) (t : TypeId) (x ix : Operand) (ho : o.op = .index t x ix) {i ei : TI} {len et : Nat} {cs : List AV} {k : IntKind} {n : Int} {v : AV} (hi : tget T t = some i) (hk : i.kind = .array len et) (he : tget T et = some ei) (hx : ρ x = .agg cs) (hix : ρ ix = .p (.int k n))
    (h0 : 0 ≤ n) (hn : n < len) (h : apart T et (cs.drop (n.toNat * ei.size)) = some v) : AO P q k0 o ρ H (Ends v none H) := by
  refine ao_keep fun U φ V w ρc hh hr => ?_
  have h1 := hr x (by simp [ho, Op.operands])
  have h2 := hr ix (by simp [ho, Op.operands])
  rw [hx] at h1
  rw [hix] at h2
  have h2 := h2.inv_p
  obtain ⟨us, hu, hrel, hc⟩ := h1.inv_agg
  obtain ⟨u, g3, g4⟩ := part_ok hT hrel hc h
  exact ⟨u, by simp [execOp, ho, hu, h2, Instr.index, asIntOf, run_underlying (tt_array hT hi hk), h0, hn, tt_size hT he, g3], g4⟩
theorem ok_indexStr (hT : TTok P T) (t : TypeId) (x ix : Operand) (ho : o.op = .index t x ix) {i : TI} {s : ByteArray} {k : IntKind} {n : Int} (hi : tget T t = some i) (hk : i.kind = .str) (hx : ρ x = .p (.string s)) (hix : ρ ix = .p (.int k n))
    (h0 : 0 ≤ n) (hn : n < s.size) : AO P q k0 o ρ H (Ends (.p (.int .u8 (s.get! n.toNat).toNat)) none H) := by
  refine ao_keep fun U φ V w ρc hh hr => ?_
  have h1 := hr x (by simp [ho, Op.operands])
  have h2 := hr ix (by simp [ho, Op.operands])
  rw [hx] at h1
  rw [hix] at h2
  have h1 := h1.inv_p
  have h2 := h2.inv_p
  obtain ⟨info, d, z, g1, g2, g3, g4, _⟩ := hT t i hi
  have hd : d = .string := by rw [hk] at g4; cases d <;> simp [kindOf] at g4; rfl
  subst hd
  have hl : n.toNat < s.size := by omega
  refine ⟨_, ?_, .p _⟩
  simp [execOp, ho, h1, h2, Instr.index, asIntOf, run_underlying g2, h0, hl]
  simp [ByteArray.get!, ByteArray.getElem_eq_getElem_data, getElem!_pos, hl]
theorem tt_size_slot (hT : TTok P T) {t sz : Nat} {k : TK} (h : aslot T t = some (k, sz)) (w : World) : (sizeOf t).run P w = .ok sz w := by
  unfold aslot at h
  split at h
  · rename_i i hi; cases h; exact tt_size hT hi w
  · cases h
theorem ok_indexAddr (hT : TTok P T) (t : TypeId) (x ix : Operand) (ho : o.op = .indexAddr t x ix) {i : TI} {et es : Nat} {ek : TK} {k : IntKind} {m : Int} {v : AV} (hi : tget T t = some i) (hk : i.kind = .slice et) (he : aslot T et = some (ek, es)) (hix : ρ ix = .p (.int k m))
    {n : Nat} (h0 : 0 ≤ m) (hn : m < n) (hx : (∃ t g, ρ x = .lst t es n g ∧ v = .fref (g m.toNat)) ∨ ∃ id b, ρ x = .arr id es b n ∧ v = .ref id es (b + m.toNat) 0) : AO P q k0 o ρ H (Ends v none H) := by
  refine ao_keep fun U φ V w ρc hh hr => ?_
  have h1 := hr x (by simp [ho, Op.operands])
  have h2 := hr ix (by simp [ho, Op.operands])
  rw [hix] at h2
  have h2 := h2.inv_p
  have run : ∀ b off c, ρc x = .slice (some ⟨b, off, none⟩) n c → (execOp ρc o).run P w = .ok (.value (.pointer (some ⟨b, off + m.toNat * es, none⟩))) w := by
    intro b off c hb
    simp [execOp, ho, hb, h2, Instr.indexAt, asIntOf, run_underlying (tt_slice hT hi hk), h0, hn, tt_size_slot hT he, addr_add]
  rcases hx with ⟨tt, g, hx, rfl⟩ | ⟨id, b, hx, rfl⟩
  · rw [hx] at h1
    obtain ⟨a, c, hb, h3, h4, h5, h6⟩ := h1.inv_lst
    obtain ⟨b, off, cur, et, fz, rfl, hV, hc, hl, hcell⟩ := h6 (by omega)
    refine ⟨_, run b off c hb, .mk_fref hV hc fun j y hy => ?_⟩
    exact hcell m.toNat j y (by omega) hy
  · rw [hx] at h1
    obtain ⟨oo, hb, hid, h3, h4⟩ := h1.inv_arr
    refine ⟨_, run _ _ _ hb, ?_⟩
    have : oo = b * es := by
      rcases h4 with h4 | h4
      · exact h4
      · omega
    rw [this, ← Nat.add_mul, show (b + m.toNat) * es = (b + m.toNat) * es + 0 from rfl]
    exact .ref id es (b + m.toNat) 0 hid
theorem ok_makeSlice (hT : TTok P T) (hz : TTz T) (t : TypeId) (l cc : Operand) (ho : o.op = .makeSlice t l cc) {i ei : TI} {et : Nat} {k k' : IntKind} {n n' : Int} (hi : tget T t = some i) (hk : i.kind = .slice et) (he : tget T et = some ei) (hl : ρ l = .p (.int k n)) (hc : ρ cc = .p (.int k' n'))
    (hs : 0 < ei.size) (h0 : 0 ≤ n) (hn : n' = n) (hb : n * ei.bytes ≤ 140737488355328) (hm : n ≤ 140737488355328) :
    AO P q k0 o ρ H (Ends (.arr H.length ei.size 0 n.toNat) (some ⟨et, ei.size, n.toNat, fun _ => ei.zs.map .p⟩) H) := by
  subst hn
  obtain ⟨info, d, z, g1, g2, g3, g4, g5, g6, g7⟩ := hT et ei he
  obtain ⟨hzl, hzc⟩ := hz et ei he
  refine ao_new hs fun U φ V w ρc hh hr => ?_
  have h1 := hr l (by simp [ho, Op.operands])
  have h2 := hr cc (by simp [ho, Op.operands])
  rw [hl] at h1
  rw [hc] at h2
  have h1 := h1.inv_p
  have h2 := h2.inv_p
  have hzs : z.cells.size = ei.size := by have := congrArg List.length g7; simp at this; rw [this, hzl]
  refine ⟨.slice (some ⟨w.heap.size, 0, none⟩) n'.toNat n'.toNat, n'.toNat, _, ?_, size_madeCells z.cells _, Nat.le_refl _, by simp only [maxLen]; omega, fun j hj => by simp [hzl], fun j a y hj hy => ?_, fun φ' hn => ?_⟩
  · rw [← g5]
    have := run_make (P := P) w t et info z (tt_slice hT hi hk) g1 g3 k k' n' n' h0 (Int.le_refl _) (by rw [g6, Int.mul_comm]; omega) (by omega)
    simp [execOp, ho, h1, h2, this]
  · have hj' : j < n'.toNat := hj
    rw [List.getElem?_map] at hy
    cases hu : ei.zs[a]? with
    | none => rw [hu] at hy; cases hy
    | some u =>
      rw [hu] at hy; cases hy
      have ha : a < ei.size := by rw [← hzl]; exact (List.getElem?_eq_some_iff.1 hu).1
      refine ⟨u, ?_, hzc u (List.mem_of_getElem? hu), .p _⟩
      have hlt : j * ei.size + a < n'.toNat * ei.size := by
        have : (j + 1) * ei.size ≤ n'.toNat * ei.size := Nat.mul_le_mul_right _ hj'
        rw [Nat.add_mul] at this; omega
      have hmod : (j * ei.size + a) % ei.size = a := by rw [Nat.mul_comm, Nat.mul_add_mod, Nat.mod_eq_of_lt ha]
      rw [← g7] at hu
      have hu' : z.cells[a]? = some u := by simpa using hu
      simp only [madeCells, Array.getElem?_map, Array.getElem?_range, hlt, if_true, Option.map_some, hzs, hmod]
      simp [getElem!_def, hu']
  · have := VRel.arr (U := fun id => U id ∨ id = H.length) (φ := φ') (V := V) (w := w.alloc (.cells (madeCells z.cells (n'.toNat * ei.size)) et)) H.length ei.size 0 n'.toNat 0 (.inr rfl) (by rw [hn]; simp) (.inl (by simp))
    rw [hn] at this; simpa using this
end
end Go.Proofs.Ytphjglbbhanmpaa.Ab
