/- Indices into arrays behind pointers; function values called. -/
import Derived.Test.YtphjglbbhanmpaaES
namespace Go.Proofs.Ytphjglbbhanmpaa.Ab
open Go Go.RowKit
section
variable {P : Program} {T : TT} {q : Bool} {n k0 : Nat} {ops : Array Oper} {os : List Oper} {K : AF → AH → Prop} {F : AF} {H N : AH} {d : Nat} {op : Op} {ty : TypeId} {pos : String} {after : Array Edge} {gd : Option (Nat × Bool)} {o : Oper} {ρ : Operand → AV}
theorem sq_id (h : SQ P q n k0 ops os K F H) : SQ P q n k0 ops os K F H := h
theorem rg_id {K : AF → AH → Prop} (h : RG P n ops H os K F N) : RG P n ops H os K F N := h
theorem ok_ixArr (hT : TTok P T) (t : TypeId) (x ix : Operand) (ho : o.op = .indexAddr t x ix) {i : TI} {len et es : Nat} {ek : TK} {k : IntKind} {m : Int} {v : AV} (hi : tget T t = some i) (hk : i.kind = .array len et) (he : aslot T et = some (ek, es)) (hix : ρ ix = .p (.int k m))
    (h0 : 0 ≤ m) (hn : m < len) (hx : (∃ cs, ρ x = .fref cs ∧ v = .fref (cs.drop (m.toNat * es))) ∨ ∃ id sz j o', ρ x = .ref id sz j o' ∧ v = .ref id sz j (o' + m.toNat * es)) : AO P q k0 o ρ H (Ends v none H) := by
  refine ao_keep fun U φ V w ρc hh hr => ?_
  have h1 := hr x (by simp [ho, Op.operands])
  have h2 := hr ix (by simp [ho, Op.operands])
  rw [hix] at h2
  have h2 := h2.inv_p
  have run : ∀ b off, ρc x = .pointer (some ⟨b, off, none⟩) → (execOp ρc o).run P w = .ok (.value (.pointer (some ⟨b, off + m.toNat * es, none⟩))) w := by
    intro b off hb
    simp [execOp, ho, hb, h2, Instr.indexAt, Instr.sureAddr, asIntOf, run_underlying (tt_array hT hi hk), h0, hn, tt_size_slot hT he, addr_add]
  rcases hx with ⟨cs, hx, rfl⟩ | ⟨id, sz, j, o', hx, rfl⟩
  · rw [hx] at h1
    obtain ⟨b, off, cur, e, fz, hb, hV, hc, hcell⟩ := h1.inv_fref
    refine ⟨_, run b off hb, .mk_fref hV hc fun j y hy => ?_⟩
    rw [List.getElem?_drop] at hy
    obtain ⟨u, h3⟩ := hcell _ y hy
    exact ⟨u, by rw [Nat.add_assoc]; exact h3⟩
  · rw [hx] at h1
    obtain ⟨hb, hid⟩ := h1.inv_ref
    refine ⟨_, run _ _ hb, ?_⟩
    rw [Nat.add_assoc]
    exact .ref id sz j _ hid
theorem sq_ixa (hT : TTok P T) {t : TypeId} {x ix : Operand} {i : TI} {len et es : Nat} {ek : TK} {k : IntKind} {m : Int} {cs : List AV} (hg : gst ops F gd = some true) (hi : tget T t = some i) (hk : i.kind = .array len et) (he : aslot T et = some (ek, es)) (hx : aev F x = .fref cs) (hix : aev F ix = .p (.int k m)) (hd : dok n (some d) = true) (hm : 0 ≤ m ∧ m < len)
    (h : SQ P q n k0 ops os K ((d, .fref (cs.drop (m.toNat * es))) :: F) H) : SQ P q n k0 ops (⟨some d, .indexAddr t x ix, ty, pos, after, gd⟩ :: os) K F H :=
  sq_ao hg rfl hd (AO.mono (ok_ixArr hT t x ix rfl hi hk he hix hm.1 hm.2 (.inl ⟨cs, hx, rfl⟩)) fun r H' e => by rw [e.1, e.2]; exact h)
theorem sq_ixr (hT : TTok P T) {t : TypeId} {x ix : Operand} {i : TI} {len et es : Nat} {ek : TK} {k : IntKind} {m : Int} {id sz j o' : Nat} (hg : gst ops F gd = some true) (hi : tget T t = some i) (hk : i.kind = .array len et) (he : aslot T et = some (ek, es)) (hx : aev F x = .ref id sz j o') (hix : aev F ix = .p (.int k m)) (hd : dok n (some d) = true) (hm : 0 ≤ m ∧ m < len)
    (h : SQ P q n k0 ops os K ((d, .ref id sz j (o' + m.toNat * es)) :: F) H) : SQ P q n k0 ops (⟨some d, .indexAddr t x ix, ty, pos, after, gd⟩ :: os) K F H :=
  sq_ao hg rfl hd (AO.mono (ok_ixArr hT t x ix rfl hi hk he hix hm.1 hm.2 (.inr ⟨id, sz, j, o', hx, rfl⟩)) fun r H' e => by rw [e.1, e.2]; exact h)
theorem rg_ixa (hT : TTok P T) {t : TypeId} {x ix : Operand} {i : TI} {len et es : Nat} {ek : TK} {k : IntKind} {m : Int} {cs : List AV} (hg : gst ops F gd = some true) (hi : tget T t = some i) (hk : i.kind = .array len et) (he : aslot T et = some (ek, es)) (hx : aev F x = .fref cs) (hix : aev F ix = .p (.int k m)) (hd : dok n (some d) = true) (hm : 0 ≤ m ∧ m < len)
    (h : RG P n ops H os K ((d, .fref (cs.drop (m.toNat * es))) :: F) N) : RG P n ops H (⟨some d, .indexAddr t x ix, ty, pos, after, gd⟩ :: os) K F N :=
  rg_ao (r := .fref (cs.drop (m.toNat * es))) (D := []) hg rfl hd (AO.mono (ok_ixArr hT t x ix rfl hi hk he hix hm.1 hm.2 (.inl ⟨cs, hx, rfl⟩)) fun r H' e => by rw [e.1, e.2]; exact ⟨rfl, by simp⟩) (by rw [List.append_nil]; exact h)
theorem rg_ixr (hT : TTok P T) {t : TypeId} {x ix : Operand} {i : TI} {len et es : Nat} {ek : TK} {k : IntKind} {m : Int} {id sz j o' : Nat} (hg : gst ops F gd = some true) (hi : tget T t = some i) (hk : i.kind = .array len et) (he : aslot T et = some (ek, es)) (hx : aev F x = .ref id sz j o') (hix : aev F ix = .p (.int k m)) (hd : dok n (some d) = true) (hm : 0 ≤ m ∧ m < len)
    (h : RG P n ops H os K ((d, .ref id sz j (o' + m.toNat * es)) :: F) N) : RG P n ops H (⟨some d, .indexAddr t x ix, ty, pos, after, gd⟩ :: os) K F N :=
  rg_ao (r := .ref id sz j (o' + m.toNat * es)) (D := []) hg rfl hd (AO.mono (ok_ixArr hT t x ix rfl hi hk he hix hm.1 hm.2 (.inr ⟨id, sz, j, o', hx, rfl⟩)) fun r H' e => by rw [e.1, e.2]; exact ⟨rfl, by simp⟩) (by rw [List.append_nil]; exact h)
/-- a function value is called -/
theorem sq_callv {y : Operand} {f : FuncId} {fs cs : List AV} {xs : Array Operand} {ats : Array TypeId} {bs bs' : List AV} (hg : gst ops F gd = some true) (hy : aev F y = .fn (.func f) fs cs) (ha : fl (xs.toList.map (aev F)) some = some bs) (hd : dok n (some d) = true) (hl : LeL (fs ++ bs ++ cs) bs') (h : SC q P f bs' H fun r H' => SQ P q n k0 ops os K ((d, r) :: F) H') : SQ P q n k0 ops (⟨some d, .call ⟨.value y, xs, ats⟩, ty, pos, after, gd⟩ :: os) K F H := by
  rw [fl_eq] at ha
  cases ha
  exact sq_ao hg rfl hd (ao_callv ⟨.value y, xs, ats⟩ y f fs cs rfl rfl hy (h.le hl))
theorem sq_psv {y : Operand} {f : FuncId} {fs cs : List AV} {xs : Array Operand} {ats : Array TypeId} {bs bs' : List AV} {r : AV} (hg : gst ops F gd = some true) (hy : aev F y = .fn (.func f) fs cs) (ha : fl (xs.toList.map (aev F)) some = some bs) (hd : dok n (some d) = true) (hps : PS P f bs' r) (hl : LeL (fs ++ bs ++ cs) bs') (h : SQ P q n k0 ops os K ((d, r) :: F) H) : SQ P q n k0 ops (⟨some d, .call ⟨.value y, xs, ats⟩, ty, pos, after, gd⟩ :: os) K F H :=
  sq_callv hg hy ha hd hl (hps.sc h)
end
end Go.Proofs.Ytphjglbbhanmpaa.Ab
