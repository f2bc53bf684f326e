/- Arrays that are sliced, slices that are arrays, copy. -/
import Derived.Test.YtphjglbbhanmpaaFB
import Derived.Laws.CopyRow
namespace Go.Proofs.Ytphjglbbhanmpaa.Ab
open Go Go.RowKit
section
variable {P : Program} {T : TT} {q : Bool} {k0 : Nat} {H : AH} {o : Oper} {ρ : Operand → AV}
/-- an array behind a pointer is sliced from its begin -/
theorem ao_subarr (hT : TTok P T) (t : TypeId) (y : Operand) (hi : Option Operand) (ho : o.op = .slice t y none hi none) {ti : TI} {N e es : Nat} {ek : TK} (hti : tget T t = some ti) (hk : ti.kind = .array N e) (he : aslot T e = some (ek, es)) {id sz i off : Nat} {h : Int} (hy : ρ y = .ref id sz i off) (hh : bnd ρ N hi h) (h0 : 0 ≤ h) (h2 : h ≤ N) :
    AO P q k0 o ρ H (fun r H' => r = .sub id sz i off h.toNat ∧ H' = H) := by
  refine ao_keep fun U φ V w ρc hhr hr => ?_
  have h1 := hr y (by simp [ho, Op.operands])
  rw [hy] at h1
  obtain ⟨h1, hu⟩ := h1.inv_ref
  have b2 := bnd_run (_P := P) hh fun x hx => hr x (by subst hx; simp [ho, Op.operands])
  have ht := tt_array hT hti hk
  have hsz := tt_size_slot hT he w
  have key : (Instr.sliceBounds false N N none (hi.map ρc) none).run P w = .ok (0, h.toNat, N) w := by
    unfold Instr.sliceBounds
    rcases b2 with ⟨rfl, hh⟩ | ⟨kh, hh⟩
    · subst hh; simp
    · have := fun code => run_sliceBound (P := P) w kh h N code (by omega) (by omega)
      simp [hh, this]
  refine ⟨.slice (some ⟨(φ id).1, i * sz + off, none⟩) h.toNat N, ?_, .sub id sz i off h.toNat N hu (by omega)⟩
  have e0 : (if N = 0 then (⟨(φ id).1, i * sz + off, none⟩ : Addr) else (⟨(φ id).1, i * sz + off, none⟩ : Addr).add (0 * es)) = ⟨(φ id).1, i * sz + off, none⟩ := by
    split
    · rfl
    · rw [addr_add]; simp
  simp only [execOp, ho, h1]
  simp [Instr.sliceAt, run_underlying ht, Instr.sureAddr, key, hsz]
  simpa using e0
/-- a slice of a part is an array -/
theorem ao_s2a (hT : TTok P T) (t : TypeId) (x : Operand) (ho : o.op = .sliceToArrayPointer t x) {ti : TI} {N e : Nat} (hti : tget T t = some ti) (hk : ti.kind = .array N e) {id sz i off m : Nat} (hx : ρ x = .sub id sz i off m) (h2 : N ≤ m) :
    AO P q k0 o ρ H (fun r H' => r = .ref id sz i off ∧ H' = H) := by
  refine ao_keep fun U φ V w ρc hhr hr => ?_
  have h1 := hr x (by simp [ho, Op.operands])
  rw [hx] at h1
  obtain ⟨c, h1, hu, hc⟩ := h1.inv_sub
  refine ⟨.pointer (some ⟨(φ id).1, i * sz + off, none⟩), ?_, .ref id sz i off hu⟩
  simp [execOp, ho, h1, Instr.arrayAt, run_underlying (tt_array hT hti hk), Nat.not_lt.2 h2]
/-- a frozen slice is an array -/
theorem ao_s2af (hT : TTok P T) (t : TypeId) (x : Operand) (ho : o.op = .sliceToArrayPointer t x) {ti : TI} {N e : Nat} (hti : tget T t = some ti) (hk : ti.kind = .array N e) {tg : Bool} {m : Nat} {g : Nat → List AV} (hx : ρ x = .lst tg 1 m g) (h2 : N ≤ m) (h0 : 0 < m) {cs : List AV} (hcs : ∀ (j : Nat) z, cs[j]? = some z → j < m ∧ (g j)[0]? = some z) :
    AO P q k0 o ρ H (fun r H' => r = .fref cs ∧ H' = H) := by
  refine ao_keep fun U φ V w ρc hhr hr => ?_
  have h1 := hr x (by simp [ho, Op.operands])
  rw [hx] at h1
  obtain ⟨a, c, h1, hc, hc2, _, h3⟩ := h1.inv_lst
  obtain ⟨b, off, cur, et, fz, rfl, hV, hcur, _, hcell⟩ := h3 h0
  refine ⟨.pointer (some ⟨b, off, none⟩), ?_, ?_⟩
  · simp [execOp, ho, h1, Instr.arrayAt, run_underlying (tt_array hT hti hk), Nat.not_lt.2 h2]
  · have hv : ∀ (j : Nat) z, cs[j]? = some z → ∃ u, cur[off + j]? = some u ∧ u.oneCell' = true ∧ VRel U φ V w z u := fun j z hj => by
      obtain ⟨g1, g2⟩ := hcs j z hj
      obtain ⟨u, k1, k2, k3⟩ := hcell j 0 z g1 g2
      exact ⟨u, by simpa using k1, k2, k3⟩
    refine .fref cs b off cur et fz (fun j => (cur[off + j]?).getD undef) hV hcur (fun j z hj => ?_) (fun j z hj => ?_)
    · obtain ⟨u, k1, k2, k3⟩ := hv j z hj
      rw [k1]; exact ⟨rfl, k2⟩
    · obtain ⟨u, k1, k2, k3⟩ := hv j z hj
      rw [k1]; exact k3
end
section
variable {P : Program} {T : TT} {q : Bool} {n k0 : Nat} {ops : Array Oper} {os : List Oper} {K : AF → AH → Prop} {F : AF} {H N : AH} {d : Nat} {ty : TypeId} {pos : String} {after : Array Edge} {gd : Option (Nat × Bool)}
theorem rg_sub (hT : TTok P T) {t : TypeId} {y : Operand} {hi : Option Operand} {ti : TI} {M e es : Nat} {ek : TK} {id sz i off : Nat} {h : Int} (hg : gst ops F gd = some true) (hd : dok n (some d) = true) (hti : tget T t = some ti) (hk : ti.kind = .array M e) (he : aslot T e = some (ek, es)) (hy : aev F y = .ref id sz i off) (hh : bnd (aev F) M hi h) (hb : 0 ≤ h ∧ h ≤ M) (h' : RG P n ops H os K ((d, .sub id sz i off h.toNat) :: F) N) :
    RG P n ops H (⟨some d, .slice t y none hi none, ty, pos, after, gd⟩ :: os) K F N :=
  rg_ao (r := .sub id sz i off h.toNat) (D := []) hg rfl hd (AO.mono (ao_subarr hT t y hi rfl hti hk he hy hh hb.1 hb.2) fun r H' e => by rw [e.1, e.2]; exact ⟨rfl, by simp⟩) (by rw [List.append_nil]; exact h')
theorem rg_s2a (hT : TTok P T) {t : TypeId} {x : Operand} {ti : TI} {M e : Nat} {id sz i off m : Nat} (hg : gst ops F gd = some true) (hd : dok n (some d) = true) (hti : tget T t = some ti) (hk : ti.kind = .array M e) (hx : aev F x = .sub id sz i off m) (hb : Nat.ble M m = true) (h' : RG P n ops H os K ((d, .ref id sz i off) :: F) N) :
    RG P n ops H (⟨some d, .sliceToArrayPointer t x, ty, pos, after, gd⟩ :: os) K F N :=
  rg_ao (r := .ref id sz i off) (D := []) hg rfl hd (AO.mono (ao_s2a hT t x rfl hti hk hx (Nat.le_of_ble_eq_true hb)) fun r H' e => by rw [e.1, e.2]; exact ⟨rfl, by simp⟩) (by rw [List.append_nil]; exact h')
theorem sq_s2af (hT : TTok P T) {t : TypeId} {x : Operand} {ti : TI} {M e : Nat} {tg : Bool} {m : Nat} {g : Nat → List AV} (hg : gst ops F gd = some true) (hd : dok n (some d) = true) (hti : tget T t = some ti) (hk : ti.kind = .array M e) (hx : aev F x = .lst tg 1 m g) (hb : M ≤ m ∧ 0 < m) (cs : List AV) (hcs : ∀ (j : Nat) z, cs[j]? = some z → j < m ∧ (g j)[0]? = some z) (h' : SQ P q n k0 ops os K ((d, .fref cs) :: F) H) :
    SQ P q n k0 ops (⟨some d, .sliceToArrayPointer t x, ty, pos, after, gd⟩ :: os) K F H :=
  sq_ao hg rfl hd (AO.mono (ao_s2af hT t x rfl hti hk hx hb.1 hb.2 hcs) fun r H' e => by rw [e.1, e.2]; exact h')
theorem sq_bin {bop : BinOp} {bt yt : TypeId} {x y : Operand} {a b v : Value} (hg : gst ops F gd = some true) (hd : dok n (some d) = true) (hx : aev F x = .p a) (hy : aev F y = .p b) (h0 : ∀ w, (do eqGuard bop bt x y a b; binOp bop bt a b : Sem Value).run P w = .ok v w) (h' : SQ P q n k0 ops os K ((d, .p v) :: F) H) :
    SQ P q n k0 ops (⟨some d, .binOp bop bt x y yt, ty, pos, after, gd⟩ :: os) K F H :=
  sq_ao (o := ⟨some d, .binOp bop bt x y yt, ty, pos, after, gd⟩) hg rfl hd (AO.mono (ao_keep (v := .p v) fun U φ V w ρc hh hr => by
    have h1 := hr x (by simp [Op.operands])
    have h2 := hr y (by simp [Op.operands])
    rw [hx] at h1
    rw [hy] at h2
    have h1 := h1.inv_p
    have h2 := h2.inv_p
    refine ⟨v, ?_, .p v⟩
    have := h0 w
    simp only [execOp, h1, h2]
    rw [Sem.run_bind, this]; rfl) fun r H' e => by rw [e.1, e.2]; exact h')
theorem sq_and {bt yt : TypeId} {x y : Operand} {a b : Int} (hg : gst ops F gd = some true) (hd : dok n (some d) = true) (hx : aev F x = .p (.int .i64 a)) (hy : aev F y = .p (.int .i64 b)) (h' : SQ P q n k0 ops os K ((d, .p (.int .i64 (bits .and .i64 a b))) :: F) H) :
    SQ P q n k0 ops (⟨some d, .binOp .and bt x y yt, ty, pos, after, gd⟩ :: os) K F H :=
  sq_bin hg hd hx hy (fun w => by simp [eqGuard, binOp, Op.intBits, bits]) h'
theorem sq_xor {bt yt : TypeId} {x y : Operand} {a b : Int} (hg : gst ops F gd = some true) (hd : dok n (some d) = true) (hx : aev F x = .p (.int .i64 a)) (hy : aev F y = .p (.int .i64 b)) (h' : SQ P q n k0 ops os K ((d, .p (.int .i64 (bits .xor .i64 a b))) :: F) H) :
    SQ P q n k0 ops (⟨some d, .binOp .xor bt x y yt, ty, pos, after, gd⟩ :: os) K F H :=
  sq_bin hg hd hx hy (fun w => by simp [eqGuard, binOp, Op.intBits, bits]) h'
theorem sq_shr {bt yt : TypeId} {x y : Operand} {a b : Int} {k : IntKind} (hg : gst ops F gd = some true) (hd : dok n (some d) = true) (hx : aev F x = .p (.int .i64 a)) (hy : aev F y = .p (.int k b)) (hb : 0 ≤ b) (h' : SQ P q n k0 ops os K ((d, .p (.int .i64 (a.fdiv (2 ^ min b.toNat 64)))) :: F) H) :
    SQ P q n k0 ops (⟨some d, .binOp .shr bt x y yt, ty, pos, after, gd⟩ :: os) K F H :=
  sq_bin hg hd hx hy (fun w => by simp [eqGuard, binOp, Op.shift, Int.not_lt.2 hb]; rfl) h'
end
end Go.Proofs.Ytphjglbbhanmpaa.Ab
