/- More rules. -/
import Derived.Test.YtphjglbbhanmpaaEQ
namespace Go.Proofs.Ytphjglbbhanmpaa.Ab
open Go Go.RowKit
section
variable {P : Program} {T : TT} {q : Bool} {n k0 : Nat} {ops : Array Oper} {os : List Oper} {K : AF → AH → Prop} {F : AF} {H N : AH} {d : Nat} {op : Op} {ty : TypeId} {pos : String} {after : Array Edge} {gd : Option (Nat × Bool)}
theorem app_get {H : AH} {id : Nat} {b : Option Blk} (h : H[id]? = some b) (N : AH) : (H ++ N)[id]? = some b := by
  rw [List.getElem?_append_left (List.getElem?_eq_some_iff.1 h).1]; exact h
theorem Oth.new {H H1 H2 : AH} (h : Oth H H1 none) {id : Nat} (k : Oth H1 H2 (some id)) (hid : H.length ≤ id) : Oth H H2 none :=
  ⟨Nat.le_trans h.1 k.1, fun j hj _ => by rw [k.2 j (Nat.lt_of_lt_of_le hj h.1) (by simp; omega)]; exact h.2 j hj (by simp)⟩
/-- the gathered grows: what the caller had stays -/
theorem Ext.acc {H H1 H2 : AH} (h : Ext H H1) {v : AV} {e sz n : Nat} {g : Nat → List AV} (ha : Acc H.length H1 v e sz n g) (k : Oth H1 H2 (accId v)) : Ext H H2 :=
  h.oth k fun id hid => by
    rcases ha with ⟨_, rfl⟩ | ⟨id', b, h1, rfl, _⟩
    · cases hid
    · cases hid; exact h1
/-- what has a name of its own moves -/
theorem sq_movek {x : Operand} {v : AV} (ha : aev F x = v) (hg : gst ops F gd = some true) (hd : dok n (some d) = true) (h : SQ P q n k0 ops os K ((d, v) :: F) H) : SQ P q n k0 ops (⟨some d, .move x, ty, pos, after, gd⟩ :: os) K F H :=
  sq_move hg (by rw [fv_eq, ha]) hd h
theorem sq_assignk {x : Operand} {v : AV} (ha : aev F x = v) (hg : gst ops F gd = some true) (hd : dok n (some d) = true) (h : SQ P q n k0 ops os K ((d, v) :: F) H) : SQ P q n k0 ops (⟨some d, .assign x, ty, pos, after, gd⟩ :: os) K F H :=
  sq_assign hg (by rw [fv_eq, ha]) hd h
theorem rg_movek {x : Operand} {v : AV} (ha : aev F x = v) (hg : gst ops F gd = some true) (hd : dok n (some d) = true) (h : RG P n ops H os K ((d, v) :: F) N) : RG P n ops H (⟨some d, .move x, ty, pos, after, gd⟩ :: os) K F N :=
  rg_move hg (by rw [fv_eq, ha]) hd h
theorem rg_assignk {x : Operand} {v : AV} (ha : aev F x = v) (hg : gst ops F gd = some true) (hd : dok n (some d) = true) (h : RG P n ops H os K ((d, v) :: F) N) : RG P n ops H (⟨some d, .assign x, ty, pos, after, gd⟩ :: os) K F N :=
  rg_assign hg (by rw [fv_eq, ha]) hd h
/-- one more is gathered -/
theorem sq_app {T : TT} (hT : TTok P T) (hz : TTz T) {x y : Operand} {t e : TypeId} {ts : TI} {ei : TI} (hg : gst ops F gd = some true) (hd : dok n (some d) = true) (hts : tget T t = some ts) (htk : ts.kind = .slice e) (hei : tget T e = some ei) {sz bt : Nat} (hsz : ei.size = sz) (hbt : ei.bytes = bt) (hp : 0 < sz) {n' : Nat} {g0 : Nat → List AV} (hx : Acc k0 H (aev F x) e sz n' g0) {m : Nat} {g : Nat → List AV} (hy : Src H (aev F y) sz m g)
    (hm : (n' + m) * bt ≤ 140737488355328) (hm2 : n' + m ≤ 9223372036854775807)
    (hK : ∀ r H', Acc k0 H' r e sz (n' + m) (fun j => if j < n' then g0 j else g (j - n')) → Oth H H' (accId (aev F x)) → (accId r = accId (aev F x) ∨ ∃ id, accId r = some id ∧ H.length ≤ id) → SQ P q n k0 ops os K ((d, r) :: F) H') : SQ P q n k0 ops (⟨some d, .call ⟨.builtin .append, #[x, y], #[t, t]⟩, ty, pos, after, gd⟩ :: os) K F H := by
  subst hsz hbt
  exact sq_append hT hz hg hd hts htk hei hp hx hy hm hm2 hK
/-- a call that reads what may change -/
theorem rg_call {f : FuncId} {xs : Array Operand} {ats : Array TypeId} {bs bs' : List AV} {r : AV} (hg : gst ops F gd = some true) (ha : fl (xs.toList.map (aev F)) some = some bs) (hd : dok n (some d) = true) (hps : ∀ N, SC true P f bs' (H ++ N) (fun r' H' => r' = r ∧ H' = H ++ N)) (hl : LeL bs bs') (h : RG P n ops H os K ((d, r) :: F) N) : RG P n ops H (⟨some d, .call ⟨.value (.func f), xs, ats⟩, ty, pos, after, gd⟩ :: os) K F N := by
  rw [fl_eq] at ha
  cases ha
  exact rg_ao (r := r) (D := []) hg rfl hd (ao_call ⟨.value (.func f), xs, ats⟩ f rfl rfl (((hps (nones N)).le hl).mono fun r' H' e => by rw [e.1, e.2]; exact ⟨rfl, by simp⟩)) (by rw [List.append_nil]; exact h)
end
end Go.Proofs.Ytphjglbbhanmpaa.Ab
