/- What was made, frozen at a call's end. -/
import Derived.Test.YtphjglbbhanmpaaEU
namespace Go.Proofs.Ytphjglbbhanmpaa.Ab
open Go Go.RowKit
theorem sc_freeze {q : Bool} {P : Program} {f : FuncId} {args : List AV} {H : AH} {e sz n : Nat} {g : Nat → List AV} (h : SC q P f args H (fun r H' => Ext H H' ∧ Acc H.length H' r e sz n g)) : SC q P f args H (fun r H' => Ext H H' ∧ r = .lst false sz n g) := by
  refine ⟨h.1, fun U φ V w ca hh ha => (h.2 U φ V w ca hh ha).mono ?_⟩
  rintro ee w' ⟨v, he, r, U', φ', V', H', ⟨hx, hA⟩, gd, hv, st⟩
  rcases hA with ⟨h1, h2⟩ | ⟨id, b, hk, h2, hb, hbe, hbs, hbn, hbg⟩
  · subst h1 h2
    exact ⟨v, he, _, U', φ', V', H', ⟨hx, rfl⟩, gd, le_nil _ _ _ _ _ _ _ _ hv, st⟩
  · obtain ⟨g', s⟩ := freeze_step gd hk hb
    refine ⟨v, he, _, _, _, _, _, ⟨hx.set hk none, rfl⟩, g', ?_, st.trans s⟩
    rw [h2] at hv
    obtain ⟨o, hv', _, h4, h5⟩ := hv.inv_arr
    have ho : o = 0 := by rcases h5 with h | h <;> omega
    subst ho
    obtain ⟨cur, hc, hcs, hbn', hpm, hbl, hcell⟩ := gd.heap.blk id b hb
    rw [hv']
    refine VRel.mk_lst (e := b.ety) (fz := (0, 0)) (cur := cur) (by omega) (by omega) (fun h => by cases h) (.inr rfl) hc (fun i hi => by rw [← hbg i hi, ← hbs]; exact hbl i (by omega)) fun i j y hi hy => ?_
    rw [← hbg i hi] at hy
    obtain ⟨u, k1, k2, k3⟩ := hcell i j y (by omega) hy
    rw [hbs] at k1
    exact ⟨u, by rw [Nat.zero_add]; exact k1, k2, k3.step gd.heap s⟩
/-- a call that gathers, made pure -/
theorem ps_acc {P : Program} {f : FuncId} {args : List AV} {e sz n : Nat} {g : Nat → List AV} (hc : Cl (.lst false sz n g)) (h : ∀ H, SC true P f args H (fun r H' => Ext H H' ∧ Acc H.length H' r e sz n g)) : PS P f args (.lst false sz n g) := by
  intro H
  refine (sc_pure (K := fun r => r = .lst false sz n g) ((sc_freeze (h H)).mono fun r H' hr => ⟨hr.1, hr.2 ▸ hc, hr.2⟩)).mono ?_
  intro r H' hr
  exact hr
/-- one list stands for another one of the same length -/
theorem le_lst' {t t' : Bool} {sz n n' : Nat} {g g' : Nat → List AV} (hn : n = n') (ht : t' = true → t = true) (hg : ∀ i, i < n → g i = g' i) : Le (.lst t sz n g) (.lst t' sz n' g') := by
  subst hn; exact le_lst ht hg
/-- the end, where a result has a name of its own -/
theorem fin_k {T : TT} {rs : List ResultVar} {Q : AV → AH → Prop} {F : AF} {H : AH} {x : AX} {ts : List Tmp} (hx : (match x with | .exit _ => False | _ => True)) (hr : tmpsOf rs = some ts) (h : Q (pack (ts.map (aget F))) H) : Fin T rs Q x F H :=
  fin_t hx hr (by rw [fl_eq]) h
section
variable {P : Program} {T : TT} {q : Bool} {n k0 : Nat} {ops : Array Oper} {os : List Oper} {K : AF → AH → Prop} {F : AF} {H N : AH} {d : Nat} {op : Op} {ty : TypeId} {pos : String} {after : Array Edge} {gd : Option (Nat × Bool)} {o : Oper} {ρ : Operand → AV}
/-- what was made is frozen at once -/
theorem ao_freeze {e sz m : Nat} {g : Nat → List AV} {K : AV → AH → Prop} (h : AO P q k0 o ρ H (fun r H' => Acc k0 H' r e sz m g ∧ ∀ H2, Oth H' H2 (accId r) → K (.lst false sz m g) H2)) : AO P q k0 o ρ H K := by
  intro B U φ V w ρc hq gd hr hf
  refine (h B U φ V w ρc hq gd hr hf).mono ?_
  rintro v w' ⟨r, U', φ', V', H', ⟨hA, hK⟩, gd', hv, st⟩
  rcases hA with ⟨h1, h2⟩ | ⟨id, b, hk, h2, hb, hbe, hbs, hbn, hbg⟩
  · subst h1 h2
    exact ⟨_, U', φ', V', H', hK H' ⟨Nat.le_refl _, fun _ _ _ => rfl⟩, gd', le_nil _ _ _ _ _ _ _ _ hv, st⟩
  · obtain ⟨g', s⟩ := freeze_step gd' hk hb
    refine ⟨_, _, _, _, _, hK _ ⟨by simp, fun j hj hne => by rw [List.getElem?_set, if_neg (fun e => hne (by rw [h2, e]; rfl))]⟩, g', ?_, st.trans s⟩
    rw [h2] at hv
    obtain ⟨o, hv', _, h4, h5⟩ := hv.inv_arr
    have ho : o = 0 := by rcases h5 with h | h <;> omega
    subst ho
    obtain ⟨cur, hc, hcs, hbn', hpm, hbl, hcell⟩ := gd'.heap.blk id b hb
    rw [hv']
    refine VRel.mk_lst (e := b.ety) (fz := (0, 0)) (cur := cur) (by omega) (by omega) (fun h => by cases h) (.inr rfl) hc (fun i hi => by rw [← hbg i hi, ← hbs]; exact hbl i (by omega)) fun i j y hi hy => ?_
    rw [← hbg i hi] at hy
    obtain ⟨u, k1, k2, k3⟩ := hcell i j y (by omega) hy
    rw [hbs] at k1
    exact ⟨u, by rw [Nat.zero_add]; exact k1, k2, k3.step gd'.heap s⟩
theorem Oth.app {H H1 H2 : AH} {x y : Option Nat} (h : Oth H H1 x) (k : Oth H1 H2 y) (hy : y = x ∨ ∃ id, y = some id ∧ H.length ≤ id) : Oth H H2 x :=
  ⟨Nat.le_trans h.1 k.1, fun j hj hne => by
    rw [k.2 j (Nat.lt_of_lt_of_le hj h.1) (by
      rcases hy with hy | ⟨id, hy, hid⟩
      · rw [hy]; exact hne
      · rw [hy]; simp; omega)]
    exact h.2 j hj hne⟩
/-- what was gathered, and more, frozen at once -/
theorem sq_appz (hT : TTok P T) (hz : TTz T) {x y : Operand} {t e : TypeId} {ts : TI} {ei : TI} (hg : gst ops F gd = some true) (hd : dok n (some d) = true) (hts : tget T t = some ts) (htk : ts.kind = .slice e) (hei : tget T e = some ei) {sz bt : Nat} (hsz : ei.size = sz) (hbt : ei.bytes = bt) (hp : 0 < sz) {n' : Nat} {g0 : Nat → List AV} (hx : Acc k0 H (aev F x) e sz n' g0) {m : Nat} {g : Nat → List AV} (hy : Src H (aev F y) sz m g)
    (hm : (n' + m) * bt ≤ 140737488355328) (hm2 : n' + m ≤ 9223372036854775807)
    (hK : ∀ H', Oth H H' (accId (aev F x)) → SQ P q n k0 ops os K ((d, .lst false sz (n' + m) (fun j => if j < n' then g0 j else g (j - n'))) :: F) H') : SQ P q n k0 ops (⟨some d, .call ⟨.builtin .append, #[x, y], #[t, t]⟩, ty, pos, after, gd⟩ :: os) K F H := by
  subst hsz hbt
  refine sq_ao hg rfl hd (ao_freeze (ao_append hT hz ⟨⟨_, rfl, rfl, rfl, rfl⟩, ⟨ts, hts, htk⟩, hei, hp⟩ hx hy hm hm2 fun r H' ha ho hn => ⟨ha, fun H2 h2 => hK H2 (ho.app h2 hn)⟩))
end
end Go.Proofs.Ytphjglbbhanmpaa.Ab
