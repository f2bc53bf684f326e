/- Slices, freezing, and what a caller need not know. -/
import Derived.Test.YtphjglbbhanmpaaEN
namespace Go.Proofs.Ytphjglbbhanmpaa.Ab
open Go Go.RowKit

/-- stands for as much, or less -/
def Le (a b : AV) : Prop := ∀ (U : Nat → Prop) (φ : Pl) (V : Nat → Prop) (w : World) (v : Value), VRel U φ V w a v → VRel U φ V w b v
theorem Le.refl (a : AV) : Le a a := fun _ _ _ _ _ h => h
theorem Le.trans {a b c : AV} (h : Le a b) (k : Le b c) : Le a c := fun U φ V w v x => k U φ V w v (h U φ V w v x)
theorem le_any (a : AV) : Le a .any := fun _ _ _ _ _ _ => .any _
theorem le_lst {t t' : Bool} {sz n : Nat} {g g' : Nat → List AV} (ht : t' = true → t = true) (hg : ∀ i, i < n → g i = g' i) : Le (.lst t sz n g) (.lst t' sz n g') := by
  intro U φ V w v h
  cases h with
  | lst0 _ _ _ a c h0 h1 => exact .lst0 _ _ _ a c h0 (fun h => h1 (ht h))
  | lst _ _ _ _ b off c cur e fz us h0 h1 h2 h3 h4 h5 h6 h7 => exact .lst _ _ _ _ b off c cur e fz us h0 h1 (fun h => h2 (ht h)) h3 h4 (fun i hi => by rw [← hg i hi]; exact h5 i hi) (fun i j x hi hx => h6 i j x hi (by rw [hg i hi]; exact hx)) (fun i j x hi hx => h7 i j x hi (by rw [hg i hi]; exact hx))
theorem le_nil (t : Bool) (sz : Nat) (g : Nat → List AV) : Le (.p (.slice none 0 0)) (.lst t sz 0 g) := by
  intro U φ V w v h
  rw [h.inv_p]
  exact .lst0 _ _ _ _ _ (Nat.zero_le _) (fun _ => rfl)
inductive LeL : List AV → List AV → Prop
  | nil : LeL [] []
  | cons {a b : AV} {as bs : List AV} : Le a b → LeL as bs → LeL (a :: as) (b :: bs)
theorem LeL.refl : ∀ (as : List AV), LeL as as
  | [] => .nil
  | a :: as => .cons (.refl a) (LeL.refl as)
theorem LeL.rels {as bs : List AV} (h : LeL as bs) : ∀ {U : Nat → Prop} {φ : Pl} {V : Nat → Prop} {w : World} {us : List Value}, VRels U φ V w as us → VRels U φ V w bs us := by
  induction h with
  | nil => intro U φ V w us h; exact h
  | cons h1 _ ih =>
    intro U φ V w us h
    cases us with
    | nil => have := h.1; simp at this
    | cons u us =>
      have h2 := ih (U := U) (φ := φ) (V := V) (w := w) (us := us) ⟨by have := h.1; simpa using this, fun i x u hx hu => h.2 (i + 1) x u (by simpa using hx) (by simpa using hu)⟩
      refine ⟨by simp [h2.1], fun i x u' hx hu => ?_⟩
      cases i with
      | zero => simp at hx hu; rw [← hx, ← hu]; exact h1 _ _ _ _ _ (h.2 0 _ u rfl rfl)
      | succ i => exact h2.2 i x u' (by simpa using hx) (by simpa using hu)
theorem SC.le {q : Bool} {P : Program} {f : FuncId} {args args' : List AV} {H : AH} {Q : AV → AH → Prop} (hl : LeL args args') (h : SC q P f args' H Q) : SC q P f args H Q :=
  ⟨h.1, fun U φ V w ca hh ha => h.2 U φ V w ca hh (hl.rels ha)⟩
theorem Bel.mono {U U' : Nat → Prop} {a : AV} (h : Bel U a) (hu : ∀ id, U id → U' id) : Bel U' a := h.up hu
/-- a value that speaks of no name -/
abbrev Cl (a : AV) : Prop := Bel (fun _ => False) a
/-- what was there is there -/
def Ext (H H' : AH) : Prop := H.length ≤ H'.length ∧ ∀ (id : Nat) b, H[id]? = some (some b) → H'[id]? = some (some b)
theorem Ext.refl (H : AH) : Ext H H := ⟨Nat.le_refl _, fun _ _ h => h⟩
theorem Ext.trans {H H1 H2 : AH} (h : Ext H H1) (k : Ext H1 H2) : Ext H H2 := ⟨Nat.le_trans h.1 k.1, fun id b hb => k.2 id b (h.2 id b hb)⟩
theorem Ext.app (H N : AH) : Ext H (H ++ N) := ⟨by simp, fun id b hb => by rw [List.getElem?_append_left (List.getElem?_eq_some_iff.1 hb).1]; exact hb⟩
theorem Ext.oth {H H1 H2 : AH} {x : Option Nat} (h : Ext H H1) (k : Oth H1 H2 x) (hx : ∀ id, x = some id → H.length ≤ id) : Ext H H2 :=
  ⟨Nat.le_trans h.1 k.1, fun id b hb => by
    have h1 := h.2 id b hb
    have hlt := (List.getElem?_eq_some_iff.1 hb).1
    rw [k.2 id (List.getElem?_eq_some_iff.1 h1).1 (fun e => by have := hx id e.symm; omega)]
    exact h1⟩
theorem Ext.set {H H1 : AH} (h : Ext H H1) {id : Nat} (hid : H.length ≤ id) (x : Option Blk) : Ext H (H1.set id x) :=
  ⟨by simpa using h.1, fun j b hb => by
    have hlt := (List.getElem?_eq_some_iff.1 hb).1
    rw [List.getElem?_set, if_neg (by omega)]; exact h.2 j b hb⟩
/-- what was made on the way is forgotten -/
theorem sc_pure {q : Bool} {P : Program} {f : FuncId} {args : List AV} {H : AH} {K : AV → Prop} (h : SC q P f args H (fun r H' => Ext H H' ∧ Cl r ∧ K r)) : SC q P f args H (fun r H' => K r ∧ H' = H) := by
  refine ⟨h.1, fun U φ V w ca hh ha => (h.2 U φ V w ca hh ha).mono fun e w' ⟨v, he, r, U', φ', V', H', ⟨hx, hc, hk⟩, g, hv, s⟩ => ⟨v, he, r, fun id => U' id ∧ id < H.length, φ', V', H, ⟨hk, rfl⟩, ⟨⟨?_, ?_, ?_, g.heap.vlt, fun id h => h.2, g.heap.tab⟩, g.base, fun id hk hl => absurd hl.lt (by omega), Nat.le_refl _⟩, (hv.down (hc.up fun _ h => h.elim)), ?_⟩⟩
  · intro id b hb
    obtain ⟨cur, g1, g2, g3, g4, g5, g6⟩ := g.heap.blk id b (hx.2 id b hb)
    obtain ⟨_, _, _, _, _, _, k6⟩ := hh.blk id b hb
    refine ⟨cur, g1, g2, g3, g4, g5, fun i j x hi hx' => ?_⟩
    obtain ⟨u, l1, l2, l3⟩ := g6 i j x hi hx'
    obtain ⟨_, _, _, m3⟩ := k6 i j x hi hx'
    exact ⟨u, l1, l2, l3.down (m3.bel.up fun id hid => ⟨s.know id hid, hh.ult id hid⟩)⟩
  · rintro id id' ⟨b, hb⟩ ⟨b', hb'⟩ e
    exact g.heap.inj id id' ⟨b, hx.2 id b hb⟩ ⟨b', hx.2 id' b' hb'⟩ e
  · rintro id ⟨b, hb⟩
    exact g.heap.apart id ⟨b, hx.2 id b hb⟩
  · refine ⟨s.os, s.tape, s.output, s.size, s.block, s.keep, s.old, s.name, Nat.le_refl _, fun id h => ⟨s.know id h, hh.ult id h⟩, fun id h => ?_, fun _ _ h => h, fun id hl => .inl ⟨id, hl, by rw [s.name id hl.lt]⟩⟩
    rcases s.unew id h.1 with h' | h'
    · exact .inl h'
    · omega
/-- a function that only answers -/
def PS (P : Program) (f : FuncId) (args : List AV) (r : AV) : Prop := ∀ H, SC true P f args H (fun r' H' => r' = r ∧ H' = H)

section
variable {P : Program} {T : TT} {q : Bool} {n k0 : Nat} {Q : AQ} {F : AF} {H : AH} {c : Code}
theorem aw_le {F' : AF} (h : ∀ t, Le (aget F t) (aget F' t)) (h' : AW P q n k0 c Q F' H) : AW P q n k0 c Q F H :=
  fun B U φ V w a hb r => h' B U φ V w a hb ⟨r.size, r.defers, fun t => h t _ _ _ _ _ (r.frame t), r.heap, r.base, r.own, r.ownk⟩
theorem aget_cons (F : AF) (d t : Nat) (v : AV) : aget ((d, v) :: F) t = if d = t then v else aget F t := by
  simp only [aget]
  by_cases e : d = t
  · subst e; simp
  · have : Nat.beq d t = false := by rw [← Bool.not_eq_true]; simpa using e
    rw [this, if_neg e]; rfl
theorem aw_slot (t : Nat) (a : AV) (h : Le (aget F t) a) (h' : AW P q n k0 c Q ((t, a) :: F) H) : AW P q n k0 c Q F H :=
  aw_le (fun t' => by rw [aget_cons]; split
                      · rename_i e; subst e; exact h
                      · exact .refl _) h'
def restrict (F : AF) : List Nat → AF
  | [] => []
  | t :: ts => (t, aget F t) :: restrict F ts
theorem restrict_get (F : AF) : ∀ (ts : List Nat) (t : Nat), Le (aget F t) (aget (restrict F ts) t)
  | [], t => le_any _
  | t' :: ts, t => by
    simp only [restrict]; rw [aget_cons]; split
    · rename_i e; subst e; exact .refl _
    · exact restrict_get F ts t
theorem aw_restrict (ts : List Nat) (h : AW P q n k0 c Q (restrict F ts) H) : AW P q n k0 c Q F H := aw_le (fun t => restrict_get F ts t) h
/-- what was gathered never changes from now on -/
theorem aw_freeze (t : Nat) {e sz m : Nat} {g : Nat → List AV} (ha : Acc k0 H (aget F t) e sz m g) (h : ∀ H', Oth H H' (accId (aget F t)) → AW P q n k0 c Q ((t, .lst false sz m g) :: F) H') : AW P q n k0 c Q F H := by
  rcases ha with ⟨h1, h2⟩ | ⟨id, b, hk, h2, hb, hbe, hbs, hbn, hbg⟩
  · subst h1
    exact aw_slot t _ (by rw [h2]; exact le_nil _ _ _) (h H ⟨Nat.le_refl _, fun _ _ _ => rfl⟩)
  · intro B U φ V w a hq r
    obtain ⟨g', s⟩ := freeze_step r.good hk hb
    have hr : Rel n k0 B U φ (fun x => V x ∨ x = (φ id).1) w ((t, .lst false sz m g) :: F) (H.set id none) a := by
      refine ⟨r.size, r.defers, fun t' => ?_, g'.heap, g'.base, g'.own, g'.ownk⟩
      rw [aget_cons]
      split
      · rename_i e; subst e
        have h3 := r.frame t
        rw [h2] at h3
        obtain ⟨o, hv, _, h4, h5⟩ := h3.inv_arr
        have ho : o = 0 := by rcases h5 with h | h <;> omega
        subst ho
        obtain ⟨cur, hc, hcs, hbn', hpm, hbl, hcell⟩ := r.heap.blk id b hb
        rw [hv]
        refine VRel.mk_lst (e := b.ety) (fz := (0, 0)) (cur := cur) (by omega) (by omega) (fun h => by cases h) (.inr rfl) hc (fun i hi => by rw [← hbg i hi, ← hbs]; exact hbl i (by omega)) fun i j y hi hy => ?_
        rw [← hbg i hi] at hy
        obtain ⟨u, k1, k2, k3⟩ := hcell i j y (by omega) hy
        rw [hbs] at k1
        exact ⟨u, by rw [Nat.zero_add]; exact k1, k2, k3.step r.heap s⟩
      · exact (r.frame t').step r.heap s
    exact wp_mono (h (H.set id none) ⟨by simp, fun j hj hne => by rw [List.getElem?_set, if_neg (fun e => hne (by rw [h2, e]; rfl))]⟩ B U φ _ w a hq hr) fun _ _ _ hl => hl.trans s

/-- a slice's bound -/
def bnd (ρ : Operand → AV) (d : Int) : Option Operand → Int → Prop
  | none, l => l = d
  | some y, l => ∃ k, ρ y = .p (.int k l)
theorem bnd_run {_P : Program} {U : Nat → Prop} {φ : Pl} {V : Nat → Prop} {w : World} {ρ : Operand → AV} {ρc : Operand → Value} {y : Option Operand} {l d : Int} (h : bnd ρ d y l) (hr : ∀ x, y = some x → VRel U φ V w (ρ x) (ρc x)) :
    (y = none ∧ l = d) ∨ ∃ k, y.map ρc = some (.int k l) := by
  cases y with
  | none => exact .inl ⟨rfl, h⟩
  | some x =>
    obtain ⟨k, hk⟩ := h
    have := hr x rfl
    rw [hk] at this
    exact .inr ⟨k, by rw [Option.map_some, this.inv_p]⟩
theorem run_sliceBound {P : Program} (w : World) (k : IntKind) (l : Int) (y : Nat) (code : BoundsCode) (h0 : 0 ≤ l) (h1 : l ≤ y) : (Instr.sliceBound (.int k l) y code).run P w = .ok l.toNat w := by
  simp [Instr.sliceBound, asIntOf, h0, h1]
theorem run_slice {P : Program} (w : World) (t e : TypeId) (ht : P.underlying t = some (.slice e)) {es : Nat} (hs : (sizeOf e).run P w = .ok es w) (a : Option Addr) (m c : Nat) {ρc : Operand → Value} {lo hi mx : Option Operand} {l h x : Int}
    (hlo : (lo = none ∧ l = 0) ∨ ∃ k, lo.map ρc = some (.int k l)) (hhi : (hi = none ∧ h = m) ∨ ∃ k, hi.map ρc = some (.int k h)) (hmx : (mx = none ∧ x = c) ∨ ∃ k, mx.map ρc = some (.int k x) ∧ hi ≠ none) (h0 : 0 ≤ l) (h1 : l ≤ h) (h2 : h ≤ x) (h3 : x ≤ c) :
    (Instr.sliceAt t (.slice a m c) (lo.map ρc) (hi.map ρc) (mx.map ρc)).run P w = .ok (.slice (if x.toNat = l.toNat then a else a.map (·.add (l.toNat * es))) (h.toNat - l.toNat) (x.toNat - l.toNat)) w := by
  have key : (Instr.sliceBounds true m c (lo.map ρc) (hi.map ρc) (mx.map ρc)).run P w = .ok (l.toNat, h.toNat, x.toNat) w := by
    unfold Instr.sliceBounds
    rcases hmx with ⟨rfl, hx⟩ | ⟨kx, hx, hne⟩
    · subst hx
      rcases hhi with ⟨rfl, hh⟩ | ⟨kh, hh⟩
      · subst hh
        rcases hlo with ⟨rfl, hl⟩ | ⟨kl, hl⟩
        · subst hl; simp
        · simp [hl, run_sliceBound (P := P) w kl l m _ h0 (by omega)]
      · have := fun code => run_sliceBound (P := P) w kh h c code (by omega) (by omega)
        rcases hlo with ⟨rfl, hl⟩ | ⟨kl, hl⟩
        · subst hl; simp [hh, this]
        · simp [hl, hh, this, fun code => run_sliceBound (P := P) w kl l h.toNat code h0 (by omega)]
    · have hx' := fun code => run_sliceBound (P := P) w kx x c code (by omega) (by omega)
      rcases hhi with ⟨rfl, hh⟩ | ⟨kh, hh⟩
      · exact absurd rfl hne
      · have := fun code => run_sliceBound (P := P) w kh h x.toNat code (by omega) (by omega)
        rcases hlo with ⟨rfl, hl⟩ | ⟨kl, hl⟩
        · subst hl; simp [hx, hx', hh, this]
        · simp [hx, hx', hl, hh, this, fun code => run_sliceBound (P := P) w kl l h.toNat code h0 (by omega)]
  simp [Instr.sliceAt, run_underlying ht, Instr.slice, key, hs]
theorem ao_slice (hT : TTok P T) {o : Oper} {ρ : Operand → AV} (t : TypeId) (y : Operand) (lo hi : Option Operand) (ho : o.op = .slice t y lo hi none) {ti : TI} {e es : Nat} {ek : TK} (hti : tget T t = some ti) (hk : ti.kind = .slice e) (he : aslot T e = some (ek, es))
    {m : Nat} {l h : Int} (hl : bnd ρ 0 lo l) (hh : bnd ρ m hi h) (h0 : 0 ≤ l) (h1 : l ≤ h) (h2 : h ≤ m) {v : AV}
    (hv : (∃ tg g, ρ y = .lst tg es m g ∧ v = .lst false es (h.toNat - l.toNat) (fun i => g (l.toNat + i))) ∨ ∃ id i, ρ y = .arr id es i m ∧ v = .arr id es (i + l.toNat) (h.toNat - l.toNat)) : AO P q k0 o ρ H (fun r H' => r = v ∧ H' = H) := by
  refine ao_keep fun U φ V w ρc hhr hr => ?_
  have hy := hr y (by simp [ho, Op.operands])
  have b1 := bnd_run (_P := P) hl fun x hx => hr x (by subst hx; simp [ho, Op.operands])
  have b2 := bnd_run (_P := P) hh fun x hx => hr x (by subst hx; simp [ho, Op.operands])
  have ht := tt_slice hT hti hk
  have hsz := tt_size_slot hT he w
  have run : ∀ a c, ρc y = .slice a m c → m ≤ c → (execOp ρc o).run P w = .ok (.value (.slice (if c = l.toNat then a else a.map (·.add (l.toNat * es))) (h.toNat - l.toNat) (c - l.toNat))) w := by
    intro a c hb hc
    have := run_slice (P := P) w t e ht hsz a m c (ρc := ρc) (lo := lo) (hi := hi) (mx := none) (l := l) (h := h) (x := c) b1 b2 (.inl ⟨rfl, rfl⟩) h0 h1 (by omega) (Int.le_refl _)
    simp only [Int.toNat_natCast] at this
    simp only [execOp, ho, hb]
    rw [Sem.run_bind, this]; rfl
  rcases hv with ⟨tg, g, hx, rfl⟩ | ⟨id, i, hx, rfl⟩
  · rw [hx] at hy
    obtain ⟨a, c, hb, h3, h4, _, h6⟩ := hy.inv_lst
    refine ⟨_, run a c hb h3, ?_⟩
    rcases Nat.eq_zero_or_pos (h.toNat - l.toNat) with hz | hz
    · rw [hz]; exact .lst0 _ _ _ _ _ (by omega) (fun h => by cases h)
    · obtain ⟨b, off, cur, et, fz, rfl, hV, hc, hgl, hcell⟩ := h6 (by omega)
      rw [if_neg (by omega), Option.map_some, addr_add]
      refine VRel.mk_lst (by omega) (by omega) (fun h => by cases h) hV hc (fun j hj => hgl _ (by omega)) fun j k z hj hz => ?_
      obtain ⟨u, k1, k2⟩ := hcell (l.toNat + j) k z (by omega) hz
      exact ⟨u, by rw [← k1]; congr 1; rw [Nat.add_mul]; omega, k2⟩
  · rw [hx] at hy
    obtain ⟨o', hb, hid, h3, h4⟩ := hy.inv_arr
    refine ⟨_, run _ _ hb (by omega), ?_⟩
    have e1 : (φ id).2 - i - l.toNat = (φ id).2 - (i + l.toNat) := by omega
    rw [e1]
    split
    · rename_i hc
      refine .arr id es (i + l.toNat) _ o' hid (by omega) ?_
      rcases Nat.eq_zero_or_pos (i + l.toNat) with hz | hz
      · have hi : i = 0 := by omega
        have hl0 : l.toNat = 0 := by omega
        rcases h4 with h4 | h4
        · left; rw [h4, hl0]; rfl
        · omega
      · right; omega
    · rename_i hc
      rw [Option.map_some, addr_add]
      refine .arr id es (i + l.toNat) _ _ hid (by omega) (.inl ?_)
      rw [Nat.add_mul]
      rcases h4 with h4 | h4
      · rw [h4]
      · omega
end
end Go.Proofs.Ytphjglbbhanmpaa.Ab
