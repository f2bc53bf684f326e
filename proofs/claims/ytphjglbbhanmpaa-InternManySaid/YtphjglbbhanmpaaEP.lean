/- The rules as a walk takes them. -/
import Derived.Test.YtphjglbbhanmpaaEO
namespace Go.Proofs.Ytphjglbbhanmpaa.Ab
open Go Go.RowKit

/-- is an operation done? -/
def gst (ops : Array Oper) (F : AF) : Option (Nat × Bool) → Option Bool
  | none => some true
  | some (g, want) => match gslot ops g with
    | some t => match aget F t with
      | .p (.bool b) => some (match b, want with
        | true, true => true
        | false, false => true
        | true, false => false
        | false, true => false)
      | .p (.tuple _) => some false
      | _ => none
    | none => none
section
variable {P : Program} {T : TT} {q : Bool} {n k0 : Nat} {ops : Array Oper} {os : List Oper} {K : AF → AH → Prop} {F : AF} {H : AH} {d : Nat} {op : Op} {ty : TypeId} {pos : String} {after : Array Edge} {gd : Option (Nat × Bool)}
theorem sq_nil (h : K F H) : SQ P q n k0 ops [] K F H := h
theorem sq_ao (hg : gst ops F gd = some true) {o : Oper} (hgd : o.guard = gd) (hd : dok n o.dst = true) (h : AO P q k0 o (aev F) H fun r H' => SQ P q n k0 ops os K (aput F o.dst r) H') : SQ P q n k0 ops (o :: os) K F H := by
  refine ⟨hd, ?_⟩
  rw [hgd]
  cases gd with
  | none => exact h
  | some g =>
    obtain ⟨g, want⟩ := g
    simp only [gst] at hg
    cases hs : gslot ops g with
    | none => rw [hs] at hg; cases hg
    | some t =>
      simp only [hs] at hg
      split at hg
      · rename_i b hb
        have : b = want := by cases b <;> cases want <;> simp at hg ⊢
        subst this
        exact ⟨t, hs, .inl ⟨hb, h⟩⟩
      · cases hg
      · cases hg
theorem sq_skip (hg : gst ops F gd = some false) (hd : dok n (some d) = true) (h : SQ P q n k0 ops os K ((d, .p undef) :: F) H) : SQ P q n k0 ops (⟨some d, op, ty, pos, after, gd⟩ :: os) K F H := by
  refine ⟨hd, ?_⟩
  cases gd with
  | none => cases hg
  | some g =>
    obtain ⟨g, want⟩ := g
    simp only [gst] at hg
    cases hs : gslot ops g with
    | none => rw [hs] at hg; cases hg
    | some t =>
      simp only [hs] at hg
      split at hg
      · rename_i b hb
        have : b = !want := by cases b <;> cases want <;> simp at hg ⊢
        subst this
        exact ⟨t, hs, .inr ⟨.inl hb, h⟩⟩
      · rename_i vs hb
        exact ⟨t, hs, .inr ⟨.inr ⟨vs, hb⟩, h⟩⟩
      · cases hg
theorem sq_pure (hT : TTok P T) (hz : TTz T) (ov : Bool) {c : Prop} {v : AV} (hg : gst ops F gd = some true) (ha : aop T ov ⟨some d, op, ty, pos, after, gd⟩ (aev F) H.length = some (c, v, none)) (hd : dok n (some d) = true) (hc : c) (h : SQ P q n k0 ops os K ((d, v) :: F) H) : SQ P q n k0 ops (⟨some d, op, ty, pos, after, gd⟩ :: os) K F H :=
  sq_ao hg rfl hd ((aop_ok hT hz ha hc).mono fun r H' ⟨hr, hH⟩ => by subst hr hH; exact h)
theorem sq_new (hT : TTok P T) (hz : TTz T) (ov : Bool) {c : Prop} {v : AV} {b : Blk} (hg : gst ops F gd = some true) (ha : aop T ov ⟨some d, op, ty, pos, after, gd⟩ (aev F) H.length = some (c, v, some b)) (hd : dok n (some d) = true) (hc : c) (h : SQ P q n k0 ops os K ((d, v) :: F) (H ++ [some b])) : SQ P q n k0 ops (⟨some d, op, ty, pos, after, gd⟩ :: os) K F H :=
  sq_ao hg rfl hd ((aop_ok hT hz ha hc).mono fun r H' ⟨hr, hH⟩ => by subst hr hH; exact h)
theorem sq_t (hT : TTok P T) (hz : TTz T) {bop : BinOp} {bt yt : TypeId} {bx bY : Operand} {c p : Prop} {dp : Decidable p} (hg : gst ops F gd = some true) (ha : aop T true ⟨some d, .binOp bop bt bx bY yt, ty, pos, after, gd⟩ (aev F) H.length = some (c, .p (.bool (@decide p dp)), none)) (hd : dok n (some d) = true) (hc : c) (hp : p) (h : SQ P q n k0 ops os K ((d, .p (.bool true)) :: F) H) : SQ P q n k0 ops (⟨some d, .binOp bop bt bx bY yt, ty, pos, after, gd⟩ :: os) K F H :=
  sq_pure hT hz true hg ha hd hc (by rw [decide_eq_true hp]; exact h)
theorem sq_f (hT : TTok P T) (hz : TTz T) {bop : BinOp} {bt yt : TypeId} {bx bY : Operand} {c p : Prop} {dp : Decidable p} (hg : gst ops F gd = some true) (ha : aop T true ⟨some d, .binOp bop bt bx bY yt, ty, pos, after, gd⟩ (aev F) H.length = some (c, .p (.bool (@decide p dp)), none)) (hd : dok n (some d) = true) (hc : c) (hp : ¬ p) (h : SQ P q n k0 ops os K ((d, .p (.bool false)) :: F) H) : SQ P q n k0 ops (⟨some d, .binOp bop bt bx bY yt, ty, pos, after, gd⟩ :: os) K F H :=
  sq_pure hT hz true hg ha hd hc (by rw [decide_eq_false hp]; exact h)
/-- a call; its arguments stand for those of the contract -/
theorem sq_call {f : FuncId} {xs : Array Operand} {ats : Array TypeId} {as as' : List AV} (hg : gst ops F gd = some true) (ha : fl (xs.toList.map (aev F)) some = some as) (hd : dok n (some d) = true) (hl : LeL as as') (h : SC q P f as' H fun r H' => SQ P q n k0 ops os K ((d, r) :: F) H') : SQ P q n k0 ops (⟨some d, .call ⟨.value (.func f), xs, ats⟩, ty, pos, after, gd⟩ :: os) K F H := by
  rw [fl_eq] at ha
  cases ha
  exact sq_ao hg rfl hd (ao_call ⟨.value (.func f), xs, ats⟩ f rfl rfl (h.le hl))
theorem PS.sc {f : FuncId} {as : List AV} {r : AV} (h : PS P f as r) {Q : AV → AH → Prop} (hq : Q r H) : SC q P f as H Q := by
  have := (h H).mono (Q' := Q) fun r' H' ⟨h1, h2⟩ => by subst h1 h2; exact hq
  cases q
  · exact this.weak
  · exact this
theorem sq_ps {f : FuncId} {xs : Array Operand} {ats : Array TypeId} {as as' : List AV} {r : AV} (hg : gst ops F gd = some true) (ha : fl (xs.toList.map (aev F)) some = some as) (hd : dok n (some d) = true) (hps : PS P f as' r) (hl : LeL as as') (h : SQ P q n k0 ops os K ((d, r) :: F) H) : SQ P q n k0 ops (⟨some d, .call ⟨.value (.func f), xs, ats⟩, ty, pos, after, gd⟩ :: os) K F H :=
  sq_call hg ha hd hl (hps.sc h)

-- a region that draws
variable {N : AH}
theorem rg_ao (hg : gst ops F gd = some true) {o : Oper} (hgd : o.guard = gd) (hd : dok n o.dst = true) {r : AV} {D : AH} (h : AO P true (H.length + N.length) o (aev F) (H ++ nones N) fun r' H' => r' = r ∧ H' = H ++ nones N ++ D) (h2 : RG P n ops H os K (aput F o.dst r) (N ++ D)) : RG P n ops H (o :: os) K F N := by
  refine ⟨(r, D), ⟨hd, ?_⟩, h2⟩
  rw [hgd]
  cases gd with
  | none => exact h
  | some g =>
    obtain ⟨g, want⟩ := g
    simp only [gst] at hg
    cases hs : gslot ops g with
    | none => rw [hs] at hg; cases hg
    | some t =>
      simp only [hs] at hg
      split at hg
      · rename_i b hb
        have : b = want := by cases b <;> cases want <;> simp at hg ⊢
        subst this
        exact ⟨t, hs, .inl ⟨hb, h⟩⟩
      · cases hg
      · cases hg
theorem rg_skip (hg : gst ops F gd = some false) (hd : dok n (some d) = true) (h : RG P n ops H os K ((d, .p undef) :: F) N) : RG P n ops H (⟨some d, op, ty, pos, after, gd⟩ :: os) K F N := by
  refine ⟨(.p undef, []), ⟨hd, ?_⟩, by rw [List.append_nil]; exact h⟩
  cases gd with
  | none => cases hg
  | some g =>
    obtain ⟨g, want⟩ := g
    simp only [gst] at hg
    cases hs : gslot ops g with
    | none => rw [hs] at hg; cases hg
    | some t =>
      simp only [hs] at hg
      split at hg
      · rename_i b hb
        have : b = !want := by cases b <;> cases want <;> simp at hg ⊢
        subst this
        exact ⟨t, hs, .inr ⟨.inl hb, rfl⟩⟩
      · rename_i vs hb
        exact ⟨t, hs, .inr ⟨.inr ⟨vs, hb⟩, rfl⟩⟩
      · cases hg
theorem nones_len (H N : AH) : (H ++ nones N).length = H.length + N.length := by simp [nones]
theorem rg_pure (hT : TTok P T) (hz : TTz T) (ov : Bool) {c : Prop} {v : AV} (hg : gst ops F gd = some true) (ha : aop T ov ⟨some d, op, ty, pos, after, gd⟩ (aev F) (H.length + N.length) = some (c, v, none)) (hd : dok n (some d) = true) (hc : c) (h : RG P n ops H os K ((d, v) :: F) N) : RG P n ops H (⟨some d, op, ty, pos, after, gd⟩ :: os) K F N :=
  rg_ao (r := v) (D := []) hg rfl hd (AO.mono (aop_ok hT hz (by rw [nones_len]; exact ha) hc) fun r H' e => by rw [e.1, e.2]; exact ⟨rfl, by simp⟩) (by rw [List.append_nil]; exact h)
theorem rg_new (hT : TTok P T) (hz : TTz T) (ov : Bool) {c : Prop} {v : AV} {b : Blk} (hg : gst ops F gd = some true) (ha : aop T ov ⟨some d, op, ty, pos, after, gd⟩ (aev F) (H.length + N.length) = some (c, v, some b)) (hd : dok n (some d) = true) (hc : c) (h : RG P n ops H os K ((d, v) :: F) (N ++ [some b])) : RG P n ops H (⟨some d, op, ty, pos, after, gd⟩ :: os) K F N :=
  rg_ao (r := v) (D := [some b]) hg rfl hd (AO.mono (aop_ok hT hz (by rw [nones_len]; exact ha) hc) fun r H' e => by rw [e.1, e.2]; exact ⟨rfl, rfl⟩) h
theorem rg_t (hT : TTok P T) (hz : TTz T) {bop : BinOp} {bt yt : TypeId} {bx bY : Operand} {c p : Prop} {dp : Decidable p} (hg : gst ops F gd = some true) (ha : aop T true ⟨some d, .binOp bop bt bx bY yt, ty, pos, after, gd⟩ (aev F) (H.length + N.length) = some (c, .p (.bool (@decide p dp)), none)) (hd : dok n (some d) = true) (hc : c) (hp : p) (h : RG P n ops H os K ((d, .p (.bool true)) :: F) N) : RG P n ops H (⟨some d, .binOp bop bt bx bY yt, ty, pos, after, gd⟩ :: os) K F N :=
  rg_pure hT hz true hg ha hd hc (by rw [decide_eq_true hp]; exact h)
theorem rg_f (hT : TTok P T) (hz : TTz T) {bop : BinOp} {bt yt : TypeId} {bx bY : Operand} {c p : Prop} {dp : Decidable p} (hg : gst ops F gd = some true) (ha : aop T true ⟨some d, .binOp bop bt bx bY yt, ty, pos, after, gd⟩ (aev F) (H.length + N.length) = some (c, .p (.bool (@decide p dp)), none)) (hd : dok n (some d) = true) (hc : c) (hp : ¬ p) (h : RG P n ops H os K ((d, .p (.bool false)) :: F) N) : RG P n ops H (⟨some d, .binOp bop bt bx bY yt, ty, pos, after, gd⟩ :: os) K F N :=
  rg_pure hT hz true hg ha hd hc (by rw [decide_eq_false hp]; exact h)
theorem rg_ps {f : FuncId} {xs : Array Operand} {ats : Array TypeId} {as as' : List AV} {r : AV} (hg : gst ops F gd = some true) (ha : fl (xs.toList.map (aev F)) some = some as) (hd : dok n (some d) = true) (hps : PS P f as' r) (hl : LeL as as') (h : RG P n ops H os K ((d, r) :: F) N) : RG P n ops H (⟨some d, .call ⟨.value (.func f), xs, ats⟩, ty, pos, after, gd⟩ :: os) K F N := by
  rw [fl_eq] at ha
  cases ha
  exact rg_ao (r := r) (D := []) hg rfl hd (ao_call ⟨.value (.func f), xs, ats⟩ f rfl rfl ((hps.sc (q := true) (Q := fun r' H' => r' = r ∧ H' = H ++ nones N ++ []) ⟨rfl, by simp⟩).le hl)) (by rw [List.append_nil]; exact h)
theorem rg_load (hT : TTok P T) {t : TypeId} {x : Operand} {id sz i off : Nat} {b : Blk} {v : AV} (hg : gst ops F gd = some true) (hx : aev F x = .ref id sz i off) (hd : dok n (some d) = true) (hb : H[id]? = some (some b)) (hs : b.sz = sz) (hi : i < b.n) (hv : apart T t ((b.g i).drop off) = some v) (h : RG P n ops H os K ((d, v) :: F) N) : RG P n ops H (⟨some d, .load t x, ty, pos, after, gd⟩ :: os) K F N :=
  rg_ao (r := v) (D := []) hg rfl hd ((ao_load hT t x rfl hx (by rw [List.getElem?_append_left (List.getElem?_eq_some_iff.1 hb).1]; exact hb) hs hi hv).mono fun r H' ⟨hr, hH⟩ => by subst hr hH; simp) (by rw [List.append_nil]; exact h)
theorem sq_load (hT : TTok P T) {t : TypeId} {x : Operand} {id sz i off : Nat} {b : Blk} {v : AV} (hg : gst ops F gd = some true) (hx : aev F x = .ref id sz i off) (hd : dok n (some d) = true) (hb : H[id]? = some (some b)) (hs : b.sz = sz) (hi : i < b.n) (hv : apart T t ((b.g i).drop off) = some v) (h : SQ P q n k0 ops os K ((d, v) :: F) H) : SQ P q n k0 ops (⟨some d, .load t x, ty, pos, after, gd⟩ :: os) K F H :=
  sq_ao hg rfl hd (AO.mono (ao_load hT t x rfl hx hb hs hi hv) fun r H' e => by rw [e.1, e.2]; exact h)
theorem sq_store (hT : TTok P T) {t : TypeId} {x y : Operand} {ti : TI} {id sz i off : Nat} {b : Blk} {new : List AV} {ds : Option Nat} (hg : gst ops F gd = some true) (hx : aev F x = .ref id sz i off) (hd : dok n ds = true) (hb : H[id]? = some (some b)) (hs : b.sz = sz) (hi : i < b.n)
    (hti : tget T t = some ti) (hy : acells (aev F y) = some new) (hl : new.length = ti.size) (hfit : off + new.length ≤ sz) (h : SQ P q n k0 ops os K (aput F ds .any) (H.set id (some (b.put i off new)))) : SQ P q n k0 ops (⟨ds, .store t x y, ty, pos, after, gd⟩ :: os) K F H :=
  sq_ao hg rfl hd (AO.mono (ao_store hT t x y rfl hx hb hs hi hti hy hl hfit) fun r H' e => by rw [e.1, e.2]; exact h)
theorem sq_append (hT : TTok P T) (hz : TTz T) {x y : Operand} {t e : TypeId} {ts : TI} {ei : TI} (hg : gst ops F gd = some true) (hd : dok n (some d) = true) (hts : tget T t = some ts) (htk : ts.kind = .slice e) (hei : tget T e = some ei) (hp : 0 < ei.size) {n' : Nat} {g0 : Nat → List AV} (hx : Acc k0 H (aev F x) e ei.size n' g0) {m : Nat} {g : Nat → List AV} (hy : Src H (aev F y) ei.size m g)
    (hm : (n' + m) * ei.bytes ≤ 140737488355328) (hm2 : n' + m ≤ 9223372036854775807)
    (hK : ∀ r H', Acc k0 H' r e ei.size (n' + m) (fun j => if j < n' then g0 j else g (j - n')) → Oth H H' (accId (aev F x)) → (accId r = accId (aev F x) ∨ ∃ id, accId r = some id ∧ H.length ≤ id) → SQ P q n k0 ops os K ((d, r) :: F) H') : SQ P q n k0 ops (⟨some d, .call ⟨.builtin .append, #[x, y], #[t, t]⟩, ty, pos, after, gd⟩ :: os) K F H :=
  sq_ao hg rfl hd (ao_append hT hz ⟨⟨_, rfl, rfl, rfl, rfl⟩, ⟨ts, hts, htk⟩, hei, hp⟩ hx hy hm hm2 hK)
theorem sq_clone (hT : TTok P T) {x y : Operand} {t e : TypeId} {ts : TI} {ei : TI} (hg : gst ops F gd = some true) (hd : dok n (some d) = true) (hts : tget T t = some ts) (htk : ts.kind = .slice e) (hei : tget T e = some ei) (hp : 0 < ei.size) (hx : aev F x = .p (.slice none 0 0) ∨ ∃ sz g, aev F x = .lst true sz 0 g) {m : Nat} {g : Nat → List AV} (hy : Src H (aev F y) ei.size m g)
    (hm : m * ei.bytes ≤ 140737488355328) (hm2 : m ≤ 9223372036854775807)
    (h : SQ P q n k0 ops os K ((d, .lst false ei.size m g) :: F) H) : SQ P q n k0 ops (⟨some d, .call ⟨.builtin .append, #[x, y], #[t, t]⟩, ty, pos, after, gd⟩ :: os) K F H :=
  sq_ao hg rfl hd ((ao_clone hT ⟨⟨_, rfl, rfl, rfl, rfl⟩, ⟨ts, hts, htk⟩, hei, hp⟩ hx hy hm hm2).mono fun r H' ⟨hr, hH⟩ => by subst hr hH; exact h)

-- code
variable {Q : AQ} {x y z : Code} {id : Nat}
theorem aw_rseq (h : SQ P q n k0 ops ops.toList (fun F H => AW P q n k0 y Q F H) F H) : AW P q n k0 (.seq (.region id ops false) y) Q F H := aw_seq (aw_region h)
theorem aw_dseq (hm : P.follows .mixedOrders = true) (k : Nat) (hok : drawOk ops k = true) (hrg : RG P n ops H (ops.toList.take k) (fun F' N => SQ P q n k0 ops (ops.toList.drop k) (fun F H => AW P q n k0 y Q F H) F' (H ++ N)) F []) : AW P q n k0 (.seq (.region id ops true) y) Q F H := aw_seq (aw_draw k hm hok hrg)
/-- an operation that turns memory -/
def turns : Op → Bool
  | .store _ _ _ => true
  | .call ⟨.builtin .append, _, _⟩ => true
  | .call ⟨.builtin .copy, _, _⟩ => true
  | .call ⟨.builtin .clear, _, _⟩ => true
  | .mapUpdate _ _ _ _ => true
  | .insert _ _ _ _ => true
  | _ => false
def calls : Op → Bool
  | .call ⟨.value _, _, _⟩ => true
  | _ => false
def hd0 (ops : Array Oper) : Nat := go ops.toList
where go : List Oper → Nat
  | [] => 0
  | o :: os => bif turns o.op then 0 else go os + 1
theorem rg_fin {ops' : Array Oper} {os' : List Oper} {K' : AF → AH → Prop} (h : SQ P q n k0 ops' os' K' F H) : RG P n ops H [] (fun F' N => SQ P q n k0 ops' os' K' F' (H ++ N)) F [] := by
  show SQ P q n k0 ops' os' K' F (H ++ [])
  rw [List.append_nil]; exact h
theorem aw_d0 (hm : P.follows .mixedOrders = true) (hok : drawOk ops (hd0 ops) = true) (hrg : RG P n ops H (ops.toList.take (hd0 ops)) (fun F' N => SQ P q n k0 ops (ops.toList.drop (hd0 ops)) (Q .normal) F' (H ++ N)) F []) : AW P q n k0 (.region id ops true) Q F H := aw_draw _ hm hok hrg
theorem aw_d0seq (hm : P.follows .mixedOrders = true) (hok : drawOk ops (hd0 ops) = true) (hrg : RG P n ops H (ops.toList.take (hd0 ops)) (fun F' N => SQ P q n k0 ops (ops.toList.drop (hd0 ops)) (fun F H => AW P q n k0 y Q F H) F' (H ++ N)) F []) : AW P q n k0 (.seq (.region id ops true) y) Q F H := aw_dseq hm _ hok hrg
end
/-- side conditions of the walk, by themselves -/
theorem sd {p : Prop} (h : p := by first | exact True.intro | omega | assumption | (dsimp only; omega) | ((try dsimp only); simp only [List.length]; omega)) : p := h
theorem so {p : Prop} (h : p := by first | omega | (dsimp only; omega) | ((try dsimp only); simp only [List.length]; omega)) : p := h
end Go.Proofs.Ytphjglbbhanmpaa.Ab
