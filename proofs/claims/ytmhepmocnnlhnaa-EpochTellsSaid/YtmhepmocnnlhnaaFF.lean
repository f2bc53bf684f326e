/- The rules of a walk, by short names: what is reckoned stands behind, and proves itself. -/
import Derived.Test.YtmhepmocnnlhnaaFE
namespace Go.Proofs.Ytmhepmocnnlhnaa.Ab
open Go Go.RowKit
section
variable {q : Bool} {n k0 : Nat} {ops : Array Oper} {os : List Oper} {K : AF → AH → Prop} {F : AF} {H N : AH} {d : Nat} {op : Op} {ty : TypeId} {pos : String} {after : Array Edge} {gd : Option (Nat × Bool)}
theorem sm {x : Operand} {v : AV} (h : SQ Try.prog q n k0 ops os K ((d, v) :: F) H) (hg : gst ops F gd = some true := by exact rfl) (ha : fv (aev F x) some = some v := by exact rfl) (hd : dok n (some d) = true := by exact rfl) :
    SQ Try.prog q n k0 ops (⟨some d, .move x, ty, pos, after, gd⟩ :: os) K F H :=
  sq_move hg ha hd h
theorem sa {x : Operand} {v : AV} (h : SQ Try.prog q n k0 ops os K ((d, v) :: F) H) (hg : gst ops F gd = some true := by exact rfl) (ha : fv (aev F x) some = some v := by exact rfl) (hd : dok n (some d) = true := by exact rfl) :
    SQ Try.prog q n k0 ops (⟨some d, .assign x, ty, pos, after, gd⟩ :: os) K F H :=
  sq_assign hg ha hd h
theorem ss  (h : SQ Try.prog q n k0 ops os K ((d, .p undef) :: F) H) (hg : gst ops F gd = some false := by exact rfl)  (hd : dok n (some d) = true := by exact rfl) :
    SQ Try.prog q n k0 ops (⟨some d, op, ty, pos, after, gd⟩ :: os) K F H :=
  sq_skip hg hd h
theorem st {bop : BinOp} {bt yt : TypeId} {bx bY : Operand} {c p : Prop} {dp : Decidable p} (h : SQ Try.prog q n k0 ops os K ((d, .p (.bool true)) :: F) H) (hg : gst ops F gd = some true := by exact rfl) (ha : aop TY true ⟨some d, .binOp bop bt bx bY yt, ty, pos, after, gd⟩ (aev F) H.length = some (c, .p (.bool (@decide p dp)), none) := by exact rfl) (hc : c := by exact True.intro) (hp : p := by exact so) (hd : dok n (some d) = true := by exact rfl) :
    SQ Try.prog q n k0 ops (⟨some d, .binOp bop bt bx bY yt, ty, pos, after, gd⟩ :: os) K F H :=
  sq_t TYok TYz hg ha hd hc hp h
theorem sf {bop : BinOp} {bt yt : TypeId} {bx bY : Operand} {c p : Prop} {dp : Decidable p} (h : SQ Try.prog q n k0 ops os K ((d, .p (.bool false)) :: F) H) (hg : gst ops F gd = some true := by exact rfl) (ha : aop TY true ⟨some d, .binOp bop bt bx bY yt, ty, pos, after, gd⟩ (aev F) H.length = some (c, .p (.bool (@decide p dp)), none) := by exact rfl) (hc : c := by exact True.intro) (hp : ¬ p := by exact so) (hd : dok n (some d) = true := by exact rfl) :
    SQ Try.prog q n k0 ops (⟨some d, .binOp bop bt bx bY yt, ty, pos, after, gd⟩ :: os) K F H :=
  sq_f TYok TYz hg ha hd hc hp h
theorem sp {c : Prop} {v : AV} (h : SQ Try.prog q n k0 ops os K ((d, v) :: F) H) (hg : gst ops F gd = some true := by exact rfl) (ha : aop TY false ⟨some d, op, ty, pos, after, gd⟩ (aev F) H.length = some (c, v, none) := by exact rfl) (hc : c := by exact sd) (hd : dok n (some d) = true := by exact rfl) :
    SQ Try.prog q n k0 ops (⟨some d, op, ty, pos, after, gd⟩ :: os) K F H :=
  sq_pure TYok TYz false hg ha hd hc h
theorem sq {c : Prop} {v : AV} (h : SQ Try.prog q n k0 ops os K ((d, v) :: F) H) (hg : gst ops F gd = some true := by exact rfl) (ha : aop TY true ⟨some d, op, ty, pos, after, gd⟩ (aev F) H.length = some (c, v, none) := by exact rfl) (hc : c := by exact sd) (hd : dok n (some d) = true := by exact rfl) :
    SQ Try.prog q n k0 ops (⟨some d, op, ty, pos, after, gd⟩ :: os) K F H :=
  sq_pure TYok TYz true hg ha hd hc h
theorem sl {t : TypeId} {x : Operand} {id sz i off : Nat} {b : Blk} {v : AV} (h : SQ Try.prog q n k0 ops os K ((d, v) :: F) H) (hg : gst ops F gd = some true := by exact rfl) (hx : aev F x = .ref id sz i off := by exact rfl) (hb : H[id]? = some (some b) := by assumption) (hs : b.sz = sz := by rfl) (hi : i < b.n := by first | exact Nat.zero_lt_one | assumption | omega) (hv : apart TY t ((b.g i).drop off) = some v := by rfl) (hd : dok n (some d) = true := by exact rfl) :
    SQ Try.prog q n k0 ops (⟨some d, .load t x, ty, pos, after, gd⟩ :: os) K F H :=
  sq_load TYok hg hx hd hb hs hi hv h
theorem si {t len : Nat} {parts : Array (Nat × Operand)} {ti ei : TI} {e : TypeId} {cs : List AV} (h : SQ Try.prog q n k0 ops os K ((d, .lst true ei.size len (fun i => (cs.drop (i * ei.size)).take ei.size)) :: F) H) (hg : gst ops F gd = some true := by exact rfl) (hti : tget TY t = some ti := by exact rfl) (hk : ti.kind = .slice e := by exact rfl) (hei : tget TY e = some ei := by exact rfl) (hs : Nat.blt 0 ei.size = true := by exact rfl) (hcs : abuild (fun i => some (i * ei.size, ei.size)) (aev F) ((List.replicate len (ei.zs.map AV.p)).flatten) parts.toList = some cs := by exact rfl) (hlen : Nat.ble (len * ei.size) 16777216 = true := by exact rfl) (hd : dok n (some d) = true := by exact rfl) :
    SQ Try.prog q n k0 ops (⟨some d, .buildSlice t len parts, ty, pos, after, gd⟩ :: os) K F H :=
  sq_lit TYok TYz hg hd hti hk hei hs hcs hlen h
theorem sx {t : TypeId} {x ix : Operand} {i : TI} {len et es : Nat} {ek : TK} {k : IntKind} {m : Int} {cs : List AV} (h : SQ Try.prog q n k0 ops os K ((d, .fref (cs.drop (m.toNat * es))) :: F) H) (hg : gst ops F gd = some true := by exact rfl) (hi : tget TY t = some i := by exact rfl) (hk : i.kind = .array len et := by exact rfl) (he : aslot TY et = some (ek, es) := by exact rfl) (hx : aev F x = .fref cs := by exact rfl) (hix : aev F ix = .p (.int k m) := by exact rfl) (hm : 0 ≤ m ∧ m < len := by exact sd) (hd : dok n (some d) = true := by exact rfl) :
    SQ Try.prog q n k0 ops (⟨some d, .indexAddr t x ix, ty, pos, after, gd⟩ :: os) K F H :=
  sq_ixa TYok hg hi hk he hx hix hd hm h
theorem sy {t : TypeId} {x ix : Operand} {i : TI} {len et es : Nat} {ek : TK} {k : IntKind} {m : Int} {id sz j o' : Nat} (h : SQ Try.prog q n k0 ops os K ((d, .ref id sz j (o' + m.toNat * es)) :: F) H) (hg : gst ops F gd = some true := by exact rfl) (hi : tget TY t = some i := by exact rfl) (hk : i.kind = .array len et := by exact rfl) (he : aslot TY et = some (ek, es) := by exact rfl) (hx : aev F x = .ref id sz j o' := by exact rfl) (hix : aev F ix = .p (.int k m) := by exact rfl) (hm : 0 ≤ m ∧ m < len := by exact sd) (hd : dok n (some d) = true := by exact rfl) :
    SQ Try.prog q n k0 ops (⟨some d, .indexAddr t x ix, ty, pos, after, gd⟩ :: os) K F H :=
  sq_ixr TYok hg hi hk he hx hix hd hm h
theorem sc {f : FuncId} {xs : Array Operand} {ats : Array TypeId} {bs bs' : List AV} {r : AV} (hps : PS Try.prog f bs' r) (h : SQ Try.prog q n k0 ops os K ((d, r) :: F) H) (hg : gst ops F gd = some true := by exact rfl) (ha : fl (xs.toList.map (aev F)) some = some bs := by exact rfl) (hl : LeL bs bs' := by exact LeL.refl _) (hd : dok n (some d) = true := by exact rfl) :
    SQ Try.prog q n k0 ops (⟨some d, .call ⟨.value (.func f), xs, ats⟩, ty, pos, after, gd⟩ :: os) K F H :=
  sq_ps hg ha hd hps hl h
theorem rm {x : Operand} {v : AV} (h : RG Try.prog n ops H os K ((d, v) :: F) N) (hg : gst ops F gd = some true := by exact rfl) (ha : fv (aev F x) some = some v := by exact rfl) (hd : dok n (some d) = true := by exact rfl) :
    RG Try.prog n ops H (⟨some d, .move x, ty, pos, after, gd⟩ :: os) K F N :=
  rg_move hg ha hd h
theorem ra {x : Operand} {v : AV} (h : RG Try.prog n ops H os K ((d, v) :: F) N) (hg : gst ops F gd = some true := by exact rfl) (ha : fv (aev F x) some = some v := by exact rfl) (hd : dok n (some d) = true := by exact rfl) :
    RG Try.prog n ops H (⟨some d, .assign x, ty, pos, after, gd⟩ :: os) K F N :=
  rg_assign hg ha hd h
theorem rs  (h : RG Try.prog n ops H os K ((d, .p undef) :: F) N) (hg : gst ops F gd = some false := by exact rfl)  (hd : dok n (some d) = true := by exact rfl) :
    RG Try.prog n ops H (⟨some d, op, ty, pos, after, gd⟩ :: os) K F N :=
  rg_skip hg hd h
theorem rt {bop : BinOp} {bt yt : TypeId} {bx bY : Operand} {c p : Prop} {dp : Decidable p} (h : RG Try.prog n ops H os K ((d, .p (.bool true)) :: F) N) (hg : gst ops F gd = some true := by exact rfl) (ha : aop TY true ⟨some d, .binOp bop bt bx bY yt, ty, pos, after, gd⟩ (aev F) (H.length + N.length) = some (c, .p (.bool (@decide p dp)), none) := by exact rfl) (hc : c := by exact True.intro) (hp : p := by exact so) (hd : dok n (some d) = true := by exact rfl) :
    RG Try.prog n ops H (⟨some d, .binOp bop bt bx bY yt, ty, pos, after, gd⟩ :: os) K F N :=
  rg_t TYok TYz hg ha hd hc hp h
theorem rf {bop : BinOp} {bt yt : TypeId} {bx bY : Operand} {c p : Prop} {dp : Decidable p} (h : RG Try.prog n ops H os K ((d, .p (.bool false)) :: F) N) (hg : gst ops F gd = some true := by exact rfl) (ha : aop TY true ⟨some d, .binOp bop bt bx bY yt, ty, pos, after, gd⟩ (aev F) (H.length + N.length) = some (c, .p (.bool (@decide p dp)), none) := by exact rfl) (hc : c := by exact True.intro) (hp : ¬ p := by exact so) (hd : dok n (some d) = true := by exact rfl) :
    RG Try.prog n ops H (⟨some d, .binOp bop bt bx bY yt, ty, pos, after, gd⟩ :: os) K F N :=
  rg_f TYok TYz hg ha hd hc hp h
theorem rp {c : Prop} {v : AV} (h : RG Try.prog n ops H os K ((d, v) :: F) N) (hg : gst ops F gd = some true := by exact rfl) (ha : aop TY false ⟨some d, op, ty, pos, after, gd⟩ (aev F) (H.length + N.length) = some (c, v, none) := by exact rfl) (hc : c := by exact sd) (hd : dok n (some d) = true := by exact rfl) :
    RG Try.prog n ops H (⟨some d, op, ty, pos, after, gd⟩ :: os) K F N :=
  rg_pure TYok TYz false hg ha hd hc h
theorem rq {c : Prop} {v : AV} (h : RG Try.prog n ops H os K ((d, v) :: F) N) (hg : gst ops F gd = some true := by exact rfl) (ha : aop TY true ⟨some d, op, ty, pos, after, gd⟩ (aev F) (H.length + N.length) = some (c, v, none) := by exact rfl) (hc : c := by exact sd) (hd : dok n (some d) = true := by exact rfl) :
    RG Try.prog n ops H (⟨some d, op, ty, pos, after, gd⟩ :: os) K F N :=
  rg_pure TYok TYz true hg ha hd hc h
theorem rl {t : TypeId} {x : Operand} {id sz i off : Nat} {b : Blk} {v : AV} (h : RG Try.prog n ops H os K ((d, v) :: F) N) (hg : gst ops F gd = some true := by exact rfl) (hx : aev F x = .ref id sz i off := by exact rfl) (hb : H[id]? = some (some b) := by assumption) (hs : b.sz = sz := by rfl) (hi : i < b.n := by first | exact Nat.zero_lt_one | assumption | omega) (hv : apart TY t ((b.g i).drop off) = some v := by rfl) (hd : dok n (some d) = true := by exact rfl) :
    RG Try.prog n ops H (⟨some d, .load t x, ty, pos, after, gd⟩ :: os) K F N :=
  rg_load TYok hg hx hd hb hs hi hv h
theorem ri {t len : Nat} {parts : Array (Nat × Operand)} {ti ei : TI} {e : TypeId} {cs : List AV} (h : RG Try.prog n ops H os K ((d, .lst true ei.size len (fun i => (cs.drop (i * ei.size)).take ei.size)) :: F) N) (hg : gst ops F gd = some true := by exact rfl) (hti : tget TY t = some ti := by exact rfl) (hk : ti.kind = .slice e := by exact rfl) (hei : tget TY e = some ei := by exact rfl) (hs : Nat.blt 0 ei.size = true := by exact rfl) (hcs : abuild (fun i => some (i * ei.size, ei.size)) (aev F) ((List.replicate len (ei.zs.map AV.p)).flatten) parts.toList = some cs := by exact rfl) (hlen : Nat.ble (len * ei.size) 16777216 = true := by exact rfl) (hd : dok n (some d) = true := by exact rfl) :
    RG Try.prog n ops H (⟨some d, .buildSlice t len parts, ty, pos, after, gd⟩ :: os) K F N :=
  rg_lit TYok TYz hg hd hti hk hei hs hcs hlen h
theorem rx {t : TypeId} {x ix : Operand} {i : TI} {len et es : Nat} {ek : TK} {k : IntKind} {m : Int} {cs : List AV} (h : RG Try.prog n ops H os K ((d, .fref (cs.drop (m.toNat * es))) :: F) N) (hg : gst ops F gd = some true := by exact rfl) (hi : tget TY t = some i := by exact rfl) (hk : i.kind = .array len et := by exact rfl) (he : aslot TY et = some (ek, es) := by exact rfl) (hx : aev F x = .fref cs := by exact rfl) (hix : aev F ix = .p (.int k m) := by exact rfl) (hm : 0 ≤ m ∧ m < len := by exact sd) (hd : dok n (some d) = true := by exact rfl) :
    RG Try.prog n ops H (⟨some d, .indexAddr t x ix, ty, pos, after, gd⟩ :: os) K F N :=
  rg_ixa TYok hg hi hk he hx hix hd hm h
theorem ry {t : TypeId} {x ix : Operand} {i : TI} {len et es : Nat} {ek : TK} {k : IntKind} {m : Int} {id sz j o' : Nat} (h : RG Try.prog n ops H os K ((d, .ref id sz j (o' + m.toNat * es)) :: F) N) (hg : gst ops F gd = some true := by exact rfl) (hi : tget TY t = some i := by exact rfl) (hk : i.kind = .array len et := by exact rfl) (he : aslot TY et = some (ek, es) := by exact rfl) (hx : aev F x = .ref id sz j o' := by exact rfl) (hix : aev F ix = .p (.int k m) := by exact rfl) (hm : 0 ≤ m ∧ m < len := by exact sd) (hd : dok n (some d) = true := by exact rfl) :
    RG Try.prog n ops H (⟨some d, .indexAddr t x ix, ty, pos, after, gd⟩ :: os) K F N :=
  rg_ixr TYok hg hi hk he hx hix hd hm h
theorem rc {f : FuncId} {xs : Array Operand} {ats : Array TypeId} {bs bs' : List AV} {r : AV} (hps : PS Try.prog f bs' r) (h : RG Try.prog n ops H os K ((d, r) :: F) N) (hg : gst ops F gd = some true := by exact rfl) (ha : fl (xs.toList.map (aev F)) some = some bs := by exact rfl) (hl : LeL bs bs' := by exact LeL.refl _) (hd : dok n (some d) = true := by exact rfl) :
    RG Try.prog n ops H (⟨some d, .call ⟨.value (.func f), xs, ats⟩, ty, pos, after, gd⟩ :: os) K F N :=
  rg_ps hg ha hd hps hl h
theorem sw {t : TypeId} {x y : Operand} {ti : TI} {id sz i off : Nat} {b : Blk} {new : List AV} {ds : Option Nat} (hb : H[id]? = some (some b)) (h : ∀ H', H'[id]? = some (some (b.put i off new)) → Oth H H' (some id) → H'.length = H.length → SQ Try.prog q n k0 ops os K (aput F ds .any) H') (hg : gst ops F gd = some true := by exact rfl) (hx : aev F x = .ref id sz i off := by exact rfl) (hd : dok n ds = true := by exact rfl) (hs : b.sz = sz := by rfl) (hi : i < b.n := by first | exact Nat.zero_lt_one | assumption | omega)
    (hti : tget TY t = some ti := by exact rfl) (hy : acells (aev F y) = some new := by exact rfl) (hl : new.length = ti.size := by rfl) (hfit : Nat.ble (off + new.length) sz = true := by exact rfl) : SQ Try.prog q n k0 ops (⟨ds, .store t x y, ty, pos, after, gd⟩ :: os) K F H :=
  sq_storek TYok hg hx hd hb hs hi hti hy hl (Nat.le_of_ble_eq_true hfit) h
theorem nw {c : Prop} {v : AV} {b : Blk} (h : ∀ H', H'[H.length]? = some (some b) → Oth H H' none → H'.length = H.length + 1 → SQ Try.prog q n k0 ops os K ((d, v) :: F) H') (hg : gst ops F gd = some true := by exact rfl) (ha : aop TY false ⟨some d, op, ty, pos, after, gd⟩ (aev F) H.length = some (c, v, some b) := by exact rfl) (hd : dok n (some d) = true := by exact rfl) (hc : c := by exact sd) : SQ Try.prog q n k0 ops (⟨some d, op, ty, pos, after, gd⟩ :: os) K F H :=
  sq_newk TYok TYz false hg ha hd hc h
end
section
variable {q : Bool} {n k0 : Nat} {Q : AQ} {F : AF} {H : AH} {id : Nat} {ops : Array Oper} {y : Code} {z : Operand} {x : Code}
theorem ct (ht : AW Try.prog q n k0 x Q F H) (hc : aev F z = .p (.bool true) := by exact rfl) : AW Try.prog q n k0 (.cond z x y) Q F H := aw_true hc ht
theorem cf (hf : AW Try.prog q n k0 y Q F H) (hc : aev F z = .p (.bool false) := by exact rfl) : AW Try.prog q n k0 (.cond z x y) Q F H := aw_false hc hf
theorem d0s (hrg : RG Try.prog n ops H (ops.toList.take (hd0 ops)) (fun F' N => SQ Try.prog q n k0 ops (ops.toList.drop (hd0 ops)) (fun F H => AW Try.prog q n k0 y Q F H) F' (H ++ N)) F []) (hm : Try.prog.follows .mixedOrders = true := by exact rfl) (hok : drawOk ops (hd0 ops) = true := by kernel_rfl) : AW Try.prog q n k0 (.seq (.region id ops true) y) Q F H := aw_d0seq hm hok hrg
theorem d0r (hrg : RG Try.prog n ops H (ops.toList.take (hd0 ops)) (fun F' N => SQ Try.prog q n k0 ops (ops.toList.drop (hd0 ops)) (Q .normal) F' (H ++ N)) F []) (hm : Try.prog.follows .mixedOrders = true := by exact rfl) (hok : drawOk ops (hd0 ops) = true := by kernel_rfl) : AW Try.prog q n k0 (.region id ops true) Q F H := aw_d0 hm hok hrg
end
end Go.Proofs.Ytmhepmocnnlhnaa.Ab
