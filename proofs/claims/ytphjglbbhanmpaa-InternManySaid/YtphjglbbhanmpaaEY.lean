/- Structs and arrays held against each other. -/
import Derived.Test.YtphjglbbhanmpaaEW
import Derived.Laws.StructEq
import Derived.DeepKeys
namespace Go.Proofs.Ytphjglbbhanmpaa.Ab
open Go Go.RowKit
def citems (f : List Value → List Value → Option Bool) (c : Nat) (cs ds : List Value) : List Nat → Option Bool
  | [] => some true
  | i :: is => match f ((cs.drop (i * c)).take c) ((ds.drop (i * c)).take c), citems f c cs ds is with
    | some a, some b => some (a && b)
    | _, _ => none
def cflds (P : Program) (g : TypeId → List Value → List Value → Option Bool) (cs ds : List Value) : List Field → Option Bool
  | [] => some true
  | f :: fs => bif f.name == "_" then none else match g f.type ((cs.drop f.offset).take (P.cellsOf f.type)) ((ds.drop f.offset).take (P.cellsOf f.type)), cflds P g cs ds fs with
    | some a, some b => some (a && b)
    | _, _ => none
/-- are plain cells of a type the same? none: not of that type -/
def ceq (P : Program) : Nat → TypeId → List Value → List Value → Option Bool
  | 0, _, _, _ => none
  | d + 1, t, cs, ds => match P.underlying t with
    | some .bool => match cs, ds with
      | [.bool a], [.bool b] => some (a == b)
      | _, _ => none
    | some (.int _) => match cs, ds with
      | [.int .i64 a], [.int .i64 b] => some (a == b)
      | _, _ => none
    | some (.array n e) => bif Nat.beq n 0 then none else citems (fun a b => ceq P d e a b) (P.cellsOf e) cs ds (List.range n)
    | some (.struct fs) => bif P.stoodInHeld t then none else cflds P (fun t a b => ceq P d t a b) cs ds fs.toList
    | _ => none
/-- a value of a type from its cells -/
def shaped (P : Program) (t : TypeId) (cs : List Value) : Value := match P.underlying t with
  | some (.array _ _) => .agg cs.toArray
  | some (.struct _) => .agg cs.toArray
  | _ => cs.headD undef
section
variable {P : Program}
theorem run_part_cells (w : World) {e : TypeId} {d : Nat} {xs : List Value} {off : Nat} {ds : List Value} {r : Bool} (h : ceq P d e ((xs.drop off).take (P.cellsOf e)) ds = some r ∨ ceq P d e ds ((xs.drop off).take (P.cellsOf e)) = some r) :
    (part e xs.toArray off).run P w = .ok (shaped P e ((xs.drop off).take (P.cellsOf e))) w := by
  cases d with
  | zero => rcases h with h | h <;> simp [ceq] at h
  | succ d =>
    unfold ceq at h
    cases hu : P.underlying e with
    | none => rw [hu] at h; simp at h
    | some k =>
      rw [hu] at h
      have plain : P.plainKey e = true → (∃ v, (xs.drop off).take (P.cellsOf e) = [v]) → (part e xs.toArray off).run P w = .ok (((xs.drop off).take (P.cellsOf e)).headD undef) w := by
        rintro hp ⟨v, hv⟩
        rw [hv]
        exact run_part_plain w hp (getElem?_of_chunk (xs := xs.toArray) (by simpa using hv))
      have agg : (isAgg e).run P w = .ok true w → (part e xs.toArray off).run P w = .ok (.agg ((xs.drop off).take (P.cellsOf e)).toArray) w := by
        intro ha
        obtain ⟨i, hi⟩ := info_of_underlying hu
        have hl : xs.toArray.extract off (off + P.cellsOf e) = ((xs.drop off).take (P.cellsOf e)).toArray := by
          apply Array.toList_inj.1
          rw [Array.toList_extract]
          simp [List.extract]
        rw [← hl]; simp [part, ha, run_sizeOf w hi]
      cases k with
      | bool =>
        have h1 : ∃ v, (xs.drop off).take (P.cellsOf e) = [v] := by
          generalize (xs.drop off).take (P.cellsOf e) = cs at *
          rcases h with h | h
          · simp only at h; split at h
            · exact ⟨_, rfl⟩
            · cases h
          · simp only at h; split at h
            · exact ⟨_, rfl⟩
            · cases h
        rw [plain (by simp [Program.plainKey, hu]) h1]; simp [shaped, hu]
      | int q =>
        have h1 : ∃ v, (xs.drop off).take (P.cellsOf e) = [v] := by
          generalize (xs.drop off).take (P.cellsOf e) = cs at *
          rcases h with h | h
          · simp only at h; split at h
            · exact ⟨_, rfl⟩
            · cases h
          · simp only at h; split at h
            · exact ⟨_, rfl⟩
            · cases h
        rw [plain (by simp [Program.plainKey, hu]) h1]; simp [shaped, hu]
      | array n e' => rw [agg (by simp [isAgg, run_underlying hu])]; simp [shaped, hu]
      | struct fs => rw [agg (by simp [isAgg, run_underlying hu])]; simp [shaped, hu]
      | _ => simp at h
theorem run_ceq (k : Nat) : ∀ (d : Nat) (t : TypeId) (cs ds : List Value) (r : Bool) (w : World), ceq P d t cs ds = some r → (Op.equalIn (d + k) t (shaped P t cs) (shaped P t ds)).run P w = .ok r w
  | 0, t, cs, ds, r, w, h => by simp [ceq] at h
  | d + 1, t, cs, ds, r, w, h => by
    have e : d + 1 + k = (d + k) + 1 := by omega
    rw [e]
    unfold ceq at h
    cases hu : P.underlying t with
    | none => rw [hu] at h; simp at h
    | some kd =>
      rw [hu] at h
      cases kd with
      | bool =>
        simp only at h
        split at h
        · cases h; simp only [shaped, hu, List.headD_cons]; exact run_equalIn_bool w _ t _ _ hu
        · cases h
      | int q =>
        simp only at h
        split at h
        · cases h; simp only [shaped, hu, List.headD_cons]; exact run_equalIn_int w _ t _ q _ _ hu
        · cases h
      | array n e' =>
        simp only at h
        simp only [shaped, hu]
        have key : ∀ (is : List Nat) (r : Bool), citems (fun a b => ceq P d e' a b) (P.cellsOf e') cs ds is = some r → (Op.eqItems (d + k) e' (P.cellsOf e') cs.toArray ds.toArray is).run P w = .ok r w := by
          intro is
          induction is with
          | nil => intro r h; simp [citems] at h; subst h; simp [Op.eqItems]
          | cons i is ih =>
            intro r h
            simp only [citems] at h
            split at h
            · rename_i a b ha hb
              cases h
              have p1 := run_part_cells w (.inl ha)
              have p2 := run_part_cells w (.inr ha)
              have p3 := run_ceq k d e' _ _ a w ha
              simp only [Op.eqItems, Sem.run_bind, p1, p2, p3, Result.andThen_ok]
              cases a
              · simp
              · simpa using ih b hb
            · cases h
        cases n with
        | zero => simp at h
        | succ n =>
          rw [show Nat.beq (n + 1) 0 = false from rfl, cond_false] at h
          have hi : ∃ i, P.info? e' = some i := by
            cases d with
            | zero => simp [List.range_succ_eq_map, citems, ceq] at h
            | succ d =>
              cases hue : P.underlying e' with
              | none => simp [List.range_succ_eq_map, citems, ceq, hue] at h
              | some _ => exact info_of_underlying hue
          obtain ⟨i, hi⟩ := hi
          rw [run_equalIn_array w (d + k) _ _ hu hi]
          exact key _ r h
      | struct fs =>
        simp only at h
        simp only [shaped, hu]
        have hfs : P.fieldsOf t = fs := by simp [Program.fieldsOf, hu]
        cases hs : P.stoodInHeld t with
        | true => rw [hs] at h; cases h
        | false =>
          rw [hs] at h
          rw [run_equalIn_struct w (d + k) t _ _ (by rw [hfs]; exact hu) hs, hfs]
          have key : ∀ (fs : List Field) (r : Bool), cflds P (fun t a b => ceq P d t a b) cs ds fs = some r → (Op.eqFields (d + k) cs.toArray ds.toArray fs).run P w = .ok r w := by
            intro fs
            induction fs with
            | nil => intro r h; simp [cflds] at h; subst h; simp [Op.eqFields]
            | cons f fs ih =>
              intro r h
              simp only [cflds] at h
              cases hn : f.name == "_" with
              | true => rw [hn] at h; cases h
              | false =>
                rw [hn, cond_false] at h
                split at h
                · rename_i a b ha hb
                  cases h
                  have p1 := run_part_cells w (.inl ha)
                  have p2 := run_part_cells w (.inr ha)
                  have p3 := run_ceq k d f.type _ _ a w ha
                  have hn' : f.name ≠ "_" := by simpa using hn
                  simp only [Op.eqFields, hn', ne_eq, not_false_eq_true, if_true, Sem.run_bind, p1, p2, p3, Result.andThen_ok]
                  cases a
                  · simp
                  · simpa using ih b hb
                · cases h
          exact key _ r h
      | _ => simp at h
/-- plain cells -/
def vals : List AV → Option (List Value)
  | [] => some []
  | .p v :: r => match vals r with
    | some l => some (v :: l)
    | none => none
  | _ :: _ => none
theorem vals_eq : ∀ {cs : List AV} {us : List Value}, vals cs = some us → cs = us.map .p
  | [], us, h => by cases h; rfl
  | .p v :: r, us, h => by
    simp only [vals] at h
    split at h
    · rename_i l hl; cases h; rw [vals_eq hl]; rfl
    · cases h
  | .agg _ :: _, _, h => by cases h
  | .tup _ :: _, _, h => by cases h
  | .lst _ _ _ _ :: _, _, h => by cases h
  | .fref _ :: _, _, h => by cases h
  | .ref _ _ _ _ :: _, _, h => by cases h
  | .arr _ _ _ _ :: _, _, h => by cases h
  | .sub _ _ _ _ _ :: _, _, h => by cases h
  | .fn _ _ _ :: _, _, h => by cases h
  | .mp _ _ :: _, _, h => by cases h
  | .any :: _, _, h => by cases h
def isAggT (P : Program) (t : TypeId) : Bool := match P.underlying t with
  | some (.array _ _) => true
  | some (.struct _) => true
  | _ => false
section
variable {q : Bool} {k0 : Nat} {H : AH} {o : Oper} {ρ : Operand → AV}
theorem agg_vals {U : Nat → Prop} {φ : Pl} {V : Nat → Prop} {w : World} {cs : List AV} {us : List Value} {v : Value} (h : VRel U φ V w (.agg cs) v) (hv : vals cs = some us) : v = .agg us.toArray := by
  obtain ⟨us', rfl, h1, _⟩ := h.inv_agg
  have e := vals_eq hv
  subst e
  have : us' = us := by
    refine List.ext_getElem (by simpa using h1.1) fun i h2 h3 => ?_
    have := (h1.2 i (.p us[i]) us'[i] (by simp [h3]) (by simp [h2])).inv_p
    exact this
  rw [this]
theorem ao_eqv (t yt : TypeId) (x y : Operand) (b : Bool) (ho : o.op = .binOp (bif b then .eql else .neq) t x y yt) {cs ds : List AV} {us vs : List Value} (hx : ρ x = .agg cs) (hy : ρ y = .agg ds) (hu : vals cs = some us) (hv : vals ds = some vs) {r : Bool} (ht : isAggT P t = true) (hc : ceq P 10 t us vs = some r)
    (hg : P.eqGuardType P.depth t = false) : AO P q k0 o ρ H (fun r' H' => r' = .p (.bool (bif b then r else !r)) ∧ H' = H) := by
  refine ao_keep fun U φ V w ρc hh hr => ?_
  have h1 := hr x (by simp [ho, Op.operands])
  have h2 := hr y (by simp [ho, Op.operands])
  rw [hx] at h1
  rw [hy] at h2
  have h1 := agg_vals h1 hu
  have h2 := agg_vals h2 hv
  have hs : ∀ l, shaped P t l = .agg l.toArray := fun l => by
    unfold isAggT at ht
    unfold shaped
    split at ht <;> simp_all
  have heq := run_ceq 9990 10 t us vs r w hc
  rw [hs, hs] at heq
  have heq : (Op.equal t (.agg us.toArray) (.agg vs.toArray)).run P w = .ok r w := heq
  refine ⟨.bool (bif b then r else !r), ?_, .p _⟩
  cases b <;> simp [execOp, ho, h1, h2, eqGuard, hg, binOp, heq]
end
end
section
variable {P : Program} {q : Bool} {n k0 : Nat} {ops : Array Oper} {os : List Oper} {K : AF → AH → Prop} {F : AF} {H N : AH} {d : Nat} {ty : TypeId} {pos : String} {after : Array Edge} {gd : Option (Nat × Bool)}
theorem sq_eqv (b : Bool) {t yt : TypeId} {x y : Operand} {op : BinOp} (hop : op = bif b then .eql else .neq) {cs ds : List AV} {us vs : List Value} {r : Bool} (hg : gst ops F gd = some true) (hd : dok n (some d) = true) (hx : aev F x = .agg cs) (hy : aev F y = .agg ds) (hu : vals cs = some us) (hv : vals ds = some vs) (ht : isAggT P t = true) (hc : ceq P 10 t us vs = some r) (hgt : P.eqGuardType P.depth t = false)
    (h : SQ P q n k0 ops os K ((d, .p (.bool (bif b then r else !r))) :: F) H) : SQ P q n k0 ops (⟨some d, .binOp op t x y yt, ty, pos, after, gd⟩ :: os) K F H := by
  subst hop
  exact sq_ao hg rfl hd (AO.mono (ao_eqv t yt x y b rfl hx hy hu hv ht hc hgt) fun r H' e => by rw [e.1, e.2]; exact h)
theorem rg_eqv (b : Bool) {t yt : TypeId} {x y : Operand} {op : BinOp} (hop : op = bif b then .eql else .neq) {cs ds : List AV} {us vs : List Value} {r : Bool} (hg : gst ops F gd = some true) (hd : dok n (some d) = true) (hx : aev F x = .agg cs) (hy : aev F y = .agg ds) (hu : vals cs = some us) (hv : vals ds = some vs) (ht : isAggT P t = true) (hc : ceq P 10 t us vs = some r) (hgt : P.eqGuardType P.depth t = false)
    (h : RG P n ops H os K ((d, .p (.bool (bif b then r else !r))) :: F) N) : RG P n ops H (⟨some d, .binOp op t x y yt, ty, pos, after, gd⟩ :: os) K F N := by
  subst hop
  exact rg_ao (r := .p (.bool (bif b then r else !r))) (D := []) hg rfl hd (AO.mono (ao_eqv t yt x y b rfl hx hy hu hv ht hc hgt) fun r H' e => by rw [e.1, e.2]; exact ⟨rfl, by simp⟩) (by rw [List.append_nil]; exact h)
end
end Go.Proofs.Ytphjglbbhanmpaa.Ab
