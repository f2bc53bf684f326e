/- Single operations: what was reckoned holds. -/
import Derived.Test.YtphjglbbhanmpaaEC
namespace Go.Proofs.Ytphjglbbhanmpaa.Ab
open Go Go.RowKit

section inv
variable {U : Nat → Prop} {φ : Pl} {V : Nat → Prop} {w : World} {v : Value}
theorem VRel.inv_p {u : Value} (h : VRel U φ V w (.p u) v) : v = u := by cases h; rfl
theorem VRel.inv_agg {cs : List AV} (h : VRel U φ V w (.agg cs) v) : ∃ us : List Value, v = .agg us.toArray ∧ VRels U φ V w cs us ∧ ∀ u ∈ us, u.oneCell' = true := by
  cases h with | agg _ us h1 h2 h3 => exact ⟨us, rfl, ⟨h1, h3⟩, h2⟩
theorem VRel.inv_tup {cs : List AV} (h : VRel U φ V w (.tup cs) v) : ∃ us : List Value, v = .tuple us.toArray ∧ VRels U φ V w cs us := by
  cases h with | tup _ us h1 h3 => exact ⟨us, rfl, ⟨h1, h3⟩⟩
theorem VRel.inv_ref {id sz i off : Nat} (h : VRel U φ V w (.ref id sz i off) v) : v = .pointer (some ⟨(φ id).1, i * sz + off, none⟩) ∧ U id := by
  cases h with | ref _ _ _ _ h => exact ⟨rfl, h⟩
theorem VRel.inv_sub {id sz i off n : Nat} (h : VRel U φ V w (.sub id sz i off n) v) : ∃ c, v = .slice (some ⟨(φ id).1, i * sz + off, none⟩) n c ∧ U id ∧ n ≤ c := by
  cases h with | sub _ _ _ _ _ c h1 h2 => exact ⟨c, rfl, h1, h2⟩
theorem VRel.inv_mp {ks : List Value} {vs : List AV} (h : VRel U φ V w (.mp ks vs) v) : ∃ b es clock, ∃ us : List Value, v = .map (some b) ∧ V b ∧ w.heap[b]? = some (.map es clock) ∧ us.length = vs.length ∧ (∀ e ∈ es.toList, ∃ i : Nat, ks[i]? = some e.key ∧ us[i]? = some e.val) ∧ (∀ k ∈ ks, ∃ e ∈ es.toList, e.key = k) ∧ ∀ (i : Nat) x u, vs[i]? = some x → us[i]? = some u → VRel U φ V w x u := by
  cases h with | mp _ _ b es clock us h1 h2 h3 h4 h5 h6 => exact ⟨b, es, clock, us, rfl, h1, h2, h3, h4, h5, h6⟩
theorem VRel.inv_fn {f : Fn} {fs cs : List AV} (h : VRel U φ V w (.fn f fs cs) v) : ∃ us vs : List Value, v = .func f us.toArray vs.toArray ∧ VRels U φ V w fs us ∧ VRels U φ V w cs vs := by
  cases h with | fn _ _ _ us vs h1 h2 h3 h4 => exact ⟨us, vs, rfl, ⟨h1, h3⟩, ⟨h2, h4⟩⟩
theorem VRel.inv_fref {cs : List AV} (h : VRel U φ V w (.fref cs) v) : ∃ b off cur e fz, v = .pointer (some ⟨b, off, none⟩) ∧ V b ∧ w.heap[b]? = some (.cells cur e fz) ∧
    ∀ (j : Nat) x, cs[j]? = some x → ∃ u, cur[off + j]? = some u ∧ u.oneCell' = true ∧ VRel U φ V w x u := by
  cases h with | fref _ b off cur e fz us h1 h2 h3 h4 => exact ⟨b, off, cur, e, fz, rfl, h1, h2, fun j x hx => ⟨us j, (h3 j x hx).1, (h3 j x hx).2, h4 j x hx⟩⟩
theorem VRel.mk_fref {cs : List AV} {b off : Nat} {cur : Array Value} {e : TypeId} {fz : Nat × Nat} (h1 : V b) (h2 : w.heap[b]? = some (.cells cur e fz))
    (h3 : ∀ (j : Nat) x, cs[j]? = some x → ∃ u, cur[off + j]? = some u ∧ u.oneCell' = true ∧ VRel U φ V w x u) : VRel U φ V w (.fref cs) (.pointer (some ⟨b, off, none⟩)) := by
  refine .fref cs b off cur e fz (fun j => (cur[off + j]?).getD undef) h1 h2 (fun j x hx => ?_) (fun j x hx => ?_)
  · obtain ⟨u, hu, h4, _⟩ := h3 j x hx
    rw [hu]; exact ⟨rfl, h4⟩
  · obtain ⟨u, hu, _, h4⟩ := h3 j x hx
    rw [hu]; exact h4
theorem VRel.inv_lst {t : Bool} {sz n : Nat} {g : Nat → List AV} (h : VRel U φ V w (.lst t sz n g) v) : ∃ a c, v = .slice a n c ∧ n ≤ c ∧ c ≤ maxLen ∧ (t = true → c = n) ∧
    (0 < n → ∃ b off cur e fz, a = some ⟨b, off, none⟩ ∧ V b ∧ w.heap[b]? = some (.cells cur e fz) ∧ (∀ i, i < n → (g i).length = sz) ∧
      ∀ (i j : Nat) x, i < n → (g i)[j]? = some x → ∃ u, cur[off + i * sz + j]? = some u ∧ u.oneCell' = true ∧ VRel U φ V w x u) := by
  cases h with
  | lst0 _ _ _ a c h0 h1 => exact ⟨a, c, rfl, Nat.zero_le _, h0, h1, fun h => absurd h (by omega)⟩
  | lst _ _ _ _ b off c cur e fz us h0 h0' h1 h2 h3 h4 h5 h6 => exact ⟨_, c, rfl, h0, h0', h1, fun _ => ⟨b, off, cur, e, fz, rfl, h2, h3, h4, fun i j x hi hx => ⟨us i j, (h5 i j x hi hx).1, (h5 i j x hi hx).2, h6 i j x hi hx⟩⟩⟩
theorem VRel.mk_lst {t : Bool} {sz n : Nat} {g : Nat → List AV} {b off c : Nat} {cur : Array Value} {e : TypeId} {fz : Nat × Nat} (h0 : n ≤ c) (h0' : c ≤ maxLen) (ht : t = true → c = n) (h1 : V b) (h2 : w.heap[b]? = some (.cells cur e fz))
    (hl : ∀ i, i < n → (g i).length = sz) (h3 : ∀ (i j : Nat) x, i < n → (g i)[j]? = some x → ∃ u, cur[off + i * sz + j]? = some u ∧ u.oneCell' = true ∧ VRel U φ V w x u) : VRel U φ V w (.lst t sz n g) (.slice (some ⟨b, off, none⟩) n c) := by
  refine .lst t sz n g b off c cur e fz (fun i j => (cur[off + i * sz + j]?).getD undef) h0 h0' ht h1 h2 hl (fun i j x hi hx => ?_) (fun i j x hi hx => ?_)
  · obtain ⟨u, hu, h4, _⟩ := h3 i j x hi hx
    rw [hu]; exact ⟨rfl, h4⟩
  · obtain ⟨u, hu, _, h4⟩ := h3 i j x hi hx
    rw [hu]; exact h4
theorem VRel.inv_arr {id sz i n : Nat} (h : VRel U φ V w (.arr id sz i n) v) : ∃ o, v = .slice (some ⟨(φ id).1, o, none⟩) n ((φ id).2 - i) ∧ U id ∧ i + n ≤ (φ id).2 ∧ (o = i * sz ∨ ((φ id).2 = i ∧ 0 < i)) := by
  cases h with | arr _ _ _ _ o h1 h2 h3 => exact ⟨o, rfl, h1, h2, h3⟩
theorem VRels.mk1 {a : AV} {u : Value} (h : VRel U φ V w a u) : VRels U φ V w [a] [u] :=
  ⟨rfl, fun i x u' hx hu => by
    cases i with
    | zero => simp at hx hu; rw [← hx, ← hu]; exact h
    | succ i => simp at hx⟩
theorem VRels.get {cs : List AV} {us : List Value} (h : VRels U φ V w cs us) {i : Nat} {x : AV} (hx : cs[i]? = some x) : ∃ u, us[i]? = some u ∧ VRel U φ V w x u := by
  have hlt : i < us.length := by have := (List.getElem?_eq_some_iff.1 hx).1; rw [h.1]; exact this
  exact ⟨us[i], List.getElem?_eq_getElem hlt, h.2 i x _ hx (List.getElem?_eq_getElem hlt)⟩
theorem VRels.drop {cs : List AV} {us : List Value} (h : VRels U φ V w cs us) (n : Nat) : VRels U φ V w (cs.drop n) (us.drop n) :=
  ⟨by simp [h.1], fun i x u hx hu => by rw [List.getElem?_drop] at hx hu; exact h.2 _ x u hx hu⟩
theorem VRels.take {cs : List AV} {us : List Value} (h : VRels U φ V w cs us) (n : Nat) : VRels U φ V w (cs.take n) (us.take n) :=
  ⟨by simp [h.1], fun i x u hx hu => by
    rw [List.getElem?_take] at hx hu
    split at hx
    · rename_i hi; rw [if_pos hi] at hu; exact h.2 _ x u hx hu
    · cases hx⟩
theorem VRels.set {cs : List AV} {us : List Value} (h : VRels U φ V w cs us) (n : Nat) {x : AV} {u : Value} (hx : VRel U φ V w x u) : VRels U φ V w (cs.set n x) (us.set n u) :=
  ⟨by simp [h.1], fun i y z hy hz => by
    rw [List.getElem?_set] at hy hz
    split at hy
    · rename_i hi; subst hi
      rw [if_pos rfl] at hz
      have := h.1
      split at hy
      · rename_i hl; rw [if_pos (by omega)] at hz; cases hy; cases hz; exact hx
      · cases hy
    · rename_i hi; rw [if_neg hi] at hz; exact h.2 _ y z hy hz⟩
theorem acells_ok {a : AV} {cs : List AV} (h : acells a = some cs) (hv : VRel U φ V w a v) : ∃ us : List Value, v.cells = us.toArray ∧ VRels U φ V w cs us ∧ ∀ u ∈ us, u.oneCell' = true := by
  cases a with
  | agg cs' =>
    cases h
    obtain ⟨us, rfl, h1, h2⟩ := hv.inv_agg
    exact ⟨us, rfl, h1, h2⟩
  | tup => cases h
  | any => cases h
  | p u =>
    have := hv.inv_p
    subst this
    simp only [acells] at h
    cases ho : v.oneCell' with
    | false => rw [ho] at h; cases h
    | true =>
      rw [ho] at h; cases h
      refine ⟨[v], ?_, .mk1 hv, by simpa using ho⟩
      cases v <;> first | rfl | cases ho
  | lst t sz n g =>
    cases h
    obtain ⟨_, _, rfl, _⟩ := hv.inv_lst
    exact ⟨_, rfl, .mk1 hv, by simp [Value.oneCell']⟩
  | fref =>
    cases h
    obtain ⟨_, _, _, _, _, rfl, _⟩ := hv.inv_fref
    exact ⟨_, rfl, .mk1 hv, by simp [Value.oneCell']⟩
  | ref =>
    cases h
    obtain ⟨rfl, _⟩ := hv.inv_ref
    exact ⟨_, rfl, .mk1 hv, by simp [Value.oneCell']⟩
  | arr =>
    cases h
    obtain ⟨_, rfl, _⟩ := hv.inv_arr
    exact ⟨_, rfl, .mk1 hv, by simp [Value.oneCell']⟩
  | fn =>
    cases h
    obtain ⟨_, _, rfl, _⟩ := hv.inv_fn
    exact ⟨_, rfl, .mk1 hv, by simp [Value.oneCell']⟩
  | sub =>
    cases h
    obtain ⟨_, rfl, _⟩ := hv.inv_sub
    exact ⟨_, rfl, .mk1 hv, by simp [Value.oneCell']⟩
  | mp =>
    cases h
    obtain ⟨_, _, _, _, rfl, _⟩ := hv.inv_mp
    exact ⟨_, rfl, .mk1 hv, by simp [Value.oneCell']⟩
end inv

section types
variable {P : Program} {T : TT} (hT : TTok P T)
include hT
theorem tt_agg {t : Nat} {i : TI} (h : tget T t = some i) (w : World) : (isAgg t).run P w = .ok (match i.kind with | .array _ _ | .struct _ => true | _ => false) w := by
  obtain ⟨info, d, z, h1, h2, h3, h4, _⟩ := hT t i h
  unfold isAgg
  rw [Sem.run_bind, run_underlying h2, ← h4]
  cases d <;> simp [kindOf]
theorem tt_size {t : Nat} {i : TI} (h : tget T t = some i) (w : World) : (sizeOf t).run P w = .ok i.size w := by
  obtain ⟨info, d, z, h1, h2, h3, h4, h5, _⟩ := hT t i h
  simp [sizeOf, typeInfo, h1, h5]
theorem tt_slice {t e : Nat} {i : TI} (h : tget T t = some i) (hk : i.kind = .slice e) : P.underlying t = some (.slice e) := by
  obtain ⟨info, d, z, h1, h2, h3, h4, h5, _⟩ := hT t i h
  rw [hk] at h4
  cases d <;> simp [kindOf] at h4
  subst h4; exact h2
theorem tt_array {t n e : Nat} {i : TI} (h : tget T t = some i) (hk : i.kind = .array n e) : P.underlying t = some (.array n e) := by
  obtain ⟨info, d, z, h1, h2, h3, h4, h5, _⟩ := hT t i h
  rw [hk] at h4
  cases d <;> simp [kindOf] at h4
  obtain ⟨rfl, rfl⟩ := h4; exact h2
theorem tt_struct {t : Nat} {i : TI} {fs : List (Nat × Nat)} (h : tget T t = some i) (hk : i.kind = .struct fs) : ∃ fields : Array Field, P.underlying t = some (.struct fields) ∧ fields.toList.map (fun f => (f.offset, f.type)) = fs := by
  obtain ⟨info, d, z, h1, h2, h3, h4, h5, _⟩ := hT t i h
  rw [hk] at h4
  cases d <;> simp [kindOf] at h4
  exact ⟨_, h2, h4⟩
theorem part_ok {U : Nat → Prop} {φ : Pl} {V : Nat → Prop} {w : World} {t off : Nat} {cs : List AV} {us : List Value} {v : AV} (hr : VRels U φ V w cs us) (h1 : ∀ u ∈ us, u.oneCell' = true) (h : apart T t (cs.drop off) = some v) :
    ∃ u, (part t us.toArray off).run P w = .ok u w ∧ VRel U φ V w v u := by
  unfold apart at h
  cases hi : tget T t with
  | none => rw [hi] at h; cases h
  | some i =>
    rw [hi] at h
    have ha := tt_agg hT hi w
    have hs := tt_size hT hi w
    have aggc : (bif Nat.ble i.size (cs.drop off).length then fl ((cs.drop off).take i.size) fun l => some (.agg l) else none) = some v → (isAgg t).run P w = .ok true w → ∃ u, (part t us.toArray off).run P w = .ok u w ∧ VRel U φ V w v u := by
      intro h ha
      cases hb : Nat.ble i.size (cs.drop off).length with
      | false => rw [hb] at h; cases h
      | true =>
        rw [hb, cond_true, fl_eq] at h; cases h
        have hd := (hr.drop off).take i.size
        refine ⟨.agg ((us.drop off).take i.size).toArray, ?_, .agg _ _ hd.1 (fun u hu => h1 u (List.mem_of_mem_drop (List.mem_of_mem_take hu))) hd.2⟩
        simp [part, ha, hs, List.extract_eq_take_drop]
    have cellc : ahead (cs.drop off) = some v → (isAgg t).run P w = .ok false w → ∃ u, (part t us.toArray off).run P w = .ok u w ∧ VRel U φ V w v u := by
      intro h ha
      cases hc : cs.drop off with
      | nil => rw [hc] at h; cases h
      | cons a r =>
        rw [hc] at h
        simp only [ahead, fv_eq] at h; cases h
        obtain ⟨u, hu, hv⟩ := hr.get (i := off) (x := v) (by have := congrArg (·[0]?) hc; simpa using this)
        exact ⟨u, by simp [part, ha, hu], hv⟩
    obtain ⟨kd, sz, bt, zs⟩ := i
    cases kd
    case array => exact aggc h ha
    case struct => exact aggc h ha
    all_goals exact cellc h ha
omit hT in
theorem fill_fold (off : Nat) : ∀ (vs : List Value) (j : Nat) (us : List Value), (vs.zipIdx j).foldl (fun (cs : Array Value) (x : Value × Nat) => cs.setIfInBounds (off + x.2) x.1) us.toArray = ((vs.zipIdx j).foldl (fun (cs : List Value) (x : Value × Nat) => cs.set (off + x.2) x.1) us).toArray := by
  intro vs
  induction vs with
  | nil => intro j us; rfl
  | cons v vs ih => intro j us; simp only [List.zipIdx_cons, List.foldl_cons, List.setIfInBounds_toArray, ih]
omit hT in
theorem afill_ok {U : Nat → Prop} {φ : Pl} {V : Nat → Prop} {w : World} (off : Nat) : ∀ (new : List AV) (vs : List Value) (j : Nat) (cs : List AV) (us : List Value), VRels U φ V w new vs → (∀ u ∈ vs, u.oneCell' = true) → VRels U φ V w cs us → (∀ u ∈ us, u.oneCell' = true) →
    VRels U φ V w (afill cs (off + j) new) ((vs.zipIdx j).foldl (fun (cs : List Value) (x : Value × Nat) => cs.set (off + x.2) x.1) us) ∧ ∀ u ∈ ((vs.zipIdx j).foldl (fun (cs : List Value) (x : Value × Nat) => cs.set (off + x.2) x.1) us), u.oneCell' = true := by
  intro new
  induction new with
  | nil =>
    intro vs j cs us hn hv hr h1
    have : vs = [] := List.eq_nil_of_length_eq_zero (by simpa using hn.1)
    subst this
    exact ⟨hr, h1⟩
  | cons x xs ih =>
    intro vs j cs us hn hv hr h1
    cases vs with
    | nil => have := hn.1; simp at this
    | cons v vs =>
      simp only [List.zipIdx_cons, List.foldl_cons, afill]
      have hx : VRel U φ V w x v := hn.2 0 x v rfl rfl
      have hs := hr.set (off + j) hx
      have h := ih vs (j + 1) _ _ ⟨by have := hn.1; simpa using this, fun i a b ha hb => hn.2 (i + 1) a b (by simpa using ha) (by simpa using hb)⟩ (fun u hu => hv u (List.mem_cons_of_mem _ hu)) hs (fun u hu => by
        rcases List.mem_or_eq_of_mem_set hu with h | rfl
        · exact h1 u h
        · exact hv _ (List.mem_cons_self ..))
      rw [show off + (j + 1) = off + j + 1 from rfl] at h
      exact h
omit hT in
theorem afill_len : ∀ (new : List AV) (cs : List AV) (o : Nat), (afill cs o new).length = cs.length := by
  intro new
  induction new with
  | nil => intro cs o; rfl
  | cons x xs ih => intro cs o; rw [afill, ih]; simp
omit hT in
theorem abuild_ok {U : Nat → Prop} {φ : Pl} {V : Nat → Prop} {w : World} {place : Nat → Option (Nat × Nat)} {ρ : Operand → AV} {ρc : Operand → Value} :
    ∀ (parts : List (Nat × Operand)) (cs cs' : List AV) (us : List Value), VRels U φ V w cs us → (∀ u ∈ us, u.oneCell' = true) → (∀ p ∈ parts, VRel U φ V w (ρ p.2) (ρc p.2)) → abuild place ρ cs parts = some cs' →
      ∃ us' : List Value, Instr.fill place us.toArray (parts.map fun p => (p.1, ρc p.2)) = some us'.toArray ∧ VRels U φ V w cs' us' ∧ ∀ u ∈ us', u.oneCell' = true := by
  intro parts
  induction parts with
  | nil => intro cs cs' us hr h1 _ h; cases h; exact ⟨us, rfl, hr, h1⟩
  | cons p parts ih =>
    obtain ⟨i, x⟩ := p
    intro cs cs' us hr h1 hp h
    simp only [abuild] at h
    split at h
    · rename_i off sz new hpl hac
      obtain ⟨vs, hvc, hvr, hv1⟩ := acells_ok hac (hp (i, x) (List.mem_cons_self ..))
      cases hb : Nat.beq new.length sz && Nat.ble (off + new.length) cs.length with
      | false => rw [hb] at h; cases h
      | true =>
        rw [hb, cond_true, fl_eq] at h
        simp only [Bool.and_eq_true, Nat.beq_eq, Nat.ble_eq] at hb
        have hf := afill_ok off new vs 0 cs us hvr hv1 hr h1
        obtain ⟨us', h2, h3, h4⟩ := ih _ cs' _ hf.1 hf.2 (fun p hp' => hp p (List.mem_cons_of_mem _ hp')) h
        refine ⟨us', ?_, h3, h4⟩
        rw [← h2]
        have e1 : vs.length = sz := by rw [hvr.1]; exact hb.1
        have e2 : ¬ (off + vs.length > us.length) := by rw [hvr.1, hr.1]; omega
        simp only [List.map_cons, Instr.fill, hpl, hvc]
        simp only [List.size_toArray, e1, ne_eq, not_true_eq_false, decide_false, Bool.false_or]
        rw [← e1]
        simp only [e2, decide_false, Bool.false_eq_true, if_false]
        congr 1
        rw [← fill_fold]
        have e3 : List.mapIdx (fun i a => (a, i)) vs = vs.zipIdx := by
          apply List.ext_getElem?
          intro i
          simp [List.getElem?_mapIdx, List.getElem?_zipIdx]
        simp [Array.zipIdx, e3]
    · cases h
end types
end Go.Proofs.Ytphjglbbhanmpaa.Ab
