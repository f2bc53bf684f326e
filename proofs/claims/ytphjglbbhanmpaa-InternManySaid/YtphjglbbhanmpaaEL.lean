/- A region that draws its order: the rule. Calls: the rule. -/
import Derived.Test.YtphjglbbhanmpaaEK
namespace Go.Proofs.Ytphjglbbhanmpaa.Ab
open Go Go.RowKit

def drawOk (ops : Array Oper) (h : Nat) : Bool := regOk ops h && backOk ops && (Nat.beq h ops.size || tailOk ops h)
section
variable {P : Program} {q : Bool} {n k0 : Nat} {ops : Array Oper} {Q : AQ} {F : AF} {H : AH}
set_option maxHeartbeats 1000000 in
theorem aw_draw {id : Nat} (h : Nat) (hm : P.follows .mixedOrders = true) (hok : drawOk ops h = true)
    (hrg : RG P n ops H (ops.toList.take h) (fun F' N => SQ P q n k0 ops (ops.toList.drop h) (Q .normal) F' (H ++ N)) F []) : AW P q n k0 (.region id ops true) Q F H := by
  intro B U φ V w a hb r
  simp only [drawOk, Bool.and_eq_true, Bool.or_eq_true] at hok
  obtain ⟨⟨hreg, hback⟩, ht⟩ := hok
  have ht : h = ops.size ∨ tailOk ops h = true := by
    rcases ht with ht | ht
    · exact .inl (Nat.eq_of_beq_eq_true ht)
    · exact .inr ht
  have hle : h ≤ ops.size := by
    rcases ht with ht | ht
    · omega
    · simp only [tailOk, Bool.and_eq_true, decide_eq_true_eq] at ht; omega
  obtain ⟨fs, hfo, hsq⟩ := rg_facts _ _ _ hrg
  rw [List.nil_append] at hsq
  have hfl : fs.length = h := by rw [fo_len _ _ _ _ hfo]; simp; omega
  have hnd : ((ops.toList.take h).filterMap (·.dst)).Nodup := by
    simp only [regOk, Bool.and_eq_true, decide_eq_true_eq] at hreg; exact hreg.1.2
  have huniq : ∀ (j k : Nat) x y d, j < h → k < h → ops[j]? = some x → ops[k]? = some y → x.dst = some d → y.dst = some d → j = k := fun j k x y d hjh hkh hj hk hx hy => nodup_filterMap (·.dst) (ops.toList.take h) hnd j k x y d (by rw [List.getElem?_take, if_pos hjh]; simpa using hj) (by rw [List.getElem?_take, if_pos hkh]; simpa using hk) hx hy
  refine wp_region_any hm ?_
  have hnp : ∀ c a' w', ¬ Lift n k0 B U φ V w H Q (.panic c) a' w' := by
    intro c a' w' hl
    obtain ⟨x, F', H', U', φ', V', h1, _⟩ := hl
    cases x <;> exact h1.elim
  have hlo : ¬ LetsOut (Lift n k0 B U φ V w H Q) := by
    rintro ⟨a', w', hl⟩
    obtain ⟨x, F', H', U', φ', V', h1, _⟩ := hl
    cases x <;> exact h1.elim
  have hns : Region.noSelect ops = true := by simp only [regOk, Bool.and_eq_true] at hreg; exact hreg.1.1
  refine wp_orders hback hns hlo hnp h ht (fun listed a' w' => ∃ U1 φ1 V1, Mid ops H fs n k0 B U φ V w a (fun j => listed.getD j false = true) a' w' U1 φ1 V1) ?_ ?_ ?_
  · intro i o listed a' w' hih ho hls hI hun hpre hhd
    obtain ⟨U1, φ1, V1, m⟩ := hI
    have hf : ∃ f, fs[i]? = some f := ⟨fs[i]'(by omega), List.getElem?_eq_getElem _⟩
    obtain ⟨f, hf⟩ := hf
    have h1 := fo_get _ _ _ _ hfo i o f (by rw [List.getElem?_take, if_pos hih]; simpa using ho) hf
    rw [List.take_take, Nat.min_eq_left (Nat.le_of_lt hih), List.nil_append] at h1
    exact mid_step r hreg hback hih hfl ho hf h1 hls m hun hpre hhd fun x y U φ V m => ⟨U, φ, V, m⟩
  · intro listed a' w' hls hl hI
    obtain ⟨U1, φ1, V1, m⟩ := hI
    have hlist : ∀ j, listed.getD j false = true ↔ j < h := by
      intro j
      rcases Nat.lt_or_ge j ops.size with hj | hj
      · rw [← getD_ff (by omega), hl j hj]; simp
      · constructor
        · intro h'; have := getD_lt h'; omega
        · intro h'; omega
    have hvis : ∀ id, id < (H ++ news fs).length → id < H.length ∨ ∃ j, listed.getD j false = true ∧ H.length + (news (fs.take j)).length ≤ id ∧ id < H.length + (news (fs.take (j + 1))).length := by
      intro id hid
      rcases Nat.lt_or_ge id H.length with h1 | h1
      · exact .inl h1
      · refine .inr ?_
        have key : ∀ m, m ≤ fs.length → id < H.length + (news (fs.take m)).length → ∃ j, j < m ∧ H.length + (news (fs.take j)).length ≤ id ∧ id < H.length + (news (fs.take (j + 1))).length := by
          intro m
          induction m with
          | zero => intro _ h2; simp [news] at h2; omega
          | succ m ih =>
            intro hm h2
            rcases Nat.lt_or_ge id (H.length + (news (fs.take m)).length) with h3 | h3
            · obtain ⟨j, h4, h5⟩ := ih (by omega) h3; exact ⟨j, by omega, h5⟩
            · exact ⟨m, by omega, h3, h2⟩
        obtain ⟨j, hj, h2⟩ := key fs.length (Nat.le_refl _) (by rw [List.take_length]; simpa using hid)
        exact ⟨j, (hlist j).2 (by omega), h2⟩
    have hmask := mask_all _ _ hvis
    have hr : Rel n k0 B U1 φ1 V1 w' (FR F (ops.toList.take h) fs) (H ++ news fs) a' := by
      refine ⟨m.size, m.defers, fun t => ?_, hmask ▸ m.heap, m.base, hmask ▸ m.own, by have := r.ownk; simp; omega⟩
      by_cases hc : ∃ j o, j < h ∧ ops[j]? = some o ∧ o.dst = some t
      · obtain ⟨j, o, hj, ho, hd⟩ := hc
        have hf : ∃ f, fs[j]? = some f := ⟨fs[j]'(by omega), List.getElem?_eq_getElem _⟩
        obtain ⟨f, hf⟩ := hf
        rw [fr_at (ops.toList.take h) fs F j o f (by rw [List.getElem?_take, if_pos hj]; simpa using ho) hf hd (fun k o' hk hd' => by
          rw [List.getElem?_take] at hk
          split at hk
          · rename_i hkh; exact huniq k j o' o t hkh hj (by simpa using hk) ho hd' hd
          · cases hk)]
        exact (m.facts j f ((hlist j).2 hj) hf).2 t (by rw [ho]; exact hd)
      · rw [fr_other _ _ F (fun o ho hd => by
          obtain ⟨j, hj⟩ := List.mem_iff_getElem?.1 ho
          rw [List.getElem?_take] at hj
          split at hj
          · rename_i hjh; exact hc ⟨j, o, hjh, by simpa using hj, hd⟩
          · cases hj)]
        have e1 : a'.tmps.getD t undef = a.tmps.getD t undef := by
          rw [Array.getD_eq_getD_getElem?, Array.getD_eq_getD_getElem?, m.other t (fun j hj he => by
            cases hoj : ops[j]? with
            | none => rw [hoj] at he; cases he
            | some oj => rw [hoj] at he; exact hc ⟨j, oj, (hlist j).1 hj, hoj, he⟩)]
        rw [e1]
        exact (r.frame t).step r.heap m.step
    have hst : Step B U φ V w H U1 φ1 V1 w' (H ++ news fs) := hmask ▸ m.step
    have := sq_ops (P := P) (q := q) (QQ := Lift n k0 B U φ V w H Q) hb (fun F' H' U' φ' V' w' a' hk r' s' => ⟨.normal, F', H', U', φ', V', True.intro, hk, r', s'⟩) ops.toList (fun i => by simp) (ops.toList.drop h) (ops.toList.take h) _ _ U1 φ1 V1 w' a' (by simp) hsq hr hst
    have e2 : (List.range (ops.toList.drop h).length).map (· + (ops.toList.take h).length) = List.range' h (ops.size - h) := by
      rw [List.range'_eq_map_range]
      simp [Nat.min_eq_left hle]
      intro x _; omega
    rw [e2] at this
    exact this
  · refine ⟨U, φ, V, r.size, r.defers, fun _ _ => rfl, ?_, r.base, ?_, ?_, fun id h => .inl (r.heap.ult id h), fun j f hj => by
      have := getD_lt hj
      simp only [Array.size_replicate] at this
      simp [this] at hj⟩
    all_goals
      have hnone : ∀ j, ¬ (Array.replicate ops.size false).getD j false = true := fun j hj => by
        have := getD_lt hj
        simp only [Array.size_replicate] at this
        simp [this] at hj
      have hvis : ∀ (id : Nat) b, (mask (fun id => id < H.length ∨ ∃ j, (Array.replicate ops.size false).getD j false = true ∧ H.length + (news (fs.take j)).length ≤ id ∧ id < H.length + (news (fs.take (j + 1))).length) (H ++ news fs))[id]? = some (some b) ↔ H[id]? = some (some b) := by
        intro id b
        rw [mask_get]
        constructor
        · rintro ⟨h1 | ⟨j, hj, _⟩, h2⟩
          · rw [full_old h1] at h2; exact h2
          · exact absurd hj (hnone j)
        · intro h1
          have hlt := (List.getElem?_eq_some_iff.1 h1).1
          exact ⟨.inl hlt, by rw [full_old hlt]; exact h1⟩
      have hlive : ∀ id, Live (mask (fun id => id < H.length ∨ ∃ j, (Array.replicate ops.size false).getD j false = true ∧ H.length + (news (fs.take j)).length ≤ id ∧ id < H.length + (news (fs.take (j + 1))).length) (H ++ news fs)) id ↔ Live H id := fun id => exists_congr fun b => hvis id b
    · have hh := r.heap
      refine ⟨fun id b hb => ?_, fun id id' h1 h2 => hh.inj id id' ((hlive id).1 h1) ((hlive id').1 h2), fun id h1 => hh.apart id ((hlive id).1 h1), hh.vlt, fun id h1 => by rw [mask_len]; have := hh.ult id h1; simp; omega, hh.tab⟩
      exact (hh.blk id b ((hvis id b).1 hb)).up rfl fun x v hv => hv.up (fun _ h => h) (fun _ _ => rfl) (fun _ h => h) (fun _ _ => rfl)
    · exact fun id hk h1 => r.own id hk ((hlive id).1 h1)
    · exact ⟨rfl, rfl, rfl, Nat.le_refl _, fun _ _ _ => rfl, fun _ h => h, fun _ _ h => h, fun _ _ => rfl, by rw [mask_len]; simp, fun _ h => h, fun _ h => .inl h, fun id _ h1 => (hlive id).1 h1, fun id h1 => .inl ⟨id, (hlive id).1 h1, rfl⟩⟩
end

def args0 : Nat → List AV → AF
  | _, [] => []
  | k, a :: r => (k, a) :: args0 (k + 1) r
theorem args0_get : ∀ (args : List AV) (k t : Nat), aget (args0 k args) t = if k ≤ t then args.getD (t - k) .any else .any := by
  intro args
  induction args with
  | nil => intro k t; simp [args0, aget]
  | cons a r ih =>
    intro k t
    simp only [args0, aget, ih]
    by_cases h : k = t
    · subst h; simp
    · have : Nat.beq k t = false := by rw [← Bool.not_eq_true]; simpa using h
      rw [this, cond_false]
      by_cases h2 : k ≤ t
      · rw [if_pos h2, if_pos (by omega)]
        obtain ⟨d, hd⟩ := Nat.exists_eq_add_of_le (show k + 1 ≤ t by omega)
        subst hd
        rw [show k + 1 + d - (k + 1) = d by omega, show k + 1 + d - k = d + 1 by omega]; simp
      · rw [if_neg h2, if_neg (by omega)]

/-- a function's results: each in a slot, or in a cell that may change -/
inductive Rsl (T : TT) (F : AF) (H : AH) : List ResultVar → List AV → Prop
  | nil : Rsl T F H [] []
  | tmp (t : Tmp) (r : List ResultVar) (vs : List AV) : Rsl T F H r vs → Rsl T F H (.tmp t :: r) (aget F t :: vs)
  | cell (a : Tmp) (t : TypeId) (r : List ResultVar) (vs : List AV) (id sz off : Nat) (b : Blk) (v : AV) : aget F a = .ref id sz 0 off → H[id]? = some (some b) → b.sz = sz → 0 < b.n → apart T t ((b.g 0).drop off) = some v → Rsl T F H r vs → Rsl T F H (.cell a t :: r) (v :: vs)
def pack : List AV → AV
  | [v] => v
  | vs => .tup vs
section
variable {P : Program} {q : Bool} {T : TT} {f : FuncId} {fn : Func} {c : Code} {args : List AV} {H : AH} {Q : AV → AH → Prop}
def resOf (tmps : Array Value) : ResultVar → Sem Value
  | .tmp t => pure (tmps.getD t undef)
  | .cell a t => do loadVar t (← asAddr (tmps.getD a undef))
/-- a load from memory that may change -/
theorem run_load_ref (hT : TTok P T) {U : Nat → Prop} {φ : Pl} {V : Nat → Prop} {w : World} {id i off : Nat} {b : Blk} (hb : BlkRel U φ V w (φ id) b) (hi : i < b.n) {t : TypeId} {v : AV} (h : apart T t ((b.g i).drop off) = some v) :
    ∃ u, (loadVar t ⟨(φ id).1, i * b.sz + off, none⟩).run P w = .ok u w ∧ VRel U φ V w v u := by
  obtain ⟨cur, hc, _, _, _, hl, hcell⟩ := hb
  have cellAt : ∀ (j : Nat) y, ((b.g i).drop off)[j]? = some y → ∃ u, w.cell? ⟨(φ id).1, i * b.sz + off + j, none⟩ = some u ∧ u.oneCell' = true ∧ VRel U φ V w y u := fun j y hy => by
    rw [List.getElem?_drop] at hy
    obtain ⟨u, hu, h1, h2⟩ := hcell i (off + j) y hi hy
    exact ⟨u, by simp [World.cell?, hc, Nat.add_assoc, hu], h1, h2⟩
  generalize (b.g i).drop off = cs at *
  unfold apart at h
  cases hti : tget T t with
  | none => rw [hti] at h; cases h
  | some ti =>
    rw [hti] at h
    have hg := tt_agg hT hti w
    have hs := tt_size hT hti w
    obtain ⟨info, d, z, g1, g2, g3, g4, g5, _⟩ := hT t ti hti
    have aggc : (bif Nat.ble ti.size cs.length then fl (cs.take ti.size) fun l => some (AV.agg l) else none) = some v → d.isRow = true → ∃ u, (loadVar t ⟨(φ id).1, i * b.sz + off, none⟩).run P w = .ok u w ∧ VRel U φ V w v u := by
      intro ha hd
      cases hb' : Nat.ble ti.size cs.length with
      | false => rw [hb'] at ha; cases ha
      | true =>
        rw [hb', cond_true, fl_eq] at ha; cases ha
        have hle := Nat.le_of_ble_eq_true hb'
        have hus : ∃ us : List Value, us.length = ti.size ∧ ∀ j, j < ti.size → ∃ u y, us[j]? = some u ∧ cs[j]? = some y ∧ w.cell? ⟨(φ id).1, i * b.sz + off + j, none⟩ = some u ∧ u.oneCell' = true ∧ VRel U φ V w y u := by
          refine ⟨(List.range ti.size).map fun j => (w.cell? ⟨(φ id).1, i * b.sz + off + j, none⟩).getD undef, by simp, fun j hj => ?_⟩
          obtain ⟨u, hu, h1, h2⟩ := cellAt j cs[j] (List.getElem?_eq_getElem (by omega))
          exact ⟨u, cs[j], by simp [hj, hu], List.getElem?_eq_getElem (by omega), hu, h1, h2⟩
        obtain ⟨us, hul, hus⟩ := hus
        have hra : w.rangeAt (φ id).1 (i * b.sz + off) us := fun j u hu => by
          have hj : j < us.length := (List.getElem?_eq_some_iff.1 hu).1
          obtain ⟨u', y, k1, k2, k3, _⟩ := hus j (by omega)
          rw [hu] at k1; cases k1; exact k3
        refine ⟨.agg us.toArray, run_loadVar_mid w _ _ t us d hra g2 hd (by simp [g1, g5, hul]), .agg _ _ (by simp [hul]; omega) (fun u hu => ?_) (fun j y u hy hu => ?_)⟩
        · obtain ⟨j, hj, rfl⟩ := List.mem_iff_getElem.1 hu
          obtain ⟨u', y, k1, k2, k3, k4, _⟩ := hus j (by omega)
          rw [List.getElem?_eq_getElem hj] at k1; cases k1; exact k4
        · have hj : j < us.length := (List.getElem?_eq_some_iff.1 hu).1
          obtain ⟨u', y', k1, k2, k3, k4, k5⟩ := hus j (by omega)
          rw [hu] at k1; cases k1
          rw [List.getElem?_take, if_pos (by omega), k2] at hy; cases hy
          exact k5
    have cellc : ahead cs = some v → (isAgg t).run P w = .ok false w → ∃ u, (loadVar t ⟨(φ id).1, i * b.sz + off, none⟩).run P w = .ok u w ∧ VRel U φ V w v u := by
      intro ha hg
      cases cs with
      | nil => cases ha
      | cons a r =>
        simp only [ahead, fv_eq] at ha; cases ha
        obtain ⟨u, hu, h1, h2⟩ := cellAt 0 v rfl
        simp only [Nat.add_zero] at hu
        exact ⟨u, by simp [loadVar, hg, hu], h2⟩
    obtain ⟨kd, sz, bt, zs⟩ := ti
    cases kd
    case array => exact aggc h (by cases d <;> simp [kindOf] at g4 <;> rfl)
    case struct => exact aggc h (by cases d <;> simp [kindOf] at g4 <;> rfl)
    all_goals exact cellc h hg
theorem rsl_run (hT : TTok P T) {U : Nat → Prop} {φ : Pl} {V : Nat → Prop} {w : World} {F : AF} {H : AH} {tmps : Array Value} (hf : ∀ t, VRel U φ V w (aget F t) (tmps.getD t undef)) (hh : HRel U φ V w H) {rs : List ResultVar} {vs : List AV} (h : Rsl T F H rs vs) :
    ∃ us, (rs.mapM (resOf tmps)).run P w = .ok us w ∧ VRels U φ V w vs us := by
  induction h with
  | nil => exact ⟨[], rfl, rfl, fun i x u hx => by simp at hx⟩
  | tmp t r vs _ ih =>
    obtain ⟨us, h1, h2⟩ := ih
    refine ⟨tmps.getD t undef :: us, by simp only [List.mapM_cons, resOf, Sem.run_bind, Sem.run_pure, Result.andThen_ok, h1], by simp [h2.1], fun i x u hx hu => ?_⟩
    cases i with
    | zero => simp at hx hu; rw [← hx, ← hu]; have := hf t; rwa [Array.getD_eq_getD_getElem?] at this
    | succ i => exact h2.2 i x u (by simpa using hx) (by simpa using hu)
  | cell a t r vs id sz off b v ha hb hsz hn hv _ ih =>
    obtain ⟨us, h1, h2⟩ := ih
    have h3 := hf a
    rw [ha] at h3
    obtain ⟨h3, _⟩ := h3.inv_ref
    obtain ⟨u, h4, h5⟩ := run_load_ref hT (hh.blk id b hb) hn hv
    have e : 0 * sz + off = 0 * b.sz + off := by omega
    rw [e] at h3
    refine ⟨u :: us, ?_, by simp [h2.1], fun i x u hx hu => ?_⟩
    · rw [List.mapM_cons]
      have h6 : (resOf tmps (.cell a t)).run P w = .ok u w := by simp only [resOf, h3, asAddr, Sem.run_bind, Sem.run_pure, Result.andThen_ok, h4]
      simp only [Sem.run_bind, h6, Sem.run_pure, Result.andThen_ok, h1]
    · cases i with
      | zero => simp at hx hu; rw [← hx, ← hu]; exact h5
      | succ i => exact h2.2 i x u (by simpa using hx) (by simpa using hu)
theorem pack_rel {U : Nat → Prop} {φ : Pl} {V : Nat → Prop} {w : World} {vs : List AV} {us : List Value} (h : VRels U φ V w vs us) : VRel U φ V w (pack vs) (if h : us.toArray.size = 1 then us.toArray[0] else .tuple us.toArray) := by
  match vs, us, h with
  | [], [], h => exact .tup [] [] rfl h.2
  | [v], [u], h => exact h.2 0 v u rfl rfl
  | v :: v' :: vs, u :: u' :: us, h => 
    have : ¬ (u :: u' :: us).toArray.size = 1 := by simp
    rw [dif_neg this]
    exact .tup _ _ h.1 h.2
  | [], _ :: _, h => have := h.1; simp at this
  | _ :: _, [], h => have := h.1; simp at this
  | [_], _ :: _ :: _, h => have := h.1; simp at this
  | _ :: _ :: _, [_], h => have := h.1; simp at this
/-- ENTERING A FUNCTION: its body, with the parameters in the first slots -/
theorem sc_enter (hT : TTok P T) (hf : P.funcs[f]? = some fn) (hok : fnOK P f = true) (hc : fn.body = some c) (hl : args.length ≤ fn.ntmps)
    (h : AW P q fn.ntmps H.length c (fun x F' H' => (match x with | .exit _ => False | _ => True) ∧ ∃ vs, Rsl T F' H' fn.results.toList vs ∧ Q (pack vs) H') (args0 0 args) H) : SC q P f args H Q := by
  refine ⟨hok, fun U φ V w cargs hh ha => ?_⟩
  refine calls_of_wp hf hc ?_
  have hsz : cargs.length = args.length := ha.1
  have hr : Rel fn.ntmps H.length (if q then w.heap.size else 0) U φ V w (args0 0 args) H { tmps := cargs.toArray ++ Array.replicate (fn.ntmps - cargs.toArray.size) undef, defers := [] } := by
    refine ⟨by simp; omega, rfl, fun t => ?_, hh, by cases q <;> simp, fun id hk hl => by have := hl.lt; omega, Nat.le_refl _⟩
    rw [args0_get]
    simp only [Nat.zero_le, if_true, Nat.sub_zero]
    rcases Nat.lt_or_ge t args.length with h1 | h1
    · have e : (cargs.toArray ++ Array.replicate (fn.ntmps - cargs.toArray.size) undef).getD t undef = cargs[t]'(by omega) := by
        simp [Array.getD_eq_getD_getElem?, Array.getElem?_append, show t < cargs.length by omega]
      rw [e, List.getD_eq_getElem?_getD, List.getElem?_eq_getElem h1]
      exact ha.2 t _ _ (List.getElem?_eq_getElem h1) (List.getElem?_eq_getElem (by omega))
    · rw [List.getD_eq_getElem?_getD, List.getElem?_eq_none h1]; exact .any _
  refine wp_mono (h _ U φ V w _ (fun e => by simp [e]) hr) fun e a' w' hl => ?_
  obtain ⟨x, F', H', U', φ', V', h1, ⟨hx, vs, hrs, hQ⟩, h3, h4⟩ := hl
  obtain ⟨us, hrun, hrel⟩ := rsl_run hT h3.frame h3.heap hrs
  have hres : (results fn a'.tmps).run P w' = .ok (if h : us.toArray.size = 1 then us.toArray[0] else .tuple us.toArray) w' := by
    have e : results fn a'.tmps = (do let vs ← fn.results.mapM (resOf a'.tmps); pure (if h : vs.size = 1 then vs[0] else .tuple vs) : Sem Value) := by
      unfold results; congr 1
    rw [e, Array.mapM_eq_mapM_toList]
    simp only [Sem.run_bind, Sem.run_map, hrun, Result.andThen_ok, Sem.run_pure]
  have fin : bodyPost P fn (fun e w' => ∃ v, e = .returned v ∧ Post H.length (if q then w.heap.size else 0) U φ V w H Q v w') .normal a' w' :=
    ⟨h3.defers, _, hres, _, rfl, pack vs, U', φ', V', H', hQ, ⟨h3.heap, h3.base, h3.own, h3.ownk⟩, pack_rel hrel, h4⟩
  cases x <;> cases e <;> first | (exact h1.elim) | (exact hx.elim) | exact fin
end
end Go.Proofs.Ytphjglbbhanmpaa.Ab
