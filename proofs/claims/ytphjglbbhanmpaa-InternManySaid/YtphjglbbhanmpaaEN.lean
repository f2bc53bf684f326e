/- Appends, slices, freezing, and what a caller need not know. -/
import Derived.Test.YtphjglbbhanmpaaEM
namespace Go.Proofs.Ytphjglbbhanmpaa.Ab
open Go Go.RowKit

/-- what reads as m elements -/
inductive Src (H : AH) : AV → Nat → Nat → (Nat → List AV) → Prop
  | lst (t : Bool) (sz m : Nat) (g : Nat → List AV) : Src H (.lst t sz m g) sz m g
  | nil (sz : Nat) (g : Nat → List AV) : Src H (.p (.slice none 0 0)) sz 0 g
  | arr (id sz i m : Nat) (b : Blk) (g : Nat → List AV) : H[id]? = some (some b) → b.sz = sz → i + m ≤ b.n → (∀ j, j < m → g j = b.g (i + j)) → Src H (.arr id sz i m) sz m g
theorem addr_add' (b off j : Nat) : (⟨b, off, none⟩ : Addr).add j = ⟨b, off + j, none⟩ := addr_add b off j
theorem src_read {U : Nat → Prop} {φ : Pl} {V : Nat → Prop} {w : World} {H : AH} (hh : HRel U φ V w H) {a : AV} {v : Value} {sz m : Nat} {g : Nat → List AV} (hs : Src H a sz m g) (hr : VRel U φ V w a v) :
    ∃ ad c, v = .slice ad m c ∧ (0 < m → ∃ x, ad = some x ∧ (∀ i, i < m → (g i).length = sz) ∧ ∃ vs : List Value, vs.length = m * sz ∧ (∀ (j : Nat) u, vs[j]? = some u → w.cell? (x.add j) = some u) ∧ (∀ u ∈ vs, u.oneCell' = true) ∧
      ∀ (i j : Nat) y, i < m → (g i)[j]? = some y → ∃ u, vs[i * sz + j]? = some u ∧ VRel U φ V w y u) := by
  have mk : ∀ (b off : Nat), (∀ i, i < m → (g i).length = sz) → (∀ (i j : Nat) y, i < m → (g i)[j]? = some y → ∃ u, w.cell? ⟨b, off + i * sz + j, none⟩ = some u ∧ u.oneCell' = true ∧ VRel U φ V w y u) →
      ∃ vs : List Value, vs.length = m * sz ∧ (∀ (j : Nat) u, vs[j]? = some u → w.cell? ((⟨b, off, none⟩ : Addr).add j) = some u) ∧ (∀ u ∈ vs, u.oneCell' = true) ∧ ∀ (i j : Nat) y, i < m → (g i)[j]? = some y → ∃ u, vs[i * sz + j]? = some u ∧ VRel U φ V w y u := by
    intro b off hl hc
    have at_ : ∀ k, k < m * sz → ∃ u y, w.cell? ⟨b, off + k, none⟩ = some u ∧ u.oneCell' = true ∧ (g (k / sz))[k % sz]? = some y ∧ VRel U φ V w y u := by
      intro k hk
      have hsz : 0 < sz := by
        rcases Nat.eq_zero_or_pos sz with h | h
        · rw [h] at hk; omega
        · exact h
      have h1 : k / sz < m := (Nat.div_lt_iff_lt_mul hsz).2 hk
      have h2 : k % sz < (g (k / sz)).length := by rw [hl _ h1]; exact Nat.mod_lt _ hsz
      obtain ⟨u, h3, h4, h5⟩ := hc _ _ _ h1 (List.getElem?_eq_getElem h2)
      refine ⟨u, _, ?_, h4, List.getElem?_eq_getElem h2, h5⟩
      rw [← h3]; congr 2
      have := Nat.div_add_mod k sz
      rw [Nat.mul_comm] at this; omega
    refine ⟨(List.range (m * sz)).map fun k => (w.cell? ⟨b, off + k, none⟩).getD undef, by simp, fun j u hu => ?_, fun u hu => ?_, fun i j y hi hy => ?_⟩
    · have hj : j < m * sz := by have := (List.getElem?_eq_some_iff.1 hu).1; simpa using this
      obtain ⟨u', y, h1, _⟩ := at_ j hj
      rw [List.getElem?_map, List.getElem?_range hj] at hu
      simp only [Option.map_some, Option.some.injEq] at hu
      rw [addr_add, h1, ← hu, h1]; rfl
    · obtain ⟨k, hk, rfl⟩ := List.mem_map.1 hu
      obtain ⟨u', y, h1, h2, _⟩ := at_ k (by simpa using hk)
      rw [h1]; exact h2
    · obtain ⟨u, h1, h2, h3⟩ := hc i j y hi hy
      have hjs : j < sz := by have := (List.getElem?_eq_some_iff.1 hy).1; rw [hl i hi] at this; exact this
      have hlt : i * sz + j < m * sz := by
        have : (i + 1) * sz ≤ m * sz := Nat.mul_le_mul_right _ hi
        rw [Nat.add_mul] at this; omega
      refine ⟨u, ?_, h3⟩
      rw [List.getElem?_map, List.getElem?_range hlt]
      rw [show off + i * sz + j = off + (i * sz + j) by omega] at h1
      simp [h1]
  cases hs with
  | lst t _ _ _ =>
    obtain ⟨ad, c, hv, _, _, _, h⟩ := hr.inv_lst
    refine ⟨ad, c, hv, fun hm => ?_⟩
    obtain ⟨b, off, cur, e, fz, rfl, _, hc, hl, hcell⟩ := h hm
    exact ⟨_, rfl, hl, mk b off hl fun i j y hi hy => by obtain ⟨u, h1, h2, h3⟩ := hcell i j y hi hy; exact ⟨u, by simp [World.cell?, hc, h1], h2, h3⟩⟩
  | nil => exact ⟨none, 0, hr.inv_p, fun h => by omega⟩
  | arr id _ i _ b _ hb hs hi hg =>
    obtain ⟨o, hv, _, h1, h2⟩ := hr.inv_arr
    refine ⟨_, _, hv, fun hm => ?_⟩
    have ho : o = i * sz := by
      rcases h2 with h2 | h2
      · exact h2
      · omega
    subst hs ho
    obtain ⟨cur, hc, _, _, _, hl, hcell⟩ := hh.blk id b hb
    have hl' : ∀ j, j < m → (g j).length = b.sz := fun j hj => by rw [hg j hj]; exact hl _ (by omega)
    refine ⟨_, rfl, hl', mk _ _ hl' fun j l y hj hy => ?_⟩
    rw [hg j hj] at hy
    obtain ⟨u, h1, h2, h3⟩ := hcell _ l y (by omega) hy
    refine ⟨u, ?_, h2, h3⟩
    rw [show i * b.sz + j * b.sz + l = (i + j) * b.sz + l by rw [Nat.add_mul]]
    simp [World.cell?, hc, h1]
/-- nothing is appended -/
theorem run_append_zero {P : Program} (w : World) (t ty e : TypeId) (i : TypeInfo) (ht : P.underlying t = some (.slice e)) (hi : P.info? e = some i) (a : Option Addr) (n c : Nat) (hnc : n ≤ c) (ad : Option Addr) (d : Nat) :
    (Builtin.append_ #[t, t] ty #[.slice a n c, .slice ad 0 d]).run P w = .ok (.slice a n c) w := by
  have hl : ∀ (x : Addr), (loadCells x 0).run P w = .ok #[] w := fun x => by simpa using run_loadCells_list (P := P) w x [] (by simp)
  have hf : (Builtin.firstCells i.size 0 (.slice ad 0 d)).run P w = .ok #[] w := by
    cases ad with
    | none => rfl
    | some x => simp only [Builtin.firstCells, Nat.zero_mul]; exact hl x
  cases a <;> simp [Builtin.append_, run_underlying ht, sizeOf, typeInfo, hi, Builtin.lenOf, hnc, hf, storeCells]
section ops
variable {P : Program} {T : TT} {q : Bool} {k0 : Nat} {H : AH} {o : Oper} {ρ : Operand → AV}
/-- an operation of 'append' -/
structure IsAppend (T : TT) (o : Oper) (x y : Operand) (t e : TypeId) (ei : TI) : Prop where
  op : ∃ cl : Call, o.op = .call cl ∧ cl.callee = .builtin .append ∧ cl.args = #[x, y] ∧ cl.argTypes = #[t, t]
  ty : ∃ ti, tget T t = some ti ∧ ti.kind = .slice e
  el : tget T e = some ei
  pos : 0 < ei.size
theorem IsAppend.run {x y : Operand} {t e : TypeId} {ei : TI} (h : IsAppend T o x y t e ei) {ρc : Operand → Value} {w w' : World} {v : Value} (hr : (Builtin.append_ #[t, t] o.type #[ρc x, ρc y]).run P w = .ok v w') : (execOp ρc o).run P w = .ok (.value v) w' := by
  obtain ⟨cl, ho, hc, ha, hat⟩ := h.op
  simp [execOp, ho, resolve, hc, ha, hat, invoke, builtin, hr]
theorem IsAppend.mem {x y : Operand} {t e : TypeId} {ei : TI} (h : IsAppend T o x y t e ei) : x ∈ o.op.operands ∧ y ∈ o.op.operands := by
  obtain ⟨cl, ho, hc, ha, hat⟩ := h.op
  simp [ho, Op.operands, Call.operands, hc, ha]
theorem IsAppend.types {x y : Operand} {t e : TypeId} {ei : TI} (hT : TTok P T) (h : IsAppend T o x y t e ei) : ∃ info z, P.underlying t = some (.slice e) ∧ P.info? e = some info ∧ info.zero = some z ∧ info.size = ei.size ∧ info.bytes = ei.bytes ∧ z.cells.toList = ei.zs := by
  obtain ⟨ti, h1, h2⟩ := h.ty
  obtain ⟨info, d, z, g1, g2, g3, g4, g5, g6, g7⟩ := hT e ei h.el
  exact ⟨info, z, tt_slice hT h1 h2, g1, g3, g5, g6, g7⟩
/-- a list is made anew out of another one: it never changes -/
theorem ao_clone (hT : TTok P T) {x y : Operand} {t e : TypeId} {ei : TI} (hap : IsAppend T o x y t e ei) (hx : ρ x = .p (.slice none 0 0) ∨ ∃ sz g, ρ x = .lst true sz 0 g) {m : Nat} {g : Nat → List AV} (hy : Src H (ρ y) ei.size m g)
    (hm : m * ei.bytes ≤ 140737488355328) (hm2 : m ≤ 9223372036854775807) : AO P q k0 o ρ H (fun r H' => r = .lst false ei.size m g ∧ H' = H) := by
  intro B U φ V w ρc hq gd hr hf
  obtain ⟨info, z, ht, hi, hz, hsz, hby, hzs⟩ := hap.types hT
  obtain ⟨ad, c, hv, hsrc⟩ := src_read gd.heap hy (hr y hap.mem.2)
  have hxv : ∃ a, ρc x = .slice a 0 0 := by
    have := hr x hap.mem.1
    rcases hx with hx | ⟨sz, g, hx⟩ <;> rw [hx] at this
    · exact ⟨none, this.inv_p⟩
    · obtain ⟨a, c, h1, _, _, h2, _⟩ := this.inv_lst
      rw [h2 rfl] at h1; exact ⟨a, h1⟩
  obtain ⟨a, hxv⟩ := hxv
  rcases Nat.eq_zero_or_pos m with h0 | h0
  · subst h0
    have hrun := run_append_zero (P := P) w t o.type e info ht hi a 0 0 (Nat.le_refl _) ad c
    rw [← hxv, ← hv] at hrun
    rw [hap.run hrun]
    exact ⟨_, U, φ, V, H, ⟨rfl, rfl⟩, gd, by rw [hxv]; exact .lst0 _ _ _ _ _ (Nat.zero_le _) (fun h => by cases h), Step.refl ..⟩
  · obtain ⟨x', rfl, hgl, vs, hvl, hvc, hv1, hvg⟩ := hsrc h0
    have hbig : ∀ (cap : Nat), Builtin.nextslicecap (0 + m) 0 * info.bytes ≤ 281474976710656 := fun _ => growslice_fits (by omega) (by rw [hby, Nat.zero_add]; exact hm)
    have hrun : (Builtin.append_ #[t, t] o.type #[ρc x, ρc y]).run P w = .ok (.slice (some ⟨w.heap.size, 0, none⟩) m (grownCap w m 0 e)) (w.drew.alloc (.cells (vs.toArray ++ Builtin.zeroCells z.cells (grownCap w m 0 e - m)) e)) := by
      rw [hxv, hv]
      cases a with
      | none =>
        exact run_append_nil (P := P) w t o.type e info z ht hi hz x' m c vs (by rw [hvl, hsz]) hvc h0 (by omega) (by rw [hby]; omega)
      | some b =>
        have := run_append_grow (P := P) w t o.type e info z ht hi hz b 0 0 [] (by simp) (by simp) x' m c vs (by rw [hvl, hsz]) hvc (by omega) (by omega) (hbig 0)
        simpa using this
    rw [hap.run hrun]
    obtain ⟨g1, s1⟩ := drew_step gd
    obtain ⟨g2, s2⟩ := alloc_step g1 (vs.toArray ++ Builtin.zeroCells z.cells (grownCap w m 0 e - m)) e
    refine ⟨_, U, φ, _, H, ⟨rfl, rfl⟩, g2, ?_, s1.trans s2⟩
    refine VRel.mk_lst (e := e) (fz := (0, 0)) (cur := vs.toArray ++ Builtin.zeroCells z.cells (grownCap w m 0 e - m)) (grownCap_ge w m 0 e) (grownCap_le_maxLen w m 0 e (by simp only [maxLen]; omega)) (fun h => by cases h) (.inr rfl) (heap_alloc_new w.drew _) hgl fun i j y hi hy => ?_
    obtain ⟨u, h1, h2⟩ := hvg i j y hi hy
    have hlt := (List.getElem?_eq_some_iff.1 h1).1
    refine ⟨u, ?_, hv1 u (List.mem_of_getElem? h1), (h2.step gd.heap (s1.trans s2))⟩
    rw [Nat.zero_add, Array.getElem?_append_left (by simpa using hlt)]
    simpa using h1
/-- what is gathered: nothing yet, or a block of one's own -/
def Acc (k0 : Nat) (H : AH) (v : AV) (e sz n : Nat) (g : Nat → List AV) : Prop :=
  (n = 0 ∧ v = .p (.slice none 0 0)) ∨ ∃ id b, k0 ≤ id ∧ v = .arr id sz 0 n ∧ H[id]? = some (some b) ∧ b.ety = e ∧ b.sz = sz ∧ b.n = n ∧ ∀ j, j < n → b.g j = g j
def accId : AV → Option Nat
  | .arr id _ _ _ => some id
  | _ => none
def Oth (H H' : AH) (x : Option Nat) : Prop := H.length ≤ H'.length ∧ ∀ j, j < H.length → some j ≠ x → H'[j]? = H[j]?
theorem acc_nil (k0 : Nat) (H : AH) (e sz : Nat) (g : Nat → List AV) : Acc k0 H (.p (.slice none 0 0)) e sz 0 g := .inl ⟨rfl, rfl⟩
theorem Acc.ext {k0 : Nat} {H : AH} {v : AV} {e sz n : Nat} {g g' : Nat → List AV} (h : Acc k0 H v e sz n g) (hg : ∀ j, j < n → g j = g' j) : Acc k0 H v e sz n g' := by
  rcases h with h | ⟨id, b, h1, h2, h3, h4, h5, h6, h7⟩
  · exact .inl h
  · exact .inr ⟨id, b, h1, h2, h3, h4, h5, h6, fun j hj => (h7 j hj).trans (hg j hj)⟩
theorem Acc.keep {k0 : Nat} {H H' : AH} {v : AV} {e sz n : Nat} {g : Nat → List AV} (h : Acc k0 H v e sz n g) {x : Option Nat} (ho : Oth H H' x) (hx : accId v = none ∨ accId v ≠ x) : Acc k0 H' v e sz n g := by
  rcases h with h | ⟨id, b, h1, h2, h3, h4⟩
  · exact .inl h
  · refine .inr ⟨id, b, h1, h2, ?_, h4⟩
    rw [ho.2 id (List.getElem?_eq_some_iff.1 h3).1 (by subst h2; simpa [accId] using hx)]; exact h3
set_option maxHeartbeats 1000000 in
theorem ao_append (hT : TTok P T) (hz : TTz T) {x y : Operand} {t e : TypeId} {ei : TI} (hap : IsAppend T o x y t e ei) {n : Nat} {g0 : Nat → List AV} (hx : Acc k0 H (ρ x) e ei.size n g0) {m : Nat} {g : Nat → List AV} (hy : Src H (ρ y) ei.size m g)
    (hm : (n + m) * ei.bytes ≤ 140737488355328) (hm2 : n + m ≤ 9223372036854775807) {K : AV → AH → Prop}
    (hK : ∀ r H', Acc k0 H' r e ei.size (n + m) (fun j => if j < n then g0 j else g (j - n)) → Oth H H' (accId (ρ x)) → (accId r = accId (ρ x) ∨ ∃ id, accId r = some id ∧ H.length ≤ id) → K r H') : AO P q k0 o ρ H K := by
  intro B U φ V w ρc hq gd hr hf
  obtain ⟨info, z, ht, hi, hzz, hsz, hby, hzs⟩ := hap.types hT
  obtain ⟨ad, c, hv, hsrc⟩ := src_read gd.heap hy (hr y hap.mem.2)
  have hrx := hr x hap.mem.1
  have hzl : z.cells.size = ei.size := by have := congrArg List.length hzs; simp at this; rw [this, (hz e ei hap.el).1]
  rcases Nat.eq_zero_or_pos m with h0 | h0
  · -- nothing is appended
    subst h0
    have hsame : ∃ a cc, ρc x = .slice a n cc ∧ n ≤ cc := by
      rcases hx with ⟨h1, h2⟩ | ⟨id, b, h1, h2, _⟩ <;> rw [h2] at hrx
      · subst h1; exact ⟨none, 0, hrx.inv_p, Nat.le_refl _⟩
      · obtain ⟨o', h3, _, h4, _⟩ := hrx.inv_arr
        exact ⟨_, _, h3, by omega⟩
    obtain ⟨a, cc, hxv, hnc⟩ := hsame
    have hrun := run_append_zero (P := P) w t o.type e info ht hi a n cc hnc ad c
    rw [← hxv, ← hv] at hrun
    rw [hap.run hrun]
    exact ⟨ρ x, U, φ, V, H, hK _ _ (hx.ext fun j hj => by simp [hj]) ⟨Nat.le_refl _, fun _ _ _ => rfl⟩ (.inl rfl), gd, hrx, Step.refl ..⟩
  obtain ⟨x', rfl, hgl, vs, hvl, hvc, hv1, hvg⟩ := hsrc h0
  -- a new block is made
  have made : ∀ (Hk : AH) (U' : Nat → Prop) (φ' : Pl) (V' : Nat → Prop) (olds : List Value), Good k0 B U' φ' V' w.drew Hk → Step B U φ V w H U' φ' V' w.drew Hk → olds.length = n * ei.size → (∀ u ∈ olds, u.oneCell' = true) →
      (∀ j, j < n → (g0 j).length = ei.size) → (∀ (i j : Nat) y, i < n → (g0 i)[j]? = some y → ∃ u, olds[i * ei.size + j]? = some u ∧ VRel U' φ' V' w.drew y u) → (∀ x v, VRel U φ V w x v → VRel U' φ' V' w.drew x v) → ∀ cap, n + m ≤ cap → cap ≤ maxLen → Oth H Hk (accId (ρ x)) →
      Post k0 B U φ V w H K (.slice (some ⟨w.heap.size, 0, none⟩) (n + m) cap) (w.drew.alloc (.cells (olds.toArray ++ vs.toArray ++ Builtin.zeroCells z.cells (cap - (n + m))) e)) := by
    intro Hk U' φ' V' olds g1 s1 hol ho1 hg0l hog hup cap hcap hcm hoth
    obtain ⟨φ2, hn2, g2, s2⟩ := new_step g1 (olds.toArray ++ vs.toArray ++ Builtin.zeroCells z.cells (cap - (n + m))) ⟨e, ei.size, n + m, fun j => if j < n then g0 j else g (j - n)⟩ cap (by
      simp only [Array.size_append, List.size_toArray, size_zeroCells, hzl, hol, hvl, ← Nat.add_mul]; congr 1; omega) hcap hcm (fun j hj => by
      show (if j < n then g0 j else g (j - n)).length = _
      split
      · rename_i h; exact hg0l j h
      · exact hgl _ (by have : j < n + m := hj; omega)) (fun i j y hi hy => by
      have hi : i < n + m := hi
      have hy : (if i < n then g0 i else g (i - n))[j]? = some y := hy
      show ∃ u, (_ : Array Value)[i * ei.size + j]? = some u ∧ _
      split at hy
      · rename_i hin
        obtain ⟨u, h1, h2⟩ := hog i j y hin hy
        have hlt := (List.getElem?_eq_some_iff.1 h1).1
        exact ⟨u, by rw [Array.getElem?_append_left (by simp; omega), Array.getElem?_append_left (by simpa using hlt)]; simpa using h1, ho1 u (List.mem_of_getElem? h1), h2⟩
      · rename_i hin
        obtain ⟨u, h1, h2⟩ := hvg (i - n) j y (by omega) hy
        have hlt := (List.getElem?_eq_some_iff.1 h1).1
        have e1 : i * ei.size + j = n * ei.size + ((i - n) * ei.size + j) := by
          rw [← Nat.add_assoc, ← Nat.add_mul]; congr 2; omega
        refine ⟨u, ?_, hv1 u (List.mem_of_getElem? h1), hup _ _ h2⟩
        rw [Array.getElem?_append_left (by simp; omega), Array.getElem?_append_right (by simp; omega)]
        simp only [List.size_toArray, hol, e1]
        rw [show n * ei.size + ((i - n) * ei.size + j) - n * ei.size = (i - n) * ei.size + j by omega]
        simpa using h1)
    refine ⟨.arr Hk.length ei.size 0 (n + m), _, φ2, V', _, hK _ _ (.inr ⟨Hk.length, ⟨e, ei.size, n + m, fun j => if j < n then g0 j else g (j - n)⟩, g1.ownk, rfl, by simp, rfl, rfl, rfl, fun _ _ => rfl⟩) ⟨by have := hoth.1; simp; omega, fun j hj hne => ?_⟩ (.inr ⟨_, rfl, hoth.1⟩), g2, ?_, s1.trans s2⟩
    · rw [List.getElem?_append_left (by have := hoth.1; omega)]; exact hoth.2 j hj hne
    · have := VRel.arr (U := fun j => U' j ∨ j = Hk.length) (φ := φ2) (V := V') (w := w.drew.alloc (.cells (olds.toArray ++ vs.toArray ++ Builtin.zeroCells z.cells (cap - (n + m))) e)) Hk.length ei.size 0 (n + m) 0 (.inr rfl) (by rw [hn2]; simpa using hcap) (.inl (by simp))
      rw [hn2] at this; simpa using this
  obtain ⟨gdw, sdw⟩ := drew_step gd
  rcases hx with ⟨h1, h2⟩ | ⟨id, b, hk, h2, hb, hbe, hbs, hbn, hbg⟩
  · subst h1
    simp only [Nat.zero_add] at hm hm2
    rw [h2] at hrx
    have hxv := hrx.inv_p
    have hrun := run_append_nil (P := P) w t o.type e info z ht hi hzz x' m c vs (by rw [hvl, hsz]) hvc h0 (by omega) (by rw [hby]; omega)
    rw [← hxv, ← hv] at hrun
    rw [hap.run hrun]
    have := made H U φ V [] gdw sdw (by simp) (by simp) (fun j hj => by omega) (fun i j y hi => by omega) (fun x v h => h.step gd.heap sdw) (grownCap w m 0 e) (by simpa using grownCap_ge w m 0 e) (grownCap_le_maxLen w m 0 e (by simp only [maxLen]; omega)) ⟨Nat.le_refl _, fun _ _ _ => rfl⟩
    simpa [Res] using this
  · rw [h2] at hrx
    obtain ⟨o', hxv, hid, hcap, ho'⟩ := hrx.inv_arr
    have ho0 : o' = 0 := by rcases ho' with h | h <;> omega
    subst ho0
    simp only [Nat.sub_zero] at hxv
    obtain ⟨cur, hc, hcs, hbn', hpm, hbl, hcell⟩ := gd.heap.blk id b hb
    subst hbe
    rw [hbs] at hcs hbl hcell
    by_cases hroom : n + m ≤ (φ id).2
    · -- in place
      have hfit : n * ei.size + vs.length ≤ cur.size := by rw [hvl, hcs, ← Nat.add_mul]; exact Nat.mul_le_mul_right _ hroom
      have hrun := run_append_room (P := P) w t o.type b.ety info ht hi (φ id).1 n (φ id).2 cur hc x' m c vs (by rw [hvl, hsz]) hvc hv1 hroom (by rw [hsz]; exact hfit)
      rw [← hxv, ← hv, hsz] at hrun
      rw [hap.run hrun]
      obtain ⟨g1, s1⟩ := set_step (b' := ⟨b.ety, ei.size, n + m, fun j => if j < n then g0 j else g (j - n)⟩) gd hb (w' := w.setRow (φ id).1 (cur.toList.take (n * ei.size) ++ vs ++ cur.toList.drop (n * ei.size + vs.length)).toArray) rfl rfl rfl (by simp [World.setRow]) (fun k hk => setRow_other w _ _ _ hk) (fun vup => by
        refine ⟨_, setRow_heap w _ cur _ _ _ hc, ?_, hroom, hpm, fun j hj => ?_, fun i j y hi' hy => ?_⟩
        · show _ = (φ id).2 * ei.size
          simp; omega
        · show (if j < n then g0 j else g (j - n)).length = _
          split
          · rename_i h; rw [← hbg j h]; exact hbl j (by omega)
          · exact hgl _ (by have : j < n + m := hj; omega)
        · have hi' : i < n + m := hi'
          have hy : (if i < n then g0 i else g (i - n))[j]? = some y := hy
          show ∃ u, (_ : Array Value)[i * ei.size + j]? = some u ∧ _
          have htl : (cur.toList.take (n * ei.size)).length = n * ei.size := by simp; omega
          simp only [List.getElem?_toArray]
          split at hy
          · rename_i hin
            rw [← hbg i hin] at hy
            obtain ⟨u, h1, h2, h3⟩ := hcell i j y (by omega) hy
            have hjs : j < ei.size := by have := (List.getElem?_eq_some_iff.1 hy).1; rw [hbl i (by omega)] at this; exact this
            have hlt : i * ei.size + j < n * ei.size := by
              have : (i + 1) * ei.size ≤ n * ei.size := Nat.mul_le_mul_right _ hin
              rw [Nat.add_mul] at this; omega
            refine ⟨u, ?_, h2, vup _ _ h3⟩
            rw [List.getElem?_append_left (by simp; omega), List.getElem?_append_left (by omega), List.getElem?_take, if_pos hlt]
            simpa using h1
          · rename_i hin
            obtain ⟨u, h1, h2⟩ := hvg (i - n) j y (by omega) hy
            have hlt := (List.getElem?_eq_some_iff.1 h1).1
            have e1 : i * ei.size + j = n * ei.size + ((i - n) * ei.size + j) := by
              rw [← Nat.add_assoc, ← Nat.add_mul]; congr 2; omega
            refine ⟨u, ?_, hv1 u (List.mem_of_getElem? h1), vup _ _ h2⟩
            rw [List.getElem?_append_left (by simp; omega), List.getElem?_append_right (by omega), htl, e1, show n * ei.size + ((i - n) * ei.size + j) - n * ei.size = (i - n) * ei.size + j by omega]
            exact h1)
      have hb' : (H.set id (some ⟨b.ety, ei.size, n + m, fun j => if j < n then g0 j else g (j - n)⟩))[id]? = some (some ⟨b.ety, ei.size, n + m, fun j => if j < n then g0 j else g (j - n)⟩) := by
        rw [List.getElem?_set]; simp [(List.getElem?_eq_some_iff.1 hb).1]
      obtain ⟨φ2, hn2, g2, s2⟩ := rename_step g1 hk hb'
      have hlen : (H.set id (some ⟨b.ety, ei.size, n + m, fun j => if j < n then g0 j else g (j - n)⟩)).length = H.length := by simp
      refine ⟨.arr H.length ei.size 0 (n + m), _, φ2, V, _, hK _ _ (.inr ⟨H.length, ⟨b.ety, ei.size, n + m, fun j => if j < n then g0 j else g (j - n)⟩, gd.ownk, rfl, by rw [List.getElem?_append_right (by simp)]; simp, rfl, rfl, rfl, fun _ _ => rfl⟩) ⟨by simp, fun j hj hne => ?_⟩ (.inr ⟨_, rfl, Nat.le_refl _⟩), g2, ?_, s1.trans s2⟩
      · have hne' : ¬ id = j := fun e => hne (by rw [h2, e]; rfl)
        rw [List.getElem?_append_left (by simpa using hj), List.getElem?_set, if_neg hne', List.getElem?_set, if_neg hne']
      · rw [hlen] at hn2
        have := VRel.arr (U := fun j => U j ∨ j = (H.set id (some ⟨b.ety, ei.size, n + m, fun j => if j < n then g0 j else g (j - n)⟩)).length) (φ := φ2) (V := V) (w := w.setRow (φ id).1 (cur.toList.take (n * ei.size) ++ vs ++ cur.toList.drop (n * ei.size + vs.length)).toArray) H.length ei.size 0 (n + m) 0 (.inr hlen.symm) (by rw [hn2]; simpa using hroom) (.inl (by simp))
        rw [hn2] at this; simpa using this
    · -- a new array
      obtain ⟨gk, sk⟩ := kill_step gdw id
      have hso : Src H (.arr id ei.size 0 n) ei.size n g0 := .arr id ei.size 0 n b g0 hb hbs (by omega) (fun j hj => by rw [← hbg j hj, Nat.zero_add])
      obtain ⟨ad2, c2, hv2, hsrc2⟩ := src_read gd.heap hso hrx
      rw [hxv] at hv2
      simp only [Value.slice.injEq, true_and] at hv2
      obtain ⟨rfl, rfl⟩ := hv2
      have holds : ∃ olds : List Value, olds.length = n * ei.size ∧ (∀ (j : Nat) u, olds[j]? = some u → w.cell? ((⟨(φ id).1, 0, none⟩ : Addr).add j) = some u) ∧ (∀ u ∈ olds, u.oneCell' = true) ∧ (∀ j, j < n → (g0 j).length = ei.size) ∧
          ∀ (i j : Nat) y, i < n → (g0 i)[j]? = some y → ∃ u, olds[i * ei.size + j]? = some u ∧ VRel U φ V w y u := by
        rcases Nat.eq_zero_or_pos n with hn0 | hn0
        · subst hn0; exact ⟨[], by simp, by simp, by simp, fun j hj => by omega, fun i j y hi => by omega⟩
        · obtain ⟨x2, e2, hl2, vs2, k1, k2, k3, k4⟩ := hsrc2 hn0
          cases e2
          exact ⟨vs2, k1, k2, k3, hl2, k4⟩
      obtain ⟨olds, k1, k2, k3, k4, k5⟩ := holds
      have hrun := run_append_grow (P := P) w t o.type b.ety info z ht hi hzz ⟨(φ id).1, 0, none⟩ n (φ id).2 olds (by rw [k1, hsz]) k2 x' m c vs (by rw [hvl, hsz]) hvc (by omega) (by omega) (growslice_fits (by omega) (by rw [hby]; exact hm))
      rw [← hxv, ← hv] at hrun
      rw [hap.run hrun]
      exact made (H.set id none) U φ V olds gk (sdw.trans sk) k1 k3 k4 (fun i j y hi hy => by obtain ⟨u, h1, h2⟩ := k5 i j y hi hy; exact ⟨u, h1, h2.step gd.heap sdw⟩) (fun x v h => h.step gd.heap sdw) _ (grownCap_ge w (n + m) _ b.ety) (grownCap_le_maxLen w (n + m) _ b.ety (by simp only [maxLen]; omega))
        ⟨by simp, fun j hj hne => by rw [List.getElem?_set, if_neg (fun e => hne (by rw [h2, e]; rfl))]⟩
end ops
end Go.Proofs.Ytphjglbbhanmpaa.Ab
