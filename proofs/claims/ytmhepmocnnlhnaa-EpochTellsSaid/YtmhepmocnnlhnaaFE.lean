/- Appends to what is another one's; what is gathered may be a slice of no room. -/
import Derived.Test.YtmhepmocnnlhnaaFD
namespace Go.Proofs.Ytmhepmocnnlhnaa.Ab
open Go Go.RowKit
section ops
variable {P : Program} {T : TT} {q : Bool} {k0 : Nat} {H : AH} {o : Oper} {ρ : Operand → AV}
set_option maxHeartbeats 1000000 in
theorem ao_appw (hT : TTok P T) (hz : TTz T) {x y : Operand} {t e : TypeId} {ei : TI} (hap : IsAppend T o x y t e ei) {n : Nat} {g0 : Nat → List AV} (hx : Acc 0 H (ρ x) e ei.size n g0) {m : Nat} {g : Nat → List AV} (hy : Src H (ρ y) ei.size m g)
    (hm : (n + m) * ei.bytes ≤ 140737488355328) (hm2 : n + m ≤ 9223372036854775807) {K : AV → AH → Prop}
    (hK : ∀ r H', Acc 0 H' r e ei.size (n + m) (fun j => if j < n then g0 j else g (j - n)) → Oth H H' (accId (ρ x)) → (accId r = accId (ρ x) ∨ ∃ id, accId r = some id ∧ H.length ≤ id) → K r H') : AO P q k0 o ρ H K := by
  intro B U φ V w ρc hq gd hr hf
  obtain ⟨info, z, ht, hi, hzz, hsz, hby, hzs⟩ := hap.types hT
  obtain ⟨ad, c, hv, hsrc⟩ := src_read gd.heap hy (hr y hap.mem.2)
  have hrx := hr x hap.mem.1
  have hzl : z.cells.size = ei.size := by have := congrArg List.length hzs; simp at this; rw [this, (hz e ei hap.el).1]
  rcases Nat.eq_zero_or_pos m with h0 | h0
  · -- nothing is appended
    subst h0
    have hsame : ∃ a cc, ρc x = .slice a n cc ∧ n ≤ cc := by
      rcases hx with ⟨h1, h2⟩ | ⟨id, b, h1, h2, _⟩ <;> rw [h2] at hrx
      · subst h1; exact ⟨none, 0, hrx.inv_p, Nat.le_refl _⟩
      · obtain ⟨o', h3, _, h4, _⟩ := hrx.inv_arr
        exact ⟨_, _, h3, by omega⟩
    obtain ⟨a, cc, hxv, hnc⟩ := hsame
    have hrun := run_append_zero (P := P) w t o.type e info ht hi a n cc hnc ad c
    rw [← hxv, ← hv] at hrun
    rw [hap.run hrun]
    exact ⟨ρ x, U, φ, V, H, hK _ _ (hx.ext fun j hj => by simp [hj]) ⟨Nat.le_refl _, fun _ _ _ => rfl⟩ (.inl rfl), gd, hrx, Step.refl ..⟩
  obtain ⟨x', rfl, hgl, vs, hvl, hvc, hv1, hvg⟩ := hsrc h0
  -- a new block is made
  have made : ∀ (Hk : AH) (U' : Nat → Prop) (φ' : Pl) (V' : Nat → Prop) (olds : List Value), Good k0 B U' φ' V' w.drew Hk → Step B U φ V w H U' φ' V' w.drew Hk → olds.length = n * ei.size → (∀ u ∈ olds, u.oneCell' = true) →
      (∀ j, j < n → (g0 j).length = ei.size) → (∀ (i j : Nat) y, i < n → (g0 i)[j]? = some y → ∃ u, olds[i * ei.size + j]? = some u ∧ VRel U' φ' V' w.drew y u) → (∀ x v, VRel U φ V w x v → VRel U' φ' V' w.drew x v) → ∀ cap, n + m ≤ cap → cap ≤ maxLen → Oth H Hk (accId (ρ x)) →
      Post k0 B U φ V w H K (.slice (some ⟨w.heap.size, 0, none⟩) (n + m) cap) (w.drew.alloc (.cells (olds.toArray ++ vs.toArray ++ Builtin.zeroCells z.cells (cap - (n + m))) e)) := by
    intro Hk U' φ' V' olds g1 s1 hol ho1 hg0l hog hup cap hcap hcm hoth
    obtain ⟨φ2, hn2, g2, s2⟩ := new_step g1 (olds.toArray ++ vs.toArray ++ Builtin.zeroCells z.cells (cap - (n + m))) ⟨e, ei.size, n + m, fun j => if j < n then g0 j else g (j - n)⟩ cap (by
      simp only [Array.size_append, List.size_toArray, size_zeroCells, hzl, hol, hvl, ← Nat.add_mul]; congr 1; omega) hcap hcm (fun j hj => by
      show (if j < n then g0 j else g (j - n)).length = _
      split
      · rename_i h; exact hg0l j h
      · exact hgl _ (by have : j < n + m := hj; omega)) (fun i j y hi hy => by
      have hi : i < n + m := hi
      have hy : (if i < n then g0 i else g (i - n))[j]? = some y := hy
      show ∃ u, (_ : Array Value)[i * ei.size + j]? = some u ∧ _
      split at hy
      · rename_i hin
        obtain ⟨u, h1, h2⟩ := hog i j y hin hy
        have hlt := (List.getElem?_eq_some_iff.1 h1).1
        exact ⟨u, by rw [Array.getElem?_append_left (by simp; omega), Array.getElem?_append_left (by simpa using hlt)]; simpa using h1, ho1 u (List.mem_of_getElem? h1), h2⟩
      · rename_i hin
        obtain ⟨u, h1, h2⟩ := hvg (i - n) j y (by omega) hy
        have hlt := (List.getElem?_eq_some_iff.1 h1).1
        have e1 : i * ei.size + j = n * ei.size + ((i - n) * ei.size + j) := by
          rw [← Nat.add_assoc, ← Nat.add_mul]; congr 2; omega
        refine ⟨u, ?_, hv1 u (List.mem_of_getElem? h1), hup _ _ h2⟩
        rw [Array.getElem?_append_left (by simp; omega), Array.getElem?_append_right (by simp; omega)]
        simp only [List.size_toArray, hol, e1]
        rw [show n * ei.size + ((i - n) * ei.size + j) - n * ei.size = (i - n) * ei.size + j by omega]
        simpa using h1)
    refine ⟨.arr Hk.length ei.size 0 (n + m), _, φ2, V', _, hK _ _ (.inr ⟨Hk.length, ⟨e, ei.size, n + m, fun j => if j < n then g0 j else g (j - n)⟩, Nat.zero_le _, rfl, by simp, rfl, rfl, rfl, fun _ _ => rfl⟩) ⟨by have := hoth.1; simp; omega, fun j hj hne => ?_⟩ (.inr ⟨_, rfl, hoth.1⟩), g2, ?_, s1.trans s2⟩
    · rw [List.getElem?_append_left (by have := hoth.1; omega)]; exact hoth.2 j hj hne
    · have := VRel.arr (U := fun j => U' j ∨ j = Hk.length) (φ := φ2) (V := V') (w := w.drew.alloc (.cells (olds.toArray ++ vs.toArray ++ Builtin.zeroCells z.cells (cap - (n + m))) e)) Hk.length ei.size 0 (n + m) 0 (.inr rfl) (by rw [hn2]; simpa using hcap) (.inl (by simp))
      rw [hn2] at this; simpa using this
  obtain ⟨gdw, sdw⟩ := drew_step gd
  rcases hx with ⟨h1, h2⟩ | ⟨id, b, hk, h2, hb, hbe, hbs, hbn, hbg⟩
  · subst h1
    simp only [Nat.zero_add] at hm hm2
    rw [h2] at hrx
    have hxv := hrx.inv_p
    have hrun := run_append_nil (P := P) w t o.type e info z ht hi hzz x' m c vs (by rw [hvl, hsz]) hvc h0 (by omega) (by rw [hby]; omega)
    rw [← hxv, ← hv] at hrun
    rw [hap.run hrun]
    have := made H U φ V [] gdw sdw (by simp) (by simp) (fun j hj => by omega) (fun i j y hi => by omega) (fun x v h => h.step gd.heap sdw) (grownCap w m 0 e) (by simpa using grownCap_ge w m 0 e) (grownCap_le_maxLen w m 0 e (by simp only [maxLen]; omega)) ⟨Nat.le_refl _, fun _ _ _ => rfl⟩
    simpa [Res] using this
  · rw [h2] at hrx
    obtain ⟨o', hxv, hid, hcap, ho'⟩ := hrx.inv_arr
    have ho0 : o' = 0 := by rcases ho' with h | h <;> omega
    subst ho0
    simp only [Nat.sub_zero] at hxv
    obtain ⟨cur, hc, hcs, hbn', hpm, hbl, hcell⟩ := gd.heap.blk id b hb
    subst hbe
    rw [hbs] at hcs hbl hcell
    by_cases hroom : n + m ≤ (φ id).2
    · -- in place
      have hfit : n * ei.size + vs.length ≤ cur.size := by rw [hvl, hcs, ← Nat.add_mul]; exact Nat.mul_le_mul_right _ hroom
      have hrun := run_append_room (P := P) w t o.type b.ety info ht hi (φ id).1 n (φ id).2 cur hc x' m c vs (by rw [hvl, hsz]) hvc hv1 hroom (by rw [hsz]; exact hfit)
      rw [← hxv, ← hv, hsz] at hrun
      rw [hap.run hrun]
      obtain ⟨g1, s1⟩ := set_step (b' := ⟨b.ety, ei.size, n + m, fun j => if j < n then g0 j else g (j - n)⟩) gd hb (w' := w.setRow (φ id).1 (cur.toList.take (n * ei.size) ++ vs ++ cur.toList.drop (n * ei.size + vs.length)).toArray) rfl rfl rfl (by simp [World.setRow]) (fun k hk => setRow_other w _ _ _ hk) (fun vup => by
        refine ⟨_, setRow_heap w _ cur _ _ _ hc, ?_, hroom, hpm, fun j hj => ?_, fun i j y hi' hy => ?_⟩
        · show _ = (φ id).2 * ei.size
          simp; omega
        · show (if j < n then g0 j else g (j - n)).length = _
          split
          · rename_i h; rw [← hbg j h]; exact hbl j (by omega)
          · exact hgl _ (by have : j < n + m := hj; omega)
        · have hi' : i < n + m := hi'
          have hy : (if i < n then g0 i else g (i - n))[j]? = some y := hy
          show ∃ u, (_ : Array Value)[i * ei.size + j]? = some u ∧ _
          have htl : (cur.toList.take (n * ei.size)).length = n * ei.size := by simp; omega
          simp only [List.getElem?_toArray]
          split at hy
          · rename_i hin
            rw [← hbg i hin] at hy
            obtain ⟨u, h1, h2, h3⟩ := hcell i j y (by omega) hy
            have hjs : j < ei.size := by have := (List.getElem?_eq_some_iff.1 hy).1; rw [hbl i (by omega)] at this; exact this
            have hlt : i * ei.size + j < n * ei.size := by
              have : (i + 1) * ei.size ≤ n * ei.size := Nat.mul_le_mul_right _ hin
              rw [Nat.add_mul] at this; omega
            refine ⟨u, ?_, h2, vup _ _ h3⟩
            rw [List.getElem?_append_left (by simp; omega), List.getElem?_append_left (by omega), List.getElem?_take, if_pos hlt]
            simpa using h1
          · rename_i hin
            obtain ⟨u, h1, h2⟩ := hvg (i - n) j y (by omega) hy
            have hlt := (List.getElem?_eq_some_iff.1 h1).1
            have e1 : i * ei.size + j = n * ei.size + ((i - n) * ei.size + j) := by
              rw [← Nat.add_assoc, ← Nat.add_mul]; congr 2; omega
            refine ⟨u, ?_, hv1 u (List.mem_of_getElem? h1), vup _ _ h2⟩
            rw [List.getElem?_append_left (by simp; omega), List.getElem?_append_right (by omega), htl, e1, show n * ei.size + ((i - n) * ei.size + j) - n * ei.size = (i - n) * ei.size + j by omega]
            exact h1)
      have hb' : (H.set id (some ⟨b.ety, ei.size, n + m, fun j => if j < n then g0 j else g (j - n)⟩))[id]? = some (some ⟨b.ety, ei.size, n + m, fun j => if j < n then g0 j else g (j - n)⟩) := by
        rw [List.getElem?_set]; simp [(List.getElem?_eq_some_iff.1 hb).1]
      refine ⟨.arr id ei.size 0 (n + m), _, φ, V, _, hK _ _ (.inr ⟨id, _, Nat.zero_le _, rfl, hb', rfl, rfl, rfl, fun _ _ => rfl⟩) ⟨by simp, fun j hj hne => by rw [List.getElem?_set, if_neg (fun e => hne (by rw [h2, e]; rfl))]⟩ (.inl (by rw [h2]; rfl)), g1, ?_, s1⟩
      have := VRel.arr (U := U) (φ := φ) (V := V) (w := w.setRow (φ id).1 (cur.toList.take (n * ei.size) ++ vs ++ cur.toList.drop (n * ei.size + vs.length)).toArray) id ei.size 0 (n + m) 0 hid (by simpa using hroom) (.inl (by simp))
      simpa using this
    · -- a new array
      obtain ⟨gk, sk⟩ := kill_step gdw id
      have hso : Src H (.arr id ei.size 0 n) ei.size n g0 := .arr id ei.size 0 n b g0 hb hbs (by omega) (fun j hj => by rw [← hbg j hj, Nat.zero_add])
      obtain ⟨ad2, c2, hv2, hsrc2⟩ := src_read gd.heap hso hrx
      rw [hxv] at hv2
      simp only [Value.slice.injEq, true_and] at hv2
      obtain ⟨rfl, rfl⟩ := hv2
      have holds : ∃ olds : List Value, olds.length = n * ei.size ∧ (∀ (j : Nat) u, olds[j]? = some u → w.cell? ((⟨(φ id).1, 0, none⟩ : Addr).add j) = some u) ∧ (∀ u ∈ olds, u.oneCell' = true) ∧ (∀ j, j < n → (g0 j).length = ei.size) ∧
          ∀ (i j : Nat) y, i < n → (g0 i)[j]? = some y → ∃ u, olds[i * ei.size + j]? = some u ∧ VRel U φ V w y u := by
        rcases Nat.eq_zero_or_pos n with hn0 | hn0
        · subst hn0; exact ⟨[], by simp, by simp, by simp, fun j hj => by omega, fun i j y hi => by omega⟩
        · obtain ⟨x2, e2, hl2, vs2, k1, k2, k3, k4⟩ := hsrc2 hn0
          cases e2
          exact ⟨vs2, k1, k2, k3, hl2, k4⟩
      obtain ⟨olds, k1, k2, k3, k4, k5⟩ := holds
      have hrun := run_append_grow (P := P) w t o.type b.ety info z ht hi hzz ⟨(φ id).1, 0, none⟩ n (φ id).2 olds (by rw [k1, hsz]) k2 x' m c vs (by rw [hvl, hsz]) hvc (by omega) (by omega) (growslice_fits (by omega) (by rw [hby]; exact hm))
      rw [← hxv, ← hv] at hrun
      rw [hap.run hrun]
      exact made (H.set id none) U φ V olds gk (sdw.trans sk) k1 k3 k4 (fun i j y hi hy => by obtain ⟨u, h1, h2⟩ := k5 i j y hi hy; exact ⟨u, h1, h2.step gd.heap sdw⟩) (fun x v h => h.step gd.heap sdw) _ (grownCap_ge w (n + m) _ b.ety) (grownCap_le_maxLen w (n + m) _ b.ety (by simp only [maxLen]; omega))
        ⟨by simp, fun j hj hne => by rw [List.getElem?_set, if_neg (fun e => hne (by rw [h2, e]; rfl))]⟩

/-- what is gathered: nothing yet, a slice of no room, or a block -/
def AccE (k0 : Nat) (H : AH) (v : AV) (e sz n : Nat) (g : Nat → List AV) : Prop :=
  Acc k0 H v e sz n g ∨ (n = 0 ∧ ∃ g', v = .lst true sz 0 g')
theorem AccE.ext {k0 : Nat} {H : AH} {v : AV} {e sz n : Nat} {g g' : Nat → List AV} (h : AccE k0 H v e sz n g) (hg : ∀ j, j < n → g j = g' j) : AccE k0 H v e sz n g' := h.imp (fun h => h.ext hg) fun h => h
theorem AccE.own {k0 : Nat} {H : AH} {v : AV} {e sz n : Nat} {g : Nat → List AV} (h : AccE 0 H v e sz n g) (hk : ∀ id, accId v = some id → k0 ≤ id) : AccE k0 H v e sz n g := by
  rcases h with (h | ⟨id, b, _, h2, h3⟩) | h
  · exact .inl (.inl h)
  · exact .inl (.inr ⟨id, b, hk id (by rw [h2]; rfl), h2, h3⟩)
  · exact .inr h
theorem AccE.low {k0 : Nat} {H : AH} {v : AV} {e sz n : Nat} {g : Nat → List AV} (h : AccE k0 H v e sz n g) : AccE 0 H v e sz n g := by
  rcases h with (h | ⟨id, b, _, h2, h3⟩) | h
  · exact .inl (.inl h)
  · exact .inl (.inr ⟨id, b, Nat.zero_le _, h2, h3⟩)
  · exact .inr h
theorem AccE.up {k0 : Nat} {H : AH} {v : AV} {e sz n : Nat} {g : Nat → List AV} (h : AccE k0 H v e sz n g) : ∀ id, accId v = some id → k0 ≤ id := by
  intro id' he
  rcases h with (⟨_, h⟩ | ⟨id, b, hk, h2, h3⟩) | ⟨_, g', h⟩
  · rw [h] at he; cases he
  · rw [h2] at he; cases he; exact hk
  · rw [h] at he; cases he
theorem AccE.grow {k0 : Nat} {H H' : AH} {v r : AV} {e sz n e' sz' n' : Nat} {g g' : Nat → List AV} (h : AccE k0 H v e sz n g) (h' : AccE 0 H' r e' sz' n' g') (hn : accId r = accId v ∨ ∃ id, accId r = some id ∧ H.length ≤ id) (hk : k0 ≤ H.length) : AccE k0 H' r e' sz' n' g' := h'.own fun id he => by
  rcases hn with hn | ⟨id', hn, hl⟩
  · exact h.up id (hn ▸ he)
  · rw [hn] at he; cases he; omega
theorem AccE.down {k0 k : Nat} {H : AH} {v : AV} {e sz n : Nat} {g : Nat → List AV} (h : AccE k H v e sz n g) (hk : k0 ≤ k) : AccE k0 H v e sz n g := h.low.own fun id he => Nat.le_trans hk (h.up id he)
theorem AccE.keep0 {k0 : Nat} {H H' : AH} {v : AV} {e sz n : Nat} {g : Nat → List AV} (h : AccE k0 H v e sz n g) (ho : Oth H H' none) : AccE k0 H' v e sz n g := h.imp (fun h => h.keep0 ho) fun h => h
theorem AccE.frz {k0 : Nat} {H : AH} {v : AV} {e sz n : Nat} {g : Nat → List AV} (h : AccE k0 H v e sz n g) : Frz k0 H v (.lst false sz n g) := by
  rcases h with h | ⟨rfl, g', rfl⟩
  · exact .acc h
  · exact .le (le_lst (fun h => by cases h) fun i hi => by omega)
theorem AccE.nil (k0 : Nat) (H : AH) (e sz : Nat) (g : Nat → List AV) : AccE k0 H (.p (.slice none 0 0)) e sz 0 g := .inl (acc_nil _ _ _ _ _)
theorem ao_appe (hT : TTok P T) (hz : TTz T) {x y : Operand} {t e : TypeId} {ei : TI} (hap : IsAppend T o x y t e ei) {n : Nat} {g0 : Nat → List AV} (hx : AccE 0 H (ρ x) e ei.size n g0) {m : Nat} {g : Nat → List AV} (hy : Src H (ρ y) ei.size m g)
    (hm : (n + m) * ei.bytes ≤ 140737488355328) (hm2 : n + m ≤ 9223372036854775807) {K : AV → AH → Prop}
    (hK : ∀ r H', AccE 0 H' r e ei.size (n + m) (fun j => if j < n then g0 j else g (j - n)) → Oth H H' (accId (ρ x)) → (accId r = accId (ρ x) ∨ ∃ id, accId r = some id ∧ H.length ≤ id) → K r H') : AO P q k0 o ρ H K := by
  rcases hx with hx | ⟨rfl, g', hx⟩
  · exact ao_appw hT hz hap hx hy hm hm2 fun r H' h1 h2 h3 => hK r H' (.inl h1) h2 h3
  · rcases Nat.eq_zero_or_pos m with h0 | h0
    · subst h0
      intro B U φ V w ρc hq gd hr hf
      obtain ⟨info, z, ht, hi, hzz, hsz, hby, hzs⟩ := hap.types hT
      obtain ⟨ad, c, hv, _⟩ := src_read gd.heap hy (hr y hap.mem.2)
      have hrx := hr x hap.mem.1
      have hrx' := hrx
      rw [hx] at hrx'
      obtain ⟨a, cc, hxv, hc0, _, _, _⟩ := hrx'.inv_lst
      have hrun := run_append_zero (P := P) w t o.type e info ht hi a 0 cc hc0 ad c
      rw [← hxv, ← hv] at hrun
      rw [hap.run hrun]
      exact ⟨ρ x, U, φ, V, H, hK _ _ (.inr ⟨rfl, g', hx⟩) ⟨Nat.le_refl _, fun _ _ _ => rfl⟩ (.inl rfl), gd, hrx, Step.refl ..⟩
    · refine (ao_fresh hT hz hap (.inr ⟨_, g', hx⟩) hy (by simpa using hm) (by omega) h0).mono fun r H' e => ?_
      obtain ⟨rfl, rfl⟩ := e
      exact hK _ _ (.inl (.inr ⟨H.length, ⟨e, ei.size, m, g⟩, Nat.zero_le _, by rw [Nat.zero_add], by simp, rfl, rfl, (Nat.zero_add m).symm, fun j hj => by simp⟩)) (by rw [hx]; exact oth_app _ _) (.inr ⟨_, rfl, Nat.le_refl _⟩)
/-- nothing is appended to a slice of no room -/
theorem ao_app0 (hT : TTok P T) {x y : Operand} {t e : TypeId} {ei : TI} (hap : IsAppend T o x y t e ei) {sz : Nat} {g' : Nat → List AV} (hx : ρ x = .lst true sz 0 g') {g : Nat → List AV} (hy : Src H (ρ y) ei.size 0 g) : AO P q k0 o ρ H (fun r H' => r = .lst true sz 0 g' ∧ H' = H) := by
  intro B U φ V w ρc hq gd hr hf
  obtain ⟨info, z, ht, hi, hzz, hsz, hby, hzs⟩ := hap.types hT
  obtain ⟨ad, c, hv, _⟩ := src_read gd.heap hy (hr y hap.mem.2)
  have hrx := hr x hap.mem.1
  have hrx' := hrx
  rw [hx] at hrx'
  obtain ⟨a, cc, hxv, hc0, _, _, _⟩ := hrx'.inv_lst
  have hrun := run_append_zero (P := P) w t o.type e info ht hi a 0 cc hc0 ad c
  rw [← hxv, ← hv] at hrun
  rw [hap.run hrun]
  exact ⟨_, U, φ, V, H, ⟨rfl, rfl⟩, gd, hrx', Step.refl ..⟩
end ops
section
variable {P : Program} {T : TT} {q : Bool} {n k0 : Nat} {ops : Array Oper} {os : List Oper} {K : AF → AH → Prop} {F : AF} {H : AH} {d : Nat} {ty : TypeId} {pos : String} {after : Array Edge} {gd : Option (Nat × Bool)}
theorem sq_app0 (hT : TTok P T) {x y : Operand} {t e : TypeId} {ts : TI} {ei : TI} (hg : gst ops F gd = some true) (hd : dok n (some d) = true) (hts : tget T t = some ts) (htk : ts.kind = .slice e) (hei : tget T e = some ei) (hp : 0 < ei.size) {sz : Nat} {g' : Nat → List AV} (hx : aev F x = .lst true sz 0 g') {g : Nat → List AV} (hy : Src H (aev F y) ei.size 0 g)
    (hK : SQ P q n k0 ops os K ((d, .lst true sz 0 g') :: F) H) : SQ P q n k0 ops (⟨some d, .call ⟨.builtin .append, #[x, y], #[t, t]⟩, ty, pos, after, gd⟩ :: os) K F H :=
  sq_ao hg rfl hd (AO.mono (ao_app0 hT ⟨⟨_, rfl, rfl, rfl, rfl⟩, ⟨ts, hts, htk⟩, hei, hp⟩ hx hy) fun r H' e => by rw [e.1, e.2]; exact hK)
/-- more is gathered -/
theorem sq_appe (hT : TTok P T) (hz : TTz T) {x y : Operand} {t e : TypeId} {ts : TI} {ei : TI} (hg : gst ops F gd = some true) (hd : dok n (some d) = true) (hts : tget T t = some ts) (htk : ts.kind = .slice e) (hei : tget T e = some ei) {sz bt : Nat} (hsz : ei.size = sz) (hbt : ei.bytes = bt) (hp : 0 < sz) {n' : Nat} {g0 : Nat → List AV} (hx : AccE 0 H (aev F x) e sz n' g0) {m : Nat} {g : Nat → List AV} (hy : Src H (aev F y) sz m g)
    (hm : (n' + m) * bt ≤ 140737488355328) (hm2 : n' + m ≤ 9223372036854775807)
    (hK : ∀ r H', AccE 0 H' r e sz (n' + m) (fun j => if j < n' then g0 j else g (j - n')) → Oth H H' (accId (aev F x)) → (accId r = accId (aev F x) ∨ ∃ id, accId r = some id ∧ H.length ≤ id) → SQ P q n k0 ops os K ((d, r) :: F) H') : SQ P q n k0 ops (⟨some d, .call ⟨.builtin .append, #[x, y], #[t, t]⟩, ty, pos, after, gd⟩ :: os) K F H := by
  subst hsz hbt
  exact sq_ao hg rfl hd (ao_appe hT hz ⟨⟨_, rfl, rfl, rfl, rfl⟩, ⟨ts, hts, htk⟩, hei, hp⟩ hx hy hm hm2 fun r H' ha ho hn => hK r H' ha ho hn)
/-- more is gathered, something at least -/
theorem sq_appa (hT : TTok P T) (hz : TTz T) {x y : Operand} {t e : TypeId} {ts : TI} {ei : TI} (hg : gst ops F gd = some true) (hd : dok n (some d) = true) (hts : tget T t = some ts) (htk : ts.kind = .slice e) (hei : tget T e = some ei) {sz bt : Nat} (hsz : ei.size = sz) (hbt : ei.bytes = bt) (hp : 0 < sz) {n' : Nat} {g0 : Nat → List AV} (hx : Acc 0 H (aev F x) e sz n' g0) {m : Nat} {g : Nat → List AV} (hy : Src H (aev F y) sz m g)
    (h0 : 0 < n' + m) (hm : (n' + m) * bt ≤ 140737488355328) (hm2 : n' + m ≤ 9223372036854775807)
    (hK : ∀ id' b H', H'[id']? = some (some b) → b.ety = e → b.sz = sz → b.n = n' + m → (∀ j, j < n' + m → b.g j = if j < n' then g0 j else g (j - n')) → Oth H H' (accId (aev F x)) → (some id' = accId (aev F x) ∨ H.length ≤ id') → SQ P q n k0 ops os K ((d, .arr id' sz 0 (n' + m)) :: F) H') : SQ P q n k0 ops (⟨some d, .call ⟨.builtin .append, #[x, y], #[t, t]⟩, ty, pos, after, gd⟩ :: os) K F H := by
  subst hsz hbt
  refine sq_ao hg rfl hd (ao_appw hT hz ⟨⟨_, rfl, rfl, rfl, rfl⟩, ⟨ts, hts, htk⟩, hei, hp⟩ hx hy hm hm2 fun r H' ha ho hn => ?_)
  rcases ha with ⟨h, _⟩ | ⟨id, b, _, rfl, h1, h2, h3, h4, h5⟩
  · omega
  · exact hK id b H' h1 h2 h3 h4 h5 ho (hn.imp (fun h => h) fun ⟨i, h, h2⟩ => by cases h; exact h2)
end
theorem le_agg {cs ds : List AV} (h : LeL cs ds) : Le (.agg cs) (.agg ds) := by
  intro U φ V w v hv
  obtain ⟨us, rfl, hr, h1⟩ := hv.inv_agg
  have := h.rels hr
  exact .agg _ us this.1 h1 this.2
theorem le_tup {cs ds : List AV} (h : LeL cs ds) : Le (.tup cs) (.tup ds) := by
  intro U φ V w v hv
  obtain ⟨us, rfl, hr⟩ := hv.inv_tup
  have := h.rels hr
  exact .tup _ us this.1 this.2
end Go.Proofs.Ytmhepmocnnlhnaa.Ab
