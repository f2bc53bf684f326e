/- What was made is frozen at a call's end, wherever in the result it stands. -/
import Derived.Test.YtmhepmocnnlhnaaEV
namespace Go.Proofs.Ytmhepmocnnlhnaa.Ab
open Go Go.RowKit
/-- one value is another one's, with what was made frozen -/
inductive Frz (k0 : Nat) (H : AH) : AV → AV → Prop
  | le {a b : AV} : Le a b → Frz k0 H a b
  | acc {v : AV} {e sz n : Nat} {g : Nat → List AV} : Acc k0 H v e sz n g → Frz k0 H v (.lst false sz n g)
  | agg {cs cs' : List AV} : cs.length = cs'.length → (∀ (i : Nat) x y, cs[i]? = some x → cs'[i]? = some y → Frz k0 H x y) → Frz k0 H (.agg cs) (.agg cs')
  | tup {cs cs' : List AV} : cs.length = cs'.length → (∀ (i : Nat) x y, cs[i]? = some x → cs'[i]? = some y → Frz k0 H x y) → Frz k0 H (.tup cs) (.tup cs')
inductive FrzL (k0 : Nat) (H : AH) : List AV → List AV → Prop
  | nil : FrzL k0 H [] []
  | cons {a b : AV} {xs ys : List AV} : Frz k0 H a b → FrzL k0 H xs ys → FrzL k0 H (a :: xs) (b :: ys)
theorem FrzL.len {k0 : Nat} {H : AH} {xs ys : List AV} (h : FrzL k0 H xs ys) : xs.length = ys.length := by
  induction h with
  | nil => rfl
  | cons _ _ ih => simp [ih]
theorem FrzL.get {k0 : Nat} {H : AH} {xs ys : List AV} (h : FrzL k0 H xs ys) : ∀ (i : Nat) x y, xs[i]? = some x → ys[i]? = some y → Frz k0 H x y := by
  induction h with
  | nil => intro i x y hx; simp at hx
  | cons h1 _ ih =>
    intro i x y hx hy
    cases i with
    | zero => cases hx; cases hy; exact h1
    | succ i => exact ih i x y hx hy
theorem FrzL.agg {k0 : Nat} {H : AH} {xs ys : List AV} (h : FrzL k0 H xs ys) : Frz k0 H (.agg xs) (.agg ys) := .agg h.len h.get
theorem FrzL.tup {k0 : Nat} {H : AH} {xs ys : List AV} (h : FrzL k0 H xs ys) : Frz k0 H (.tup xs) (.tup ys) := .tup h.len h.get
section
variable {k0 B : Nat} {U : Nat → Prop} {φ : Pl} {V : Nat → Prop} {w : World} {H : AH}
theorem freeze_all (g : Good k0 B U φ V w H) : ∀ m : Nat, ∃ (V' : Nat → Prop) (H' : AH), Good k0 B U φ V' w H' ∧ Step B U φ V w H U φ V' w H' ∧ H'.length = H.length ∧
    (∀ j, j < k0 → H'[j]? = H[j]?) ∧ (∀ j, k0 ≤ j → j < k0 + m → Live H j → V' (φ j).1) ∧ ∀ j, k0 + m ≤ j → H'[j]? = H[j]?
  | 0 => ⟨V, H, g, Step.refl .., rfl, fun _ _ => rfl, fun j h1 h2 => by omega, fun _ _ => rfl⟩
  | m + 1 => by
    obtain ⟨V', H', g', s', hl, h1, h2, h3⟩ := freeze_all g m
    by_cases hlv : Live H (k0 + m)
    · obtain ⟨b, hb⟩ := hlv
      have hb' : H'[k0 + m]? = some (some b) := by rw [h3 _ (Nat.le_refl _)]; exact hb
      obtain ⟨g2, s2⟩ := freeze_step g' (Nat.le_add_right _ _) hb'
      refine ⟨_, _, g2, s'.trans s2, by simp [hl], fun j hj => ?_, fun j hj hj2 hlj => ?_, fun j hj => ?_⟩
      · rw [List.getElem?_set, if_neg (by omega)]; exact h1 j hj
      · by_cases e : j = k0 + m
        · subst e; exact .inr rfl
        · exact .inl (h2 j hj (by omega) hlj)
      · rw [List.getElem?_set, if_neg (by omega)]; exact h3 j (by omega)
    · refine ⟨V', H', g', s', hl, h1, fun j hj hj2 hlj => ?_, fun j hj => h3 j (by omega)⟩
      by_cases e : j = k0 + m
      · subst e; exact absurd hlj hlv
      · exact h2 j hj (by omega) hlj
theorem frz_rel (gd : Good k0 B U φ V w H) {V2 : Nat → Prop} {H2 : AH} (s : Step B U φ V w H U φ V2 w H2) (hfr : ∀ j, k0 ≤ j → Live H j → V2 (φ j).1) {a a' : AV} (hf : Frz k0 H a a') : ∀ v, VRel U φ V w a v → VRel U φ V2 w a' v := by
  induction hf with
  | le hle => exact fun v h => hle _ _ _ _ _ (h.step gd.heap s)
  | acc hA =>
    intro v hv
    rcases hA with ⟨h1, h2⟩ | ⟨id, b, hk, h2, hb, hbe, hbs, hbn, hbg⟩
    · subst h1 h2
      exact le_nil _ _ _ _ _ _ _ _ (hv.step gd.heap s)
    · rw [h2] at hv
      obtain ⟨o, hv', _, h4, h5⟩ := hv.inv_arr
      have ho : o = 0 := by rcases h5 with h | h <;> omega
      subst ho
      obtain ⟨cur, hc, hcs, hbn', hpm, hbl, hcell⟩ := gd.heap.blk id b hb
      rw [hv']
      refine VRel.mk_lst (e := b.ety) (fz := (0, 0)) (cur := cur) (by omega) (by omega) (fun h => by cases h) (hfr id hk ⟨b, hb⟩) hc (fun i hi => by rw [← hbg i hi, ← hbs]; exact hbl i (by omega)) fun i j y hi hy => ?_
      rw [← hbg i hi] at hy
      obtain ⟨u, k1, k2, k3⟩ := hcell i j y (by omega) hy
      rw [hbs] at k1
      exact ⟨u, by rw [Nat.zero_add]; exact k1, k2, k3.step gd.heap s⟩
  | agg hl _ ih =>
    intro v hv
    obtain ⟨us, rfl, hr, h1⟩ := hv.inv_agg
    refine .agg _ us (by rw [hr.1, hl]) h1 fun i y u hy hu => ?_
    have hlt := (List.getElem?_eq_some_iff.1 hy).1
    exact ih i _ y (List.getElem?_eq_getElem (by omega)) hy u (hr.2 i _ u (List.getElem?_eq_getElem (by omega)) hu)
  | tup hl _ ih =>
    intro v hv
    obtain ⟨us, rfl, hr⟩ := hv.inv_tup
    refine .tup _ us (by rw [hr.1, hl]) fun i y u hy hu => ?_
    have hlt := (List.getElem?_eq_some_iff.1 hy).1
    exact ih i _ y (List.getElem?_eq_getElem (by omega)) hy u (hr.2 i _ u (List.getElem?_eq_getElem (by omega)) hu)
end
theorem sc_frz {q : Bool} {P : Program} {f : FuncId} {args : List AV} {H : AH} {K : AV → Prop} (h : SC q P f args H (fun r H' => Ext H H' ∧ ∃ r', Frz H.length H' r r' ∧ K r')) : SC q P f args H (fun r H' => Ext H H' ∧ K r) := by
  refine ⟨h.1, fun U φ V w ca hh ha => (h.2 U φ V w ca hh ha).mono ?_⟩
  rintro ee w' ⟨v, he, r, U', φ', V', H', ⟨hx, r', hf, hK⟩, gd, hv, st⟩
  obtain ⟨V2, H2, g2, s2, hl, hlo, hfr, _⟩ := freeze_all gd H'.length
  refine ⟨v, he, r', U', φ', V2, H2, ⟨⟨by rw [hl]; exact hx.1, fun id b hb => ?_⟩, hK⟩, g2, frz_rel gd s2 (fun j hj hlj => hfr j hj (by have := hlj.lt; omega) hlj) hf v hv, st.trans s2⟩
  rw [hlo id (List.getElem?_eq_some_iff.1 hb).1]
  exact hx.2 id b hb
theorem ps_frz {P : Program} {f : FuncId} {args : List AV} {r0 : AV} (hc : Cl r0) (h : ∀ H, SC true P f args H (fun r H' => Ext H H' ∧ Frz H.length H' r r0)) : PS P f args r0 := by
  intro H
  refine (sc_pure (K := fun r => r = r0) ((sc_frz (K := fun r => r = r0) ((h H).mono fun r H' hr => ⟨hr.1, r0, hr.2, rfl⟩)).mono fun r H' hr => ⟨hr.1, hr.2 ▸ hc, hr.2⟩)).mono ?_
  intro r H' hr
  exact hr
/-- lists, cell by cell -/
theorem le_lstc {t t' : Bool} {sz n : Nat} {g g' : Nat → List AV} (ht : t' = true → t = true) (hl : ∀ i, i < n → (g' i).length = (g i).length)
    (hc : ∀ (i j : Nat) x x', i < n → (g i)[j]? = some x → (g' i)[j]? = some x' → Le x x') : Le (.lst t sz n g) (.lst t' sz n g') := by
  intro U φ V w v h
  obtain ⟨a, c, rfl, h1, h2, h3, h4⟩ := h.inv_lst
  rcases Nat.eq_zero_or_pos n with h0 | h0
  · subst h0
    exact .lst0 _ _ _ _ _ h2 fun h => h3 (ht h)
  · obtain ⟨b, off, cur, e, fz, rfl, hV, hb, hgl, hcell⟩ := h4 h0
    refine VRel.mk_lst h1 h2 (fun h => h3 (ht h)) hV hb (fun i hi => by rw [hl i hi]; exact hgl i hi) fun i j x' hi hx' => ?_
    have hlt : j < (g i).length := by rw [← hl i hi]; exact (List.getElem?_eq_some_iff.1 hx').1
    obtain ⟨u, k1, k2, k3⟩ := hcell i j _ hi (List.getElem?_eq_getElem hlt)
    exact ⟨u, k1, k2, hc i j _ x' hi (List.getElem?_eq_getElem hlt) hx' _ _ _ _ _ k3⟩
end Go.Proofs.Ytmhepmocnnlhnaa.Ab
