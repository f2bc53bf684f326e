/- epoch.Advance. -/
import Derived.Test.YtmhepmocnnlhnaaQM
namespace Go.Proofs.Ytmhepmocnnlhnaa.Ab
open Go Go.RowKit
/-- a block at a call's begin, told in other words -/
theorem sc_normin {q : Bool} {f : FuncId} {args : List AV} {H : AH} {Q : AV → AH → Prop} {id : Nat} {b : Blk} (b' : Blk) (hb : H[id]? = some (some b)) (he : b'.ety = b.ety) (hs : b'.sz = b.sz) (hn : b'.n = b.n) (hg : ∀ i, i < b.n → b.g i = b'.g i)
    (h : SC q Try.prog f args (H.set id (some b')) Q) : SC q Try.prog f args H Q := by
  refine ⟨h.1, fun U φ V w ca hh ha => ?_⟩
  obtain ⟨g', s⟩ := set_step (b' := b') (good_in hh) hb (w' := w) rfl rfl rfl rfl (fun _ _ => rfl) (fun _ => by
    obtain ⟨cur, k1, k2, k3, k4, k5, k6⟩ := hh.blk id b hb
    exact ⟨cur, by rw [he]; exact k1, by rw [hs]; exact k2, by rw [hn]; exact k3, k4, fun i hi => by rw [← hg i (by omega), hs]; exact k5 i (by omega), fun i j x hi hx => by rw [hs]; exact k6 i j x (by omega) (by rw [hg i (by omega)]; exact hx)⟩)
  refine (h.2 U φ V w ca g'.heap ha).mono ?_
  rintro e w' ⟨v, hv, r, U', φ', V', H', hQ, gd, hr, st⟩
  rw [List.length_set] at gd
  have hBw : (if q then w.heap.size else 0) ≤ w.heap.size := by cases q <;> simp
  exact ⟨v, hv, r, U', φ', V', H', hQ, gd, hr, (s.mono hBw).trans st⟩
def advT (e : Ep) : Ep :=
  if (e.now + 2) % 3 = 0 then { e with now := e.now + 1, l0 := [], free := e.free ++ e.l0 } else if (e.now + 2) % 3 = 1 then { e with now := e.now + 1, l1 := [], free := e.free ++ e.l1 } else { e with now := e.now + 1, l2 := [], free := e.free ++ e.l2 }
def advanceE (e : Ep) : Ep × Bool × Int := if RightE e then (if blockedB e = true then (e, false, 0) else (advT e, true, 0)) else (e, false, 1)
abbrev cellsR (e : Ep) (a : AV) : List AV := [.i e.now, ints e.pins, ints e.l0, ints e.l1, ints e.l2, a]
def AdvRes (e : Ep) (H : AH) (bis : Nat) (r : AV) (H' : AH) : Prop :=
  ∃ cs', r = .tup [.agg cs', .i (advanceE e).2.2] ∧ cs'.length = 6 ∧ H.length ≤ H'.length ∧ (∀ x, x < H.length → x ≠ bis → H'[x]? = H[x]?) ∧ IsOne H' bis 4 (.b (advanceE e).2.1) ∧ ∀ H5, Rest 0 H.length H' H5 → Frz H.length H5 (.agg cs') (epv (advanceE e).1)
theorem IsOne.keep {H H' : AH} {id : Nat} {t : TypeId} {v : AV} (h : IsOne H id t v) (he : H'[id]? = H[id]?) : IsOne H' id t v := by
  obtain ⟨b, hb, h⟩ := h
  exact ⟨b, he.trans hb, h⟩
theorem wadv_s (e : Ep) (hbd : Bd e) {v : Nat → AV} {Fact : Nat → Nat → AH → Prop} {post : AV → List AV} {xs : List Int} (hst : ∀ k m H H', Fact k m H → Rest 0 k H H' → Fact k m H')
    (hst2 : ∀ k m id H0 H H', Fact k m H0 → id = H0.length → Fact k m H → H.length ≤ H'.length → (∀ j, k ≤ j → j < H.length → j ≠ id → H'[j]? = H[j]?) → Fact k m H')
    (hown : ∀ H, SC true Try.prog 50 [epv e] H (fun r H' => Oth H H' none ∧ ∃ m : Nat, r = .agg (cellsR e (v m)) ∧ Fact H.length m H'))
    (hf0 : ∀ k m H, Fact k m H → Frz k H (.agg (cellsR e (v m))) (epv e)) (hpl : ∀ a, (post a).length = 6)
    (hf1 : ∀ k H vf, FzL H vf (e.free ++ xs) → (∀ id', accId vf = some id' → k ≤ id') → Frz k H (.agg (post vf)) (epv (advT e)))
    (hclo : ∀ (k m id bis : Nat) (H0 H1 H : AH), RightE e → Fact k m H0 → id = H0.length → Fact k m H1 → Oth H1 H (some id) → bis < k → k ≤ id → H[id]? = some (some (ebk (cellsR e (v m)))) → H[bis]? = some (some (bbox false)) →
      ∃ m', k ≤ m' ∧ SC true Try.prog 40 [.ref id 6 0 0, .ref bis 1 0 0] H (AdvPost e H id bis m' post xs))
    (H : AH) (bis : Nat) (hbis : H[bis]? = some (some (bbox false))) :
    SC true Try.prog 39 [epv e, .fn (.func 40) [] [.ref bis 1 0 0]] H (AdvRes e H bis) := by
  have hbl := (List.getElem?_eq_some_iff.1 hbis).1
  refine change_s e hbd (cells := fun m => cellsR e (v m)) (Fact := Fact) (fun _ => rfl) hst hown H _ ?_ ?_
  · intro hr k m H' ho hk hF
    have e1 : advanceE e = (e, false, 1) := if_neg hr
    unfold AdvRes
    rw [e1]
    exact ⟨_, rfl, rfl, ho.1, fun x hx _ => ho.2 x hx (by simp), ⟨bbox false, ho.get0 hbis, rfl, rfl, rfl, rfl⟩, fun H5 h5 => (hf0 k m H5 (hst _ _ _ _ hF ⟨h5.1, fun j hj hc => h5.2 j hj (by omega)⟩)).low hk⟩
  · intro hr k id m H0 H1 ho hk hF0 hkid hid hF hbx
    obtain ⟨b, hb, e1, e2, e3, e4⟩ := hbx
    have hol := ho.1
    have hil := (List.getElem?_eq_some_iff.1 hb).1
    have hbl1 := ho.get0 hbis
    refine sc_normin (ebk (cellsR e (v m))) hb e1.symm e2.symm e3.symm (one_of e3 e4) ?_
    have hb2 : (H1.set id (some (ebk (cellsR e (v m)))))[id]? = some (some (ebk (cellsR e (v m)))) := by rw [List.getElem?_set]; simp [hil]
    have ho2 : Oth H1 (H1.set id (some (ebk (cellsR e (v m))))) (some id) := oth_set _ _ _
    have hl2 : (H1.set id (some (ebk (cellsR e (v m))))).length = H1.length := by simp
    generalize H1.set id (some (ebk (cellsR e (v m)))) = H2 at hb2 ho2 hl2
    obtain ⟨m', hm', hc⟩ := hclo k m id bis H0 H1 H2 hr hF0 hid hF ho2 (by omega) hkid hb2 (ho2.get hbl1 (by simp; omega))
    refine hc.mono fun r H3 he => ?_
    obtain ⟨rfl, he⟩ := he
    rcases he with ⟨h0, ho3⟩ | ⟨h0, vf, hbx3, hfz, hid3, hs3, hl3, hk3⟩
    · have e1 : advanceE e = (e, false, 0) := by unfold advanceE; rw [if_pos hr, if_pos h0]
      have hol3 := ho3.1
      have hb3 : IsBox H3 id (cellsR e (v m)) := ⟨_, ho3.get0 hb2, rfl, rfl, rfl, rfl⟩
      have hF3 : Fact k m H3 := hst2 k m id H0 H1 H3 hF0 hid hF (by omega) fun j hj hj2 hj3 => by rw [ho3.2 j (by omega) (by simp), ho2.2 j hj2 (by simp; omega)]
      refine ⟨0, rfl, by omega, fun x hx hx2 => by rw [ho3.2 x (by omega) (by simp), ho2.2 x (by omega) (by simp; omega)], fun h => absurd rfl h, fun _ => ⟨_, rfl, hb3, fun H4 h4 => ?_⟩⟩
      unfold AdvRes
      rw [e1]
      refine ⟨_, rfl, rfl, by have := h4.1; omega, fun x hx x1 => ?_, ⟨bbox false, ?_, rfl, rfl, rfl, rfl⟩, fun H5 h5 => ?_⟩
      · rw [h4.2 x (by omega) (.inl hx), ho3.2 x (by omega) (by simp), ho2.2 x (by omega) (by simp; omega), ho.2 x hx (by simp)]
      · exact (h4.2 bis (by omega) (.inl hbl)).trans (ho3.get0 (ho2.get hbl1 (by simp; omega)))
      · exact (hf0 k m H5 (hst k m H4 H5 (hst k m H3 H4 hF3 ⟨h4.1, fun j hj hc => h4.2 j hj (by omega)⟩) ⟨h5.1, fun j hj hc => h5.2 j hj (by omega)⟩)).low (by omega)
    · have e1 : advanceE e = (advT e, true, 0) := by unfold advanceE; rw [if_pos hr, if_neg (by rw [h0]; decide)]
      refine ⟨0, rfl, by omega, fun x hx hx2 => by rw [hk3 x (by omega) (by omega) (by omega) (by omega), ho2.2 x (by omega) (by simp; omega)], fun h => absurd rfl h, fun _ => ⟨_, hpl _, hbx3, fun H4 h4 => ?_⟩⟩
      unfold AdvRes
      rw [e1]
      have hvk : ∀ i, accId vf = some i → k ≤ i := fun i hi => by rcases (hid3 i hi).1 with h | h <;> omega
      refine ⟨_, rfl, hpl _, by have := h4.1; omega, fun x hx x1 => ?_, hs3.keep (h4.2 bis (by omega) (.inl hbl)), fun H5 h5 => ?_⟩
      · rw [h4.2 x (by omega) (.inl hx), hk3 x (by omega) (by omega) (by omega) x1, ho2.2 x (by omega) (by simp; omega), ho.2 x hx (by simp)]
      · exact (hf1 k H5 vf (hfz.keep fun i hi => by
          have hl := (hid3 i hi).2
          have hk := hvk i hi
          rw [h5.2 i (by have := h4.1; omega) (.inr (by omega)), h4.2 i hl (.inr hk)]) hvk).low (by omega)
theorem wadv0M_s (e : Ep) (hbd : Bd e) (hk : (e.now + 2) % 3 = 0) (h0 : 0 < e.free.length) (H : AH) (bis : Nat) (hbis : H[bis]? = some (some (bbox false))) :
    SC true Try.prog 39 [epv e, .fn (.func 40) [] [.ref bis 1 0 0]] H (AdvRes e H bis) := by
  have hbd' := hbd
  obtain ⟨hb1, hb2⟩ := hbd'
  refine wadv_s e hbd (v := fun m => .arr m 1 0 e.free.length) (Fact := fun k m H => k ≤ m ∧ H[m]? = some (some (iblk e.free))) (post := fun v => [.i (e.now + 1), ints e.pins, .p (.slice none 0 0), ints e.l1, ints e.l2, v]) (xs := e.l0) ?_ ?_ (fun H => ?_) ?_ (fun _ => rfl) ?_ ?_ H bis hbis
  · rintro k m H H' ⟨h1, h2⟩ hr
    exact ⟨h1, (hr.2 m (List.getElem?_eq_some_iff.1 h2).1 (.inr h1)).trans h2⟩
  · rintro k m id H0 H H' ⟨f1, f2⟩ hid ⟨h1, h2⟩ hl hk
    have hml := (List.getElem?_eq_some_iff.1 f2).1
    exact ⟨h1, (hk m h1 (List.getElem?_eq_some_iff.1 h2).1 (by omega)).trans h2⟩
  · exact ownR_s e hbd (clone_s e.pins (by omega)) (clone_s e.l0 (by omega)) (clone_s e.l1 (by omega)) (clone_s e.l2 (by omega)) h0 H
  · rintro k m H ⟨h1, h2⟩
    exact FrzL.agg (.cons (.le (Le.refl _)) (.cons (.le (Le.refl _)) (.cons (.le (Le.refl _)) (.cons (.le (Le.refl _)) (.cons (.le (Le.refl _)) (.cons (.acc (.inr ⟨m, _, h1, rfl, h2, rfl, rfl, rfl, fun _ _ => rfl⟩)) .nil))))))
  · intro k H vf hf hid
    have ht : advT e = { e with now := e.now + 1, l0 := [], free := e.free ++ e.l0 } := by unfold advT; rw [hk]; rfl
    rw [ht]
    exact FrzL.agg (.cons (.le (Le.refl _)) (.cons (.le (Le.refl _)) (.cons (.le (le_nil _ _ _)) (.cons (.le (Le.refl _)) (.cons (.le (Le.refl _)) (.cons (hf k H fun i hi => ⟨hid i hi, rfl⟩) .nil))))))
  · rintro k m id bis H0 H1 H hr ⟨f1, f2⟩ hid ⟨f3, f4⟩ ho hbk hkid hb hs
    have hml := (List.getElem?_eq_some_iff.1 f2).1
    exact ⟨m, f1, adv0M_s e hbd hr hk H id bis m hb (ho.get f4 (by simp; omega)) (by omega) (by omega) h0 hs (by omega)⟩
theorem wadv0E_s (e : Ep) (hbd : Bd e) (hk : (e.now + 2) % 3 = 0) (h0 : e.free = []) (H : AH) (bis : Nat) (hbis : H[bis]? = some (some (bbox false))) :
    SC true Try.prog 39 [epv e, .fn (.func 40) [] [.ref bis 1 0 0]] H (AdvRes e H bis) := by
  have hbd' := hbd
  obtain ⟨hb1, hb2⟩ := hbd'
  refine wadv_s e hbd (v := fun _ => none0) (Fact := fun _ _ _ => True) (post := fun v => [.i (e.now + 1), ints e.pins, .p (.slice none 0 0), ints e.l1, ints e.l2, v]) (xs := e.l0) ?_ ?_ (fun H => ?_) ?_ (fun _ => rfl) ?_ ?_ H bis hbis
  · exact fun _ _ _ _ _ _ => True.intro
  · exact fun _ _ _ _ _ _ _ _ _ _ _ => True.intro
  · exact (ownA_s e hbd (clone_s e.pins (by omega)) (clone_s e.l0 (by omega)) (clone_s e.l1 (by omega)) (clone_s e.l2 (by omega)) (by rw [h0]; exact clone0_s) H).mono fun r H' h => by
      obtain ⟨h1, m, h2⟩ := h
      exact ⟨h1, m, h2, True.intro⟩
  · intro k m H _
    exact FrzL.agg (.cons (.le (Le.refl _)) (.cons (.le (Le.refl _)) (.cons (.le (Le.refl _)) (.cons (.le (Le.refl _)) (.cons (.le (Le.refl _)) (.cons (.le (by rw [h0]; exact le_lst (fun h => by cases h) fun i hi => by omega)) .nil))))))
  · intro k H vf hf hid
    have ht : advT e = { e with now := e.now + 1, l0 := [], free := e.free ++ e.l0 } := by unfold advT; rw [hk]; rfl
    rw [ht]
    exact FrzL.agg (.cons (.le (Le.refl _)) (.cons (.le (Le.refl _)) (.cons (.le (le_nil _ _ _)) (.cons (.le (Le.refl _)) (.cons (.le (Le.refl _)) (.cons (hf k H fun i hi => ⟨hid i hi, rfl⟩) .nil))))))
  · intro k m id bis H0 H1 H hr _ hid _ ho hbk hkid hb hs
    exact ⟨id, hkid, adv0E_s e hbd hr hk H id bis hb h0 hs (by omega)⟩
theorem wadv1M_s (e : Ep) (hbd : Bd e) (hk : (e.now + 2) % 3 = 1) (h0 : 0 < e.free.length) (H : AH) (bis : Nat) (hbis : H[bis]? = some (some (bbox false))) :
    SC true Try.prog 39 [epv e, .fn (.func 40) [] [.ref bis 1 0 0]] H (AdvRes e H bis) := by
  have hbd' := hbd
  obtain ⟨hb1, hb2⟩ := hbd'
  refine wadv_s e hbd (v := fun m => .arr m 1 0 e.free.length) (Fact := fun k m H => k ≤ m ∧ H[m]? = some (some (iblk e.free))) (post := fun v => [.i (e.now + 1), ints e.pins, ints e.l0, .p (.slice none 0 0), ints e.l2, v]) (xs := e.l1) ?_ ?_ (fun H => ?_) ?_ (fun _ => rfl) ?_ ?_ H bis hbis
  · rintro k m H H' ⟨h1, h2⟩ hr
    exact ⟨h1, (hr.2 m (List.getElem?_eq_some_iff.1 h2).1 (.inr h1)).trans h2⟩
  · rintro k m id H0 H H' ⟨f1, f2⟩ hid ⟨h1, h2⟩ hl hk
    have hml := (List.getElem?_eq_some_iff.1 f2).1
    exact ⟨h1, (hk m h1 (List.getElem?_eq_some_iff.1 h2).1 (by omega)).trans h2⟩
  · exact ownR_s e hbd (clone_s e.pins (by omega)) (clone_s e.l0 (by omega)) (clone_s e.l1 (by omega)) (clone_s e.l2 (by omega)) h0 H
  · rintro k m H ⟨h1, h2⟩
    exact FrzL.agg (.cons (.le (Le.refl _)) (.cons (.le (Le.refl _)) (.cons (.le (Le.refl _)) (.cons (.le (Le.refl _)) (.cons (.le (Le.refl _)) (.cons (.acc (.inr ⟨m, _, h1, rfl, h2, rfl, rfl, rfl, fun _ _ => rfl⟩)) .nil))))))
  · intro k H vf hf hid
    have ht : advT e = { e with now := e.now + 1, l1 := [], free := e.free ++ e.l1 } := by unfold advT; rw [hk]; rfl
    rw [ht]
    exact FrzL.agg (.cons (.le (Le.refl _)) (.cons (.le (Le.refl _)) (.cons (.le (Le.refl _)) (.cons (.le (le_nil _ _ _)) (.cons (.le (Le.refl _)) (.cons (hf k H fun i hi => ⟨hid i hi, rfl⟩) .nil))))))
  · rintro k m id bis H0 H1 H hr ⟨f1, f2⟩ hid ⟨f3, f4⟩ ho hbk hkid hb hs
    have hml := (List.getElem?_eq_some_iff.1 f2).1
    exact ⟨m, f1, adv1M_s e hbd hr hk H id bis m hb (ho.get f4 (by simp; omega)) (by omega) (by omega) h0 hs (by omega)⟩
theorem wadv1E_s (e : Ep) (hbd : Bd e) (hk : (e.now + 2) % 3 = 1) (h0 : e.free = []) (H : AH) (bis : Nat) (hbis : H[bis]? = some (some (bbox false))) :
    SC true Try.prog 39 [epv e, .fn (.func 40) [] [.ref bis 1 0 0]] H (AdvRes e H bis) := by
  have hbd' := hbd
  obtain ⟨hb1, hb2⟩ := hbd'
  refine wadv_s e hbd (v := fun _ => none0) (Fact := fun _ _ _ => True) (post := fun v => [.i (e.now + 1), ints e.pins, ints e.l0, .p (.slice none 0 0), ints e.l2, v]) (xs := e.l1) ?_ ?_ (fun H => ?_) ?_ (fun _ => rfl) ?_ ?_ H bis hbis
  · exact fun _ _ _ _ _ _ => True.intro
  · exact fun _ _ _ _ _ _ _ _ _ _ _ => True.intro
  · exact (ownA_s e hbd (clone_s e.pins (by omega)) (clone_s e.l0 (by omega)) (clone_s e.l1 (by omega)) (clone_s e.l2 (by omega)) (by rw [h0]; exact clone0_s) H).mono fun r H' h => by
      obtain ⟨h1, m, h2⟩ := h
      exact ⟨h1, m, h2, True.intro⟩
  · intro k m H _
    exact FrzL.agg (.cons (.le (Le.refl _)) (.cons (.le (Le.refl _)) (.cons (.le (Le.refl _)) (.cons (.le (Le.refl _)) (.cons (.le (Le.refl _)) (.cons (.le (by rw [h0]; exact le_lst (fun h => by cases h) fun i hi => by omega)) .nil))))))
  · intro k H vf hf hid
    have ht : advT e = { e with now := e.now + 1, l1 := [], free := e.free ++ e.l1 } := by unfold advT; rw [hk]; rfl
    rw [ht]
    exact FrzL.agg (.cons (.le (Le.refl _)) (.cons (.le (Le.refl _)) (.cons (.le (Le.refl _)) (.cons (.le (le_nil _ _ _)) (.cons (.le (Le.refl _)) (.cons (hf k H fun i hi => ⟨hid i hi, rfl⟩) .nil))))))
  · intro k m id bis H0 H1 H hr _ hid _ ho hbk hkid hb hs
    exact ⟨id, hkid, adv1E_s e hbd hr hk H id bis hb h0 hs (by omega)⟩
theorem wadv2M_s (e : Ep) (hbd : Bd e) (hk : (e.now + 2) % 3 = 2) (h0 : 0 < e.free.length) (H : AH) (bis : Nat) (hbis : H[bis]? = some (some (bbox false))) :
    SC true Try.prog 39 [epv e, .fn (.func 40) [] [.ref bis 1 0 0]] H (AdvRes e H bis) := by
  have hbd' := hbd
  obtain ⟨hb1, hb2⟩ := hbd'
  refine wadv_s e hbd (v := fun m => .arr m 1 0 e.free.length) (Fact := fun k m H => k ≤ m ∧ H[m]? = some (some (iblk e.free))) (post := fun v => [.i (e.now + 1), ints e.pins, ints e.l0, ints e.l1, .p (.slice none 0 0), v]) (xs := e.l2) ?_ ?_ (fun H => ?_) ?_ (fun _ => rfl) ?_ ?_ H bis hbis
  · rintro k m H H' ⟨h1, h2⟩ hr
    exact ⟨h1, (hr.2 m (List.getElem?_eq_some_iff.1 h2).1 (.inr h1)).trans h2⟩
  · rintro k m id H0 H H' ⟨f1, f2⟩ hid ⟨h1, h2⟩ hl hk
    have hml := (List.getElem?_eq_some_iff.1 f2).1
    exact ⟨h1, (hk m h1 (List.getElem?_eq_some_iff.1 h2).1 (by omega)).trans h2⟩
  · exact ownR_s e hbd (clone_s e.pins (by omega)) (clone_s e.l0 (by omega)) (clone_s e.l1 (by omega)) (clone_s e.l2 (by omega)) h0 H
  · rintro k m H ⟨h1, h2⟩
    exact FrzL.agg (.cons (.le (Le.refl _)) (.cons (.le (Le.refl _)) (.cons (.le (Le.refl _)) (.cons (.le (Le.refl _)) (.cons (.le (Le.refl _)) (.cons (.acc (.inr ⟨m, _, h1, rfl, h2, rfl, rfl, rfl, fun _ _ => rfl⟩)) .nil))))))
  · intro k H vf hf hid
    have ht : advT e = { e with now := e.now + 1, l2 := [], free := e.free ++ e.l2 } := by unfold advT; rw [hk]; rfl
    rw [ht]
    exact FrzL.agg (.cons (.le (Le.refl _)) (.cons (.le (Le.refl _)) (.cons (.le (Le.refl _)) (.cons (.le (Le.refl _)) (.cons (.le (le_nil _ _ _)) (.cons (hf k H fun i hi => ⟨hid i hi, rfl⟩) .nil))))))
  · rintro k m id bis H0 H1 H hr ⟨f1, f2⟩ hid ⟨f3, f4⟩ ho hbk hkid hb hs
    have hml := (List.getElem?_eq_some_iff.1 f2).1
    exact ⟨m, f1, adv2M_s e hbd hr hk H id bis m hb (ho.get f4 (by simp; omega)) (by omega) (by omega) h0 hs (by omega)⟩
theorem wadv2E_s (e : Ep) (hbd : Bd e) (hk : (e.now + 2) % 3 = 2) (h0 : e.free = []) (H : AH) (bis : Nat) (hbis : H[bis]? = some (some (bbox false))) :
    SC true Try.prog 39 [epv e, .fn (.func 40) [] [.ref bis 1 0 0]] H (AdvRes e H bis) := by
  have hbd' := hbd
  obtain ⟨hb1, hb2⟩ := hbd'
  refine wadv_s e hbd (v := fun _ => none0) (Fact := fun _ _ _ => True) (post := fun v => [.i (e.now + 1), ints e.pins, ints e.l0, ints e.l1, .p (.slice none 0 0), v]) (xs := e.l2) ?_ ?_ (fun H => ?_) ?_ (fun _ => rfl) ?_ ?_ H bis hbis
  · exact fun _ _ _ _ _ _ => True.intro
  · exact fun _ _ _ _ _ _ _ _ _ _ _ => True.intro
  · exact (ownA_s e hbd (clone_s e.pins (by omega)) (clone_s e.l0 (by omega)) (clone_s e.l1 (by omega)) (clone_s e.l2 (by omega)) (by rw [h0]; exact clone0_s) H).mono fun r H' h => by
      obtain ⟨h1, m, h2⟩ := h
      exact ⟨h1, m, h2, True.intro⟩
  · intro k m H _
    exact FrzL.agg (.cons (.le (Le.refl _)) (.cons (.le (Le.refl _)) (.cons (.le (Le.refl _)) (.cons (.le (Le.refl _)) (.cons (.le (Le.refl _)) (.cons (.le (by rw [h0]; exact le_lst (fun h => by cases h) fun i hi => by omega)) .nil))))))
  · intro k H vf hf hid
    have ht : advT e = { e with now := e.now + 1, l2 := [], free := e.free ++ e.l2 } := by unfold advT; rw [hk]; rfl
    rw [ht]
    exact FrzL.agg (.cons (.le (Le.refl _)) (.cons (.le (Le.refl _)) (.cons (.le (Le.refl _)) (.cons (.le (Le.refl _)) (.cons (.le (le_nil _ _ _)) (.cons (hf k H fun i hi => ⟨hid i hi, rfl⟩) .nil))))))
  · intro k m id bis H0 H1 H hr _ hid _ ho hbk hkid hb hs
    exact ⟨id, hkid, adv2E_s e hbd hr hk H id bis hb h0 hs (by omega)⟩
theorem wadvA_s (e : Ep) (hbd : Bd e) (H : AH) (bis : Nat) (hbis : H[bis]? = some (some (bbox false))) :
    SC true Try.prog 39 [epv e, .fn (.func 40) [] [.ref bis 1 0 0]] H (AdvRes e H bis) := by
  rcases (by omega : (e.now + 2) % 3 = 0 ∨ (e.now + 2) % 3 = 1 ∨ (e.now + 2) % 3 = 2) with h | h | h
  · rcases Nat.eq_zero_or_pos e.free.length with h0 | h0
    · exact wadv0E_s e hbd h (List.eq_nil_of_length_eq_zero h0) H bis hbis
    · exact wadv0M_s e hbd h h0 H bis hbis
  · rcases Nat.eq_zero_or_pos e.free.length with h0 | h0
    · exact wadv1E_s e hbd h (List.eq_nil_of_length_eq_zero h0) H bis hbis
    · exact wadv1M_s e hbd h h0 H bis hbis
  · rcases Nat.eq_zero_or_pos e.free.length with h0 | h0
    · exact wadv2E_s e hbd h (List.eq_nil_of_length_eq_zero h0) H bis hbis
    · exact wadv2M_s e hbd h h0 H bis hbis
abbrev ares (r : Ep × Bool × Int) : AV := .tup [epv r.1, .b r.2.1, .i r.2.2]
theorem cl_ares (r : Ep × Bool × Int) : Cl (ares r) := .tup _ fun x hx => by
  simp only [List.mem_cons, List.not_mem_nil, or_false] at hx
  rcases hx with rfl | rfl | rfl
  · exact cl_epv _
  · exact .p _
  · exact .p _
theorem advance_s (e : Ep) (hbd : Bd e) : PS Try.prog 20 [epv e] (ares (advanceE e)) := by
  refine ps_frz (cl_ares _) fun H => ?_
  refine sc_in TYok Try.func20 (by kernel_rfl) Try.ntmps20 rfl rfl rfl ?_
  refine aw_seq ?_
  refine aw_region ?_
  refine nw fun H1 hb1 ho1 hl1 => ?_
  refine nw fun H2 hb2 ho2 hl2 => ?_
  refine nw fun H3 hb3 ho3 hl3 => ?_
  have hb13 := ho3.get0 (ho2.get0 hb1)
  have hb23 := ho3.get0 hb2
  have hW := wadvA_s e hbd H3 H2.length hb3
  (repeat' (first | (refine sq_id ?_; first | refine sq_nil ?_ | refine sm ?_ | refine sa ?_ | refine ss ?_ | refine st ?_ | refine sf ?_ | refine sp ?_ | refine sq ?_ | refine sl ?_ | refine si ?_ | refine sx ?_ | refine sy ?_) | (refine rg_id ?_; first | refine rg_fin ?_ | refine rm ?_ | refine ra ?_ | refine rs ?_ | refine rt ?_ | refine rf ?_ | refine rp ?_ | refine rq ?_ | refine rl ?_ | refine ri ?_ | refine rx ?_ | refine ry ?_) | refine aw_rseq ?_ | refine aw_seq ?_ | refine aw_region ?_ | refine aw_skip ?_ | refine ct ?_ | refine cf ?_ | refine d0s ?_ | refine d0r ?_ | refine aw_block ?_ | refine aw_exit ?_ | refine then_ret ?_ | refine then_exit ?_ | refine then_normal ?_ | refine blk_ret ?_ | refine blk_normal ?_ | refine blk_exit ?_ | refine blk_pass rfl ?_))
  refine sq_call rfl rfl rfl (LeL.refl _) (hW.mono fun r H4 he => ?_)
  obtain ⟨cs', rfl, hcl, hl4, hk4, hs4, hfz⟩ := he
  generalize advanceE e = tg at *
  obtain ⟨e', isb, er⟩ := tg
  have hb24 := (hk4 H1.length (by omega) (by omega)).trans hb23
  (repeat' (first | (refine sq_id ?_; first | refine sq_nil ?_ | refine sm ?_ | refine sa ?_ | refine ss ?_ | refine st ?_ | refine sf ?_ | refine sp ?_ | refine sq ?_ | refine sl ?_ | refine si ?_ | refine sx ?_ | refine sy ?_) | (refine rg_id ?_; first | refine rg_fin ?_ | refine rm ?_ | refine ra ?_ | refine rs ?_ | refine rt ?_ | refine rf ?_ | refine rp ?_ | refine rq ?_ | refine rl ?_ | refine ri ?_ | refine rx ?_ | refine ry ?_) | refine aw_rseq ?_ | refine aw_seq ?_ | refine aw_region ?_ | refine aw_skip ?_ | refine ct ?_ | refine cf ?_ | refine d0s ?_ | refine d0r ?_ | refine aw_block ?_ | refine aw_exit ?_ | refine then_ret ?_ | refine then_exit ?_ | refine then_normal ?_ | refine blk_ret ?_ | refine blk_normal ?_ | refine blk_exit ?_ | refine blk_pass rfl ?_))
  refine sq_storek TYok rfl rfl rfl hb24 rfl Nat.zero_lt_one rfl rfl hcl (by rw [hcl]; exact Nat.le_refl 6) fun H5 hb5 ho5 hl5 => ?_
  have hs5 := hs4.keep (ho5.2 H2.length (by omega) (by simp; omega))
  obtain ⟨sb, hsb, t1, t2, t3, t4⟩ := hs5
  refine sa ?_
  refine sq_nil ?_
  refine aw_norm H1.length (ebk cs') hb5 rfl rfl rfl (one_of rfl (splice_all (by rw [hcl]; rfl))) fun H6 hb6 ho6 hl6 => ?_
  refine aw_norm H2.length (bbox isb) (ho6.get hsb (by simp; omega)) t1.symm t2.symm t3.symm (one_of t3 t4) fun H7 hb7 ho7 hl7 => ?_
  have hb67 := ho7.get hb6 (by simp; omega)
  refine aw_seq ?_
  have fin : ∀ H8 H9 : AH, Oth H7 H8 (some H1.length) → Oth H8 H9 (some H2.length) → Ext H H9 ∧ Frz H.length H9 (.tup [.agg cs', .b isb, .i er]) (ares (e', isb, er)) := by
    intro H8 H9 ho8 ho9
    have l8 := ho8.1
    have l9 := ho9.1
    have hE : Oth H H9 none := ⟨by omega, fun j hj _ => by
      rw [ho9.2 j (by omega) (by simp; omega), ho8.2 j (by omega) (by simp; omega), ho7.2 j (by omega) (by simp; omega), ho6.2 j (by omega) (by simp; omega), ho5.2 j (by omega) (by simp; omega), hk4 j (by omega) (by omega), ho3.2 j (by omega) (by simp), ho2.2 j (by omega) (by simp), ho1.2 j hj (by simp)]⟩
    have hR : Rest 0 H3.length H4 H9 := ⟨by omega, fun j hj hc => by
      rw [ho9.2 j (by omega) (by simp; omega), ho8.2 j (by omega) (by simp; omega), ho7.2 j (by omega) (by simp; omega), ho6.2 j (by omega) (by simp; omega), ho5.2 j (by omega) (by simp; omega)]⟩
    exact ⟨hE.ext, FrzL.tup (.cons ((hfz H9 hR).low (by omega)) (.cons (.le (Le.refl _)) (.cons (.le (Le.refl _)) .nil)))⟩
  refine yall 6 ?_
  refine ye 2 ?_
  refine sm ?_
  refine sq_nil ?_
  refine y2 0 1 ?_ ?_
  refine sq_load (v := .agg cs') TYok rfl rfl rfl hb67 rfl Nat.zero_lt_one (apart_ep cs' hcl) ?_
  refine sq_nil ?_
  refine y2 1 3 ?_ ?_
  first | refine sl ?_ | refine sq_load TYok rfl rfl rfl (ho8.get hb7 (by simp; omega)) rfl Nat.zero_lt_one rfl ?_
  refine sq_nil ?_
  refine y1 3 ?_
  refine sq_storek TYok rfl rfl rfl hb67 rfl Nat.zero_lt_one rfl rfl hcl (by rw [hcl]; exact Nat.le_refl 6) fun H8 hb8 ho8 hl8 => ?_
  refine sq_nil ?_
  refine y1 4 ?_
  refine sw (ho8.get hb7 (by simp; omega)) fun H9 hb9 ho9 hl9 => ?_
  refine sq_nil ?_
  refine ye 5 ?_
  refine sa ?_
  refine sq_nil ?_
  refine yd ?_
  exact then_normal (aw_ret ⟨True.intro, _, .cell _ _ _ _ _ _ _ _ _ rfl (ho9.get hb8 (by simp; omega)) rfl Nat.zero_lt_one (by show apart TY _ (splice cs' 0 cs') = _; rw [splice_all rfl]; exact apart_ep cs' hcl) (.cell _ _ _ _ _ _ _ _ _ rfl hb9 rfl Nat.zero_lt_one rfl (.tmp _ _ _ .nil)), fin H8 H9 ho8 ho9⟩)
  refine sq_storek TYok rfl rfl rfl hb67 rfl Nat.zero_lt_one rfl rfl hcl (by rw [hcl]; exact Nat.le_refl 6) fun H8 hb8 ho8 hl8 => ?_
  refine sq_nil ?_
  refine y1 1 ?_
  first | refine sl ?_ | refine sq_load TYok rfl rfl rfl (ho8.get hb7 (by simp; omega)) rfl Nat.zero_lt_one rfl ?_
  refine sq_nil ?_
  refine y1 4 ?_
  refine sw (ho8.get hb7 (by simp; omega)) fun H9 hb9 ho9 hl9 => ?_
  refine sq_nil ?_
  refine ye 5 ?_
  refine sa ?_
  refine sq_nil ?_
  refine yd ?_
  exact then_normal (aw_ret ⟨True.intro, _, .cell _ _ _ _ _ _ _ _ _ rfl (ho9.get hb8 (by simp; omega)) rfl Nat.zero_lt_one (by show apart TY _ (splice cs' 0 cs') = _; rw [splice_all rfl]; exact apart_ep cs' hcl) (.cell _ _ _ _ _ _ _ _ _ rfl hb9 rfl Nat.zero_lt_one rfl (.tmp _ _ _ .nil)), fin H8 H9 ho8 ho9⟩)
  first | refine sl ?_ | refine sq_load TYok rfl rfl rfl (ho8.get hb7 (by simp; omega)) rfl Nat.zero_lt_one rfl ?_
  refine sq_nil ?_
  refine y1 0 ?_
  refine sq_load (v := .agg cs') TYok rfl rfl rfl hb67 rfl Nat.zero_lt_one (apart_ep cs' hcl) ?_
  refine sq_nil ?_
  refine y1 3 ?_
  refine sq_storek TYok rfl rfl rfl hb67 rfl Nat.zero_lt_one rfl rfl hcl (by rw [hcl]; exact Nat.le_refl 6) fun H8 hb8 ho8 hl8 => ?_
  refine sq_nil ?_
  refine y1 4 ?_
  refine sw (ho8.get hb7 (by simp; omega)) fun H9 hb9 ho9 hl9 => ?_
  refine sq_nil ?_
  refine ye 5 ?_
  refine sa ?_
  refine sq_nil ?_
  refine yd ?_
  exact then_normal (aw_ret ⟨True.intro, _, .cell _ _ _ _ _ _ _ _ _ rfl (ho9.get hb8 (by simp; omega)) rfl Nat.zero_lt_one (by show apart TY _ (splice cs' 0 cs') = _; rw [splice_all rfl]; exact apart_ep cs' hcl) (.cell _ _ _ _ _ _ _ _ _ rfl hb9 rfl Nat.zero_lt_one rfl (.tmp _ _ _ .nil)), fin H8 H9 ho8 ho9⟩)
end Go.Proofs.Ytmhepmocnnlhnaa.Ab
