/- epoch.Retire. -/
import Derived.Test.YtmhepmocnnlhnaaQK
namespace Go.Proofs.Ytmhepmocnnlhnaa.Ab
open Go Go.RowKit
def addL (e : Ep) (k : Int) (n : Int) : Ep := if k = 0 then { e with l0 := e.l0 ++ [n] } else if k = 1 then { e with l1 := e.l1 ++ [n] } else { e with l2 := e.l2 ++ [n] }
def retireE (e : Ep) (i n : Int) : Ep × Int :=
  if RightE e ∧ 0 ≤ i ∧ i < e.pins.length then (if retErr e (e.pins.getD i.toNat 0) n = 0 then (addL e (e.now % 3) n, 0) else (e, retErr e (e.pins.getD i.toNat 0) n)) else (e, 1)
/-- one's worker, where a list of Limbo may change -/
theorem wret_s (e : Ep) (hbd : Bd e) (i n : Int) {cells : AV → List AV} {v : Nat → AV} {Fact : Nat → Nat → AH → Prop} {xs : List Int} {rest : Nat → List AV} (tgt : Ep)
    (hcl : ∀ a, (cells a).length = 6) (hrest : ∀ m, cells (v m) = .i e.now :: ints e.pins :: rest m) (hst : ∀ k m H H', Fact k m H → Rest 0 k H H' → Fact k m H')
    (hown : ∀ H, SC true Try.prog 50 [epv e] H (fun r H' => Oth H H' none ∧ ∃ m : Nat, r = .agg (cells (v m)) ∧ Fact H.length m H'))
    (hf0 : ∀ k m H, Fact k m H → ∀ er, Frz k H (.tup [.agg (cells (v m)), .i er]) (eres (e, er)))
    (hf1 : ∀ k id' b H, k ≤ id' → H[id']? = some (some b) → b.ety = 3 → b.sz = 1 → b.n = xs.length + 1 → (∀ j, j < xs.length + 1 → b.g j = [.i ((xs ++ [n]).getD j 0)]) → Frz k H (.tup [.agg (cells (.arr id' 1 0 (xs.length + 1))), .i 0]) (eres (tgt, 0)))
    (htgt : RightE e → tgt = addL e (e.now % 3) n)
    (hclo : ∀ (k m id bn j : Nat) (H0 H1 H : AH), RightE e → Fact k m H0 → id = H0.length → Fact k m H1 → Oth H1 H (some id) → k ≤ id → H[id]? = some (some (ebk (cells (v m)))) → H[bn]? = some (some (ibox n)) →
      ∃ m', k ≤ m' ∧ SC true Try.prog 33 [.ref id 6 0 0, .fref [.i (e.pins.getD j 0)], .ref bn 1 0 0] H (RetPost e (retErr e (e.pins.getD j 0) n) n H id m' cells xs))
    (H : AH) (bn : Nat) (hbn : H[bn]? = some (some (ibox n))) :
    SC true Try.prog 28 [epv e, .i i, .fn (.func 33) [] [.ref bn 1 0 0]] H (WRes H (retireE e i n)) := by
  refine worker_s e hbd i (cells := fun m => cells (v m)) (Fact := Fact) (fun _ => hcl _) hst hown H _ ?_ ?_
  · intro hr k m H' ho hk hF
    have e1 : retireE e i n = (e, 1) := if_neg fun k => hr k.1
    rw [e1]
    exact ⟨_, 1, rfl, hcl _, ho, fun H5 h5 => (hf0 k m H5 (hst _ _ _ _ hF ⟨h5.1, fun j hj hc => h5.2 j hj (by omega)⟩) 1).low hk⟩
  · intro hr k id m bi bd H0 H1 ho hk hkid hid hF0 hF hbx hbi hbd hbi' hbd'
    have hol := ho.1
    have hbx' := hbx
    rw [hrest] at hbx'
    have hidl : id < H1.length := by
      obtain ⟨b, hb, _⟩ := hbx
      exact (List.getElem?_eq_some_iff.1 hb).1
    have hbnl := (List.getElem?_eq_some_iff.1 hbn).1
    refine worker1L_s e.now i H1 _ hbx' hbi' hbd' (by omega) (by omega) ?_ ?_
    · intro hout H2 hb2 ho2
      have e1 : retireE e i n = (e, 1) := if_neg fun k => hout k.2
      rw [e1]
      refine ⟨1, rfl, ho2.1, fun j hj hj2 => ho2.2 j (by omega) (by simp; omega), fun _ H3 h3 => .same ⟨by have := h3.1; have := ho2.1; omega, fun j hj _ => ?_⟩, fun h => absurd h (by decide)⟩
      rw [h3.2 j (by have := ho2.1; omega) (.inl hj), ho2.2 j (by omega) (by simp; omega), ho.2 j hj (by simp)]
    · intro j hij hj H2 hb2 ho2
      subst hij
      have hol2 := ho2.1
      rw [← hrest] at hb2
      have hbn2 := ho2.get (ho.get0 hbn) (by simp; omega)
      obtain ⟨m', hm', hc⟩ := hclo k m id bn j H0 H1 H2 hr hF0 hid hF ho2 hkid hb2 hbn2
      refine hc.mono fun r H3 he => ?_
      obtain ⟨rfl, he⟩ := he
      rcases he with ⟨h0, ho3⟩ | ⟨h0, id', b, hbx3, hb', q1, q2, q3, q4, hid', hl3, hk3⟩
      · have e1 : retireE e j n = (e, retErr e (e.pins.getD j 0) n) := by
          unfold retireE
          rw [if_pos ⟨hr, by omega, by omega⟩, Int.toNat_natCast, if_neg h0]
        rw [e1]
        have hol3 := ho3.1
        refine ⟨_, rfl, by omega, fun x hx hx2 => ?_, fun _ H4 h4 => .same ⟨by have := h4.1; omega, fun x hx _ => ?_⟩, fun h => absurd h h0⟩
        · rw [ho3.2 x (by omega) (by simp), ho2.2 x (by omega) (by simp; omega)]
        · rw [h4.2 x (by omega) (.inl hx), ho3.2 x (by omega) (by simp), ho2.2 x (by omega) (by simp; omega), ho.2 x hx (by simp)]
      · have e1 : retireE e j n = (tgt, 0) := by
          unfold retireE
          rw [if_pos ⟨hr, by omega, by omega⟩, Int.toNat_natCast, if_pos h0, htgt hr]
        rw [e1, h0]
        refine ⟨0, rfl, by omega, fun x hx hx2 => ?_, fun h => absurd rfl h, fun _ => ⟨_, hcl _, hbx3, fun H4 h4 => ⟨_, 0, rfl, hcl _, ⟨by have := h4.1; omega, fun x hx _ => ?_⟩, fun H5 h5 => ?_⟩⟩⟩
        · rw [hk3 x (by omega) (by omega) (by omega), ho2.2 x (by omega) (by simp; omega)]
        · rw [h4.2 x (by omega) (.inl hx), hk3 x (by omega) (by omega) (by omega), ho2.2 x (by omega) (by simp; omega), ho.2 x hx (by simp)]
        · have hk' : k ≤ id' := by omega
          have hl' := (List.getElem?_eq_some_iff.1 hb').1
          have hb4 := (h4.2 id' hl' (.inr hk')).trans hb'
          have hb5 := (h5.2 id' (List.getElem?_eq_some_iff.1 hb4).1 (.inr (by omega))).trans hb4
          exact (hf1 k id' b H5 hk' hb5 q1 q2 q3 q4).low hk
theorem wret0M_s (e : Ep) (hbd : Bd e) (i n : Int) (hk : e.now % 3 = 0) (h0 : 0 < e.l0.length) (H : AH) (bn : Nat) (hbn : H[bn]? = some (some (ibox n))) :
    SC true Try.prog 28 [epv e, .i i, .fn (.func 33) [] [.ref bn 1 0 0]] H (WRes H (retireE e i n)) := by
  have hbd' := hbd
  obtain ⟨hb1, hb2⟩ := hbd'
  refine wret_s e hbd i n (cells := fun a => [.i e.now, ints e.pins, a, ints e.l1, ints e.l2, ints e.free]) (v := fun m => .arr m 1 0 e.l0.length) (Fact := fun k m H => k ≤ m ∧ H[m]? = some (some (iblk e.l0))) (xs := e.l0) (rest := fun m => [.arr m 1 0 e.l0.length, ints e.l1, ints e.l2, ints e.free]) { e with l0 := e.l0 ++ [n] } (fun _ => rfl) (fun _ => rfl) ?_ (fun H => ?_) ?_ ?_ ?_ ?_ H bn hbn
  · rintro k m H H' ⟨h1, h2⟩ hr
    exact ⟨h1, (hr.2 m (List.getElem?_eq_some_iff.1 h2).1 (.inr h1)).trans h2⟩
  · exact own0_s e hbd (clone_s e.pins (by omega)) (clone_s e.l1 (by omega)) (clone_s e.l2 (by omega)) (clone_s e.free (by omega)) h0 H
  · rintro k m H ⟨h1, h2⟩ er
    exact FrzL.tup (.cons (FrzL.agg (.cons (.le (Le.refl _)) (.cons (.le (Le.refl _)) (.cons (.acc (.inr ⟨m, _, h1, rfl, h2, rfl, rfl, rfl, fun _ _ => rfl⟩)) (.cons (.le (Le.refl _)) (.cons (.le (Le.refl _)) (.cons (.le (Le.refl _)) .nil))))))) (.cons (.le (Le.refl _)) .nil))
  · intro k id' b H hk hb q1 q2 q3 q4
    exact FrzL.tup (.cons (FrzL.agg (.cons (.le (Le.refl _)) (.cons (.le (Le.refl _)) (.cons (.acc (.inr ⟨id', b, hk, by rw [List.length_append]; rfl, hb, q1, q2, by rw [List.length_append]; exact q3, fun j hj => q4 j (by simpa using hj)⟩)) (.cons (.le (Le.refl _)) (.cons (.le (Le.refl _)) (.cons (.le (Le.refl _)) .nil))))))) (.cons (.le (Le.refl _)) .nil))
  · intro _
    rw [hk]
    rfl
  · rintro k m id bn j H0 H1 H hr ⟨f1, f2⟩ hid ⟨f3, f4⟩ ho hkid hb hn
    have hml := (List.getElem?_eq_some_iff.1 f2).1
    exact ⟨m, f1, ret0M_s e hbd hr n _ hk H id bn m hb (ho.get f4 (by simp; omega)) (by omega) hn⟩
theorem wret0E_s (e : Ep) (hbd : Bd e) (i n : Int) (hk : e.now % 3 = 0) (h0 : e.l0 = []) (H : AH) (bn : Nat) (hbn : H[bn]? = some (some (ibox n))) :
    SC true Try.prog 28 [epv e, .i i, .fn (.func 33) [] [.ref bn 1 0 0]] H (WRes H (retireE e i n)) := by
  have hbd' := hbd
  obtain ⟨hb1, hb2⟩ := hbd'
  refine wret_s e hbd i n (cells := fun a => [.i e.now, ints e.pins, a, ints e.l1, ints e.l2, ints e.free]) (v := fun _ => none0) (Fact := fun _ _ _ => True) (xs := e.l0) (rest := fun m => [none0, ints e.l1, ints e.l2, ints e.free]) { e with l0 := e.l0 ++ [n] } (fun _ => rfl) (fun _ => rfl) ?_ (fun H => ?_) ?_ ?_ ?_ ?_ H bn hbn
  · exact fun _ _ _ _ _ _ => True.intro
  · exact (ownA_s e hbd (clone_s e.pins (by omega)) (by rw [h0]; exact clone0_s) (clone_s e.l1 (by omega)) (clone_s e.l2 (by omega)) (clone_s e.free (by omega)) H).mono fun r H' h => by
      obtain ⟨h1, m, h2⟩ := h
      exact ⟨h1, m, h2, True.intro⟩
  · intro k m H _ er
    exact FrzL.tup (.cons (FrzL.agg (.cons (.le (Le.refl _)) (.cons (.le (Le.refl _)) (.cons (.le (by rw [h0]; exact le_lst (fun h => by cases h) fun i hi => by omega)) (.cons (.le (Le.refl _)) (.cons (.le (Le.refl _)) (.cons (.le (Le.refl _)) .nil))))))) (.cons (.le (Le.refl _)) .nil))
  · intro k id' b H hk hb q1 q2 q3 q4
    exact FrzL.tup (.cons (FrzL.agg (.cons (.le (Le.refl _)) (.cons (.le (Le.refl _)) (.cons (.acc (.inr ⟨id', b, hk, by rw [List.length_append]; rfl, hb, q1, q2, by rw [List.length_append]; exact q3, fun j hj => q4 j (by simpa using hj)⟩)) (.cons (.le (Le.refl _)) (.cons (.le (Le.refl _)) (.cons (.le (Le.refl _)) .nil))))))) (.cons (.le (Le.refl _)) .nil))
  · intro _
    rw [hk]
    rfl
  · intro k m id bn j H0 H1 H hr _ hid _ ho hkid hb hn
    exact ⟨id, hkid, ret0E_s e hbd hr n _ hk H id bn hb h0 hn⟩
theorem wret1M_s (e : Ep) (hbd : Bd e) (i n : Int) (hk : e.now % 3 = 1) (h0 : 0 < e.l1.length) (H : AH) (bn : Nat) (hbn : H[bn]? = some (some (ibox n))) :
    SC true Try.prog 28 [epv e, .i i, .fn (.func 33) [] [.ref bn 1 0 0]] H (WRes H (retireE e i n)) := by
  have hbd' := hbd
  obtain ⟨hb1, hb2⟩ := hbd'
  refine wret_s e hbd i n (cells := fun a => [.i e.now, ints e.pins, ints e.l0, a, ints e.l2, ints e.free]) (v := fun m => .arr m 1 0 e.l1.length) (Fact := fun k m H => k ≤ m ∧ H[m]? = some (some (iblk e.l1))) (xs := e.l1) (rest := fun m => [ints e.l0, .arr m 1 0 e.l1.length, ints e.l2, ints e.free]) { e with l1 := e.l1 ++ [n] } (fun _ => rfl) (fun _ => rfl) ?_ (fun H => ?_) ?_ ?_ ?_ ?_ H bn hbn
  · rintro k m H H' ⟨h1, h2⟩ hr
    exact ⟨h1, (hr.2 m (List.getElem?_eq_some_iff.1 h2).1 (.inr h1)).trans h2⟩
  · exact own1_s e hbd (clone_s e.pins (by omega)) (clone_s e.l0 (by omega)) (clone_s e.l2 (by omega)) (clone_s e.free (by omega)) h0 H
  · rintro k m H ⟨h1, h2⟩ er
    exact FrzL.tup (.cons (FrzL.agg (.cons (.le (Le.refl _)) (.cons (.le (Le.refl _)) (.cons (.le (Le.refl _)) (.cons (.acc (.inr ⟨m, _, h1, rfl, h2, rfl, rfl, rfl, fun _ _ => rfl⟩)) (.cons (.le (Le.refl _)) (.cons (.le (Le.refl _)) .nil))))))) (.cons (.le (Le.refl _)) .nil))
  · intro k id' b H hk hb q1 q2 q3 q4
    exact FrzL.tup (.cons (FrzL.agg (.cons (.le (Le.refl _)) (.cons (.le (Le.refl _)) (.cons (.le (Le.refl _)) (.cons (.acc (.inr ⟨id', b, hk, by rw [List.length_append]; rfl, hb, q1, q2, by rw [List.length_append]; exact q3, fun j hj => q4 j (by simpa using hj)⟩)) (.cons (.le (Le.refl _)) (.cons (.le (Le.refl _)) .nil))))))) (.cons (.le (Le.refl _)) .nil))
  · intro _
    rw [hk]
    rfl
  · rintro k m id bn j H0 H1 H hr ⟨f1, f2⟩ hid ⟨f3, f4⟩ ho hkid hb hn
    have hml := (List.getElem?_eq_some_iff.1 f2).1
    exact ⟨m, f1, ret1M_s e hbd hr n _ hk H id bn m hb (ho.get f4 (by simp; omega)) (by omega) hn⟩
theorem wret1E_s (e : Ep) (hbd : Bd e) (i n : Int) (hk : e.now % 3 = 1) (h0 : e.l1 = []) (H : AH) (bn : Nat) (hbn : H[bn]? = some (some (ibox n))) :
    SC true Try.prog 28 [epv e, .i i, .fn (.func 33) [] [.ref bn 1 0 0]] H (WRes H (retireE e i n)) := by
  have hbd' := hbd
  obtain ⟨hb1, hb2⟩ := hbd'
  refine wret_s e hbd i n (cells := fun a => [.i e.now, ints e.pins, ints e.l0, a, ints e.l2, ints e.free]) (v := fun _ => none0) (Fact := fun _ _ _ => True) (xs := e.l1) (rest := fun m => [ints e.l0, none0, ints e.l2, ints e.free]) { e with l1 := e.l1 ++ [n] } (fun _ => rfl) (fun _ => rfl) ?_ (fun H => ?_) ?_ ?_ ?_ ?_ H bn hbn
  · exact fun _ _ _ _ _ _ => True.intro
  · exact (ownA_s e hbd (clone_s e.pins (by omega)) (clone_s e.l0 (by omega)) (by rw [h0]; exact clone0_s) (clone_s e.l2 (by omega)) (clone_s e.free (by omega)) H).mono fun r H' h => by
      obtain ⟨h1, m, h2⟩ := h
      exact ⟨h1, m, h2, True.intro⟩
  · intro k m H _ er
    exact FrzL.tup (.cons (FrzL.agg (.cons (.le (Le.refl _)) (.cons (.le (Le.refl _)) (.cons (.le (Le.refl _)) (.cons (.le (by rw [h0]; exact le_lst (fun h => by cases h) fun i hi => by omega)) (.cons (.le (Le.refl _)) (.cons (.le (Le.refl _)) .nil))))))) (.cons (.le (Le.refl _)) .nil))
  · intro k id' b H hk hb q1 q2 q3 q4
    exact FrzL.tup (.cons (FrzL.agg (.cons (.le (Le.refl _)) (.cons (.le (Le.refl _)) (.cons (.le (Le.refl _)) (.cons (.acc (.inr ⟨id', b, hk, by rw [List.length_append]; rfl, hb, q1, q2, by rw [List.length_append]; exact q3, fun j hj => q4 j (by simpa using hj)⟩)) (.cons (.le (Le.refl _)) (.cons (.le (Le.refl _)) .nil))))))) (.cons (.le (Le.refl _)) .nil))
  · intro _
    rw [hk]
    rfl
  · intro k m id bn j H0 H1 H hr _ hid _ ho hkid hb hn
    exact ⟨id, hkid, ret1E_s e hbd hr n _ hk H id bn hb h0 hn⟩
theorem wret2M_s (e : Ep) (hbd : Bd e) (i n : Int) (hk : e.now % 3 = 2) (h0 : 0 < e.l2.length) (H : AH) (bn : Nat) (hbn : H[bn]? = some (some (ibox n))) :
    SC true Try.prog 28 [epv e, .i i, .fn (.func 33) [] [.ref bn 1 0 0]] H (WRes H (retireE e i n)) := by
  have hbd' := hbd
  obtain ⟨hb1, hb2⟩ := hbd'
  refine wret_s e hbd i n (cells := fun a => [.i e.now, ints e.pins, ints e.l0, ints e.l1, a, ints e.free]) (v := fun m => .arr m 1 0 e.l2.length) (Fact := fun k m H => k ≤ m ∧ H[m]? = some (some (iblk e.l2))) (xs := e.l2) (rest := fun m => [ints e.l0, ints e.l1, .arr m 1 0 e.l2.length, ints e.free]) { e with l2 := e.l2 ++ [n] } (fun _ => rfl) (fun _ => rfl) ?_ (fun H => ?_) ?_ ?_ ?_ ?_ H bn hbn
  · rintro k m H H' ⟨h1, h2⟩ hr
    exact ⟨h1, (hr.2 m (List.getElem?_eq_some_iff.1 h2).1 (.inr h1)).trans h2⟩
  · exact own2_s e hbd (clone_s e.pins (by omega)) (clone_s e.l0 (by omega)) (clone_s e.l1 (by omega)) (clone_s e.free (by omega)) h0 H
  · rintro k m H ⟨h1, h2⟩ er
    exact FrzL.tup (.cons (FrzL.agg (.cons (.le (Le.refl _)) (.cons (.le (Le.refl _)) (.cons (.le (Le.refl _)) (.cons (.le (Le.refl _)) (.cons (.acc (.inr ⟨m, _, h1, rfl, h2, rfl, rfl, rfl, fun _ _ => rfl⟩)) (.cons (.le (Le.refl _)) .nil))))))) (.cons (.le (Le.refl _)) .nil))
  · intro k id' b H hk hb q1 q2 q3 q4
    exact FrzL.tup (.cons (FrzL.agg (.cons (.le (Le.refl _)) (.cons (.le (Le.refl _)) (.cons (.le (Le.refl _)) (.cons (.le (Le.refl _)) (.cons (.acc (.inr ⟨id', b, hk, by rw [List.length_append]; rfl, hb, q1, q2, by rw [List.length_append]; exact q3, fun j hj => q4 j (by simpa using hj)⟩)) (.cons (.le (Le.refl _)) .nil))))))) (.cons (.le (Le.refl _)) .nil))
  · intro _
    rw [hk]
    rfl
  · rintro k m id bn j H0 H1 H hr ⟨f1, f2⟩ hid ⟨f3, f4⟩ ho hkid hb hn
    have hml := (List.getElem?_eq_some_iff.1 f2).1
    exact ⟨m, f1, ret2M_s e hbd hr n _ hk H id bn m hb (ho.get f4 (by simp; omega)) (by omega) hn⟩
theorem wret2E_s (e : Ep) (hbd : Bd e) (i n : Int) (hk : e.now % 3 = 2) (h0 : e.l2 = []) (H : AH) (bn : Nat) (hbn : H[bn]? = some (some (ibox n))) :
    SC true Try.prog 28 [epv e, .i i, .fn (.func 33) [] [.ref bn 1 0 0]] H (WRes H (retireE e i n)) := by
  have hbd' := hbd
  obtain ⟨hb1, hb2⟩ := hbd'
  refine wret_s e hbd i n (cells := fun a => [.i e.now, ints e.pins, ints e.l0, ints e.l1, a, ints e.free]) (v := fun _ => none0) (Fact := fun _ _ _ => True) (xs := e.l2) (rest := fun m => [ints e.l0, ints e.l1, none0, ints e.free]) { e with l2 := e.l2 ++ [n] } (fun _ => rfl) (fun _ => rfl) ?_ (fun H => ?_) ?_ ?_ ?_ ?_ H bn hbn
  · exact fun _ _ _ _ _ _ => True.intro
  · exact (ownA_s e hbd (clone_s e.pins (by omega)) (clone_s e.l0 (by omega)) (clone_s e.l1 (by omega)) (by rw [h0]; exact clone0_s) (clone_s e.free (by omega)) H).mono fun r H' h => by
      obtain ⟨h1, m, h2⟩ := h
      exact ⟨h1, m, h2, True.intro⟩
  · intro k m H _ er
    exact FrzL.tup (.cons (FrzL.agg (.cons (.le (Le.refl _)) (.cons (.le (Le.refl _)) (.cons (.le (Le.refl _)) (.cons (.le (Le.refl _)) (.cons (.le (by rw [h0]; exact le_lst (fun h => by cases h) fun i hi => by omega)) (.cons (.le (Le.refl _)) .nil))))))) (.cons (.le (Le.refl _)) .nil))
  · intro k id' b H hk hb q1 q2 q3 q4
    exact FrzL.tup (.cons (FrzL.agg (.cons (.le (Le.refl _)) (.cons (.le (Le.refl _)) (.cons (.le (Le.refl _)) (.cons (.le (Le.refl _)) (.cons (.acc (.inr ⟨id', b, hk, by rw [List.length_append]; rfl, hb, q1, q2, by rw [List.length_append]; exact q3, fun j hj => q4 j (by simpa using hj)⟩)) (.cons (.le (Le.refl _)) .nil))))))) (.cons (.le (Le.refl _)) .nil))
  · intro _
    rw [hk]
    rfl
  · intro k m id bn j H0 H1 H hr _ hid _ ho hkid hb hn
    exact ⟨id, hkid, ret2E_s e hbd hr n _ hk H id bn hb h0 hn⟩
theorem wretA_s (e : Ep) (hbd : Bd e) (i n : Int) (H : AH) (bn : Nat) (hbn : H[bn]? = some (some (ibox n))) :
    SC true Try.prog 28 [epv e, .i i, .fn (.func 33) [] [.ref bn 1 0 0]] H (WRes H (retireE e i n)) := by
  have h3 : e.now % 3 = 0 ∨ e.now % 3 = 1 ∨ e.now % 3 = 2 := by omega
  rcases h3 with h | h | h
  · rcases Nat.eq_zero_or_pos e.l0.length with h0 | h0
    · exact wret0E_s e hbd i n h (List.eq_nil_of_length_eq_zero h0) H bn hbn
    · exact wret0M_s e hbd i n h h0 H bn hbn
  · rcases Nat.eq_zero_or_pos e.l1.length with h0 | h0
    · exact wret1E_s e hbd i n h (List.eq_nil_of_length_eq_zero h0) H bn hbn
    · exact wret1M_s e hbd i n h h0 H bn hbn
  · rcases Nat.eq_zero_or_pos e.l2.length with h0 | h0
    · exact wret2E_s e hbd i n h (List.eq_nil_of_length_eq_zero h0) H bn hbn
    · exact wret2M_s e hbd i n h h0 H bn hbn
theorem retire_s (e : Ep) (hbd : Bd e) (i n : Int) : PS Try.prog 18 [epv e, .i i, .i n] (eres (retireE e i n)) := by
  refine ps_frz (cl_eres _) fun H => ?_
  refine sc_in TYok Try.func18 (by kernel_rfl) Try.ntmps18 rfl rfl rfl ?_
  refine aw_seq ?_
  refine aw_region ?_
  refine nw fun H1 hb1 ho1 hl1 => ?_
  refine nw fun H2 hb2 ho2 hl2 => ?_
  refine nw fun H3 hb3 ho3 hl3 => ?_
  have hb13 := ho3.get0 (ho2.get0 hb1)
  have hb23 := ho3.get0 hb2
  have hW := wretA_s e hbd i n H3 H1.length hb23
  (repeat' (first | (refine sq_id ?_; first | refine sq_nil ?_ | refine sm ?_ | refine sa ?_ | refine ss ?_ | refine st ?_ | refine sf ?_ | refine sp ?_ | refine sq ?_ | refine sl ?_ | refine si ?_ | refine sx ?_ | refine sy ?_) | (refine rg_id ?_; first | refine rg_fin ?_ | refine rm ?_ | refine ra ?_ | refine rs ?_ | refine rt ?_ | refine rf ?_ | refine rp ?_ | refine rq ?_ | refine rl ?_ | refine ri ?_ | refine rx ?_ | refine ry ?_) | refine aw_rseq ?_ | refine aw_seq ?_ | refine aw_region ?_ | refine aw_skip ?_ | refine ct ?_ | refine cf ?_ | refine d0s ?_ | refine d0r ?_ | refine aw_block ?_ | refine aw_exit ?_ | refine then_ret ?_ | refine then_exit ?_ | refine then_normal ?_ | refine blk_ret ?_ | refine blk_normal ?_ | refine blk_exit ?_ | refine blk_pass rfl ?_))
  refine sq_call rfl rfl rfl (LeL.refl _) (hW.mono fun r H4 he => ?_)
  obtain ⟨cs', er, rfl, hcl, ho4, hfz⟩ := he
  have hb34 := ho4.get0 hb3
  (repeat' (first | (refine sq_id ?_; first | refine sq_nil ?_ | refine sm ?_ | refine sa ?_ | refine ss ?_ | refine st ?_ | refine sf ?_ | refine sp ?_ | refine sq ?_ | refine sl ?_ | refine si ?_ | refine sx ?_ | refine sy ?_) | (refine rg_id ?_; first | refine rg_fin ?_ | refine rm ?_ | refine ra ?_ | refine rs ?_ | refine rt ?_ | refine rf ?_ | refine rp ?_ | refine rq ?_ | refine rl ?_ | refine ri ?_ | refine rx ?_ | refine ry ?_) | refine aw_rseq ?_ | refine aw_seq ?_ | refine aw_region ?_ | refine aw_skip ?_ | refine ct ?_ | refine cf ?_ | refine d0s ?_ | refine d0r ?_ | refine aw_block ?_ | refine aw_exit ?_ | refine then_ret ?_ | refine then_exit ?_ | refine then_normal ?_ | refine blk_ret ?_ | refine blk_normal ?_ | refine blk_exit ?_ | refine blk_pass rfl ?_))
  refine sq_storek TYok rfl rfl rfl hb34 rfl Nat.zero_lt_one rfl rfl hcl (by rw [hcl]; exact Nat.le_refl 6) fun H5 hb5 ho5 hl5 => ?_
  (repeat' (first | (refine sq_id ?_; first | refine sq_nil ?_ | refine sm ?_ | refine sa ?_ | refine ss ?_ | refine st ?_ | refine sf ?_ | refine sp ?_ | refine sq ?_ | refine sl ?_ | refine si ?_ | refine sx ?_ | refine sy ?_) | (refine rg_id ?_; first | refine rg_fin ?_ | refine rm ?_ | refine ra ?_ | refine rs ?_ | refine rt ?_ | refine rf ?_ | refine rp ?_ | refine rq ?_ | refine rl ?_ | refine ri ?_ | refine rx ?_ | refine ry ?_) | refine aw_rseq ?_ | refine aw_seq ?_ | refine aw_region ?_ | refine aw_skip ?_ | refine ct ?_ | refine cf ?_ | refine d0s ?_ | refine d0r ?_ | refine aw_block ?_ | refine aw_exit ?_ | refine then_ret ?_ | refine then_exit ?_ | refine then_normal ?_ | refine blk_ret ?_ | refine blk_normal ?_ | refine blk_exit ?_ | refine blk_pass rfl ?_ | refine aw_dec rfl (fun _ => ?_) (fun _ => ?_)))
  ((try refine aw_ret ?_); (repeat (first | refine then_ret ?_ | refine blk_ret ?_)))
  exact ⟨True.intro, _, .cell _ _ _ _ _ _ _ _ _ rfl hb5 rfl Nat.zero_lt_one (by show apart TY _ (splice _ 0 cs') = _; rw [splice_all (by rw [hcl]; rfl)]; exact apart_ep cs' hcl) (.tmp _ _ _ .nil), ((((ho1.trans0 ho2).trans0 ho3).trans0 ho4).new ho5 (by omega)).ext, (hfz H5 (ho5.rest (Nat.zero_le _) (by omega))).low (by omega)⟩
end Go.Proofs.Ytmhepmocnnlhnaa.Ab
