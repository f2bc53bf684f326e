/- epoch.Pin, epoch.Unpin. -/
import Derived.Test.YtmhepmocnnlhnaaQI
namespace Go.Proofs.Ytmhepmocnnlhnaa.Ab
open Go Go.RowKit
abbrev eres (r : Ep × Int) : AV := .tup [epv r.1, .i r.2]
theorem cl_eres (r : Ep × Int) : Cl (eres r) := .tup _ fun x hx => by
  simp only [List.mem_cons, List.not_mem_nil, or_false] at hx
  rcases hx with rfl | rfl
  · exact cl_epv _
  · exact .p _
/-- what a change of a pin comes to: er0: the error by what the pin is, nv: what it is then -/
def pinop (er0 : Int → Int) (nv : Int) (e : Ep) (i : Int) : Ep × Int :=
  if RightE e ∧ 0 ≤ i ∧ i < e.pins.length then (if er0 (e.pins.getD i.toNat 0) = 0 then ({ e with pins := e.pins.set i.toNat nv }, 0) else (e, er0 (e.pins.getD i.toNat 0))) else (e, 1)
theorem Frz.low {k k0 : Nat} {H : AH} {a b : AV} (h : Frz k H a b) (hk : k0 ≤ k) : Frz k0 H a b := by
  induction h with
  | le h => exact .le h
  | acc h => exact .acc (h.low hk)
  | agg h _ ih => exact .agg h ih
  | tup h _ ih => exact .tup h ih
abbrev cellsP (e : Ep) (m : Nat) : List AV := [.i e.now, .arr m 1 0 e.pins.length, ints e.l0, ints e.l1, ints e.l2, ints e.free]
theorem frzP (e : Ep) {k m : Nat} {H : AH} (er : Int) (hk : k ≤ m) {xs : List Int} (hl : xs.length = e.pins.length) (hm : H[m]? = some (some (iblk xs))) : Frz k H (.tup [.agg (cellsP e m), .i er]) (eres ({ e with pins := xs }, er)) :=
  FrzL.tup (.cons (FrzL.agg (.cons (.le (Le.refl _)) (.cons (.acc (.inr ⟨m, _, hk, by rw [hl], hm, rfl, rfl, rfl, fun _ _ => rfl⟩)) (.cons (.le (Le.refl _)) (.cons (.le (Le.refl _)) (.cons (.le (Le.refl _)) (.cons (.le (Le.refl _)) .nil))))))) (.cons (.le (Le.refl _)) .nil))
/-- what comes back: epochs, an error; what was there is there -/
def WRes (H : AH) (tgt : Ep × Int) (r : AV) (H' : AH) : Prop := ∃ cs' er, r = .tup [.agg cs', .i er] ∧ cs'.length = 6 ∧ Oth H H' none ∧ ∀ H5, Rest 0 H.length H' H5 → Frz H.length H5 r (eres tgt)
theorem WRes.same {H H' : AH} {e : Ep} {er : Int} (ho : Oth H H' none) : WRes H (e, er) (.tup [epv e, .i er]) H' := ⟨_, er, rfl, rfl, ho, fun _ _ => .le (Le.refl _)⟩
theorem wpin_s (e : Ep) (hbd : Bd e) (i : Int) (er0 : Int → Int) (nv : Int) {g : FuncId}
    (hclo : ∀ (H : AH) (id m j : Nat) (rest : List AV), H[id]? = some (some (ebk (.i e.now :: rest))) → H[m]? = some (some (iblk e.pins)) → j < e.pins.length → nodeP e.now → SC true Try.prog g [.ref id 6 0 0, .ref m 1 j 0] H (fun r H' =>
      (er0 (e.pins.getD j 0) ≠ 0 ∧ r = .i (er0 (e.pins.getD j 0)) ∧ H' = H) ∨ (er0 (e.pins.getD j 0) = 0 ∧ r = .i 0 ∧ H'[m]? = some (some (iblk (e.pins.set j nv))) ∧ Oth H H' (some m)))) (H : AH) :
    SC true Try.prog 28 [epv e, .i i, .fn (.func g) [] []] H (WRes H (pinop er0 nv e i)) := by
  have hbd' := hbd
  obtain ⟨hb1, hb2⟩ := hbd'
  by_cases hp : 0 < e.pins.length
  · refine worker_s e hbd i (cells := cellsP e) (Fact := fun k m H => k ≤ m ∧ H[m]? = some (some (iblk e.pins))) (fun _ => rfl) ?_ (fun H => ownP_s e hbd (clone_s e.l0 (by omega)) (clone_s e.l1 (by omega)) (clone_s e.l2 (by omega)) (clone_s e.free (by omega)) hp H) H _ ?_ ?_
    · rintro k m H H' ⟨h1, h2⟩ hr
      exact ⟨h1, (hr.2 m (List.getElem?_eq_some_iff.1 h2).1 (.inr h1)).trans h2⟩
    · intro hr k m H' ho hk hF
      have e1 : pinop er0 nv e i = (e, 1) := if_neg fun k => hr k.1
      rw [e1]
      exact ⟨_, 1, rfl, rfl, ho, fun H5 h5 => frzP e 1 (by omega) rfl ((h5.2 m (List.getElem?_eq_some_iff.1 hF.2).1 (.inr (by omega))).trans hF.2)⟩
    · intro hr k id m bi bd H0 H1 ho hk hkid hid hF0 hF hbx hbi hbd hbi' hbd'
      have hm0 := (List.getElem?_eq_some_iff.1 hF0.2).1
      have hol := ho.1
      have hidl : id < H1.length := by
        obtain ⟨b, hb, _⟩ := hbx
        exact (List.getElem?_eq_some_iff.1 hb).1
      refine worker1P_s e.now i H1 _ hbx hbi' hbd' (by omega) (by omega) ?_ ?_
      · intro hout H2 hb2 ho2
        have e1 : pinop er0 nv e i = (e, 1) := if_neg fun k => hout k.2
        rw [e1]
        refine ⟨1, rfl, ho2.1, fun j hj hj2 => ho2.2 j (by omega) (by simp; omega), fun _ H3 h3 => .same ⟨by have := h3.1; have := ho2.1; omega, fun j hj _ => ?_⟩, fun h => absurd h (by decide)⟩
        rw [h3.2 j (by have := ho2.1; omega) (.inl hj), ho2.2 j (by omega) (by simp; omega), ho.2 j hj (by simp)]
      · intro j hij hj H2 hb2 ho2
        subst hij
        have hol2 := ho2.1
        have hm2 := ho2.get hF.2 (by simp; omega)
        refine (hclo H2 id m j _ hb2 hm2 hj hr.1).mono fun r H3 he => ?_
        rcases he with ⟨h0, rfl, rfl⟩ | ⟨h0, rfl, hm3, ho3⟩
        · have e1 : pinop er0 nv e j = (e, er0 (e.pins.getD j 0)) := by
            unfold pinop
            rw [if_pos ⟨hr, by omega, by omega⟩, Int.toNat_natCast, if_neg h0]
          rw [e1]
          refine ⟨_, rfl, by omega, fun x hx hx2 => ho2.2 x (by omega) (by simp; omega), fun _ H4 h4 => .same ⟨by have := h4.1; omega, fun x hx _ => ?_⟩, fun h => absurd h h0⟩
          rw [h4.2 x (by omega) (.inl hx), ho2.2 x (by omega) (by simp; omega), ho.2 x hx (by simp)]
        · have e1 : pinop er0 nv e j = ({ e with pins := e.pins.set j nv }, 0) := by
            unfold pinop
            rw [if_pos ⟨hr, by omega, by omega⟩, Int.toNat_natCast, if_pos h0]
          rw [e1]
          have hol3 := ho3.1
          refine ⟨0, rfl, by omega, fun x hx hx2 => ?_, fun h => absurd rfl h, fun _ => ⟨cellsP e m, rfl, ⟨_, (ho3.2 id (by omega) (by simp; omega)).trans hb2, rfl, rfl, rfl, rfl⟩, fun H4 h4 => ⟨_, 0, rfl, rfl, ⟨by have := h4.1; omega, fun x hx _ => ?_⟩, fun H5 h5 => ?_⟩⟩⟩
          · rw [ho3.2 x (by omega) (by simp; omega), ho2.2 x (by omega) (by simp; omega)]
          · rw [h4.2 x (by omega) (.inl hx), ho3.2 x (by omega) (by simp; omega), ho2.2 x (by omega) (by simp; omega), ho.2 x hx (by simp)]
          · have hm4 := (h4.2 m (List.getElem?_eq_some_iff.1 hm3).1 (.inr hF.1)).trans hm3
            exact frzP e 0 (by have := hF.1; omega) (by simp) ((h5.2 m (List.getElem?_eq_some_iff.1 hm4).1 (.inr (by have := hF.1; omega))).trans hm4)
  · have hr : ¬ RightE e := fun k => by have := k.2.1.1; omega
    have e1 : pinop er0 nv e i = (e, 1) := if_neg fun k => hr k.1
    rw [e1]
    refine worker_s e hbd i (cells := fun _ => epc e) (Fact := fun _ _ _ => True) (fun _ => rfl) (fun _ _ _ _ _ _ => True.intro) (fun H => (ownF_s e hbd H).mono fun r H' h => ⟨by rw [h.2]; exact ⟨Nat.le_refl _, fun _ _ _ => rfl⟩, 0, h.1, True.intro⟩) H _ ?_ ?_
    · intro _ k m H' ho hk _
      exact .same ho
    · intro h
      exact absurd h hr
theorem put_int (xs : List Int) (j : Nat) (v : Int) (hj : j < xs.length) (i : Nat) : ((iblk xs).put (badd 0 j) 0 [.i v]).g i = [.i ((xs.set j v).getD i 0)] := by
  show (bif Nat.beq i j then splice [.i (xs.getD i 0)] 0 [.i v] else [.i (xs.getD i 0)]) = _
  rw [List.getD_eq_getElem?_getD, List.getD_eq_getElem?_getD, List.getElem?_set]
  by_cases h : j = i
  · subst h; rw [if_pos rfl, if_pos hj, show Nat.beq j j = true from Nat.beq_refl j]; rfl
  · rw [if_neg h, show Nat.beq i j = false from by rw [Bool.eq_false_iff]; intro e; exact h (Nat.eq_of_beq_eq_true e).symm]; rfl
theorem pin1_s (now : Int) (pins : List Int) (hn : nodeP now) (H : AH) (id m j : Nat) (rest : List AV) (hb : H[id]? = some (some (ebk (.i now :: rest)))) (hm : H[m]? = some (some (iblk pins))) (hj : j < pins.length) :
    SC true Try.prog 29 [.ref id 6 0 0, .ref m 1 j 0] H (fun r H' => ((if pins.getD j 0 = 0 then 0 else 41 : Int) ≠ 0 ∧ r = .i (if pins.getD j 0 = 0 then 0 else 41) ∧ H' = H) ∨ ((if pins.getD j 0 = 0 then 0 else 41 : Int) = 0 ∧ r = .i 0 ∧ H'[m]? = some (some (iblk (pins.set j (now + 1)))) ∧ Oth H H' (some m))) := by
  refine sc_in TYok Try.func29 (by kernel_rfl) Try.ntmps29 rfl rfl rfl ?_
  obtain ⟨n0, n1⟩ := hn
  by_cases h : pins.getD j 0 = 0
  · have h' : pins.getD (badd 0 j) 0 = 0 := h
    rw [if_pos h]
    (repeat' (first | (refine sq_id ?_; first | refine sq_nil ?_ | refine sm ?_ | refine sa ?_ | refine ss ?_ | refine st ?_ | refine sf ?_ | refine sp ?_ | refine sq ?_ | refine sl ?_ | refine si ?_ | refine sx ?_ | refine sy ?_) | (refine rg_id ?_; first | refine rg_fin ?_ | refine rm ?_ | refine ra ?_ | refine rs ?_ | refine rt ?_ | refine rf ?_ | refine rp ?_ | refine rq ?_ | refine rl ?_ | refine ri ?_ | refine rx ?_ | refine ry ?_) | refine aw_rseq ?_ | refine aw_seq ?_ | refine aw_region ?_ | refine aw_skip ?_ | refine ct ?_ | refine cf ?_ | refine d0s ?_ | refine d0r ?_ | refine aw_block ?_ | refine aw_exit ?_ | refine then_ret ?_ | refine then_exit ?_ | refine then_normal ?_ | refine blk_ret ?_ | refine blk_normal ?_ | refine blk_exit ?_ | refine blk_pass rfl ?_))
    refine sq_storek TYok rfl rfl rfl hm rfl (by show j < pins.length; exact hj) rfl rfl rfl (Nat.le_of_ble_eq_true rfl) fun H2 hb2 ho2 hl2 => ?_
    (repeat' (first | (refine sq_id ?_; first | refine sq_nil ?_ | refine sm ?_ | refine sa ?_ | refine ss ?_ | refine st ?_ | refine sf ?_ | refine sp ?_ | refine sq ?_ | refine sl ?_ | refine si ?_ | refine sx ?_ | refine sy ?_) | (refine rg_id ?_; first | refine rg_fin ?_ | refine rm ?_ | refine ra ?_ | refine rs ?_ | refine rt ?_ | refine rf ?_ | refine rp ?_ | refine rq ?_ | refine rl ?_ | refine ri ?_ | refine rx ?_ | refine ry ?_) | refine aw_rseq ?_ | refine aw_seq ?_ | refine aw_region ?_ | refine aw_skip ?_ | refine ct ?_ | refine cf ?_ | refine d0s ?_ | refine d0r ?_ | refine aw_block ?_ | refine aw_exit ?_ | refine then_ret ?_ | refine then_exit ?_ | refine then_normal ?_ | refine blk_ret ?_ | refine blk_normal ?_ | refine blk_exit ?_ | refine blk_pass rfl ?_ | refine aw_dec rfl (fun _ => ?_) (fun _ => ?_)))
    refine aw_norm m (iblk (pins.set j (now + 1))) hb2 rfl rfl (by show (List.set _ _ _).length = pins.length; rw [List.length_set]) (fun i _ => put_int pins j _ hj i) fun H3 hb3 ho3 hl3 => ?_
    ((try refine aw_ret ?_); (repeat (first | refine then_ret ?_ | refine blk_ret ?_)); refine fin_t True.intro rfl rfl ?_)
    exact .inr ⟨rfl, rfl, hb3, ho2.app ho3 (.inl rfl)⟩
  · have h' : ¬ pins.getD (badd 0 j) 0 = 0 := h
    rw [if_neg h]
    (repeat' (first | (refine sq_id ?_; first | refine sq_nil ?_ | refine sm ?_ | refine sa ?_ | refine ss ?_ | refine st ?_ | refine sf ?_ | refine sp ?_ | refine sq ?_ | refine sl ?_ | refine si ?_ | refine sx ?_ | refine sy ?_) | (refine rg_id ?_; first | refine rg_fin ?_ | refine rm ?_ | refine ra ?_ | refine rs ?_ | refine rt ?_ | refine rf ?_ | refine rp ?_ | refine rq ?_ | refine rl ?_ | refine ri ?_ | refine rx ?_ | refine ry ?_) | refine aw_rseq ?_ | refine aw_seq ?_ | refine aw_region ?_ | refine aw_skip ?_ | refine ct ?_ | refine cf ?_ | refine d0s ?_ | refine d0r ?_ | refine aw_block ?_ | refine aw_exit ?_ | refine then_ret ?_ | refine then_exit ?_ | refine then_normal ?_ | refine blk_ret ?_ | refine blk_normal ?_ | refine blk_exit ?_ | refine blk_pass rfl ?_))
    ((try refine aw_ret ?_); (repeat (first | refine then_ret ?_ | refine blk_ret ?_)); refine fin_t True.intro rfl rfl ?_)
    exact .inl ⟨by decide, rfl, rfl⟩
theorem unpin1_s (now : Int) (pins : List Int) (H : AH) (id m j : Nat) (rest : List AV) (hb : H[id]? = some (some (ebk (.i now :: rest)))) (hm : H[m]? = some (some (iblk pins))) (hj : j < pins.length) :
    SC true Try.prog 32 [.ref id 6 0 0, .ref m 1 j 0] H (fun r H' => ((if pins.getD j 0 = 0 then 42 else 0 : Int) ≠ 0 ∧ r = .i (if pins.getD j 0 = 0 then 42 else 0) ∧ H' = H) ∨ ((if pins.getD j 0 = 0 then 42 else 0 : Int) = 0 ∧ r = .i 0 ∧ H'[m]? = some (some (iblk (pins.set j 0))) ∧ Oth H H' (some m))) := by
  refine sc_in TYok Try.func32 (by kernel_rfl) Try.ntmps32 rfl rfl rfl ?_
  by_cases h : pins.getD j 0 = 0
  · have h' : pins.getD (badd 0 j) 0 = 0 := h
    rw [if_pos h]
    (repeat' (first | (refine sq_id ?_; first | refine sq_nil ?_ | refine sm ?_ | refine sa ?_ | refine ss ?_ | refine st ?_ | refine sf ?_ | refine sp ?_ | refine sq ?_ | refine sl ?_ | refine si ?_ | refine sx ?_ | refine sy ?_) | (refine rg_id ?_; first | refine rg_fin ?_ | refine rm ?_ | refine ra ?_ | refine rs ?_ | refine rt ?_ | refine rf ?_ | refine rp ?_ | refine rq ?_ | refine rl ?_ | refine ri ?_ | refine rx ?_ | refine ry ?_) | refine aw_rseq ?_ | refine aw_seq ?_ | refine aw_region ?_ | refine aw_skip ?_ | refine ct ?_ | refine cf ?_ | refine d0s ?_ | refine d0r ?_ | refine aw_block ?_ | refine aw_exit ?_ | refine then_ret ?_ | refine then_exit ?_ | refine then_normal ?_ | refine blk_ret ?_ | refine blk_normal ?_ | refine blk_exit ?_ | refine blk_pass rfl ?_))
    ((try refine aw_ret ?_); (repeat (first | refine then_ret ?_ | refine blk_ret ?_)); refine fin_t True.intro rfl rfl ?_)
    exact .inl ⟨by decide, rfl, rfl⟩
  · have h' : ¬ pins.getD (badd 0 j) 0 = 0 := h
    rw [if_neg h]
    (repeat' (first | (refine sq_id ?_; first | refine sq_nil ?_ | refine sm ?_ | refine sa ?_ | refine ss ?_ | refine st ?_ | refine sf ?_ | refine sp ?_ | refine sq ?_ | refine sl ?_ | refine si ?_ | refine sx ?_ | refine sy ?_) | (refine rg_id ?_; first | refine rg_fin ?_ | refine rm ?_ | refine ra ?_ | refine rs ?_ | refine rt ?_ | refine rf ?_ | refine rp ?_ | refine rq ?_ | refine rl ?_ | refine ri ?_ | refine rx ?_ | refine ry ?_) | refine aw_rseq ?_ | refine aw_seq ?_ | refine aw_region ?_ | refine aw_skip ?_ | refine ct ?_ | refine cf ?_ | refine d0s ?_ | refine d0r ?_ | refine aw_block ?_ | refine aw_exit ?_ | refine then_ret ?_ | refine then_exit ?_ | refine then_normal ?_ | refine blk_ret ?_ | refine blk_normal ?_ | refine blk_exit ?_ | refine blk_pass rfl ?_))
    refine sq_storek TYok rfl rfl rfl hm rfl (by show j < pins.length; exact hj) rfl rfl rfl (Nat.le_of_ble_eq_true rfl) fun H2 hb2 ho2 hl2 => ?_
    (repeat' (first | (refine sq_id ?_; first | refine sq_nil ?_ | refine sm ?_ | refine sa ?_ | refine ss ?_ | refine st ?_ | refine sf ?_ | refine sp ?_ | refine sq ?_ | refine sl ?_ | refine si ?_ | refine sx ?_ | refine sy ?_) | (refine rg_id ?_; first | refine rg_fin ?_ | refine rm ?_ | refine ra ?_ | refine rs ?_ | refine rt ?_ | refine rf ?_ | refine rp ?_ | refine rq ?_ | refine rl ?_ | refine ri ?_ | refine rx ?_ | refine ry ?_) | refine aw_rseq ?_ | refine aw_seq ?_ | refine aw_region ?_ | refine aw_skip ?_ | refine ct ?_ | refine cf ?_ | refine d0s ?_ | refine d0r ?_ | refine aw_block ?_ | refine aw_exit ?_ | refine then_ret ?_ | refine then_exit ?_ | refine then_normal ?_ | refine blk_ret ?_ | refine blk_normal ?_ | refine blk_exit ?_ | refine blk_pass rfl ?_ | refine aw_dec rfl (fun _ => ?_) (fun _ => ?_)))
    refine aw_norm m (iblk (pins.set j 0)) hb2 rfl rfl (by show (List.set _ _ _).length = pins.length; rw [List.length_set]) (fun i _ => put_int pins j _ hj i) fun H3 hb3 ho3 hl3 => ?_
    ((try refine aw_ret ?_); (repeat (first | refine then_ret ?_ | refine blk_ret ?_)); refine fin_t True.intro rfl rfl ?_)
    exact .inr ⟨rfl, rfl, hb3, ho2.app ho3 (.inl rfl)⟩
def pinE (e : Ep) (i : Int) : Ep × Int := pinop (fun p => if p = 0 then 0 else 41) (e.now + 1) e i
def unpinE (e : Ep) (i : Int) : Ep × Int := pinop (fun p => if p = 0 then 42 else 0) 0 e i
theorem pin_s (e : Ep) (hbd : Bd e) (i : Int) : PS Try.prog 14 [epv e, .i i] (eres (pinE e i)) := by
  refine ps_frz (cl_eres _) fun H => ?_
  have hW := wpin_s e hbd i (fun p => if p = 0 then 0 else 41) (e.now + 1) (g := 29) fun H id m j rest hb hm hj hn => pin1_s e.now e.pins hn H id m j rest hb hm hj
  refine sc_in TYok Try.func14 (by kernel_rfl) Try.ntmps14 rfl rfl rfl ?_
  refine aw_seq ?_
  refine aw_region ?_
  refine nw fun H1 hb1 ho1 hl1 => ?_
  refine nw fun H2 hb2 ho2 hl2 => ?_
  have hb12 := ho2.get0 hb1
  (repeat' (first | (refine sq_id ?_; first | refine sq_nil ?_ | refine sm ?_ | refine sa ?_ | refine ss ?_ | refine st ?_ | refine sf ?_ | refine sp ?_ | refine sq ?_ | refine sl ?_ | refine si ?_ | refine sx ?_ | refine sy ?_) | (refine rg_id ?_; first | refine rg_fin ?_ | refine rm ?_ | refine ra ?_ | refine rs ?_ | refine rt ?_ | refine rf ?_ | refine rp ?_ | refine rq ?_ | refine rl ?_ | refine ri ?_ | refine rx ?_ | refine ry ?_) | refine aw_rseq ?_ | refine aw_seq ?_ | refine aw_region ?_ | refine aw_skip ?_ | refine ct ?_ | refine cf ?_ | refine d0s ?_ | refine d0r ?_ | refine aw_block ?_ | refine aw_exit ?_ | refine then_ret ?_ | refine then_exit ?_ | refine then_normal ?_ | refine blk_ret ?_ | refine blk_normal ?_ | refine blk_exit ?_ | refine blk_pass rfl ?_))
  refine sq_call rfl rfl rfl (LeL.refl _) ((hW H2).mono fun r H3 he => ?_)
  obtain ⟨cs', er, rfl, hcl, ho3, hfz⟩ := he
  have hb23 := ho3.get0 hb2
  (repeat' (first | (refine sq_id ?_; first | refine sq_nil ?_ | refine sm ?_ | refine sa ?_ | refine ss ?_ | refine st ?_ | refine sf ?_ | refine sp ?_ | refine sq ?_ | refine sl ?_ | refine si ?_ | refine sx ?_ | refine sy ?_) | (refine rg_id ?_; first | refine rg_fin ?_ | refine rm ?_ | refine ra ?_ | refine rs ?_ | refine rt ?_ | refine rf ?_ | refine rp ?_ | refine rq ?_ | refine rl ?_ | refine ri ?_ | refine rx ?_ | refine ry ?_) | refine aw_rseq ?_ | refine aw_seq ?_ | refine aw_region ?_ | refine aw_skip ?_ | refine ct ?_ | refine cf ?_ | refine d0s ?_ | refine d0r ?_ | refine aw_block ?_ | refine aw_exit ?_ | refine then_ret ?_ | refine then_exit ?_ | refine then_normal ?_ | refine blk_ret ?_ | refine blk_normal ?_ | refine blk_exit ?_ | refine blk_pass rfl ?_))
  refine sq_storek TYok rfl rfl rfl hb23 rfl Nat.zero_lt_one rfl rfl hcl (by rw [hcl]; exact Nat.le_refl 6) fun H4 hb4 ho4 hl4 => ?_
  (repeat' (first | (refine sq_id ?_; first | refine sq_nil ?_ | refine sm ?_ | refine sa ?_ | refine ss ?_ | refine st ?_ | refine sf ?_ | refine sp ?_ | refine sq ?_ | refine sl ?_ | refine si ?_ | refine sx ?_ | refine sy ?_) | (refine rg_id ?_; first | refine rg_fin ?_ | refine rm ?_ | refine ra ?_ | refine rs ?_ | refine rt ?_ | refine rf ?_ | refine rp ?_ | refine rq ?_ | refine rl ?_ | refine ri ?_ | refine rx ?_ | refine ry ?_) | refine aw_rseq ?_ | refine aw_seq ?_ | refine aw_region ?_ | refine aw_skip ?_ | refine ct ?_ | refine cf ?_ | refine d0s ?_ | refine d0r ?_ | refine aw_block ?_ | refine aw_exit ?_ | refine then_ret ?_ | refine then_exit ?_ | refine then_normal ?_ | refine blk_ret ?_ | refine blk_normal ?_ | refine blk_exit ?_ | refine blk_pass rfl ?_ | refine aw_dec rfl (fun _ => ?_) (fun _ => ?_)))
  ((try refine aw_ret ?_); (repeat (first | refine then_ret ?_ | refine blk_ret ?_)))
  exact ⟨True.intro, _, .cell _ _ _ _ _ _ _ _ _ rfl hb4 rfl Nat.zero_lt_one (by show apart TY _ (splice _ 0 cs') = _; rw [splice_all (by rw [hcl]; rfl)]; exact apart_ep cs' hcl) (.tmp _ _ _ .nil), (((ho1.trans0 ho2).trans0 ho3).new ho4 (by omega)).ext, (hfz H4 (ho4.rest (Nat.zero_le _) (by omega))).low (by omega)⟩
theorem unpin_s (e : Ep) (hbd : Bd e) (i : Int) : PS Try.prog 16 [epv e, .i i] (eres (unpinE e i)) := by
  refine ps_frz (cl_eres _) fun H => ?_
  have hW := wpin_s e hbd i (fun p => if p = 0 then 42 else 0) 0 (g := 32) fun H id m j rest hb hm hj _ => unpin1_s e.now e.pins H id m j rest hb hm hj
  refine sc_in TYok Try.func16 (by kernel_rfl) Try.ntmps16 rfl rfl rfl ?_
  refine aw_seq ?_
  refine aw_region ?_
  refine nw fun H1 hb1 ho1 hl1 => ?_
  refine nw fun H2 hb2 ho2 hl2 => ?_
  have hb12 := ho2.get0 hb1
  (repeat' (first | (refine sq_id ?_; first | refine sq_nil ?_ | refine sm ?_ | refine sa ?_ | refine ss ?_ | refine st ?_ | refine sf ?_ | refine sp ?_ | refine sq ?_ | refine sl ?_ | refine si ?_ | refine sx ?_ | refine sy ?_) | (refine rg_id ?_; first | refine rg_fin ?_ | refine rm ?_ | refine ra ?_ | refine rs ?_ | refine rt ?_ | refine rf ?_ | refine rp ?_ | refine rq ?_ | refine rl ?_ | refine ri ?_ | refine rx ?_ | refine ry ?_) | refine aw_rseq ?_ | refine aw_seq ?_ | refine aw_region ?_ | refine aw_skip ?_ | refine ct ?_ | refine cf ?_ | refine d0s ?_ | refine d0r ?_ | refine aw_block ?_ | refine aw_exit ?_ | refine then_ret ?_ | refine then_exit ?_ | refine then_normal ?_ | refine blk_ret ?_ | refine blk_normal ?_ | refine blk_exit ?_ | refine blk_pass rfl ?_))
  refine sq_call rfl rfl rfl (LeL.refl _) ((hW H2).mono fun r H3 he => ?_)
  obtain ⟨cs', er, rfl, hcl, ho3, hfz⟩ := he
  have hb23 := ho3.get0 hb2
  (repeat' (first | (refine sq_id ?_; first | refine sq_nil ?_ | refine sm ?_ | refine sa ?_ | refine ss ?_ | refine st ?_ | refine sf ?_ | refine sp ?_ | refine sq ?_ | refine sl ?_ | refine si ?_ | refine sx ?_ | refine sy ?_) | (refine rg_id ?_; first | refine rg_fin ?_ | refine rm ?_ | refine ra ?_ | refine rs ?_ | refine rt ?_ | refine rf ?_ | refine rp ?_ | refine rq ?_ | refine rl ?_ | refine ri ?_ | refine rx ?_ | refine ry ?_) | refine aw_rseq ?_ | refine aw_seq ?_ | refine aw_region ?_ | refine aw_skip ?_ | refine ct ?_ | refine cf ?_ | refine d0s ?_ | refine d0r ?_ | refine aw_block ?_ | refine aw_exit ?_ | refine then_ret ?_ | refine then_exit ?_ | refine then_normal ?_ | refine blk_ret ?_ | refine blk_normal ?_ | refine blk_exit ?_ | refine blk_pass rfl ?_))
  refine sq_storek TYok rfl rfl rfl hb23 rfl Nat.zero_lt_one rfl rfl hcl (by rw [hcl]; exact Nat.le_refl 6) fun H4 hb4 ho4 hl4 => ?_
  (repeat' (first | (refine sq_id ?_; first | refine sq_nil ?_ | refine sm ?_ | refine sa ?_ | refine ss ?_ | refine st ?_ | refine sf ?_ | refine sp ?_ | refine sq ?_ | refine sl ?_ | refine si ?_ | refine sx ?_ | refine sy ?_) | (refine rg_id ?_; first | refine rg_fin ?_ | refine rm ?_ | refine ra ?_ | refine rs ?_ | refine rt ?_ | refine rf ?_ | refine rp ?_ | refine rq ?_ | refine rl ?_ | refine ri ?_ | refine rx ?_ | refine ry ?_) | refine aw_rseq ?_ | refine aw_seq ?_ | refine aw_region ?_ | refine aw_skip ?_ | refine ct ?_ | refine cf ?_ | refine d0s ?_ | refine d0r ?_ | refine aw_block ?_ | refine aw_exit ?_ | refine then_ret ?_ | refine then_exit ?_ | refine then_normal ?_ | refine blk_ret ?_ | refine blk_normal ?_ | refine blk_exit ?_ | refine blk_pass rfl ?_ | refine aw_dec rfl (fun _ => ?_) (fun _ => ?_)))
  ((try refine aw_ret ?_); (repeat (first | refine then_ret ?_ | refine blk_ret ?_)))
  exact ⟨True.intro, _, .cell _ _ _ _ _ _ _ _ _ rfl hb4 rfl Nat.zero_lt_one (by show apart TY _ (splice _ 0 cs') = _; rw [splice_all (by rw [hcl]; rfl)]; exact apart_ep cs' hcl) (.tmp _ _ _ .nil), (((ho1.trans0 ho2).trans0 ho3).new ho4 (by omega)).ext, (hfz H4 (ho4.rest (Nat.zero_le _) (by omega))).low (by omega)⟩
end Go.Proofs.Ytmhepmocnnlhnaa.Ab
