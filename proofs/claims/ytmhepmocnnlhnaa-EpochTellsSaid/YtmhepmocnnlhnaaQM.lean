/- epoch.Advance: its closure. -/
import Derived.Test.YtmhepmocnnlhnaaQL
namespace Go.Proofs.Ytmhepmocnnlhnaa.Ab
open Go Go.RowKit
abbrev pbox (v : AV) : Blk := ⟨52, 1, 1, fun _ => [v]⟩
abbrev bbox (b : Bool) : Blk := ⟨4, 1, 1, fun _ => [.b b]⟩
/-- a block of one cell -/
def IsOne (H : AH) (id : Nat) (t : TypeId) (v : AV) : Prop := ∃ b, H[id]? = some (some b) ∧ b.ety = t ∧ b.sz = 1 ∧ b.n = 1 ∧ b.g 0 = [v]
def behindB (e : Ep) : Bool := e.pins.any fun p => decide (p ≠ 0 ∧ p ≠ e.now + 1)
def blockedB (e : Ep) : Bool := behindB e || decide (e.now = 1099511627776)
theorem behind_s (x now : Int) (hn : nodeP now) {id id2 : Nat} {rest : List AV} (H : AH) (hb : H[id]? = some (some (ebk (.i now :: rest)))) (h2 : H[id2]? = some (some (pbox (.ref id 6 0 0)))) :
    SC true Try.prog 41 [.i x, .ref id2 1 0 0] H (fun r H' => r = .b (decide (x ≠ 0 ∧ x ≠ now + 1)) ∧ H' = H) := by
  refine sc_in TYok Try.func41 (by kernel_rfl) Try.ntmps41 rfl rfl rfl ?_
  obtain ⟨n0, n1⟩ := hn
  by_cases h : x = 0
  · rw [decide_eq_false (fun k => k.1 h)]
    (repeat' (first | (refine sq_id ?_; first | refine sq_nil ?_ | refine sm ?_ | refine sa ?_ | refine ss ?_ | refine st ?_ | refine sf ?_ | refine sp ?_ | refine sq ?_ | refine sl ?_ | refine si ?_ | refine sx ?_ | refine sy ?_) | (refine rg_id ?_; first | refine rg_fin ?_ | refine rm ?_ | refine ra ?_ | refine rs ?_ | refine rt ?_ | refine rf ?_ | refine rp ?_ | refine rq ?_ | refine rl ?_ | refine ri ?_ | refine rx ?_ | refine ry ?_) | refine aw_rseq ?_ | refine aw_seq ?_ | refine aw_region ?_ | refine aw_skip ?_ | refine ct ?_ | refine cf ?_ | refine d0s ?_ | refine d0r ?_ | refine aw_block ?_ | refine aw_exit ?_ | refine then_ret ?_ | refine then_exit ?_ | refine then_normal ?_ | refine blk_ret ?_ | refine blk_normal ?_ | refine blk_exit ?_ | refine blk_pass rfl ?_))
    ((try refine aw_ret ?_); (repeat (first | refine then_ret ?_ | refine blk_ret ?_)); refine fin_t True.intro rfl rfl ?_)
    exact ⟨rfl, rfl⟩
  · by_cases h3 : x = now + 1
    · rw [decide_eq_false (fun k => k.2 h3)]
      (repeat' (first | (refine sq_id ?_; first | refine sq_nil ?_ | refine sm ?_ | refine sa ?_ | refine ss ?_ | refine st ?_ | refine sf ?_ | refine sp ?_ | refine sq ?_ | refine sl ?_ | refine si ?_ | refine sx ?_ | refine sy ?_) | (refine rg_id ?_; first | refine rg_fin ?_ | refine rm ?_ | refine ra ?_ | refine rs ?_ | refine rt ?_ | refine rf ?_ | refine rp ?_ | refine rq ?_ | refine rl ?_ | refine ri ?_ | refine rx ?_ | refine ry ?_) | refine aw_rseq ?_ | refine aw_seq ?_ | refine aw_region ?_ | refine aw_skip ?_ | refine ct ?_ | refine cf ?_ | refine d0s ?_ | refine d0r ?_ | refine aw_block ?_ | refine aw_exit ?_ | refine then_ret ?_ | refine then_exit ?_ | refine then_normal ?_ | refine blk_ret ?_ | refine blk_normal ?_ | refine blk_exit ?_ | refine blk_pass rfl ?_))
      ((try refine aw_ret ?_); (repeat (first | refine then_ret ?_ | refine blk_ret ?_)); refine fin_t True.intro rfl rfl ?_)
      exact ⟨rfl, rfl⟩
    · rw [decide_eq_true ⟨h, h3⟩]
      (repeat' (first | (refine sq_id ?_; first | refine sq_nil ?_ | refine sm ?_ | refine sa ?_ | refine ss ?_ | refine st ?_ | refine sf ?_ | refine sp ?_ | refine sq ?_ | refine sl ?_ | refine si ?_ | refine sx ?_ | refine sy ?_) | (refine rg_id ?_; first | refine rg_fin ?_ | refine rm ?_ | refine ra ?_ | refine rs ?_ | refine rt ?_ | refine rf ?_ | refine rp ?_ | refine rq ?_ | refine rl ?_ | refine ri ?_ | refine rx ?_ | refine ry ?_) | refine aw_rseq ?_ | refine aw_seq ?_ | refine aw_region ?_ | refine aw_skip ?_ | refine ct ?_ | refine cf ?_ | refine d0s ?_ | refine d0r ?_ | refine aw_block ?_ | refine aw_exit ?_ | refine then_ret ?_ | refine then_exit ?_ | refine then_normal ?_ | refine blk_ret ?_ | refine blk_normal ?_ | refine blk_exit ?_ | refine blk_pass rfl ?_))
      ((try refine aw_ret ?_); (repeat (first | refine then_ret ?_ | refine blk_ret ?_)); refine fin_t True.intro rfl rfl ?_)
      exact ⟨rfl, rfl⟩
/-- it may stand for a list, once frozen -/
def FzL (H : AH) (v : AV) (xs : List Int) : Prop := ∀ k0 H5, (∀ id, accId v = some id → k0 ≤ id ∧ H5[id]? = H[id]?) → Frz k0 H5 v (ints xs)
theorem fzL_le {H : AH} {v : AV} {xs : List Int} (h : Le v (ints xs)) : FzL H v xs := fun _ _ _ => .le h
theorem fzL_arr {H : AH} {id n : Nat} {b : Blk} {xs : List Int} (hb : H[id]? = some (some b)) (h1 : b.ety = 3) (h2 : b.sz = 1) (h3 : b.n = n) (hn : n = xs.length) (h4 : ∀ j, j < n → b.g j = [.i (xs.getD j 0)]) : FzL H (.arr id 1 0 n) xs := fun k0 H5 h => by
  obtain ⟨hk, he⟩ := h id rfl
  subst hn
  exact .acc (.inr ⟨id, b, hk, rfl, he.trans hb, h1, h2, h3, h4⟩)
theorem FzL.keep {H H' : AH} {v : AV} {xs : List Int} (h : FzL H v xs) (hk : ∀ id, accId v = some id → H'[id]? = H[id]?) : FzL H' v xs := fun k0 H5 h5 => h k0 H5 fun id hi => ⟨(h5 id hi).1, (h5 id hi).2.trans (hk id hi)⟩
theorem le_copy (xs : List Int) (n : Nat) (g : Nat → List AV) (hn : n = xs.length) (hg : ∀ i, i < n → g i = [.i (xs.getD i 0)]) : Le (.lst false 1 n g) (ints xs) := le_lst' hn (fun h => h) hg
def AdvPost (e : Ep) (H : AH) (id bis m : Nat) (cells : AV → List AV) (xs : List Int) (r : AV) (H' : AH) : Prop :=
  r = .i 0 ∧ ((blockedB e = true ∧ Oth H H' none) ∨ (blockedB e = false ∧ ∃ vf, IsBox H' id (cells vf) ∧ FzL H' vf (e.free ++ xs) ∧ (∀ id', accId vf = some id' → (id' = m ∨ H.length ≤ id') ∧ id' < H'.length) ∧ IsOne H' bis 4 (.b true) ∧ H.length ≤ H'.length ∧ ∀ x, x < H.length → x ≠ id → x ≠ m → x ≠ bis → H'[x]? = H[x]?))
set_option maxHeartbeats 4000000 in
theorem adv0M_s (e : Ep) (hbd : Bd e) (hr : RightE e) (hk : (e.now + 2) % 3 = 0) (H : AH) (id bis : Nat) (m : Nat) (hb : H[id]? = some (some (ebk [.i e.now, ints e.pins, ints e.l0, ints e.l1, ints e.l2, .arr m 1 0 e.free.length]))) (hm : H[m]? = some (some (iblk e.free))) (hne : m ≠ id) (hsm : bis ≠ m) (hf0 : 0 < e.free.length) (hs : H[bis]? = some (some (bbox false))) (hsi : bis ≠ id) :
    SC true Try.prog 40 [.ref id 6 0 0, .ref bis 1 0 0] H (AdvPost e H id bis m (fun v => [.i (e.now + 1), ints e.pins, .p (.slice none 0 0), ints e.l1, ints e.l2, v]) e.l0) := by
  obtain ⟨hb1, hb2⟩ := hbd
  have hk2 : (e.now + 1 + 1) % 3 = 0 := by omega
  have hr' := hr
  obtain ⟨hnP, _⟩ := hr'
  have hnP' := hnP
  obtain ⟨n0, n1⟩ := hnP'
  have hil := (List.getElem?_eq_some_iff.1 hb).1
  have hsl := (List.getElem?_eq_some_iff.1 hs).1
  have hml := (List.getElem?_eq_some_iff.1 hm).1
  refine sc_in TYok Try.func40 (by kernel_rfl) Try.ntmps40 rfl rfl rfl ?_
  refine aw_seq ?_
  refine aw_region ?_
  refine nw fun H1 hp1 ho1 hl1 => ?_
  have hbb := ho1.get0 hb
  have hss := ho1.get0 hs
  have hmm := ho1.get0 hm
  have hcf := containsfunc_s e.pins 41 [.ref H.length 1 0 0] (fun p => decide (p ≠ 0 ∧ p ≠ e.now + 1)) (by omega) H1 (.lst false e.pins) (fun x hx => behind_s x e.now hnP H1 hbb hp1)
  (repeat' (first | (refine sq_id ?_; first | refine sq_nil ?_ | refine sm ?_ | refine sa ?_ | refine ss ?_ | refine st ?_ | refine sf ?_ | refine sp ?_ | refine sq ?_ | refine sl ?_ | refine si ?_ | refine sx ?_ | refine sy ?_) | (refine rg_id ?_; first | refine rg_fin ?_ | refine rm ?_ | refine ra ?_ | refine rs ?_ | refine rt ?_ | refine rf ?_ | refine rp ?_ | refine rq ?_ | refine rl ?_ | refine ri ?_ | refine rx ?_ | refine ry ?_) | refine aw_rseq ?_ | refine aw_seq ?_ | refine aw_region ?_ | refine aw_skip ?_ | refine ct ?_ | refine cf ?_ | refine d0s ?_ | refine d0r ?_ | refine aw_block ?_ | refine aw_exit ?_ | refine then_ret ?_ | refine then_exit ?_ | refine then_normal ?_ | refine blk_ret ?_ | refine blk_normal ?_ | refine blk_exit ?_ | refine blk_pass rfl ?_))
  refine sq_call rfl rfl rfl (LeL.refl _) (hcf.mono fun r H2 he => ?_)
  obtain ⟨rfl, rfl⟩ := he
  cases hB : e.pins.any fun p => decide (p ≠ 0 ∧ p ≠ e.now + 1)
  · by_cases hx : e.now = 1099511627776
    · (repeat' (first | (refine sq_id ?_; first | refine sq_nil ?_ | refine sm ?_ | refine sa ?_ | refine ss ?_ | refine st ?_ | refine sf ?_ | refine sp ?_ | refine sq ?_ | refine sl ?_ | refine si ?_ | refine sx ?_ | refine sy ?_) | (refine rg_id ?_; first | refine rg_fin ?_ | refine rm ?_ | refine ra ?_ | refine rs ?_ | refine rt ?_ | refine rf ?_ | refine rp ?_ | refine rq ?_ | refine rl ?_ | refine ri ?_ | refine rx ?_ | refine ry ?_) | refine aw_rseq ?_ | refine aw_seq ?_ | refine aw_region ?_ | refine aw_skip ?_ | refine ct ?_ | refine cf ?_ | refine d0s ?_ | refine d0r ?_ | refine aw_block ?_ | refine aw_exit ?_ | refine then_ret ?_ | refine then_exit ?_ | refine then_normal ?_ | refine blk_ret ?_ | refine blk_normal ?_ | refine blk_exit ?_ | refine blk_pass rfl ?_))
      ((try refine aw_ret ?_); (repeat (first | refine then_ret ?_ | refine blk_ret ?_)); refine fin_t True.intro rfl rfl ?_)
      exact ⟨rfl, .inl ⟨by unfold blockedB behindB; rw [hB, decide_eq_true hx]; rfl, ho1⟩⟩
    · have hbl : blockedB e = false := by unfold blockedB behindB; rw [hB, decide_eq_false hx]; rfl
      (repeat' (first | (refine sq_id ?_; first | refine sq_nil ?_ | refine sm ?_ | refine sa ?_ | refine ss ?_ | refine st ?_ | refine sf ?_ | refine sp ?_ | refine sq ?_ | refine sl ?_ | refine si ?_ | refine sx ?_ | refine sy ?_) | (refine rg_id ?_; first | refine rg_fin ?_ | refine rm ?_ | refine ra ?_ | refine rs ?_ | refine rt ?_ | refine rf ?_ | refine rp ?_ | refine rq ?_ | refine rl ?_ | refine ri ?_ | refine rx ?_ | refine ry ?_) | refine aw_rseq ?_ | refine aw_seq ?_ | refine aw_region ?_ | refine aw_skip ?_ | refine ct ?_ | refine cf ?_ | refine d0s ?_ | refine d0r ?_ | refine aw_block ?_ | refine aw_exit ?_ | refine then_ret ?_ | refine then_exit ?_ | refine then_normal ?_ | refine blk_ret ?_ | refine blk_normal ?_ | refine blk_exit ?_ | refine blk_pass rfl ?_))
      refine sw hss fun H3 hs3 ho3 hl3 => ?_
      have hb3 := ho3.get hbb (by simp; omega)
      have hp3 := ho3.get hp1 (by simp; omega)
      have hm3 := ho3.get hmm (by simp; omega)
      (repeat' (first | (refine sq_id ?_; first | refine sq_nil ?_ | refine sm ?_ | refine sa ?_ | refine ss ?_ | refine st ?_ | refine sf ?_ | refine sp ?_ | refine sq ?_ | refine sl ?_ | refine si ?_ | refine sx ?_ | refine sy ?_) | (refine rg_id ?_; first | refine rg_fin ?_ | refine rm ?_ | refine ra ?_ | refine rs ?_ | refine rt ?_ | refine rf ?_ | refine rp ?_ | refine rq ?_ | refine rl ?_ | refine ri ?_ | refine rx ?_ | refine ry ?_) | refine aw_rseq ?_ | refine aw_seq ?_ | refine aw_region ?_ | refine aw_skip ?_ | refine ct ?_ | refine cf ?_ | refine d0s ?_ | refine d0r ?_ | refine aw_block ?_ | refine aw_exit ?_ | refine then_ret ?_ | refine then_exit ?_ | refine then_normal ?_ | refine blk_ret ?_ | refine blk_normal ?_ | refine blk_exit ?_ | refine blk_pass rfl ?_))
      refine sw hb3 fun H4 hb4 ho4 hl4 => ?_
      have hs4 := ho4.get hs3 (by simp; omega)
      have hp4 := ho4.get hp3 (by simp; omega)
      have hm4 := ho4.get hm3 (by simp; omega)
      refine sq_nil ?_
      refine aw_norm id (ebk [.i (e.now + 1), ints e.pins, ints e.l0, ints e.l1, ints e.l2, .arr m 1 0 e.free.length]) hb4 rfl rfl rfl (one_of rfl rfl) fun H5 hb5 ho5 hl5 => ?_
      have hs5 := ho5.get hs4 (by simp; omega)
      have hp5 := ho5.get hp4 (by simp; omega)
      have hm5 := ho5.get hm4 (by simp; omega)
      have hlen5 : H5.length = H.length + 1 := by omega
      have hbn := nil_at hb5
      have hpn := nil_at hp5
      refine aw_seq ?_
      refine d0r ?_
      (repeat' (first | (refine sq_id ?_; first | refine rg_remk TYok TYz rfl rfl rfl rfl sd hk2 ?_ | refine sq_nil ?_ | refine sm ?_ | refine sa ?_ | refine ss ?_ | refine st ?_ | refine sf ?_ | refine sp ?_ | refine sq ?_ | refine sl ?_ | refine si ?_ | refine sx ?_ | refine sy ?_) | (refine rg_id ?_; first | refine rg_remk TYok TYz rfl rfl rfl rfl sd hk2 ?_ | refine rg_fin ?_ | refine rm ?_ | refine ra ?_ | refine rs ?_ | refine rt ?_ | refine rf ?_ | refine rp ?_ | refine rq ?_ | refine rl ?_ | refine ri ?_ | refine rx ?_ | refine ry ?_)))
      refine then_normal ?_
      refine aw_seq ?_
      have hlen5' : (H5 ++ []).length = H.length + 1 := by simp; omega
      refine aw_mid [] (fun _ : Unit => []) (fun _ H' => ∃ vf, IsBox H' id [.i (e.now + 1), ints e.pins, .p (.slice none 0 0), ints e.l1, ints e.l2, vf] ∧ FzL H' vf (e.free ++ e.l0) ∧ (∀ id', accId vf = some id' → (id' = m ∨ H.length ≤ id') ∧ id' < H'.length) ∧ IsOne H' bis 4 (.b true) ∧ (H5 ++ []).length ≤ H'.length ∧ ∀ x, x < (H5 ++ []).length → x ≠ id → x ≠ m → H'[x]? = (H5 ++ [])[x]?) ?_ ?_
      ·
        have hmn := nil_at hm5
        have fin : ∀ (id' : Nat) (b' : Blk) (H6 H7 H8 : AH), H6[id']? = some (some b') → b'.ety = 3 → b'.sz = 1 → b'.n = e.free.length + e.l0.length → (∀ j, j < e.free.length + e.l0.length → b'.g j = if j < e.free.length then [.i (e.free.getD j 0)] else [.i (e.l0.getD (j - e.free.length) 0)]) → Oth (H5 ++ []) H6 (some m) → (id' = m ∨ H.length ≤ id') → id' ≠ id → Oth H6 H7 (some id) → Oth H7 H8 (some id) → IsBox H8 id [.i (e.now + 1), ints e.pins, .p (.slice none 0 0), ints e.l1, ints e.l2, .arr id' 1 0 (e.free.length + e.l0.length)] → ∃ vf, IsBox H8 id [.i (e.now + 1), ints e.pins, .p (.slice none 0 0), ints e.l1, ints e.l2, vf] ∧ FzL H8 vf (e.free ++ e.l0) ∧ (∀ id', accId vf = some id' → (id' = m ∨ H.length ≤ id') ∧ id' < H8.length) ∧ IsOne H8 bis 4 (.b true) ∧ (H5 ++ []).length ≤ H8.length ∧ ∀ x, x < (H5 ++ []).length → x ≠ id → x ≠ m → H8[x]? = (H5 ++ [])[x]? := by
          intro id' b' H6 H7 H8 hb' q1 q2 q3 q4 ho6 hid7 hni ho7 ho8 hbx
          exact ⟨_, hbx, fzL_arr (ho8.get (ho7.get hb' (by simp; omega)) (by simp; omega)) q1 q2 q3 (by rw [List.length_append]) (fun j hj => (q4 j hj).trans (app_cell e.free e.l0 j)), (fun i hi => by cases hi; exact ⟨hid7, Nat.lt_of_lt_of_le (List.getElem?_eq_some_iff.1 hb').1 (Nat.le_trans ho7.1 ho8.1)⟩), ⟨_, ho8.get (ho7.get (ho6.get (nil_at hs5) (by simp; omega)) (by simp; omega)) (by simp; omega), rfl, rfl, rfl, rfl⟩, Nat.le_trans ho6.1 (Nat.le_trans ho7.1 ho8.1), fun x hx x1 x2 => by rw [ho8.2 x (Nat.lt_of_lt_of_le hx (Nat.le_trans ho6.1 ho7.1)) (by simp; omega), ho7.2 x (Nat.lt_of_lt_of_le hx ho6.1) (by simp; omega), ho6.2 x hx (by simp; omega)]⟩
        refine yall 15 ?_
        refine ye 1 ?_
        refine sm ?_
        refine sq_nil ?_
        refine ye 6 ?_
        refine sm ?_
        refine sq_nil ?_
        refine ye 7 ?_
        refine sp ?_
        refine sq_nil ?_
        refine y3 0 2 8 ?_ ?_ ?_
        first | refine sl ?_ | refine sq_load TYok rfl rfl rfl (ho6.get hpn (by simp; omega)) (by rfl) Nat.zero_lt_one (by rfl) ?_
        refine sq_nil ?_
        refine y2 2 8 ?_ ?_
        refine sl ?_
        refine sq_nil ?_
        refine ye 3 ?_
        refine sp ?_
        refine sq_nil ?_
        refine ye 4 ?_
        refine sp ?_
        refine sq_nil ?_
        refine y2 5 8 ?_ ?_
        refine sl ?_
        refine sq_nil ?_
        refine y1 8 ?_
        refine sl ?_
        refine sq_nil ?_
        refine y1 9 ?_
        refine sq_appa TYok TYz rfl rfl rfl rfl rfl rfl rfl (by decide) (.inr ⟨m, _, Nat.zero_le _, rfl, hmn, rfl, rfl, rfl, fun _ _ => rfl⟩) (.lst _ _ _ _) (by omega) (by show (e.free.length + e.l0.length) * 8 ≤ _; omega) (by show e.free.length + e.l0.length ≤ _; omega) fun id' b' H6 hb' q1 q2 q3 q4 ho6 hi6 => ?_
        have hid7 : id' = m ∨ (H5 ++ []).length ≤ id' := hi6.elim (fun h => .inl (Option.some.inj h)) .inr
        have ho6 : Oth (H5 ++ []) H6 (some m) := ho6
        refine sq_nil ?_
        refine ye 10 ?_
        refine sp ?_
        refine sq_nil ?_
        refine ye 11 ?_
        refine sp ?_
        refine sq_nil ?_
        refine y1 12 ?_
        refine sw (ho6.get hbn (by simp; omega)) fun H7 hb7 ho7 hl7 => ?_
        refine sq_nil ?_
        refine ye 13 ?_
        refine sp ?_
        refine sq_nil ?_
        refine y1 14 ?_
        refine sw hb7 fun H8 hb8 ho8 hl8 => ?_
        refine sq_nil ?_
        refine yd ?_
        exact then_normal ⟨(), _, by rw [rstf_eq]; rfl, .refl _, fin _ _ _ _ _ hb' q1 q2 q3 q4 ho6 (by omega) (by omega) ho7 ho8 ⟨_, hb8, rfl, rfl, rfl, rfl⟩⟩
        refine sl ?_
        refine sq_nil ?_
        refine y1 5 ?_
        refine sl ?_
        refine sq_nil ?_
        refine y1 9 ?_
        refine sq_appa TYok TYz rfl rfl rfl rfl rfl rfl rfl (by decide) (.inr ⟨m, _, Nat.zero_le _, rfl, hmn, rfl, rfl, rfl, fun _ _ => rfl⟩) (.lst _ _ _ _) (by omega) (by show (e.free.length + e.l0.length) * 8 ≤ _; omega) (by show e.free.length + e.l0.length ≤ _; omega) fun id' b' H6 hb' q1 q2 q3 q4 ho6 hi6 => ?_
        have hid7 : id' = m ∨ (H5 ++ []).length ≤ id' := hi6.elim (fun h => .inl (Option.some.inj h)) .inr
        have ho6 : Oth (H5 ++ []) H6 (some m) := ho6
        refine sq_nil ?_
        refine ye 10 ?_
        refine sp ?_
        refine sq_nil ?_
        refine ye 11 ?_
        refine sp ?_
        refine sq_nil ?_
        refine y1 12 ?_
        refine sw (ho6.get hbn (by simp; omega)) fun H7 hb7 ho7 hl7 => ?_
        refine sq_nil ?_
        refine ye 13 ?_
        refine sp ?_
        refine sq_nil ?_
        refine y1 14 ?_
        refine sw hb7 fun H8 hb8 ho8 hl8 => ?_
        refine sq_nil ?_
        refine yd ?_
        exact then_normal ⟨(), _, by rw [rstf_eq]; rfl, .refl _, fin _ _ _ _ _ hb' q1 q2 q3 q4 ho6 (by omega) (by omega) ho7 ho8 ⟨_, hb8, rfl, rfl, rfl, rfl⟩⟩
        refine sl ?_
        refine sq_nil ?_
        refine y1 2 ?_
        refine sl ?_
        refine sq_nil ?_
        refine ye 3 ?_
        refine sp ?_
        refine sq_nil ?_
        refine ye 4 ?_
        refine sp ?_
        refine sq_nil ?_
        refine y1 5 ?_
        refine sl ?_
        refine sq_nil ?_
        refine y1 9 ?_
        refine sq_appa TYok TYz rfl rfl rfl rfl rfl rfl rfl (by decide) (.inr ⟨m, _, Nat.zero_le _, rfl, hmn, rfl, rfl, rfl, fun _ _ => rfl⟩) (.lst _ _ _ _) (by omega) (by show (e.free.length + e.l0.length) * 8 ≤ _; omega) (by show e.free.length + e.l0.length ≤ _; omega) fun id' b' H6 hb' q1 q2 q3 q4 ho6 hi6 => ?_
        have hid7 : id' = m ∨ (H5 ++ []).length ≤ id' := hi6.elim (fun h => .inl (Option.some.inj h)) .inr
        have ho6 : Oth (H5 ++ []) H6 (some m) := ho6
        refine sq_nil ?_
        refine ye 10 ?_
        refine sp ?_
        refine sq_nil ?_
        refine ye 11 ?_
        refine sp ?_
        refine sq_nil ?_
        refine y1 12 ?_
        refine sw (ho6.get hbn (by simp; omega)) fun H7 hb7 ho7 hl7 => ?_
        refine sq_nil ?_
        refine ye 13 ?_
        refine sp ?_
        refine sq_nil ?_
        refine y1 14 ?_
        refine sw hb7 fun H8 hb8 ho8 hl8 => ?_
        refine sq_nil ?_
        refine yd ?_
        exact then_normal ⟨(), _, by rw [rstf_eq]; rfl, .refl _, fin _ _ _ _ _ hb' q1 q2 q3 q4 ho6 (by omega) (by omega) ho7 ho8 ⟨_, hb8, rfl, rfl, rfl, rfl⟩⟩
        refine sl ?_
        refine sq_nil ?_
        refine ye 3 ?_
        refine sp ?_
        refine sq_nil ?_
        refine ye 4 ?_
        refine sp ?_
        refine sq_nil ?_
        refine y3 0 5 8 ?_ ?_ ?_
        first | refine sl ?_ | refine sq_load TYok rfl rfl rfl (ho6.get hpn (by simp; omega)) (by rfl) Nat.zero_lt_one (by rfl) ?_
        refine sq_nil ?_
        refine y2 5 8 ?_ ?_
        refine sl ?_
        refine sq_nil ?_
        refine y1 8 ?_
        refine sl ?_
        refine sq_nil ?_
        refine y1 9 ?_
        refine sq_appa TYok TYz rfl rfl rfl rfl rfl rfl rfl (by decide) (.inr ⟨m, _, Nat.zero_le _, rfl, hmn, rfl, rfl, rfl, fun _ _ => rfl⟩) (.lst _ _ _ _) (by omega) (by show (e.free.length + e.l0.length) * 8 ≤ _; omega) (by show e.free.length + e.l0.length ≤ _; omega) fun id' b' H6 hb' q1 q2 q3 q4 ho6 hi6 => ?_
        have hid7 : id' = m ∨ (H5 ++ []).length ≤ id' := hi6.elim (fun h => .inl (Option.some.inj h)) .inr
        have ho6 : Oth (H5 ++ []) H6 (some m) := ho6
        refine sq_nil ?_
        refine ye 10 ?_
        refine sp ?_
        refine sq_nil ?_
        refine ye 11 ?_
        refine sp ?_
        refine sq_nil ?_
        refine y1 12 ?_
        refine sw (ho6.get hbn (by simp; omega)) fun H7 hb7 ho7 hl7 => ?_
        refine sq_nil ?_
        refine ye 13 ?_
        refine sp ?_
        refine sq_nil ?_
        refine y1 14 ?_
        refine sw hb7 fun H8 hb8 ho8 hl8 => ?_
        refine sq_nil ?_
        refine yd ?_
        exact then_normal ⟨(), _, by rw [rstf_eq]; rfl, .refl _, fin _ _ _ _ _ hb' q1 q2 q3 q4 ho6 (by omega) (by omega) ho7 ho8 ⟨_, hb8, rfl, rfl, rfl, rfl⟩⟩
        refine sl ?_
        refine sq_nil ?_
        refine y1 5 ?_
        refine sl ?_
        refine sq_nil ?_
        refine y1 9 ?_
        refine sq_appa TYok TYz rfl rfl rfl rfl rfl rfl rfl (by decide) (.inr ⟨m, _, Nat.zero_le _, rfl, hmn, rfl, rfl, rfl, fun _ _ => rfl⟩) (.lst _ _ _ _) (by omega) (by show (e.free.length + e.l0.length) * 8 ≤ _; omega) (by show e.free.length + e.l0.length ≤ _; omega) fun id' b' H6 hb' q1 q2 q3 q4 ho6 hi6 => ?_
        have hid7 : id' = m ∨ (H5 ++ []).length ≤ id' := hi6.elim (fun h => .inl (Option.some.inj h)) .inr
        have ho6 : Oth (H5 ++ []) H6 (some m) := ho6
        refine sq_nil ?_
        refine ye 10 ?_
        refine sp ?_
        refine sq_nil ?_
        refine ye 11 ?_
        refine sp ?_
        refine sq_nil ?_
        refine y1 12 ?_
        refine sw (ho6.get hbn (by simp; omega)) fun H7 hb7 ho7 hl7 => ?_
        refine sq_nil ?_
        refine ye 13 ?_
        refine sp ?_
        refine sq_nil ?_
        refine y1 14 ?_
        refine sw hb7 fun H8 hb8 ho8 hl8 => ?_
        refine sq_nil ?_
        refine yd ?_
        exact then_normal ⟨(), _, by rw [rstf_eq]; rfl, .refl _, fin _ _ _ _ _ hb' q1 q2 q3 q4 ho6 (by omega) (by omega) ho7 ho8 ⟨_, hb8, rfl, rfl, rfl, rfl⟩⟩
        refine sl ?_
        refine sq_nil ?_
        refine y2 0 8 ?_ ?_
        first | refine sl ?_ | refine sq_load TYok rfl rfl rfl (ho6.get hpn (by simp; omega)) (by rfl) Nat.zero_lt_one (by rfl) ?_
        refine sq_nil ?_
        refine y1 8 ?_
        refine sl ?_
        refine sq_nil ?_
        refine y1 9 ?_
        refine sq_appa TYok TYz rfl rfl rfl rfl rfl rfl rfl (by decide) (.inr ⟨m, _, Nat.zero_le _, rfl, hmn, rfl, rfl, rfl, fun _ _ => rfl⟩) (.lst _ _ _ _) (by omega) (by show (e.free.length + e.l0.length) * 8 ≤ _; omega) (by show e.free.length + e.l0.length ≤ _; omega) fun id' b' H6 hb' q1 q2 q3 q4 ho6 hi6 => ?_
        have hid7 : id' = m ∨ (H5 ++ []).length ≤ id' := hi6.elim (fun h => .inl (Option.some.inj h)) .inr
        have ho6 : Oth (H5 ++ []) H6 (some m) := ho6
        refine sq_nil ?_
        refine ye 10 ?_
        refine sp ?_
        refine sq_nil ?_
        refine ye 11 ?_
        refine sp ?_
        refine sq_nil ?_
        refine y1 12 ?_
        refine sw (ho6.get hbn (by simp; omega)) fun H7 hb7 ho7 hl7 => ?_
        refine sq_nil ?_
        refine ye 13 ?_
        refine sp ?_
        refine sq_nil ?_
        refine y1 14 ?_
        refine sw hb7 fun H8 hb8 ho8 hl8 => ?_
        refine sq_nil ?_
        refine yd ?_
        exact then_normal ⟨(), _, by rw [rstf_eq]; rfl, .refl _, fin _ _ _ _ _ hb' q1 q2 q3 q4 ho6 (by omega) (by omega) ho7 ho8 ⟨_, hb8, rfl, rfl, rfl, rfl⟩⟩
        refine sl ?_
        refine sq_nil ?_
        refine y2 0 9 ?_ ?_
        first | refine sl ?_ | refine sq_load TYok rfl rfl rfl (ho6.get hpn (by simp; omega)) (by rfl) Nat.zero_lt_one (by rfl) ?_
        refine sq_nil ?_
        refine y1 9 ?_
        refine sq_appa TYok TYz rfl rfl rfl rfl rfl rfl rfl (by decide) (.inr ⟨m, _, Nat.zero_le _, rfl, hmn, rfl, rfl, rfl, fun _ _ => rfl⟩) (.lst _ _ _ _) (by omega) (by show (e.free.length + e.l0.length) * 8 ≤ _; omega) (by show e.free.length + e.l0.length ≤ _; omega) fun id' b' H6 hb' q1 q2 q3 q4 ho6 hi6 => ?_
        have hid7 : id' = m ∨ (H5 ++ []).length ≤ id' := hi6.elim (fun h => .inl (Option.some.inj h)) .inr
        have ho6 : Oth (H5 ++ []) H6 (some m) := ho6
        refine sq_nil ?_
        refine ye 10 ?_
        refine sp ?_
        refine sq_nil ?_
        refine ye 11 ?_
        refine sp ?_
        refine sq_nil ?_
        refine y1 12 ?_
        refine sw (ho6.get hbn (by simp; omega)) fun H7 hb7 ho7 hl7 => ?_
        refine sq_nil ?_
        refine ye 13 ?_
        refine sp ?_
        refine sq_nil ?_
        refine y1 14 ?_
        refine sw hb7 fun H8 hb8 ho8 hl8 => ?_
        refine sq_nil ?_
        refine yd ?_
        exact then_normal ⟨(), _, by rw [rstf_eq]; rfl, .refl _, fin _ _ _ _ _ hb' q1 q2 q3 q4 ho6 (by omega) (by omega) ho7 ho8 ⟨_, hb8, rfl, rfl, rfl, rfl⟩⟩
        refine sq_appa TYok TYz rfl rfl rfl rfl rfl rfl rfl (by decide) (.inr ⟨m, _, Nat.zero_le _, rfl, hmn, rfl, rfl, rfl, fun _ _ => rfl⟩) (.lst _ _ _ _) (by omega) (by show (e.free.length + e.l0.length) * 8 ≤ _; omega) (by show e.free.length + e.l0.length ≤ _; omega) fun id' b' H6 hb' q1 q2 q3 q4 ho6 hi6 => ?_
        have hid7 : id' = m ∨ (H5 ++ []).length ≤ id' := hi6.elim (fun h => .inl (Option.some.inj h)) .inr
        have ho6 : Oth (H5 ++ []) H6 (some m) := ho6
        refine sq_nil ?_
        refine y1 0 ?_
        first | refine sl ?_ | refine sq_load TYok rfl rfl rfl (ho6.get hpn (by simp; omega)) (by rfl) Nat.zero_lt_one (by rfl) ?_
        refine sq_nil ?_
        refine ye 10 ?_
        refine sp ?_
        refine sq_nil ?_
        refine ye 11 ?_
        refine sp ?_
        refine sq_nil ?_
        refine y1 12 ?_
        refine sw (ho6.get hbn (by simp; omega)) fun H7 hb7 ho7 hl7 => ?_
        refine sq_nil ?_
        refine ye 13 ?_
        refine sp ?_
        refine sq_nil ?_
        refine y1 14 ?_
        refine sw hb7 fun H8 hb8 ho8 hl8 => ?_
        refine sq_nil ?_
        refine yd ?_
        exact then_normal ⟨(), _, by rw [rstf_eq]; rfl, .refl _, fin _ _ _ _ _ hb' q1 q2 q3 q4 ho6 (by omega) (by omega) ho7 ho8 ⟨_, hb8, rfl, rfl, rfl, rfl⟩⟩
        refine sl ?_
        refine sq_nil ?_
        refine y2 0 5 ?_ ?_
        first | refine sl ?_ | refine sq_load TYok rfl rfl rfl (ho6.get hpn (by simp; omega)) (by rfl) Nat.zero_lt_one (by rfl) ?_
        refine sq_nil ?_
        refine y1 5 ?_
        refine sl ?_
        refine sq_nil ?_
        refine y1 9 ?_
        refine sq_appa TYok TYz rfl rfl rfl rfl rfl rfl rfl (by decide) (.inr ⟨m, _, Nat.zero_le _, rfl, hmn, rfl, rfl, rfl, fun _ _ => rfl⟩) (.lst _ _ _ _) (by omega) (by show (e.free.length + e.l0.length) * 8 ≤ _; omega) (by show e.free.length + e.l0.length ≤ _; omega) fun id' b' H6 hb' q1 q2 q3 q4 ho6 hi6 => ?_
        have hid7 : id' = m ∨ (H5 ++ []).length ≤ id' := hi6.elim (fun h => .inl (Option.some.inj h)) .inr
        have ho6 : Oth (H5 ++ []) H6 (some m) := ho6
        refine sq_nil ?_
        refine ye 10 ?_
        refine sp ?_
        refine sq_nil ?_
        refine ye 11 ?_
        refine sp ?_
        refine sq_nil ?_
        refine y1 12 ?_
        refine sw (ho6.get hbn (by simp; omega)) fun H7 hb7 ho7 hl7 => ?_
        refine sq_nil ?_
        refine ye 13 ?_
        refine sp ?_
        refine sq_nil ?_
        refine y1 14 ?_
        refine sw hb7 fun H8 hb8 ho8 hl8 => ?_
        refine sq_nil ?_
        refine yd ?_
        exact then_normal ⟨(), _, by rw [rstf_eq]; rfl, .refl _, fin _ _ _ _ _ hb' q1 q2 q3 q4 ho6 (by omega) (by omega) ho7 ho8 ⟨_, hb8, rfl, rfl, rfl, rfl⟩⟩
        refine sl ?_
        refine sq_nil ?_
        refine y2 0 9 ?_ ?_
        first | refine sl ?_ | refine sq_load TYok rfl rfl rfl (ho6.get hpn (by simp; omega)) (by rfl) Nat.zero_lt_one (by rfl) ?_
        refine sq_nil ?_
        refine y1 9 ?_
        refine sq_appa TYok TYz rfl rfl rfl rfl rfl rfl rfl (by decide) (.inr ⟨m, _, Nat.zero_le _, rfl, hmn, rfl, rfl, rfl, fun _ _ => rfl⟩) (.lst _ _ _ _) (by omega) (by show (e.free.length + e.l0.length) * 8 ≤ _; omega) (by show e.free.length + e.l0.length ≤ _; omega) fun id' b' H6 hb' q1 q2 q3 q4 ho6 hi6 => ?_
        have hid7 : id' = m ∨ (H5 ++ []).length ≤ id' := hi6.elim (fun h => .inl (Option.some.inj h)) .inr
        have ho6 : Oth (H5 ++ []) H6 (some m) := ho6
        refine sq_nil ?_
        refine ye 10 ?_
        refine sp ?_
        refine sq_nil ?_
        refine ye 11 ?_
        refine sp ?_
        refine sq_nil ?_
        refine y1 12 ?_
        refine sw (ho6.get hbn (by simp; omega)) fun H7 hb7 ho7 hl7 => ?_
        refine sq_nil ?_
        refine ye 13 ?_
        refine sp ?_
        refine sq_nil ?_
        refine y1 14 ?_
        refine sw hb7 fun H8 hb8 ho8 hl8 => ?_
        refine sq_nil ?_
        refine yd ?_
        exact then_normal ⟨(), _, by rw [rstf_eq]; rfl, .refl _, fin _ _ _ _ _ hb' q1 q2 q3 q4 ho6 (by omega) (by omega) ho7 ho8 ⟨_, hb8, rfl, rfl, rfl, rfl⟩⟩
        refine sq_appa TYok TYz rfl rfl rfl rfl rfl rfl rfl (by decide) (.inr ⟨m, _, Nat.zero_le _, rfl, hmn, rfl, rfl, rfl, fun _ _ => rfl⟩) (.lst _ _ _ _) (by omega) (by show (e.free.length + e.l0.length) * 8 ≤ _; omega) (by show e.free.length + e.l0.length ≤ _; omega) fun id' b' H6 hb' q1 q2 q3 q4 ho6 hi6 => ?_
        have hid7 : id' = m ∨ (H5 ++ []).length ≤ id' := hi6.elim (fun h => .inl (Option.some.inj h)) .inr
        have ho6 : Oth (H5 ++ []) H6 (some m) := ho6
        refine sq_nil ?_
        refine y1 0 ?_
        first | refine sl ?_ | refine sq_load TYok rfl rfl rfl (ho6.get hpn (by simp; omega)) (by rfl) Nat.zero_lt_one (by rfl) ?_
        refine sq_nil ?_
        refine ye 10 ?_
        refine sp ?_
        refine sq_nil ?_
        refine ye 11 ?_
        refine sp ?_
        refine sq_nil ?_
        refine y1 12 ?_
        refine sw (ho6.get hbn (by simp; omega)) fun H7 hb7 ho7 hl7 => ?_
        refine sq_nil ?_
        refine ye 13 ?_
        refine sp ?_
        refine sq_nil ?_
        refine y1 14 ?_
        refine sw hb7 fun H8 hb8 ho8 hl8 => ?_
        refine sq_nil ?_
        refine yd ?_
        exact then_normal ⟨(), _, by rw [rstf_eq]; rfl, .refl _, fin _ _ _ _ _ hb' q1 q2 q3 q4 ho6 (by omega) (by omega) ho7 ho8 ⟨_, hb8, rfl, rfl, rfl, rfl⟩⟩
        refine sl ?_
        refine sq_nil ?_
        refine y2 0 2 ?_ ?_
        first | refine sl ?_ | refine sq_load TYok rfl rfl rfl (ho6.get hpn (by simp; omega)) (by rfl) Nat.zero_lt_one (by rfl) ?_
        refine sq_nil ?_
        refine y1 2 ?_
        refine sl ?_
        refine sq_nil ?_
        refine ye 3 ?_
        refine sp ?_
        refine sq_nil ?_
        refine ye 4 ?_
        refine sp ?_
        refine sq_nil ?_
        refine y1 5 ?_
        refine sl ?_
        refine sq_nil ?_
        refine y1 9 ?_
        refine sq_appa TYok TYz rfl rfl rfl rfl rfl rfl rfl (by decide) (.inr ⟨m, _, Nat.zero_le _, rfl, hmn, rfl, rfl, rfl, fun _ _ => rfl⟩) (.lst _ _ _ _) (by omega) (by show (e.free.length + e.l0.length) * 8 ≤ _; omega) (by show e.free.length + e.l0.length ≤ _; omega) fun id' b' H6 hb' q1 q2 q3 q4 ho6 hi6 => ?_
        have hid7 : id' = m ∨ (H5 ++ []).length ≤ id' := hi6.elim (fun h => .inl (Option.some.inj h)) .inr
        have ho6 : Oth (H5 ++ []) H6 (some m) := ho6
        refine sq_nil ?_
        refine ye 10 ?_
        refine sp ?_
        refine sq_nil ?_
        refine ye 11 ?_
        refine sp ?_
        refine sq_nil ?_
        refine y1 12 ?_
        refine sw (ho6.get hbn (by simp; omega)) fun H7 hb7 ho7 hl7 => ?_
        refine sq_nil ?_
        refine ye 13 ?_
        refine sp ?_
        refine sq_nil ?_
        refine y1 14 ?_
        refine sw hb7 fun H8 hb8 ho8 hl8 => ?_
        refine sq_nil ?_
        refine yd ?_
        exact then_normal ⟨(), _, by rw [rstf_eq]; rfl, .refl _, fin _ _ _ _ _ hb' q1 q2 q3 q4 ho6 (by omega) (by omega) ho7 ho8 ⟨_, hb8, rfl, rfl, rfl, rfl⟩⟩
        refine sl ?_
        refine sq_nil ?_
        refine ye 3 ?_
        refine sp ?_
        refine sq_nil ?_
        refine ye 4 ?_
        refine sp ?_
        refine sq_nil ?_
        refine y2 0 5 ?_ ?_
        first | refine sl ?_ | refine sq_load TYok rfl rfl rfl (ho6.get hpn (by simp; omega)) (by rfl) Nat.zero_lt_one (by rfl) ?_
        refine sq_nil ?_
        refine y1 5 ?_
        refine sl ?_
        refine sq_nil ?_
        refine y1 9 ?_
        refine sq_appa TYok TYz rfl rfl rfl rfl rfl rfl rfl (by decide) (.inr ⟨m, _, Nat.zero_le _, rfl, hmn, rfl, rfl, rfl, fun _ _ => rfl⟩) (.lst _ _ _ _) (by omega) (by show (e.free.length + e.l0.length) * 8 ≤ _; omega) (by show e.free.length + e.l0.length ≤ _; omega) fun id' b' H6 hb' q1 q2 q3 q4 ho6 hi6 => ?_
        have hid7 : id' = m ∨ (H5 ++ []).length ≤ id' := hi6.elim (fun h => .inl (Option.some.inj h)) .inr
        have ho6 : Oth (H5 ++ []) H6 (some m) := ho6
        refine sq_nil ?_
        refine ye 10 ?_
        refine sp ?_
        refine sq_nil ?_
        refine ye 11 ?_
        refine sp ?_
        refine sq_nil ?_
        refine y1 12 ?_
        refine sw (ho6.get hbn (by simp; omega)) fun H7 hb7 ho7 hl7 => ?_
        refine sq_nil ?_
        refine ye 13 ?_
        refine sp ?_
        refine sq_nil ?_
        refine y1 14 ?_
        refine sw hb7 fun H8 hb8 ho8 hl8 => ?_
        refine sq_nil ?_
        refine yd ?_
        exact then_normal ⟨(), _, by rw [rstf_eq]; rfl, .refl _, fin _ _ _ _ _ hb' q1 q2 q3 q4 ho6 (by omega) (by omega) ho7 ho8 ⟨_, hb8, rfl, rfl, rfl, rfl⟩⟩
        refine sl ?_
        refine sq_nil ?_
        refine y2 0 9 ?_ ?_
        first | refine sl ?_ | refine sq_load TYok rfl rfl rfl (ho6.get hpn (by simp; omega)) (by rfl) Nat.zero_lt_one (by rfl) ?_
        refine sq_nil ?_
        refine y1 9 ?_
        refine sq_appa TYok TYz rfl rfl rfl rfl rfl rfl rfl (by decide) (.inr ⟨m, _, Nat.zero_le _, rfl, hmn, rfl, rfl, rfl, fun _ _ => rfl⟩) (.lst _ _ _ _) (by omega) (by show (e.free.length + e.l0.length) * 8 ≤ _; omega) (by show e.free.length + e.l0.length ≤ _; omega) fun id' b' H6 hb' q1 q2 q3 q4 ho6 hi6 => ?_
        have hid7 : id' = m ∨ (H5 ++ []).length ≤ id' := hi6.elim (fun h => .inl (Option.some.inj h)) .inr
        have ho6 : Oth (H5 ++ []) H6 (some m) := ho6
        refine sq_nil ?_
        refine ye 10 ?_
        refine sp ?_
        refine sq_nil ?_
        refine ye 11 ?_
        refine sp ?_
        refine sq_nil ?_
        refine y1 12 ?_
        refine sw (ho6.get hbn (by simp; omega)) fun H7 hb7 ho7 hl7 => ?_
        refine sq_nil ?_
        refine ye 13 ?_
        refine sp ?_
        refine sq_nil ?_
        refine y1 14 ?_
        refine sw hb7 fun H8 hb8 ho8 hl8 => ?_
        refine sq_nil ?_
        refine yd ?_
        exact then_normal ⟨(), _, by rw [rstf_eq]; rfl, .refl _, fin _ _ _ _ _ hb' q1 q2 q3 q4 ho6 (by omega) (by omega) ho7 ho8 ⟨_, hb8, rfl, rfl, rfl, rfl⟩⟩
        refine sq_appa TYok TYz rfl rfl rfl rfl rfl rfl rfl (by decide) (.inr ⟨m, _, Nat.zero_le _, rfl, hmn, rfl, rfl, rfl, fun _ _ => rfl⟩) (.lst _ _ _ _) (by omega) (by show (e.free.length + e.l0.length) * 8 ≤ _; omega) (by show e.free.length + e.l0.length ≤ _; omega) fun id' b' H6 hb' q1 q2 q3 q4 ho6 hi6 => ?_
        have hid7 : id' = m ∨ (H5 ++ []).length ≤ id' := hi6.elim (fun h => .inl (Option.some.inj h)) .inr
        have ho6 : Oth (H5 ++ []) H6 (some m) := ho6
        refine sq_nil ?_
        refine y1 0 ?_
        first | refine sl ?_ | refine sq_load TYok rfl rfl rfl (ho6.get hpn (by simp; omega)) (by rfl) Nat.zero_lt_one (by rfl) ?_
        refine sq_nil ?_
        refine ye 10 ?_
        refine sp ?_
        refine sq_nil ?_
        refine ye 11 ?_
        refine sp ?_
        refine sq_nil ?_
        refine y1 12 ?_
        refine sw (ho6.get hbn (by simp; omega)) fun H7 hb7 ho7 hl7 => ?_
        refine sq_nil ?_
        refine ye 13 ?_
        refine sp ?_
        refine sq_nil ?_
        refine y1 14 ?_
        refine sw hb7 fun H8 hb8 ho8 hl8 => ?_
        refine sq_nil ?_
        refine yd ?_
        exact then_normal ⟨(), _, by rw [rstf_eq]; rfl, .refl _, fin _ _ _ _ _ hb' q1 q2 q3 q4 ho6 (by omega) (by omega) ho7 ho8 ⟨_, hb8, rfl, rfl, rfl, rfl⟩⟩
      · rintro - H9 ⟨vf, hbx, hfz, hid9, hs9, hl9, hk9⟩
        (repeat' (first | (refine sq_id ?_; first | refine sq_nil ?_ | refine sm ?_ | refine sa ?_ | refine ss ?_ | refine st ?_ | refine sf ?_ | refine sp ?_ | refine sq ?_ | refine sl ?_ | refine si ?_ | refine sx ?_ | refine sy ?_) | (refine rg_id ?_; first | refine rg_fin ?_ | refine rm ?_ | refine ra ?_ | refine rs ?_ | refine rt ?_ | refine rf ?_ | refine rp ?_ | refine rq ?_ | refine rl ?_ | refine ri ?_ | refine rx ?_ | refine ry ?_) | refine aw_rseq ?_ | refine aw_seq ?_ | refine aw_region ?_ | refine aw_skip ?_ | refine ct ?_ | refine cf ?_ | refine d0s ?_ | refine d0r ?_ | refine aw_block ?_ | refine aw_exit ?_ | refine then_ret ?_ | refine then_exit ?_ | refine then_normal ?_ | refine blk_ret ?_ | refine blk_normal ?_ | refine blk_exit ?_ | refine blk_pass rfl ?_))
        ((try refine aw_ret ?_); (repeat (first | refine then_ret ?_ | refine blk_ret ?_)); refine fin_t True.intro rfl rfl ?_)
        refine ⟨rfl, .inr ⟨hbl, vf, hbx, hfz, hid9, hs9, by omega, fun x hx x1 x2 x3 => ?_⟩⟩
        rw [hk9 x (by omega) x1 x2, List.append_nil, ho5.2 x (by omega) (by simp; omega), ho4.2 x (by omega) (by simp; omega), ho3.2 x (by omega) (by simp; omega), ho1.2 x hx (by simp)]
  · (repeat' (first | (refine sq_id ?_; first | refine sq_nil ?_ | refine sm ?_ | refine sa ?_ | refine ss ?_ | refine st ?_ | refine sf ?_ | refine sp ?_ | refine sq ?_ | refine sl ?_ | refine si ?_ | refine sx ?_ | refine sy ?_) | (refine rg_id ?_; first | refine rg_fin ?_ | refine rm ?_ | refine ra ?_ | refine rs ?_ | refine rt ?_ | refine rf ?_ | refine rp ?_ | refine rq ?_ | refine rl ?_ | refine ri ?_ | refine rx ?_ | refine ry ?_) | refine aw_rseq ?_ | refine aw_seq ?_ | refine aw_region ?_ | refine aw_skip ?_ | refine ct ?_ | refine cf ?_ | refine d0s ?_ | refine d0r ?_ | refine aw_block ?_ | refine aw_exit ?_ | refine then_ret ?_ | refine then_exit ?_ | refine then_normal ?_ | refine blk_ret ?_ | refine blk_normal ?_ | refine blk_exit ?_ | refine blk_pass rfl ?_))
    ((try refine aw_ret ?_); (repeat (first | refine then_ret ?_ | refine blk_ret ?_)); refine fin_t True.intro rfl rfl ?_)
    exact ⟨rfl, .inl ⟨by unfold blockedB behindB; rw [hB]; rfl, ho1⟩⟩
set_option maxHeartbeats 4000000 in
theorem adv0E_s (e : Ep) (hbd : Bd e) (hr : RightE e) (hk : (e.now + 2) % 3 = 0) (H : AH) (id bis : Nat) (hb : H[id]? = some (some (ebk [.i e.now, ints e.pins, ints e.l0, ints e.l1, ints e.l2, none0]))) (h0 : e.free = []) (hs : H[bis]? = some (some (bbox false))) (hsi : bis ≠ id) :
    SC true Try.prog 40 [.ref id 6 0 0, .ref bis 1 0 0] H (AdvPost e H id bis id (fun v => [.i (e.now + 1), ints e.pins, .p (.slice none 0 0), ints e.l1, ints e.l2, v]) e.l0) := by
  obtain ⟨hb1, hb2⟩ := hbd
  have hk2 : (e.now + 1 + 1) % 3 = 0 := by omega
  have hr' := hr
  obtain ⟨hnP, _⟩ := hr'
  have hnP' := hnP
  obtain ⟨n0, n1⟩ := hnP'
  have hil := (List.getElem?_eq_some_iff.1 hb).1
  have hsl := (List.getElem?_eq_some_iff.1 hs).1
  refine sc_in TYok Try.func40 (by kernel_rfl) Try.ntmps40 rfl rfl rfl ?_
  refine aw_seq ?_
  refine aw_region ?_
  refine nw fun H1 hp1 ho1 hl1 => ?_
  have hbb := ho1.get0 hb
  have hss := ho1.get0 hs
  have hcf := containsfunc_s e.pins 41 [.ref H.length 1 0 0] (fun p => decide (p ≠ 0 ∧ p ≠ e.now + 1)) (by omega) H1 (.lst false e.pins) (fun x hx => behind_s x e.now hnP H1 hbb hp1)
  (repeat' (first | (refine sq_id ?_; first | refine sq_nil ?_ | refine sm ?_ | refine sa ?_ | refine ss ?_ | refine st ?_ | refine sf ?_ | refine sp ?_ | refine sq ?_ | refine sl ?_ | refine si ?_ | refine sx ?_ | refine sy ?_) | (refine rg_id ?_; first | refine rg_fin ?_ | refine rm ?_ | refine ra ?_ | refine rs ?_ | refine rt ?_ | refine rf ?_ | refine rp ?_ | refine rq ?_ | refine rl ?_ | refine ri ?_ | refine rx ?_ | refine ry ?_) | refine aw_rseq ?_ | refine aw_seq ?_ | refine aw_region ?_ | refine aw_skip ?_ | refine ct ?_ | refine cf ?_ | refine d0s ?_ | refine d0r ?_ | refine aw_block ?_ | refine aw_exit ?_ | refine then_ret ?_ | refine then_exit ?_ | refine then_normal ?_ | refine blk_ret ?_ | refine blk_normal ?_ | refine blk_exit ?_ | refine blk_pass rfl ?_))
  refine sq_call rfl rfl rfl (LeL.refl _) (hcf.mono fun r H2 he => ?_)
  obtain ⟨rfl, rfl⟩ := he
  cases hB : e.pins.any fun p => decide (p ≠ 0 ∧ p ≠ e.now + 1)
  · by_cases hx : e.now = 1099511627776
    · (repeat' (first | (refine sq_id ?_; first | refine sq_nil ?_ | refine sm ?_ | refine sa ?_ | refine ss ?_ | refine st ?_ | refine sf ?_ | refine sp ?_ | refine sq ?_ | refine sl ?_ | refine si ?_ | refine sx ?_ | refine sy ?_) | (refine rg_id ?_; first | refine rg_fin ?_ | refine rm ?_ | refine ra ?_ | refine rs ?_ | refine rt ?_ | refine rf ?_ | refine rp ?_ | refine rq ?_ | refine rl ?_ | refine ri ?_ | refine rx ?_ | refine ry ?_) | refine aw_rseq ?_ | refine aw_seq ?_ | refine aw_region ?_ | refine aw_skip ?_ | refine ct ?_ | refine cf ?_ | refine d0s ?_ | refine d0r ?_ | refine aw_block ?_ | refine aw_exit ?_ | refine then_ret ?_ | refine then_exit ?_ | refine then_normal ?_ | refine blk_ret ?_ | refine blk_normal ?_ | refine blk_exit ?_ | refine blk_pass rfl ?_))
      ((try refine aw_ret ?_); (repeat (first | refine then_ret ?_ | refine blk_ret ?_)); refine fin_t True.intro rfl rfl ?_)
      exact ⟨rfl, .inl ⟨by unfold blockedB behindB; rw [hB, decide_eq_true hx]; rfl, ho1⟩⟩
    · have hbl : blockedB e = false := by unfold blockedB behindB; rw [hB, decide_eq_false hx]; rfl
      (repeat' (first | (refine sq_id ?_; first | refine sq_nil ?_ | refine sm ?_ | refine sa ?_ | refine ss ?_ | refine st ?_ | refine sf ?_ | refine sp ?_ | refine sq ?_ | refine sl ?_ | refine si ?_ | refine sx ?_ | refine sy ?_) | (refine rg_id ?_; first | refine rg_fin ?_ | refine rm ?_ | refine ra ?_ | refine rs ?_ | refine rt ?_ | refine rf ?_ | refine rp ?_ | refine rq ?_ | refine rl ?_ | refine ri ?_ | refine rx ?_ | refine ry ?_) | refine aw_rseq ?_ | refine aw_seq ?_ | refine aw_region ?_ | refine aw_skip ?_ | refine ct ?_ | refine cf ?_ | refine d0s ?_ | refine d0r ?_ | refine aw_block ?_ | refine aw_exit ?_ | refine then_ret ?_ | refine then_exit ?_ | refine then_normal ?_ | refine blk_ret ?_ | refine blk_normal ?_ | refine blk_exit ?_ | refine blk_pass rfl ?_))
      refine sw hss fun H3 hs3 ho3 hl3 => ?_
      have hb3 := ho3.get hbb (by simp; omega)
      have hp3 := ho3.get hp1 (by simp; omega)
      (repeat' (first | (refine sq_id ?_; first | refine sq_nil ?_ | refine sm ?_ | refine sa ?_ | refine ss ?_ | refine st ?_ | refine sf ?_ | refine sp ?_ | refine sq ?_ | refine sl ?_ | refine si ?_ | refine sx ?_ | refine sy ?_) | (refine rg_id ?_; first | refine rg_fin ?_ | refine rm ?_ | refine ra ?_ | refine rs ?_ | refine rt ?_ | refine rf ?_ | refine rp ?_ | refine rq ?_ | refine rl ?_ | refine ri ?_ | refine rx ?_ | refine ry ?_) | refine aw_rseq ?_ | refine aw_seq ?_ | refine aw_region ?_ | refine aw_skip ?_ | refine ct ?_ | refine cf ?_ | refine d0s ?_ | refine d0r ?_ | refine aw_block ?_ | refine aw_exit ?_ | refine then_ret ?_ | refine then_exit ?_ | refine then_normal ?_ | refine blk_ret ?_ | refine blk_normal ?_ | refine blk_exit ?_ | refine blk_pass rfl ?_))
      refine sw hb3 fun H4 hb4 ho4 hl4 => ?_
      have hs4 := ho4.get hs3 (by simp; omega)
      have hp4 := ho4.get hp3 (by simp; omega)
      refine sq_nil ?_
      refine aw_norm id (ebk [.i (e.now + 1), ints e.pins, ints e.l0, ints e.l1, ints e.l2, none0]) hb4 rfl rfl rfl (one_of rfl rfl) fun H5 hb5 ho5 hl5 => ?_
      have hs5 := ho5.get hs4 (by simp; omega)
      have hp5 := ho5.get hp4 (by simp; omega)
      have hlen5 : H5.length = H.length + 1 := by omega
      have hbn := nil_at hb5
      have hpn := nil_at hp5
      refine aw_seq ?_
      refine d0r ?_
      (repeat' (first | (refine sq_id ?_; first | refine rg_remk TYok TYz rfl rfl rfl rfl sd hk2 ?_ | refine sq_nil ?_ | refine sm ?_ | refine sa ?_ | refine ss ?_ | refine st ?_ | refine sf ?_ | refine sp ?_ | refine sq ?_ | refine sl ?_ | refine si ?_ | refine sx ?_ | refine sy ?_) | (refine rg_id ?_; first | refine rg_remk TYok TYz rfl rfl rfl rfl sd hk2 ?_ | refine rg_fin ?_ | refine rm ?_ | refine ra ?_ | refine rs ?_ | refine rt ?_ | refine rf ?_ | refine rp ?_ | refine rq ?_ | refine rl ?_ | refine ri ?_ | refine rx ?_ | refine ry ?_)))
      refine then_normal ?_
      refine aw_seq ?_
      have hlen5' : (H5 ++ []).length = H.length + 1 := by simp; omega
      refine aw_mid [] (fun _ : Unit => []) (fun _ H' => ∃ vf, IsBox H' id [.i (e.now + 1), ints e.pins, .p (.slice none 0 0), ints e.l1, ints e.l2, vf] ∧ FzL H' vf (e.free ++ e.l0) ∧ (∀ id', accId vf = some id' → (id' = id ∨ H.length ≤ id') ∧ id' < H'.length) ∧ IsOne H' bis 4 (.b true) ∧ (H5 ++ []).length ≤ H'.length ∧ ∀ x, x < (H5 ++ []).length → x ≠ id → x ≠ id → H'[x]? = (H5 ++ [])[x]?) ?_ ?_
      ·
        have fin : ∀ (H7 H8 : AH) (vf : AV), Oth (H5 ++ []) H7 (some id) → Oth H7 H8 (some id) → Le vf (ints e.l0) → accId vf = none → IsBox H8 id [.i (e.now + 1), ints e.pins, .p (.slice none 0 0), ints e.l1, ints e.l2, vf] → ∃ vf, IsBox H8 id [.i (e.now + 1), ints e.pins, .p (.slice none 0 0), ints e.l1, ints e.l2, vf] ∧ FzL H8 vf (e.free ++ e.l0) ∧ (∀ id', accId vf = some id' → (id' = id ∨ H.length ≤ id') ∧ id' < H8.length) ∧ IsOne H8 bis 4 (.b true) ∧ (H5 ++ []).length ≤ H8.length ∧ ∀ x, x < (H5 ++ []).length → x ≠ id → x ≠ id → H8[x]? = (H5 ++ [])[x]? := by
          intro H7 H8 vf ho7 ho8 hle hac hbx
          exact ⟨vf, hbx, fzL_le (by rw [h0]; exact hle), (fun i hi => by rw [hac] at hi; cases hi), ⟨_, ho8.get (ho7.get (nil_at hs5) (by simp; omega)) (by simp; omega), rfl, rfl, rfl, rfl⟩, Nat.le_trans ho7.1 ho8.1, fun x hx x1 x2 => by rw [ho8.2 x (Nat.lt_of_lt_of_le hx ho7.1) (by simp; omega), ho7.2 x hx (by simp; omega)]⟩
        refine yall 15 ?_
        refine ye 1 ?_
        refine sm ?_
        refine sq_nil ?_
        refine ye 6 ?_
        refine sm ?_
        refine sq_nil ?_
        refine ye 7 ?_
        refine sp ?_
        refine sq_nil ?_
        refine y3 0 2 8 ?_ ?_ ?_
        refine sl ?_
        refine sq_nil ?_
        refine y2 2 8 ?_ ?_
        refine sl ?_
        refine sq_nil ?_
        refine ye 3 ?_
        refine sp ?_
        refine sq_nil ?_
        refine ye 4 ?_
        refine sp ?_
        refine sq_nil ?_
        refine y2 5 8 ?_ ?_
        refine sl ?_
        refine sq_nil ?_
        refine y1 8 ?_
        refine sl ?_
        refine sq_nil ?_
        refine y1 9 ?_
        refine sq_clone TYok rfl rfl rfl rfl rfl (by decide) (.inr ⟨_, _, rfl⟩) (.lst _ _ _ _) (by show e.l0.length * 8 ≤ _; omega) (by show e.l0.length ≤ _; omega) ?_
        refine sq_nil ?_
        refine ye 10 ?_
        refine sp ?_
        refine sq_nil ?_
        refine ye 11 ?_
        refine sp ?_
        refine sq_nil ?_
        refine y1 12 ?_
        refine sw hbn fun H7 hb7 ho7 hl7 => ?_
        refine sq_nil ?_
        refine ye 13 ?_
        refine sp ?_
        refine sq_nil ?_
        refine y1 14 ?_
        refine sw hb7 fun H8 hb8 ho8 hl8 => ?_
        refine sq_nil ?_
        refine yd ?_
        exact then_normal ⟨(), _, by rw [rstf_eq]; rfl, .refl _, fin _ _ _ ho7 ho8 (le_copy e.l0 _ _ rfl fun i hi => rfl) rfl ⟨_, hb8, rfl, rfl, rfl, rfl⟩⟩
        refine sl ?_
        refine sq_nil ?_
        refine y1 5 ?_
        refine sl ?_
        refine sq_nil ?_
        refine y1 9 ?_
        refine sq_clone TYok rfl rfl rfl rfl rfl (by decide) (.inr ⟨_, _, rfl⟩) (.lst _ _ _ _) (by show e.l0.length * 8 ≤ _; omega) (by show e.l0.length ≤ _; omega) ?_
        refine sq_nil ?_
        refine ye 10 ?_
        refine sp ?_
        refine sq_nil ?_
        refine ye 11 ?_
        refine sp ?_
        refine sq_nil ?_
        refine y1 12 ?_
        refine sw hbn fun H7 hb7 ho7 hl7 => ?_
        refine sq_nil ?_
        refine ye 13 ?_
        refine sp ?_
        refine sq_nil ?_
        refine y1 14 ?_
        refine sw hb7 fun H8 hb8 ho8 hl8 => ?_
        refine sq_nil ?_
        refine yd ?_
        exact then_normal ⟨(), _, by rw [rstf_eq]; rfl, .refl _, fin _ _ _ ho7 ho8 (le_copy e.l0 _ _ rfl fun i hi => rfl) rfl ⟨_, hb8, rfl, rfl, rfl, rfl⟩⟩
        refine sl ?_
        refine sq_nil ?_
        refine y1 2 ?_
        refine sl ?_
        refine sq_nil ?_
        refine ye 3 ?_
        refine sp ?_
        refine sq_nil ?_
        refine ye 4 ?_
        refine sp ?_
        refine sq_nil ?_
        refine y1 5 ?_
        refine sl ?_
        refine sq_nil ?_
        refine y1 9 ?_
        refine sq_clone TYok rfl rfl rfl rfl rfl (by decide) (.inr ⟨_, _, rfl⟩) (.lst _ _ _ _) (by show e.l0.length * 8 ≤ _; omega) (by show e.l0.length ≤ _; omega) ?_
        refine sq_nil ?_
        refine ye 10 ?_
        refine sp ?_
        refine sq_nil ?_
        refine ye 11 ?_
        refine sp ?_
        refine sq_nil ?_
        refine y1 12 ?_
        refine sw hbn fun H7 hb7 ho7 hl7 => ?_
        refine sq_nil ?_
        refine ye 13 ?_
        refine sp ?_
        refine sq_nil ?_
        refine y1 14 ?_
        refine sw hb7 fun H8 hb8 ho8 hl8 => ?_
        refine sq_nil ?_
        refine yd ?_
        exact then_normal ⟨(), _, by rw [rstf_eq]; rfl, .refl _, fin _ _ _ ho7 ho8 (le_copy e.l0 _ _ rfl fun i hi => rfl) rfl ⟨_, hb8, rfl, rfl, rfl, rfl⟩⟩
        refine sl ?_
        refine sq_nil ?_
        refine ye 3 ?_
        refine sp ?_
        refine sq_nil ?_
        refine ye 4 ?_
        refine sp ?_
        refine sq_nil ?_
        refine y3 0 5 8 ?_ ?_ ?_
        refine sl ?_
        refine sq_nil ?_
        refine y2 5 8 ?_ ?_
        refine sl ?_
        refine sq_nil ?_
        refine y1 8 ?_
        refine sl ?_
        refine sq_nil ?_
        refine y1 9 ?_
        refine sq_clone TYok rfl rfl rfl rfl rfl (by decide) (.inr ⟨_, _, rfl⟩) (.lst _ _ _ _) (by show e.l0.length * 8 ≤ _; omega) (by show e.l0.length ≤ _; omega) ?_
        refine sq_nil ?_
        refine ye 10 ?_
        refine sp ?_
        refine sq_nil ?_
        refine ye 11 ?_
        refine sp ?_
        refine sq_nil ?_
        refine y1 12 ?_
        refine sw hbn fun H7 hb7 ho7 hl7 => ?_
        refine sq_nil ?_
        refine ye 13 ?_
        refine sp ?_
        refine sq_nil ?_
        refine y1 14 ?_
        refine sw hb7 fun H8 hb8 ho8 hl8 => ?_
        refine sq_nil ?_
        refine yd ?_
        exact then_normal ⟨(), _, by rw [rstf_eq]; rfl, .refl _, fin _ _ _ ho7 ho8 (le_copy e.l0 _ _ rfl fun i hi => rfl) rfl ⟨_, hb8, rfl, rfl, rfl, rfl⟩⟩
        refine sl ?_
        refine sq_nil ?_
        refine y1 5 ?_
        refine sl ?_
        refine sq_nil ?_
        refine y1 9 ?_
        refine sq_clone TYok rfl rfl rfl rfl rfl (by decide) (.inr ⟨_, _, rfl⟩) (.lst _ _ _ _) (by show e.l0.length * 8 ≤ _; omega) (by show e.l0.length ≤ _; omega) ?_
        refine sq_nil ?_
        refine ye 10 ?_
        refine sp ?_
        refine sq_nil ?_
        refine ye 11 ?_
        refine sp ?_
        refine sq_nil ?_
        refine y1 12 ?_
        refine sw hbn fun H7 hb7 ho7 hl7 => ?_
        refine sq_nil ?_
        refine ye 13 ?_
        refine sp ?_
        refine sq_nil ?_
        refine y1 14 ?_
        refine sw hb7 fun H8 hb8 ho8 hl8 => ?_
        refine sq_nil ?_
        refine yd ?_
        exact then_normal ⟨(), _, by rw [rstf_eq]; rfl, .refl _, fin _ _ _ ho7 ho8 (le_copy e.l0 _ _ rfl fun i hi => rfl) rfl ⟨_, hb8, rfl, rfl, rfl, rfl⟩⟩
        refine sl ?_
        refine sq_nil ?_
        refine y2 0 8 ?_ ?_
        refine sl ?_
        refine sq_nil ?_
        refine y1 8 ?_
        refine sl ?_
        refine sq_nil ?_
        refine y1 9 ?_
        refine sq_clone TYok rfl rfl rfl rfl rfl (by decide) (.inr ⟨_, _, rfl⟩) (.lst _ _ _ _) (by show e.l0.length * 8 ≤ _; omega) (by show e.l0.length ≤ _; omega) ?_
        refine sq_nil ?_
        refine ye 10 ?_
        refine sp ?_
        refine sq_nil ?_
        refine ye 11 ?_
        refine sp ?_
        refine sq_nil ?_
        refine y1 12 ?_
        refine sw hbn fun H7 hb7 ho7 hl7 => ?_
        refine sq_nil ?_
        refine ye 13 ?_
        refine sp ?_
        refine sq_nil ?_
        refine y1 14 ?_
        refine sw hb7 fun H8 hb8 ho8 hl8 => ?_
        refine sq_nil ?_
        refine yd ?_
        exact then_normal ⟨(), _, by rw [rstf_eq]; rfl, .refl _, fin _ _ _ ho7 ho8 (le_copy e.l0 _ _ rfl fun i hi => rfl) rfl ⟨_, hb8, rfl, rfl, rfl, rfl⟩⟩
        refine sl ?_
        refine sq_nil ?_
        refine y2 0 9 ?_ ?_
        refine sl ?_
        refine sq_nil ?_
        refine y1 9 ?_
        refine sq_clone TYok rfl rfl rfl rfl rfl (by decide) (.inr ⟨_, _, rfl⟩) (.lst _ _ _ _) (by show e.l0.length * 8 ≤ _; omega) (by show e.l0.length ≤ _; omega) ?_
        refine sq_nil ?_
        refine ye 10 ?_
        refine sp ?_
        refine sq_nil ?_
        refine ye 11 ?_
        refine sp ?_
        refine sq_nil ?_
        refine y1 12 ?_
        refine sw hbn fun H7 hb7 ho7 hl7 => ?_
        refine sq_nil ?_
        refine ye 13 ?_
        refine sp ?_
        refine sq_nil ?_
        refine y1 14 ?_
        refine sw hb7 fun H8 hb8 ho8 hl8 => ?_
        refine sq_nil ?_
        refine yd ?_
        exact then_normal ⟨(), _, by rw [rstf_eq]; rfl, .refl _, fin _ _ _ ho7 ho8 (le_copy e.l0 _ _ rfl fun i hi => rfl) rfl ⟨_, hb8, rfl, rfl, rfl, rfl⟩⟩
        refine sq_clone TYok rfl rfl rfl rfl rfl (by decide) (.inr ⟨_, _, rfl⟩) (.lst _ _ _ _) (by show e.l0.length * 8 ≤ _; omega) (by show e.l0.length ≤ _; omega) ?_
        refine sq_nil ?_
        refine y1 0 ?_
        refine sl ?_
        refine sq_nil ?_
        refine ye 10 ?_
        refine sp ?_
        refine sq_nil ?_
        refine ye 11 ?_
        refine sp ?_
        refine sq_nil ?_
        refine y1 12 ?_
        refine sw hbn fun H7 hb7 ho7 hl7 => ?_
        refine sq_nil ?_
        refine ye 13 ?_
        refine sp ?_
        refine sq_nil ?_
        refine y1 14 ?_
        refine sw hb7 fun H8 hb8 ho8 hl8 => ?_
        refine sq_nil ?_
        refine yd ?_
        exact then_normal ⟨(), _, by rw [rstf_eq]; rfl, .refl _, fin _ _ _ ho7 ho8 (le_copy e.l0 _ _ rfl fun i hi => rfl) rfl ⟨_, hb8, rfl, rfl, rfl, rfl⟩⟩
        refine sl ?_
        refine sq_nil ?_
        refine y2 0 5 ?_ ?_
        refine sl ?_
        refine sq_nil ?_
        refine y1 5 ?_
        refine sl ?_
        refine sq_nil ?_
        refine y1 9 ?_
        refine sq_clone TYok rfl rfl rfl rfl rfl (by decide) (.inr ⟨_, _, rfl⟩) (.lst _ _ _ _) (by show e.l0.length * 8 ≤ _; omega) (by show e.l0.length ≤ _; omega) ?_
        refine sq_nil ?_
        refine ye 10 ?_
        refine sp ?_
        refine sq_nil ?_
        refine ye 11 ?_
        refine sp ?_
        refine sq_nil ?_
        refine y1 12 ?_
        refine sw hbn fun H7 hb7 ho7 hl7 => ?_
        refine sq_nil ?_
        refine ye 13 ?_
        refine sp ?_
        refine sq_nil ?_
        refine y1 14 ?_
        refine sw hb7 fun H8 hb8 ho8 hl8 => ?_
        refine sq_nil ?_
        refine yd ?_
        exact then_normal ⟨(), _, by rw [rstf_eq]; rfl, .refl _, fin _ _ _ ho7 ho8 (le_copy e.l0 _ _ rfl fun i hi => rfl) rfl ⟨_, hb8, rfl, rfl, rfl, rfl⟩⟩
        refine sl ?_
        refine sq_nil ?_
        refine y2 0 9 ?_ ?_
        refine sl ?_
        refine sq_nil ?_
        refine y1 9 ?_
        refine sq_clone TYok rfl rfl rfl rfl rfl (by decide) (.inr ⟨_, _, rfl⟩) (.lst _ _ _ _) (by show e.l0.length * 8 ≤ _; omega) (by show e.l0.length ≤ _; omega) ?_
        refine sq_nil ?_
        refine ye 10 ?_
        refine sp ?_
        refine sq_nil ?_
        refine ye 11 ?_
        refine sp ?_
        refine sq_nil ?_
        refine y1 12 ?_
        refine sw hbn fun H7 hb7 ho7 hl7 => ?_
        refine sq_nil ?_
        refine ye 13 ?_
        refine sp ?_
        refine sq_nil ?_
        refine y1 14 ?_
        refine sw hb7 fun H8 hb8 ho8 hl8 => ?_
        refine sq_nil ?_
        refine yd ?_
        exact then_normal ⟨(), _, by rw [rstf_eq]; rfl, .refl _, fin _ _ _ ho7 ho8 (le_copy e.l0 _ _ rfl fun i hi => rfl) rfl ⟨_, hb8, rfl, rfl, rfl, rfl⟩⟩
        refine sq_clone TYok rfl rfl rfl rfl rfl (by decide) (.inr ⟨_, _, rfl⟩) (.lst _ _ _ _) (by show e.l0.length * 8 ≤ _; omega) (by show e.l0.length ≤ _; omega) ?_
        refine sq_nil ?_
        refine y1 0 ?_
        refine sl ?_
        refine sq_nil ?_
        refine ye 10 ?_
        refine sp ?_
        refine sq_nil ?_
        refine ye 11 ?_
        refine sp ?_
        refine sq_nil ?_
        refine y1 12 ?_
        refine sw hbn fun H7 hb7 ho7 hl7 => ?_
        refine sq_nil ?_
        refine ye 13 ?_
        refine sp ?_
        refine sq_nil ?_
        refine y1 14 ?_
        refine sw hb7 fun H8 hb8 ho8 hl8 => ?_
        refine sq_nil ?_
        refine yd ?_
        exact then_normal ⟨(), _, by rw [rstf_eq]; rfl, .refl _, fin _ _ _ ho7 ho8 (le_copy e.l0 _ _ rfl fun i hi => rfl) rfl ⟨_, hb8, rfl, rfl, rfl, rfl⟩⟩
        refine sl ?_
        refine sq_nil ?_
        refine y2 0 2 ?_ ?_
        refine sl ?_
        refine sq_nil ?_
        refine y1 2 ?_
        refine sl ?_
        refine sq_nil ?_
        refine ye 3 ?_
        refine sp ?_
        refine sq_nil ?_
        refine ye 4 ?_
        refine sp ?_
        refine sq_nil ?_
        refine y1 5 ?_
        refine sl ?_
        refine sq_nil ?_
        refine y1 9 ?_
        refine sq_clone TYok rfl rfl rfl rfl rfl (by decide) (.inr ⟨_, _, rfl⟩) (.lst _ _ _ _) (by show e.l0.length * 8 ≤ _; omega) (by show e.l0.length ≤ _; omega) ?_
        refine sq_nil ?_
        refine ye 10 ?_
        refine sp ?_
        refine sq_nil ?_
        refine ye 11 ?_
        refine sp ?_
        refine sq_nil ?_
        refine y1 12 ?_
        refine sw hbn fun H7 hb7 ho7 hl7 => ?_
        refine sq_nil ?_
        refine ye 13 ?_
        refine sp ?_
        refine sq_nil ?_
        refine y1 14 ?_
        refine sw hb7 fun H8 hb8 ho8 hl8 => ?_
        refine sq_nil ?_
        refine yd ?_
        exact then_normal ⟨(), _, by rw [rstf_eq]; rfl, .refl _, fin _ _ _ ho7 ho8 (le_copy e.l0 _ _ rfl fun i hi => rfl) rfl ⟨_, hb8, rfl, rfl, rfl, rfl⟩⟩
        refine sl ?_
        refine sq_nil ?_
        refine ye 3 ?_
        refine sp ?_
        refine sq_nil ?_
        refine ye 4 ?_
        refine sp ?_
        refine sq_nil ?_
        refine y2 0 5 ?_ ?_
        refine sl ?_
        refine sq_nil ?_
        refine y1 5 ?_
        refine sl ?_
        refine sq_nil ?_
        refine y1 9 ?_
        refine sq_clone TYok rfl rfl rfl rfl rfl (by decide) (.inr ⟨_, _, rfl⟩) (.lst _ _ _ _) (by show e.l0.length * 8 ≤ _; omega) (by show e.l0.length ≤ _; omega) ?_
        refine sq_nil ?_
        refine ye 10 ?_
        refine sp ?_
        refine sq_nil ?_
        refine ye 11 ?_
        refine sp ?_
        refine sq_nil ?_
        refine y1 12 ?_
        refine sw hbn fun H7 hb7 ho7 hl7 => ?_
        refine sq_nil ?_
        refine ye 13 ?_
        refine sp ?_
        refine sq_nil ?_
        refine y1 14 ?_
        refine sw hb7 fun H8 hb8 ho8 hl8 => ?_
        refine sq_nil ?_
        refine yd ?_
        exact then_normal ⟨(), _, by rw [rstf_eq]; rfl, .refl _, fin _ _ _ ho7 ho8 (le_copy e.l0 _ _ rfl fun i hi => rfl) rfl ⟨_, hb8, rfl, rfl, rfl, rfl⟩⟩
        refine sl ?_
        refine sq_nil ?_
        refine y2 0 9 ?_ ?_
        refine sl ?_
        refine sq_nil ?_
        refine y1 9 ?_
        refine sq_clone TYok rfl rfl rfl rfl rfl (by decide) (.inr ⟨_, _, rfl⟩) (.lst _ _ _ _) (by show e.l0.length * 8 ≤ _; omega) (by show e.l0.length ≤ _; omega) ?_
        refine sq_nil ?_
        refine ye 10 ?_
        refine sp ?_
        refine sq_nil ?_
        refine ye 11 ?_
        refine sp ?_
        refine sq_nil ?_
        refine y1 12 ?_
        refine sw hbn fun H7 hb7 ho7 hl7 => ?_
        refine sq_nil ?_
        refine ye 13 ?_
        refine sp ?_
        refine sq_nil ?_
        refine y1 14 ?_
        refine sw hb7 fun H8 hb8 ho8 hl8 => ?_
        refine sq_nil ?_
        refine yd ?_
        exact then_normal ⟨(), _, by rw [rstf_eq]; rfl, .refl _, fin _ _ _ ho7 ho8 (le_copy e.l0 _ _ rfl fun i hi => rfl) rfl ⟨_, hb8, rfl, rfl, rfl, rfl⟩⟩
        refine sq_clone TYok rfl rfl rfl rfl rfl (by decide) (.inr ⟨_, _, rfl⟩) (.lst _ _ _ _) (by show e.l0.length * 8 ≤ _; omega) (by show e.l0.length ≤ _; omega) ?_
        refine sq_nil ?_
        refine y1 0 ?_
        refine sl ?_
        refine sq_nil ?_
        refine ye 10 ?_
        refine sp ?_
        refine sq_nil ?_
        refine ye 11 ?_
        refine sp ?_
        refine sq_nil ?_
        refine y1 12 ?_
        refine sw hbn fun H7 hb7 ho7 hl7 => ?_
        refine sq_nil ?_
        refine ye 13 ?_
        refine sp ?_
        refine sq_nil ?_
        refine y1 14 ?_
        refine sw hb7 fun H8 hb8 ho8 hl8 => ?_
        refine sq_nil ?_
        refine yd ?_
        exact then_normal ⟨(), _, by rw [rstf_eq]; rfl, .refl _, fin _ _ _ ho7 ho8 (le_copy e.l0 _ _ rfl fun i hi => rfl) rfl ⟨_, hb8, rfl, rfl, rfl, rfl⟩⟩
      · rintro - H9 ⟨vf, hbx, hfz, hid9, hs9, hl9, hk9⟩
        (repeat' (first | (refine sq_id ?_; first | refine sq_nil ?_ | refine sm ?_ | refine sa ?_ | refine ss ?_ | refine st ?_ | refine sf ?_ | refine sp ?_ | refine sq ?_ | refine sl ?_ | refine si ?_ | refine sx ?_ | refine sy ?_) | (refine rg_id ?_; first | refine rg_fin ?_ | refine rm ?_ | refine ra ?_ | refine rs ?_ | refine rt ?_ | refine rf ?_ | refine rp ?_ | refine rq ?_ | refine rl ?_ | refine ri ?_ | refine rx ?_ | refine ry ?_) | refine aw_rseq ?_ | refine aw_seq ?_ | refine aw_region ?_ | refine aw_skip ?_ | refine ct ?_ | refine cf ?_ | refine d0s ?_ | refine d0r ?_ | refine aw_block ?_ | refine aw_exit ?_ | refine then_ret ?_ | refine then_exit ?_ | refine then_normal ?_ | refine blk_ret ?_ | refine blk_normal ?_ | refine blk_exit ?_ | refine blk_pass rfl ?_))
        ((try refine aw_ret ?_); (repeat (first | refine then_ret ?_ | refine blk_ret ?_)); refine fin_t True.intro rfl rfl ?_)
        refine ⟨rfl, .inr ⟨hbl, vf, hbx, hfz, hid9, hs9, by omega, fun x hx x1 x2 x3 => ?_⟩⟩
        rw [hk9 x (by omega) x1 x1, List.append_nil, ho5.2 x (by omega) (by simp; omega), ho4.2 x (by omega) (by simp; omega), ho3.2 x (by omega) (by simp; omega), ho1.2 x hx (by simp)]
  · (repeat' (first | (refine sq_id ?_; first | refine sq_nil ?_ | refine sm ?_ | refine sa ?_ | refine ss ?_ | refine st ?_ | refine sf ?_ | refine sp ?_ | refine sq ?_ | refine sl ?_ | refine si ?_ | refine sx ?_ | refine sy ?_) | (refine rg_id ?_; first | refine rg_fin ?_ | refine rm ?_ | refine ra ?_ | refine rs ?_ | refine rt ?_ | refine rf ?_ | refine rp ?_ | refine rq ?_ | refine rl ?_ | refine ri ?_ | refine rx ?_ | refine ry ?_) | refine aw_rseq ?_ | refine aw_seq ?_ | refine aw_region ?_ | refine aw_skip ?_ | refine ct ?_ | refine cf ?_ | refine d0s ?_ | refine d0r ?_ | refine aw_block ?_ | refine aw_exit ?_ | refine then_ret ?_ | refine then_exit ?_ | refine then_normal ?_ | refine blk_ret ?_ | refine blk_normal ?_ | refine blk_exit ?_ | refine blk_pass rfl ?_))
    ((try refine aw_ret ?_); (repeat (first | refine then_ret ?_ | refine blk_ret ?_)); refine fin_t True.intro rfl rfl ?_)
    exact ⟨rfl, .inl ⟨by unfold blockedB behindB; rw [hB]; rfl, ho1⟩⟩
set_option maxHeartbeats 4000000 in
theorem adv1M_s (e : Ep) (hbd : Bd e) (hr : RightE e) (hk : (e.now + 2) % 3 = 1) (H : AH) (id bis : Nat) (m : Nat) (hb : H[id]? = some (some (ebk [.i e.now, ints e.pins, ints e.l0, ints e.l1, ints e.l2, .arr m 1 0 e.free.length]))) (hm : H[m]? = some (some (iblk e.free))) (hne : m ≠ id) (hsm : bis ≠ m) (hf0 : 0 < e.free.length) (hs : H[bis]? = some (some (bbox false))) (hsi : bis ≠ id) :
    SC true Try.prog 40 [.ref id 6 0 0, .ref bis 1 0 0] H (AdvPost e H id bis m (fun v => [.i (e.now + 1), ints e.pins, ints e.l0, .p (.slice none 0 0), ints e.l2, v]) e.l1) := by
  obtain ⟨hb1, hb2⟩ := hbd
  have hk2 : (e.now + 1 + 1) % 3 = 1 := by omega
  have hr' := hr
  obtain ⟨hnP, _⟩ := hr'
  have hnP' := hnP
  obtain ⟨n0, n1⟩ := hnP'
  have hil := (List.getElem?_eq_some_iff.1 hb).1
  have hsl := (List.getElem?_eq_some_iff.1 hs).1
  have hml := (List.getElem?_eq_some_iff.1 hm).1
  refine sc_in TYok Try.func40 (by kernel_rfl) Try.ntmps40 rfl rfl rfl ?_
  refine aw_seq ?_
  refine aw_region ?_
  refine nw fun H1 hp1 ho1 hl1 => ?_
  have hbb := ho1.get0 hb
  have hss := ho1.get0 hs
  have hmm := ho1.get0 hm
  have hcf := containsfunc_s e.pins 41 [.ref H.length 1 0 0] (fun p => decide (p ≠ 0 ∧ p ≠ e.now + 1)) (by omega) H1 (.lst false e.pins) (fun x hx => behind_s x e.now hnP H1 hbb hp1)
  (repeat' (first | (refine sq_id ?_; first | refine sq_nil ?_ | refine sm ?_ | refine sa ?_ | refine ss ?_ | refine st ?_ | refine sf ?_ | refine sp ?_ | refine sq ?_ | refine sl ?_ | refine si ?_ | refine sx ?_ | refine sy ?_) | (refine rg_id ?_; first | refine rg_fin ?_ | refine rm ?_ | refine ra ?_ | refine rs ?_ | refine rt ?_ | refine rf ?_ | refine rp ?_ | refine rq ?_ | refine rl ?_ | refine ri ?_ | refine rx ?_ | refine ry ?_) | refine aw_rseq ?_ | refine aw_seq ?_ | refine aw_region ?_ | refine aw_skip ?_ | refine ct ?_ | refine cf ?_ | refine d0s ?_ | refine d0r ?_ | refine aw_block ?_ | refine aw_exit ?_ | refine then_ret ?_ | refine then_exit ?_ | refine then_normal ?_ | refine blk_ret ?_ | refine blk_normal ?_ | refine blk_exit ?_ | refine blk_pass rfl ?_))
  refine sq_call rfl rfl rfl (LeL.refl _) (hcf.mono fun r H2 he => ?_)
  obtain ⟨rfl, rfl⟩ := he
  cases hB : e.pins.any fun p => decide (p ≠ 0 ∧ p ≠ e.now + 1)
  · by_cases hx : e.now = 1099511627776
    · (repeat' (first | (refine sq_id ?_; first | refine sq_nil ?_ | refine sm ?_ | refine sa ?_ | refine ss ?_ | refine st ?_ | refine sf ?_ | refine sp ?_ | refine sq ?_ | refine sl ?_ | refine si ?_ | refine sx ?_ | refine sy ?_) | (refine rg_id ?_; first | refine rg_fin ?_ | refine rm ?_ | refine ra ?_ | refine rs ?_ | refine rt ?_ | refine rf ?_ | refine rp ?_ | refine rq ?_ | refine rl ?_ | refine ri ?_ | refine rx ?_ | refine ry ?_) | refine aw_rseq ?_ | refine aw_seq ?_ | refine aw_region ?_ | refine aw_skip ?_ | refine ct ?_ | refine cf ?_ | refine d0s ?_ | refine d0r ?_ | refine aw_block ?_ | refine aw_exit ?_ | refine then_ret ?_ | refine then_exit ?_ | refine then_normal ?_ | refine blk_ret ?_ | refine blk_normal ?_ | refine blk_exit ?_ | refine blk_pass rfl ?_))
      ((try refine aw_ret ?_); (repeat (first | refine then_ret ?_ | refine blk_ret ?_)); refine fin_t True.intro rfl rfl ?_)
      exact ⟨rfl, .inl ⟨by unfold blockedB behindB; rw [hB, decide_eq_true hx]; rfl, ho1⟩⟩
    · have hbl : blockedB e = false := by unfold blockedB behindB; rw [hB, decide_eq_false hx]; rfl
      (repeat' (first | (refine sq_id ?_; first | refine sq_nil ?_ | refine sm ?_ | refine sa ?_ | refine ss ?_ | refine st ?_ | refine sf ?_ | refine sp ?_ | refine sq ?_ | refine sl ?_ | refine si ?_ | refine sx ?_ | refine sy ?_) | (refine rg_id ?_; first | refine rg_fin ?_ | refine rm ?_ | refine ra ?_ | refine rs ?_ | refine rt ?_ | refine rf ?_ | refine rp ?_ | refine rq ?_ | refine rl ?_ | refine ri ?_ | refine rx ?_ | refine ry ?_) | refine aw_rseq ?_ | refine aw_seq ?_ | refine aw_region ?_ | refine aw_skip ?_ | refine ct ?_ | refine cf ?_ | refine d0s ?_ | refine d0r ?_ | refine aw_block ?_ | refine aw_exit ?_ | refine then_ret ?_ | refine then_exit ?_ | refine then_normal ?_ | refine blk_ret ?_ | refine blk_normal ?_ | refine blk_exit ?_ | refine blk_pass rfl ?_))
      refine sw hss fun H3 hs3 ho3 hl3 => ?_
      have hb3 := ho3.get hbb (by simp; omega)
      have hp3 := ho3.get hp1 (by simp; omega)
      have hm3 := ho3.get hmm (by simp; omega)
      (repeat' (first | (refine sq_id ?_; first | refine sq_nil ?_ | refine sm ?_ | refine sa ?_ | refine ss ?_ | refine st ?_ | refine sf ?_ | refine sp ?_ | refine sq ?_ | refine sl ?_ | refine si ?_ | refine sx ?_ | refine sy ?_) | (refine rg_id ?_; first | refine rg_fin ?_ | refine rm ?_ | refine ra ?_ | refine rs ?_ | refine rt ?_ | refine rf ?_ | refine rp ?_ | refine rq ?_ | refine rl ?_ | refine ri ?_ | refine rx ?_ | refine ry ?_) | refine aw_rseq ?_ | refine aw_seq ?_ | refine aw_region ?_ | refine aw_skip ?_ | refine ct ?_ | refine cf ?_ | refine d0s ?_ | refine d0r ?_ | refine aw_block ?_ | refine aw_exit ?_ | refine then_ret ?_ | refine then_exit ?_ | refine then_normal ?_ | refine blk_ret ?_ | refine blk_normal ?_ | refine blk_exit ?_ | refine blk_pass rfl ?_))
      refine sw hb3 fun H4 hb4 ho4 hl4 => ?_
      have hs4 := ho4.get hs3 (by simp; omega)
      have hp4 := ho4.get hp3 (by simp; omega)
      have hm4 := ho4.get hm3 (by simp; omega)
      refine sq_nil ?_
      refine aw_norm id (ebk [.i (e.now + 1), ints e.pins, ints e.l0, ints e.l1, ints e.l2, .arr m 1 0 e.free.length]) hb4 rfl rfl rfl (one_of rfl rfl) fun H5 hb5 ho5 hl5 => ?_
      have hs5 := ho5.get hs4 (by simp; omega)
      have hp5 := ho5.get hp4 (by simp; omega)
      have hm5 := ho5.get hm4 (by simp; omega)
      have hlen5 : H5.length = H.length + 1 := by omega
      have hbn := nil_at hb5
      have hpn := nil_at hp5
      refine aw_seq ?_
      refine d0r ?_
      (repeat' (first | (refine sq_id ?_; first | refine rg_remk TYok TYz rfl rfl rfl rfl sd hk2 ?_ | refine sq_nil ?_ | refine sm ?_ | refine sa ?_ | refine ss ?_ | refine st ?_ | refine sf ?_ | refine sp ?_ | refine sq ?_ | refine sl ?_ | refine si ?_ | refine sx ?_ | refine sy ?_) | (refine rg_id ?_; first | refine rg_remk TYok TYz rfl rfl rfl rfl sd hk2 ?_ | refine rg_fin ?_ | refine rm ?_ | refine ra ?_ | refine rs ?_ | refine rt ?_ | refine rf ?_ | refine rp ?_ | refine rq ?_ | refine rl ?_ | refine ri ?_ | refine rx ?_ | refine ry ?_)))
      refine then_normal ?_
      refine aw_seq ?_
      have hlen5' : (H5 ++ []).length = H.length + 1 := by simp; omega
      refine aw_mid [] (fun _ : Unit => []) (fun _ H' => ∃ vf, IsBox H' id [.i (e.now + 1), ints e.pins, ints e.l0, .p (.slice none 0 0), ints e.l2, vf] ∧ FzL H' vf (e.free ++ e.l1) ∧ (∀ id', accId vf = some id' → (id' = m ∨ H.length ≤ id') ∧ id' < H'.length) ∧ IsOne H' bis 4 (.b true) ∧ (H5 ++ []).length ≤ H'.length ∧ ∀ x, x < (H5 ++ []).length → x ≠ id → x ≠ m → H'[x]? = (H5 ++ [])[x]?) ?_ ?_
      ·
        have hmn := nil_at hm5
        have fin : ∀ (id' : Nat) (b' : Blk) (H6 H7 H8 : AH), H6[id']? = some (some b') → b'.ety = 3 → b'.sz = 1 → b'.n = e.free.length + e.l1.length → (∀ j, j < e.free.length + e.l1.length → b'.g j = if j < e.free.length then [.i (e.free.getD j 0)] else [.i (e.l1.getD (j - e.free.length) 0)]) → Oth (H5 ++ []) H6 (some m) → (id' = m ∨ H.length ≤ id') → id' ≠ id → Oth H6 H7 (some id) → Oth H7 H8 (some id) → IsBox H8 id [.i (e.now + 1), ints e.pins, ints e.l0, .p (.slice none 0 0), ints e.l2, .arr id' 1 0 (e.free.length + e.l1.length)] → ∃ vf, IsBox H8 id [.i (e.now + 1), ints e.pins, ints e.l0, .p (.slice none 0 0), ints e.l2, vf] ∧ FzL H8 vf (e.free ++ e.l1) ∧ (∀ id', accId vf = some id' → (id' = m ∨ H.length ≤ id') ∧ id' < H8.length) ∧ IsOne H8 bis 4 (.b true) ∧ (H5 ++ []).length ≤ H8.length ∧ ∀ x, x < (H5 ++ []).length → x ≠ id → x ≠ m → H8[x]? = (H5 ++ [])[x]? := by
          intro id' b' H6 H7 H8 hb' q1 q2 q3 q4 ho6 hid7 hni ho7 ho8 hbx
          exact ⟨_, hbx, fzL_arr (ho8.get (ho7.get hb' (by simp; omega)) (by simp; omega)) q1 q2 q3 (by rw [List.length_append]) (fun j hj => (q4 j hj).trans (app_cell e.free e.l1 j)), (fun i hi => by cases hi; exact ⟨hid7, Nat.lt_of_lt_of_le (List.getElem?_eq_some_iff.1 hb').1 (Nat.le_trans ho7.1 ho8.1)⟩), ⟨_, ho8.get (ho7.get (ho6.get (nil_at hs5) (by simp; omega)) (by simp; omega)) (by simp; omega), rfl, rfl, rfl, rfl⟩, Nat.le_trans ho6.1 (Nat.le_trans ho7.1 ho8.1), fun x hx x1 x2 => by rw [ho8.2 x (Nat.lt_of_lt_of_le hx (Nat.le_trans ho6.1 ho7.1)) (by simp; omega), ho7.2 x (Nat.lt_of_lt_of_le hx ho6.1) (by simp; omega), ho6.2 x hx (by simp; omega)]⟩
        refine yall 15 ?_
        refine ye 1 ?_
        refine sm ?_
        refine sq_nil ?_
        refine ye 6 ?_
        refine sm ?_
        refine sq_nil ?_
        refine ye 7 ?_
        refine sp ?_
        refine sq_nil ?_
        refine y3 0 2 8 ?_ ?_ ?_
        first | refine sl ?_ | refine sq_load TYok rfl rfl rfl (ho6.get hpn (by simp; omega)) (by rfl) Nat.zero_lt_one (by rfl) ?_
        refine sq_nil ?_
        refine y2 2 8 ?_ ?_
        refine sl ?_
        refine sq_nil ?_
        refine ye 3 ?_
        refine sp ?_
        refine sq_nil ?_
        refine ye 4 ?_
        refine sp ?_
        refine sq_nil ?_
        refine y2 5 8 ?_ ?_
        refine sl ?_
        refine sq_nil ?_
        refine y1 8 ?_
        refine sl ?_
        refine sq_nil ?_
        refine y1 9 ?_
        refine sq_appa TYok TYz rfl rfl rfl rfl rfl rfl rfl (by decide) (.inr ⟨m, _, Nat.zero_le _, rfl, hmn, rfl, rfl, rfl, fun _ _ => rfl⟩) (.lst _ _ _ _) (by omega) (by show (e.free.length + e.l1.length) * 8 ≤ _; omega) (by show e.free.length + e.l1.length ≤ _; omega) fun id' b' H6 hb' q1 q2 q3 q4 ho6 hi6 => ?_
        have hid7 : id' = m ∨ (H5 ++ []).length ≤ id' := hi6.elim (fun h => .inl (Option.some.inj h)) .inr
        have ho6 : Oth (H5 ++ []) H6 (some m) := ho6
        refine sq_nil ?_
        refine ye 10 ?_
        refine sp ?_
        refine sq_nil ?_
        refine ye 11 ?_
        refine sp ?_
        refine sq_nil ?_
        refine y1 12 ?_
        refine sw (ho6.get hbn (by simp; omega)) fun H7 hb7 ho7 hl7 => ?_
        refine sq_nil ?_
        refine ye 13 ?_
        refine sp ?_
        refine sq_nil ?_
        refine y1 14 ?_
        refine sw hb7 fun H8 hb8 ho8 hl8 => ?_
        refine sq_nil ?_
        refine yd ?_
        exact then_normal ⟨(), _, by rw [rstf_eq]; rfl, .refl _, fin _ _ _ _ _ hb' q1 q2 q3 q4 ho6 (by omega) (by omega) ho7 ho8 ⟨_, hb8, rfl, rfl, rfl, rfl⟩⟩
        refine sl ?_
        refine sq_nil ?_
        refine y1 5 ?_
        refine sl ?_
        refine sq_nil ?_
        refine y1 9 ?_
        refine sq_appa TYok TYz rfl rfl rfl rfl rfl rfl rfl (by decide) (.inr ⟨m, _, Nat.zero_le _, rfl, hmn, rfl, rfl, rfl, fun _ _ => rfl⟩) (.lst _ _ _ _) (by omega) (by show (e.free.length + e.l1.length) * 8 ≤ _; omega) (by show e.free.length + e.l1.length ≤ _; omega) fun id' b' H6 hb' q1 q2 q3 q4 ho6 hi6 => ?_
        have hid7 : id' = m ∨ (H5 ++ []).length ≤ id' := hi6.elim (fun h => .inl (Option.some.inj h)) .inr
        have ho6 : Oth (H5 ++ []) H6 (some m) := ho6
        refine sq_nil ?_
        refine ye 10 ?_
        refine sp ?_
        refine sq_nil ?_
        refine ye 11 ?_
        refine sp ?_
        refine sq_nil ?_
        refine y1 12 ?_
        refine sw (ho6.get hbn (by simp; omega)) fun H7 hb7 ho7 hl7 => ?_
        refine sq_nil ?_
        refine ye 13 ?_
        refine sp ?_
        refine sq_nil ?_
        refine y1 14 ?_
        refine sw hb7 fun H8 hb8 ho8 hl8 => ?_
        refine sq_nil ?_
        refine yd ?_
        exact then_normal ⟨(), _, by rw [rstf_eq]; rfl, .refl _, fin _ _ _ _ _ hb' q1 q2 q3 q4 ho6 (by omega) (by omega) ho7 ho8 ⟨_, hb8, rfl, rfl, rfl, rfl⟩⟩
        refine sl ?_
        refine sq_nil ?_
        refine y1 2 ?_
        refine sl ?_
        refine sq_nil ?_
        refine ye 3 ?_
        refine sp ?_
        refine sq_nil ?_
        refine ye 4 ?_
        refine sp ?_
        refine sq_nil ?_
        refine y1 5 ?_
        refine sl ?_
        refine sq_nil ?_
        refine y1 9 ?_
        refine sq_appa TYok TYz rfl rfl rfl rfl rfl rfl rfl (by decide) (.inr ⟨m, _, Nat.zero_le _, rfl, hmn, rfl, rfl, rfl, fun _ _ => rfl⟩) (.lst _ _ _ _) (by omega) (by show (e.free.length + e.l1.length) * 8 ≤ _; omega) (by show e.free.length + e.l1.length ≤ _; omega) fun id' b' H6 hb' q1 q2 q3 q4 ho6 hi6 => ?_
        have hid7 : id' = m ∨ (H5 ++ []).length ≤ id' := hi6.elim (fun h => .inl (Option.some.inj h)) .inr
        have ho6 : Oth (H5 ++ []) H6 (some m) := ho6
        refine sq_nil ?_
        refine ye 10 ?_
        refine sp ?_
        refine sq_nil ?_
        refine ye 11 ?_
        refine sp ?_
        refine sq_nil ?_
        refine y1 12 ?_
        refine sw (ho6.get hbn (by simp; omega)) fun H7 hb7 ho7 hl7 => ?_
        refine sq_nil ?_
        refine ye 13 ?_
        refine sp ?_
        refine sq_nil ?_
        refine y1 14 ?_
        refine sw hb7 fun H8 hb8 ho8 hl8 => ?_
        refine sq_nil ?_
        refine yd ?_
        exact then_normal ⟨(), _, by rw [rstf_eq]; rfl, .refl _, fin _ _ _ _ _ hb' q1 q2 q3 q4 ho6 (by omega) (by omega) ho7 ho8 ⟨_, hb8, rfl, rfl, rfl, rfl⟩⟩
        refine sl ?_
        refine sq_nil ?_
        refine ye 3 ?_
        refine sp ?_
        refine sq_nil ?_
        refine ye 4 ?_
        refine sp ?_
        refine sq_nil ?_
        refine y3 0 5 8 ?_ ?_ ?_
        first | refine sl ?_ | refine sq_load TYok rfl rfl rfl (ho6.get hpn (by simp; omega)) (by rfl) Nat.zero_lt_one (by rfl) ?_
        refine sq_nil ?_
        refine y2 5 8 ?_ ?_
        refine sl ?_
        refine sq_nil ?_
        refine y1 8 ?_
        refine sl ?_
        refine sq_nil ?_
        refine y1 9 ?_
        refine sq_appa TYok TYz rfl rfl rfl rfl rfl rfl rfl (by decide) (.inr ⟨m, _, Nat.zero_le _, rfl, hmn, rfl, rfl, rfl, fun _ _ => rfl⟩) (.lst _ _ _ _) (by omega) (by show (e.free.length + e.l1.length) * 8 ≤ _; omega) (by show e.free.length + e.l1.length ≤ _; omega) fun id' b' H6 hb' q1 q2 q3 q4 ho6 hi6 => ?_
        have hid7 : id' = m ∨ (H5 ++ []).length ≤ id' := hi6.elim (fun h => .inl (Option.some.inj h)) .inr
        have ho6 : Oth (H5 ++ []) H6 (some m) := ho6
        refine sq_nil ?_
        refine ye 10 ?_
        refine sp ?_
        refine sq_nil ?_
        refine ye 11 ?_
        refine sp ?_
        refine sq_nil ?_
        refine y1 12 ?_
        refine sw (ho6.get hbn (by simp; omega)) fun H7 hb7 ho7 hl7 => ?_
        refine sq_nil ?_
        refine ye 13 ?_
        refine sp ?_
        refine sq_nil ?_
        refine y1 14 ?_
        refine sw hb7 fun H8 hb8 ho8 hl8 => ?_
        refine sq_nil ?_
        refine yd ?_
        exact then_normal ⟨(), _, by rw [rstf_eq]; rfl, .refl _, fin _ _ _ _ _ hb' q1 q2 q3 q4 ho6 (by omega) (by omega) ho7 ho8 ⟨_, hb8, rfl, rfl, rfl, rfl⟩⟩
        refine sl ?_
        refine sq_nil ?_
        refine y1 5 ?_
        refine sl ?_
        refine sq_nil ?_
        refine y1 9 ?_
        refine sq_appa TYok TYz rfl rfl rfl rfl rfl rfl rfl (by decide) (.inr ⟨m, _, Nat.zero_le _, rfl, hmn, rfl, rfl, rfl, fun _ _ => rfl⟩) (.lst _ _ _ _) (by omega) (by show (e.free.length + e.l1.length) * 8 ≤ _; omega) (by show e.free.length + e.l1.length ≤ _; omega) fun id' b' H6 hb' q1 q2 q3 q4 ho6 hi6 => ?_
        have hid7 : id' = m ∨ (H5 ++ []).length ≤ id' := hi6.elim (fun h => .inl (Option.some.inj h)) .inr
        have ho6 : Oth (H5 ++ []) H6 (some m) := ho6
        refine sq_nil ?_
        refine ye 10 ?_
        refine sp ?_
        refine sq_nil ?_
        refine ye 11 ?_
        refine sp ?_
        refine sq_nil ?_
        refine y1 12 ?_
        refine sw (ho6.get hbn (by simp; omega)) fun H7 hb7 ho7 hl7 => ?_
        refine sq_nil ?_
        refine ye 13 ?_
        refine sp ?_
        refine sq_nil ?_
        refine y1 14 ?_
        refine sw hb7 fun H8 hb8 ho8 hl8 => ?_
        refine sq_nil ?_
        refine yd ?_
        exact then_normal ⟨(), _, by rw [rstf_eq]; rfl, .refl _, fin _ _ _ _ _ hb' q1 q2 q3 q4 ho6 (by omega) (by omega) ho7 ho8 ⟨_, hb8, rfl, rfl, rfl, rfl⟩⟩
        refine sl ?_
        refine sq_nil ?_
        refine y2 0 8 ?_ ?_
        first | refine sl ?_ | refine sq_load TYok rfl rfl rfl (ho6.get hpn (by simp; omega)) (by rfl) Nat.zero_lt_one (by rfl) ?_
        refine sq_nil ?_
        refine y1 8 ?_
        refine sl ?_
        refine sq_nil ?_
        refine y1 9 ?_
        refine sq_appa TYok TYz rfl rfl rfl rfl rfl rfl rfl (by decide) (.inr ⟨m, _, Nat.zero_le _, rfl, hmn, rfl, rfl, rfl, fun _ _ => rfl⟩) (.lst _ _ _ _) (by omega) (by show (e.free.length + e.l1.length) * 8 ≤ _; omega) (by show e.free.length + e.l1.length ≤ _; omega) fun id' b' H6 hb' q1 q2 q3 q4 ho6 hi6 => ?_
        have hid7 : id' = m ∨ (H5 ++ []).length ≤ id' := hi6.elim (fun h => .inl (Option.some.inj h)) .inr
        have ho6 : Oth (H5 ++ []) H6 (some m) := ho6
        refine sq_nil ?_
        refine ye 10 ?_
        refine sp ?_
        refine sq_nil ?_
        refine ye 11 ?_
        refine sp ?_
        refine sq_nil ?_
        refine y1 12 ?_
        refine sw (ho6.get hbn (by simp; omega)) fun H7 hb7 ho7 hl7 => ?_
        refine sq_nil ?_
        refine ye 13 ?_
        refine sp ?_
        refine sq_nil ?_
        refine y1 14 ?_
        refine sw hb7 fun H8 hb8 ho8 hl8 => ?_
        refine sq_nil ?_
        refine yd ?_
        exact then_normal ⟨(), _, by rw [rstf_eq]; rfl, .refl _, fin _ _ _ _ _ hb' q1 q2 q3 q4 ho6 (by omega) (by omega) ho7 ho8 ⟨_, hb8, rfl, rfl, rfl, rfl⟩⟩
        refine sl ?_
        refine sq_nil ?_
        refine y2 0 9 ?_ ?_
        first | refine sl ?_ | refine sq_load TYok rfl rfl rfl (ho6.get hpn (by simp; omega)) (by rfl) Nat.zero_lt_one (by rfl) ?_
        refine sq_nil ?_
        refine y1 9 ?_
        refine sq_appa TYok TYz rfl rfl rfl rfl rfl rfl rfl (by decide) (.inr ⟨m, _, Nat.zero_le _, rfl, hmn, rfl, rfl, rfl, fun _ _ => rfl⟩) (.lst _ _ _ _) (by omega) (by show (e.free.length + e.l1.length) * 8 ≤ _; omega) (by show e.free.length + e.l1.length ≤ _; omega) fun id' b' H6 hb' q1 q2 q3 q4 ho6 hi6 => ?_
        have hid7 : id' = m ∨ (H5 ++ []).length ≤ id' := hi6.elim (fun h => .inl (Option.some.inj h)) .inr
        have ho6 : Oth (H5 ++ []) H6 (some m) := ho6
        refine sq_nil ?_
        refine ye 10 ?_
        refine sp ?_
        refine sq_nil ?_
        refine ye 11 ?_
        refine sp ?_
        refine sq_nil ?_
        refine y1 12 ?_
        refine sw (ho6.get hbn (by simp; omega)) fun H7 hb7 ho7 hl7 => ?_
        refine sq_nil ?_
        refine ye 13 ?_
        refine sp ?_
        refine sq_nil ?_
        refine y1 14 ?_
        refine sw hb7 fun H8 hb8 ho8 hl8 => ?_
        refine sq_nil ?_
        refine yd ?_
        exact then_normal ⟨(), _, by rw [rstf_eq]; rfl, .refl _, fin _ _ _ _ _ hb' q1 q2 q3 q4 ho6 (by omega) (by omega) ho7 ho8 ⟨_, hb8, rfl, rfl, rfl, rfl⟩⟩
        refine sq_appa TYok TYz rfl rfl rfl rfl rfl rfl rfl (by decide) (.inr ⟨m, _, Nat.zero_le _, rfl, hmn, rfl, rfl, rfl, fun _ _ => rfl⟩) (.lst _ _ _ _) (by omega) (by show (e.free.length + e.l1.length) * 8 ≤ _; omega) (by show e.free.length + e.l1.length ≤ _; omega) fun id' b' H6 hb' q1 q2 q3 q4 ho6 hi6 => ?_
        have hid7 : id' = m ∨ (H5 ++ []).length ≤ id' := hi6.elim (fun h => .inl (Option.some.inj h)) .inr
        have ho6 : Oth (H5 ++ []) H6 (some m) := ho6
        refine sq_nil ?_
        refine y1 0 ?_
        first | refine sl ?_ | refine sq_load TYok rfl rfl rfl (ho6.get hpn (by simp; omega)) (by rfl) Nat.zero_lt_one (by rfl) ?_
        refine sq_nil ?_
        refine ye 10 ?_
        refine sp ?_
        refine sq_nil ?_
        refine ye 11 ?_
        refine sp ?_
        refine sq_nil ?_
        refine y1 12 ?_
        refine sw (ho6.get hbn (by simp; omega)) fun H7 hb7 ho7 hl7 => ?_
        refine sq_nil ?_
        refine ye 13 ?_
        refine sp ?_
        refine sq_nil ?_
        refine y1 14 ?_
        refine sw hb7 fun H8 hb8 ho8 hl8 => ?_
        refine sq_nil ?_
        refine yd ?_
        exact then_normal ⟨(), _, by rw [rstf_eq]; rfl, .refl _, fin _ _ _ _ _ hb' q1 q2 q3 q4 ho6 (by omega) (by omega) ho7 ho8 ⟨_, hb8, rfl, rfl, rfl, rfl⟩⟩
        refine sl ?_
        refine sq_nil ?_
        refine y2 0 5 ?_ ?_
        first | refine sl ?_ | refine sq_load TYok rfl rfl rfl (ho6.get hpn (by simp; omega)) (by rfl) Nat.zero_lt_one (by rfl) ?_
        refine sq_nil ?_
        refine y1 5 ?_
        refine sl ?_
        refine sq_nil ?_
        refine y1 9 ?_
        refine sq_appa TYok TYz rfl rfl rfl rfl rfl rfl rfl (by decide) (.inr ⟨m, _, Nat.zero_le _, rfl, hmn, rfl, rfl, rfl, fun _ _ => rfl⟩) (.lst _ _ _ _) (by omega) (by show (e.free.length + e.l1.length) * 8 ≤ _; omega) (by show e.free.length + e.l1.length ≤ _; omega) fun id' b' H6 hb' q1 q2 q3 q4 ho6 hi6 => ?_
        have hid7 : id' = m ∨ (H5 ++ []).length ≤ id' := hi6.elim (fun h => .inl (Option.some.inj h)) .inr
        have ho6 : Oth (H5 ++ []) H6 (some m) := ho6
        refine sq_nil ?_
        refine ye 10 ?_
        refine sp ?_
        refine sq_nil ?_
        refine ye 11 ?_
        refine sp ?_
        refine sq_nil ?_
        refine y1 12 ?_
        refine sw (ho6.get hbn (by simp; omega)) fun H7 hb7 ho7 hl7 => ?_
        refine sq_nil ?_
        refine ye 13 ?_
        refine sp ?_
        refine sq_nil ?_
        refine y1 14 ?_
        refine sw hb7 fun H8 hb8 ho8 hl8 => ?_
        refine sq_nil ?_
        refine yd ?_
        exact then_normal ⟨(), _, by rw [rstf_eq]; rfl, .refl _, fin _ _ _ _ _ hb' q1 q2 q3 q4 ho6 (by omega) (by omega) ho7 ho8 ⟨_, hb8, rfl, rfl, rfl, rfl⟩⟩
        refine sl ?_
        refine sq_nil ?_
        refine y2 0 9 ?_ ?_
        first | refine sl ?_ | refine sq_load TYok rfl rfl rfl (ho6.get hpn (by simp; omega)) (by rfl) Nat.zero_lt_one (by rfl) ?_
        refine sq_nil ?_
        refine y1 9 ?_
        refine sq_appa TYok TYz rfl rfl rfl rfl rfl rfl rfl (by decide) (.inr ⟨m, _, Nat.zero_le _, rfl, hmn, rfl, rfl, rfl, fun _ _ => rfl⟩) (.lst _ _ _ _) (by omega) (by show (e.free.length + e.l1.length) * 8 ≤ _; omega) (by show e.free.length + e.l1.length ≤ _; omega) fun id' b' H6 hb' q1 q2 q3 q4 ho6 hi6 => ?_
        have hid7 : id' = m ∨ (H5 ++ []).length ≤ id' := hi6.elim (fun h => .inl (Option.some.inj h)) .inr
        have ho6 : Oth (H5 ++ []) H6 (some m) := ho6
        refine sq_nil ?_
        refine ye 10 ?_
        refine sp ?_
        refine sq_nil ?_
        refine ye 11 ?_
        refine sp ?_
        refine sq_nil ?_
        refine y1 12 ?_
        refine sw (ho6.get hbn (by simp; omega)) fun H7 hb7 ho7 hl7 => ?_
        refine sq_nil ?_
        refine ye 13 ?_
        refine sp ?_
        refine sq_nil ?_
        refine y1 14 ?_
        refine sw hb7 fun H8 hb8 ho8 hl8 => ?_
        refine sq_nil ?_
        refine yd ?_
        exact then_normal ⟨(), _, by rw [rstf_eq]; rfl, .refl _, fin _ _ _ _ _ hb' q1 q2 q3 q4 ho6 (by omega) (by omega) ho7 ho8 ⟨_, hb8, rfl, rfl, rfl, rfl⟩⟩
        refine sq_appa TYok TYz rfl rfl rfl rfl rfl rfl rfl (by decide) (.inr ⟨m, _, Nat.zero_le _, rfl, hmn, rfl, rfl, rfl, fun _ _ => rfl⟩) (.lst _ _ _ _) (by omega) (by show (e.free.length + e.l1.length) * 8 ≤ _; omega) (by show e.free.length + e.l1.length ≤ _; omega) fun id' b' H6 hb' q1 q2 q3 q4 ho6 hi6 => ?_
        have hid7 : id' = m ∨ (H5 ++ []).length ≤ id' := hi6.elim (fun h => .inl (Option.some.inj h)) .inr
        have ho6 : Oth (H5 ++ []) H6 (some m) := ho6
        refine sq_nil ?_
        refine y1 0 ?_
        first | refine sl ?_ | refine sq_load TYok rfl rfl rfl (ho6.get hpn (by simp; omega)) (by rfl) Nat.zero_lt_one (by rfl) ?_
        refine sq_nil ?_
        refine ye 10 ?_
        refine sp ?_
        refine sq_nil ?_
        refine ye 11 ?_
        refine sp ?_
        refine sq_nil ?_
        refine y1 12 ?_
        refine sw (ho6.get hbn (by simp; omega)) fun H7 hb7 ho7 hl7 => ?_
        refine sq_nil ?_
        refine ye 13 ?_
        refine sp ?_
        refine sq_nil ?_
        refine y1 14 ?_
        refine sw hb7 fun H8 hb8 ho8 hl8 => ?_
        refine sq_nil ?_
        refine yd ?_
        exact then_normal ⟨(), _, by rw [rstf_eq]; rfl, .refl _, fin _ _ _ _ _ hb' q1 q2 q3 q4 ho6 (by omega) (by omega) ho7 ho8 ⟨_, hb8, rfl, rfl, rfl, rfl⟩⟩
        refine sl ?_
        refine sq_nil ?_
        refine y2 0 2 ?_ ?_
        first | refine sl ?_ | refine sq_load TYok rfl rfl rfl (ho6.get hpn (by simp; omega)) (by rfl) Nat.zero_lt_one (by rfl) ?_
        refine sq_nil ?_
        refine y1 2 ?_
        refine sl ?_
        refine sq_nil ?_
        refine ye 3 ?_
        refine sp ?_
        refine sq_nil ?_
        refine ye 4 ?_
        refine sp ?_
        refine sq_nil ?_
        refine y1 5 ?_
        refine sl ?_
        refine sq_nil ?_
        refine y1 9 ?_
        refine sq_appa TYok TYz rfl rfl rfl rfl rfl rfl rfl (by decide) (.inr ⟨m, _, Nat.zero_le _, rfl, hmn, rfl, rfl, rfl, fun _ _ => rfl⟩) (.lst _ _ _ _) (by omega) (by show (e.free.length + e.l1.length) * 8 ≤ _; omega) (by show e.free.length + e.l1.length ≤ _; omega) fun id' b' H6 hb' q1 q2 q3 q4 ho6 hi6 => ?_
        have hid7 : id' = m ∨ (H5 ++ []).length ≤ id' := hi6.elim (fun h => .inl (Option.some.inj h)) .inr
        have ho6 : Oth (H5 ++ []) H6 (some m) := ho6
        refine sq_nil ?_
        refine ye 10 ?_
        refine sp ?_
        refine sq_nil ?_
        refine ye 11 ?_
        refine sp ?_
        refine sq_nil ?_
        refine y1 12 ?_
        refine sw (ho6.get hbn (by simp; omega)) fun H7 hb7 ho7 hl7 => ?_
        refine sq_nil ?_
        refine ye 13 ?_
        refine sp ?_
        refine sq_nil ?_
        refine y1 14 ?_
        refine sw hb7 fun H8 hb8 ho8 hl8 => ?_
        refine sq_nil ?_
        refine yd ?_
        exact then_normal ⟨(), _, by rw [rstf_eq]; rfl, .refl _, fin _ _ _ _ _ hb' q1 q2 q3 q4 ho6 (by omega) (by omega) ho7 ho8 ⟨_, hb8, rfl, rfl, rfl, rfl⟩⟩
        refine sl ?_
        refine sq_nil ?_
        refine ye 3 ?_
        refine sp ?_
        refine sq_nil ?_
        refine ye 4 ?_
        refine sp ?_
        refine sq_nil ?_
        refine y2 0 5 ?_ ?_
        first | refine sl ?_ | refine sq_load TYok rfl rfl rfl (ho6.get hpn (by simp; omega)) (by rfl) Nat.zero_lt_one (by rfl) ?_
        refine sq_nil ?_
        refine y1 5 ?_
        refine sl ?_
        refine sq_nil ?_
        refine y1 9 ?_
        refine sq_appa TYok TYz rfl rfl rfl rfl rfl rfl rfl (by decide) (.inr ⟨m, _, Nat.zero_le _, rfl, hmn, rfl, rfl, rfl, fun _ _ => rfl⟩) (.lst _ _ _ _) (by omega) (by show (e.free.length + e.l1.length) * 8 ≤ _; omega) (by show e.free.length + e.l1.length ≤ _; omega) fun id' b' H6 hb' q1 q2 q3 q4 ho6 hi6 => ?_
        have hid7 : id' = m ∨ (H5 ++ []).length ≤ id' := hi6.elim (fun h => .inl (Option.some.inj h)) .inr
        have ho6 : Oth (H5 ++ []) H6 (some m) := ho6
        refine sq_nil ?_
        refine ye 10 ?_
        refine sp ?_
        refine sq_nil ?_
        refine ye 11 ?_
        refine sp ?_
        refine sq_nil ?_
        refine y1 12 ?_
        refine sw (ho6.get hbn (by simp; omega)) fun H7 hb7 ho7 hl7 => ?_
        refine sq_nil ?_
        refine ye 13 ?_
        refine sp ?_
        refine sq_nil ?_
        refine y1 14 ?_
        refine sw hb7 fun H8 hb8 ho8 hl8 => ?_
        refine sq_nil ?_
        refine yd ?_
        exact then_normal ⟨(), _, by rw [rstf_eq]; rfl, .refl _, fin _ _ _ _ _ hb' q1 q2 q3 q4 ho6 (by omega) (by omega) ho7 ho8 ⟨_, hb8, rfl, rfl, rfl, rfl⟩⟩
        refine sl ?_
        refine sq_nil ?_
        refine y2 0 9 ?_ ?_
        first | refine sl ?_ | refine sq_load TYok rfl rfl rfl (ho6.get hpn (by simp; omega)) (by rfl) Nat.zero_lt_one (by rfl) ?_
        refine sq_nil ?_
        refine y1 9 ?_
        refine sq_appa TYok TYz rfl rfl rfl rfl rfl rfl rfl (by decide) (.inr ⟨m, _, Nat.zero_le _, rfl, hmn, rfl, rfl, rfl, fun _ _ => rfl⟩) (.lst _ _ _ _) (by omega) (by show (e.free.length + e.l1.length) * 8 ≤ _; omega) (by show e.free.length + e.l1.length ≤ _; omega) fun id' b' H6 hb' q1 q2 q3 q4 ho6 hi6 => ?_
        have hid7 : id' = m ∨ (H5 ++ []).length ≤ id' := hi6.elim (fun h => .inl (Option.some.inj h)) .inr
        have ho6 : Oth (H5 ++ []) H6 (some m) := ho6
        refine sq_nil ?_
        refine ye 10 ?_
        refine sp ?_
        refine sq_nil ?_
        refine ye 11 ?_
        refine sp ?_
        refine sq_nil ?_
        refine y1 12 ?_
        refine sw (ho6.get hbn (by simp; omega)) fun H7 hb7 ho7 hl7 => ?_
        refine sq_nil ?_
        refine ye 13 ?_
        refine sp ?_
        refine sq_nil ?_
        refine y1 14 ?_
        refine sw hb7 fun H8 hb8 ho8 hl8 => ?_
        refine sq_nil ?_
        refine yd ?_
        exact then_normal ⟨(), _, by rw [rstf_eq]; rfl, .refl _, fin _ _ _ _ _ hb' q1 q2 q3 q4 ho6 (by omega) (by omega) ho7 ho8 ⟨_, hb8, rfl, rfl, rfl, rfl⟩⟩
        refine sq_appa TYok TYz rfl rfl rfl rfl rfl rfl rfl (by decide) (.inr ⟨m, _, Nat.zero_le _, rfl, hmn, rfl, rfl, rfl, fun _ _ => rfl⟩) (.lst _ _ _ _) (by omega) (by show (e.free.length + e.l1.length) * 8 ≤ _; omega) (by show e.free.length + e.l1.length ≤ _; omega) fun id' b' H6 hb' q1 q2 q3 q4 ho6 hi6 => ?_
        have hid7 : id' = m ∨ (H5 ++ []).length ≤ id' := hi6.elim (fun h => .inl (Option.some.inj h)) .inr
        have ho6 : Oth (H5 ++ []) H6 (some m) := ho6
        refine sq_nil ?_
        refine y1 0 ?_
        first | refine sl ?_ | refine sq_load TYok rfl rfl rfl (ho6.get hpn (by simp; omega)) (by rfl) Nat.zero_lt_one (by rfl) ?_
        refine sq_nil ?_
        refine ye 10 ?_
        refine sp ?_
        refine sq_nil ?_
        refine ye 11 ?_
        refine sp ?_
        refine sq_nil ?_
        refine y1 12 ?_
        refine sw (ho6.get hbn (by simp; omega)) fun H7 hb7 ho7 hl7 => ?_
        refine sq_nil ?_
        refine ye 13 ?_
        refine sp ?_
        refine sq_nil ?_
        refine y1 14 ?_
        refine sw hb7 fun H8 hb8 ho8 hl8 => ?_
        refine sq_nil ?_
        refine yd ?_
        exact then_normal ⟨(), _, by rw [rstf_eq]; rfl, .refl _, fin _ _ _ _ _ hb' q1 q2 q3 q4 ho6 (by omega) (by omega) ho7 ho8 ⟨_, hb8, rfl, rfl, rfl, rfl⟩⟩
      · rintro - H9 ⟨vf, hbx, hfz, hid9, hs9, hl9, hk9⟩
        (repeat' (first | (refine sq_id ?_; first | refine sq_nil ?_ | refine sm ?_ | refine sa ?_ | refine ss ?_ | refine st ?_ | refine sf ?_ | refine sp ?_ | refine sq ?_ | refine sl ?_ | refine si ?_ | refine sx ?_ | refine sy ?_) | (refine rg_id ?_; first | refine rg_fin ?_ | refine rm ?_ | refine ra ?_ | refine rs ?_ | refine rt ?_ | refine rf ?_ | refine rp ?_ | refine rq ?_ | refine rl ?_ | refine ri ?_ | refine rx ?_ | refine ry ?_) | refine aw_rseq ?_ | refine aw_seq ?_ | refine aw_region ?_ | refine aw_skip ?_ | refine ct ?_ | refine cf ?_ | refine d0s ?_ | refine d0r ?_ | refine aw_block ?_ | refine aw_exit ?_ | refine then_ret ?_ | refine then_exit ?_ | refine then_normal ?_ | refine blk_ret ?_ | refine blk_normal ?_ | refine blk_exit ?_ | refine blk_pass rfl ?_))
        ((try refine aw_ret ?_); (repeat (first | refine then_ret ?_ | refine blk_ret ?_)); refine fin_t True.intro rfl rfl ?_)
        refine ⟨rfl, .inr ⟨hbl, vf, hbx, hfz, hid9, hs9, by omega, fun x hx x1 x2 x3 => ?_⟩⟩
        rw [hk9 x (by omega) x1 x2, List.append_nil, ho5.2 x (by omega) (by simp; omega), ho4.2 x (by omega) (by simp; omega), ho3.2 x (by omega) (by simp; omega), ho1.2 x hx (by simp)]
  · (repeat' (first | (refine sq_id ?_; first | refine sq_nil ?_ | refine sm ?_ | refine sa ?_ | refine ss ?_ | refine st ?_ | refine sf ?_ | refine sp ?_ | refine sq ?_ | refine sl ?_ | refine si ?_ | refine sx ?_ | refine sy ?_) | (refine rg_id ?_; first | refine rg_fin ?_ | refine rm ?_ | refine ra ?_ | refine rs ?_ | refine rt ?_ | refine rf ?_ | refine rp ?_ | refine rq ?_ | refine rl ?_ | refine ri ?_ | refine rx ?_ | refine ry ?_) | refine aw_rseq ?_ | refine aw_seq ?_ | refine aw_region ?_ | refine aw_skip ?_ | refine ct ?_ | refine cf ?_ | refine d0s ?_ | refine d0r ?_ | refine aw_block ?_ | refine aw_exit ?_ | refine then_ret ?_ | refine then_exit ?_ | refine then_normal ?_ | refine blk_ret ?_ | refine blk_normal ?_ | refine blk_exit ?_ | refine blk_pass rfl ?_))
    ((try refine aw_ret ?_); (repeat (first | refine then_ret ?_ | refine blk_ret ?_)); refine fin_t True.intro rfl rfl ?_)
    exact ⟨rfl, .inl ⟨by unfold blockedB behindB; rw [hB]; rfl, ho1⟩⟩
set_option maxHeartbeats 4000000 in
theorem adv1E_s (e : Ep) (hbd : Bd e) (hr : RightE e) (hk : (e.now + 2) % 3 = 1) (H : AH) (id bis : Nat) (hb : H[id]? = some (some (ebk [.i e.now, ints e.pins, ints e.l0, ints e.l1, ints e.l2, none0]))) (h0 : e.free = []) (hs : H[bis]? = some (some (bbox false))) (hsi : bis ≠ id) :
    SC true Try.prog 40 [.ref id 6 0 0, .ref bis 1 0 0] H (AdvPost e H id bis id (fun v => [.i (e.now + 1), ints e.pins, ints e.l0, .p (.slice none 0 0), ints e.l2, v]) e.l1) := by
  obtain ⟨hb1, hb2⟩ := hbd
  have hk2 : (e.now + 1 + 1) % 3 = 1 := by omega
  have hr' := hr
  obtain ⟨hnP, _⟩ := hr'
  have hnP' := hnP
  obtain ⟨n0, n1⟩ := hnP'
  have hil := (List.getElem?_eq_some_iff.1 hb).1
  have hsl := (List.getElem?_eq_some_iff.1 hs).1
  refine sc_in TYok Try.func40 (by kernel_rfl) Try.ntmps40 rfl rfl rfl ?_
  refine aw_seq ?_
  refine aw_region ?_
  refine nw fun H1 hp1 ho1 hl1 => ?_
  have hbb := ho1.get0 hb
  have hss := ho1.get0 hs
  have hcf := containsfunc_s e.pins 41 [.ref H.length 1 0 0] (fun p => decide (p ≠ 0 ∧ p ≠ e.now + 1)) (by omega) H1 (.lst false e.pins) (fun x hx => behind_s x e.now hnP H1 hbb hp1)
  (repeat' (first | (refine sq_id ?_; first | refine sq_nil ?_ | refine sm ?_ | refine sa ?_ | refine ss ?_ | refine st ?_ | refine sf ?_ | refine sp ?_ | refine sq ?_ | refine sl ?_ | refine si ?_ | refine sx ?_ | refine sy ?_) | (refine rg_id ?_; first | refine rg_fin ?_ | refine rm ?_ | refine ra ?_ | refine rs ?_ | refine rt ?_ | refine rf ?_ | refine rp ?_ | refine rq ?_ | refine rl ?_ | refine ri ?_ | refine rx ?_ | refine ry ?_) | refine aw_rseq ?_ | refine aw_seq ?_ | refine aw_region ?_ | refine aw_skip ?_ | refine ct ?_ | refine cf ?_ | refine d0s ?_ | refine d0r ?_ | refine aw_block ?_ | refine aw_exit ?_ | refine then_ret ?_ | refine then_exit ?_ | refine then_normal ?_ | refine blk_ret ?_ | refine blk_normal ?_ | refine blk_exit ?_ | refine blk_pass rfl ?_))
  refine sq_call rfl rfl rfl (LeL.refl _) (hcf.mono fun r H2 he => ?_)
  obtain ⟨rfl, rfl⟩ := he
  cases hB : e.pins.any fun p => decide (p ≠ 0 ∧ p ≠ e.now + 1)
  · by_cases hx : e.now = 1099511627776
    · (repeat' (first | (refine sq_id ?_; first | refine sq_nil ?_ | refine sm ?_ | refine sa ?_ | refine ss ?_ | refine st ?_ | refine sf ?_ | refine sp ?_ | refine sq ?_ | refine sl ?_ | refine si ?_ | refine sx ?_ | refine sy ?_) | (refine rg_id ?_; first | refine rg_fin ?_ | refine rm ?_ | refine ra ?_ | refine rs ?_ | refine rt ?_ | refine rf ?_ | refine rp ?_ | refine rq ?_ | refine rl ?_ | refine ri ?_ | refine rx ?_ | refine ry ?_) | refine aw_rseq ?_ | refine aw_seq ?_ | refine aw_region ?_ | refine aw_skip ?_ | refine ct ?_ | refine cf ?_ | refine d0s ?_ | refine d0r ?_ | refine aw_block ?_ | refine aw_exit ?_ | refine then_ret ?_ | refine then_exit ?_ | refine then_normal ?_ | refine blk_ret ?_ | refine blk_normal ?_ | refine blk_exit ?_ | refine blk_pass rfl ?_))
      ((try refine aw_ret ?_); (repeat (first | refine then_ret ?_ | refine blk_ret ?_)); refine fin_t True.intro rfl rfl ?_)
      exact ⟨rfl, .inl ⟨by unfold blockedB behindB; rw [hB, decide_eq_true hx]; rfl, ho1⟩⟩
    · have hbl : blockedB e = false := by unfold blockedB behindB; rw [hB, decide_eq_false hx]; rfl
      (repeat' (first | (refine sq_id ?_; first | refine sq_nil ?_ | refine sm ?_ | refine sa ?_ | refine ss ?_ | refine st ?_ | refine sf ?_ | refine sp ?_ | refine sq ?_ | refine sl ?_ | refine si ?_ | refine sx ?_ | refine sy ?_) | (refine rg_id ?_; first | refine rg_fin ?_ | refine rm ?_ | refine ra ?_ | refine rs ?_ | refine rt ?_ | refine rf ?_ | refine rp ?_ | refine rq ?_ | refine rl ?_ | refine ri ?_ | refine rx ?_ | refine ry ?_) | refine aw_rseq ?_ | refine aw_seq ?_ | refine aw_region ?_ | refine aw_skip ?_ | refine ct ?_ | refine cf ?_ | refine d0s ?_ | refine d0r ?_ | refine aw_block ?_ | refine aw_exit ?_ | refine then_ret ?_ | refine then_exit ?_ | refine then_normal ?_ | refine blk_ret ?_ | refine blk_normal ?_ | refine blk_exit ?_ | refine blk_pass rfl ?_))
      refine sw hss fun H3 hs3 ho3 hl3 => ?_
      have hb3 := ho3.get hbb (by simp; omega)
      have hp3 := ho3.get hp1 (by simp; omega)
      (repeat' (first | (refine sq_id ?_; first | refine sq_nil ?_ | refine sm ?_ | refine sa ?_ | refine ss ?_ | refine st ?_ | refine sf ?_ | refine sp ?_ | refine sq ?_ | refine sl ?_ | refine si ?_ | refine sx ?_ | refine sy ?_) | (refine rg_id ?_; first | refine rg_fin ?_ | refine rm ?_ | refine ra ?_ | refine rs ?_ | refine rt ?_ | refine rf ?_ | refine rp ?_ | refine rq ?_ | refine rl ?_ | refine ri ?_ | refine rx ?_ | refine ry ?_) | refine aw_rseq ?_ | refine aw_seq ?_ | refine aw_region ?_ | refine aw_skip ?_ | refine ct ?_ | refine cf ?_ | refine d0s ?_ | refine d0r ?_ | refine aw_block ?_ | refine aw_exit ?_ | refine then_ret ?_ | refine then_exit ?_ | refine then_normal ?_ | refine blk_ret ?_ | refine blk_normal ?_ | refine blk_exit ?_ | refine blk_pass rfl ?_))
      refine sw hb3 fun H4 hb4 ho4 hl4 => ?_
      have hs4 := ho4.get hs3 (by simp; omega)
      have hp4 := ho4.get hp3 (by simp; omega)
      refine sq_nil ?_
      refine aw_norm id (ebk [.i (e.now + 1), ints e.pins, ints e.l0, ints e.l1, ints e.l2, none0]) hb4 rfl rfl rfl (one_of rfl rfl) fun H5 hb5 ho5 hl5 => ?_
      have hs5 := ho5.get hs4 (by simp; omega)
      have hp5 := ho5.get hp4 (by simp; omega)
      have hlen5 : H5.length = H.length + 1 := by omega
      have hbn := nil_at hb5
      have hpn := nil_at hp5
      refine aw_seq ?_
      refine d0r ?_
      (repeat' (first | (refine sq_id ?_; first | refine rg_remk TYok TYz rfl rfl rfl rfl sd hk2 ?_ | refine sq_nil ?_ | refine sm ?_ | refine sa ?_ | refine ss ?_ | refine st ?_ | refine sf ?_ | refine sp ?_ | refine sq ?_ | refine sl ?_ | refine si ?_ | refine sx ?_ | refine sy ?_) | (refine rg_id ?_; first | refine rg_remk TYok TYz rfl rfl rfl rfl sd hk2 ?_ | refine rg_fin ?_ | refine rm ?_ | refine ra ?_ | refine rs ?_ | refine rt ?_ | refine rf ?_ | refine rp ?_ | refine rq ?_ | refine rl ?_ | refine ri ?_ | refine rx ?_ | refine ry ?_)))
      refine then_normal ?_
      refine aw_seq ?_
      have hlen5' : (H5 ++ []).length = H.length + 1 := by simp; omega
      refine aw_mid [] (fun _ : Unit => []) (fun _ H' => ∃ vf, IsBox H' id [.i (e.now + 1), ints e.pins, ints e.l0, .p (.slice none 0 0), ints e.l2, vf] ∧ FzL H' vf (e.free ++ e.l1) ∧ (∀ id', accId vf = some id' → (id' = id ∨ H.length ≤ id') ∧ id' < H'.length) ∧ IsOne H' bis 4 (.b true) ∧ (H5 ++ []).length ≤ H'.length ∧ ∀ x, x < (H5 ++ []).length → x ≠ id → x ≠ id → H'[x]? = (H5 ++ [])[x]?) ?_ ?_
      ·
        have fin : ∀ (H7 H8 : AH) (vf : AV), Oth (H5 ++ []) H7 (some id) → Oth H7 H8 (some id) → Le vf (ints e.l1) → accId vf = none → IsBox H8 id [.i (e.now + 1), ints e.pins, ints e.l0, .p (.slice none 0 0), ints e.l2, vf] → ∃ vf, IsBox H8 id [.i (e.now + 1), ints e.pins, ints e.l0, .p (.slice none 0 0), ints e.l2, vf] ∧ FzL H8 vf (e.free ++ e.l1) ∧ (∀ id', accId vf = some id' → (id' = id ∨ H.length ≤ id') ∧ id' < H8.length) ∧ IsOne H8 bis 4 (.b true) ∧ (H5 ++ []).length ≤ H8.length ∧ ∀ x, x < (H5 ++ []).length → x ≠ id → x ≠ id → H8[x]? = (H5 ++ [])[x]? := by
          intro H7 H8 vf ho7 ho8 hle hac hbx
          exact ⟨vf, hbx, fzL_le (by rw [h0]; exact hle), (fun i hi => by rw [hac] at hi; cases hi), ⟨_, ho8.get (ho7.get (nil_at hs5) (by simp; omega)) (by simp; omega), rfl, rfl, rfl, rfl⟩, Nat.le_trans ho7.1 ho8.1, fun x hx x1 x2 => by rw [ho8.2 x (Nat.lt_of_lt_of_le hx ho7.1) (by simp; omega), ho7.2 x hx (by simp; omega)]⟩
        refine yall 15 ?_
        refine ye 1 ?_
        refine sm ?_
        refine sq_nil ?_
        refine ye 6 ?_
        refine sm ?_
        refine sq_nil ?_
        refine ye 7 ?_
        refine sp ?_
        refine sq_nil ?_
        refine y3 0 2 8 ?_ ?_ ?_
        refine sl ?_
        refine sq_nil ?_
        refine y2 2 8 ?_ ?_
        refine sl ?_
        refine sq_nil ?_
        refine ye 3 ?_
        refine sp ?_
        refine sq_nil ?_
        refine ye 4 ?_
        refine sp ?_
        refine sq_nil ?_
        refine y2 5 8 ?_ ?_
        refine sl ?_
        refine sq_nil ?_
        refine y1 8 ?_
        refine sl ?_
        refine sq_nil ?_
        refine y1 9 ?_
        refine sq_clone TYok rfl rfl rfl rfl rfl (by decide) (.inr ⟨_, _, rfl⟩) (.lst _ _ _ _) (by show e.l1.length * 8 ≤ _; omega) (by show e.l1.length ≤ _; omega) ?_
        refine sq_nil ?_
        refine ye 10 ?_
        refine sp ?_
        refine sq_nil ?_
        refine ye 11 ?_
        refine sp ?_
        refine sq_nil ?_
        refine y1 12 ?_
        refine sw hbn fun H7 hb7 ho7 hl7 => ?_
        refine sq_nil ?_
        refine ye 13 ?_
        refine sp ?_
        refine sq_nil ?_
        refine y1 14 ?_
        refine sw hb7 fun H8 hb8 ho8 hl8 => ?_
        refine sq_nil ?_
        refine yd ?_
        exact then_normal ⟨(), _, by rw [rstf_eq]; rfl, .refl _, fin _ _ _ ho7 ho8 (le_copy e.l1 _ _ rfl fun i hi => rfl) rfl ⟨_, hb8, rfl, rfl, rfl, rfl⟩⟩
        refine sl ?_
        refine sq_nil ?_
        refine y1 5 ?_
        refine sl ?_
        refine sq_nil ?_
        refine y1 9 ?_
        refine sq_clone TYok rfl rfl rfl rfl rfl (by decide) (.inr ⟨_, _, rfl⟩) (.lst _ _ _ _) (by show e.l1.length * 8 ≤ _; omega) (by show e.l1.length ≤ _; omega) ?_
        refine sq_nil ?_
        refine ye 10 ?_
        refine sp ?_
        refine sq_nil ?_
        refine ye 11 ?_
        refine sp ?_
        refine sq_nil ?_
        refine y1 12 ?_
        refine sw hbn fun H7 hb7 ho7 hl7 => ?_
        refine sq_nil ?_
        refine ye 13 ?_
        refine sp ?_
        refine sq_nil ?_
        refine y1 14 ?_
        refine sw hb7 fun H8 hb8 ho8 hl8 => ?_
        refine sq_nil ?_
        refine yd ?_
        exact then_normal ⟨(), _, by rw [rstf_eq]; rfl, .refl _, fin _ _ _ ho7 ho8 (le_copy e.l1 _ _ rfl fun i hi => rfl) rfl ⟨_, hb8, rfl, rfl, rfl, rfl⟩⟩
        refine sl ?_
        refine sq_nil ?_
        refine y1 2 ?_
        refine sl ?_
        refine sq_nil ?_
        refine ye 3 ?_
        refine sp ?_
        refine sq_nil ?_
        refine ye 4 ?_
        refine sp ?_
        refine sq_nil ?_
        refine y1 5 ?_
        refine sl ?_
        refine sq_nil ?_
        refine y1 9 ?_
        refine sq_clone TYok rfl rfl rfl rfl rfl (by decide) (.inr ⟨_, _, rfl⟩) (.lst _ _ _ _) (by show e.l1.length * 8 ≤ _; omega) (by show e.l1.length ≤ _; omega) ?_
        refine sq_nil ?_
        refine ye 10 ?_
        refine sp ?_
        refine sq_nil ?_
        refine ye 11 ?_
        refine sp ?_
        refine sq_nil ?_
        refine y1 12 ?_
        refine sw hbn fun H7 hb7 ho7 hl7 => ?_
        refine sq_nil ?_
        refine ye 13 ?_
        refine sp ?_
        refine sq_nil ?_
        refine y1 14 ?_
        refine sw hb7 fun H8 hb8 ho8 hl8 => ?_
        refine sq_nil ?_
        refine yd ?_
        exact then_normal ⟨(), _, by rw [rstf_eq]; rfl, .refl _, fin _ _ _ ho7 ho8 (le_copy e.l1 _ _ rfl fun i hi => rfl) rfl ⟨_, hb8, rfl, rfl, rfl, rfl⟩⟩
        refine sl ?_
        refine sq_nil ?_
        refine ye 3 ?_
        refine sp ?_
        refine sq_nil ?_
        refine ye 4 ?_
        refine sp ?_
        refine sq_nil ?_
        refine y3 0 5 8 ?_ ?_ ?_
        refine sl ?_
        refine sq_nil ?_
        refine y2 5 8 ?_ ?_
        refine sl ?_
        refine sq_nil ?_
        refine y1 8 ?_
        refine sl ?_
        refine sq_nil ?_
        refine y1 9 ?_
        refine sq_clone TYok rfl rfl rfl rfl rfl (by decide) (.inr ⟨_, _, rfl⟩) (.lst _ _ _ _) (by show e.l1.length * 8 ≤ _; omega) (by show e.l1.length ≤ _; omega) ?_
        refine sq_nil ?_
        refine ye 10 ?_
        refine sp ?_
        refine sq_nil ?_
        refine ye 11 ?_
        refine sp ?_
        refine sq_nil ?_
        refine y1 12 ?_
        refine sw hbn fun H7 hb7 ho7 hl7 => ?_
        refine sq_nil ?_
        refine ye 13 ?_
        refine sp ?_
        refine sq_nil ?_
        refine y1 14 ?_
        refine sw hb7 fun H8 hb8 ho8 hl8 => ?_
        refine sq_nil ?_
        refine yd ?_
        exact then_normal ⟨(), _, by rw [rstf_eq]; rfl, .refl _, fin _ _ _ ho7 ho8 (le_copy e.l1 _ _ rfl fun i hi => rfl) rfl ⟨_, hb8, rfl, rfl, rfl, rfl⟩⟩
        refine sl ?_
        refine sq_nil ?_
        refine y1 5 ?_
        refine sl ?_
        refine sq_nil ?_
        refine y1 9 ?_
        refine sq_clone TYok rfl rfl rfl rfl rfl (by decide) (.inr ⟨_, _, rfl⟩) (.lst _ _ _ _) (by show e.l1.length * 8 ≤ _; omega) (by show e.l1.length ≤ _; omega) ?_
        refine sq_nil ?_
        refine ye 10 ?_
        refine sp ?_
        refine sq_nil ?_
        refine ye 11 ?_
        refine sp ?_
        refine sq_nil ?_
        refine y1 12 ?_
        refine sw hbn fun H7 hb7 ho7 hl7 => ?_
        refine sq_nil ?_
        refine ye 13 ?_
        refine sp ?_
        refine sq_nil ?_
        refine y1 14 ?_
        refine sw hb7 fun H8 hb8 ho8 hl8 => ?_
        refine sq_nil ?_
        refine yd ?_
        exact then_normal ⟨(), _, by rw [rstf_eq]; rfl, .refl _, fin _ _ _ ho7 ho8 (le_copy e.l1 _ _ rfl fun i hi => rfl) rfl ⟨_, hb8, rfl, rfl, rfl, rfl⟩⟩
        refine sl ?_
        refine sq_nil ?_
        refine y2 0 8 ?_ ?_
        refine sl ?_
        refine sq_nil ?_
        refine y1 8 ?_
        refine sl ?_
        refine sq_nil ?_
        refine y1 9 ?_
        refine sq_clone TYok rfl rfl rfl rfl rfl (by decide) (.inr ⟨_, _, rfl⟩) (.lst _ _ _ _) (by show e.l1.length * 8 ≤ _; omega) (by show e.l1.length ≤ _; omega) ?_
        refine sq_nil ?_
        refine ye 10 ?_
        refine sp ?_
        refine sq_nil ?_
        refine ye 11 ?_
        refine sp ?_
        refine sq_nil ?_
        refine y1 12 ?_
        refine sw hbn fun H7 hb7 ho7 hl7 => ?_
        refine sq_nil ?_
        refine ye 13 ?_
        refine sp ?_
        refine sq_nil ?_
        refine y1 14 ?_
        refine sw hb7 fun H8 hb8 ho8 hl8 => ?_
        refine sq_nil ?_
        refine yd ?_
        exact then_normal ⟨(), _, by rw [rstf_eq]; rfl, .refl _, fin _ _ _ ho7 ho8 (le_copy e.l1 _ _ rfl fun i hi => rfl) rfl ⟨_, hb8, rfl, rfl, rfl, rfl⟩⟩
        refine sl ?_
        refine sq_nil ?_
        refine y2 0 9 ?_ ?_
        refine sl ?_
        refine sq_nil ?_
        refine y1 9 ?_
        refine sq_clone TYok rfl rfl rfl rfl rfl (by decide) (.inr ⟨_, _, rfl⟩) (.lst _ _ _ _) (by show e.l1.length * 8 ≤ _; omega) (by show e.l1.length ≤ _; omega) ?_
        refine sq_nil ?_
        refine ye 10 ?_
        refine sp ?_
        refine sq_nil ?_
        refine ye 11 ?_
        refine sp ?_
        refine sq_nil ?_
        refine y1 12 ?_
        refine sw hbn fun H7 hb7 ho7 hl7 => ?_
        refine sq_nil ?_
        refine ye 13 ?_
        refine sp ?_
        refine sq_nil ?_
        refine y1 14 ?_
        refine sw hb7 fun H8 hb8 ho8 hl8 => ?_
        refine sq_nil ?_
        refine yd ?_
        exact then_normal ⟨(), _, by rw [rstf_eq]; rfl, .refl _, fin _ _ _ ho7 ho8 (le_copy e.l1 _ _ rfl fun i hi => rfl) rfl ⟨_, hb8, rfl, rfl, rfl, rfl⟩⟩
        refine sq_clone TYok rfl rfl rfl rfl rfl (by decide) (.inr ⟨_, _, rfl⟩) (.lst _ _ _ _) (by show e.l1.length * 8 ≤ _; omega) (by show e.l1.length ≤ _; omega) ?_
        refine sq_nil ?_
        refine y1 0 ?_
        refine sl ?_
        refine sq_nil ?_
        refine ye 10 ?_
        refine sp ?_
        refine sq_nil ?_
        refine ye 11 ?_
        refine sp ?_
        refine sq_nil ?_
        refine y1 12 ?_
        refine sw hbn fun H7 hb7 ho7 hl7 => ?_
        refine sq_nil ?_
        refine ye 13 ?_
        refine sp ?_
        refine sq_nil ?_
        refine y1 14 ?_
        refine sw hb7 fun H8 hb8 ho8 hl8 => ?_
        refine sq_nil ?_
        refine yd ?_
        exact then_normal ⟨(), _, by rw [rstf_eq]; rfl, .refl _, fin _ _ _ ho7 ho8 (le_copy e.l1 _ _ rfl fun i hi => rfl) rfl ⟨_, hb8, rfl, rfl, rfl, rfl⟩⟩
        refine sl ?_
        refine sq_nil ?_
        refine y2 0 5 ?_ ?_
        refine sl ?_
        refine sq_nil ?_
        refine y1 5 ?_
        refine sl ?_
        refine sq_nil ?_
        refine y1 9 ?_
        refine sq_clone TYok rfl rfl rfl rfl rfl (by decide) (.inr ⟨_, _, rfl⟩) (.lst _ _ _ _) (by show e.l1.length * 8 ≤ _; omega) (by show e.l1.length ≤ _; omega) ?_
        refine sq_nil ?_
        refine ye 10 ?_
        refine sp ?_
        refine sq_nil ?_
        refine ye 11 ?_
        refine sp ?_
        refine sq_nil ?_
        refine y1 12 ?_
        refine sw hbn fun H7 hb7 ho7 hl7 => ?_
        refine sq_nil ?_
        refine ye 13 ?_
        refine sp ?_
        refine sq_nil ?_
        refine y1 14 ?_
        refine sw hb7 fun H8 hb8 ho8 hl8 => ?_
        refine sq_nil ?_
        refine yd ?_
        exact then_normal ⟨(), _, by rw [rstf_eq]; rfl, .refl _, fin _ _ _ ho7 ho8 (le_copy e.l1 _ _ rfl fun i hi => rfl) rfl ⟨_, hb8, rfl, rfl, rfl, rfl⟩⟩
        refine sl ?_
        refine sq_nil ?_
        refine y2 0 9 ?_ ?_
        refine sl ?_
        refine sq_nil ?_
        refine y1 9 ?_
        refine sq_clone TYok rfl rfl rfl rfl rfl (by decide) (.inr ⟨_, _, rfl⟩) (.lst _ _ _ _) (by show e.l1.length * 8 ≤ _; omega) (by show e.l1.length ≤ _; omega) ?_
        refine sq_nil ?_
        refine ye 10 ?_
        refine sp ?_
        refine sq_nil ?_
        refine ye 11 ?_
        refine sp ?_
        refine sq_nil ?_
        refine y1 12 ?_
        refine sw hbn fun H7 hb7 ho7 hl7 => ?_
        refine sq_nil ?_
        refine ye 13 ?_
        refine sp ?_
        refine sq_nil ?_
        refine y1 14 ?_
        refine sw hb7 fun H8 hb8 ho8 hl8 => ?_
        refine sq_nil ?_
        refine yd ?_
        exact then_normal ⟨(), _, by rw [rstf_eq]; rfl, .refl _, fin _ _ _ ho7 ho8 (le_copy e.l1 _ _ rfl fun i hi => rfl) rfl ⟨_, hb8, rfl, rfl, rfl, rfl⟩⟩
        refine sq_clone TYok rfl rfl rfl rfl rfl (by decide) (.inr ⟨_, _, rfl⟩) (.lst _ _ _ _) (by show e.l1.length * 8 ≤ _; omega) (by show e.l1.length ≤ _; omega) ?_
        refine sq_nil ?_
        refine y1 0 ?_
        refine sl ?_
        refine sq_nil ?_
        refine ye 10 ?_
        refine sp ?_
        refine sq_nil ?_
        refine ye 11 ?_
        refine sp ?_
        refine sq_nil ?_
        refine y1 12 ?_
        refine sw hbn fun H7 hb7 ho7 hl7 => ?_
        refine sq_nil ?_
        refine ye 13 ?_
        refine sp ?_
        refine sq_nil ?_
        refine y1 14 ?_
        refine sw hb7 fun H8 hb8 ho8 hl8 => ?_
        refine sq_nil ?_
        refine yd ?_
        exact then_normal ⟨(), _, by rw [rstf_eq]; rfl, .refl _, fin _ _ _ ho7 ho8 (le_copy e.l1 _ _ rfl fun i hi => rfl) rfl ⟨_, hb8, rfl, rfl, rfl, rfl⟩⟩
        refine sl ?_
        refine sq_nil ?_
        refine y2 0 2 ?_ ?_
        refine sl ?_
        refine sq_nil ?_
        refine y1 2 ?_
        refine sl ?_
        refine sq_nil ?_
        refine ye 3 ?_
        refine sp ?_
        refine sq_nil ?_
        refine ye 4 ?_
        refine sp ?_
        refine sq_nil ?_
        refine y1 5 ?_
        refine sl ?_
        refine sq_nil ?_
        refine y1 9 ?_
        refine sq_clone TYok rfl rfl rfl rfl rfl (by decide) (.inr ⟨_, _, rfl⟩) (.lst _ _ _ _) (by show e.l1.length * 8 ≤ _; omega) (by show e.l1.length ≤ _; omega) ?_
        refine sq_nil ?_
        refine ye 10 ?_
        refine sp ?_
        refine sq_nil ?_
        refine ye 11 ?_
        refine sp ?_
        refine sq_nil ?_
        refine y1 12 ?_
        refine sw hbn fun H7 hb7 ho7 hl7 => ?_
        refine sq_nil ?_
        refine ye 13 ?_
        refine sp ?_
        refine sq_nil ?_
        refine y1 14 ?_
        refine sw hb7 fun H8 hb8 ho8 hl8 => ?_
        refine sq_nil ?_
        refine yd ?_
        exact then_normal ⟨(), _, by rw [rstf_eq]; rfl, .refl _, fin _ _ _ ho7 ho8 (le_copy e.l1 _ _ rfl fun i hi => rfl) rfl ⟨_, hb8, rfl, rfl, rfl, rfl⟩⟩
        refine sl ?_
        refine sq_nil ?_
        refine ye 3 ?_
        refine sp ?_
        refine sq_nil ?_
        refine ye 4 ?_
        refine sp ?_
        refine sq_nil ?_
        refine y2 0 5 ?_ ?_
        refine sl ?_
        refine sq_nil ?_
        refine y1 5 ?_
        refine sl ?_
        refine sq_nil ?_
        refine y1 9 ?_
        refine sq_clone TYok rfl rfl rfl rfl rfl (by decide) (.inr ⟨_, _, rfl⟩) (.lst _ _ _ _) (by show e.l1.length * 8 ≤ _; omega) (by show e.l1.length ≤ _; omega) ?_
        refine sq_nil ?_
        refine ye 10 ?_
        refine sp ?_
        refine sq_nil ?_
        refine ye 11 ?_
        refine sp ?_
        refine sq_nil ?_
        refine y1 12 ?_
        refine sw hbn fun H7 hb7 ho7 hl7 => ?_
        refine sq_nil ?_
        refine ye 13 ?_
        refine sp ?_
        refine sq_nil ?_
        refine y1 14 ?_
        refine sw hb7 fun H8 hb8 ho8 hl8 => ?_
        refine sq_nil ?_
        refine yd ?_
        exact then_normal ⟨(), _, by rw [rstf_eq]; rfl, .refl _, fin _ _ _ ho7 ho8 (le_copy e.l1 _ _ rfl fun i hi => rfl) rfl ⟨_, hb8, rfl, rfl, rfl, rfl⟩⟩
        refine sl ?_
        refine sq_nil ?_
        refine y2 0 9 ?_ ?_
        refine sl ?_
        refine sq_nil ?_
        refine y1 9 ?_
        refine sq_clone TYok rfl rfl rfl rfl rfl (by decide) (.inr ⟨_, _, rfl⟩) (.lst _ _ _ _) (by show e.l1.length * 8 ≤ _; omega) (by show e.l1.length ≤ _; omega) ?_
        refine sq_nil ?_
        refine ye 10 ?_
        refine sp ?_
        refine sq_nil ?_
        refine ye 11 ?_
        refine sp ?_
        refine sq_nil ?_
        refine y1 12 ?_
        refine sw hbn fun H7 hb7 ho7 hl7 => ?_
        refine sq_nil ?_
        refine ye 13 ?_
        refine sp ?_
        refine sq_nil ?_
        refine y1 14 ?_
        refine sw hb7 fun H8 hb8 ho8 hl8 => ?_
        refine sq_nil ?_
        refine yd ?_
        exact then_normal ⟨(), _, by rw [rstf_eq]; rfl, .refl _, fin _ _ _ ho7 ho8 (le_copy e.l1 _ _ rfl fun i hi => rfl) rfl ⟨_, hb8, rfl, rfl, rfl, rfl⟩⟩
        refine sq_clone TYok rfl rfl rfl rfl rfl (by decide) (.inr ⟨_, _, rfl⟩) (.lst _ _ _ _) (by show e.l1.length * 8 ≤ _; omega) (by show e.l1.length ≤ _; omega) ?_
        refine sq_nil ?_
        refine y1 0 ?_
        refine sl ?_
        refine sq_nil ?_
        refine ye 10 ?_
        refine sp ?_
        refine sq_nil ?_
        refine ye 11 ?_
        refine sp ?_
        refine sq_nil ?_
        refine y1 12 ?_
        refine sw hbn fun H7 hb7 ho7 hl7 => ?_
        refine sq_nil ?_
        refine ye 13 ?_
        refine sp ?_
        refine sq_nil ?_
        refine y1 14 ?_
        refine sw hb7 fun H8 hb8 ho8 hl8 => ?_
        refine sq_nil ?_
        refine yd ?_
        exact then_normal ⟨(), _, by rw [rstf_eq]; rfl, .refl _, fin _ _ _ ho7 ho8 (le_copy e.l1 _ _ rfl fun i hi => rfl) rfl ⟨_, hb8, rfl, rfl, rfl, rfl⟩⟩
      · rintro - H9 ⟨vf, hbx, hfz, hid9, hs9, hl9, hk9⟩
        (repeat' (first | (refine sq_id ?_; first | refine sq_nil ?_ | refine sm ?_ | refine sa ?_ | refine ss ?_ | refine st ?_ | refine sf ?_ | refine sp ?_ | refine sq ?_ | refine sl ?_ | refine si ?_ | refine sx ?_ | refine sy ?_) | (refine rg_id ?_; first | refine rg_fin ?_ | refine rm ?_ | refine ra ?_ | refine rs ?_ | refine rt ?_ | refine rf ?_ | refine rp ?_ | refine rq ?_ | refine rl ?_ | refine ri ?_ | refine rx ?_ | refine ry ?_) | refine aw_rseq ?_ | refine aw_seq ?_ | refine aw_region ?_ | refine aw_skip ?_ | refine ct ?_ | refine cf ?_ | refine d0s ?_ | refine d0r ?_ | refine aw_block ?_ | refine aw_exit ?_ | refine then_ret ?_ | refine then_exit ?_ | refine then_normal ?_ | refine blk_ret ?_ | refine blk_normal ?_ | refine blk_exit ?_ | refine blk_pass rfl ?_))
        ((try refine aw_ret ?_); (repeat (first | refine then_ret ?_ | refine blk_ret ?_)); refine fin_t True.intro rfl rfl ?_)
        refine ⟨rfl, .inr ⟨hbl, vf, hbx, hfz, hid9, hs9, by omega, fun x hx x1 x2 x3 => ?_⟩⟩
        rw [hk9 x (by omega) x1 x1, List.append_nil, ho5.2 x (by omega) (by simp; omega), ho4.2 x (by omega) (by simp; omega), ho3.2 x (by omega) (by simp; omega), ho1.2 x hx (by simp)]
  · (repeat' (first | (refine sq_id ?_; first | refine sq_nil ?_ | refine sm ?_ | refine sa ?_ | refine ss ?_ | refine st ?_ | refine sf ?_ | refine sp ?_ | refine sq ?_ | refine sl ?_ | refine si ?_ | refine sx ?_ | refine sy ?_) | (refine rg_id ?_; first | refine rg_fin ?_ | refine rm ?_ | refine ra ?_ | refine rs ?_ | refine rt ?_ | refine rf ?_ | refine rp ?_ | refine rq ?_ | refine rl ?_ | refine ri ?_ | refine rx ?_ | refine ry ?_) | refine aw_rseq ?_ | refine aw_seq ?_ | refine aw_region ?_ | refine aw_skip ?_ | refine ct ?_ | refine cf ?_ | refine d0s ?_ | refine d0r ?_ | refine aw_block ?_ | refine aw_exit ?_ | refine then_ret ?_ | refine then_exit ?_ | refine then_normal ?_ | refine blk_ret ?_ | refine blk_normal ?_ | refine blk_exit ?_ | refine blk_pass rfl ?_))
    ((try refine aw_ret ?_); (repeat (first | refine then_ret ?_ | refine blk_ret ?_)); refine fin_t True.intro rfl rfl ?_)
    exact ⟨rfl, .inl ⟨by unfold blockedB behindB; rw [hB]; rfl, ho1⟩⟩
set_option maxHeartbeats 4000000 in
theorem adv2M_s (e : Ep) (hbd : Bd e) (hr : RightE e) (hk : (e.now + 2) % 3 = 2) (H : AH) (id bis : Nat) (m : Nat) (hb : H[id]? = some (some (ebk [.i e.now, ints e.pins, ints e.l0, ints e.l1, ints e.l2, .arr m 1 0 e.free.length]))) (hm : H[m]? = some (some (iblk e.free))) (hne : m ≠ id) (hsm : bis ≠ m) (hf0 : 0 < e.free.length) (hs : H[bis]? = some (some (bbox false))) (hsi : bis ≠ id) :
    SC true Try.prog 40 [.ref id 6 0 0, .ref bis 1 0 0] H (AdvPost e H id bis m (fun v => [.i (e.now + 1), ints e.pins, ints e.l0, ints e.l1, .p (.slice none 0 0), v]) e.l2) := by
  obtain ⟨hb1, hb2⟩ := hbd
  have hk2 : (e.now + 1 + 1) % 3 = 2 := by omega
  have hr' := hr
  obtain ⟨hnP, _⟩ := hr'
  have hnP' := hnP
  obtain ⟨n0, n1⟩ := hnP'
  have hil := (List.getElem?_eq_some_iff.1 hb).1
  have hsl := (List.getElem?_eq_some_iff.1 hs).1
  have hml := (List.getElem?_eq_some_iff.1 hm).1
  refine sc_in TYok Try.func40 (by kernel_rfl) Try.ntmps40 rfl rfl rfl ?_
  refine aw_seq ?_
  refine aw_region ?_
  refine nw fun H1 hp1 ho1 hl1 => ?_
  have hbb := ho1.get0 hb
  have hss := ho1.get0 hs
  have hmm := ho1.get0 hm
  have hcf := containsfunc_s e.pins 41 [.ref H.length 1 0 0] (fun p => decide (p ≠ 0 ∧ p ≠ e.now + 1)) (by omega) H1 (.lst false e.pins) (fun x hx => behind_s x e.now hnP H1 hbb hp1)
  (repeat' (first | (refine sq_id ?_; first | refine sq_nil ?_ | refine sm ?_ | refine sa ?_ | refine ss ?_ | refine st ?_ | refine sf ?_ | refine sp ?_ | refine sq ?_ | refine sl ?_ | refine si ?_ | refine sx ?_ | refine sy ?_) | (refine rg_id ?_; first | refine rg_fin ?_ | refine rm ?_ | refine ra ?_ | refine rs ?_ | refine rt ?_ | refine rf ?_ | refine rp ?_ | refine rq ?_ | refine rl ?_ | refine ri ?_ | refine rx ?_ | refine ry ?_) | refine aw_rseq ?_ | refine aw_seq ?_ | refine aw_region ?_ | refine aw_skip ?_ | refine ct ?_ | refine cf ?_ | refine d0s ?_ | refine d0r ?_ | refine aw_block ?_ | refine aw_exit ?_ | refine then_ret ?_ | refine then_exit ?_ | refine then_normal ?_ | refine blk_ret ?_ | refine blk_normal ?_ | refine blk_exit ?_ | refine blk_pass rfl ?_))
  refine sq_call rfl rfl rfl (LeL.refl _) (hcf.mono fun r H2 he => ?_)
  obtain ⟨rfl, rfl⟩ := he
  cases hB : e.pins.any fun p => decide (p ≠ 0 ∧ p ≠ e.now + 1)
  · by_cases hx : e.now = 1099511627776
    · (repeat' (first | (refine sq_id ?_; first | refine sq_nil ?_ | refine sm ?_ | refine sa ?_ | refine ss ?_ | refine st ?_ | refine sf ?_ | refine sp ?_ | refine sq ?_ | refine sl ?_ | refine si ?_ | refine sx ?_ | refine sy ?_) | (refine rg_id ?_; first | refine rg_fin ?_ | refine rm ?_ | refine ra ?_ | refine rs ?_ | refine rt ?_ | refine rf ?_ | refine rp ?_ | refine rq ?_ | refine rl ?_ | refine ri ?_ | refine rx ?_ | refine ry ?_) | refine aw_rseq ?_ | refine aw_seq ?_ | refine aw_region ?_ | refine aw_skip ?_ | refine ct ?_ | refine cf ?_ | refine d0s ?_ | refine d0r ?_ | refine aw_block ?_ | refine aw_exit ?_ | refine then_ret ?_ | refine then_exit ?_ | refine then_normal ?_ | refine blk_ret ?_ | refine blk_normal ?_ | refine blk_exit ?_ | refine blk_pass rfl ?_))
      ((try refine aw_ret ?_); (repeat (first | refine then_ret ?_ | refine blk_ret ?_)); refine fin_t True.intro rfl rfl ?_)
      exact ⟨rfl, .inl ⟨by unfold blockedB behindB; rw [hB, decide_eq_true hx]; rfl, ho1⟩⟩
    · have hbl : blockedB e = false := by unfold blockedB behindB; rw [hB, decide_eq_false hx]; rfl
      (repeat' (first | (refine sq_id ?_; first | refine sq_nil ?_ | refine sm ?_ | refine sa ?_ | refine ss ?_ | refine st ?_ | refine sf ?_ | refine sp ?_ | refine sq ?_ | refine sl ?_ | refine si ?_ | refine sx ?_ | refine sy ?_) | (refine rg_id ?_; first | refine rg_fin ?_ | refine rm ?_ | refine ra ?_ | refine rs ?_ | refine rt ?_ | refine rf ?_ | refine rp ?_ | refine rq ?_ | refine rl ?_ | refine ri ?_ | refine rx ?_ | refine ry ?_) | refine aw_rseq ?_ | refine aw_seq ?_ | refine aw_region ?_ | refine aw_skip ?_ | refine ct ?_ | refine cf ?_ | refine d0s ?_ | refine d0r ?_ | refine aw_block ?_ | refine aw_exit ?_ | refine then_ret ?_ | refine then_exit ?_ | refine then_normal ?_ | refine blk_ret ?_ | refine blk_normal ?_ | refine blk_exit ?_ | refine blk_pass rfl ?_))
      refine sw hss fun H3 hs3 ho3 hl3 => ?_
      have hb3 := ho3.get hbb (by simp; omega)
      have hp3 := ho3.get hp1 (by simp; omega)
      have hm3 := ho3.get hmm (by simp; omega)
      (repeat' (first | (refine sq_id ?_; first | refine sq_nil ?_ | refine sm ?_ | refine sa ?_ | refine ss ?_ | refine st ?_ | refine sf ?_ | refine sp ?_ | refine sq ?_ | refine sl ?_ | refine si ?_ | refine sx ?_ | refine sy ?_) | (refine rg_id ?_; first | refine rg_fin ?_ | refine rm ?_ | refine ra ?_ | refine rs ?_ | refine rt ?_ | refine rf ?_ | refine rp ?_ | refine rq ?_ | refine rl ?_ | refine ri ?_ | refine rx ?_ | refine ry ?_) | refine aw_rseq ?_ | refine aw_seq ?_ | refine aw_region ?_ | refine aw_skip ?_ | refine ct ?_ | refine cf ?_ | refine d0s ?_ | refine d0r ?_ | refine aw_block ?_ | refine aw_exit ?_ | refine then_ret ?_ | refine then_exit ?_ | refine then_normal ?_ | refine blk_ret ?_ | refine blk_normal ?_ | refine blk_exit ?_ | refine blk_pass rfl ?_))
      refine sw hb3 fun H4 hb4 ho4 hl4 => ?_
      have hs4 := ho4.get hs3 (by simp; omega)
      have hp4 := ho4.get hp3 (by simp; omega)
      have hm4 := ho4.get hm3 (by simp; omega)
      refine sq_nil ?_
      refine aw_norm id (ebk [.i (e.now + 1), ints e.pins, ints e.l0, ints e.l1, ints e.l2, .arr m 1 0 e.free.length]) hb4 rfl rfl rfl (one_of rfl rfl) fun H5 hb5 ho5 hl5 => ?_
      have hs5 := ho5.get hs4 (by simp; omega)
      have hp5 := ho5.get hp4 (by simp; omega)
      have hm5 := ho5.get hm4 (by simp; omega)
      have hlen5 : H5.length = H.length + 1 := by omega
      have hbn := nil_at hb5
      have hpn := nil_at hp5
      refine aw_seq ?_
      refine d0r ?_
      (repeat' (first | (refine sq_id ?_; first | refine rg_remk TYok TYz rfl rfl rfl rfl sd hk2 ?_ | refine sq_nil ?_ | refine sm ?_ | refine sa ?_ | refine ss ?_ | refine st ?_ | refine sf ?_ | refine sp ?_ | refine sq ?_ | refine sl ?_ | refine si ?_ | refine sx ?_ | refine sy ?_) | (refine rg_id ?_; first | refine rg_remk TYok TYz rfl rfl rfl rfl sd hk2 ?_ | refine rg_fin ?_ | refine rm ?_ | refine ra ?_ | refine rs ?_ | refine rt ?_ | refine rf ?_ | refine rp ?_ | refine rq ?_ | refine rl ?_ | refine ri ?_ | refine rx ?_ | refine ry ?_)))
      refine then_normal ?_
      refine aw_seq ?_
      have hlen5' : (H5 ++ []).length = H.length + 1 := by simp; omega
      refine aw_mid [] (fun _ : Unit => []) (fun _ H' => ∃ vf, IsBox H' id [.i (e.now + 1), ints e.pins, ints e.l0, ints e.l1, .p (.slice none 0 0), vf] ∧ FzL H' vf (e.free ++ e.l2) ∧ (∀ id', accId vf = some id' → (id' = m ∨ H.length ≤ id') ∧ id' < H'.length) ∧ IsOne H' bis 4 (.b true) ∧ (H5 ++ []).length ≤ H'.length ∧ ∀ x, x < (H5 ++ []).length → x ≠ id → x ≠ m → H'[x]? = (H5 ++ [])[x]?) ?_ ?_
      ·
        have hmn := nil_at hm5
        have fin : ∀ (id' : Nat) (b' : Blk) (H6 H7 H8 : AH), H6[id']? = some (some b') → b'.ety = 3 → b'.sz = 1 → b'.n = e.free.length + e.l2.length → (∀ j, j < e.free.length + e.l2.length → b'.g j = if j < e.free.length then [.i (e.free.getD j 0)] else [.i (e.l2.getD (j - e.free.length) 0)]) → Oth (H5 ++ []) H6 (some m) → (id' = m ∨ H.length ≤ id') → id' ≠ id → Oth H6 H7 (some id) → Oth H7 H8 (some id) → IsBox H8 id [.i (e.now + 1), ints e.pins, ints e.l0, ints e.l1, .p (.slice none 0 0), .arr id' 1 0 (e.free.length + e.l2.length)] → ∃ vf, IsBox H8 id [.i (e.now + 1), ints e.pins, ints e.l0, ints e.l1, .p (.slice none 0 0), vf] ∧ FzL H8 vf (e.free ++ e.l2) ∧ (∀ id', accId vf = some id' → (id' = m ∨ H.length ≤ id') ∧ id' < H8.length) ∧ IsOne H8 bis 4 (.b true) ∧ (H5 ++ []).length ≤ H8.length ∧ ∀ x, x < (H5 ++ []).length → x ≠ id → x ≠ m → H8[x]? = (H5 ++ [])[x]? := by
          intro id' b' H6 H7 H8 hb' q1 q2 q3 q4 ho6 hid7 hni ho7 ho8 hbx
          exact ⟨_, hbx, fzL_arr (ho8.get (ho7.get hb' (by simp; omega)) (by simp; omega)) q1 q2 q3 (by rw [List.length_append]) (fun j hj => (q4 j hj).trans (app_cell e.free e.l2 j)), (fun i hi => by cases hi; exact ⟨hid7, Nat.lt_of_lt_of_le (List.getElem?_eq_some_iff.1 hb').1 (Nat.le_trans ho7.1 ho8.1)⟩), ⟨_, ho8.get (ho7.get (ho6.get (nil_at hs5) (by simp; omega)) (by simp; omega)) (by simp; omega), rfl, rfl, rfl, rfl⟩, Nat.le_trans ho6.1 (Nat.le_trans ho7.1 ho8.1), fun x hx x1 x2 => by rw [ho8.2 x (Nat.lt_of_lt_of_le hx (Nat.le_trans ho6.1 ho7.1)) (by simp; omega), ho7.2 x (Nat.lt_of_lt_of_le hx ho6.1) (by simp; omega), ho6.2 x hx (by simp; omega)]⟩
        refine yall 15 ?_
        refine ye 1 ?_
        refine sm ?_
        refine sq_nil ?_
        refine ye 6 ?_
        refine sm ?_
        refine sq_nil ?_
        refine ye 7 ?_
        refine sp ?_
        refine sq_nil ?_
        refine y3 0 2 8 ?_ ?_ ?_
        first | refine sl ?_ | refine sq_load TYok rfl rfl rfl (ho6.get hpn (by simp; omega)) (by rfl) Nat.zero_lt_one (by rfl) ?_
        refine sq_nil ?_
        refine y2 2 8 ?_ ?_
        refine sl ?_
        refine sq_nil ?_
        refine ye 3 ?_
        refine sp ?_
        refine sq_nil ?_
        refine ye 4 ?_
        refine sp ?_
        refine sq_nil ?_
        refine y2 5 8 ?_ ?_
        refine sl ?_
        refine sq_nil ?_
        refine y1 8 ?_
        refine sl ?_
        refine sq_nil ?_
        refine y1 9 ?_
        refine sq_appa TYok TYz rfl rfl rfl rfl rfl rfl rfl (by decide) (.inr ⟨m, _, Nat.zero_le _, rfl, hmn, rfl, rfl, rfl, fun _ _ => rfl⟩) (.lst _ _ _ _) (by omega) (by show (e.free.length + e.l2.length) * 8 ≤ _; omega) (by show e.free.length + e.l2.length ≤ _; omega) fun id' b' H6 hb' q1 q2 q3 q4 ho6 hi6 => ?_
        have hid7 : id' = m ∨ (H5 ++ []).length ≤ id' := hi6.elim (fun h => .inl (Option.some.inj h)) .inr
        have ho6 : Oth (H5 ++ []) H6 (some m) := ho6
        refine sq_nil ?_
        refine ye 10 ?_
        refine sp ?_
        refine sq_nil ?_
        refine ye 11 ?_
        refine sp ?_
        refine sq_nil ?_
        refine y1 12 ?_
        refine sw (ho6.get hbn (by simp; omega)) fun H7 hb7 ho7 hl7 => ?_
        refine sq_nil ?_
        refine ye 13 ?_
        refine sp ?_
        refine sq_nil ?_
        refine y1 14 ?_
        refine sw hb7 fun H8 hb8 ho8 hl8 => ?_
        refine sq_nil ?_
        refine yd ?_
        exact then_normal ⟨(), _, by rw [rstf_eq]; rfl, .refl _, fin _ _ _ _ _ hb' q1 q2 q3 q4 ho6 (by omega) (by omega) ho7 ho8 ⟨_, hb8, rfl, rfl, rfl, rfl⟩⟩
        refine sl ?_
        refine sq_nil ?_
        refine y1 5 ?_
        refine sl ?_
        refine sq_nil ?_
        refine y1 9 ?_
        refine sq_appa TYok TYz rfl rfl rfl rfl rfl rfl rfl (by decide) (.inr ⟨m, _, Nat.zero_le _, rfl, hmn, rfl, rfl, rfl, fun _ _ => rfl⟩) (.lst _ _ _ _) (by omega) (by show (e.free.length + e.l2.length) * 8 ≤ _; omega) (by show e.free.length + e.l2.length ≤ _; omega) fun id' b' H6 hb' q1 q2 q3 q4 ho6 hi6 => ?_
        have hid7 : id' = m ∨ (H5 ++ []).length ≤ id' := hi6.elim (fun h => .inl (Option.some.inj h)) .inr
        have ho6 : Oth (H5 ++ []) H6 (some m) := ho6
        refine sq_nil ?_
        refine ye 10 ?_
        refine sp ?_
        refine sq_nil ?_
        refine ye 11 ?_
        refine sp ?_
        refine sq_nil ?_
        refine y1 12 ?_
        refine sw (ho6.get hbn (by simp; omega)) fun H7 hb7 ho7 hl7 => ?_
        refine sq_nil ?_
        refine ye 13 ?_
        refine sp ?_
        refine sq_nil ?_
        refine y1 14 ?_
        refine sw hb7 fun H8 hb8 ho8 hl8 => ?_
        refine sq_nil ?_
        refine yd ?_
        exact then_normal ⟨(), _, by rw [rstf_eq]; rfl, .refl _, fin _ _ _ _ _ hb' q1 q2 q3 q4 ho6 (by omega) (by omega) ho7 ho8 ⟨_, hb8, rfl, rfl, rfl, rfl⟩⟩
        refine sl ?_
        refine sq_nil ?_
        refine y1 2 ?_
        refine sl ?_
        refine sq_nil ?_
        refine ye 3 ?_
        refine sp ?_
        refine sq_nil ?_
        refine ye 4 ?_
        refine sp ?_
        refine sq_nil ?_
        refine y1 5 ?_
        refine sl ?_
        refine sq_nil ?_
        refine y1 9 ?_
        refine sq_appa TYok TYz rfl rfl rfl rfl rfl rfl rfl (by decide) (.inr ⟨m, _, Nat.zero_le _, rfl, hmn, rfl, rfl, rfl, fun _ _ => rfl⟩) (.lst _ _ _ _) (by omega) (by show (e.free.length + e.l2.length) * 8 ≤ _; omega) (by show e.free.length + e.l2.length ≤ _; omega) fun id' b' H6 hb' q1 q2 q3 q4 ho6 hi6 => ?_
        have hid7 : id' = m ∨ (H5 ++ []).length ≤ id' := hi6.elim (fun h => .inl (Option.some.inj h)) .inr
        have ho6 : Oth (H5 ++ []) H6 (some m) := ho6
        refine sq_nil ?_
        refine ye 10 ?_
        refine sp ?_
        refine sq_nil ?_
        refine ye 11 ?_
        refine sp ?_
        refine sq_nil ?_
        refine y1 12 ?_
        refine sw (ho6.get hbn (by simp; omega)) fun H7 hb7 ho7 hl7 => ?_
        refine sq_nil ?_
        refine ye 13 ?_
        refine sp ?_
        refine sq_nil ?_
        refine y1 14 ?_
        refine sw hb7 fun H8 hb8 ho8 hl8 => ?_
        refine sq_nil ?_
        refine yd ?_
        exact then_normal ⟨(), _, by rw [rstf_eq]; rfl, .refl _, fin _ _ _ _ _ hb' q1 q2 q3 q4 ho6 (by omega) (by omega) ho7 ho8 ⟨_, hb8, rfl, rfl, rfl, rfl⟩⟩
        refine sl ?_
        refine sq_nil ?_
        refine ye 3 ?_
        refine sp ?_
        refine sq_nil ?_
        refine ye 4 ?_
        refine sp ?_
        refine sq_nil ?_
        refine y3 0 5 8 ?_ ?_ ?_
        first | refine sl ?_ | refine sq_load TYok rfl rfl rfl (ho6.get hpn (by simp; omega)) (by rfl) Nat.zero_lt_one (by rfl) ?_
        refine sq_nil ?_
        refine y2 5 8 ?_ ?_
        refine sl ?_
        refine sq_nil ?_
        refine y1 8 ?_
        refine sl ?_
        refine sq_nil ?_
        refine y1 9 ?_
        refine sq_appa TYok TYz rfl rfl rfl rfl rfl rfl rfl (by decide) (.inr ⟨m, _, Nat.zero_le _, rfl, hmn, rfl, rfl, rfl, fun _ _ => rfl⟩) (.lst _ _ _ _) (by omega) (by show (e.free.length + e.l2.length) * 8 ≤ _; omega) (by show e.free.length + e.l2.length ≤ _; omega) fun id' b' H6 hb' q1 q2 q3 q4 ho6 hi6 => ?_
        have hid7 : id' = m ∨ (H5 ++ []).length ≤ id' := hi6.elim (fun h => .inl (Option.some.inj h)) .inr
        have ho6 : Oth (H5 ++ []) H6 (some m) := ho6
        refine sq_nil ?_
        refine ye 10 ?_
        refine sp ?_
        refine sq_nil ?_
        refine ye 11 ?_
        refine sp ?_
        refine sq_nil ?_
        refine y1 12 ?_
        refine sw (ho6.get hbn (by simp; omega)) fun H7 hb7 ho7 hl7 => ?_
        refine sq_nil ?_
        refine ye 13 ?_
        refine sp ?_
        refine sq_nil ?_
        refine y1 14 ?_
        refine sw hb7 fun H8 hb8 ho8 hl8 => ?_
        refine sq_nil ?_
        refine yd ?_
        exact then_normal ⟨(), _, by rw [rstf_eq]; rfl, .refl _, fin _ _ _ _ _ hb' q1 q2 q3 q4 ho6 (by omega) (by omega) ho7 ho8 ⟨_, hb8, rfl, rfl, rfl, rfl⟩⟩
        refine sl ?_
        refine sq_nil ?_
        refine y1 5 ?_
        refine sl ?_
        refine sq_nil ?_
        refine y1 9 ?_
        refine sq_appa TYok TYz rfl rfl rfl rfl rfl rfl rfl (by decide) (.inr ⟨m, _, Nat.zero_le _, rfl, hmn, rfl, rfl, rfl, fun _ _ => rfl⟩) (.lst _ _ _ _) (by omega) (by show (e.free.length + e.l2.length) * 8 ≤ _; omega) (by show e.free.length + e.l2.length ≤ _; omega) fun id' b' H6 hb' q1 q2 q3 q4 ho6 hi6 => ?_
        have hid7 : id' = m ∨ (H5 ++ []).length ≤ id' := hi6.elim (fun h => .inl (Option.some.inj h)) .inr
        have ho6 : Oth (H5 ++ []) H6 (some m) := ho6
        refine sq_nil ?_
        refine ye 10 ?_
        refine sp ?_
        refine sq_nil ?_
        refine ye 11 ?_
        refine sp ?_
        refine sq_nil ?_
        refine y1 12 ?_
        refine sw (ho6.get hbn (by simp; omega)) fun H7 hb7 ho7 hl7 => ?_
        refine sq_nil ?_
        refine ye 13 ?_
        refine sp ?_
        refine sq_nil ?_
        refine y1 14 ?_
        refine sw hb7 fun H8 hb8 ho8 hl8 => ?_
        refine sq_nil ?_
        refine yd ?_
        exact then_normal ⟨(), _, by rw [rstf_eq]; rfl, .refl _, fin _ _ _ _ _ hb' q1 q2 q3 q4 ho6 (by omega) (by omega) ho7 ho8 ⟨_, hb8, rfl, rfl, rfl, rfl⟩⟩
        refine sl ?_
        refine sq_nil ?_
        refine y2 0 8 ?_ ?_
        first | refine sl ?_ | refine sq_load TYok rfl rfl rfl (ho6.get hpn (by simp; omega)) (by rfl) Nat.zero_lt_one (by rfl) ?_
        refine sq_nil ?_
        refine y1 8 ?_
        refine sl ?_
        refine sq_nil ?_
        refine y1 9 ?_
        refine sq_appa TYok TYz rfl rfl rfl rfl rfl rfl rfl (by decide) (.inr ⟨m, _, Nat.zero_le _, rfl, hmn, rfl, rfl, rfl, fun _ _ => rfl⟩) (.lst _ _ _ _) (by omega) (by show (e.free.length + e.l2.length) * 8 ≤ _; omega) (by show e.free.length + e.l2.length ≤ _; omega) fun id' b' H6 hb' q1 q2 q3 q4 ho6 hi6 => ?_
        have hid7 : id' = m ∨ (H5 ++ []).length ≤ id' := hi6.elim (fun h => .inl (Option.some.inj h)) .inr
        have ho6 : Oth (H5 ++ []) H6 (some m) := ho6
        refine sq_nil ?_
        refine ye 10 ?_
        refine sp ?_
        refine sq_nil ?_
        refine ye 11 ?_
        refine sp ?_
        refine sq_nil ?_
        refine y1 12 ?_
        refine sw (ho6.get hbn (by simp; omega)) fun H7 hb7 ho7 hl7 => ?_
        refine sq_nil ?_
        refine ye 13 ?_
        refine sp ?_
        refine sq_nil ?_
        refine y1 14 ?_
        refine sw hb7 fun H8 hb8 ho8 hl8 => ?_
        refine sq_nil ?_
        refine yd ?_
        exact then_normal ⟨(), _, by rw [rstf_eq]; rfl, .refl _, fin _ _ _ _ _ hb' q1 q2 q3 q4 ho6 (by omega) (by omega) ho7 ho8 ⟨_, hb8, rfl, rfl, rfl, rfl⟩⟩
        refine sl ?_
        refine sq_nil ?_
        refine y2 0 9 ?_ ?_
        first | refine sl ?_ | refine sq_load TYok rfl rfl rfl (ho6.get hpn (by simp; omega)) (by rfl) Nat.zero_lt_one (by rfl) ?_
        refine sq_nil ?_
        refine y1 9 ?_
        refine sq_appa TYok TYz rfl rfl rfl rfl rfl rfl rfl (by decide) (.inr ⟨m, _, Nat.zero_le _, rfl, hmn, rfl, rfl, rfl, fun _ _ => rfl⟩) (.lst _ _ _ _) (by omega) (by show (e.free.length + e.l2.length) * 8 ≤ _; omega) (by show e.free.length + e.l2.length ≤ _; omega) fun id' b' H6 hb' q1 q2 q3 q4 ho6 hi6 => ?_
        have hid7 : id' = m ∨ (H5 ++ []).length ≤ id' := hi6.elim (fun h => .inl (Option.some.inj h)) .inr
        have ho6 : Oth (H5 ++ []) H6 (some m) := ho6
        refine sq_nil ?_
        refine ye 10 ?_
        refine sp ?_
        refine sq_nil ?_
        refine ye 11 ?_
        refine sp ?_
        refine sq_nil ?_
        refine y1 12 ?_
        refine sw (ho6.get hbn (by simp; omega)) fun H7 hb7 ho7 hl7 => ?_
        refine sq_nil ?_
        refine ye 13 ?_
        refine sp ?_
        refine sq_nil ?_
        refine y1 14 ?_
        refine sw hb7 fun H8 hb8 ho8 hl8 => ?_
        refine sq_nil ?_
        refine yd ?_
        exact then_normal ⟨(), _, by rw [rstf_eq]; rfl, .refl _, fin _ _ _ _ _ hb' q1 q2 q3 q4 ho6 (by omega) (by omega) ho7 ho8 ⟨_, hb8, rfl, rfl, rfl, rfl⟩⟩
        refine sq_appa TYok TYz rfl rfl rfl rfl rfl rfl rfl (by decide) (.inr ⟨m, _, Nat.zero_le _, rfl, hmn, rfl, rfl, rfl, fun _ _ => rfl⟩) (.lst _ _ _ _) (by omega) (by show (e.free.length + e.l2.length) * 8 ≤ _; omega) (by show e.free.length + e.l2.length ≤ _; omega) fun id' b' H6 hb' q1 q2 q3 q4 ho6 hi6 => ?_
        have hid7 : id' = m ∨ (H5 ++ []).length ≤ id' := hi6.elim (fun h => .inl (Option.some.inj h)) .inr
        have ho6 : Oth (H5 ++ []) H6 (some m) := ho6
        refine sq_nil ?_
        refine y1 0 ?_
        first | refine sl ?_ | refine sq_load TYok rfl rfl rfl (ho6.get hpn (by simp; omega)) (by rfl) Nat.zero_lt_one (by rfl) ?_
        refine sq_nil ?_
        refine ye 10 ?_
        refine sp ?_
        refine sq_nil ?_
        refine ye 11 ?_
        refine sp ?_
        refine sq_nil ?_
        refine y1 12 ?_
        refine sw (ho6.get hbn (by simp; omega)) fun H7 hb7 ho7 hl7 => ?_
        refine sq_nil ?_
        refine ye 13 ?_
        refine sp ?_
        refine sq_nil ?_
        refine y1 14 ?_
        refine sw hb7 fun H8 hb8 ho8 hl8 => ?_
        refine sq_nil ?_
        refine yd ?_
        exact then_normal ⟨(), _, by rw [rstf_eq]; rfl, .refl _, fin _ _ _ _ _ hb' q1 q2 q3 q4 ho6 (by omega) (by omega) ho7 ho8 ⟨_, hb8, rfl, rfl, rfl, rfl⟩⟩
        refine sl ?_
        refine sq_nil ?_
        refine y2 0 5 ?_ ?_
        first | refine sl ?_ | refine sq_load TYok rfl rfl rfl (ho6.get hpn (by simp; omega)) (by rfl) Nat.zero_lt_one (by rfl) ?_
        refine sq_nil ?_
        refine y1 5 ?_
        refine sl ?_
        refine sq_nil ?_
        refine y1 9 ?_
        refine sq_appa TYok TYz rfl rfl rfl rfl rfl rfl rfl (by decide) (.inr ⟨m, _, Nat.zero_le _, rfl, hmn, rfl, rfl, rfl, fun _ _ => rfl⟩) (.lst _ _ _ _) (by omega) (by show (e.free.length + e.l2.length) * 8 ≤ _; omega) (by show e.free.length + e.l2.length ≤ _; omega) fun id' b' H6 hb' q1 q2 q3 q4 ho6 hi6 => ?_
        have hid7 : id' = m ∨ (H5 ++ []).length ≤ id' := hi6.elim (fun h => .inl (Option.some.inj h)) .inr
        have ho6 : Oth (H5 ++ []) H6 (some m) := ho6
        refine sq_nil ?_
        refine ye 10 ?_
        refine sp ?_
        refine sq_nil ?_
        refine ye 11 ?_
        refine sp ?_
        refine sq_nil ?_
        refine y1 12 ?_
        refine sw (ho6.get hbn (by simp; omega)) fun H7 hb7 ho7 hl7 => ?_
        refine sq_nil ?_
        refine ye 13 ?_
        refine sp ?_
        refine sq_nil ?_
        refine y1 14 ?_
        refine sw hb7 fun H8 hb8 ho8 hl8 => ?_
        refine sq_nil ?_
        refine yd ?_
        exact then_normal ⟨(), _, by rw [rstf_eq]; rfl, .refl _, fin _ _ _ _ _ hb' q1 q2 q3 q4 ho6 (by omega) (by omega) ho7 ho8 ⟨_, hb8, rfl, rfl, rfl, rfl⟩⟩
        refine sl ?_
        refine sq_nil ?_
        refine y2 0 9 ?_ ?_
        first | refine sl ?_ | refine sq_load TYok rfl rfl rfl (ho6.get hpn (by simp; omega)) (by rfl) Nat.zero_lt_one (by rfl) ?_
        refine sq_nil ?_
        refine y1 9 ?_
        refine sq_appa TYok TYz rfl rfl rfl rfl rfl rfl rfl (by decide) (.inr ⟨m, _, Nat.zero_le _, rfl, hmn, rfl, rfl, rfl, fun _ _ => rfl⟩) (.lst _ _ _ _) (by omega) (by show (e.free.length + e.l2.length) * 8 ≤ _; omega) (by show e.free.length + e.l2.length ≤ _; omega) fun id' b' H6 hb' q1 q2 q3 q4 ho6 hi6 => ?_
        have hid7 : id' = m ∨ (H5 ++ []).length ≤ id' := hi6.elim (fun h => .inl (Option.some.inj h)) .inr
        have ho6 : Oth (H5 ++ []) H6 (some m) := ho6
        refine sq_nil ?_
        refine ye 10 ?_
        refine sp ?_
        refine sq_nil ?_
        refine ye 11 ?_
        refine sp ?_
        refine sq_nil ?_
        refine y1 12 ?_
        refine sw (ho6.get hbn (by simp; omega)) fun H7 hb7 ho7 hl7 => ?_
        refine sq_nil ?_
        refine ye 13 ?_
        refine sp ?_
        refine sq_nil ?_
        refine y1 14 ?_
        refine sw hb7 fun H8 hb8 ho8 hl8 => ?_
        refine sq_nil ?_
        refine yd ?_
        exact then_normal ⟨(), _, by rw [rstf_eq]; rfl, .refl _, fin _ _ _ _ _ hb' q1 q2 q3 q4 ho6 (by omega) (by omega) ho7 ho8 ⟨_, hb8, rfl, rfl, rfl, rfl⟩⟩
        refine sq_appa TYok TYz rfl rfl rfl rfl rfl rfl rfl (by decide) (.inr ⟨m, _, Nat.zero_le _, rfl, hmn, rfl, rfl, rfl, fun _ _ => rfl⟩) (.lst _ _ _ _) (by omega) (by show (e.free.length + e.l2.length) * 8 ≤ _; omega) (by show e.free.length + e.l2.length ≤ _; omega) fun id' b' H6 hb' q1 q2 q3 q4 ho6 hi6 => ?_
        have hid7 : id' = m ∨ (H5 ++ []).length ≤ id' := hi6.elim (fun h => .inl (Option.some.inj h)) .inr
        have ho6 : Oth (H5 ++ []) H6 (some m) := ho6
        refine sq_nil ?_
        refine y1 0 ?_
        first | refine sl ?_ | refine sq_load TYok rfl rfl rfl (ho6.get hpn (by simp; omega)) (by rfl) Nat.zero_lt_one (by rfl) ?_
        refine sq_nil ?_
        refine ye 10 ?_
        refine sp ?_
        refine sq_nil ?_
        refine ye 11 ?_
        refine sp ?_
        refine sq_nil ?_
        refine y1 12 ?_
        refine sw (ho6.get hbn (by simp; omega)) fun H7 hb7 ho7 hl7 => ?_
        refine sq_nil ?_
        refine ye 13 ?_
        refine sp ?_
        refine sq_nil ?_
        refine y1 14 ?_
        refine sw hb7 fun H8 hb8 ho8 hl8 => ?_
        refine sq_nil ?_
        refine yd ?_
        exact then_normal ⟨(), _, by rw [rstf_eq]; rfl, .refl _, fin _ _ _ _ _ hb' q1 q2 q3 q4 ho6 (by omega) (by omega) ho7 ho8 ⟨_, hb8, rfl, rfl, rfl, rfl⟩⟩
        refine sl ?_
        refine sq_nil ?_
        refine y2 0 2 ?_ ?_
        first | refine sl ?_ | refine sq_load TYok rfl rfl rfl (ho6.get hpn (by simp; omega)) (by rfl) Nat.zero_lt_one (by rfl) ?_
        refine sq_nil ?_
        refine y1 2 ?_
        refine sl ?_
        refine sq_nil ?_
        refine ye 3 ?_
        refine sp ?_
        refine sq_nil ?_
        refine ye 4 ?_
        refine sp ?_
        refine sq_nil ?_
        refine y1 5 ?_
        refine sl ?_
        refine sq_nil ?_
        refine y1 9 ?_
        refine sq_appa TYok TYz rfl rfl rfl rfl rfl rfl rfl (by decide) (.inr ⟨m, _, Nat.zero_le _, rfl, hmn, rfl, rfl, rfl, fun _ _ => rfl⟩) (.lst _ _ _ _) (by omega) (by show (e.free.length + e.l2.length) * 8 ≤ _; omega) (by show e.free.length + e.l2.length ≤ _; omega) fun id' b' H6 hb' q1 q2 q3 q4 ho6 hi6 => ?_
        have hid7 : id' = m ∨ (H5 ++ []).length ≤ id' := hi6.elim (fun h => .inl (Option.some.inj h)) .inr
        have ho6 : Oth (H5 ++ []) H6 (some m) := ho6
        refine sq_nil ?_
        refine ye 10 ?_
        refine sp ?_
        refine sq_nil ?_
        refine ye 11 ?_
        refine sp ?_
        refine sq_nil ?_
        refine y1 12 ?_
        refine sw (ho6.get hbn (by simp; omega)) fun H7 hb7 ho7 hl7 => ?_
        refine sq_nil ?_
        refine ye 13 ?_
        refine sp ?_
        refine sq_nil ?_
        refine y1 14 ?_
        refine sw hb7 fun H8 hb8 ho8 hl8 => ?_
        refine sq_nil ?_
        refine yd ?_
        exact then_normal ⟨(), _, by rw [rstf_eq]; rfl, .refl _, fin _ _ _ _ _ hb' q1 q2 q3 q4 ho6 (by omega) (by omega) ho7 ho8 ⟨_, hb8, rfl, rfl, rfl, rfl⟩⟩
        refine sl ?_
        refine sq_nil ?_
        refine ye 3 ?_
        refine sp ?_
        refine sq_nil ?_
        refine ye 4 ?_
        refine sp ?_
        refine sq_nil ?_
        refine y2 0 5 ?_ ?_
        first | refine sl ?_ | refine sq_load TYok rfl rfl rfl (ho6.get hpn (by simp; omega)) (by rfl) Nat.zero_lt_one (by rfl) ?_
        refine sq_nil ?_
        refine y1 5 ?_
        refine sl ?_
        refine sq_nil ?_
        refine y1 9 ?_
        refine sq_appa TYok TYz rfl rfl rfl rfl rfl rfl rfl (by decide) (.inr ⟨m, _, Nat.zero_le _, rfl, hmn, rfl, rfl, rfl, fun _ _ => rfl⟩) (.lst _ _ _ _) (by omega) (by show (e.free.length + e.l2.length) * 8 ≤ _; omega) (by show e.free.length + e.l2.length ≤ _; omega) fun id' b' H6 hb' q1 q2 q3 q4 ho6 hi6 => ?_
        have hid7 : id' = m ∨ (H5 ++ []).length ≤ id' := hi6.elim (fun h => .inl (Option.some.inj h)) .inr
        have ho6 : Oth (H5 ++ []) H6 (some m) := ho6
        refine sq_nil ?_
        refine ye 10 ?_
        refine sp ?_
        refine sq_nil ?_
        refine ye 11 ?_
        refine sp ?_
        refine sq_nil ?_
        refine y1 12 ?_
        refine sw (ho6.get hbn (by simp; omega)) fun H7 hb7 ho7 hl7 => ?_
        refine sq_nil ?_
        refine ye 13 ?_
        refine sp ?_
        refine sq_nil ?_
        refine y1 14 ?_
        refine sw hb7 fun H8 hb8 ho8 hl8 => ?_
        refine sq_nil ?_
        refine yd ?_
        exact then_normal ⟨(), _, by rw [rstf_eq]; rfl, .refl _, fin _ _ _ _ _ hb' q1 q2 q3 q4 ho6 (by omega) (by omega) ho7 ho8 ⟨_, hb8, rfl, rfl, rfl, rfl⟩⟩
        refine sl ?_
        refine sq_nil ?_
        refine y2 0 9 ?_ ?_
        first | refine sl ?_ | refine sq_load TYok rfl rfl rfl (ho6.get hpn (by simp; omega)) (by rfl) Nat.zero_lt_one (by rfl) ?_
        refine sq_nil ?_
        refine y1 9 ?_
        refine sq_appa TYok TYz rfl rfl rfl rfl rfl rfl rfl (by decide) (.inr ⟨m, _, Nat.zero_le _, rfl, hmn, rfl, rfl, rfl, fun _ _ => rfl⟩) (.lst _ _ _ _) (by omega) (by show (e.free.length + e.l2.length) * 8 ≤ _; omega) (by show e.free.length + e.l2.length ≤ _; omega) fun id' b' H6 hb' q1 q2 q3 q4 ho6 hi6 => ?_
        have hid7 : id' = m ∨ (H5 ++ []).length ≤ id' := hi6.elim (fun h => .inl (Option.some.inj h)) .inr
        have ho6 : Oth (H5 ++ []) H6 (some m) := ho6
        refine sq_nil ?_
        refine ye 10 ?_
        refine sp ?_
        refine sq_nil ?_
        refine ye 11 ?_
        refine sp ?_
        refine sq_nil ?_
        refine y1 12 ?_
        refine sw (ho6.get hbn (by simp; omega)) fun H7 hb7 ho7 hl7 => ?_
        refine sq_nil ?_
        refine ye 13 ?_
        refine sp ?_
        refine sq_nil ?_
        refine y1 14 ?_
        refine sw hb7 fun H8 hb8 ho8 hl8 => ?_
        refine sq_nil ?_
        refine yd ?_
        exact then_normal ⟨(), _, by rw [rstf_eq]; rfl, .refl _, fin _ _ _ _ _ hb' q1 q2 q3 q4 ho6 (by omega) (by omega) ho7 ho8 ⟨_, hb8, rfl, rfl, rfl, rfl⟩⟩
        refine sq_appa TYok TYz rfl rfl rfl rfl rfl rfl rfl (by decide) (.inr ⟨m, _, Nat.zero_le _, rfl, hmn, rfl, rfl, rfl, fun _ _ => rfl⟩) (.lst _ _ _ _) (by omega) (by show (e.free.length + e.l2.length) * 8 ≤ _; omega) (by show e.free.length + e.l2.length ≤ _; omega) fun id' b' H6 hb' q1 q2 q3 q4 ho6 hi6 => ?_
        have hid7 : id' = m ∨ (H5 ++ []).length ≤ id' := hi6.elim (fun h => .inl (Option.some.inj h)) .inr
        have ho6 : Oth (H5 ++ []) H6 (some m) := ho6
        refine sq_nil ?_
        refine y1 0 ?_
        first | refine sl ?_ | refine sq_load TYok rfl rfl rfl (ho6.get hpn (by simp; omega)) (by rfl) Nat.zero_lt_one (by rfl) ?_
        refine sq_nil ?_
        refine ye 10 ?_
        refine sp ?_
        refine sq_nil ?_
        refine ye 11 ?_
        refine sp ?_
        refine sq_nil ?_
        refine y1 12 ?_
        refine sw (ho6.get hbn (by simp; omega)) fun H7 hb7 ho7 hl7 => ?_
        refine sq_nil ?_
        refine ye 13 ?_
        refine sp ?_
        refine sq_nil ?_
        refine y1 14 ?_
        refine sw hb7 fun H8 hb8 ho8 hl8 => ?_
        refine sq_nil ?_
        refine yd ?_
        exact then_normal ⟨(), _, by rw [rstf_eq]; rfl, .refl _, fin _ _ _ _ _ hb' q1 q2 q3 q4 ho6 (by omega) (by omega) ho7 ho8 ⟨_, hb8, rfl, rfl, rfl, rfl⟩⟩
      · rintro - H9 ⟨vf, hbx, hfz, hid9, hs9, hl9, hk9⟩
        (repeat' (first | (refine sq_id ?_; first | refine sq_nil ?_ | refine sm ?_ | refine sa ?_ | refine ss ?_ | refine st ?_ | refine sf ?_ | refine sp ?_ | refine sq ?_ | refine sl ?_ | refine si ?_ | refine sx ?_ | refine sy ?_) | (refine rg_id ?_; first | refine rg_fin ?_ | refine rm ?_ | refine ra ?_ | refine rs ?_ | refine rt ?_ | refine rf ?_ | refine rp ?_ | refine rq ?_ | refine rl ?_ | refine ri ?_ | refine rx ?_ | refine ry ?_) | refine aw_rseq ?_ | refine aw_seq ?_ | refine aw_region ?_ | refine aw_skip ?_ | refine ct ?_ | refine cf ?_ | refine d0s ?_ | refine d0r ?_ | refine aw_block ?_ | refine aw_exit ?_ | refine then_ret ?_ | refine then_exit ?_ | refine then_normal ?_ | refine blk_ret ?_ | refine blk_normal ?_ | refine blk_exit ?_ | refine blk_pass rfl ?_))
        ((try refine aw_ret ?_); (repeat (first | refine then_ret ?_ | refine blk_ret ?_)); refine fin_t True.intro rfl rfl ?_)
        refine ⟨rfl, .inr ⟨hbl, vf, hbx, hfz, hid9, hs9, by omega, fun x hx x1 x2 x3 => ?_⟩⟩
        rw [hk9 x (by omega) x1 x2, List.append_nil, ho5.2 x (by omega) (by simp; omega), ho4.2 x (by omega) (by simp; omega), ho3.2 x (by omega) (by simp; omega), ho1.2 x hx (by simp)]
  · (repeat' (first | (refine sq_id ?_; first | refine sq_nil ?_ | refine sm ?_ | refine sa ?_ | refine ss ?_ | refine st ?_ | refine sf ?_ | refine sp ?_ | refine sq ?_ | refine sl ?_ | refine si ?_ | refine sx ?_ | refine sy ?_) | (refine rg_id ?_; first | refine rg_fin ?_ | refine rm ?_ | refine ra ?_ | refine rs ?_ | refine rt ?_ | refine rf ?_ | refine rp ?_ | refine rq ?_ | refine rl ?_ | refine ri ?_ | refine rx ?_ | refine ry ?_) | refine aw_rseq ?_ | refine aw_seq ?_ | refine aw_region ?_ | refine aw_skip ?_ | refine ct ?_ | refine cf ?_ | refine d0s ?_ | refine d0r ?_ | refine aw_block ?_ | refine aw_exit ?_ | refine then_ret ?_ | refine then_exit ?_ | refine then_normal ?_ | refine blk_ret ?_ | refine blk_normal ?_ | refine blk_exit ?_ | refine blk_pass rfl ?_))
    ((try refine aw_ret ?_); (repeat (first | refine then_ret ?_ | refine blk_ret ?_)); refine fin_t True.intro rfl rfl ?_)
    exact ⟨rfl, .inl ⟨by unfold blockedB behindB; rw [hB]; rfl, ho1⟩⟩
set_option maxHeartbeats 4000000 in
theorem adv2E_s (e : Ep) (hbd : Bd e) (hr : RightE e) (hk : (e.now + 2) % 3 = 2) (H : AH) (id bis : Nat) (hb : H[id]? = some (some (ebk [.i e.now, ints e.pins, ints e.l0, ints e.l1, ints e.l2, none0]))) (h0 : e.free = []) (hs : H[bis]? = some (some (bbox false))) (hsi : bis ≠ id) :
    SC true Try.prog 40 [.ref id 6 0 0, .ref bis 1 0 0] H (AdvPost e H id bis id (fun v => [.i (e.now + 1), ints e.pins, ints e.l0, ints e.l1, .p (.slice none 0 0), v]) e.l2) := by
  obtain ⟨hb1, hb2⟩ := hbd
  have hk2 : (e.now + 1 + 1) % 3 = 2 := by omega
  have hr' := hr
  obtain ⟨hnP, _⟩ := hr'
  have hnP' := hnP
  obtain ⟨n0, n1⟩ := hnP'
  have hil := (List.getElem?_eq_some_iff.1 hb).1
  have hsl := (List.getElem?_eq_some_iff.1 hs).1
  refine sc_in TYok Try.func40 (by kernel_rfl) Try.ntmps40 rfl rfl rfl ?_
  refine aw_seq ?_
  refine aw_region ?_
  refine nw fun H1 hp1 ho1 hl1 => ?_
  have hbb := ho1.get0 hb
  have hss := ho1.get0 hs
  have hcf := containsfunc_s e.pins 41 [.ref H.length 1 0 0] (fun p => decide (p ≠ 0 ∧ p ≠ e.now + 1)) (by omega) H1 (.lst false e.pins) (fun x hx => behind_s x e.now hnP H1 hbb hp1)
  (repeat' (first | (refine sq_id ?_; first | refine sq_nil ?_ | refine sm ?_ | refine sa ?_ | refine ss ?_ | refine st ?_ | refine sf ?_ | refine sp ?_ | refine sq ?_ | refine sl ?_ | refine si ?_ | refine sx ?_ | refine sy ?_) | (refine rg_id ?_; first | refine rg_fin ?_ | refine rm ?_ | refine ra ?_ | refine rs ?_ | refine rt ?_ | refine rf ?_ | refine rp ?_ | refine rq ?_ | refine rl ?_ | refine ri ?_ | refine rx ?_ | refine ry ?_) | refine aw_rseq ?_ | refine aw_seq ?_ | refine aw_region ?_ | refine aw_skip ?_ | refine ct ?_ | refine cf ?_ | refine d0s ?_ | refine d0r ?_ | refine aw_block ?_ | refine aw_exit ?_ | refine then_ret ?_ | refine then_exit ?_ | refine then_normal ?_ | refine blk_ret ?_ | refine blk_normal ?_ | refine blk_exit ?_ | refine blk_pass rfl ?_))
  refine sq_call rfl rfl rfl (LeL.refl _) (hcf.mono fun r H2 he => ?_)
  obtain ⟨rfl, rfl⟩ := he
  cases hB : e.pins.any fun p => decide (p ≠ 0 ∧ p ≠ e.now + 1)
  · by_cases hx : e.now = 1099511627776
    · (repeat' (first | (refine sq_id ?_; first | refine sq_nil ?_ | refine sm ?_ | refine sa ?_ | refine ss ?_ | refine st ?_ | refine sf ?_ | refine sp ?_ | refine sq ?_ | refine sl ?_ | refine si ?_ | refine sx ?_ | refine sy ?_) | (refine rg_id ?_; first | refine rg_fin ?_ | refine rm ?_ | refine ra ?_ | refine rs ?_ | refine rt ?_ | refine rf ?_ | refine rp ?_ | refine rq ?_ | refine rl ?_ | refine ri ?_ | refine rx ?_ | refine ry ?_) | refine aw_rseq ?_ | refine aw_seq ?_ | refine aw_region ?_ | refine aw_skip ?_ | refine ct ?_ | refine cf ?_ | refine d0s ?_ | refine d0r ?_ | refine aw_block ?_ | refine aw_exit ?_ | refine then_ret ?_ | refine then_exit ?_ | refine then_normal ?_ | refine blk_ret ?_ | refine blk_normal ?_ | refine blk_exit ?_ | refine blk_pass rfl ?_))
      ((try refine aw_ret ?_); (repeat (first | refine then_ret ?_ | refine blk_ret ?_)); refine fin_t True.intro rfl rfl ?_)
      exact ⟨rfl, .inl ⟨by unfold blockedB behindB; rw [hB, decide_eq_true hx]; rfl, ho1⟩⟩
    · have hbl : blockedB e = false := by unfold blockedB behindB; rw [hB, decide_eq_false hx]; rfl
      (repeat' (first | (refine sq_id ?_; first | refine sq_nil ?_ | refine sm ?_ | refine sa ?_ | refine ss ?_ | refine st ?_ | refine sf ?_ | refine sp ?_ | refine sq ?_ | refine sl ?_ | refine si ?_ | refine sx ?_ | refine sy ?_) | (refine rg_id ?_; first | refine rg_fin ?_ | refine rm ?_ | refine ra ?_ | refine rs ?_ | refine rt ?_ | refine rf ?_ | refine rp ?_ | refine rq ?_ | refine rl ?_ | refine ri ?_ | refine rx ?_ | refine ry ?_) | refine aw_rseq ?_ | refine aw_seq ?_ | refine aw_region ?_ | refine aw_skip ?_ | refine ct ?_ | refine cf ?_ | refine d0s ?_ | refine d0r ?_ | refine aw_block ?_ | refine aw_exit ?_ | refine then_ret ?_ | refine then_exit ?_ | refine then_normal ?_ | refine blk_ret ?_ | refine blk_normal ?_ | refine blk_exit ?_ | refine blk_pass rfl ?_))
      refine sw hss fun H3 hs3 ho3 hl3 => ?_
      have hb3 := ho3.get hbb (by simp; omega)
      have hp3 := ho3.get hp1 (by simp; omega)
      (repeat' (first | (refine sq_id ?_; first | refine sq_nil ?_ | refine sm ?_ | refine sa ?_ | refine ss ?_ | refine st ?_ | refine sf ?_ | refine sp ?_ | refine sq ?_ | refine sl ?_ | refine si ?_ | refine sx ?_ | refine sy ?_) | (refine rg_id ?_; first | refine rg_fin ?_ | refine rm ?_ | refine ra ?_ | refine rs ?_ | refine rt ?_ | refine rf ?_ | refine rp ?_ | refine rq ?_ | refine rl ?_ | refine ri ?_ | refine rx ?_ | refine ry ?_) | refine aw_rseq ?_ | refine aw_seq ?_ | refine aw_region ?_ | refine aw_skip ?_ | refine ct ?_ | refine cf ?_ | refine d0s ?_ | refine d0r ?_ | refine aw_block ?_ | refine aw_exit ?_ | refine then_ret ?_ | refine then_exit ?_ | refine then_normal ?_ | refine blk_ret ?_ | refine blk_normal ?_ | refine blk_exit ?_ | refine blk_pass rfl ?_))
      refine sw hb3 fun H4 hb4 ho4 hl4 => ?_
      have hs4 := ho4.get hs3 (by simp; omega)
      have hp4 := ho4.get hp3 (by simp; omega)
      refine sq_nil ?_
      refine aw_norm id (ebk [.i (e.now + 1), ints e.pins, ints e.l0, ints e.l1, ints e.l2, none0]) hb4 rfl rfl rfl (one_of rfl rfl) fun H5 hb5 ho5 hl5 => ?_
      have hs5 := ho5.get hs4 (by simp; omega)
      have hp5 := ho5.get hp4 (by simp; omega)
      have hlen5 : H5.length = H.length + 1 := by omega
      have hbn := nil_at hb5
      have hpn := nil_at hp5
      refine aw_seq ?_
      refine d0r ?_
      (repeat' (first | (refine sq_id ?_; first | refine rg_remk TYok TYz rfl rfl rfl rfl sd hk2 ?_ | refine sq_nil ?_ | refine sm ?_ | refine sa ?_ | refine ss ?_ | refine st ?_ | refine sf ?_ | refine sp ?_ | refine sq ?_ | refine sl ?_ | refine si ?_ | refine sx ?_ | refine sy ?_) | (refine rg_id ?_; first | refine rg_remk TYok TYz rfl rfl rfl rfl sd hk2 ?_ | refine rg_fin ?_ | refine rm ?_ | refine ra ?_ | refine rs ?_ | refine rt ?_ | refine rf ?_ | refine rp ?_ | refine rq ?_ | refine rl ?_ | refine ri ?_ | refine rx ?_ | refine ry ?_)))
      refine then_normal ?_
      refine aw_seq ?_
      have hlen5' : (H5 ++ []).length = H.length + 1 := by simp; omega
      refine aw_mid [] (fun _ : Unit => []) (fun _ H' => ∃ vf, IsBox H' id [.i (e.now + 1), ints e.pins, ints e.l0, ints e.l1, .p (.slice none 0 0), vf] ∧ FzL H' vf (e.free ++ e.l2) ∧ (∀ id', accId vf = some id' → (id' = id ∨ H.length ≤ id') ∧ id' < H'.length) ∧ IsOne H' bis 4 (.b true) ∧ (H5 ++ []).length ≤ H'.length ∧ ∀ x, x < (H5 ++ []).length → x ≠ id → x ≠ id → H'[x]? = (H5 ++ [])[x]?) ?_ ?_
      ·
        have fin : ∀ (H7 H8 : AH) (vf : AV), Oth (H5 ++ []) H7 (some id) → Oth H7 H8 (some id) → Le vf (ints e.l2) → accId vf = none → IsBox H8 id [.i (e.now + 1), ints e.pins, ints e.l0, ints e.l1, .p (.slice none 0 0), vf] → ∃ vf, IsBox H8 id [.i (e.now + 1), ints e.pins, ints e.l0, ints e.l1, .p (.slice none 0 0), vf] ∧ FzL H8 vf (e.free ++ e.l2) ∧ (∀ id', accId vf = some id' → (id' = id ∨ H.length ≤ id') ∧ id' < H8.length) ∧ IsOne H8 bis 4 (.b true) ∧ (H5 ++ []).length ≤ H8.length ∧ ∀ x, x < (H5 ++ []).length → x ≠ id → x ≠ id → H8[x]? = (H5 ++ [])[x]? := by
          intro H7 H8 vf ho7 ho8 hle hac hbx
          exact ⟨vf, hbx, fzL_le (by rw [h0]; exact hle), (fun i hi => by rw [hac] at hi; cases hi), ⟨_, ho8.get (ho7.get (nil_at hs5) (by simp; omega)) (by simp; omega), rfl, rfl, rfl, rfl⟩, Nat.le_trans ho7.1 ho8.1, fun x hx x1 x2 => by rw [ho8.2 x (Nat.lt_of_lt_of_le hx ho7.1) (by simp; omega), ho7.2 x hx (by simp; omega)]⟩
        refine yall 15 ?_
        refine ye 1 ?_
        refine sm ?_
        refine sq_nil ?_
        refine ye 6 ?_
        refine sm ?_
        refine sq_nil ?_
        refine ye 7 ?_
        refine sp ?_
        refine sq_nil ?_
        refine y3 0 2 8 ?_ ?_ ?_
        refine sl ?_
        refine sq_nil ?_
        refine y2 2 8 ?_ ?_
        refine sl ?_
        refine sq_nil ?_
        refine ye 3 ?_
        refine sp ?_
        refine sq_nil ?_
        refine ye 4 ?_
        refine sp ?_
        refine sq_nil ?_
        refine y2 5 8 ?_ ?_
        refine sl ?_
        refine sq_nil ?_
        refine y1 8 ?_
        refine sl ?_
        refine sq_nil ?_
        refine y1 9 ?_
        refine sq_clone TYok rfl rfl rfl rfl rfl (by decide) (.inr ⟨_, _, rfl⟩) (.lst _ _ _ _) (by show e.l2.length * 8 ≤ _; omega) (by show e.l2.length ≤ _; omega) ?_
        refine sq_nil ?_
        refine ye 10 ?_
        refine sp ?_
        refine sq_nil ?_
        refine ye 11 ?_
        refine sp ?_
        refine sq_nil ?_
        refine y1 12 ?_
        refine sw hbn fun H7 hb7 ho7 hl7 => ?_
        refine sq_nil ?_
        refine ye 13 ?_
        refine sp ?_
        refine sq_nil ?_
        refine y1 14 ?_
        refine sw hb7 fun H8 hb8 ho8 hl8 => ?_
        refine sq_nil ?_
        refine yd ?_
        exact then_normal ⟨(), _, by rw [rstf_eq]; rfl, .refl _, fin _ _ _ ho7 ho8 (le_copy e.l2 _ _ rfl fun i hi => rfl) rfl ⟨_, hb8, rfl, rfl, rfl, rfl⟩⟩
        refine sl ?_
        refine sq_nil ?_
        refine y1 5 ?_
        refine sl ?_
        refine sq_nil ?_
        refine y1 9 ?_
        refine sq_clone TYok rfl rfl rfl rfl rfl (by decide) (.inr ⟨_, _, rfl⟩) (.lst _ _ _ _) (by show e.l2.length * 8 ≤ _; omega) (by show e.l2.length ≤ _; omega) ?_
        refine sq_nil ?_
        refine ye 10 ?_
        refine sp ?_
        refine sq_nil ?_
        refine ye 11 ?_
        refine sp ?_
        refine sq_nil ?_
        refine y1 12 ?_
        refine sw hbn fun H7 hb7 ho7 hl7 => ?_
        refine sq_nil ?_
        refine ye 13 ?_
        refine sp ?_
        refine sq_nil ?_
        refine y1 14 ?_
        refine sw hb7 fun H8 hb8 ho8 hl8 => ?_
        refine sq_nil ?_
        refine yd ?_
        exact then_normal ⟨(), _, by rw [rstf_eq]; rfl, .refl _, fin _ _ _ ho7 ho8 (le_copy e.l2 _ _ rfl fun i hi => rfl) rfl ⟨_, hb8, rfl, rfl, rfl, rfl⟩⟩
        refine sl ?_
        refine sq_nil ?_
        refine y1 2 ?_
        refine sl ?_
        refine sq_nil ?_
        refine ye 3 ?_
        refine sp ?_
        refine sq_nil ?_
        refine ye 4 ?_
        refine sp ?_
        refine sq_nil ?_
        refine y1 5 ?_
        refine sl ?_
        refine sq_nil ?_
        refine y1 9 ?_
        refine sq_clone TYok rfl rfl rfl rfl rfl (by decide) (.inr ⟨_, _, rfl⟩) (.lst _ _ _ _) (by show e.l2.length * 8 ≤ _; omega) (by show e.l2.length ≤ _; omega) ?_
        refine sq_nil ?_
        refine ye 10 ?_
        refine sp ?_
        refine sq_nil ?_
        refine ye 11 ?_
        refine sp ?_
        refine sq_nil ?_
        refine y1 12 ?_
        refine sw hbn fun H7 hb7 ho7 hl7 => ?_
        refine sq_nil ?_
        refine ye 13 ?_
        refine sp ?_
        refine sq_nil ?_
        refine y1 14 ?_
        refine sw hb7 fun H8 hb8 ho8 hl8 => ?_
        refine sq_nil ?_
        refine yd ?_
        exact then_normal ⟨(), _, by rw [rstf_eq]; rfl, .refl _, fin _ _ _ ho7 ho8 (le_copy e.l2 _ _ rfl fun i hi => rfl) rfl ⟨_, hb8, rfl, rfl, rfl, rfl⟩⟩
        refine sl ?_
        refine sq_nil ?_
        refine ye 3 ?_
        refine sp ?_
        refine sq_nil ?_
        refine ye 4 ?_
        refine sp ?_
        refine sq_nil ?_
        refine y3 0 5 8 ?_ ?_ ?_
        refine sl ?_
        refine sq_nil ?_
        refine y2 5 8 ?_ ?_
        refine sl ?_
        refine sq_nil ?_
        refine y1 8 ?_
        refine sl ?_
        refine sq_nil ?_
        refine y1 9 ?_
        refine sq_clone TYok rfl rfl rfl rfl rfl (by decide) (.inr ⟨_, _, rfl⟩) (.lst _ _ _ _) (by show e.l2.length * 8 ≤ _; omega) (by show e.l2.length ≤ _; omega) ?_
        refine sq_nil ?_
        refine ye 10 ?_
        refine sp ?_
        refine sq_nil ?_
        refine ye 11 ?_
        refine sp ?_
        refine sq_nil ?_
        refine y1 12 ?_
        refine sw hbn fun H7 hb7 ho7 hl7 => ?_
        refine sq_nil ?_
        refine ye 13 ?_
        refine sp ?_
        refine sq_nil ?_
        refine y1 14 ?_
        refine sw hb7 fun H8 hb8 ho8 hl8 => ?_
        refine sq_nil ?_
        refine yd ?_
        exact then_normal ⟨(), _, by rw [rstf_eq]; rfl, .refl _, fin _ _ _ ho7 ho8 (le_copy e.l2 _ _ rfl fun i hi => rfl) rfl ⟨_, hb8, rfl, rfl, rfl, rfl⟩⟩
        refine sl ?_
        refine sq_nil ?_
        refine y1 5 ?_
        refine sl ?_
        refine sq_nil ?_
        refine y1 9 ?_
        refine sq_clone TYok rfl rfl rfl rfl rfl (by decide) (.inr ⟨_, _, rfl⟩) (.lst _ _ _ _) (by show e.l2.length * 8 ≤ _; omega) (by show e.l2.length ≤ _; omega) ?_
        refine sq_nil ?_
        refine ye 10 ?_
        refine sp ?_
        refine sq_nil ?_
        refine ye 11 ?_
        refine sp ?_
        refine sq_nil ?_
        refine y1 12 ?_
        refine sw hbn fun H7 hb7 ho7 hl7 => ?_
        refine sq_nil ?_
        refine ye 13 ?_
        refine sp ?_
        refine sq_nil ?_
        refine y1 14 ?_
        refine sw hb7 fun H8 hb8 ho8 hl8 => ?_
        refine sq_nil ?_
        refine yd ?_
        exact then_normal ⟨(), _, by rw [rstf_eq]; rfl, .refl _, fin _ _ _ ho7 ho8 (le_copy e.l2 _ _ rfl fun i hi => rfl) rfl ⟨_, hb8, rfl, rfl, rfl, rfl⟩⟩
        refine sl ?_
        refine sq_nil ?_
        refine y2 0 8 ?_ ?_
        refine sl ?_
        refine sq_nil ?_
        refine y1 8 ?_
        refine sl ?_
        refine sq_nil ?_
        refine y1 9 ?_
        refine sq_clone TYok rfl rfl rfl rfl rfl (by decide) (.inr ⟨_, _, rfl⟩) (.lst _ _ _ _) (by show e.l2.length * 8 ≤ _; omega) (by show e.l2.length ≤ _; omega) ?_
        refine sq_nil ?_
        refine ye 10 ?_
        refine sp ?_
        refine sq_nil ?_
        refine ye 11 ?_
        refine sp ?_
        refine sq_nil ?_
        refine y1 12 ?_
        refine sw hbn fun H7 hb7 ho7 hl7 => ?_
        refine sq_nil ?_
        refine ye 13 ?_
        refine sp ?_
        refine sq_nil ?_
        refine y1 14 ?_
        refine sw hb7 fun H8 hb8 ho8 hl8 => ?_
        refine sq_nil ?_
        refine yd ?_
        exact then_normal ⟨(), _, by rw [rstf_eq]; rfl, .refl _, fin _ _ _ ho7 ho8 (le_copy e.l2 _ _ rfl fun i hi => rfl) rfl ⟨_, hb8, rfl, rfl, rfl, rfl⟩⟩
        refine sl ?_
        refine sq_nil ?_
        refine y2 0 9 ?_ ?_
        refine sl ?_
        refine sq_nil ?_
        refine y1 9 ?_
        refine sq_clone TYok rfl rfl rfl rfl rfl (by decide) (.inr ⟨_, _, rfl⟩) (.lst _ _ _ _) (by show e.l2.length * 8 ≤ _; omega) (by show e.l2.length ≤ _; omega) ?_
        refine sq_nil ?_
        refine ye 10 ?_
        refine sp ?_
        refine sq_nil ?_
        refine ye 11 ?_
        refine sp ?_
        refine sq_nil ?_
        refine y1 12 ?_
        refine sw hbn fun H7 hb7 ho7 hl7 => ?_
        refine sq_nil ?_
        refine ye 13 ?_
        refine sp ?_
        refine sq_nil ?_
        refine y1 14 ?_
        refine sw hb7 fun H8 hb8 ho8 hl8 => ?_
        refine sq_nil ?_
        refine yd ?_
        exact then_normal ⟨(), _, by rw [rstf_eq]; rfl, .refl _, fin _ _ _ ho7 ho8 (le_copy e.l2 _ _ rfl fun i hi => rfl) rfl ⟨_, hb8, rfl, rfl, rfl, rfl⟩⟩
        refine sq_clone TYok rfl rfl rfl rfl rfl (by decide) (.inr ⟨_, _, rfl⟩) (.lst _ _ _ _) (by show e.l2.length * 8 ≤ _; omega) (by show e.l2.length ≤ _; omega) ?_
        refine sq_nil ?_
        refine y1 0 ?_
        refine sl ?_
        refine sq_nil ?_
        refine ye 10 ?_
        refine sp ?_
        refine sq_nil ?_
        refine ye 11 ?_
        refine sp ?_
        refine sq_nil ?_
        refine y1 12 ?_
        refine sw hbn fun H7 hb7 ho7 hl7 => ?_
        refine sq_nil ?_
        refine ye 13 ?_
        refine sp ?_
        refine sq_nil ?_
        refine y1 14 ?_
        refine sw hb7 fun H8 hb8 ho8 hl8 => ?_
        refine sq_nil ?_
        refine yd ?_
        exact then_normal ⟨(), _, by rw [rstf_eq]; rfl, .refl _, fin _ _ _ ho7 ho8 (le_copy e.l2 _ _ rfl fun i hi => rfl) rfl ⟨_, hb8, rfl, rfl, rfl, rfl⟩⟩
        refine sl ?_
        refine sq_nil ?_
        refine y2 0 5 ?_ ?_
        refine sl ?_
        refine sq_nil ?_
        refine y1 5 ?_
        refine sl ?_
        refine sq_nil ?_
        refine y1 9 ?_
        refine sq_clone TYok rfl rfl rfl rfl rfl (by decide) (.inr ⟨_, _, rfl⟩) (.lst _ _ _ _) (by show e.l2.length * 8 ≤ _; omega) (by show e.l2.length ≤ _; omega) ?_
        refine sq_nil ?_
        refine ye 10 ?_
        refine sp ?_
        refine sq_nil ?_
        refine ye 11 ?_
        refine sp ?_
        refine sq_nil ?_
        refine y1 12 ?_
        refine sw hbn fun H7 hb7 ho7 hl7 => ?_
        refine sq_nil ?_
        refine ye 13 ?_
        refine sp ?_
        refine sq_nil ?_
        refine y1 14 ?_
        refine sw hb7 fun H8 hb8 ho8 hl8 => ?_
        refine sq_nil ?_
        refine yd ?_
        exact then_normal ⟨(), _, by rw [rstf_eq]; rfl, .refl _, fin _ _ _ ho7 ho8 (le_copy e.l2 _ _ rfl fun i hi => rfl) rfl ⟨_, hb8, rfl, rfl, rfl, rfl⟩⟩
        refine sl ?_
        refine sq_nil ?_
        refine y2 0 9 ?_ ?_
        refine sl ?_
        refine sq_nil ?_
        refine y1 9 ?_
        refine sq_clone TYok rfl rfl rfl rfl rfl (by decide) (.inr ⟨_, _, rfl⟩) (.lst _ _ _ _) (by show e.l2.length * 8 ≤ _; omega) (by show e.l2.length ≤ _; omega) ?_
        refine sq_nil ?_
        refine ye 10 ?_
        refine sp ?_
        refine sq_nil ?_
        refine ye 11 ?_
        refine sp ?_
        refine sq_nil ?_
        refine y1 12 ?_
        refine sw hbn fun H7 hb7 ho7 hl7 => ?_
        refine sq_nil ?_
        refine ye 13 ?_
        refine sp ?_
        refine sq_nil ?_
        refine y1 14 ?_
        refine sw hb7 fun H8 hb8 ho8 hl8 => ?_
        refine sq_nil ?_
        refine yd ?_
        exact then_normal ⟨(), _, by rw [rstf_eq]; rfl, .refl _, fin _ _ _ ho7 ho8 (le_copy e.l2 _ _ rfl fun i hi => rfl) rfl ⟨_, hb8, rfl, rfl, rfl, rfl⟩⟩
        refine sq_clone TYok rfl rfl rfl rfl rfl (by decide) (.inr ⟨_, _, rfl⟩) (.lst _ _ _ _) (by show e.l2.length * 8 ≤ _; omega) (by show e.l2.length ≤ _; omega) ?_
        refine sq_nil ?_
        refine y1 0 ?_
        refine sl ?_
        refine sq_nil ?_
        refine ye 10 ?_
        refine sp ?_
        refine sq_nil ?_
        refine ye 11 ?_
        refine sp ?_
        refine sq_nil ?_
        refine y1 12 ?_
        refine sw hbn fun H7 hb7 ho7 hl7 => ?_
        refine sq_nil ?_
        refine ye 13 ?_
        refine sp ?_
        refine sq_nil ?_
        refine y1 14 ?_
        refine sw hb7 fun H8 hb8 ho8 hl8 => ?_
        refine sq_nil ?_
        refine yd ?_
        exact then_normal ⟨(), _, by rw [rstf_eq]; rfl, .refl _, fin _ _ _ ho7 ho8 (le_copy e.l2 _ _ rfl fun i hi => rfl) rfl ⟨_, hb8, rfl, rfl, rfl, rfl⟩⟩
        refine sl ?_
        refine sq_nil ?_
        refine y2 0 2 ?_ ?_
        refine sl ?_
        refine sq_nil ?_
        refine y1 2 ?_
        refine sl ?_
        refine sq_nil ?_
        refine ye 3 ?_
        refine sp ?_
        refine sq_nil ?_
        refine ye 4 ?_
        refine sp ?_
        refine sq_nil ?_
        refine y1 5 ?_
        refine sl ?_
        refine sq_nil ?_
        refine y1 9 ?_
        refine sq_clone TYok rfl rfl rfl rfl rfl (by decide) (.inr ⟨_, _, rfl⟩) (.lst _ _ _ _) (by show e.l2.length * 8 ≤ _; omega) (by show e.l2.length ≤ _; omega) ?_
        refine sq_nil ?_
        refine ye 10 ?_
        refine sp ?_
        refine sq_nil ?_
        refine ye 11 ?_
        refine sp ?_
        refine sq_nil ?_
        refine y1 12 ?_
        refine sw hbn fun H7 hb7 ho7 hl7 => ?_
        refine sq_nil ?_
        refine ye 13 ?_
        refine sp ?_
        refine sq_nil ?_
        refine y1 14 ?_
        refine sw hb7 fun H8 hb8 ho8 hl8 => ?_
        refine sq_nil ?_
        refine yd ?_
        exact then_normal ⟨(), _, by rw [rstf_eq]; rfl, .refl _, fin _ _ _ ho7 ho8 (le_copy e.l2 _ _ rfl fun i hi => rfl) rfl ⟨_, hb8, rfl, rfl, rfl, rfl⟩⟩
        refine sl ?_
        refine sq_nil ?_
        refine ye 3 ?_
        refine sp ?_
        refine sq_nil ?_
        refine ye 4 ?_
        refine sp ?_
        refine sq_nil ?_
        refine y2 0 5 ?_ ?_
        refine sl ?_
        refine sq_nil ?_
        refine y1 5 ?_
        refine sl ?_
        refine sq_nil ?_
        refine y1 9 ?_
        refine sq_clone TYok rfl rfl rfl rfl rfl (by decide) (.inr ⟨_, _, rfl⟩) (.lst _ _ _ _) (by show e.l2.length * 8 ≤ _; omega) (by show e.l2.length ≤ _; omega) ?_
        refine sq_nil ?_
        refine ye 10 ?_
        refine sp ?_
        refine sq_nil ?_
        refine ye 11 ?_
        refine sp ?_
        refine sq_nil ?_
        refine y1 12 ?_
        refine sw hbn fun H7 hb7 ho7 hl7 => ?_
        refine sq_nil ?_
        refine ye 13 ?_
        refine sp ?_
        refine sq_nil ?_
        refine y1 14 ?_
        refine sw hb7 fun H8 hb8 ho8 hl8 => ?_
        refine sq_nil ?_
        refine yd ?_
        exact then_normal ⟨(), _, by rw [rstf_eq]; rfl, .refl _, fin _ _ _ ho7 ho8 (le_copy e.l2 _ _ rfl fun i hi => rfl) rfl ⟨_, hb8, rfl, rfl, rfl, rfl⟩⟩
        refine sl ?_
        refine sq_nil ?_
        refine y2 0 9 ?_ ?_
        refine sl ?_
        refine sq_nil ?_
        refine y1 9 ?_
        refine sq_clone TYok rfl rfl rfl rfl rfl (by decide) (.inr ⟨_, _, rfl⟩) (.lst _ _ _ _) (by show e.l2.length * 8 ≤ _; omega) (by show e.l2.length ≤ _; omega) ?_
        refine sq_nil ?_
        refine ye 10 ?_
        refine sp ?_
        refine sq_nil ?_
        refine ye 11 ?_
        refine sp ?_
        refine sq_nil ?_
        refine y1 12 ?_
        refine sw hbn fun H7 hb7 ho7 hl7 => ?_
        refine sq_nil ?_
        refine ye 13 ?_
        refine sp ?_
        refine sq_nil ?_
        refine y1 14 ?_
        refine sw hb7 fun H8 hb8 ho8 hl8 => ?_
        refine sq_nil ?_
        refine yd ?_
        exact then_normal ⟨(), _, by rw [rstf_eq]; rfl, .refl _, fin _ _ _ ho7 ho8 (le_copy e.l2 _ _ rfl fun i hi => rfl) rfl ⟨_, hb8, rfl, rfl, rfl, rfl⟩⟩
        refine sq_clone TYok rfl rfl rfl rfl rfl (by decide) (.inr ⟨_, _, rfl⟩) (.lst _ _ _ _) (by show e.l2.length * 8 ≤ _; omega) (by show e.l2.length ≤ _; omega) ?_
        refine sq_nil ?_
        refine y1 0 ?_
        refine sl ?_
        refine sq_nil ?_
        refine ye 10 ?_
        refine sp ?_
        refine sq_nil ?_
        refine ye 11 ?_
        refine sp ?_
        refine sq_nil ?_
        refine y1 12 ?_
        refine sw hbn fun H7 hb7 ho7 hl7 => ?_
        refine sq_nil ?_
        refine ye 13 ?_
        refine sp ?_
        refine sq_nil ?_
        refine y1 14 ?_
        refine sw hb7 fun H8 hb8 ho8 hl8 => ?_
        refine sq_nil ?_
        refine yd ?_
        exact then_normal ⟨(), _, by rw [rstf_eq]; rfl, .refl _, fin _ _ _ ho7 ho8 (le_copy e.l2 _ _ rfl fun i hi => rfl) rfl ⟨_, hb8, rfl, rfl, rfl, rfl⟩⟩
      · rintro - H9 ⟨vf, hbx, hfz, hid9, hs9, hl9, hk9⟩
        (repeat' (first | (refine sq_id ?_; first | refine sq_nil ?_ | refine sm ?_ | refine sa ?_ | refine ss ?_ | refine st ?_ | refine sf ?_ | refine sp ?_ | refine sq ?_ | refine sl ?_ | refine si ?_ | refine sx ?_ | refine sy ?_) | (refine rg_id ?_; first | refine rg_fin ?_ | refine rm ?_ | refine ra ?_ | refine rs ?_ | refine rt ?_ | refine rf ?_ | refine rp ?_ | refine rq ?_ | refine rl ?_ | refine ri ?_ | refine rx ?_ | refine ry ?_) | refine aw_rseq ?_ | refine aw_seq ?_ | refine aw_region ?_ | refine aw_skip ?_ | refine ct ?_ | refine cf ?_ | refine d0s ?_ | refine d0r ?_ | refine aw_block ?_ | refine aw_exit ?_ | refine then_ret ?_ | refine then_exit ?_ | refine then_normal ?_ | refine blk_ret ?_ | refine blk_normal ?_ | refine blk_exit ?_ | refine blk_pass rfl ?_))
        ((try refine aw_ret ?_); (repeat (first | refine then_ret ?_ | refine blk_ret ?_)); refine fin_t True.intro rfl rfl ?_)
        refine ⟨rfl, .inr ⟨hbl, vf, hbx, hfz, hid9, hs9, by omega, fun x hx x1 x2 x3 => ?_⟩⟩
        rw [hk9 x (by omega) x1 x1, List.append_nil, ho5.2 x (by omega) (by simp; omega), ho4.2 x (by omega) (by simp; omega), ho3.2 x (by omega) (by simp; omega), ho1.2 x hx (by simp)]
  · (repeat' (first | (refine sq_id ?_; first | refine sq_nil ?_ | refine sm ?_ | refine sa ?_ | refine ss ?_ | refine st ?_ | refine sf ?_ | refine sp ?_ | refine sq ?_ | refine sl ?_ | refine si ?_ | refine sx ?_ | refine sy ?_) | (refine rg_id ?_; first | refine rg_fin ?_ | refine rm ?_ | refine ra ?_ | refine rs ?_ | refine rt ?_ | refine rf ?_ | refine rp ?_ | refine rq ?_ | refine rl ?_ | refine ri ?_ | refine rx ?_ | refine ry ?_) | refine aw_rseq ?_ | refine aw_seq ?_ | refine aw_region ?_ | refine aw_skip ?_ | refine ct ?_ | refine cf ?_ | refine d0s ?_ | refine d0r ?_ | refine aw_block ?_ | refine aw_exit ?_ | refine then_ret ?_ | refine then_exit ?_ | refine then_normal ?_ | refine blk_ret ?_ | refine blk_normal ?_ | refine blk_exit ?_ | refine blk_pass rfl ?_))
    ((try refine aw_ret ?_); (repeat (first | refine then_ret ?_ | refine blk_ret ?_)); refine fin_t True.intro rfl rfl ?_)
    exact ⟨rfl, .inl ⟨by unfold blockedB behindB; rw [hB]; rfl, ho1⟩⟩
end Go.Proofs.Ytmhepmocnnlhnaa.Ab
