/- Single operations: all of them. -/
import Derived.Test.YtphjglbbhanmpaaEF
namespace Go.Proofs.Ytphjglbbhanmpaa.Ab
open Go Go.RowKit

section
variable {P : Program} {T : TT} {q : Bool} {k0 : Nat} {H : AH} {o : Oper} {ρ : Operand → AV} {c : Prop} {v : AV} {e : Option Blk}
theorem tt_str (hT : TTok P T) {t : Nat} {i : TI} (h : tget T t = some i) (hk : i.kind = .str) : P.underlying t = some .string := by
  obtain ⟨info, d, z, g1, g2, g3, g4, _⟩ := hT t i h
  have hd : d = .string := by rw [hk] at g4; cases d <;> simp [kindOf] at g4; rfl
  rw [hd] at g2; exact g2
theorem alen_ok {U : Nat → Prop} {φ : Pl} {V : Nat → Prop} {w : World} {a : AV} {u : Value} {n : Int} (h : alen a = some n) (hr : VRel U φ V w a u) : ∃ b m c, u = .slice b m c ∧ (m : Int) = n := by
  unfold alen at h
  split at h
  · cases h; have := hr.inv_p; exact ⟨_, _, _, this, rfl⟩
  · cases h; obtain ⟨a, c, hb, _⟩ := hr.inv_lst; exact ⟨_, _, _, hb, rfl⟩
  · cases h; obtain ⟨a, hb, _⟩ := hr.inv_arr; exact ⟨_, _, _, hb, rfl⟩
  · cases h
theorem alenT_ok {U : Nat → Prop} {φ : Pl} {V : Nat → Prop} {w : World} {a : AV} {u : Value} {n : Int} (h : alenT a = some n) (hr : VRel U φ V w a u) : ∃ s, u = .string s ∧ (s.size : Int) = n := by
  unfold alenT at h
  split at h
  · cases h; have := hr.inv_p; exact ⟨_, this, rfl⟩
  · cases h
theorem ok_len (hT : TTok P T) (cl : Call) (ho : o.op = .call cl) (hcl : cl.callee = .builtin .len) {x : Operand} {t : TypeId} {n : Int} (hx : cl.args[0]? = some x) (ht : cl.argTypes[0]? = some t) {i : TI} (hi : tget T t = some i)
    (hk : (∃ e, i.kind = .slice e ∧ alen (ρ x) = some n) ∨ i.kind = .str ∧ alenT (ρ x) = some n) : AO P q k0 o ρ H (Ends (.p (.int .i64 n)) none H) := by
  refine ao_keep fun U φ V w ρc hh hr => ⟨.int .i64 n, ?_, .p _⟩
  have h1 := hr x (by simp [ho, Op.operands, Call.operands, hcl]; exact Array.mem_of_getElem? hx)
  have ha : (cl.args.map ρc)[0]? = some (ρc x) := by simp [hx]
  have hrun : (Builtin.len_ cl.argTypes o.type (cl.args.map ρc)).run P w = .ok (.int .i64 n) w := by
    unfold Builtin.len_
    simp only [ht, ha]
    rcases hk with ⟨et, hk, hn⟩ | ⟨hk, hn⟩
    · obtain ⟨b, m, c, hu, rfl⟩ := alen_ok hn h1
      simp [run_underlying (tt_slice hT hi hk), hu, goInt]
    · obtain ⟨s, hu, rfl⟩ := alenT_ok hn h1
      simp [run_underlying (tt_str hT hi hk), hu, goInt]
  simp [execOp, ho, resolve, hcl, invoke, builtin, hrun]
theorem amin_ok {U : Nat → Prop} {φ : Pl} {V : Nat → Prop} {w : World} : ∀ (as : List AV) (a v : AV) (u : Value) (us : List Value), VRel U φ V w a u → VRels U φ V w as us → amin a as = some v → ∃ r, (us.foldlM Builtin.min2 u : Sem Value).run P w = .ok r w ∧ VRel U φ V w v r := by
  intro as
  induction as with
  | nil =>
    intro a v u us hr hs h
    cases a <;> cases h
    all_goals
      have : us = [] := List.eq_nil_of_length_eq_zero (by simpa using hs.1)
      subst this
      exact ⟨u, rfl, hr⟩
  | cons b as ih =>
    intro a v u us hr hs h
    cases us with
    | nil => have := hs.1; simp at this
    | cons ub us =>
      have hb : VRel U φ V w b ub := hs.2 0 b ub rfl rfl
      unfold amin at h
      split at h
      · cases ‹_ :: _ = []›
      · rename_i kx x ky y r heq
        cases heq
        have e1 := hr.inv_p
        have e2 := hb.inv_p
        subst e1 e2
        obtain ⟨r', h1, h2⟩ := ih _ v _ us (.p _) ⟨by have := hs.1; simpa using this, fun i x u hx hu => hs.2 (i + 1) x u (by simpa using hx) (by simpa using hu)⟩ h
        exact ⟨r', by simpa [List.foldlM_cons, Builtin.min2] using h1, h2⟩
      · cases h
theorem amax_ok {U : Nat → Prop} {φ : Pl} {V : Nat → Prop} {w : World} : ∀ (as : List AV) (a v : AV) (u : Value) (us : List Value), VRel U φ V w a u → VRels U φ V w as us → amax a as = some v → ∃ r, (us.foldlM Builtin.max2 u : Sem Value).run P w = .ok r w ∧ VRel U φ V w v r := by
  intro as
  induction as with
  | nil =>
    intro a v u us hr hs h
    cases a <;> cases h
    all_goals
      have : us = [] := List.eq_nil_of_length_eq_zero (by simpa using hs.1)
      subst this
      exact ⟨u, rfl, hr⟩
  | cons b as ih =>
    intro a v u us hr hs h
    cases us with
    | nil => have := hs.1; simp at this
    | cons ub us =>
      have hb : VRel U φ V w b ub := hs.2 0 b ub rfl rfl
      unfold amax at h
      split at h
      · cases ‹_ :: _ = []›
      · rename_i kx x ky y r heq
        cases heq
        have e1 := hr.inv_p
        have e2 := hb.inv_p
        subst e1 e2
        obtain ⟨r', h1, h2⟩ := ih _ v _ us (.p _) ⟨by have := hs.1; simpa using this, fun i x u hx hu => hs.2 (i + 1) x u (by simpa using hx) (by simpa using hu)⟩ h
        exact ⟨r', by simpa [List.foldlM_cons, Builtin.max2] using h1, h2⟩
      · cases h
theorem ok_minmax (cl : Call) (ho : o.op = .call cl) {a v : AV} {r : List AV} (hm : cl.args.toList.map ρ = a :: r)
    (hcl : cl.callee = .builtin .min ∧ amin a r = some v ∨ cl.callee = .builtin .max ∧ amax a r = some v) : AO P q k0 o ρ H (Ends v none H) := by
  refine ao_keep fun U φ V w ρc hh hr => ?_
  cases hl : cl.args.toList with
  | nil => rw [hl] at hm; cases hm
  | cons x xs =>
    rw [hl] at hm
    cases hm
    have hmem : ∀ y ∈ x :: xs, VRel U φ V w (ρ y) (ρc y) := fun y hy => hr y (by
      have : y ∈ cl.args := by rw [← hl] at hy; simpa using hy
      rcases hcl with ⟨hcl, _⟩ | ⟨hcl, _⟩ <;> simp [ho, Op.operands, Call.operands, hcl, this])
    have hxs : VRels U φ V w (xs.map ρ) (xs.map ρc) := ⟨by simp, fun i a u ha hu => by
      rw [List.getElem?_map] at ha hu
      cases hy : xs[i]? with
      | none => rw [hy] at ha; cases ha
      | some y => rw [hy] at ha hu; cases ha; cases hu; exact hmem y (List.mem_cons_of_mem _ (List.mem_of_getElem? hy))⟩
    have hal : (cl.args.map ρc).toList = ρc x :: xs.map ρc := by rw [Array.toList_map, hl]; rfl
    rcases hcl with ⟨hcl, h⟩ | ⟨hcl, h⟩
    · obtain ⟨u, h1, h2⟩ := amin_ok (P := P) _ _ v _ _ (hmem x (List.mem_cons_self ..)) hxs h
      refine ⟨u, ?_, h2⟩
      have : (Builtin.min_ cl.argTypes o.type (cl.args.map ρc)).run P w = .ok u w := by
        unfold Builtin.min_; rw [hal]; exact h1
      simp [execOp, ho, resolve, hcl, invoke, builtin, this]
    · obtain ⟨u, h1, h2⟩ := amax_ok (P := P) _ _ v _ _ (hmem x (List.mem_cons_self ..)) hxs h
      refine ⟨u, ?_, h2⟩
      have : (Builtin.max_ cl.argTypes o.type (cl.args.map ρc)).run P w = .ok u w := by
        unfold Builtin.max_; rw [hal]; exact h1
      simp [execOp, ho, resolve, hcl, invoke, builtin, this]

theorem opt_bind {α β : Type} {x : Option α} {f : α → Option β} {b : β} (h : x.bind f = some b) : ∃ a, x = some a ∧ f a = some b := by
  cases x with
  | none => cases h
  | some a => exact ⟨a, rfl, h⟩
set_option maxHeartbeats 1000000 in
theorem aop_ok (hT : TTok P T) (hz : TTz T) {ov : Bool} (h : aop T ov o ρ H.length = some (c, v, e)) (hc : c) : AO P q k0 o ρ H (Ends v e H) := by
  unfold aop at h
  cases ho : o.op <;> rw [ho] at h
  case move x => exact ok_move x (.inl ho) h
  case assign x => exact ok_move x (.inr ho) h
  case pick x a b =>
    cases hx : ρ x <;> simp only [hx] at h <;> try (cases h; done)
    rename_i u
    cases u <;> simp only at h <;> try (cases h; done)
    rename_i t
    cases t
    · exact ok_pick x a b false ho hx h
    · exact ok_pick x a b true ho hx h
  case alloc t =>
    simp only at h
    split at h
    · rename_i i hi
      cases hb : Nat.beq i.size 0 with
      | true => rw [hb] at h; cases h
      | false => rw [hb] at h; cases h; exact ok_alloc hT hz t ho hi hb
    · cases h
  case box t x =>
    simp only at h
    split at h
    · rename_i i cs hi hcs
      cases hb : Nat.beq i.size cs.length && !(Nat.beq i.size 0) with
      | false => rw [hb] at h; cases h
      | true => rw [hb] at h; cases h; exact ok_box hT t x ho hi hcs hb
    · cases h
  case build t parts =>
    simp only at h
    split at h
    · rename_i i hi
      obtain ⟨info, d, z, g1, g2, g3, g4, g5, g6, g7⟩ := hT t i hi
      have hzc : z.cells = i.zs.toArray := by rw [← g7]
      split at h
      · rename_i fs hk
        split at h
        · rename_i places hp
          obtain ⟨cs, h1, h2⟩ := opt_bind h
          obtain ⟨rfl, rfl⟩ := keep_eq h2
          obtain ⟨fields, k1, k2⟩ := tt_struct hT hi hk
          refine ok_build t parts ho (hz t i hi).2 (fun l us hl => ?_) h1
          rw [← k2] at hp
          have := aplaces_ok hT fields.toList places hp
          unfold Program.built
          simp only [g1, k1, g3, this, hzc]
          simpa using hl
        · cases h
      · rename_i n et hk
        split at h
        · rename_i ei hei
          obtain ⟨cs, h1, h2⟩ := opt_bind h
          obtain ⟨rfl, rfl⟩ := keep_eq h2
          obtain ⟨einfo, _, _, f1, _, _, _, f5, _⟩ := hT et ei hei
          refine ok_build t parts ho (hz t i hi).2 (fun l us hl => ?_) h1
          unfold Program.built
          simp only [g1, tt_array hT hi hk, g3, f1, hzc, f5]
          exact hl
        · cases h
      · cases h
    · cases h
  case load t x =>
    cases hx : ρ x <;> simp only [hx] at h <;> try (cases h; done)
    exact ok_load hT t x ho hx h
  case nilCheck x =>
    cases hx : ρ x <;> simp only [hx] at h <;> try (cases h; done)
    · obtain ⟨rfl, rfl⟩ := keep_eq h
      rw [← hx]; exact ok_nilCheck x ho (.inl ⟨_, hx⟩)
    · obtain ⟨rfl, rfl⟩ := keep_eq h
      rw [← hx]; exact ok_nilCheck x ho (.inr (.inl ⟨_, _, _, _, hx⟩))
    · rename_i f a b
      cases f <;> simp only at h <;> try (cases h; done)
      obtain ⟨rfl, rfl⟩ := keep_eq h
      rw [← hx]; exact ok_nilCheck x ho (.inr (.inr ⟨_, _, _, hx⟩))
  case binOp op t x y yt =>
    simp only at h
    split at h
    · rename_i c' v' h1
      cases h
      exact ok_binOp hT op t yt x y ho h1 hc
    · cases h
  case unOp op t x =>
    cases hx : ρ x <;> cases op <;> simp only [hx] at h <;> try (cases h; done)
    · rename_i u
      cases u <;> (try simp only at h) <;> try (cases h; done)
      rename_i kk n
      cases kk <;> (try simp only at h) <;> try (cases h; done)
      cases ov
      · cases h
        have := ok_neg (P := P) (q := q) (k0 := k0) (H := H) t x ho hx
        rw [wrap_small hc] at this; exact this
      · cases h
        exact ok_neg t x ho hx
    · rename_i u
      cases u <;> (try simp only at h) <;> try (cases h; done)
      obtain ⟨rfl, rfl⟩ := keep_eq h
      exact ok_not t x ho hx
  case convert src dst x =>
    simp only at h
    split at h
    · rename_i si i kk n hs hd hx
      split at h
      · rename_i k1 hk1 hk2
        cases h
        have := ok_convert (P := P) (q := q) (k0 := k0) (H := H) hT src dst x ho hs hd hk1 hk2 hx
        rw [wrap_small hc] at this; exact this
      · rename_i k1 hk1 hk2
        cases h
        have := ok_convert (P := P) (q := q) (k0 := k0) (H := H) hT src dst x ho hs hd hk1 hk2 hx
        have e : IntKind.u8.wrap n = n := by simp [IntKind.wrap, IntKind.signed, IntKind.bits]; omega
        rw [e] at this; exact this
      · cases h
    · cases h
  case makeFunc f a b =>
    simp only [fl_eq] at h
    obtain ⟨rfl, rfl⟩ := keep_eq h
    exact ok_makeFunc f a b ho
  case extract x i =>
    cases hx : ρ x <;> simp only [hx] at h <;> try (cases h; done)
    split at h
    · rename_i v' hv
      obtain ⟨rfl, rfl⟩ := keepv_eq h
      exact ok_extract x i ho hx hv
    · cases h
  case field t x f =>
    simp only at h
    split at h
    · rename_i i cs hi hx
      split at h
      · rename_i fs hk
        split at h
        · rename_i off ft hf
          cases hb : Nat.ble i.size cs.length with
          | false => rw [hb] at h; cases h
          | true =>
            rw [hb, cond_true] at h
            obtain ⟨v', h1, h2⟩ := opt_bind h
            obtain ⟨rfl, rfl⟩ := keep_eq h2
            exact ok_field hT t x f ho hi hk hf hx h1
        · cases h
      · cases h
    · cases h
  case fieldAddr t x f =>
    simp only at h
    split at h
    · rename_i i hi
      split at h
      · rename_i fs hk
        split at h
        · rename_i off ft hf
          split at h
          · rename_i fi hfi
            cases hb : Nat.beq fi.size 0 with
            | true => rw [hb] at h; cases h
            | false =>
              rw [hb, cond_false] at h
              cases hx : ρ x <;> simp only [hx] at h <;> try (cases h; done)
              · simp only [fl_eq] at h
                obtain ⟨rfl, rfl⟩ := keep_eq h
                exact ok_fieldAddr hT t x f ho hi hk hf hfi hb (.inl ⟨_, hx, rfl⟩)
              · obtain ⟨rfl, rfl⟩ := keep_eq h
                exact ok_fieldAddr hT t x f ho hi hk hf hfi hb (.inr ⟨_, _, _, _, hx, rfl⟩)
          · cases h
        · cases h
      · cases h
    · cases h
  case index t x ix =>
    simp only at h
    split at h
    · rename_i i cs kk n hi hx hix
      split at h
      · rename_i len et hk
        unfold aslot at h
        cases he : tget T et with
        | none => rw [he] at h; cases h
        | some ei =>
          rw [he] at h
          have hnn : ∃ j, n = Int.ofNat j := by
            cases n with
            | ofNat j => exact ⟨j, rfl⟩
            | negSucc j => cases h
          obtain ⟨j, rfl⟩ := hnn
          have h := aix_eq h
          simp only [Int.ofNat_eq_natCast, Int.toNat_natCast] at h
          cases hb : (Nat.ble ((j + 1) * ei.size) cs.length && Nat.blt j len) with
          | false => rw [hb] at h; cases h
          | true =>
            rw [hb, cond_true] at h
            obtain ⟨v', h1, h2⟩ := opt_bind h
            obtain ⟨rfl, rfl⟩ := keep_eq h2
            simp only [Bool.and_eq_true, Nat.ble_eq, Nat.blt_eq] at hb
            exact ok_indexAgg hT t x ix ho hi hk he hx hix (by simp) (by simp; omega) (by simpa using h1)
      · cases h
    · rename_i i s kk n hi hx hix
      split at h
      · rename_i hk
        have h := aix_eq h
        cases h
        exact ok_indexStr hT t x ix ho hi hk hx hix hc.1 hc.2
      · cases h
    · cases h
  case indexAddr t x ix =>
    simp only at h
    split at h
    · rename_i i tt sz n g kk m hi hx hix
      split at h
      · rename_i et hk
        split at h
        · rename_i ek es he
          cases hb : Nat.beq es sz with
          | false => rw [hb] at h; cases h
          | true =>
            rw [hb, cond_true] at h
            have hb := Nat.eq_of_beq_eq_true hb
            subst hb
            have h := aix_eq h
            cases h
            exact ok_indexAddr hT t x ix ho hi hk he hix hc.1 hc.2 (.inl ⟨_, _, hx, rfl⟩)
        · cases h
      · cases h
    · rename_i i id sz b n kk m hi hx hix
      split at h
      · rename_i et hk
        split at h
        · rename_i ek es he
          cases hb : Nat.beq es sz with
          | false => rw [hb] at h; cases h
          | true =>
            rw [hb, cond_true] at h
            have hb := Nat.eq_of_beq_eq_true hb
            subst hb
            have h := aix_eq h
            cases h
            exact ok_indexAddr hT t x ix ho hi hk he hix hc.1 hc.2 (.inr ⟨_, _, hx, by rw [badd_eq]⟩)
        · cases h
      · cases h
    · cases h
  case makeSlice t l cc =>
    simp only at h
    split at h
    · rename_i i kk n kk' n' hi hl hcc
      split at h
      · rename_i et hk
        split at h
        · rename_i ei he
          cases hb : Nat.beq ei.size 0 with
          | true => rw [hb] at h; cases h
          | false =>
            rw [hb, cond_false] at h
            have hs : 0 < ei.size := by
              rcases Nat.eq_zero_or_pos ei.size with h | h
              · rw [h] at hb; simp at hb
              · exact h
            have h := aix_eq h
            cases h
            exact ok_makeSlice hT hz t l cc ho hi hk he hl hcc hs hc.1 hc.2.1 hc.2.2.1 hc.2.2.2
        · cases h
      · cases h
    · cases h
  case call cl =>
    simp only at h
    split at h
    · rename_i hcl
      split at h
      · rename_i x t hx ht
        split at h
        · rename_i i hi
          split at h
          · rename_i et hk
            obtain ⟨n, h1, h2⟩ := opt_bind h
            obtain ⟨rfl, rfl⟩ := keep_eq h2
            exact ok_len hT cl ho hcl hx ht hi (.inl ⟨_, hk, h1⟩)
          · rename_i hk
            obtain ⟨n, h1, h2⟩ := opt_bind h
            obtain ⟨rfl, rfl⟩ := keep_eq h2
            exact ok_len hT cl ho hcl hx ht hi (.inr ⟨hk, h1⟩)
          · cases h
        · cases h
      · cases h
    · rename_i hcl
      split at h
      · rename_i a r hm
        obtain ⟨n, h1, h2⟩ := opt_bind h
        obtain ⟨rfl, rfl⟩ := keep_eq h2
        exact ok_minmax cl ho hm (.inl ⟨hcl, h1⟩)
      · cases h
    · rename_i hcl
      split at h
      · rename_i a r hm
        obtain ⟨n, h1, h2⟩ := opt_bind h
        obtain ⟨rfl, rfl⟩ := keep_eq h2
        exact ok_minmax cl ho hm (.inr ⟨hcl, h1⟩)
      · cases h
    · cases h
  all_goals cases h
end
end Go.Proofs.Ytphjglbbhanmpaa.Ab
