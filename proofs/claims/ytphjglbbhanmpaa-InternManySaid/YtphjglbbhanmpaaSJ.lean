/- slices.Values and slices.Sorted, told of values. -/
import Derived.Test.YtphjglbbhanmpaaSI
import Derived.Test.YtphjglbbhanmpaaSB
namespace Go.Proofs.Ytphjglbbhanmpaa.Ab
open Go Go.RowKit
theorem vrels_one {U : Nat → Prop} {φ : Pl} {V : Nat → Prop} {w : World} {a : AV} {us : List Value} (h : VRels U φ V w [a] us) : ∃ u, us = [u] ∧ VRel U φ V w a u := by
  obtain ⟨h1, h2⟩ := h
  match us, h1 with
  | [u], _ => exact ⟨u, rfl, h2 0 _ u rfl rfl⟩
section
variable {k0 B : Nat} {U : Nat → Prop} {φ : Pl} {V : Nat → Prop} {w w' : World} {H : AH}
theorem good_in (hh : HRel U φ V w H) : Good H.length w.heap.size U φ V w H := ⟨hh, Nat.le_refl _, fun id hk hl => absurd hl.lt (by omega), Nat.le_refl _⟩
/-- what lay lies as it lay; of the new blocks some will not change -/
theorem below_step (g : Good k0 B U φ V w H) (hb : Below w.heap.size w w') (N : Nat → Prop) (hN : ∀ b, N b → w.heap.size ≤ b ∧ b < w'.heap.size) :
    Good k0 B U φ (fun b => V b ∨ N b) w' H ∧ Step B U φ V w H U φ (fun b => V b ∨ N b) w' H := by
  have blt : ∀ id b, H[id]? = some (some b) → (φ id).1 < w.heap.size := fun id b hb => by
    obtain ⟨cur, hc, _⟩ := g.heap.blk id b hb
    exact (Array.getElem?_eq_some_iff.1 hc).1
  have st : Step B U φ V w H U φ (fun b => V b ∨ N b) w' H :=
    ⟨hb.os, hb.tape, hb.output, hb.size, fun b hlt _ => hb.block b hlt, fun b h => .inl h, fun b hlt h => by
      rcases h with h | h
      · exact h
      · have := g.base; have := hN b h; omega, fun _ _ => rfl, Nat.le_refl _, fun _ h => h, fun _ h => .inl h, fun _ _ h => h, fun id h => .inl ⟨id, h, rfl⟩⟩
  refine ⟨⟨⟨?_, g.heap.inj, ?_, ?_, g.heap.ult, g.heap.tabs st⟩, Nat.le_trans g.base hb.size, g.own, g.ownk⟩, st⟩
  · intro id b hb'
    obtain ⟨c, hc, h1, h2, h3, h4, h5⟩ := g.heap.blk id b hb'
    refine ⟨c, (hb.block _ (blt id b hb')).trans hc, h1, h2, h3, h4, fun i j x hi hx => ?_⟩
    obtain ⟨u, hu, h1, hr⟩ := h5 i j x hi hx
    exact ⟨u, hu, h1, hr.step g.heap st⟩
  · rintro id hl (h | h)
    · exact g.heap.apart id hl h
    · obtain ⟨b, hb'⟩ := hl
      have := blt id b hb'
      have := hN _ h
      omega
  · rintro b (h | h)
    · exact Nat.lt_of_lt_of_le (g.heap.vlt b h) hb.size
    · exact (hN b h).2
end
abbrev sortL (zs : List Int) : List Int := zs.mergeSort fun x y => decide (x ≤ y)
abbrev bxI (xs : List Int) : Blk := ⟨23, 1, 1, fun _ => [ints xs]⟩
theorem vals_s (xs : List Int) (H : AH) : SC true Try.prog 31 [ints xs] H (fun r H' => r = .fn (.func 45) [] [.ref H.length 1 0 0] ∧ H'[H.length]? = some (some (bxI xs)) ∧ Oth H H' none ∧ H'.length = H.length + 1) := by
  refine sc_in TYok Try.func31 (by kernel_rfl) Try.ntmps31 rfl rfl rfl ?_
  refine aw_seq ?_
  refine aw_region ?_
  refine sq_newk TYok TYz false rfl rfl rfl True.intro fun H1 hb1 ho1 hl1 => ?_
  (repeat' (first | (refine sq_id ?_; first | refine sq_nil ?_ | refine sq_move rfl rfl rfl ?_ | refine sq_assign rfl rfl rfl ?_ | refine sq_skip rfl rfl ?_ | refine sq_t TYok TYz rfl rfl rfl True.intro so ?_ | refine sq_f TYok TYz rfl rfl rfl True.intro so ?_ | refine sq_pure TYok TYz false rfl rfl rfl sd ?_ | refine sq_pure TYok TYz true rfl rfl rfl sd ?_ | refine sq_load TYok rfl rfl rfl (by assumption) (by rfl) (by first | exact Nat.zero_lt_one | assumption | omega) (by rfl) ?_ | refine sq_lit TYok TYz rfl rfl rfl rfl rfl rfl rfl rfl ?_ | refine sq_ixa TYok rfl rfl rfl rfl rfl rfl rfl sd ?_ | refine sq_ixr TYok rfl rfl rfl rfl rfl rfl rfl sd ?_) | (refine rg_id ?_; first | refine rg_fin ?_ | refine rg_move rfl rfl rfl ?_ | refine rg_assign rfl rfl rfl ?_ | refine rg_skip rfl rfl ?_ | refine rg_t TYok TYz rfl rfl rfl True.intro so ?_ | refine rg_f TYok TYz rfl rfl rfl True.intro so ?_ | refine rg_pure TYok TYz false rfl rfl rfl sd ?_ | refine rg_pure TYok TYz true rfl rfl rfl sd ?_ | refine rg_load TYok rfl rfl rfl (by assumption) (by rfl) (by first | exact Nat.zero_lt_one | assumption | omega) (by rfl) ?_ | refine rg_lit TYok TYz rfl rfl rfl rfl rfl rfl rfl rfl ?_ | refine rg_ixa TYok rfl rfl rfl rfl rfl rfl rfl sd ?_ | refine rg_ixr TYok rfl rfl rfl rfl rfl rfl rfl sd ?_) | refine aw_rseq ?_ | refine aw_seq ?_ | refine aw_region ?_ | refine aw_skip ?_ | refine aw_true rfl ?_ | refine aw_false rfl ?_ | refine aw_d0seq rfl (by kernel_rfl) ?_ | refine aw_d0 rfl (by kernel_rfl) ?_ | refine aw_block ?_ | refine aw_exit ?_ | refine then_ret ?_ | refine then_exit ?_ | refine then_normal ?_ | refine blk_ret ?_ | refine blk_normal ?_ | refine blk_exit ?_ | refine blk_pass rfl ?_))
  ((try refine aw_ret ?_); (repeat (first | refine then_ret ?_ | refine blk_ret ?_)); refine fin_t True.intro rfl rfl ?_)
  exact ⟨rfl, hb1, ho1, hl1⟩
theorem sorted_s {H : AH} {id : Nat} {xs : List Int} (hb : H[id]? = some (some (bxI xs))) (hx : xs.length * 8 ≤ 140737488351232) :
    SC true Try.prog 30 [.fn (.func 45) [] [.ref id 1 0 0]] H (fun r H' => r = ints (sortL xs) ∧ H' = H) := by
  refine ⟨by kernel_rfl, fun U φ V w ca hh ha => ?_⟩
  obtain ⟨u, rfl, hu⟩ := vrels_one ha
  obtain ⟨us, vs, rfl, ⟨h1, _⟩, h2⟩ := hu.inv_fn
  obtain ⟨u1, rfl, hu1⟩ := vrels_one h2
  obtain ⟨rfl, hid⟩ := hu1.inv_ref
  have hus : us = [] := List.eq_nil_of_length_eq_zero h1
  subst hus
  obtain ⟨cur, hc, _, _, _, _, hcell⟩ := hh.blk id _ hb
  obtain ⟨u0, k1, _, k3⟩ := hcell 0 0 (ints xs) Nat.zero_lt_one rfl
  obtain ⟨a, n, rfl, hn, hm, _, hd⟩ := k3.inv_lst
  have hBb := (Array.getElem?_eq_some_iff.1 hc).1
  have hbox : w.cell? ⟨(φ id).1, 0, none⟩ = some (.slice a xs.length n) := by
    have k1 : cur[0]? = some (.slice a xs.length n) := k1
    simp [World.cell?, hc, k1]
  have hg : Lib.Gives 2 (φ id).1 xs w := by
    by_cases h0 : xs.length = 0
    · have h0' : xs = [] := List.eq_nil_of_length_eq_zero h0
      subst h0'
      exact Lib.gives0 2 _ w a n hBb hbox
    · obtain ⟨b, off, cu, e, fz, rfl, hV, hcb, _, hci⟩ := hd (by omega)
      refine Lib.gives 2 (by omega) _ b off n xs hx w hBb (hh.vlt b hV) hbox fun j hj => ?_
      obtain ⟨u, q1, _, q3⟩ := hci j 0 (.i (xs.getD j 0)) hj rfl
      rw [q3.inv_p, show off + j * 1 + 0 = off + j by omega] at q1
      simp [World.cell?, hcb, q1]
  have hS := Lib.sortedS (φ id).1 xs (by show xs.length ≤ 9223372036854775807; omega) (by omega) w hg
  refine hS.mono ?_
  rintro e w' ⟨v, rfl, ⟨hl, hrow⟩, hbel⟩
  rcases hrow with ⟨rfl, hz⟩ | ⟨gb, cap, cu, rfl, hbase, hgb, r1, r2, r3, r4⟩
  · obtain ⟨g2, s2⟩ := below_step (good_in hh) hbel (fun _ => False) (fun _ h => h.elim)
    have h0' : xs = [] := List.eq_nil_of_length_eq_zero hz
    subst h0'
    have e : sortL [] = [] := by show List.mergeSort _ _ = _; simp
    rw [e]
    exact ⟨_, rfl, ints [], U, φ, _, H, ⟨rfl, rfl⟩, g2, VRel.lst0 false 1 _ none 0 (Nat.zero_le _) (fun h => by cases h), s2⟩
  · have hgl := (Array.getElem?_eq_some_iff.1 hgb).1
    obtain ⟨g2, s2⟩ := below_step (good_in hh) hbel (fun b => b = gb) (fun b h => by subst h; exact ⟨hbase, hgl⟩)
    have hlen : (sortL xs).length = xs.length := by simp
    refine ⟨_, rfl, ints (sortL xs), U, φ, _, H, ⟨rfl, rfl⟩, g2, ?_, s2⟩
    rw [show (Value.slice (some ⟨gb, 0, none⟩) xs.length cap) = .slice (some ⟨gb, 0, none⟩) (sortL xs).length cap by rw [hlen]]
    refine .lst _ _ _ _ gb 0 cap cu 3 (0, 0) (fun i _ => .int .i64 ((sortL xs).getD i 0)) (by omega) r2 (fun h => by cases h) (.inr rfl) hgb (fun i _ => rfl) (fun i j x hi hx => ?_) (fun i j x hi hx => ?_)
    · rcases j with _ | j
      · refine ⟨?_, rfl⟩
        have h3 := congrArg (fun l : List Value => l[i]?) r4
        rw [List.getElem?_take_of_lt (by omega), Array.getElem?_toList, List.getElem?_map, List.getElem?_eq_getElem hi] at h3
        show cu[0 + i * 1 + 0]? = _
        rw [show 0 + i * 1 + 0 = i by omega, h3, List.getD_eq_getElem?_getD, List.getElem?_eq_getElem hi]
        rfl
      · have hx : ([] : List AV)[j]? = some x := hx
        simp at hx
    · rcases j with _ | j
      · have hx : some (AV.i ((sortL xs).getD i 0)) = some x := hx
        cases hx
        exact .p _
      · have hx : ([] : List AV)[j]? = some x := hx
        simp at hx
end Go.Proofs.Ytphjglbbhanmpaa.Ab
