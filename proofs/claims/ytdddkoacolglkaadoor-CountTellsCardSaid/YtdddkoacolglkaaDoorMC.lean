/- count.Parse, count.Text: contracts of the machine's, told of values. -/
import Derived.Test.YtdddkoacolglkaaDoorMA
import Derived.Test.YtdddkoacolglkaaDoorMB
namespace Go.Proofs.YtdddkoacolglkaaDoor.Ab
open Go Go.RowKit
theorem post_below {U : Nat → Prop} {φ : Pl} {V : Nat → Prop} {w w' : World} {H : AH} (hh : HRel U φ V w H) (hb : Below w.heap.size w w') {r : AV} {v : Value} (hv : VRel U φ V w' r v) : Post H.length w.heap.size U φ V w H (fun r' H' => r' = r ∧ H' = H) v w' := by
  have st : Step w.heap.size U φ V w H U φ V w' H := ⟨hb.os, hb.tape, hb.output, hb.size, fun b h _ => hb.block b h, fun _ h => h, fun _ _ h => h, fun _ _ => rfl, Nat.le_refl _, fun _ h => h, fun _ h => .inl h, fun _ _ h => h, fun id h => .inl ⟨id, h, rfl⟩⟩
  refine ⟨r, U, φ, V, H, ⟨rfl, rfl⟩, ⟨⟨fun id b hb' => ?_, hh.inj, hh.apart, fun b h => Nat.lt_of_lt_of_le (hh.vlt b h) hb.size, hh.ult, hh.tabs st⟩, hb.size, fun id hk hl => absurd hl.lt (by omega), Nat.le_refl _⟩, hv, st⟩
  obtain ⟨c, hc, h1, h2, h3, h4, h5⟩ := hh.blk id b hb'
  refine ⟨c, (hb.block _ (Array.getElem?_eq_some_iff.1 hc).1).trans hc, h1, h2, h3, h4, fun i j x hi hx => ?_⟩
  obtain ⟨u, hu, h1, hr⟩ := h5 i j x hi hx
  exact ⟨u, hu, h1, hr.step hh st⟩
theorem vrels_1 {U : Nat → Prop} {φ : Pl} {V : Nat → Prop} {w : World} {a : Value} {us : List Value} (h : VRels U φ V w [.p a] us) : us = [a] := by
  obtain ⟨h1, h2⟩ := h
  match us, h1 with
  | [u], _ => have := (h2 0 _ u rfl rfl).inv_p; rw [this]
/-- a contract of the machine's: one argument -/
theorem ps_lift1 {f : FuncId} {a v : Value} {r : AV} (hok : fnOK Tryd.prog f = true) (hr : ∀ U φ V w, VRel U φ V w r v)
    (h : ∀ w, ((w.heap[0]?).bind fun o => match o with | Obj.cells cs _ _ => some cs | _ => none) = some (Lib.pow10Tab.map fun z => Value.int .u64 z).toArray → Calls Tryd.prog f #[a] w fun e w' => e = .returned v ∧ Below w.heap.size w w') : PS Tryd.prog f [.p a] r := by
  refine fun H => ⟨hok, fun U φ V w ca hh ha => ?_⟩
  obtain rfl := vrels_1 ha
  refine (h w hh.tab.2).mono fun e w' ⟨he, hb⟩ => ⟨v, he, ?_⟩
  exact post_below hh hb (hr _ _ _ _)
theorem below_grow (w : World) (k : Nat) (os : Array Obj) : Below w.heap.size w (Sort.grow (w.drewN k) os) := by
  refine ⟨rfl, rfl, rfl, ?_, fun j hj => ?_⟩
  · show w.heap.size ≤ (w.heap ++ os).size
    simp
  · show (w.heap ++ os)[j]? = _
    rw [Array.getElem?_append_left hj]
def itoaS (n : Int) : Value := .string ⟨(Lib.itoa n).toArray⟩
theorem itoa_s (n : Int) (hn : I64 n) : PS Tryd.prog 20 [.i n] (.p (itoaS n)) := by
  refine ps_lift1 (by kernel_rfl) (fun _ _ _ _ => .p _) fun w ht => ?_
  refine (Tryd.strconv_Itoa n hn.1 hn.2 w ?_).mono ?_
  · unfold Lib.TabIs World.var?
    rw [show Tryd.prog.globalNamed "internal/strconv.uint64pow10" = some 0 by kernel_rfl]
    rw [Option.bind_some, ← ht]
    cases w.heap[0]? with
    | none => rfl
    | some o => cases o <;> rfl
  · rintro e w' ⟨rfl, k, os, rfl⟩
    exact ⟨rfl, below_grow w k os⟩
theorem text_s (n : Int) (hn : I64 n) : PS Tryd.prog 12 [.i n] (.p (if 0 ≤ n ∧ n ≤ 4611686018427387903 then itoaS n else .string ByteArray.empty)) := by
  have hi := itoa_s n hn
  refine ps_in TYok Tryd.func12 (by kernel_rfl) Tryd.ntmps12 rfl rfl rfl (.p _) fun H => ?_
  by_cases h : 0 ≤ n
  · by_cases h2 : n ≤ 4611686018427387903
    · rw [if_pos ⟨h, h2⟩]
      (repeat' (first | (refine sq_id ?_; first | refine sq_nil ?_ | refine sq_move rfl rfl rfl ?_ | refine sq_assign rfl rfl rfl ?_ | refine sq_skip rfl rfl ?_ | refine sq_t TYok TYz rfl rfl rfl True.intro so ?_ | refine sq_f TYok TYz rfl rfl rfl True.intro so ?_ | refine sq_pure TYok TYz false rfl rfl rfl sd ?_ | refine sq_pure TYok TYz true rfl rfl rfl sd ?_ | refine sq_load TYok rfl rfl rfl (by assumption) (by rfl) (by first | exact Nat.zero_lt_one | assumption | omega) (by rfl) ?_ | refine sq_lit TYok TYz rfl rfl rfl rfl rfl rfl rfl rfl ?_ | refine sq_ixa TYok rfl rfl rfl rfl rfl rfl rfl sd ?_ | refine sq_ixr TYok rfl rfl rfl rfl rfl rfl rfl sd ?_ | refine sq_ps rfl rfl rfl hi (LeL.refl _) ?_) | (refine rg_id ?_; first | refine rg_fin ?_ | refine rg_move rfl rfl rfl ?_ | refine rg_assign rfl rfl rfl ?_ | refine rg_skip rfl rfl ?_ | refine rg_t TYok TYz rfl rfl rfl True.intro so ?_ | refine rg_f TYok TYz rfl rfl rfl True.intro so ?_ | refine rg_pure TYok TYz false rfl rfl rfl sd ?_ | refine rg_pure TYok TYz true rfl rfl rfl sd ?_ | refine rg_load TYok rfl rfl rfl (by assumption) (by rfl) (by first | exact Nat.zero_lt_one | assumption | omega) (by rfl) ?_ | refine rg_lit TYok TYz rfl rfl rfl rfl rfl rfl rfl rfl ?_ | refine rg_ixa TYok rfl rfl rfl rfl rfl rfl rfl sd ?_ | refine rg_ixr TYok rfl rfl rfl rfl rfl rfl rfl sd ?_ | refine sq_ps rfl rfl rfl hi (LeL.refl _) ?_) | refine aw_rseq ?_ | refine aw_seq ?_ | refine aw_region ?_ | refine aw_skip ?_ | refine aw_true rfl ?_ | refine aw_false rfl ?_ | refine aw_d0seq rfl (by kernel_rfl) ?_ | refine aw_d0 rfl (by kernel_rfl) ?_ | refine aw_block ?_ | refine aw_exit ?_ | refine then_ret ?_ | refine then_exit ?_ | refine then_normal ?_ | refine blk_ret ?_ | refine blk_normal ?_ | refine blk_exit ?_ | refine blk_pass rfl ?_ | refine sq_ps rfl rfl rfl hi (LeL.refl _) ?_))
      ((try refine aw_ret ?_); (repeat (first | refine then_ret ?_ | refine blk_ret ?_)); refine fin_t True.intro rfl rfl ?_)
      exact ⟨.refl _, rfl⟩
    · rw [if_neg (fun k => h2 k.2)]
      (repeat' (first | (refine sq_id ?_; first | refine sq_nil ?_ | refine sq_move rfl rfl rfl ?_ | refine sq_assign rfl rfl rfl ?_ | refine sq_skip rfl rfl ?_ | refine sq_t TYok TYz rfl rfl rfl True.intro so ?_ | refine sq_f TYok TYz rfl rfl rfl True.intro so ?_ | refine sq_pure TYok TYz false rfl rfl rfl sd ?_ | refine sq_pure TYok TYz true rfl rfl rfl sd ?_ | refine sq_load TYok rfl rfl rfl (by assumption) (by rfl) (by first | exact Nat.zero_lt_one | assumption | omega) (by rfl) ?_ | refine sq_lit TYok TYz rfl rfl rfl rfl rfl rfl rfl rfl ?_ | refine sq_ixa TYok rfl rfl rfl rfl rfl rfl rfl sd ?_ | refine sq_ixr TYok rfl rfl rfl rfl rfl rfl rfl sd ?_) | (refine rg_id ?_; first | refine rg_fin ?_ | refine rg_move rfl rfl rfl ?_ | refine rg_assign rfl rfl rfl ?_ | refine rg_skip rfl rfl ?_ | refine rg_t TYok TYz rfl rfl rfl True.intro so ?_ | refine rg_f TYok TYz rfl rfl rfl True.intro so ?_ | refine rg_pure TYok TYz false rfl rfl rfl sd ?_ | refine rg_pure TYok TYz true rfl rfl rfl sd ?_ | refine rg_load TYok rfl rfl rfl (by assumption) (by rfl) (by first | exact Nat.zero_lt_one | assumption | omega) (by rfl) ?_ | refine rg_lit TYok TYz rfl rfl rfl rfl rfl rfl rfl rfl ?_ | refine rg_ixa TYok rfl rfl rfl rfl rfl rfl rfl sd ?_ | refine rg_ixr TYok rfl rfl rfl rfl rfl rfl rfl sd ?_) | refine aw_rseq ?_ | refine aw_seq ?_ | refine aw_region ?_ | refine aw_skip ?_ | refine aw_true rfl ?_ | refine aw_false rfl ?_ | refine aw_d0seq rfl (by kernel_rfl) ?_ | refine aw_d0 rfl (by kernel_rfl) ?_ | refine aw_block ?_ | refine aw_exit ?_ | refine then_ret ?_ | refine then_exit ?_ | refine then_normal ?_ | refine blk_ret ?_ | refine blk_normal ?_ | refine blk_exit ?_ | refine blk_pass rfl ?_))
      ((try refine aw_ret ?_); (repeat (first | refine then_ret ?_ | refine blk_ret ?_)); refine fin_t True.intro rfl rfl ?_)
      exact ⟨.refl _, rfl⟩
  · rw [if_neg (fun k => h k.1)]
    (repeat' (first | (refine sq_id ?_; first | refine sq_nil ?_ | refine sq_move rfl rfl rfl ?_ | refine sq_assign rfl rfl rfl ?_ | refine sq_skip rfl rfl ?_ | refine sq_t TYok TYz rfl rfl rfl True.intro so ?_ | refine sq_f TYok TYz rfl rfl rfl True.intro so ?_ | refine sq_pure TYok TYz false rfl rfl rfl sd ?_ | refine sq_pure TYok TYz true rfl rfl rfl sd ?_ | refine sq_load TYok rfl rfl rfl (by assumption) (by rfl) (by first | exact Nat.zero_lt_one | assumption | omega) (by rfl) ?_ | refine sq_lit TYok TYz rfl rfl rfl rfl rfl rfl rfl rfl ?_ | refine sq_ixa TYok rfl rfl rfl rfl rfl rfl rfl sd ?_ | refine sq_ixr TYok rfl rfl rfl rfl rfl rfl rfl sd ?_) | (refine rg_id ?_; first | refine rg_fin ?_ | refine rg_move rfl rfl rfl ?_ | refine rg_assign rfl rfl rfl ?_ | refine rg_skip rfl rfl ?_ | refine rg_t TYok TYz rfl rfl rfl True.intro so ?_ | refine rg_f TYok TYz rfl rfl rfl True.intro so ?_ | refine rg_pure TYok TYz false rfl rfl rfl sd ?_ | refine rg_pure TYok TYz true rfl rfl rfl sd ?_ | refine rg_load TYok rfl rfl rfl (by assumption) (by rfl) (by first | exact Nat.zero_lt_one | assumption | omega) (by rfl) ?_ | refine rg_lit TYok TYz rfl rfl rfl rfl rfl rfl rfl rfl ?_ | refine rg_ixa TYok rfl rfl rfl rfl rfl rfl rfl sd ?_ | refine rg_ixr TYok rfl rfl rfl rfl rfl rfl rfl sd ?_) | refine aw_rseq ?_ | refine aw_seq ?_ | refine aw_region ?_ | refine aw_skip ?_ | refine aw_true rfl ?_ | refine aw_false rfl ?_ | refine aw_d0seq rfl (by kernel_rfl) ?_ | refine aw_d0 rfl (by kernel_rfl) ?_ | refine aw_block ?_ | refine aw_exit ?_ | refine then_ret ?_ | refine then_exit ?_ | refine then_normal ?_ | refine blk_ret ?_ | refine blk_normal ?_ | refine blk_exit ?_ | refine blk_pass rfl ?_))
    ((try refine aw_ret ?_); (repeat (first | refine then_ret ?_ | refine blk_ret ?_)); refine fin_t True.intro rfl rfl ?_)
    exact ⟨.refl _, rfl⟩
end Go.Proofs.YtdddkoacolglkaaDoor.Ab
