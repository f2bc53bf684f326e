/- free.does: what is done where. -/
import Derived.Test.YtjdokpdnehkjpaaEZ
import Derived.Test.YtjdokpdnehkjpaaHD
namespace Go.Proofs.Ytjdokpdnehkjpaa.Ab
open Go Go.RowKit
def plK (j c : Int) : Value := .agg #[.int .i64 j, .int .i64 c]
def plKs : List Value := [plK 1 0, plK 1 1, plK 1 2, plK 2 0, plK 2 1, plK 2 2]
def plFs : List FuncId := [38, 39, 40, 41, 42, 43]
def plVs : List AV := plFs.map fun f => .fn (.func f) [] []
theorem ne_keys (i j : Nat) (k k' : Value) (h : i ≠ j) (hi : plKs[i]? = some k) (hj : plKs[j]? = some k') : ∀ w, (Op.equal 58 k k').run Try.prog w = .ok false w := by
  intro w
  have key : ∀ (a b c d : Int), ceq Try.prog 10 58 [.int .i64 a, .int .i64 b] [.int .i64 c, .int .i64 d] = some false → (Op.equal 58 (plK a b) (plK c d)).run Try.prog w = .ok false w := fun a b c d h => by
    have h2 := run_ceq 9990 10 58 _ _ _ w h
    exact h2
  rcases i with _ | _ | _ | _ | _ | _ | i <;> rcases j with _ | _ | _ | _ | _ | _ | j <;> first
    | (exact absurd rfl h)
    | (cases hi; cases hj; exact key _ _ _ _ (by kernel_rfl))
    | (simp [plKs] at hi; done)
    | (simp [plKs] at hj; done)
set_option maxHeartbeats 2000000 in
theorem does_s : PS Try.prog 30 [] (.mp plKs plVs) := by
  refine ps_in TYok Try.func30 (by kernel_rfl) Try.ntmps30 rfl rfl rfl (.mp _ _ fun x hx => ?_) fun H => ?_
  · obtain ⟨f, _, rfl⟩ := List.mem_map.1 hx
    exact .fn _ _ _ (fun _ h => by cases h) (fun _ h => by cases h)
  · refine aw_seq ?_
    refine aw_region ?_
    refine sq_assign rfl rfl rfl ?_
    refine sq_nil ?_
    refine then_normal ?_
    refine aw_seq ?_
    refine aw_mlit (et := 53) (ks := plKs) (ss := [2, 3, 4, 5, 6, 7]) (fs := plFs) (m := 1) (by kernel_rfl) (by kernel_rfl) (by kernel_rfl) (by kernel_rfl) rfl rfl (by decide) (by decide) ⟨_, rfl, rfl, rfl, rfl⟩ (fun i k s hk hs => ?_) (fun i s f hs hf => ?_) (by kernel_rfl) (fun k hk => ?_) (by kernel_rfl) ne_keys ?_
    · rcases i with _ | _ | _ | _ | _ | _ | i
      · cases hk; cases hs; exact ⟨_, rfl, rfl, rfl, by decide, fun ρ w => by kernel_rfl⟩
      · cases hk; cases hs; exact ⟨_, rfl, rfl, rfl, by decide, fun ρ w => by kernel_rfl⟩
      · cases hk; cases hs; exact ⟨_, rfl, rfl, rfl, by decide, fun ρ w => by kernel_rfl⟩
      · cases hk; cases hs; exact ⟨_, rfl, rfl, rfl, by decide, fun ρ w => by kernel_rfl⟩
      · cases hk; cases hs; exact ⟨_, rfl, rfl, rfl, by decide, fun ρ w => by kernel_rfl⟩
      · cases hk; cases hs; exact ⟨_, rfl, rfl, rfl, by decide, fun ρ w => by kernel_rfl⟩
      · simp at hs
    · rcases i with _ | _ | _ | _ | _ | _ | i
      · cases hs; cases hf; exact ⟨_, rfl, rfl, rfl, rfl, ⟨_, Array.mem_of_getElem? (i := 0) rfl, rfl, rfl⟩, ⟨_, Array.mem_of_getElem? (i := 1) rfl, rfl, rfl⟩⟩
      · cases hs; cases hf; exact ⟨_, rfl, rfl, rfl, rfl, ⟨_, Array.mem_of_getElem? (i := 0) rfl, rfl, rfl⟩, ⟨_, Array.mem_of_getElem? (i := 1) rfl, rfl, rfl⟩⟩
      · cases hs; cases hf; exact ⟨_, rfl, rfl, rfl, rfl, ⟨_, Array.mem_of_getElem? (i := 0) rfl, rfl, rfl⟩, ⟨_, Array.mem_of_getElem? (i := 1) rfl, rfl, rfl⟩⟩
      · cases hs; cases hf; exact ⟨_, rfl, rfl, rfl, rfl, ⟨_, Array.mem_of_getElem? (i := 0) rfl, rfl, rfl⟩, ⟨_, Array.mem_of_getElem? (i := 1) rfl, rfl, rfl⟩⟩
      · cases hs; cases hf; exact ⟨_, rfl, rfl, rfl, rfl, ⟨_, Array.mem_of_getElem? (i := 0) rfl, rfl, rfl⟩, ⟨_, Array.mem_of_getElem? (i := 1) rfl, rfl, rfl⟩⟩
      · cases hs; cases hf; exact ⟨_, rfl, rfl, rfl, rfl, ⟨_, Array.mem_of_getElem? (i := 0) rfl, rfl, rfl⟩, ⟨_, Array.mem_of_getElem? (i := 1) rfl, rfl, rfl⟩⟩
      · simp at hs
    · simp only [plKs, List.mem_cons, List.not_mem_nil, or_false] at hk
      rcases hk with rfl | rfl | rfl | rfl | rfl | rfl <;> exact keyC_flat (n := 2) (cs := [_, _]) (by kernel_rfl) rfl
    · (repeat' (first | (refine sq_id ?_; first | refine sq_nil ?_ | refine sq_move rfl rfl rfl ?_ | refine sq_assign rfl rfl rfl ?_ | refine sq_skip rfl rfl ?_ | refine sq_t TYok TYz rfl rfl rfl True.intro so ?_ | refine sq_f TYok TYz rfl rfl rfl True.intro so ?_ | refine sq_pure TYok TYz false rfl rfl rfl sd ?_ | refine sq_pure TYok TYz true rfl rfl rfl sd ?_ | refine sq_load TYok rfl rfl rfl (by assumption) (by rfl) (by first | exact Nat.zero_lt_one | assumption | omega) (by rfl) ?_ | refine sq_lit TYok TYz rfl rfl rfl rfl rfl rfl rfl rfl ?_ | refine sq_ixa TYok rfl rfl rfl rfl rfl rfl rfl sd ?_ | refine sq_ixr TYok rfl rfl rfl rfl rfl rfl rfl sd ?_) | (refine rg_id ?_; first | refine rg_fin ?_ | refine rg_move rfl rfl rfl ?_ | refine rg_assign rfl rfl rfl ?_ | refine rg_skip rfl rfl ?_ | refine rg_t TYok TYz rfl rfl rfl True.intro so ?_ | refine rg_f TYok TYz rfl rfl rfl True.intro so ?_ | refine rg_pure TYok TYz false rfl rfl rfl sd ?_ | refine rg_pure TYok TYz true rfl rfl rfl sd ?_ | refine rg_load TYok rfl rfl rfl (by assumption) (by rfl) (by first | exact Nat.zero_lt_one | assumption | omega) (by rfl) ?_ | refine rg_lit TYok TYz rfl rfl rfl rfl rfl rfl rfl rfl ?_ | refine rg_ixa TYok rfl rfl rfl rfl rfl rfl rfl sd ?_ | refine rg_ixr TYok rfl rfl rfl rfl rfl rfl rfl sd ?_) | refine aw_rseq ?_ | refine aw_seq ?_ | refine aw_region ?_ | refine aw_skip ?_ | refine aw_true rfl ?_ | refine aw_false rfl ?_ | refine aw_d0seq rfl (by kernel_rfl) ?_ | refine aw_d0 rfl (by kernel_rfl) ?_ | refine aw_block ?_ | refine aw_exit ?_ | refine then_ret ?_ | refine then_exit ?_ | refine then_normal ?_ | refine blk_ret ?_ | refine blk_normal ?_ | refine blk_exit ?_ | refine blk_pass rfl ?_ | refine aw_dec rfl (fun _ => ?_) (fun _ => ?_) | refine aw_ret ?_))
      ((try refine aw_ret ?_); (repeat (first | refine then_ret ?_ | refine blk_ret ?_)); refine fin_t True.intro rfl rfl ?_)
      exact ⟨.refl _, rfl⟩
end Go.Proofs.Ytjdokpdnehkjpaa.Ab
