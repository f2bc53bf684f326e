/- Lists: copied, searched. -/
import Derived.Test.YtmhepmocnnlhnaaGA
import Derived.Test.YtmhepmocnnlhnaaQC
import Derived.Test.YtmhepmocnnlhnaaEW
namespace Go.Proofs.Ytmhepmocnnlhnaa.Ab
open Go Go.RowKit
theorem pick_k (c m : Int) (hc : I64 c) (hm : 0 < m) : ∃ x, PS Try.prog 13 [.i c, .i m] (.i x) ∧ x = pick c m ∧ 0 ≤ x ∧ x < m := ⟨_, pick_s c m hc hm, rfl, pick_bd c m hm⟩
theorem ints_t (xs : List Int) (hx : xs.length ≤ 9223372036854775807) : PS Try.prog 27 [ints xs, ints xs] (.b true) := by
  have := ints_s xs xs hx
  rwa [decide_eq_true rfl] at this
theorem mem_getD {α : Type} (xs : List α) (d : α) (k : Nat) (hk : k < xs.length) : xs.getD k d ∈ xs := by
  rw [List.getD_eq_getElem?_getD, List.getElem?_eq_getElem hk]; exact List.getElem_mem hk
/-- a copy that may change -/
theorem clonem_s (xs : List Int) (hx : xs.length * 8 ≤ 140737488355328) (h0 : 0 < xs.length) (H : AH) : SC true Try.prog 48 [ints xs] H (fun r H' => r = .arr H.length 1 0 xs.length ∧ H' = H ++ [some (iblk xs)]) := by
  refine sc_in TYok Try.func48 (by kernel_rfl) Try.ntmps48 rfl rfl rfl ?_
  (repeat' (first | (refine sq_id ?_; first | refine sq_nil ?_ | refine sm ?_ | refine sa ?_ | refine ss ?_ | refine st ?_ | refine sf ?_ | refine sp ?_ | refine sq ?_ | refine sl ?_ | refine si ?_ | refine sx ?_ | refine sy ?_) | (refine rg_id ?_; first | refine rg_fin ?_ | refine rm ?_ | refine ra ?_ | refine rs ?_ | refine rt ?_ | refine rf ?_ | refine rp ?_ | refine rq ?_ | refine rl ?_ | refine ri ?_ | refine rx ?_ | refine ry ?_) | refine aw_rseq ?_ | refine aw_seq ?_ | refine aw_region ?_ | refine aw_skip ?_ | refine ct ?_ | refine cf ?_ | refine d0s ?_ | refine d0r ?_ | refine aw_block ?_ | refine aw_exit ?_ | refine then_ret ?_ | refine then_exit ?_ | refine then_normal ?_ | refine blk_ret ?_ | refine blk_normal ?_ | refine blk_exit ?_ | refine blk_pass rfl ?_ | refine aw_dec rfl (fun _ => ?_) (fun _ => ?_)))
  refine sq_nileq TYok rfl rfl rfl rfl (.lst _ _ _ _) fun b hb => ?_
  refine sq_nil ?_
  refine aw_cond rfl (fun h => ?_) (fun h => ?_)
  · have hb := hb h; omega
  · (repeat' (first | (refine sq_id ?_; first | refine sq_nil ?_ | refine sm ?_ | refine sa ?_ | refine ss ?_ | refine st ?_ | refine sf ?_ | refine sp ?_ | refine sq ?_ | refine sl ?_ | refine si ?_ | refine sx ?_ | refine sy ?_) | (refine rg_id ?_; first | refine rg_fin ?_ | refine rm ?_ | refine ra ?_ | refine rs ?_ | refine rt ?_ | refine rf ?_ | refine rp ?_ | refine rq ?_ | refine rl ?_ | refine ri ?_ | refine rx ?_ | refine ry ?_) | refine aw_rseq ?_ | refine aw_seq ?_ | refine aw_region ?_ | refine aw_skip ?_ | refine ct ?_ | refine cf ?_ | refine d0s ?_ | refine d0r ?_ | refine aw_block ?_ | refine aw_exit ?_ | refine then_ret ?_ | refine then_exit ?_ | refine then_normal ?_ | refine blk_ret ?_ | refine blk_normal ?_ | refine blk_exit ?_ | refine blk_pass rfl ?_ | refine aw_dec rfl (fun _ => ?_) (fun _ => ?_)))
    refine sq_fresh TYok TYz rfl rfl rfl rfl rfl (by decide) (.inr ⟨_, _, rfl⟩) (.lst _ _ _ _) hx (by omega) h0 ?_
    (repeat' (first | (refine sq_id ?_; first | refine sq_nil ?_ | refine sm ?_ | refine sa ?_ | refine ss ?_ | refine st ?_ | refine sf ?_ | refine sp ?_ | refine sq ?_ | refine sl ?_ | refine si ?_ | refine sx ?_ | refine sy ?_) | (refine rg_id ?_; first | refine rg_fin ?_ | refine rm ?_ | refine ra ?_ | refine rs ?_ | refine rt ?_ | refine rf ?_ | refine rp ?_ | refine rq ?_ | refine rl ?_ | refine ri ?_ | refine rx ?_ | refine ry ?_) | refine aw_rseq ?_ | refine aw_seq ?_ | refine aw_region ?_ | refine aw_skip ?_ | refine ct ?_ | refine cf ?_ | refine d0s ?_ | refine d0r ?_ | refine aw_block ?_ | refine aw_exit ?_ | refine then_ret ?_ | refine then_exit ?_ | refine then_normal ?_ | refine blk_ret ?_ | refine blk_normal ?_ | refine blk_exit ?_ | refine blk_pass rfl ?_ | refine aw_dec rfl (fun _ => ?_) (fun _ => ?_) | refine aw_ret ?_))
    ((try refine aw_ret ?_); (repeat (first | refine then_ret ?_ | refine blk_ret ?_)); refine fin_t True.intro rfl rfl ?_)
    exact ⟨rfl, rfl⟩
abbrev none0 : AV := .lst true 1 0 fun i => [.i (([] : List Int).getD i 0)]
/-- a copy of a list of nothing: it has no room -/
theorem clone0_s : PS Try.prog 48 [ints []] none0 := by
  refine ps_in TYok Try.func48 (by kernel_rfl) Try.ntmps48 rfl rfl rfl (.lst _ _ _ _ fun i x hi _ => by omega) fun H => ?_
  (repeat' (first | (refine sq_id ?_; first | refine sq_nil ?_ | refine sm ?_ | refine sa ?_ | refine ss ?_ | refine st ?_ | refine sf ?_ | refine sp ?_ | refine sq ?_ | refine sl ?_ | refine si ?_ | refine sx ?_ | refine sy ?_) | (refine rg_id ?_; first | refine rg_fin ?_ | refine rm ?_ | refine ra ?_ | refine rs ?_ | refine rt ?_ | refine rf ?_ | refine rp ?_ | refine rq ?_ | refine rl ?_ | refine ri ?_ | refine rx ?_ | refine ry ?_) | refine aw_rseq ?_ | refine aw_seq ?_ | refine aw_region ?_ | refine aw_skip ?_ | refine ct ?_ | refine cf ?_ | refine d0s ?_ | refine d0r ?_ | refine aw_block ?_ | refine aw_exit ?_ | refine then_ret ?_ | refine then_exit ?_ | refine then_normal ?_ | refine blk_ret ?_ | refine blk_normal ?_ | refine blk_exit ?_ | refine blk_pass rfl ?_ | refine aw_dec rfl (fun _ => ?_) (fun _ => ?_)))
  refine sq_nileq TYok rfl rfl rfl rfl (.lst _ _ _ _) fun b hb => ?_
  refine sq_nil ?_
  refine aw_cond rfl (fun h => ?_) (fun h => ?_)
  · (repeat' (first | (refine sq_id ?_; first | refine sq_nil ?_ | refine sm ?_ | refine sa ?_ | refine ss ?_ | refine st ?_ | refine sf ?_ | refine sp ?_ | refine sq ?_ | refine sl ?_ | refine si ?_ | refine sx ?_ | refine sy ?_) | (refine rg_id ?_; first | refine rg_fin ?_ | refine rm ?_ | refine ra ?_ | refine rs ?_ | refine rt ?_ | refine rf ?_ | refine rp ?_ | refine rq ?_ | refine rl ?_ | refine ri ?_ | refine rx ?_ | refine ry ?_) | refine aw_rseq ?_ | refine aw_seq ?_ | refine aw_region ?_ | refine aw_skip ?_ | refine ct ?_ | refine cf ?_ | refine d0s ?_ | refine d0r ?_ | refine aw_block ?_ | refine aw_exit ?_ | refine then_ret ?_ | refine then_exit ?_ | refine then_normal ?_ | refine blk_ret ?_ | refine blk_normal ?_ | refine blk_exit ?_ | refine blk_pass rfl ?_ | refine aw_dec rfl (fun _ => ?_) (fun _ => ?_)))
    refine aw_slot 2 none0 (le_nil _ _ _) ?_
    ((try refine aw_ret ?_); (repeat (first | refine then_ret ?_ | refine blk_ret ?_)); refine fin_t True.intro rfl rfl ?_)
    exact ⟨Ext.refl _, rfl⟩
  · (repeat' (first | (refine sq_id ?_; first | refine sq_nil ?_ | refine sm ?_ | refine sa ?_ | refine ss ?_ | refine st ?_ | refine sf ?_ | refine sp ?_ | refine sq ?_ | refine sl ?_ | refine si ?_ | refine sx ?_ | refine sy ?_) | (refine rg_id ?_; first | refine rg_fin ?_ | refine rm ?_ | refine ra ?_ | refine rs ?_ | refine rt ?_ | refine rf ?_ | refine rp ?_ | refine rq ?_ | refine rl ?_ | refine ri ?_ | refine rx ?_ | refine ry ?_) | refine aw_rseq ?_ | refine aw_seq ?_ | refine aw_region ?_ | refine aw_skip ?_ | refine ct ?_ | refine cf ?_ | refine d0s ?_ | refine d0r ?_ | refine aw_block ?_ | refine aw_exit ?_ | refine then_ret ?_ | refine then_exit ?_ | refine then_normal ?_ | refine blk_ret ?_ | refine blk_normal ?_ | refine blk_exit ?_ | refine blk_pass rfl ?_ | refine aw_dec rfl (fun _ => ?_) (fun _ => ?_)))
    refine sq_app0 TYok rfl rfl rfl rfl rfl (by decide) rfl (.lst _ _ _ _) ?_
    (repeat' (first | (refine sq_id ?_; first | refine sq_nil ?_ | refine sm ?_ | refine sa ?_ | refine ss ?_ | refine st ?_ | refine sf ?_ | refine sp ?_ | refine sq ?_ | refine sl ?_ | refine si ?_ | refine sx ?_ | refine sy ?_) | (refine rg_id ?_; first | refine rg_fin ?_ | refine rm ?_ | refine ra ?_ | refine rs ?_ | refine rt ?_ | refine rf ?_ | refine rp ?_ | refine rq ?_ | refine rl ?_ | refine ri ?_ | refine rx ?_ | refine ry ?_) | refine aw_rseq ?_ | refine aw_seq ?_ | refine aw_region ?_ | refine aw_skip ?_ | refine ct ?_ | refine cf ?_ | refine d0s ?_ | refine d0r ?_ | refine aw_block ?_ | refine aw_exit ?_ | refine then_ret ?_ | refine then_exit ?_ | refine then_normal ?_ | refine blk_ret ?_ | refine blk_normal ?_ | refine blk_exit ?_ | refine blk_pass rfl ?_ | refine aw_dec rfl (fun _ => ?_) (fun _ => ?_)))
    refine aw_slot 2 none0 (le_lst (fun h => h) fun i hi => by omega) ?_
    ((try refine aw_ret ?_); (repeat (first | refine then_ret ?_ | refine blk_ret ?_)); refine fin_t True.intro rfl rfl ?_)
    exact ⟨.refl _, rfl⟩
/-- the place of the first one of which p holds; -1: none -/
def idxOf (p : Int → Bool) (xs : List Int) : Int := match xs.findIdx? p with
  | some i => i
  | none => -1
theorem idxOf_app (p : Int → Bool) (xs : List Int) (k : Nat) (hk : k < xs.length) (h : ∀ x ∈ xs.take k, p x = false) : (p (xs.getD k 0) = true → idxOf p xs = k) ∧ (p (xs.getD k 0) = false → ∀ x ∈ xs.take (k + 1), p x = false) := by
  have e : xs.getD k 0 = xs[k] := by rw [List.getD_eq_getElem?_getD, List.getElem?_eq_getElem hk]; rfl
  rw [e]
  constructor
  · intro hp
    unfold idxOf
    have : xs.findIdx? p = some k := by
      rw [List.findIdx?_eq_some_iff_getElem]
      refine ⟨hk, hp, fun j hj => ?_⟩
      have := h xs[j] (by rw [List.mem_take_iff_getElem]; exact ⟨j, by omega, rfl⟩)
      simp [this]
    rw [this]
  · intro hp x hx
    rw [List.take_add_one, List.getElem?_eq_getElem hk] at hx
    rcases List.mem_append.1 hx with h1 | h1
    · exact h x h1
    · simp at h1; rw [h1]; exact hp
theorem idxOf_none (p : Int → Bool) (xs : List Int) (h : ∀ x ∈ xs, p x = false) : idxOf p xs = -1 := by
  unfold idxOf
  rw [List.findIdx?_eq_none_iff.2 h]
theorem idxOf_any (p : Int → Bool) (xs : List Int) : decide (0 ≤ idxOf p xs) = xs.any p := by
  unfold idxOf
  cases h : xs.findIdx? p with
  | none =>
    rw [List.findIdx?_eq_none_iff] at h
    have : xs.any p = false := by rw [List.any_eq_false]; intro x hx; rw [h x hx]; decide
    rw [this]; rfl
  | some i =>
    rw [List.findIdx?_eq_some_iff_getElem] at h
    obtain ⟨hi, hp, _⟩ := h
    have : xs.any p = true := List.any_eq_true.2 ⟨_, List.getElem_mem hi, hp⟩
    rw [this]
    exact decide_eq_true (Int.natCast_nonneg i)
/-- a list, told as a value: one that never changes, or a block -/
inductive Rd (H : AH) : AV → List Int → Prop
  | lst (t : Bool) (xs : List Int) : Rd H (.lst t 1 xs.length fun i => [.i (xs.getD i 0)]) xs
  | arr (id : Nat) (xs : List Int) : H[id]? = some (some (iblk xs)) → Rd H (.arr id 1 0 xs.length) xs
theorem indexfunc_s (xs : List Int) (g : FuncId) (cs : List AV) (p : Int → Bool) (hl : xs.length ≤ 9223372036854775807) (H : AH) {v : AV} (hv : Rd H v xs) (hp : ∀ x ∈ xs, SC true Try.prog g (.i x :: cs) H (fun r H' => r = .b (p x) ∧ H' = H)) :
    SC true Try.prog 51 [v, .fn (.func g) [] cs] H (fun r H' => r = .i (idxOf p xs) ∧ H' = H) := by
  rcases hv with ⟨t⟩ | ⟨id, _, hb⟩
  all_goals
    refine sc_in TYok Try.func51 (by kernel_rfl) Try.ntmps51 rfl rfl rfl ?_
    (repeat' (first | (refine sq_id ?_; first | refine sq_nil ?_ | refine sm ?_ | refine sa ?_ | refine ss ?_ | refine st ?_ | refine sf ?_ | refine sp ?_ | refine sq ?_ | refine sl ?_ | refine si ?_ | refine sx ?_ | refine sy ?_) | (refine rg_id ?_; first | refine rg_fin ?_ | refine rm ?_ | refine ra ?_ | refine rs ?_ | refine rt ?_ | refine rf ?_ | refine rp ?_ | refine rq ?_ | refine rl ?_ | refine ri ?_ | refine rx ?_ | refine ry ?_) | refine aw_rseq ?_ | refine aw_seq ?_ | refine aw_region ?_ | refine aw_skip ?_ | refine ct ?_ | refine cf ?_ | refine d0s ?_ | refine d0r ?_ | refine aw_block ?_ | refine aw_exit ?_ | refine then_ret ?_ | refine then_exit ?_ | refine then_normal ?_ | refine blk_ret ?_ | refine blk_normal ?_ | refine blk_exit ?_ | refine blk_pass rfl ?_))
    refine aw_for [0, 1, 7, 8] (fun k : Nat => [(0, _), (1, .fn (.func g) [] cs), (7, .i xs.length), (8, .i k)]) (fun k H' => k ≤ xs.length ∧ H' = H ∧ ∀ x ∈ xs.take k, p x = false) (fun k => xs.length - k) 0 rfl ⟨by omega, rfl, by simp⟩ ?_
    rintro k H1 ⟨hk, rfl, hn⟩
    (repeat' (first | (refine sq_id ?_; first | refine sq_nil ?_ | refine sm ?_ | refine sa ?_ | refine ss ?_ | refine st ?_ | refine sf ?_ | refine sp ?_ | refine sq ?_ | refine sl ?_ | refine si ?_ | refine sx ?_ | refine sy ?_) | (refine rg_id ?_; first | refine rg_fin ?_ | refine rm ?_ | refine ra ?_ | refine rs ?_ | refine rt ?_ | refine rf ?_ | refine rp ?_ | refine rq ?_ | refine rl ?_ | refine ri ?_ | refine rx ?_ | refine ry ?_) | refine aw_rseq ?_ | refine aw_seq ?_ | refine aw_region ?_ | refine aw_skip ?_ | refine ct ?_ | refine cf ?_ | refine d0s ?_ | refine d0r ?_ | refine aw_block ?_ | refine aw_exit ?_ | refine then_ret ?_ | refine then_exit ?_ | refine then_normal ?_ | refine blk_ret ?_ | refine blk_normal ?_ | refine blk_exit ?_ | refine blk_pass rfl ?_))
    refine aw_dec rfl (fun h => ?_) (fun h => ?_)
    · have hk1 : k < xs.length := by omega
      obtain ⟨i1, i2⟩ := idxOf_app p xs k hk1 hn
      have hp := hp _ (mem_getD xs 0 k hk1)
      (repeat' (first | (refine sq_id ?_; first | refine sq_nil ?_ | refine sm ?_ | refine sa ?_ | refine ss ?_ | refine st ?_ | refine sf ?_ | refine sp ?_ | refine sq ?_ | refine sl ?_ | refine si ?_ | refine sx ?_ | refine sy ?_) | (refine rg_id ?_; first | refine rg_fin ?_ | refine rm ?_ | refine ra ?_ | refine rs ?_ | refine rt ?_ | refine rf ?_ | refine rp ?_ | refine rq ?_ | refine rl ?_ | refine ri ?_ | refine rx ?_ | refine ry ?_) | refine aw_rseq ?_ | refine aw_seq ?_ | refine aw_region ?_ | refine aw_skip ?_ | refine ct ?_ | refine cf ?_ | refine d0s ?_ | refine d0r ?_ | refine aw_block ?_ | refine aw_exit ?_ | refine then_ret ?_ | refine then_exit ?_ | refine then_normal ?_ | refine blk_ret ?_ | refine blk_normal ?_ | refine blk_exit ?_ | refine blk_pass rfl ?_))
      refine sq_callv rfl rfl rfl rfl (LeL.refl _) (hp.mono fun r H2 e => ?_)
      obtain ⟨rfl, rfl⟩ := e
      cases hb : p (xs.getD k 0)
      · (repeat' (first | (refine sq_id ?_; first | refine sq_nil ?_ | refine sm ?_ | refine sa ?_ | refine ss ?_ | refine st ?_ | refine sf ?_ | refine sp ?_ | refine sq ?_ | refine sl ?_ | refine si ?_ | refine sx ?_ | refine sy ?_) | (refine rg_id ?_; first | refine rg_fin ?_ | refine rm ?_ | refine ra ?_ | refine rs ?_ | refine rt ?_ | refine rf ?_ | refine rp ?_ | refine rq ?_ | refine rl ?_ | refine ri ?_ | refine rx ?_ | refine ry ?_) | refine aw_rseq ?_ | refine aw_seq ?_ | refine aw_region ?_ | refine aw_skip ?_ | refine ct ?_ | refine cf ?_ | refine d0s ?_ | refine d0r ?_ | refine aw_block ?_ | refine aw_exit ?_ | refine then_ret ?_ | refine then_exit ?_ | refine then_normal ?_ | refine blk_ret ?_ | refine blk_normal ?_ | refine blk_exit ?_ | refine blk_pass rfl ?_ | refine aw_dec rfl (fun _ => ?_) (fun _ => ?_) | refine aw_ret ?_))
        exact ⟨k + 1, by rw [rstf_eq]; rfl, ⟨by omega, rfl, i2 hb⟩, by omega⟩
      · (repeat' (first | (refine sq_id ?_; first | refine sq_nil ?_ | refine sm ?_ | refine sa ?_ | refine ss ?_ | refine st ?_ | refine sf ?_ | refine sp ?_ | refine sq ?_ | refine sl ?_ | refine si ?_ | refine sx ?_ | refine sy ?_) | (refine rg_id ?_; first | refine rg_fin ?_ | refine rm ?_ | refine ra ?_ | refine rs ?_ | refine rt ?_ | refine rf ?_ | refine rp ?_ | refine rq ?_ | refine rl ?_ | refine ri ?_ | refine rx ?_ | refine ry ?_) | refine aw_rseq ?_ | refine aw_seq ?_ | refine aw_region ?_ | refine aw_skip ?_ | refine ct ?_ | refine cf ?_ | refine d0s ?_ | refine d0r ?_ | refine aw_block ?_ | refine aw_exit ?_ | refine then_ret ?_ | refine then_exit ?_ | refine then_normal ?_ | refine blk_ret ?_ | refine blk_normal ?_ | refine blk_exit ?_ | refine blk_pass rfl ?_ | refine aw_dec rfl (fun _ => ?_) (fun _ => ?_) | refine aw_ret ?_))
        ((try refine aw_ret ?_); (repeat (first | refine then_ret ?_ | refine blk_ret ?_)); refine fin_t True.intro rfl rfl ?_)
        rw [i1 hb]
        exact ⟨rfl, rfl⟩
    · rw [List.take_of_length_le (by omega)] at hn
      (repeat' (first | (refine sq_id ?_; first | refine sq_nil ?_ | refine sm ?_ | refine sa ?_ | refine ss ?_ | refine st ?_ | refine sf ?_ | refine sp ?_ | refine sq ?_ | refine sl ?_ | refine si ?_ | refine sx ?_ | refine sy ?_) | (refine rg_id ?_; first | refine rg_fin ?_ | refine rm ?_ | refine ra ?_ | refine rs ?_ | refine rt ?_ | refine rf ?_ | refine rp ?_ | refine rq ?_ | refine rl ?_ | refine ri ?_ | refine rx ?_ | refine ry ?_) | refine aw_rseq ?_ | refine aw_seq ?_ | refine aw_region ?_ | refine aw_skip ?_ | refine ct ?_ | refine cf ?_ | refine d0s ?_ | refine d0r ?_ | refine aw_block ?_ | refine aw_exit ?_ | refine then_ret ?_ | refine then_exit ?_ | refine then_normal ?_ | refine blk_ret ?_ | refine blk_normal ?_ | refine blk_exit ?_ | refine blk_pass rfl ?_ | refine aw_dec rfl (fun _ => ?_) (fun _ => ?_) | refine aw_ret ?_))
      ((try refine aw_ret ?_); (repeat (first | refine then_ret ?_ | refine blk_ret ?_)); refine fin_t True.intro rfl rfl ?_)
      rw [idxOf_none p xs hn]
      exact ⟨rfl, rfl⟩
theorem containsfunc_s (xs : List Int) (g : FuncId) (cs : List AV) (p : Int → Bool) (hl : xs.length ≤ 9223372036854775807) (H : AH) {v : AV} (hv : Rd H v xs) (hp : ∀ x ∈ xs, SC true Try.prog g (.i x :: cs) H (fun r H' => r = .b (p x) ∧ H' = H)) :
    SC true Try.prog 42 [v, .fn (.func g) [] cs] H (fun r H' => r = .b (xs.any p) ∧ H' = H) := by
  have hi := indexfunc_s xs g cs p hl H hv hp
  rw [← idxOf_any]
  rcases hv with ⟨t⟩ | ⟨id, _, hb⟩
  all_goals
    refine sc_in TYok Try.func42 (by kernel_rfl) Try.ntmps42 rfl rfl rfl ?_
    (repeat' (first | (refine sq_id ?_; first | refine sq_nil ?_ | refine sm ?_ | refine sa ?_ | refine ss ?_ | refine st ?_ | refine sf ?_ | refine sp ?_ | refine sq ?_ | refine sl ?_ | refine si ?_ | refine sx ?_ | refine sy ?_) | (refine rg_id ?_; first | refine rg_fin ?_ | refine rm ?_ | refine ra ?_ | refine rs ?_ | refine rt ?_ | refine rf ?_ | refine rp ?_ | refine rq ?_ | refine rl ?_ | refine ri ?_ | refine rx ?_ | refine ry ?_) | refine aw_rseq ?_ | refine aw_seq ?_ | refine aw_region ?_ | refine aw_skip ?_ | refine ct ?_ | refine cf ?_ | refine d0s ?_ | refine d0r ?_ | refine aw_block ?_ | refine aw_exit ?_ | refine then_ret ?_ | refine then_exit ?_ | refine then_normal ?_ | refine blk_ret ?_ | refine blk_normal ?_ | refine blk_exit ?_ | refine blk_pass rfl ?_))
    refine sq_call rfl rfl rfl (LeL.refl _) (hi.mono fun r H2 e => ?_)
    obtain ⟨rfl, rfl⟩ := e
    (repeat' (first | (refine sq_id ?_; first | refine sq_nil ?_ | refine sm ?_ | refine sa ?_ | refine ss ?_ | refine st ?_ | refine sf ?_ | refine sp ?_ | refine sq ?_ | refine sl ?_ | refine si ?_ | refine sx ?_ | refine sy ?_) | (refine rg_id ?_; first | refine rg_fin ?_ | refine rm ?_ | refine ra ?_ | refine rs ?_ | refine rt ?_ | refine rf ?_ | refine rp ?_ | refine rq ?_ | refine rl ?_ | refine ri ?_ | refine rx ?_ | refine ry ?_) | refine aw_rseq ?_ | refine aw_seq ?_ | refine aw_region ?_ | refine aw_skip ?_ | refine ct ?_ | refine cf ?_ | refine d0s ?_ | refine d0r ?_ | refine aw_block ?_ | refine aw_exit ?_ | refine then_ret ?_ | refine then_exit ?_ | refine then_normal ?_ | refine blk_ret ?_ | refine blk_normal ?_ | refine blk_exit ?_ | refine blk_pass rfl ?_))
    ((try refine aw_ret ?_); (repeat (first | refine then_ret ?_ | refine blk_ret ?_)); refine fin_t True.intro rfl rfl ?_)
    exact ⟨rfl, rfl⟩
theorem index_s (xs : List Int) (x : Int) (hl : xs.length ≤ 9223372036854775807) : PS Try.prog 49 [ints xs, .i x] (.i (idxOf (fun y => decide (x = y)) xs)) := by
  refine ps_in TYok Try.func49 (by kernel_rfl) Try.ntmps49 rfl rfl rfl (cl_i _) fun H => ?_
  (repeat' (first | (refine sq_id ?_; first | refine sq_nil ?_ | refine sm ?_ | refine sa ?_ | refine ss ?_ | refine st ?_ | refine sf ?_ | refine sp ?_ | refine sq ?_ | refine sl ?_ | refine si ?_ | refine sx ?_ | refine sy ?_) | (refine rg_id ?_; first | refine rg_fin ?_ | refine rm ?_ | refine ra ?_ | refine rs ?_ | refine rt ?_ | refine rf ?_ | refine rp ?_ | refine rq ?_ | refine rl ?_ | refine ri ?_ | refine rx ?_ | refine ry ?_) | refine aw_rseq ?_ | refine aw_seq ?_ | refine aw_region ?_ | refine aw_skip ?_ | refine ct ?_ | refine cf ?_ | refine d0s ?_ | refine d0r ?_ | refine aw_block ?_ | refine aw_exit ?_ | refine then_ret ?_ | refine then_exit ?_ | refine then_normal ?_ | refine blk_ret ?_ | refine blk_normal ?_ | refine blk_exit ?_ | refine blk_pass rfl ?_))
  refine aw_for [0, 1, 7, 8] (fun k : Nat => [(0, ints xs), (1, .i x), (7, .i xs.length), (8, .i k)]) (fun k H' => k ≤ xs.length ∧ H' = H ∧ ∀ y ∈ xs.take k, decide (x = y) = false) (fun k => xs.length - k) 0 rfl ⟨by omega, rfl, by simp⟩ ?_
  rintro k H1 ⟨hk, rfl, hn⟩
  by_cases h : k < xs.length
  · obtain ⟨i1, i2⟩ := idxOf_app (fun y => decide (x = y)) xs k h hn
    by_cases he : x = xs.getD k 0
    · have he' : x = xs.getD (badd 0 k) 0 := he
      (repeat' (first | (refine sq_id ?_; first | refine sq_nil ?_ | refine sm ?_ | refine sa ?_ | refine ss ?_ | refine st ?_ | refine sf ?_ | refine sp ?_ | refine sq ?_ | refine sl ?_ | refine si ?_ | refine sx ?_ | refine sy ?_) | (refine rg_id ?_; first | refine rg_fin ?_ | refine rm ?_ | refine ra ?_ | refine rs ?_ | refine rt ?_ | refine rf ?_ | refine rp ?_ | refine rq ?_ | refine rl ?_ | refine ri ?_ | refine rx ?_ | refine ry ?_) | refine aw_rseq ?_ | refine aw_seq ?_ | refine aw_region ?_ | refine aw_skip ?_ | refine ct ?_ | refine cf ?_ | refine d0s ?_ | refine d0r ?_ | refine aw_block ?_ | refine aw_exit ?_ | refine then_ret ?_ | refine then_exit ?_ | refine then_normal ?_ | refine blk_ret ?_ | refine blk_normal ?_ | refine blk_exit ?_ | refine blk_pass rfl ?_))
      ((try refine aw_ret ?_); (repeat (first | refine then_ret ?_ | refine blk_ret ?_)); refine fin_t True.intro rfl rfl ?_)
      rw [i1 (decide_eq_true he)]
      exact ⟨.refl _, rfl⟩
    · have he' : ¬ x = xs.getD (badd 0 k) 0 := he
      (repeat' (first | (refine sq_id ?_; first | refine sq_nil ?_ | refine sm ?_ | refine sa ?_ | refine ss ?_ | refine st ?_ | refine sf ?_ | refine sp ?_ | refine sq ?_ | refine sl ?_ | refine si ?_ | refine sx ?_ | refine sy ?_) | (refine rg_id ?_; first | refine rg_fin ?_ | refine rm ?_ | refine ra ?_ | refine rs ?_ | refine rt ?_ | refine rf ?_ | refine rp ?_ | refine rq ?_ | refine rl ?_ | refine ri ?_ | refine rx ?_ | refine ry ?_) | refine aw_rseq ?_ | refine aw_seq ?_ | refine aw_region ?_ | refine aw_skip ?_ | refine ct ?_ | refine cf ?_ | refine d0s ?_ | refine d0r ?_ | refine aw_block ?_ | refine aw_exit ?_ | refine then_ret ?_ | refine then_exit ?_ | refine then_normal ?_ | refine blk_ret ?_ | refine blk_normal ?_ | refine blk_exit ?_ | refine blk_pass rfl ?_))
      exact ⟨k + 1, by rw [rstf_eq]; rfl, ⟨by omega, rfl, i2 (decide_eq_false he)⟩, by omega⟩
  · rw [List.take_of_length_le (by omega)] at hn
    (repeat' (first | (refine sq_id ?_; first | refine sq_nil ?_ | refine sm ?_ | refine sa ?_ | refine ss ?_ | refine st ?_ | refine sf ?_ | refine sp ?_ | refine sq ?_ | refine sl ?_ | refine si ?_ | refine sx ?_ | refine sy ?_) | (refine rg_id ?_; first | refine rg_fin ?_ | refine rm ?_ | refine ra ?_ | refine rs ?_ | refine rt ?_ | refine rf ?_ | refine rp ?_ | refine rq ?_ | refine rl ?_ | refine ri ?_ | refine rx ?_ | refine ry ?_) | refine aw_rseq ?_ | refine aw_seq ?_ | refine aw_region ?_ | refine aw_skip ?_ | refine ct ?_ | refine cf ?_ | refine d0s ?_ | refine d0r ?_ | refine aw_block ?_ | refine aw_exit ?_ | refine then_ret ?_ | refine then_exit ?_ | refine then_normal ?_ | refine blk_ret ?_ | refine blk_normal ?_ | refine blk_exit ?_ | refine blk_pass rfl ?_))
    ((try refine aw_ret ?_); (repeat (first | refine then_ret ?_ | refine blk_ret ?_)); refine fin_t True.intro rfl rfl ?_)
    rw [idxOf_none _ xs hn]
    exact ⟨.refl _, rfl⟩
theorem contains_s (xs : List Int) (x : Int) (hl : xs.length ≤ 9223372036854775807) : PS Try.prog 36 [ints xs, .i x] (.b (decide (x ∈ xs))) := by
  have hi := index_s xs x hl
  have e : decide (x ∈ xs) = decide (0 ≤ idxOf (fun y => decide (x = y)) xs) := by
    rw [idxOf_any, Bool.eq_iff_iff, decide_eq_true_iff, List.any_eq_true]
    exact ⟨fun h => ⟨x, h, decide_eq_true rfl⟩, fun ⟨y, hy, h⟩ => of_decide_eq_true h ▸ hy⟩
  rw [e]
  refine ps_in TYok Try.func36 (by kernel_rfl) Try.ntmps36 rfl rfl rfl (cl_b _) fun H => ?_
  (repeat' (first | (refine sq_id ?_; first | refine sq_nil ?_ | refine sm ?_ | refine sa ?_ | refine ss ?_ | refine st ?_ | refine sf ?_ | refine sp ?_ | refine sq ?_ | refine sl ?_ | refine si ?_ | refine sx ?_ | refine sy ?_ | refine sq_ps rfl rfl rfl hi (LeL.refl _) ?_) | (refine rg_id ?_; first | refine rg_fin ?_ | refine rm ?_ | refine ra ?_ | refine rs ?_ | refine rt ?_ | refine rf ?_ | refine rp ?_ | refine rq ?_ | refine rl ?_ | refine ri ?_ | refine rx ?_ | refine ry ?_ | refine sq_ps rfl rfl rfl hi (LeL.refl _) ?_) | refine aw_rseq ?_ | refine aw_seq ?_ | refine aw_region ?_ | refine aw_skip ?_ | refine ct ?_ | refine cf ?_ | refine d0s ?_ | refine d0r ?_ | refine aw_block ?_ | refine aw_exit ?_ | refine then_ret ?_ | refine then_exit ?_ | refine then_normal ?_ | refine blk_ret ?_ | refine blk_normal ?_ | refine blk_exit ?_ | refine blk_pass rfl ?_ | refine sq_ps rfl rfl rfl hi (LeL.refl _) ?_))
  ((try refine aw_ret ?_); (repeat (first | refine then_ret ?_ | refine blk_ret ?_)); refine fin_t True.intro rfl rfl ?_)
  exact ⟨.refl _, rfl⟩
end Go.Proofs.Ytmhepmocnnlhnaa.Ab
