/- The document's own: Retire. -/
import Derived.Test.YtmhepmocnnlhnaaQR
namespace Go.Proofs.Ytmhepmocnnlhnaa.Ab
open Go Go.RowKit
theorem Oth.newx {H G G' : AH} {x : Option Nat} (hE : Oth H G none) (ho : Oth G G' x) (hx : ∀ i, x = some i → H.length ≤ i) : Oth H G' none := by
  cases x with
  | none => exact hE.trans0 ho
  | some i => exact hE.new ho (hx i rfl)
theorem one_last (n : Int) {j : Nat} (h : j = 0) : (([AV.i n] : List AV).drop (j * 1)).take 1 = [AV.i (([n] : List Int).getD j 0)] := by
  subst h
  rfl
section
variable {P : Program} {T : TT} {q : Bool} {n k0 : Nat} {ops : Array Oper} {os : List Oper} {K : AF → AH → Prop} {F : AF} {H : AH} {d : Nat} {ty : TypeId} {pos : String} {after : Array Edge} {gd : Option (Nat × Bool)}
theorem sq_remk (hT : TTok P T) (hz : TTz T) {bt yt : TypeId} {x y : Operand} {a b k : Int} (hg : gst ops F gd = some true) (hd : dok n (some d) = true) (hx : aev F x = .p (.int .i64 a)) (hy : aev F y = .p (.int .i64 b)) (h0 : 0 ≤ a ∧ 0 < b) (hk : a % b = k) (h : SQ P q n k0 ops os K ((d, .p (.int .i64 k)) :: F) H) :
    SQ P q n k0 ops (⟨some d, .binOp .rem bt x y yt, ty, pos, after, gd⟩ :: os) K F H := by
  subst hk
  exact sq_pure hT hz false (c := 0 ≤ a ∧ 0 < b) (v := .p (.int .i64 (a % b))) hg (by simp only [aop, hx, hy, abin, cond_false]) hd h0 h
end
theorem allL_mem (e : Ep) (n : Int) : n ∈ allL e ↔ n ∈ nodesL e := (allL_perm e).mem_iff
theorem allL_len (e : Ep) : (allL e).length = (nodesL e).length := (allL_perm e).length_eq
/-- how the document's own goes on behind its checks -/
theorem retireE_err {e : Ep} {i n : Int} (h : RightE e ∧ 0 ≤ i ∧ i < e.pins.length) {er : Int} (he : retErr e (e.pins.getD i.toNat 0) n = er) (hn : er ≠ 0) : retireE e i n = (e, er) := by
  unfold retireE
  rw [if_pos h, he, if_neg hn]
theorem retireE_ok {e : Ep} {i n : Int} (h : RightE e ∧ 0 ≤ i ∧ i < e.pins.length) (he : retErr e (e.pins.getD i.toNat 0) n = 0) : retireE e i n = (addL e (e.now % 3) n, 0) := by
  unfold retireE
  rw [if_pos h, if_pos he]
set_option maxHeartbeats 8000000 in
theorem refretire_s (e : Ep) (hbd : Bd e) (i n : Int) : PS Try.prog 19 [epv e, .i i, .i n] (eres (retireE e i n)) := by
  refine ps_frz (cl_eres _) fun H => ?_
  have hW := wrong_s e hbd i
  have hNd := refnode_s n
  have hAl := refall_s e hbd
  have hbd' := hbd
  obtain ⟨hbd1, hbd2⟩ := hbd'
  refine sc_in TYok Try.func19 (by kernel_rfl) Try.ntmps19 rfl rfl rfl ?_
  refine aw_seq ?_
  refine aw_region ?_
  refine nw fun H1 hb1 ho1 hl1 => ?_
  refine nw fun H2 hb2 ho2 hl2 => ?_
  have hb12 := ho2.get0 hb1
  (repeat' (first | (refine sq_id ?_; first | refine sq_nil ?_ | refine sm ?_ | refine sa ?_ | refine ss ?_ | refine st ?_ | refine sf ?_ | refine sp ?_ | refine sq ?_ | refine sl ?_ | refine si ?_ | refine sx ?_ | refine sy ?_) | (refine rg_id ?_; first | refine rg_fin ?_ | refine rm ?_ | refine ra ?_ | refine rs ?_ | refine rt ?_ | refine rf ?_ | refine rp ?_ | refine rq ?_ | refine rl ?_ | refine ri ?_ | refine rx ?_ | refine ry ?_) | refine aw_rseq ?_ | refine aw_seq ?_ | refine aw_region ?_ | refine aw_skip ?_ | refine ct ?_ | refine cf ?_ | refine d0s ?_ | refine d0r ?_ | refine aw_block ?_ | refine aw_exit ?_ | refine then_ret ?_ | refine then_exit ?_ | refine then_normal ?_ | refine blk_ret ?_ | refine blk_normal ?_ | refine blk_exit ?_ | refine blk_pass rfl ?_))
  refine sq_call rfl rfl rfl (LeL.refl _) ((refown_s e hbd H2).mono fun r H3 he => ?_)
  obtain ⟨ho3, a0, a1, a2, a3, a4, rfl, hO⟩ := he
  have hids := hO.ids
  have hl3 := ho3.1
  refine nw fun H4 hb4 ho4 hl4 => ?_
  refine sw hb4 fun H5 hb5 ho5 hl5 => ?_
  refine sq_nil ?_
  refine aw_norm H3.length (ebk (cells5 e.now a0 a1 a2 a3 a4)) hb5 rfl rfl rfl (one_of rfl rfl) fun H6 hb6 ho6 hl6 => ?_
  have hE6 : Oth H H6 none := ((((ho1.trans0 ho2).trans0 ho3).trans0 ho4).new ho5 (by omega)).new ho6 (by omega)
  have hb16 := ho6.get (ho5.get (ho4.get0 (ho3.get0 hb12)) (by simp; omega)) (by simp; omega)
  have hr6 := ho6.get (ho5.get (ho4.get0 (ho3.get0 hb2)) (by simp; omega)) (by simp; omega)
  have hO6 : Own5 H2.length H6 e a0 a1 a2 a3 a4 := ((hO.keepO ho4 (fun _ _ _ _ => by simp)).keepO ho5 (fun a ha i hi => by have := hids a ha i hi; simp; omega)).keepO ho6 (fun a ha i hi => by have := hids a ha i hi; simp; omega)

  by_cases hok : RightE e ∧ 0 ≤ i ∧ i < e.pins.length
  · have hok1 := hok
    rw [decide_eq_true hok1] at hW
    obtain ⟨hr, i0, i1⟩ := hok
    obtain ⟨⟨n0, n1⟩, _⟩ := hr
    obtain ⟨j, rfl⟩ := Int.eq_ofNat_of_zero_le i0
    have hj : j < e.pins.length := by omega
    by_cases hnp : nodeP n
    · rw [decide_eq_true hnp] at hNd
      by_cases hp : e.pins.getD j 0 = 0
      · have hp' : e.pins.getD (badd 0 j) 0 = 0 := hp
        rw [retireE_err hok1 (er := 42) (by unfold retErr; rw [Int.toNat_natCast, if_neg (fun k => k hnp), if_pos hp]) (by decide)]
        (repeat' (first | (refine sq_id ?_; first | refine sq_nil ?_ | refine sm ?_ | refine sa ?_ | refine ss ?_ | refine st ?_ | refine sf ?_ | refine sp ?_ | refine sq ?_ | refine sl ?_ | refine si ?_ | refine sx ?_ | refine sy ?_ | refine sc hW ?_ | refine sc hNd ?_ | refine sc hAl ?_ | refine sq_load (v := .agg (cells5 e.now a0 a1 a2 a3 a4)) TYok rfl rfl rfl hb6 rfl Nat.zero_lt_one (apart_ep _ rfl) ?_) | (refine rg_id ?_; first | refine rg_fin ?_ | refine rm ?_ | refine ra ?_ | refine rs ?_ | refine rt ?_ | refine rf ?_ | refine rp ?_ | refine rq ?_ | refine rl ?_ | refine ri ?_ | refine rx ?_ | refine ry ?_ | refine sc hW ?_ | refine sc hNd ?_ | refine sc hAl ?_ | refine sq_load (v := .agg (cells5 e.now a0 a1 a2 a3 a4)) TYok rfl rfl rfl hb6 rfl Nat.zero_lt_one (apart_ep _ rfl) ?_) | refine aw_rseq ?_ | refine aw_seq ?_ | refine aw_region ?_ | refine aw_skip ?_ | refine ct ?_ | refine cf ?_ | refine d0s ?_ | refine d0r ?_ | refine aw_block ?_ | refine aw_exit ?_ | refine then_ret ?_ | refine then_exit ?_ | refine then_normal ?_ | refine blk_ret ?_ | refine blk_normal ?_ | refine blk_exit ?_ | refine blk_pass rfl ?_ | refine sc hW ?_ | refine sc hNd ?_ | refine sc hAl ?_ | refine sq_load (v := .agg (cells5 e.now a0 a1 a2 a3 a4)) TYok rfl rfl rfl hb6 rfl Nat.zero_lt_one (apart_ep _ rfl) ?_))
        refine sw hr6 fun H8 hb8 ho8 hl8 => ?_
        (repeat' (first | (refine sq_id ?_; first | refine sq_nil ?_ | refine sm ?_ | refine sa ?_ | refine ss ?_ | refine st ?_ | refine sf ?_ | refine sp ?_ | refine sq ?_ | refine sl ?_ | refine si ?_ | refine sx ?_ | refine sy ?_) | (refine rg_id ?_; first | refine rg_fin ?_ | refine rm ?_ | refine ra ?_ | refine rs ?_ | refine rt ?_ | refine rf ?_ | refine rp ?_ | refine rq ?_ | refine rl ?_ | refine ri ?_ | refine rx ?_ | refine ry ?_) | refine aw_rseq ?_ | refine aw_seq ?_ | refine aw_region ?_ | refine aw_skip ?_ | refine ct ?_ | refine cf ?_ | refine d0s ?_ | refine d0r ?_ | refine aw_block ?_ | refine aw_exit ?_ | refine then_ret ?_ | refine then_exit ?_ | refine then_normal ?_ | refine blk_ret ?_ | refine blk_normal ?_ | refine blk_exit ?_ | refine blk_pass rfl ?_ | refine aw_dec rfl (fun _ => ?_) (fun _ => ?_)))
        ((try refine aw_ret ?_); (repeat (first | refine then_ret ?_ | refine blk_ret ?_)))
        exact ⟨True.intro, _, .cell _ _ _ _ _ _ _ _ _ rfl hb8 rfl Nat.zero_lt_one (by show apart TY _ (splice _ 0 (cells5 e.now a0 a1 a2 a3 a4)) = _; rw [splice_all (by rfl)]; exact apart_ep _ rfl) (.tmp _ _ _ .nil), fin_ref hE6 hO6 ho8 (by omega) (by omega)⟩
      have hp' : ¬ e.pins.getD (badd 0 j) 0 = 0 := hp
      have hlL := allL_len e
      have hln := nodesL_len e
      have hmL := allL_mem e n
      have hE1 : n ∈ nodesL e → retErr e (e.pins.getD (j : Int).toNat 0) n = 41 := fun h => by unfold retErr; rw [Int.toNat_natCast, if_neg (fun k => k hnp), if_neg hp, if_pos h]
      have hE2 : n ∉ nodesL e → retErr e (e.pins.getD (j : Int).toNat 0) n = if 1000 ≤ (nodesL e).length then 40 else 0 := fun h => by unfold retErr; rw [Int.toNat_natCast, if_neg (fun k => k hnp), if_neg hp, if_neg h]
      rw [← hlL] at hE2
      rw [← hmL] at hE1 hE2
      generalize allL e = L at *
      (repeat' (first | (refine sq_id ?_; first | refine sq_nil ?_ | refine sm ?_ | refine sa ?_ | refine ss ?_ | refine st ?_ | refine sf ?_ | refine sp ?_ | refine sq ?_ | refine sl ?_ | refine si ?_ | refine sx ?_ | refine sy ?_ | refine sc hW ?_ | refine sc hNd ?_ | refine sc hAl ?_) | (refine rg_id ?_; first | refine rg_fin ?_ | refine rm ?_ | refine ra ?_ | refine rs ?_ | refine rt ?_ | refine rf ?_ | refine rp ?_ | refine rq ?_ | refine rl ?_ | refine ri ?_ | refine rx ?_ | refine ry ?_ | refine sc hW ?_ | refine sc hNd ?_ | refine sc hAl ?_) | refine aw_rseq ?_ | refine aw_seq ?_ | refine aw_region ?_ | refine aw_skip ?_ | refine ct ?_ | refine cf ?_ | refine d0s ?_ | refine d0r ?_ | refine aw_block ?_ | refine aw_exit ?_ | refine then_ret ?_ | refine then_exit ?_ | refine then_normal ?_ | refine blk_ret ?_ | refine blk_normal ?_ | refine blk_exit ?_ | refine blk_pass rfl ?_ | refine sc hW ?_ | refine sc hNd ?_ | refine sc hAl ?_))
      refine aw_for [2, 3, 6, 8, 9, 10] (fun k : Nat => [(2, .i n), (3, .ref H.length 6 0 0), (6, .ref H1.length 6 0 0), (8, .ref H3.length 6 0 0), (9, ints L), (10, .i k)]) (fun k H' => k ≤ L.length ∧ H' = H6 ∧ ∀ x ∈ L.take k, x ≠ n) (fun k => L.length - k) 0 (by rw [rstf_eq]; rfl) ⟨by omega, rfl, by simp⟩ ?_
      rintro k Hx ⟨hk, rfl, hne⟩
      by_cases hkl : k < L.length
      · by_cases heq : L.getD k 0 = n
        · have heq' : L.getD (badd 0 k) 0 = n := heq
          rw [retireE_err hok1 (hE1 (heq ▸ mem_getD L 0 k hkl)) (by decide)]
          (repeat' (first | (refine sq_id ?_; first | refine sq_nil ?_ | refine sm ?_ | refine sa ?_ | refine ss ?_ | refine st ?_ | refine sf ?_ | refine sp ?_ | refine sq ?_ | refine sl ?_ | refine si ?_ | refine sx ?_ | refine sy ?_ | refine sc hW ?_ | refine sc hNd ?_ | refine sc hAl ?_ | refine sq_load (v := .agg (cells5 e.now a0 a1 a2 a3 a4)) TYok rfl rfl rfl hb6 rfl Nat.zero_lt_one (apart_ep _ rfl) ?_) | (refine rg_id ?_; first | refine rg_fin ?_ | refine rm ?_ | refine ra ?_ | refine rs ?_ | refine rt ?_ | refine rf ?_ | refine rp ?_ | refine rq ?_ | refine rl ?_ | refine ri ?_ | refine rx ?_ | refine ry ?_ | refine sc hW ?_ | refine sc hNd ?_ | refine sc hAl ?_ | refine sq_load (v := .agg (cells5 e.now a0 a1 a2 a3 a4)) TYok rfl rfl rfl hb6 rfl Nat.zero_lt_one (apart_ep _ rfl) ?_) | refine aw_rseq ?_ | refine aw_seq ?_ | refine aw_region ?_ | refine aw_skip ?_ | refine ct ?_ | refine cf ?_ | refine d0s ?_ | refine d0r ?_ | refine aw_block ?_ | refine aw_exit ?_ | refine then_ret ?_ | refine then_exit ?_ | refine then_normal ?_ | refine blk_ret ?_ | refine blk_normal ?_ | refine blk_exit ?_ | refine blk_pass rfl ?_ | refine sc hW ?_ | refine sc hNd ?_ | refine sc hAl ?_ | refine sq_load (v := .agg (cells5 e.now a0 a1 a2 a3 a4)) TYok rfl rfl rfl hb6 rfl Nat.zero_lt_one (apart_ep _ rfl) ?_))
          refine sw hr6 fun H8 hb8 ho8 hl8 => ?_
          (repeat' (first | (refine sq_id ?_; first | refine sq_nil ?_ | refine sm ?_ | refine sa ?_ | refine ss ?_ | refine st ?_ | refine sf ?_ | refine sp ?_ | refine sq ?_ | refine sl ?_ | refine si ?_ | refine sx ?_ | refine sy ?_) | (refine rg_id ?_; first | refine rg_fin ?_ | refine rm ?_ | refine ra ?_ | refine rs ?_ | refine rt ?_ | refine rf ?_ | refine rp ?_ | refine rq ?_ | refine rl ?_ | refine ri ?_ | refine rx ?_ | refine ry ?_) | refine aw_rseq ?_ | refine aw_seq ?_ | refine aw_region ?_ | refine aw_skip ?_ | refine ct ?_ | refine cf ?_ | refine d0s ?_ | refine d0r ?_ | refine aw_block ?_ | refine aw_exit ?_ | refine then_ret ?_ | refine then_exit ?_ | refine then_normal ?_ | refine blk_ret ?_ | refine blk_normal ?_ | refine blk_exit ?_ | refine blk_pass rfl ?_ | refine aw_dec rfl (fun _ => ?_) (fun _ => ?_)))
          ((try refine aw_ret ?_); (repeat (first | refine then_ret ?_ | refine blk_ret ?_)))
          exact ⟨True.intro, _, .cell _ _ _ _ _ _ _ _ _ rfl hb8 rfl Nat.zero_lt_one (by show apart TY _ (splice _ 0 (cells5 e.now a0 a1 a2 a3 a4)) = _; rw [splice_all (by rfl)]; exact apart_ep _ rfl) (.tmp _ _ _ .nil), fin_ref hE6 hO6 ho8 (by omega) (by omega)⟩
        · have heq' : ¬ L.getD (badd 0 k) 0 = n := heq
          (repeat' (first | (refine sq_id ?_; first | refine sq_nil ?_ | refine sm ?_ | refine sa ?_ | refine ss ?_ | refine st ?_ | refine sf ?_ | refine sp ?_ | refine sq ?_ | refine sl ?_ | refine si ?_ | refine sx ?_ | refine sy ?_) | (refine rg_id ?_; first | refine rg_fin ?_ | refine rm ?_ | refine ra ?_ | refine rs ?_ | refine rt ?_ | refine rf ?_ | refine rp ?_ | refine rq ?_ | refine rl ?_ | refine ri ?_ | refine rx ?_ | refine ry ?_) | refine aw_rseq ?_ | refine aw_seq ?_ | refine aw_region ?_ | refine aw_skip ?_ | refine ct ?_ | refine cf ?_ | refine d0s ?_ | refine d0r ?_ | refine aw_block ?_ | refine aw_exit ?_ | refine then_ret ?_ | refine then_exit ?_ | refine then_normal ?_ | refine blk_ret ?_ | refine blk_normal ?_ | refine blk_exit ?_ | refine blk_pass rfl ?_))
          exact ⟨k + 1, by rw [rstf_eq]; rfl, ⟨by omega, rfl, fun x hx => by
            rw [List.take_add_one, List.getElem?_eq_getElem hkl] at hx
            rcases List.mem_append.1 hx with h | h
            · exact hne x h
            · simp at h
              rw [h]
              rw [List.getD_eq_getElem?_getD, List.getElem?_eq_getElem hkl] at heq
              exact heq⟩, by omega⟩
      · rw [List.take_of_length_le (by omega)] at hne
        have hnm : n ∉ L := fun h => hne n h rfl
        by_cases hfull : 1000 ≤ L.length
        · rw [retireE_err hok1 ((hE2 hnm).trans (if_pos hfull)) (by decide)]
          (repeat' (first | (refine sq_id ?_; first | refine sq_nil ?_ | refine sm ?_ | refine sa ?_ | refine ss ?_ | refine st ?_ | refine sf ?_ | refine sp ?_ | refine sq ?_ | refine sl ?_ | refine si ?_ | refine sx ?_ | refine sy ?_ | refine sc hW ?_ | refine sc hNd ?_ | refine sc hAl ?_ | refine sq_load (v := .agg (cells5 e.now a0 a1 a2 a3 a4)) TYok rfl rfl rfl hb6 rfl Nat.zero_lt_one (apart_ep _ rfl) ?_) | (refine rg_id ?_; first | refine rg_fin ?_ | refine rm ?_ | refine ra ?_ | refine rs ?_ | refine rt ?_ | refine rf ?_ | refine rp ?_ | refine rq ?_ | refine rl ?_ | refine ri ?_ | refine rx ?_ | refine ry ?_ | refine sc hW ?_ | refine sc hNd ?_ | refine sc hAl ?_ | refine sq_load (v := .agg (cells5 e.now a0 a1 a2 a3 a4)) TYok rfl rfl rfl hb6 rfl Nat.zero_lt_one (apart_ep _ rfl) ?_) | refine aw_rseq ?_ | refine aw_seq ?_ | refine aw_region ?_ | refine aw_skip ?_ | refine ct ?_ | refine cf ?_ | refine d0s ?_ | refine d0r ?_ | refine aw_block ?_ | refine aw_exit ?_ | refine then_ret ?_ | refine then_exit ?_ | refine then_normal ?_ | refine blk_ret ?_ | refine blk_normal ?_ | refine blk_exit ?_ | refine blk_pass rfl ?_ | refine sc hW ?_ | refine sc hNd ?_ | refine sc hAl ?_ | refine sq_load (v := .agg (cells5 e.now a0 a1 a2 a3 a4)) TYok rfl rfl rfl hb6 rfl Nat.zero_lt_one (apart_ep _ rfl) ?_))
          refine sw hr6 fun H8 hb8 ho8 hl8 => ?_
          (repeat' (first | (refine sq_id ?_; first | refine sq_nil ?_ | refine sm ?_ | refine sa ?_ | refine ss ?_ | refine st ?_ | refine sf ?_ | refine sp ?_ | refine sq ?_ | refine sl ?_ | refine si ?_ | refine sx ?_ | refine sy ?_) | (refine rg_id ?_; first | refine rg_fin ?_ | refine rm ?_ | refine ra ?_ | refine rs ?_ | refine rt ?_ | refine rf ?_ | refine rp ?_ | refine rq ?_ | refine rl ?_ | refine ri ?_ | refine rx ?_ | refine ry ?_) | refine aw_rseq ?_ | refine aw_seq ?_ | refine aw_region ?_ | refine aw_skip ?_ | refine ct ?_ | refine cf ?_ | refine d0s ?_ | refine d0r ?_ | refine aw_block ?_ | refine aw_exit ?_ | refine then_ret ?_ | refine then_exit ?_ | refine then_normal ?_ | refine blk_ret ?_ | refine blk_normal ?_ | refine blk_exit ?_ | refine blk_pass rfl ?_ | refine aw_dec rfl (fun _ => ?_) (fun _ => ?_)))
          ((try refine aw_ret ?_); (repeat (first | refine then_ret ?_ | refine blk_ret ?_)))
          exact ⟨True.intro, _, .cell _ _ _ _ _ _ _ _ _ rfl hb8 rfl Nat.zero_lt_one (by show apart TY _ (splice _ 0 (cells5 e.now a0 a1 a2 a3 a4)) = _; rw [splice_all (by rfl)]; exact apart_ep _ rfl) (.tmp _ _ _ .nil), fin_ref hE6 hO6 ho8 (by omega) (by omega)⟩
        have hre := retireE_ok hok1 ((hE2 hnm).trans (if_neg hfull))
        rw [hre]
        clear hE1 hE2 hre hW hNd hAl
        (repeat' (first | (refine sq_id ?_; first | refine sq_nil ?_ | refine sm ?_ | refine sa ?_ | refine ss ?_ | refine st ?_ | refine sf ?_ | refine sp ?_ | refine sq ?_ | refine sl ?_ | refine si ?_ | refine sx ?_ | refine sy ?_ | fail) | (refine rg_id ?_; first | refine rg_fin ?_ | refine rm ?_ | refine ra ?_ | refine rs ?_ | refine rt ?_ | refine rf ?_ | refine rp ?_ | refine rq ?_ | refine rl ?_ | refine ri ?_ | refine rx ?_ | refine ry ?_ | fail) | refine aw_rseq ?_ | refine aw_seq ?_ | refine aw_region ?_ | refine aw_skip ?_ | refine ct ?_ | refine cf ?_ | refine aw_block ?_ | refine aw_exit ?_ | refine then_ret ?_ | refine then_exit ?_ | refine then_normal ?_ | refine blk_ret ?_ | refine blk_normal ?_ | refine blk_exit ?_ | refine blk_pass rfl ?_ | fail))
        rcases (by omega : e.now % 3 = 0 ∨ e.now % 3 = 1 ∨ e.now % 3 = 2) with hk3 | hk3 | hk3
        · have hadd : addL e (e.now % 3) n = { e with l0 := e.l0 ++ [n] } := by unfold addL; rw [hk3]; rfl
          rw [hadd]
          refine' aw_one 11 13 [_, _, _, _, _, _, _, _, _, _, _] [_] _ _ (fun r H7 => AccL H2.length H7 r (e.l0 ++ [n]) ∧ Oth Hx H7 (accId a1) ∧ (accId r = none ∨ accId r = accId a1 ∨ ∃ x, accId r = some x ∧ Hx.length ≤ x)) rfl rfl (by kernel_rfl) (by kernel_rfl) (by kernel_rfl) rfl rfl rfl rfl ?_ ?_ ?_ ?_
          rotate_left 12
          ·
            refine fa_s (sp (sq_nil ⟨?_, rfl⟩)) ?_
            · exact rfl
            refine fa_s (sl (sq_nil ⟨?_, rfl⟩)) ?_
            · exact rfl
            refine fa_s (sq_remk TYok TYz rfl rfl rfl rfl sd hk3 (sq_nil ⟨?_, rfl⟩)) ?_
            · exact rfl
            refine fa_s (sp (sq_nil ⟨?_, rfl⟩)) ?_
            · exact rfl
            refine fa_s (sl (sq_nil ⟨?_, rfl⟩)) ?_
            · exact rfl
            refine fa_s (sq_remk TYok TYz rfl rfl rfl rfl sd hk3 (sq_nil ⟨?_, rfl⟩)) ?_
            · exact rfl
            refine fa_s (sp (sq_nil ⟨?_, rfl⟩)) ?_
            · exact rfl
            refine fa_s (sy (sq_nil ⟨?_, rfl⟩)) ?_
            · exact rfl
            refine fa_s (sq_load (v := a1) TYok rfl rfl rfl hb6 rfl Nat.zero_lt_one (apart_sl _ _) (sq_nil ⟨?_, rfl⟩)) ?_
            · exact rfl
            refine fa_s (sm (sq_nil ⟨?_, rfl⟩)) ?_
            · exact rfl
            refine fa_s (si (sq_nil ⟨?_, rfl⟩)) ?_
            · exact rfl
            refine fa_p rfl ?_
            refine fa_s (sp (sq_nil ⟨?_, rfl⟩)) ?_
            · exact rfl
            exact True.intro
          · intro o ho
            obtain rfl := Option.some.inj ho
            refine sq_appe TYok TYz rfl rfl rfl rfl rfl rfl rfl (by decide) hO6.h1.low (.lst _ _ _ _) (by show (e.l0.length + 1) * 8 ≤ _; omega) (by show e.l0.length + 1 ≤ _; omega) fun r H7 ha7 ho7 hn7 => ?_
            refine sq_nil ⟨r, rfl, ?_, ho7, .inr hn7⟩
            exact hO6.h1.grow (AccE.app (b := [n]) (ha7.ext fun j hj => by
              split
              · rfl
              · exact one_last n (by omega))) hn7 (by omega)
          · rintro r H7 ⟨har, ho7, hn7⟩
            have hni : some H3.length ≠ accId a1 := fun h => by have := (hO.ids _ (by simp) _ h.symm).2; omega
            have hni2 : some H.length ≠ accId a1 := fun h => by have := (hO.ids _ (by simp) _ h.symm).1; omega
            have hb67 := ho7.get hb6 hni
            have hb17 := ho7.get hb16 hni2
            refine fa_s (sp (sq_nil ⟨?_, rfl⟩)) ?_
            · exact rfl
            refine fa_s (sl (sq_nil ⟨?_, rfl⟩)) ?_
            · exact rfl
            refine fa_s (sq_remk TYok TYz rfl rfl rfl rfl sd hk3 (sq_nil ⟨?_, rfl⟩)) ?_
            · exact rfl
            refine fa_s (sp (sq_nil ⟨?_, rfl⟩)) ?_
            · exact rfl
            refine fa_s (sl (sq_nil ⟨?_, rfl⟩)) ?_
            · exact rfl
            refine fa_s (sq_remk TYok TYz rfl rfl rfl rfl sd hk3 (sq_nil ⟨?_, rfl⟩)) ?_
            · exact rfl
            refine fa_s (sp (sq_nil ⟨?_, rfl⟩)) ?_
            · exact rfl
            refine fa_s (sy (sq_nil ⟨?_, rfl⟩)) ?_
            · exact rfl
            refine fa_s (sq_load (v := a1) TYok rfl rfl rfl hb67 rfl Nat.zero_lt_one (apart_sl _ _) (sq_nil ⟨?_, rfl⟩)) ?_
            · exact rfl
            refine fa_s (sm (sq_nil ⟨?_, rfl⟩)) ?_
            · exact rfl
            refine fa_s (si (sq_nil ⟨?_, rfl⟩)) ?_
            · exact rfl
            refine fa_p rfl ?_
            refine fa_s (sp (sq_nil ⟨?_, rfl⟩)) ?_
            · exact rfl
            exact True.intro
          · rintro r H7 ⟨har, ho7, hn7⟩
            have hni : some H3.length ≠ accId a1 := fun h => by have := (hO.ids _ (by simp) _ h.symm).2; omega
            have hni3 : some H1.length ≠ accId a1 := fun h => by have := (hO.ids _ (by simp) _ h.symm).1; omega
            have hb67 := ho7.get hb6 hni
            have hr7 := ho7.get hr6 hni3
            refine y1 13 ?_
            refine sy ?_
            refine sq_nil ?_
            refine y1 14 ?_
            refine sq_storek TYok rfl rfl rfl hb67 rfl Nat.zero_lt_one rfl har.cells rfl (Nat.le_of_ble_eq_true rfl) fun H8 hb8 ho8 hl8 => ?_
            refine sq_nil ?_
            refine yd ?_
            refine then_normal ?_
            have hni4 : ∀ a ∈ [a0, a2, a3, a4], accId a ≠ some H3.length := fun a ha h => by have := (hO.ids _ (by simp only [List.mem_cons, List.not_mem_nil, or_false] at ha ⊢; rcases ha with rfl | rfl | rfl | rfl <;> simp) _ h).2; omega
            have hid := hO6.ids
            refine aw_norm H3.length (ebk (cells5 e.now a0 r a2 a3 a4)) hb8 rfl rfl rfl (one_of rfl rfl) fun H9 hb9 ho9 hl9 => ?_
            have hl7 := ho7.1
            have hnr : accId r ≠ some H3.length := by
              rcases hn7 with h | h | ⟨x, h, h2⟩
              · rw [h]; exact fun k => by cases k
              · rw [h]; exact fun k => hni k.symm
              · rw [h]; exact fun k => by cases k; omega
            have hO7 := hO6.r1 ho7 har hn7
            have hO8 : Own5 H2.length H9 { e with l0 := e.l0 ++ [n] } a0 r a2 a3 a4 := (hO7.keepO ho8 (fun a ha i hi => by
              have : accId a ≠ some H3.length := by
                simp only [List.mem_cons, List.not_mem_nil, or_false] at ha
                rcases ha with rfl | rfl | rfl | rfl | rfl
                all_goals first | exact hnr | exact hni4 _ (by simp)
              exact fun k => this (hi.trans k))).keepO ho9 (fun a ha i hi => by
              have : accId a ≠ some H3.length := by
                simp only [List.mem_cons, List.not_mem_nil, or_false] at ha
                rcases ha with rfl | rfl | rfl | rfl | rfl
                all_goals first | exact hnr | exact hni4 _ (by simp)
              exact fun k => this (hi.trans k))
            have hr6 := ho9.get (ho8.get hr7 (by simp; omega)) (by simp; omega)
            have hE6 : Oth H H9 none := ((hE6.newx ho7 (fun i hi => by have := (hO.ids _ (by simp) _ hi).1; omega)).new ho8 (by omega)).new ho9 (by omega)
            have hO6 := hO8
            have hb6 := hb9
            (repeat' (first | (refine sq_id ?_; first | refine sq_nil ?_ | refine sm ?_ | refine sa ?_ | refine ss ?_ | refine st ?_ | refine sf ?_ | refine sp ?_ | refine sq ?_ | refine sl ?_ | refine si ?_ | refine sx ?_ | refine sy ?_ | refine sq_load (v := .agg (cells5 e.now a0 r a2 a3 a4)) TYok rfl rfl rfl hb6 rfl Nat.zero_lt_one (apart_ep _ rfl) ?_) | (refine rg_id ?_; first | refine rg_fin ?_ | refine rm ?_ | refine ra ?_ | refine rs ?_ | refine rt ?_ | refine rf ?_ | refine rp ?_ | refine rq ?_ | refine rl ?_ | refine ri ?_ | refine rx ?_ | refine ry ?_ | refine sq_load (v := .agg (cells5 e.now a0 r a2 a3 a4)) TYok rfl rfl rfl hb6 rfl Nat.zero_lt_one (apart_ep _ rfl) ?_) | refine aw_rseq ?_ | refine aw_seq ?_ | refine aw_region ?_ | refine aw_skip ?_ | refine ct ?_ | refine cf ?_ | refine d0s ?_ | refine d0r ?_ | refine aw_block ?_ | refine aw_exit ?_ | refine then_ret ?_ | refine then_exit ?_ | refine then_normal ?_ | refine blk_ret ?_ | refine blk_normal ?_ | refine blk_exit ?_ | refine blk_pass rfl ?_ | refine sq_load (v := .agg (cells5 e.now a0 r a2 a3 a4)) TYok rfl rfl rfl hb6 rfl Nat.zero_lt_one (apart_ep _ rfl) ?_))
            refine sw hr6 fun H8 hb8 ho8 hl8 => ?_
            (repeat' (first | (refine sq_id ?_; first | refine sq_nil ?_ | refine sm ?_ | refine sa ?_ | refine ss ?_ | refine st ?_ | refine sf ?_ | refine sp ?_ | refine sq ?_ | refine sl ?_ | refine si ?_ | refine sx ?_ | refine sy ?_) | (refine rg_id ?_; first | refine rg_fin ?_ | refine rm ?_ | refine ra ?_ | refine rs ?_ | refine rt ?_ | refine rf ?_ | refine rp ?_ | refine rq ?_ | refine rl ?_ | refine ri ?_ | refine rx ?_ | refine ry ?_) | refine aw_rseq ?_ | refine aw_seq ?_ | refine aw_region ?_ | refine aw_skip ?_ | refine ct ?_ | refine cf ?_ | refine d0s ?_ | refine d0r ?_ | refine aw_block ?_ | refine aw_exit ?_ | refine then_ret ?_ | refine then_exit ?_ | refine then_normal ?_ | refine blk_ret ?_ | refine blk_normal ?_ | refine blk_exit ?_ | refine blk_pass rfl ?_ | refine aw_dec rfl (fun _ => ?_) (fun _ => ?_)))
            ((try refine aw_ret ?_); (repeat (first | refine then_ret ?_ | refine blk_ret ?_)))
            exact ⟨True.intro, _, .cell _ _ _ _ _ _ _ _ _ rfl hb8 rfl Nat.zero_lt_one (by show apart TY _ (splice _ 0 (cells5 e.now a0 r a2 a3 a4)) = _; rw [splice_all (by rfl)]; exact apart_ep _ rfl) (.tmp _ _ _ .nil), fin_ref hE6 hO6 ho8 (by omega) (by omega)⟩
        · have hadd : addL e (e.now % 3) n = { e with l1 := e.l1 ++ [n] } := by unfold addL; rw [hk3]; rfl
          rw [hadd]
          refine' aw_one 11 13 [_, _, _, _, _, _, _, _, _, _, _] [_] _ _ (fun r H7 => AccL H2.length H7 r (e.l1 ++ [n]) ∧ Oth Hx H7 (accId a2) ∧ (accId r = none ∨ accId r = accId a2 ∨ ∃ x, accId r = some x ∧ Hx.length ≤ x)) rfl rfl (by kernel_rfl) (by kernel_rfl) (by kernel_rfl) rfl rfl rfl rfl ?_ ?_ ?_ ?_
          rotate_left 12
          ·
            refine fa_s (sp (sq_nil ⟨?_, rfl⟩)) ?_
            · exact rfl
            refine fa_s (sl (sq_nil ⟨?_, rfl⟩)) ?_
            · exact rfl
            refine fa_s (sq_remk TYok TYz rfl rfl rfl rfl sd hk3 (sq_nil ⟨?_, rfl⟩)) ?_
            · exact rfl
            refine fa_s (sp (sq_nil ⟨?_, rfl⟩)) ?_
            · exact rfl
            refine fa_s (sl (sq_nil ⟨?_, rfl⟩)) ?_
            · exact rfl
            refine fa_s (sq_remk TYok TYz rfl rfl rfl rfl sd hk3 (sq_nil ⟨?_, rfl⟩)) ?_
            · exact rfl
            refine fa_s (sp (sq_nil ⟨?_, rfl⟩)) ?_
            · exact rfl
            refine fa_s (sy (sq_nil ⟨?_, rfl⟩)) ?_
            · exact rfl
            refine fa_s (sq_load (v := a2) TYok rfl rfl rfl hb6 rfl Nat.zero_lt_one (apart_sl _ _) (sq_nil ⟨?_, rfl⟩)) ?_
            · exact rfl
            refine fa_s (sm (sq_nil ⟨?_, rfl⟩)) ?_
            · exact rfl
            refine fa_s (si (sq_nil ⟨?_, rfl⟩)) ?_
            · exact rfl
            refine fa_p rfl ?_
            refine fa_s (sp (sq_nil ⟨?_, rfl⟩)) ?_
            · exact rfl
            exact True.intro
          · intro o ho
            obtain rfl := Option.some.inj ho
            refine sq_appe TYok TYz rfl rfl rfl rfl rfl rfl rfl (by decide) hO6.h2.low (.lst _ _ _ _) (by show (e.l1.length + 1) * 8 ≤ _; omega) (by show e.l1.length + 1 ≤ _; omega) fun r H7 ha7 ho7 hn7 => ?_
            refine sq_nil ⟨r, rfl, ?_, ho7, .inr hn7⟩
            exact hO6.h2.grow (AccE.app (b := [n]) (ha7.ext fun j hj => by
              split
              · rfl
              · exact one_last n (by omega))) hn7 (by omega)
          · rintro r H7 ⟨har, ho7, hn7⟩
            have hni : some H3.length ≠ accId a2 := fun h => by have := (hO.ids _ (by simp) _ h.symm).2; omega
            have hni2 : some H.length ≠ accId a2 := fun h => by have := (hO.ids _ (by simp) _ h.symm).1; omega
            have hb67 := ho7.get hb6 hni
            have hb17 := ho7.get hb16 hni2
            refine fa_s (sp (sq_nil ⟨?_, rfl⟩)) ?_
            · exact rfl
            refine fa_s (sl (sq_nil ⟨?_, rfl⟩)) ?_
            · exact rfl
            refine fa_s (sq_remk TYok TYz rfl rfl rfl rfl sd hk3 (sq_nil ⟨?_, rfl⟩)) ?_
            · exact rfl
            refine fa_s (sp (sq_nil ⟨?_, rfl⟩)) ?_
            · exact rfl
            refine fa_s (sl (sq_nil ⟨?_, rfl⟩)) ?_
            · exact rfl
            refine fa_s (sq_remk TYok TYz rfl rfl rfl rfl sd hk3 (sq_nil ⟨?_, rfl⟩)) ?_
            · exact rfl
            refine fa_s (sp (sq_nil ⟨?_, rfl⟩)) ?_
            · exact rfl
            refine fa_s (sy (sq_nil ⟨?_, rfl⟩)) ?_
            · exact rfl
            refine fa_s (sq_load (v := a2) TYok rfl rfl rfl hb67 rfl Nat.zero_lt_one (apart_sl _ _) (sq_nil ⟨?_, rfl⟩)) ?_
            · exact rfl
            refine fa_s (sm (sq_nil ⟨?_, rfl⟩)) ?_
            · exact rfl
            refine fa_s (si (sq_nil ⟨?_, rfl⟩)) ?_
            · exact rfl
            refine fa_p rfl ?_
            refine fa_s (sp (sq_nil ⟨?_, rfl⟩)) ?_
            · exact rfl
            exact True.intro
          · rintro r H7 ⟨har, ho7, hn7⟩
            have hni : some H3.length ≠ accId a2 := fun h => by have := (hO.ids _ (by simp) _ h.symm).2; omega
            have hni3 : some H1.length ≠ accId a2 := fun h => by have := (hO.ids _ (by simp) _ h.symm).1; omega
            have hb67 := ho7.get hb6 hni
            have hr7 := ho7.get hr6 hni3
            refine y1 13 ?_
            refine sy ?_
            refine sq_nil ?_
            refine y1 14 ?_
            refine sq_storek TYok rfl rfl rfl hb67 rfl Nat.zero_lt_one rfl har.cells rfl (Nat.le_of_ble_eq_true rfl) fun H8 hb8 ho8 hl8 => ?_
            refine sq_nil ?_
            refine yd ?_
            refine then_normal ?_
            have hni4 : ∀ a ∈ [a0, a1, a3, a4], accId a ≠ some H3.length := fun a ha h => by have := (hO.ids _ (by simp only [List.mem_cons, List.not_mem_nil, or_false] at ha ⊢; rcases ha with rfl | rfl | rfl | rfl <;> simp) _ h).2; omega
            have hid := hO6.ids
            refine aw_norm H3.length (ebk (cells5 e.now a0 a1 r a3 a4)) hb8 rfl rfl rfl (one_of rfl rfl) fun H9 hb9 ho9 hl9 => ?_
            have hl7 := ho7.1
            have hnr : accId r ≠ some H3.length := by
              rcases hn7 with h | h | ⟨x, h, h2⟩
              · rw [h]; exact fun k => by cases k
              · rw [h]; exact fun k => hni k.symm
              · rw [h]; exact fun k => by cases k; omega
            have hO7 := hO6.r2 ho7 har hn7
            have hO8 : Own5 H2.length H9 { e with l1 := e.l1 ++ [n] } a0 a1 r a3 a4 := (hO7.keepO ho8 (fun a ha i hi => by
              have : accId a ≠ some H3.length := by
                simp only [List.mem_cons, List.not_mem_nil, or_false] at ha
                rcases ha with rfl | rfl | rfl | rfl | rfl
                all_goals first | exact hnr | exact hni4 _ (by simp)
              exact fun k => this (hi.trans k))).keepO ho9 (fun a ha i hi => by
              have : accId a ≠ some H3.length := by
                simp only [List.mem_cons, List.not_mem_nil, or_false] at ha
                rcases ha with rfl | rfl | rfl | rfl | rfl
                all_goals first | exact hnr | exact hni4 _ (by simp)
              exact fun k => this (hi.trans k))
            have hr6 := ho9.get (ho8.get hr7 (by simp; omega)) (by simp; omega)
            have hE6 : Oth H H9 none := ((hE6.newx ho7 (fun i hi => by have := (hO.ids _ (by simp) _ hi).1; omega)).new ho8 (by omega)).new ho9 (by omega)
            have hO6 := hO8
            have hb6 := hb9
            (repeat' (first | (refine sq_id ?_; first | refine sq_nil ?_ | refine sm ?_ | refine sa ?_ | refine ss ?_ | refine st ?_ | refine sf ?_ | refine sp ?_ | refine sq ?_ | refine sl ?_ | refine si ?_ | refine sx ?_ | refine sy ?_ | refine sq_load (v := .agg (cells5 e.now a0 a1 r a3 a4)) TYok rfl rfl rfl hb6 rfl Nat.zero_lt_one (apart_ep _ rfl) ?_) | (refine rg_id ?_; first | refine rg_fin ?_ | refine rm ?_ | refine ra ?_ | refine rs ?_ | refine rt ?_ | refine rf ?_ | refine rp ?_ | refine rq ?_ | refine rl ?_ | refine ri ?_ | refine rx ?_ | refine ry ?_ | refine sq_load (v := .agg (cells5 e.now a0 a1 r a3 a4)) TYok rfl rfl rfl hb6 rfl Nat.zero_lt_one (apart_ep _ rfl) ?_) | refine aw_rseq ?_ | refine aw_seq ?_ | refine aw_region ?_ | refine aw_skip ?_ | refine ct ?_ | refine cf ?_ | refine d0s ?_ | refine d0r ?_ | refine aw_block ?_ | refine aw_exit ?_ | refine then_ret ?_ | refine then_exit ?_ | refine then_normal ?_ | refine blk_ret ?_ | refine blk_normal ?_ | refine blk_exit ?_ | refine blk_pass rfl ?_ | refine sq_load (v := .agg (cells5 e.now a0 a1 r a3 a4)) TYok rfl rfl rfl hb6 rfl Nat.zero_lt_one (apart_ep _ rfl) ?_))
            refine sw hr6 fun H8 hb8 ho8 hl8 => ?_
            (repeat' (first | (refine sq_id ?_; first | refine sq_nil ?_ | refine sm ?_ | refine sa ?_ | refine ss ?_ | refine st ?_ | refine sf ?_ | refine sp ?_ | refine sq ?_ | refine sl ?_ | refine si ?_ | refine sx ?_ | refine sy ?_) | (refine rg_id ?_; first | refine rg_fin ?_ | refine rm ?_ | refine ra ?_ | refine rs ?_ | refine rt ?_ | refine rf ?_ | refine rp ?_ | refine rq ?_ | refine rl ?_ | refine ri ?_ | refine rx ?_ | refine ry ?_) | refine aw_rseq ?_ | refine aw_seq ?_ | refine aw_region ?_ | refine aw_skip ?_ | refine ct ?_ | refine cf ?_ | refine d0s ?_ | refine d0r ?_ | refine aw_block ?_ | refine aw_exit ?_ | refine then_ret ?_ | refine then_exit ?_ | refine then_normal ?_ | refine blk_ret ?_ | refine blk_normal ?_ | refine blk_exit ?_ | refine blk_pass rfl ?_ | refine aw_dec rfl (fun _ => ?_) (fun _ => ?_)))
            ((try refine aw_ret ?_); (repeat (first | refine then_ret ?_ | refine blk_ret ?_)))
            exact ⟨True.intro, _, .cell _ _ _ _ _ _ _ _ _ rfl hb8 rfl Nat.zero_lt_one (by show apart TY _ (splice _ 0 (cells5 e.now a0 a1 r a3 a4)) = _; rw [splice_all (by rfl)]; exact apart_ep _ rfl) (.tmp _ _ _ .nil), fin_ref hE6 hO6 ho8 (by omega) (by omega)⟩
        · have hadd : addL e (e.now % 3) n = { e with l2 := e.l2 ++ [n] } := by unfold addL; rw [hk3]; rfl
          rw [hadd]
          refine' aw_one 11 13 [_, _, _, _, _, _, _, _, _, _, _] [_] _ _ (fun r H7 => AccL H2.length H7 r (e.l2 ++ [n]) ∧ Oth Hx H7 (accId a3) ∧ (accId r = none ∨ accId r = accId a3 ∨ ∃ x, accId r = some x ∧ Hx.length ≤ x)) rfl rfl (by kernel_rfl) (by kernel_rfl) (by kernel_rfl) rfl rfl rfl rfl ?_ ?_ ?_ ?_
          rotate_left 12
          ·
            refine fa_s (sp (sq_nil ⟨?_, rfl⟩)) ?_
            · exact rfl
            refine fa_s (sl (sq_nil ⟨?_, rfl⟩)) ?_
            · exact rfl
            refine fa_s (sq_remk TYok TYz rfl rfl rfl rfl sd hk3 (sq_nil ⟨?_, rfl⟩)) ?_
            · exact rfl
            refine fa_s (sp (sq_nil ⟨?_, rfl⟩)) ?_
            · exact rfl
            refine fa_s (sl (sq_nil ⟨?_, rfl⟩)) ?_
            · exact rfl
            refine fa_s (sq_remk TYok TYz rfl rfl rfl rfl sd hk3 (sq_nil ⟨?_, rfl⟩)) ?_
            · exact rfl
            refine fa_s (sp (sq_nil ⟨?_, rfl⟩)) ?_
            · exact rfl
            refine fa_s (sy (sq_nil ⟨?_, rfl⟩)) ?_
            · exact rfl
            refine fa_s (sq_load (v := a3) TYok rfl rfl rfl hb6 rfl Nat.zero_lt_one (apart_sl _ _) (sq_nil ⟨?_, rfl⟩)) ?_
            · exact rfl
            refine fa_s (sm (sq_nil ⟨?_, rfl⟩)) ?_
            · exact rfl
            refine fa_s (si (sq_nil ⟨?_, rfl⟩)) ?_
            · exact rfl
            refine fa_p rfl ?_
            refine fa_s (sp (sq_nil ⟨?_, rfl⟩)) ?_
            · exact rfl
            exact True.intro
          · intro o ho
            obtain rfl := Option.some.inj ho
            refine sq_appe TYok TYz rfl rfl rfl rfl rfl rfl rfl (by decide) hO6.h3.low (.lst _ _ _ _) (by show (e.l2.length + 1) * 8 ≤ _; omega) (by show e.l2.length + 1 ≤ _; omega) fun r H7 ha7 ho7 hn7 => ?_
            refine sq_nil ⟨r, rfl, ?_, ho7, .inr hn7⟩
            exact hO6.h3.grow (AccE.app (b := [n]) (ha7.ext fun j hj => by
              split
              · rfl
              · exact one_last n (by omega))) hn7 (by omega)
          · rintro r H7 ⟨har, ho7, hn7⟩
            have hni : some H3.length ≠ accId a3 := fun h => by have := (hO.ids _ (by simp) _ h.symm).2; omega
            have hni2 : some H.length ≠ accId a3 := fun h => by have := (hO.ids _ (by simp) _ h.symm).1; omega
            have hb67 := ho7.get hb6 hni
            have hb17 := ho7.get hb16 hni2
            refine fa_s (sp (sq_nil ⟨?_, rfl⟩)) ?_
            · exact rfl
            refine fa_s (sl (sq_nil ⟨?_, rfl⟩)) ?_
            · exact rfl
            refine fa_s (sq_remk TYok TYz rfl rfl rfl rfl sd hk3 (sq_nil ⟨?_, rfl⟩)) ?_
            · exact rfl
            refine fa_s (sp (sq_nil ⟨?_, rfl⟩)) ?_
            · exact rfl
            refine fa_s (sl (sq_nil ⟨?_, rfl⟩)) ?_
            · exact rfl
            refine fa_s (sq_remk TYok TYz rfl rfl rfl rfl sd hk3 (sq_nil ⟨?_, rfl⟩)) ?_
            · exact rfl
            refine fa_s (sp (sq_nil ⟨?_, rfl⟩)) ?_
            · exact rfl
            refine fa_s (sy (sq_nil ⟨?_, rfl⟩)) ?_
            · exact rfl
            refine fa_s (sq_load (v := a3) TYok rfl rfl rfl hb67 rfl Nat.zero_lt_one (apart_sl _ _) (sq_nil ⟨?_, rfl⟩)) ?_
            · exact rfl
            refine fa_s (sm (sq_nil ⟨?_, rfl⟩)) ?_
            · exact rfl
            refine fa_s (si (sq_nil ⟨?_, rfl⟩)) ?_
            · exact rfl
            refine fa_p rfl ?_
            refine fa_s (sp (sq_nil ⟨?_, rfl⟩)) ?_
            · exact rfl
            exact True.intro
          · rintro r H7 ⟨har, ho7, hn7⟩
            have hni : some H3.length ≠ accId a3 := fun h => by have := (hO.ids _ (by simp) _ h.symm).2; omega
            have hni3 : some H1.length ≠ accId a3 := fun h => by have := (hO.ids _ (by simp) _ h.symm).1; omega
            have hb67 := ho7.get hb6 hni
            have hr7 := ho7.get hr6 hni3
            refine y1 13 ?_
            refine sy ?_
            refine sq_nil ?_
            refine y1 14 ?_
            refine sq_storek TYok rfl rfl rfl hb67 rfl Nat.zero_lt_one rfl har.cells rfl (Nat.le_of_ble_eq_true rfl) fun H8 hb8 ho8 hl8 => ?_
            refine sq_nil ?_
            refine yd ?_
            refine then_normal ?_
            have hni4 : ∀ a ∈ [a0, a1, a2, a4], accId a ≠ some H3.length := fun a ha h => by have := (hO.ids _ (by simp only [List.mem_cons, List.not_mem_nil, or_false] at ha ⊢; rcases ha with rfl | rfl | rfl | rfl <;> simp) _ h).2; omega
            have hid := hO6.ids
            refine aw_norm H3.length (ebk (cells5 e.now a0 a1 a2 r a4)) hb8 rfl rfl rfl (one_of rfl rfl) fun H9 hb9 ho9 hl9 => ?_
            have hl7 := ho7.1
            have hnr : accId r ≠ some H3.length := by
              rcases hn7 with h | h | ⟨x, h, h2⟩
              · rw [h]; exact fun k => by cases k
              · rw [h]; exact fun k => hni k.symm
              · rw [h]; exact fun k => by cases k; omega
            have hO7 := hO6.r3 ho7 har hn7
            have hO8 : Own5 H2.length H9 { e with l2 := e.l2 ++ [n] } a0 a1 a2 r a4 := (hO7.keepO ho8 (fun a ha i hi => by
              have : accId a ≠ some H3.length := by
                simp only [List.mem_cons, List.not_mem_nil, or_false] at ha
                rcases ha with rfl | rfl | rfl | rfl | rfl
                all_goals first | exact hnr | exact hni4 _ (by simp)
              exact fun k => this (hi.trans k))).keepO ho9 (fun a ha i hi => by
              have : accId a ≠ some H3.length := by
                simp only [List.mem_cons, List.not_mem_nil, or_false] at ha
                rcases ha with rfl | rfl | rfl | rfl | rfl
                all_goals first | exact hnr | exact hni4 _ (by simp)
              exact fun k => this (hi.trans k))
            have hr6 := ho9.get (ho8.get hr7 (by simp; omega)) (by simp; omega)
            have hE6 : Oth H H9 none := ((hE6.newx ho7 (fun i hi => by have := (hO.ids _ (by simp) _ hi).1; omega)).new ho8 (by omega)).new ho9 (by omega)
            have hO6 := hO8
            have hb6 := hb9
            (repeat' (first | (refine sq_id ?_; first | refine sq_nil ?_ | refine sm ?_ | refine sa ?_ | refine ss ?_ | refine st ?_ | refine sf ?_ | refine sp ?_ | refine sq ?_ | refine sl ?_ | refine si ?_ | refine sx ?_ | refine sy ?_ | refine sq_load (v := .agg (cells5 e.now a0 a1 a2 r a4)) TYok rfl rfl rfl hb6 rfl Nat.zero_lt_one (apart_ep _ rfl) ?_) | (refine rg_id ?_; first | refine rg_fin ?_ | refine rm ?_ | refine ra ?_ | refine rs ?_ | refine rt ?_ | refine rf ?_ | refine rp ?_ | refine rq ?_ | refine rl ?_ | refine ri ?_ | refine rx ?_ | refine ry ?_ | refine sq_load (v := .agg (cells5 e.now a0 a1 a2 r a4)) TYok rfl rfl rfl hb6 rfl Nat.zero_lt_one (apart_ep _ rfl) ?_) | refine aw_rseq ?_ | refine aw_seq ?_ | refine aw_region ?_ | refine aw_skip ?_ | refine ct ?_ | refine cf ?_ | refine d0s ?_ | refine d0r ?_ | refine aw_block ?_ | refine aw_exit ?_ | refine then_ret ?_ | refine then_exit ?_ | refine then_normal ?_ | refine blk_ret ?_ | refine blk_normal ?_ | refine blk_exit ?_ | refine blk_pass rfl ?_ | refine sq_load (v := .agg (cells5 e.now a0 a1 a2 r a4)) TYok rfl rfl rfl hb6 rfl Nat.zero_lt_one (apart_ep _ rfl) ?_))
            refine sw hr6 fun H8 hb8 ho8 hl8 => ?_
            (repeat' (first | (refine sq_id ?_; first | refine sq_nil ?_ | refine sm ?_ | refine sa ?_ | refine ss ?_ | refine st ?_ | refine sf ?_ | refine sp ?_ | refine sq ?_ | refine sl ?_ | refine si ?_ | refine sx ?_ | refine sy ?_) | (refine rg_id ?_; first | refine rg_fin ?_ | refine rm ?_ | refine ra ?_ | refine rs ?_ | refine rt ?_ | refine rf ?_ | refine rp ?_ | refine rq ?_ | refine rl ?_ | refine ri ?_ | refine rx ?_ | refine ry ?_) | refine aw_rseq ?_ | refine aw_seq ?_ | refine aw_region ?_ | refine aw_skip ?_ | refine ct ?_ | refine cf ?_ | refine d0s ?_ | refine d0r ?_ | refine aw_block ?_ | refine aw_exit ?_ | refine then_ret ?_ | refine then_exit ?_ | refine then_normal ?_ | refine blk_ret ?_ | refine blk_normal ?_ | refine blk_exit ?_ | refine blk_pass rfl ?_ | refine aw_dec rfl (fun _ => ?_) (fun _ => ?_)))
            ((try refine aw_ret ?_); (repeat (first | refine then_ret ?_ | refine blk_ret ?_)))
            exact ⟨True.intro, _, .cell _ _ _ _ _ _ _ _ _ rfl hb8 rfl Nat.zero_lt_one (by show apart TY _ (splice _ 0 (cells5 e.now a0 a1 a2 r a4)) = _; rw [splice_all (by rfl)]; exact apart_ep _ rfl) (.tmp _ _ _ .nil), fin_ref hE6 hO6 ho8 (by omega) (by omega)⟩
    · rw [decide_eq_false hnp] at hNd
      rw [retireE_err hok1 (er := 1) (by unfold retErr; rw [if_pos hnp]) (by decide)]
      (repeat' (first | (refine sq_id ?_; first | refine sq_nil ?_ | refine sm ?_ | refine sa ?_ | refine ss ?_ | refine st ?_ | refine sf ?_ | refine sp ?_ | refine sq ?_ | refine sl ?_ | refine si ?_ | refine sx ?_ | refine sy ?_ | refine sc hW ?_ | refine sc hNd ?_ | refine sc hAl ?_ | refine sq_load (v := .agg (cells5 e.now a0 a1 a2 a3 a4)) TYok rfl rfl rfl hb6 rfl Nat.zero_lt_one (apart_ep _ rfl) ?_) | (refine rg_id ?_; first | refine rg_fin ?_ | refine rm ?_ | refine ra ?_ | refine rs ?_ | refine rt ?_ | refine rf ?_ | refine rp ?_ | refine rq ?_ | refine rl ?_ | refine ri ?_ | refine rx ?_ | refine ry ?_ | refine sc hW ?_ | refine sc hNd ?_ | refine sc hAl ?_ | refine sq_load (v := .agg (cells5 e.now a0 a1 a2 a3 a4)) TYok rfl rfl rfl hb6 rfl Nat.zero_lt_one (apart_ep _ rfl) ?_) | refine aw_rseq ?_ | refine aw_seq ?_ | refine aw_region ?_ | refine aw_skip ?_ | refine ct ?_ | refine cf ?_ | refine d0s ?_ | refine d0r ?_ | refine aw_block ?_ | refine aw_exit ?_ | refine then_ret ?_ | refine then_exit ?_ | refine then_normal ?_ | refine blk_ret ?_ | refine blk_normal ?_ | refine blk_exit ?_ | refine blk_pass rfl ?_ | refine sc hW ?_ | refine sc hNd ?_ | refine sc hAl ?_ | refine sq_load (v := .agg (cells5 e.now a0 a1 a2 a3 a4)) TYok rfl rfl rfl hb6 rfl Nat.zero_lt_one (apart_ep _ rfl) ?_))
      refine sw hr6 fun H8 hb8 ho8 hl8 => ?_
      (repeat' (first | (refine sq_id ?_; first | refine sq_nil ?_ | refine sm ?_ | refine sa ?_ | refine ss ?_ | refine st ?_ | refine sf ?_ | refine sp ?_ | refine sq ?_ | refine sl ?_ | refine si ?_ | refine sx ?_ | refine sy ?_) | (refine rg_id ?_; first | refine rg_fin ?_ | refine rm ?_ | refine ra ?_ | refine rs ?_ | refine rt ?_ | refine rf ?_ | refine rp ?_ | refine rq ?_ | refine rl ?_ | refine ri ?_ | refine rx ?_ | refine ry ?_) | refine aw_rseq ?_ | refine aw_seq ?_ | refine aw_region ?_ | refine aw_skip ?_ | refine ct ?_ | refine cf ?_ | refine d0s ?_ | refine d0r ?_ | refine aw_block ?_ | refine aw_exit ?_ | refine then_ret ?_ | refine then_exit ?_ | refine then_normal ?_ | refine blk_ret ?_ | refine blk_normal ?_ | refine blk_exit ?_ | refine blk_pass rfl ?_ | refine aw_dec rfl (fun _ => ?_) (fun _ => ?_)))
      ((try refine aw_ret ?_); (repeat (first | refine then_ret ?_ | refine blk_ret ?_)))
      exact ⟨True.intro, _, .cell _ _ _ _ _ _ _ _ _ rfl hb8 rfl Nat.zero_lt_one (by show apart TY _ (splice _ 0 (cells5 e.now a0 a1 a2 a3 a4)) = _; rw [splice_all (by rfl)]; exact apart_ep _ rfl) (.tmp _ _ _ .nil), fin_ref hE6 hO6 ho8 (by omega) (by omega)⟩
  · have e1 : retireE e i n = (e, 1) := if_neg hok
    rw [decide_eq_false hok] at hW
    rw [e1]
    (repeat' (first | (refine sq_id ?_; first | refine sq_nil ?_ | refine sm ?_ | refine sa ?_ | refine ss ?_ | refine st ?_ | refine sf ?_ | refine sp ?_ | refine sq ?_ | refine sl ?_ | refine si ?_ | refine sx ?_ | refine sy ?_ | refine sc hW ?_ | refine sc hNd ?_ | refine sc hAl ?_ | refine sq_load (v := .agg (cells5 e.now a0 a1 a2 a3 a4)) TYok rfl rfl rfl hb6 rfl Nat.zero_lt_one (apart_ep _ rfl) ?_) | (refine rg_id ?_; first | refine rg_fin ?_ | refine rm ?_ | refine ra ?_ | refine rs ?_ | refine rt ?_ | refine rf ?_ | refine rp ?_ | refine rq ?_ | refine rl ?_ | refine ri ?_ | refine rx ?_ | refine ry ?_ | refine sc hW ?_ | refine sc hNd ?_ | refine sc hAl ?_ | refine sq_load (v := .agg (cells5 e.now a0 a1 a2 a3 a4)) TYok rfl rfl rfl hb6 rfl Nat.zero_lt_one (apart_ep _ rfl) ?_) | refine aw_rseq ?_ | refine aw_seq ?_ | refine aw_region ?_ | refine aw_skip ?_ | refine ct ?_ | refine cf ?_ | refine d0s ?_ | refine d0r ?_ | refine aw_block ?_ | refine aw_exit ?_ | refine then_ret ?_ | refine then_exit ?_ | refine then_normal ?_ | refine blk_ret ?_ | refine blk_normal ?_ | refine blk_exit ?_ | refine blk_pass rfl ?_ | refine sc hW ?_ | refine sc hNd ?_ | refine sc hAl ?_ | refine sq_load (v := .agg (cells5 e.now a0 a1 a2 a3 a4)) TYok rfl rfl rfl hb6 rfl Nat.zero_lt_one (apart_ep _ rfl) ?_))
    refine sw hr6 fun H8 hb8 ho8 hl8 => ?_
    (repeat' (first | (refine sq_id ?_; first | refine sq_nil ?_ | refine sm ?_ | refine sa ?_ | refine ss ?_ | refine st ?_ | refine sf ?_ | refine sp ?_ | refine sq ?_ | refine sl ?_ | refine si ?_ | refine sx ?_ | refine sy ?_) | (refine rg_id ?_; first | refine rg_fin ?_ | refine rm ?_ | refine ra ?_ | refine rs ?_ | refine rt ?_ | refine rf ?_ | refine rp ?_ | refine rq ?_ | refine rl ?_ | refine ri ?_ | refine rx ?_ | refine ry ?_) | refine aw_rseq ?_ | refine aw_seq ?_ | refine aw_region ?_ | refine aw_skip ?_ | refine ct ?_ | refine cf ?_ | refine d0s ?_ | refine d0r ?_ | refine aw_block ?_ | refine aw_exit ?_ | refine then_ret ?_ | refine then_exit ?_ | refine then_normal ?_ | refine blk_ret ?_ | refine blk_normal ?_ | refine blk_exit ?_ | refine blk_pass rfl ?_ | refine aw_dec rfl (fun _ => ?_) (fun _ => ?_)))
    ((try refine aw_ret ?_); (repeat (first | refine then_ret ?_ | refine blk_ret ?_)))
    exact ⟨True.intro, _, .cell _ _ _ _ _ _ _ _ _ rfl hb8 rfl Nat.zero_lt_one (by show apart TY _ (splice _ 0 (cells5 e.now a0 a1 a2 a3 a4)) = _; rw [splice_all (by rfl)]; exact apart_ep _ rfl) (.tmp _ _ _ .nil), fin_ref hE6 hO6 ho8 (by omega) (by omega)⟩
end Go.Proofs.Ytmhepmocnnlhnaa.Ab
