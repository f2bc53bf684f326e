/- EpochWhole, walked. -/
import Derived.Test.YtmhepmocnnlhnaaQV
import Derived.Test.YtmhepmocnnlhnaaFE
import Derived.Test.YtmhepmocnnlhnaaRE
namespace Go.Proofs.Ytmhepmocnnlhnaa.Ab
open Go Go.RowKit
theorem one_last (n : Int) {j : Nat} (h : j = 0) : (([AV.i n] : List AV).drop (j * 1)).take 1 = [AV.i (([n] : List Int).getD j 0)] := by
  subst h
  rfl
theorem AccE.src {k0 : Nat} {H : AH} {v : AV} {e sz n : Nat} {g : Nat → List AV} (h : AccE k0 H v e sz n g) : ∃ g', Src H v sz n g' ∧ ∀ j, j < n → g' j = g j := by
  rcases h with (⟨rfl, rfl⟩ | ⟨id, b, _, rfl, hb, h1, h2, h3, h4⟩) | ⟨rfl, g', rfl⟩
  · exact ⟨g, .nil sz g, fun _ _ => rfl⟩
  · exact ⟨g, .arr id sz 0 n b g hb h2 (by omega) (fun j hj => by rw [Nat.zero_add]; exact (h4 j hj).symm), fun _ _ => rfl⟩
  · exact ⟨g', .lst _ _ _ _, fun j hj => by omega⟩
def wN (tk : List Int) (e : Ep) : Nat → List Int
  | 0 => tk ++ e.free
  | 1 => tk ++ e.free ++ e.l0
  | 2 => tk ++ e.free ++ e.l0 ++ e.l1
  | _ => tk ++ e.free ++ e.l0 ++ e.l1 ++ e.l2
abbrev AccN (k0 : Nat) (H : AH) (v : AV) (xs : List Int) : Prop := Acc k0 H v 3 1 xs.length (fun i => [.i (xs.getD i 0)])
theorem accN_app {k0 : Nat} {H : AH} {v : AV} {a b : List Int} (h : Acc k0 H v 3 1 (a.length + b.length) (fun j => if j < a.length then [AV.i (a.getD j 0)] else [AV.i (b.getD (j - a.length) 0)])) : AccN k0 H v (a ++ b) := by
  have := h.ext (g' := fun i => [AV.i ((a ++ b).getD i 0)]) fun j _ => app_cell a b j
  rwa [← List.length_append] at this
theorem acc_ne {k : Nat} {H : AH} {v : AV} {e sz n : Nat} {g : Nat → List AV} (h : Acc k H v e sz n g) {id : Nat} (hi : id < k) : some id ≠ accId v := by
  rcases h with ⟨_, rfl⟩ | ⟨id', b, h1, rfl, _⟩
  · exact fun h => by cases h
  · exact fun h => by cases h; omega
theorem acc_dis {k k' : Nat} {H H' : AH} {v r : AV} {e sz n e' sz' n' : Nat} {g g' : Nat → List AV} (h : Acc k H v e sz n g) (h' : Acc k' H' r e' sz' n' g') (hl : H.length ≤ k') : accId v = none ∨ accId v ≠ accId r := by
  rcases h with ⟨_, rfl⟩ | ⟨id, b, h1, rfl, hb, _⟩
  · exact .inl rfl
  · have := (List.getElem?_eq_some_iff.1 hb).1
    rcases h' with ⟨_, rfl⟩ | ⟨id', b', h1', rfl, _⟩
    · exact .inr (fun h => by cases h)
    · exact .inr (fun h => by cases h; omega)
theorem acc_new {k : Nat} {H : AH} {v : AV} {e sz n : Nat} {g : Nat → List AV} (h : Acc k H v e sz n g) : accId v = none ∨ accId v ≠ some H.length := by
  rcases h with ⟨_, rfl⟩ | ⟨id', b, h1, rfl, hb', _⟩
  · exact .inl rfl
  · exact .inr (fun h => by cases h; have := (List.getElem?_eq_some_iff.1 hb').1; omega)
set_option maxHeartbeats 32000000 in
theorem wholeH_s (H : AH) (w : Int) (L : List (Int × Int × Int)) (hw : I64 w) (hL : L.length ≤ maxLen ∧ R64 L) :
    SC true Try.prog 7 [.i w, rows3 L] H (fun r _ => r = .b true) := by
  have hA := awake_s
  obtain ⟨p, hp, hpe, hpp0, hpp1⟩ := pick_k w 5 hw (by decide)
  have hN := new_s (1 + p)
  have hW0 := Whl.new (1 + p) (by omega) (by omega)
  have hLm := hL.1
  unfold maxLen at hLm
  refine sc_in TYok Try.func7 (by kernel_rfl) Try.ntmps7 rfl rfl rfl ?_
  (repeat' (first | (refine sq_id ?_; first | refine sq_nil ?_ | refine sm ?_ | refine sa ?_ | refine ss ?_ | refine st ?_ | refine sf ?_ | refine sp ?_ | refine sq ?_ | refine sl ?_ | refine si ?_ | refine sx ?_ | refine sy ?_ | refine sc hA ?_ | refine sc hp ?_ | refine sc hN ?_) | (refine rg_id ?_; first | refine rg_fin ?_ | refine rm ?_ | refine ra ?_ | refine rs ?_ | refine rt ?_ | refine rf ?_ | refine rp ?_ | refine rq ?_ | refine rl ?_ | refine ri ?_ | refine rx ?_ | refine ry ?_ | refine sc hA ?_ | refine sc hp ?_ | refine sc hN ?_) | refine aw_rseq ?_ | refine aw_seq ?_ | refine aw_region ?_ | refine aw_skip ?_ | refine ct ?_ | refine cf ?_ | refine d0s ?_ | refine d0r ?_ | refine aw_block ?_ | refine aw_exit ?_ | refine then_ret ?_ | refine then_exit ?_ | refine then_normal ?_ | refine blk_ret ?_ | refine blk_normal ?_ | refine blk_exit ?_ | refine blk_pass rfl ?_ | refine sc hA ?_ | refine sc hp ?_ | refine sc hN ?_))
  refine nw fun H1 hb1 ho1 hl1 => ?_
  refine sw hb1 fun H2 hb2 ho2 hl2 => ?_
  (repeat' (first | (refine sq_id ?_; first | refine sq_nil ?_ | refine sm ?_ | refine sa ?_ | refine ss ?_ | refine st ?_ | refine sf ?_ | refine sp ?_ | refine sq ?_ | refine sl ?_ | refine si ?_ | refine sx ?_ | refine sy ?_) | (refine rg_id ?_; first | refine rg_fin ?_ | refine rm ?_ | refine ra ?_ | refine rs ?_ | refine rt ?_ | refine rf ?_ | refine rp ?_ | refine rq ?_ | refine rl ?_ | refine ri ?_ | refine rx ?_ | refine ry ?_) | refine aw_rseq ?_ | refine aw_seq ?_ | refine aw_region ?_ | refine aw_skip ?_ | refine ct ?_ | refine cf ?_ | refine d0s ?_ | refine d0r ?_ | refine aw_block ?_ | refine aw_exit ?_ | refine then_ret ?_ | refine then_exit ?_ | refine then_normal ?_ | refine blk_ret ?_ | refine blk_normal ?_ | refine blk_exit ?_ | refine blk_pass rfl ?_))
  refine aw_for [1, 5, 6, 7, 8, 9] (fun a : Ep × Nat × AV × List Int × Nat => [(1, rows3 L), (5, .b true), (6, .ref H.length 6 0 0), (7, .i a.2.1), (8, a.2.2.1), (9, .i a.2.2.2.2)]) (fun a H' => a.2.2.2.2 ≤ L.length ∧ a.2.2.2.2 ≤ 40 ∧ IsBox H' H.length (epc a.1) ∧ Whl a.2.2.2.2 a.2.1 a.2.2.2.1 a.1 ∧ AccN (H.length + 1) H' a.2.2.1 a.2.2.2.1) (fun a => L.length - a.2.2.2.2) (newE (1 + p), 0, .p (.slice none 0 0), [], 0) (by rw [rstf_eq]; rfl) ⟨Nat.zero_le _, Nat.zero_le _, ⟨_, hb2, rfl, rfl, rfl, rfl⟩, hW0, acc_nil _ _ _ _ _⟩ ?_
  clear hb1 hb2 ho1 ho2 hl1 hl2 hW0 hN hp
  rintro ⟨e, nx, v, tk, k⟩ Hm ⟨hk, hk40, ⟨bm, hbm, q1, q2, q3, q4⟩, hW, hv⟩
  dsimp only at hk hk40 hbm q1 q2 q3 q4 hW hv ⊢
  refine aw_norm H.length (ebk (epc e)) hbm q1.symm q2.symm q3.symm (one_of q3 q4) fun Hx hb hoy hly => ?_
  replace hv := hv.keep hoy (.inr (acc_ne hv (Nat.lt_succ_self _)).symm)
  clear hbm q1 q2 q3 q4 hoy hly bm Hm
  have hxl := (List.getElem?_eq_some_iff.1 hb).1
  have hbd := hW.right.bd
  have hnk := hW.nk
  by_cases hkl : k < L.length
  · by_cases hk4 : k < 40
    · have hx := hL.2 _ (mem_getD L (0, 0, 0) k hkl)
      obtain ⟨p1, hq1, he1, hp10, hp11⟩ := pick_k (L.getD k (0, 0, 0)).2.1 5 hx.2.1 (by decide)
      obtain ⟨p0, hq0, he0, hp00, hp01⟩ := pick_k (L.getD k (0, 0, 0)).1 8 hx.1 (by decide)
      clear he0 he1
      (repeat' (first | (refine sq_id ?_; first | refine sq_nil ?_ | refine sm ?_ | refine sa ?_ | refine ss ?_ | refine st ?_ | refine sf ?_ | refine sp ?_ | refine sq ?_ | refine sl ?_ | refine si ?_ | refine sx ?_ | refine sy ?_ | refine sc hq1 ?_ | fail) | (refine rg_id ?_; first | refine rg_fin ?_ | refine rm ?_ | refine ra ?_ | refine rs ?_ | refine rt ?_ | refine rf ?_ | refine rp ?_ | refine rq ?_ | refine rl ?_ | refine ri ?_ | refine rx ?_ | refine ry ?_ | refine sc hq1 ?_ | fail) | refine aw_rseq ?_ | refine aw_seq ?_ | refine aw_region ?_ | refine aw_skip ?_ | refine ct ?_ | refine cf ?_ | refine d0s ?_ | refine d0r ?_ | refine aw_block ?_ | refine aw_exit ?_ | refine then_ret ?_ | refine then_exit ?_ | refine then_normal ?_ | refine blk_ret ?_ | refine blk_normal ?_ | refine blk_exit ?_ | refine blk_pass rfl ?_ | refine sc hq1 ?_ | fail))
      refine sc hq0 ?_
      refine sq_nil ?_
      refine aw_mid [1, 5, 6, 7, 8, 9] (fun a : Ep × Nat × AV × List Int => [(1, rows3 L), (5, .b true), (6, .ref H.length 6 0 0), (7, .i a.2.1), (8, a.2.2.1), (9, .i k)]) (fun a H' => IsBox H' H.length (epc a.1) ∧ Whl (k + 1) a.2.1 a.2.2.2 a.1 ∧ AccN (H.length + 1) H' a.2.2.1 a.2.2.2) ?_ ?_
      · rcases (by omega : p0 = 0 ∨ p0 = 1 ∨ p0 = 2 ∨ p0 = 3 ∨ p0 = 4 ∨ p0 = 5 ∨ p0 = 6 ∨ p0 = 7) with rfl | rfl | rfl | rfl | rfl | rfl | rfl | rfl
        · have hC := pin_s e hbd p1
          have hW2 := hW.pin p1
          obtain ⟨q, hq⟩ : ∃ q, q = pinE e p1 := ⟨_, rfl⟩
          rw [← hq] at hC hW2
          obtain ⟨e', er⟩ := q
          clear hq
          (repeat' (first | (refine sq_id ?_; first | refine sq_nil ?_ | refine sm ?_ | refine sa ?_ | refine ss ?_ | refine st ?_ | refine sf ?_ | refine sp ?_ | refine sq ?_ | refine sl ?_ | refine si ?_ | refine sx ?_ | refine sy ?_ | refine sc hC ?_) | (refine rg_id ?_; first | refine rg_fin ?_ | refine rm ?_ | refine ra ?_ | refine rs ?_ | refine rt ?_ | refine rf ?_ | refine rp ?_ | refine rq ?_ | refine rl ?_ | refine ri ?_ | refine rx ?_ | refine ry ?_ | refine sc hC ?_) | refine aw_rseq ?_ | refine aw_seq ?_ | refine aw_region ?_ | refine aw_skip ?_ | refine ct ?_ | refine cf ?_ | refine d0s ?_ | refine d0r ?_ | refine aw_block ?_ | refine aw_exit ?_ | refine then_ret ?_ | refine then_exit ?_ | refine then_normal ?_ | refine blk_ret ?_ | refine blk_normal ?_ | refine blk_exit ?_ | refine blk_pass rfl ?_ | refine sc hC ?_))
          refine sw hb fun H5 hb5 ho5 hl5 => ?_
          (repeat' (first | (refine sq_id ?_; first | refine sq_nil ?_ | refine sm ?_ | refine sa ?_ | refine ss ?_ | refine st ?_ | refine sf ?_ | refine sp ?_ | refine sq ?_ | refine sl ?_ | refine si ?_ | refine sx ?_ | refine sy ?_ | refine sq_movek (v := v) rfl rfl rfl ?_ | refine sq_assignk (v := v) rfl rfl rfl ?_ | refine rg_movek (v := v) rfl rfl rfl ?_ | refine rg_assignk (v := v) rfl rfl rfl ?_) | (refine rg_id ?_; first | refine rg_fin ?_ | refine rm ?_ | refine ra ?_ | refine rs ?_ | refine rt ?_ | refine rf ?_ | refine rp ?_ | refine rq ?_ | refine rl ?_ | refine ri ?_ | refine rx ?_ | refine ry ?_ | refine sq_movek (v := v) rfl rfl rfl ?_ | refine sq_assignk (v := v) rfl rfl rfl ?_ | refine rg_movek (v := v) rfl rfl rfl ?_ | refine rg_assignk (v := v) rfl rfl rfl ?_) | refine aw_rseq ?_ | refine aw_seq ?_ | refine aw_region ?_ | refine aw_skip ?_ | refine ct ?_ | refine cf ?_ | refine d0s ?_ | refine d0r ?_ | refine aw_block ?_ | refine aw_exit ?_ | refine then_ret ?_ | refine then_exit ?_ | refine then_normal ?_ | refine blk_ret ?_ | refine blk_normal ?_ | refine blk_exit ?_ | refine blk_pass rfl ?_ | refine sq_movek (v := v) rfl rfl rfl ?_ | refine sq_assignk (v := v) rfl rfl rfl ?_ | refine rg_movek (v := v) rfl rfl rfl ?_ | refine rg_assignk (v := v) rfl rfl rfl ?_))
          exact ⟨(e', nx, v, tk), _, by rw [rstf_eq]; rfl, .refl _, ⟨_, hb5, rfl, rfl, rfl, rfl⟩, hW2.mono (Nat.le_succ k), hv.keep ho5 (.inr (acc_ne hv (Nat.lt_succ_self _)).symm)⟩
        · have hC := pin_s e hbd p1
          have hW2 := hW.pin p1
          obtain ⟨q, hq⟩ : ∃ q, q = pinE e p1 := ⟨_, rfl⟩
          rw [← hq] at hC hW2
          obtain ⟨e', er⟩ := q
          clear hq
          (repeat' (first | (refine sq_id ?_; first | refine sq_nil ?_ | refine sm ?_ | refine sa ?_ | refine ss ?_ | refine st ?_ | refine sf ?_ | refine sp ?_ | refine sq ?_ | refine sl ?_ | refine si ?_ | refine sx ?_ | refine sy ?_ | refine sc hC ?_) | (refine rg_id ?_; first | refine rg_fin ?_ | refine rm ?_ | refine ra ?_ | refine rs ?_ | refine rt ?_ | refine rf ?_ | refine rp ?_ | refine rq ?_ | refine rl ?_ | refine ri ?_ | refine rx ?_ | refine ry ?_ | refine sc hC ?_) | refine aw_rseq ?_ | refine aw_seq ?_ | refine aw_region ?_ | refine aw_skip ?_ | refine ct ?_ | refine cf ?_ | refine d0s ?_ | refine d0r ?_ | refine aw_block ?_ | refine aw_exit ?_ | refine then_ret ?_ | refine then_exit ?_ | refine then_normal ?_ | refine blk_ret ?_ | refine blk_normal ?_ | refine blk_exit ?_ | refine blk_pass rfl ?_ | refine sc hC ?_))
          refine sw hb fun H5 hb5 ho5 hl5 => ?_
          (repeat' (first | (refine sq_id ?_; first | refine sq_nil ?_ | refine sm ?_ | refine sa ?_ | refine ss ?_ | refine st ?_ | refine sf ?_ | refine sp ?_ | refine sq ?_ | refine sl ?_ | refine si ?_ | refine sx ?_ | refine sy ?_ | refine sq_movek (v := v) rfl rfl rfl ?_ | refine sq_assignk (v := v) rfl rfl rfl ?_ | refine rg_movek (v := v) rfl rfl rfl ?_ | refine rg_assignk (v := v) rfl rfl rfl ?_) | (refine rg_id ?_; first | refine rg_fin ?_ | refine rm ?_ | refine ra ?_ | refine rs ?_ | refine rt ?_ | refine rf ?_ | refine rp ?_ | refine rq ?_ | refine rl ?_ | refine ri ?_ | refine rx ?_ | refine ry ?_ | refine sq_movek (v := v) rfl rfl rfl ?_ | refine sq_assignk (v := v) rfl rfl rfl ?_ | refine rg_movek (v := v) rfl rfl rfl ?_ | refine rg_assignk (v := v) rfl rfl rfl ?_) | refine aw_rseq ?_ | refine aw_seq ?_ | refine aw_region ?_ | refine aw_skip ?_ | refine ct ?_ | refine cf ?_ | refine d0s ?_ | refine d0r ?_ | refine aw_block ?_ | refine aw_exit ?_ | refine then_ret ?_ | refine then_exit ?_ | refine then_normal ?_ | refine blk_ret ?_ | refine blk_normal ?_ | refine blk_exit ?_ | refine blk_pass rfl ?_ | refine sq_movek (v := v) rfl rfl rfl ?_ | refine sq_assignk (v := v) rfl rfl rfl ?_ | refine rg_movek (v := v) rfl rfl rfl ?_ | refine rg_assignk (v := v) rfl rfl rfl ?_))
          exact ⟨(e', nx, v, tk), _, by rw [rstf_eq]; rfl, .refl _, ⟨_, hb5, rfl, rfl, rfl, rfl⟩, hW2.mono (Nat.le_succ k), hv.keep ho5 (.inr (acc_ne hv (Nat.lt_succ_self _)).symm)⟩
        · have hC := unpin_s e hbd p1
          have hW2 := hW.unpin p1
          obtain ⟨q, hq⟩ : ∃ q, q = unpinE e p1 := ⟨_, rfl⟩
          rw [← hq] at hC hW2
          obtain ⟨e', er⟩ := q
          clear hq
          (repeat' (first | (refine sq_id ?_; first | refine sq_nil ?_ | refine sm ?_ | refine sa ?_ | refine ss ?_ | refine st ?_ | refine sf ?_ | refine sp ?_ | refine sq ?_ | refine sl ?_ | refine si ?_ | refine sx ?_ | refine sy ?_ | refine sc hC ?_) | (refine rg_id ?_; first | refine rg_fin ?_ | refine rm ?_ | refine ra ?_ | refine rs ?_ | refine rt ?_ | refine rf ?_ | refine rp ?_ | refine rq ?_ | refine rl ?_ | refine ri ?_ | refine rx ?_ | refine ry ?_ | refine sc hC ?_) | refine aw_rseq ?_ | refine aw_seq ?_ | refine aw_region ?_ | refine aw_skip ?_ | refine ct ?_ | refine cf ?_ | refine d0s ?_ | refine d0r ?_ | refine aw_block ?_ | refine aw_exit ?_ | refine then_ret ?_ | refine then_exit ?_ | refine then_normal ?_ | refine blk_ret ?_ | refine blk_normal ?_ | refine blk_exit ?_ | refine blk_pass rfl ?_ | refine sc hC ?_))
          refine sw hb fun H5 hb5 ho5 hl5 => ?_
          (repeat' (first | (refine sq_id ?_; first | refine sq_nil ?_ | refine sm ?_ | refine sa ?_ | refine ss ?_ | refine st ?_ | refine sf ?_ | refine sp ?_ | refine sq ?_ | refine sl ?_ | refine si ?_ | refine sx ?_ | refine sy ?_ | refine sq_movek (v := v) rfl rfl rfl ?_ | refine sq_assignk (v := v) rfl rfl rfl ?_ | refine rg_movek (v := v) rfl rfl rfl ?_ | refine rg_assignk (v := v) rfl rfl rfl ?_) | (refine rg_id ?_; first | refine rg_fin ?_ | refine rm ?_ | refine ra ?_ | refine rs ?_ | refine rt ?_ | refine rf ?_ | refine rp ?_ | refine rq ?_ | refine rl ?_ | refine ri ?_ | refine rx ?_ | refine ry ?_ | refine sq_movek (v := v) rfl rfl rfl ?_ | refine sq_assignk (v := v) rfl rfl rfl ?_ | refine rg_movek (v := v) rfl rfl rfl ?_ | refine rg_assignk (v := v) rfl rfl rfl ?_) | refine aw_rseq ?_ | refine aw_seq ?_ | refine aw_region ?_ | refine aw_skip ?_ | refine ct ?_ | refine cf ?_ | refine d0s ?_ | refine d0r ?_ | refine aw_block ?_ | refine aw_exit ?_ | refine then_ret ?_ | refine then_exit ?_ | refine then_normal ?_ | refine blk_ret ?_ | refine blk_normal ?_ | refine blk_exit ?_ | refine blk_pass rfl ?_ | refine sq_movek (v := v) rfl rfl rfl ?_ | refine sq_assignk (v := v) rfl rfl rfl ?_ | refine rg_movek (v := v) rfl rfl rfl ?_ | refine rg_assignk (v := v) rfl rfl rfl ?_))
          exact ⟨(e', nx, v, tk), _, by rw [rstf_eq]; rfl, .refl _, ⟨_, hb5, rfl, rfl, rfl, rfl⟩, hW2.mono (Nat.le_succ k), hv.keep ho5 (.inr (acc_ne hv (Nat.lt_succ_self _)).symm)⟩
        · have hC := retire_s e hbd p1 nx
          have hW1 := hW.retire p1
          obtain ⟨q, hq⟩ : ∃ q, q = retireE e p1 nx := ⟨_, rfl⟩
          rw [← hq] at hC hW1
          obtain ⟨e', er⟩ := q
          dsimp only at hW1
          rcases hW1 with ⟨h0, hW2⟩ | ⟨h0, hW2⟩
          · subst h0
            clear hq
            (repeat' (first | (refine sq_id ?_; first | refine sq_nil ?_ | refine sm ?_ | refine sa ?_ | refine ss ?_ | refine st ?_ | refine sf ?_ | refine sp ?_ | refine sq ?_ | refine sl ?_ | refine si ?_ | refine sx ?_ | refine sy ?_ | refine sc hC ?_) | (refine rg_id ?_; first | refine rg_fin ?_ | refine rm ?_ | refine ra ?_ | refine rs ?_ | refine rt ?_ | refine rf ?_ | refine rp ?_ | refine rq ?_ | refine rl ?_ | refine ri ?_ | refine rx ?_ | refine ry ?_ | refine sc hC ?_) | refine aw_rseq ?_ | refine aw_seq ?_ | refine aw_region ?_ | refine aw_skip ?_ | refine ct ?_ | refine cf ?_ | refine d0s ?_ | refine d0r ?_ | refine aw_block ?_ | refine aw_exit ?_ | refine then_ret ?_ | refine then_exit ?_ | refine then_normal ?_ | refine blk_ret ?_ | refine blk_normal ?_ | refine blk_exit ?_ | refine blk_pass rfl ?_ | refine sc hC ?_))
            refine nw fun G1 hn1 hoa1 hla1 => ?_
            have hb := hoa1.get0 hb
            have hvd := acc_new hv
            have hv := hv.keep0 hoa1
            refine sw hn1 fun G2 ba ho1 hl1 => ?_
            have hb := ho1.get hb (by simp; omega)
            have hv := hv.keep ho1 hvd
            (repeat' (first | (refine sq_id ?_; first | refine sq_nil ?_ | refine sm ?_ | refine sa ?_ | refine ss ?_ | refine st ?_ | refine sf ?_ | refine sp ?_ | refine sq ?_ | refine sl ?_ | refine si ?_ | refine sx ?_ | refine sy ?_) | (refine rg_id ?_; first | refine rg_fin ?_ | refine rm ?_ | refine ra ?_ | refine rs ?_ | refine rt ?_ | refine rf ?_ | refine rp ?_ | refine rq ?_ | refine rl ?_ | refine ri ?_ | refine rx ?_ | refine ry ?_) | refine aw_rseq ?_ | refine aw_seq ?_ | refine aw_region ?_ | refine aw_skip ?_ | refine ct ?_ | refine cf ?_ | refine d0s ?_ | refine d0r ?_ | refine aw_block ?_ | refine aw_exit ?_ | refine then_ret ?_ | refine then_exit ?_ | refine then_normal ?_ | refine blk_ret ?_ | refine blk_normal ?_ | refine blk_exit ?_ | refine blk_pass rfl ?_))
            refine sw hb fun H5 hb5 ho5 hl5 => ?_
            (repeat' (first | (refine sq_id ?_; first | refine sq_nil ?_ | refine sm ?_ | refine sa ?_ | refine ss ?_ | refine st ?_ | refine sf ?_ | refine sp ?_ | refine sq ?_ | refine sl ?_ | refine si ?_ | refine sx ?_ | refine sy ?_ | refine sq_movek (v := v) rfl rfl rfl ?_ | refine sq_assignk (v := v) rfl rfl rfl ?_ | refine rg_movek (v := v) rfl rfl rfl ?_ | refine rg_assignk (v := v) rfl rfl rfl ?_) | (refine rg_id ?_; first | refine rg_fin ?_ | refine rm ?_ | refine ra ?_ | refine rs ?_ | refine rt ?_ | refine rf ?_ | refine rp ?_ | refine rq ?_ | refine rl ?_ | refine ri ?_ | refine rx ?_ | refine ry ?_ | refine sq_movek (v := v) rfl rfl rfl ?_ | refine sq_assignk (v := v) rfl rfl rfl ?_ | refine rg_movek (v := v) rfl rfl rfl ?_ | refine rg_assignk (v := v) rfl rfl rfl ?_) | refine aw_rseq ?_ | refine aw_seq ?_ | refine aw_region ?_ | refine aw_skip ?_ | refine ct ?_ | refine cf ?_ | refine d0s ?_ | refine d0r ?_ | refine aw_block ?_ | refine aw_exit ?_ | refine then_ret ?_ | refine then_exit ?_ | refine then_normal ?_ | refine blk_ret ?_ | refine blk_normal ?_ | refine blk_exit ?_ | refine blk_pass rfl ?_ | refine sq_movek (v := v) rfl rfl rfl ?_ | refine sq_assignk (v := v) rfl rfl rfl ?_ | refine rg_movek (v := v) rfl rfl rfl ?_ | refine rg_assignk (v := v) rfl rfl rfl ?_))
            exact ⟨(e', nx + 1, v, tk), _, by rw [rstf_eq]; rfl, .refl _, ⟨_, hb5, rfl, rfl, rfl, rfl⟩, hW2, hv.keep ho5 (.inr (acc_ne hv (Nat.lt_succ_self _)).symm)⟩
          · skip
            clear hq
            (repeat' (first | (refine sq_id ?_; first | refine sq_nil ?_ | refine sm ?_ | refine sa ?_ | refine ss ?_ | refine st ?_ | refine sf ?_ | refine sp ?_ | refine sq ?_ | refine sl ?_ | refine si ?_ | refine sx ?_ | refine sy ?_ | refine sc hC ?_) | (refine rg_id ?_; first | refine rg_fin ?_ | refine rm ?_ | refine ra ?_ | refine rs ?_ | refine rt ?_ | refine rf ?_ | refine rp ?_ | refine rq ?_ | refine rl ?_ | refine ri ?_ | refine rx ?_ | refine ry ?_ | refine sc hC ?_) | refine aw_rseq ?_ | refine aw_seq ?_ | refine aw_region ?_ | refine aw_skip ?_ | refine ct ?_ | refine cf ?_ | refine d0s ?_ | refine d0r ?_ | refine aw_block ?_ | refine aw_exit ?_ | refine then_ret ?_ | refine then_exit ?_ | refine then_normal ?_ | refine blk_ret ?_ | refine blk_normal ?_ | refine blk_exit ?_ | refine blk_pass rfl ?_ | refine sc hC ?_))
            refine nw fun G1 hn1 hoa1 hla1 => ?_
            have hb := hoa1.get0 hb
            have hvd := acc_new hv
            have hv := hv.keep0 hoa1
            refine sw hn1 fun G2 ba ho1 hl1 => ?_
            have hb := ho1.get hb (by simp; omega)
            have hv := hv.keep ho1 hvd
            (repeat' (first | (refine sq_id ?_; first | refine sq_nil ?_ | refine sm ?_ | refine sa ?_ | refine ss ?_ | refine st ?_ | refine sf ?_ | refine sp ?_ | refine sq ?_ | refine sl ?_ | refine si ?_ | refine sx ?_ | refine sy ?_) | (refine rg_id ?_; first | refine rg_fin ?_ | refine rm ?_ | refine ra ?_ | refine rs ?_ | refine rt ?_ | refine rf ?_ | refine rp ?_ | refine rq ?_ | refine rl ?_ | refine ri ?_ | refine rx ?_ | refine ry ?_) | refine aw_rseq ?_ | refine aw_seq ?_ | refine aw_region ?_ | refine aw_skip ?_ | refine ct ?_ | refine cf ?_ | refine d0s ?_ | refine d0r ?_ | refine aw_block ?_ | refine aw_exit ?_ | refine then_ret ?_ | refine then_exit ?_ | refine then_normal ?_ | refine blk_ret ?_ | refine blk_normal ?_ | refine blk_exit ?_ | refine blk_pass rfl ?_))
            refine sw hb fun H5 hb5 ho5 hl5 => ?_
            (repeat' (first | (refine sq_id ?_; first | refine sq_nil ?_ | refine sm ?_ | refine sa ?_ | refine ss ?_ | refine st ?_ | refine sf ?_ | refine sp ?_ | refine sq ?_ | refine sl ?_ | refine si ?_ | refine sx ?_ | refine sy ?_ | refine sq_movek (v := v) rfl rfl rfl ?_ | refine sq_assignk (v := v) rfl rfl rfl ?_ | refine rg_movek (v := v) rfl rfl rfl ?_ | refine rg_assignk (v := v) rfl rfl rfl ?_) | (refine rg_id ?_; first | refine rg_fin ?_ | refine rm ?_ | refine ra ?_ | refine rs ?_ | refine rt ?_ | refine rf ?_ | refine rp ?_ | refine rq ?_ | refine rl ?_ | refine ri ?_ | refine rx ?_ | refine ry ?_ | refine sq_movek (v := v) rfl rfl rfl ?_ | refine sq_assignk (v := v) rfl rfl rfl ?_ | refine rg_movek (v := v) rfl rfl rfl ?_ | refine rg_assignk (v := v) rfl rfl rfl ?_) | refine aw_rseq ?_ | refine aw_seq ?_ | refine aw_region ?_ | refine aw_skip ?_ | refine ct ?_ | refine cf ?_ | refine d0s ?_ | refine d0r ?_ | refine aw_block ?_ | refine aw_exit ?_ | refine then_ret ?_ | refine then_exit ?_ | refine then_normal ?_ | refine blk_ret ?_ | refine blk_normal ?_ | refine blk_exit ?_ | refine blk_pass rfl ?_ | refine sq_movek (v := v) rfl rfl rfl ?_ | refine sq_assignk (v := v) rfl rfl rfl ?_ | refine rg_movek (v := v) rfl rfl rfl ?_ | refine rg_assignk (v := v) rfl rfl rfl ?_))
            exact ⟨(e', nx, v, tk), _, by rw [rstf_eq]; rfl, .refl _, ⟨_, hb5, rfl, rfl, rfl, rfl⟩, hW2, hv.keep ho5 (.inr (acc_ne hv (Nat.lt_succ_self _)).symm)⟩
        · have hC := retire_s e hbd p1 nx
          have hW1 := hW.retire p1
          obtain ⟨q, hq⟩ : ∃ q, q = retireE e p1 nx := ⟨_, rfl⟩
          rw [← hq] at hC hW1
          obtain ⟨e', er⟩ := q
          dsimp only at hW1
          rcases hW1 with ⟨h0, hW2⟩ | ⟨h0, hW2⟩
          · subst h0
            clear hq
            (repeat' (first | (refine sq_id ?_; first | refine sq_nil ?_ | refine sm ?_ | refine sa ?_ | refine ss ?_ | refine st ?_ | refine sf ?_ | refine sp ?_ | refine sq ?_ | refine sl ?_ | refine si ?_ | refine sx ?_ | refine sy ?_ | refine sc hC ?_) | (refine rg_id ?_; first | refine rg_fin ?_ | refine rm ?_ | refine ra ?_ | refine rs ?_ | refine rt ?_ | refine rf ?_ | refine rp ?_ | refine rq ?_ | refine rl ?_ | refine ri ?_ | refine rx ?_ | refine ry ?_ | refine sc hC ?_) | refine aw_rseq ?_ | refine aw_seq ?_ | refine aw_region ?_ | refine aw_skip ?_ | refine ct ?_ | refine cf ?_ | refine d0s ?_ | refine d0r ?_ | refine aw_block ?_ | refine aw_exit ?_ | refine then_ret ?_ | refine then_exit ?_ | refine then_normal ?_ | refine blk_ret ?_ | refine blk_normal ?_ | refine blk_exit ?_ | refine blk_pass rfl ?_ | refine sc hC ?_))
            refine nw fun G1 hn1 hoa1 hla1 => ?_
            have hb := hoa1.get0 hb
            have hvd := acc_new hv
            have hv := hv.keep0 hoa1
            refine sw hn1 fun G2 ba ho1 hl1 => ?_
            have hb := ho1.get hb (by simp; omega)
            have hv := hv.keep ho1 hvd
            (repeat' (first | (refine sq_id ?_; first | refine sq_nil ?_ | refine sm ?_ | refine sa ?_ | refine ss ?_ | refine st ?_ | refine sf ?_ | refine sp ?_ | refine sq ?_ | refine sl ?_ | refine si ?_ | refine sx ?_ | refine sy ?_) | (refine rg_id ?_; first | refine rg_fin ?_ | refine rm ?_ | refine ra ?_ | refine rs ?_ | refine rt ?_ | refine rf ?_ | refine rp ?_ | refine rq ?_ | refine rl ?_ | refine ri ?_ | refine rx ?_ | refine ry ?_) | refine aw_rseq ?_ | refine aw_seq ?_ | refine aw_region ?_ | refine aw_skip ?_ | refine ct ?_ | refine cf ?_ | refine d0s ?_ | refine d0r ?_ | refine aw_block ?_ | refine aw_exit ?_ | refine then_ret ?_ | refine then_exit ?_ | refine then_normal ?_ | refine blk_ret ?_ | refine blk_normal ?_ | refine blk_exit ?_ | refine blk_pass rfl ?_))
            refine sw hb fun H5 hb5 ho5 hl5 => ?_
            (repeat' (first | (refine sq_id ?_; first | refine sq_nil ?_ | refine sm ?_ | refine sa ?_ | refine ss ?_ | refine st ?_ | refine sf ?_ | refine sp ?_ | refine sq ?_ | refine sl ?_ | refine si ?_ | refine sx ?_ | refine sy ?_ | refine sq_movek (v := v) rfl rfl rfl ?_ | refine sq_assignk (v := v) rfl rfl rfl ?_ | refine rg_movek (v := v) rfl rfl rfl ?_ | refine rg_assignk (v := v) rfl rfl rfl ?_) | (refine rg_id ?_; first | refine rg_fin ?_ | refine rm ?_ | refine ra ?_ | refine rs ?_ | refine rt ?_ | refine rf ?_ | refine rp ?_ | refine rq ?_ | refine rl ?_ | refine ri ?_ | refine rx ?_ | refine ry ?_ | refine sq_movek (v := v) rfl rfl rfl ?_ | refine sq_assignk (v := v) rfl rfl rfl ?_ | refine rg_movek (v := v) rfl rfl rfl ?_ | refine rg_assignk (v := v) rfl rfl rfl ?_) | refine aw_rseq ?_ | refine aw_seq ?_ | refine aw_region ?_ | refine aw_skip ?_ | refine ct ?_ | refine cf ?_ | refine d0s ?_ | refine d0r ?_ | refine aw_block ?_ | refine aw_exit ?_ | refine then_ret ?_ | refine then_exit ?_ | refine then_normal ?_ | refine blk_ret ?_ | refine blk_normal ?_ | refine blk_exit ?_ | refine blk_pass rfl ?_ | refine sq_movek (v := v) rfl rfl rfl ?_ | refine sq_assignk (v := v) rfl rfl rfl ?_ | refine rg_movek (v := v) rfl rfl rfl ?_ | refine rg_assignk (v := v) rfl rfl rfl ?_))
            exact ⟨(e', nx + 1, v, tk), _, by rw [rstf_eq]; rfl, .refl _, ⟨_, hb5, rfl, rfl, rfl, rfl⟩, hW2, hv.keep ho5 (.inr (acc_ne hv (Nat.lt_succ_self _)).symm)⟩
          · skip
            clear hq
            (repeat' (first | (refine sq_id ?_; first | refine sq_nil ?_ | refine sm ?_ | refine sa ?_ | refine ss ?_ | refine st ?_ | refine sf ?_ | refine sp ?_ | refine sq ?_ | refine sl ?_ | refine si ?_ | refine sx ?_ | refine sy ?_ | refine sc hC ?_) | (refine rg_id ?_; first | refine rg_fin ?_ | refine rm ?_ | refine ra ?_ | refine rs ?_ | refine rt ?_ | refine rf ?_ | refine rp ?_ | refine rq ?_ | refine rl ?_ | refine ri ?_ | refine rx ?_ | refine ry ?_ | refine sc hC ?_) | refine aw_rseq ?_ | refine aw_seq ?_ | refine aw_region ?_ | refine aw_skip ?_ | refine ct ?_ | refine cf ?_ | refine d0s ?_ | refine d0r ?_ | refine aw_block ?_ | refine aw_exit ?_ | refine then_ret ?_ | refine then_exit ?_ | refine then_normal ?_ | refine blk_ret ?_ | refine blk_normal ?_ | refine blk_exit ?_ | refine blk_pass rfl ?_ | refine sc hC ?_))
            refine nw fun G1 hn1 hoa1 hla1 => ?_
            have hb := hoa1.get0 hb
            have hvd := acc_new hv
            have hv := hv.keep0 hoa1
            refine sw hn1 fun G2 ba ho1 hl1 => ?_
            have hb := ho1.get hb (by simp; omega)
            have hv := hv.keep ho1 hvd
            (repeat' (first | (refine sq_id ?_; first | refine sq_nil ?_ | refine sm ?_ | refine sa ?_ | refine ss ?_ | refine st ?_ | refine sf ?_ | refine sp ?_ | refine sq ?_ | refine sl ?_ | refine si ?_ | refine sx ?_ | refine sy ?_) | (refine rg_id ?_; first | refine rg_fin ?_ | refine rm ?_ | refine ra ?_ | refine rs ?_ | refine rt ?_ | refine rf ?_ | refine rp ?_ | refine rq ?_ | refine rl ?_ | refine ri ?_ | refine rx ?_ | refine ry ?_) | refine aw_rseq ?_ | refine aw_seq ?_ | refine aw_region ?_ | refine aw_skip ?_ | refine ct ?_ | refine cf ?_ | refine d0s ?_ | refine d0r ?_ | refine aw_block ?_ | refine aw_exit ?_ | refine then_ret ?_ | refine then_exit ?_ | refine then_normal ?_ | refine blk_ret ?_ | refine blk_normal ?_ | refine blk_exit ?_ | refine blk_pass rfl ?_))
            refine sw hb fun H5 hb5 ho5 hl5 => ?_
            (repeat' (first | (refine sq_id ?_; first | refine sq_nil ?_ | refine sm ?_ | refine sa ?_ | refine ss ?_ | refine st ?_ | refine sf ?_ | refine sp ?_ | refine sq ?_ | refine sl ?_ | refine si ?_ | refine sx ?_ | refine sy ?_ | refine sq_movek (v := v) rfl rfl rfl ?_ | refine sq_assignk (v := v) rfl rfl rfl ?_ | refine rg_movek (v := v) rfl rfl rfl ?_ | refine rg_assignk (v := v) rfl rfl rfl ?_) | (refine rg_id ?_; first | refine rg_fin ?_ | refine rm ?_ | refine ra ?_ | refine rs ?_ | refine rt ?_ | refine rf ?_ | refine rp ?_ | refine rq ?_ | refine rl ?_ | refine ri ?_ | refine rx ?_ | refine ry ?_ | refine sq_movek (v := v) rfl rfl rfl ?_ | refine sq_assignk (v := v) rfl rfl rfl ?_ | refine rg_movek (v := v) rfl rfl rfl ?_ | refine rg_assignk (v := v) rfl rfl rfl ?_) | refine aw_rseq ?_ | refine aw_seq ?_ | refine aw_region ?_ | refine aw_skip ?_ | refine ct ?_ | refine cf ?_ | refine d0s ?_ | refine d0r ?_ | refine aw_block ?_ | refine aw_exit ?_ | refine then_ret ?_ | refine then_exit ?_ | refine then_normal ?_ | refine blk_ret ?_ | refine blk_normal ?_ | refine blk_exit ?_ | refine blk_pass rfl ?_ | refine sq_movek (v := v) rfl rfl rfl ?_ | refine sq_assignk (v := v) rfl rfl rfl ?_ | refine rg_movek (v := v) rfl rfl rfl ?_ | refine rg_assignk (v := v) rfl rfl rfl ?_))
            exact ⟨(e', nx, v, tk), _, by rw [rstf_eq]; rfl, .refl _, ⟨_, hb5, rfl, rfl, rfl, rfl⟩, hW2, hv.keep ho5 (.inr (acc_ne hv (Nat.lt_succ_self _)).symm)⟩
        · have hC := advance_s e hbd
          have hW2 := hW.advance
          obtain ⟨q, hq⟩ : ∃ q, q = advanceE e := ⟨_, rfl⟩
          rw [← hq] at hC hW2
          obtain ⟨e', b', er⟩ := q
          clear hq
          (repeat' (first | (refine sq_id ?_; first | refine sq_nil ?_ | refine sm ?_ | refine sa ?_ | refine ss ?_ | refine st ?_ | refine sf ?_ | refine sp ?_ | refine sq ?_ | refine sl ?_ | refine si ?_ | refine sx ?_ | refine sy ?_ | refine sc hC ?_) | (refine rg_id ?_; first | refine rg_fin ?_ | refine rm ?_ | refine ra ?_ | refine rs ?_ | refine rt ?_ | refine rf ?_ | refine rp ?_ | refine rq ?_ | refine rl ?_ | refine ri ?_ | refine rx ?_ | refine ry ?_ | refine sc hC ?_) | refine aw_rseq ?_ | refine aw_seq ?_ | refine aw_region ?_ | refine aw_skip ?_ | refine ct ?_ | refine cf ?_ | refine d0s ?_ | refine d0r ?_ | refine aw_block ?_ | refine aw_exit ?_ | refine then_ret ?_ | refine then_exit ?_ | refine then_normal ?_ | refine blk_ret ?_ | refine blk_normal ?_ | refine blk_exit ?_ | refine blk_pass rfl ?_ | refine sc hC ?_))
          refine sw hb fun H5 hb5 ho5 hl5 => ?_
          (repeat' (first | (refine sq_id ?_; first | refine sq_nil ?_ | refine sm ?_ | refine sa ?_ | refine ss ?_ | refine st ?_ | refine sf ?_ | refine sp ?_ | refine sq ?_ | refine sl ?_ | refine si ?_ | refine sx ?_ | refine sy ?_ | refine sq_movek (v := v) rfl rfl rfl ?_ | refine sq_assignk (v := v) rfl rfl rfl ?_ | refine rg_movek (v := v) rfl rfl rfl ?_ | refine rg_assignk (v := v) rfl rfl rfl ?_) | (refine rg_id ?_; first | refine rg_fin ?_ | refine rm ?_ | refine ra ?_ | refine rs ?_ | refine rt ?_ | refine rf ?_ | refine rp ?_ | refine rq ?_ | refine rl ?_ | refine ri ?_ | refine rx ?_ | refine ry ?_ | refine sq_movek (v := v) rfl rfl rfl ?_ | refine sq_assignk (v := v) rfl rfl rfl ?_ | refine rg_movek (v := v) rfl rfl rfl ?_ | refine rg_assignk (v := v) rfl rfl rfl ?_) | refine aw_rseq ?_ | refine aw_seq ?_ | refine aw_region ?_ | refine aw_skip ?_ | refine ct ?_ | refine cf ?_ | refine d0s ?_ | refine d0r ?_ | refine aw_block ?_ | refine aw_exit ?_ | refine then_ret ?_ | refine then_exit ?_ | refine then_normal ?_ | refine blk_ret ?_ | refine blk_normal ?_ | refine blk_exit ?_ | refine blk_pass rfl ?_ | refine sq_movek (v := v) rfl rfl rfl ?_ | refine sq_assignk (v := v) rfl rfl rfl ?_ | refine rg_movek (v := v) rfl rfl rfl ?_ | refine rg_assignk (v := v) rfl rfl rfl ?_))
          exact ⟨(e', nx, v, tk), _, by rw [rstf_eq]; rfl, .refl _, ⟨_, hb5, rfl, rfl, rfl, rfl⟩, hW2.mono (Nat.le_succ k), hv.keep ho5 (.inr (acc_ne hv (Nat.lt_succ_self _)).symm)⟩
        · have hC := advance_s e hbd
          have hW2 := hW.advance
          obtain ⟨q, hq⟩ : ∃ q, q = advanceE e := ⟨_, rfl⟩
          rw [← hq] at hC hW2
          obtain ⟨e', b', er⟩ := q
          clear hq
          (repeat' (first | (refine sq_id ?_; first | refine sq_nil ?_ | refine sm ?_ | refine sa ?_ | refine ss ?_ | refine st ?_ | refine sf ?_ | refine sp ?_ | refine sq ?_ | refine sl ?_ | refine si ?_ | refine sx ?_ | refine sy ?_ | refine sc hC ?_) | (refine rg_id ?_; first | refine rg_fin ?_ | refine rm ?_ | refine ra ?_ | refine rs ?_ | refine rt ?_ | refine rf ?_ | refine rp ?_ | refine rq ?_ | refine rl ?_ | refine ri ?_ | refine rx ?_ | refine ry ?_ | refine sc hC ?_) | refine aw_rseq ?_ | refine aw_seq ?_ | refine aw_region ?_ | refine aw_skip ?_ | refine ct ?_ | refine cf ?_ | refine d0s ?_ | refine d0r ?_ | refine aw_block ?_ | refine aw_exit ?_ | refine then_ret ?_ | refine then_exit ?_ | refine then_normal ?_ | refine blk_ret ?_ | refine blk_normal ?_ | refine blk_exit ?_ | refine blk_pass rfl ?_ | refine sc hC ?_))
          refine sw hb fun H5 hb5 ho5 hl5 => ?_
          (repeat' (first | (refine sq_id ?_; first | refine sq_nil ?_ | refine sm ?_ | refine sa ?_ | refine ss ?_ | refine st ?_ | refine sf ?_ | refine sp ?_ | refine sq ?_ | refine sl ?_ | refine si ?_ | refine sx ?_ | refine sy ?_ | refine sq_movek (v := v) rfl rfl rfl ?_ | refine sq_assignk (v := v) rfl rfl rfl ?_ | refine rg_movek (v := v) rfl rfl rfl ?_ | refine rg_assignk (v := v) rfl rfl rfl ?_) | (refine rg_id ?_; first | refine rg_fin ?_ | refine rm ?_ | refine ra ?_ | refine rs ?_ | refine rt ?_ | refine rf ?_ | refine rp ?_ | refine rq ?_ | refine rl ?_ | refine ri ?_ | refine rx ?_ | refine ry ?_ | refine sq_movek (v := v) rfl rfl rfl ?_ | refine sq_assignk (v := v) rfl rfl rfl ?_ | refine rg_movek (v := v) rfl rfl rfl ?_ | refine rg_assignk (v := v) rfl rfl rfl ?_) | refine aw_rseq ?_ | refine aw_seq ?_ | refine aw_region ?_ | refine aw_skip ?_ | refine ct ?_ | refine cf ?_ | refine d0s ?_ | refine d0r ?_ | refine aw_block ?_ | refine aw_exit ?_ | refine then_ret ?_ | refine then_exit ?_ | refine then_normal ?_ | refine blk_ret ?_ | refine blk_normal ?_ | refine blk_exit ?_ | refine blk_pass rfl ?_ | refine sq_movek (v := v) rfl rfl rfl ?_ | refine sq_assignk (v := v) rfl rfl rfl ?_ | refine rg_movek (v := v) rfl rfl rfl ?_ | refine rg_assignk (v := v) rfl rfl rfl ?_))
          exact ⟨(e', nx, v, tk), _, by rw [rstf_eq]; rfl, .refl _, ⟨_, hb5, rfl, rfl, rfl, rfl⟩, hW2.mono (Nat.le_succ k), hv.keep ho5 (.inr (acc_ne hv (Nat.lt_succ_self _)).symm)⟩
        · have hC := take_s e hbd
          obtain ⟨h0, hW1⟩ := hW.take
          obtain ⟨q, hq⟩ : ∃ q, q = takeE e := ⟨_, rfl⟩
          rw [← hq] at hC hW1 h0
          obtain ⟨e', g, b', er⟩ := q
          dsimp only at hW1
          have h0 : er = 0 := h0
          subst h0
          clear hq
          have hlt := hW.lens
          rcases hW1 with ⟨h1, hW2⟩ | ⟨h1, hW2⟩
          · subst h1
            (repeat' (first | (refine sq_id ?_; first | refine sq_nil ?_ | refine sm ?_ | refine sa ?_ | refine ss ?_ | refine st ?_ | refine sf ?_ | refine sp ?_ | refine sq ?_ | refine sl ?_ | refine si ?_ | refine sx ?_ | refine sy ?_ | refine sc hC ?_) | (refine rg_id ?_; first | refine rg_fin ?_ | refine rm ?_ | refine ra ?_ | refine rs ?_ | refine rt ?_ | refine rf ?_ | refine rp ?_ | refine rq ?_ | refine rl ?_ | refine ri ?_ | refine rx ?_ | refine ry ?_ | refine sc hC ?_) | refine aw_rseq ?_ | refine aw_seq ?_ | refine aw_region ?_ | refine aw_skip ?_ | refine ct ?_ | refine cf ?_ | refine d0s ?_ | refine d0r ?_ | refine aw_block ?_ | refine aw_exit ?_ | refine then_ret ?_ | refine then_exit ?_ | refine then_normal ?_ | refine blk_ret ?_ | refine blk_normal ?_ | refine blk_exit ?_ | refine blk_pass rfl ?_ | refine sc hC ?_))
            refine nw fun G1 hn1 hoa1 hla1 => ?_
            have hb := hoa1.get0 hb
            have hvd := acc_new hv
            have hv := hv.keep0 hoa1
            refine sw hn1 fun G2 ba ho1 hl1 => ?_
            have hb := ho1.get hb (by simp; omega)
            have hv := hv.keep ho1 hvd
            (repeat' (first | (refine sq_id ?_; first | refine sq_nil ?_ | refine sm ?_ | refine sa ?_ | refine ss ?_ | refine st ?_ | refine sf ?_ | refine sp ?_ | refine sq ?_ | refine sl ?_ | refine si ?_ | refine sx ?_ | refine sy ?_) | (refine rg_id ?_; first | refine rg_fin ?_ | refine rm ?_ | refine ra ?_ | refine rs ?_ | refine rt ?_ | refine rf ?_ | refine rp ?_ | refine rq ?_ | refine rl ?_ | refine ri ?_ | refine rx ?_ | refine ry ?_) | refine aw_rseq ?_ | refine aw_seq ?_ | refine aw_region ?_ | refine aw_skip ?_ | refine ct ?_ | refine cf ?_ | refine d0s ?_ | refine d0r ?_ | refine aw_block ?_ | refine aw_exit ?_ | refine then_ret ?_ | refine then_exit ?_ | refine then_normal ?_ | refine blk_ret ?_ | refine blk_normal ?_ | refine blk_exit ?_ | refine blk_pass rfl ?_))
            refine sw hb fun H5 hb5 ho5 hl5 => ?_
            have hv := hv.keep ho5 (.inr (acc_ne hv (Nat.lt_succ_self _)).symm)
            (repeat' (first | (refine sq_id ?_; first | refine sq_nil ?_ | refine sm ?_ | refine sa ?_ | refine ss ?_ | refine st ?_ | refine sf ?_ | refine sp ?_ | refine sq ?_ | refine sl ?_ | refine si ?_ | refine sx ?_ | refine sy ?_ | refine sq_movek (v := v) rfl rfl rfl ?_ | refine sq_assignk (v := v) rfl rfl rfl ?_ | refine rg_movek (v := v) rfl rfl rfl ?_ | refine rg_assignk (v := v) rfl rfl rfl ?_) | (refine rg_id ?_; first | refine rg_fin ?_ | refine rm ?_ | refine ra ?_ | refine rs ?_ | refine rt ?_ | refine rf ?_ | refine rp ?_ | refine rq ?_ | refine rl ?_ | refine ri ?_ | refine rx ?_ | refine ry ?_ | refine sq_movek (v := v) rfl rfl rfl ?_ | refine sq_assignk (v := v) rfl rfl rfl ?_ | refine rg_movek (v := v) rfl rfl rfl ?_ | refine rg_assignk (v := v) rfl rfl rfl ?_) | refine aw_rseq ?_ | refine aw_seq ?_ | refine aw_region ?_ | refine aw_skip ?_ | refine ct ?_ | refine cf ?_ | refine d0s ?_ | refine d0r ?_ | refine aw_block ?_ | refine aw_exit ?_ | refine then_ret ?_ | refine then_exit ?_ | refine then_normal ?_ | refine blk_ret ?_ | refine blk_normal ?_ | refine blk_exit ?_ | refine blk_pass rfl ?_ | refine sq_movek (v := v) rfl rfl rfl ?_ | refine sq_assignk (v := v) rfl rfl rfl ?_ | refine rg_movek (v := v) rfl rfl rfl ?_ | refine rg_assignk (v := v) rfl rfl rfl ?_))
            refine sq_app TYok TYz rfl rfl rfl rfl rfl rfl rfl (by decide) (hv.low (Nat.le_succ _)) (.lst _ _ _ _) (by show (tk.length + 1) * 8 ≤ _; omega) (by show tk.length + 1 ≤ _; omega) fun r G6 hr ho6 hn6 => ?_
            have hr2 : AccN (H.length + 1) G6 r (tk ++ [g]) := Acc.up hv (accN_app (b := [g]) (hr.ext fun j hj => by
              split
              · rfl
              · exact one_last g (by omega))) (by omega) hn6
            have hb6 := ho6.get hb5 (acc_ne hv (Nat.lt_succ_self _))
            (repeat' (first | (refine sq_id ?_; first | refine sq_nil ?_ | refine sm ?_ | refine sa ?_ | refine ss ?_ | refine st ?_ | refine sf ?_ | refine sp ?_ | refine sq ?_ | refine sl ?_ | refine si ?_ | refine sx ?_ | refine sy ?_ | refine sq_movek (v := r) rfl rfl rfl ?_ | refine sq_assignk (v := r) rfl rfl rfl ?_ | refine rg_movek (v := r) rfl rfl rfl ?_ | refine rg_assignk (v := r) rfl rfl rfl ?_) | (refine rg_id ?_; first | refine rg_fin ?_ | refine rm ?_ | refine ra ?_ | refine rs ?_ | refine rt ?_ | refine rf ?_ | refine rp ?_ | refine rq ?_ | refine rl ?_ | refine ri ?_ | refine rx ?_ | refine ry ?_ | refine sq_movek (v := r) rfl rfl rfl ?_ | refine sq_assignk (v := r) rfl rfl rfl ?_ | refine rg_movek (v := r) rfl rfl rfl ?_ | refine rg_assignk (v := r) rfl rfl rfl ?_) | refine aw_rseq ?_ | refine aw_seq ?_ | refine aw_region ?_ | refine aw_skip ?_ | refine ct ?_ | refine cf ?_ | refine d0s ?_ | refine d0r ?_ | refine aw_block ?_ | refine aw_exit ?_ | refine then_ret ?_ | refine then_exit ?_ | refine then_normal ?_ | refine blk_ret ?_ | refine blk_normal ?_ | refine blk_exit ?_ | refine blk_pass rfl ?_ | refine sq_movek (v := r) rfl rfl rfl ?_ | refine sq_assignk (v := r) rfl rfl rfl ?_ | refine rg_movek (v := r) rfl rfl rfl ?_ | refine rg_assignk (v := r) rfl rfl rfl ?_))
            exact ⟨(e', nx, r, tk ++ [g]), _, by rw [rstf_eq]; rfl, .refl _, ⟨_, hb6, rfl, rfl, rfl, rfl⟩, hW2.mono (Nat.le_succ k), hr2⟩
          · subst h1
            (repeat' (first | (refine sq_id ?_; first | refine sq_nil ?_ | refine sm ?_ | refine sa ?_ | refine ss ?_ | refine st ?_ | refine sf ?_ | refine sp ?_ | refine sq ?_ | refine sl ?_ | refine si ?_ | refine sx ?_ | refine sy ?_ | refine sc hC ?_) | (refine rg_id ?_; first | refine rg_fin ?_ | refine rm ?_ | refine ra ?_ | refine rs ?_ | refine rt ?_ | refine rf ?_ | refine rp ?_ | refine rq ?_ | refine rl ?_ | refine ri ?_ | refine rx ?_ | refine ry ?_ | refine sc hC ?_) | refine aw_rseq ?_ | refine aw_seq ?_ | refine aw_region ?_ | refine aw_skip ?_ | refine ct ?_ | refine cf ?_ | refine d0s ?_ | refine d0r ?_ | refine aw_block ?_ | refine aw_exit ?_ | refine then_ret ?_ | refine then_exit ?_ | refine then_normal ?_ | refine blk_ret ?_ | refine blk_normal ?_ | refine blk_exit ?_ | refine blk_pass rfl ?_ | refine sc hC ?_))
            refine nw fun G1 hn1 hoa1 hla1 => ?_
            have hb := hoa1.get0 hb
            have hvd := acc_new hv
            have hv := hv.keep0 hoa1
            refine sw hn1 fun G2 ba ho1 hl1 => ?_
            have hb := ho1.get hb (by simp; omega)
            have hv := hv.keep ho1 hvd
            (repeat' (first | (refine sq_id ?_; first | refine sq_nil ?_ | refine sm ?_ | refine sa ?_ | refine ss ?_ | refine st ?_ | refine sf ?_ | refine sp ?_ | refine sq ?_ | refine sl ?_ | refine si ?_ | refine sx ?_ | refine sy ?_) | (refine rg_id ?_; first | refine rg_fin ?_ | refine rm ?_ | refine ra ?_ | refine rs ?_ | refine rt ?_ | refine rf ?_ | refine rp ?_ | refine rq ?_ | refine rl ?_ | refine ri ?_ | refine rx ?_ | refine ry ?_) | refine aw_rseq ?_ | refine aw_seq ?_ | refine aw_region ?_ | refine aw_skip ?_ | refine ct ?_ | refine cf ?_ | refine d0s ?_ | refine d0r ?_ | refine aw_block ?_ | refine aw_exit ?_ | refine then_ret ?_ | refine then_exit ?_ | refine then_normal ?_ | refine blk_ret ?_ | refine blk_normal ?_ | refine blk_exit ?_ | refine blk_pass rfl ?_))
            refine sw hb fun H5 hb5 ho5 hl5 => ?_
            have hv := hv.keep ho5 (.inr (acc_ne hv (Nat.lt_succ_self _)).symm)
            (repeat' (first | (refine sq_id ?_; first | refine sq_nil ?_ | refine sm ?_ | refine sa ?_ | refine ss ?_ | refine st ?_ | refine sf ?_ | refine sp ?_ | refine sq ?_ | refine sl ?_ | refine si ?_ | refine sx ?_ | refine sy ?_ | refine sq_movek (v := v) rfl rfl rfl ?_ | refine sq_assignk (v := v) rfl rfl rfl ?_ | refine rg_movek (v := v) rfl rfl rfl ?_ | refine rg_assignk (v := v) rfl rfl rfl ?_) | (refine rg_id ?_; first | refine rg_fin ?_ | refine rm ?_ | refine ra ?_ | refine rs ?_ | refine rt ?_ | refine rf ?_ | refine rp ?_ | refine rq ?_ | refine rl ?_ | refine ri ?_ | refine rx ?_ | refine ry ?_ | refine sq_movek (v := v) rfl rfl rfl ?_ | refine sq_assignk (v := v) rfl rfl rfl ?_ | refine rg_movek (v := v) rfl rfl rfl ?_ | refine rg_assignk (v := v) rfl rfl rfl ?_) | refine aw_rseq ?_ | refine aw_seq ?_ | refine aw_region ?_ | refine aw_skip ?_ | refine ct ?_ | refine cf ?_ | refine d0s ?_ | refine d0r ?_ | refine aw_block ?_ | refine aw_exit ?_ | refine then_ret ?_ | refine then_exit ?_ | refine then_normal ?_ | refine blk_ret ?_ | refine blk_normal ?_ | refine blk_exit ?_ | refine blk_pass rfl ?_ | refine sq_movek (v := v) rfl rfl rfl ?_ | refine sq_assignk (v := v) rfl rfl rfl ?_ | refine rg_movek (v := v) rfl rfl rfl ?_ | refine rg_assignk (v := v) rfl rfl rfl ?_))
            exact ⟨(e', nx, v, tk), _, by rw [rstf_eq]; rfl, .refl _, ⟨_, hb5, rfl, rfl, rfl, rfl⟩, hW2.mono (Nat.le_succ k), hv⟩
      clear hb hv hW hxl hnk hbd
      rintro ⟨e, nx, v, tk⟩ Hm ⟨⟨bm, hbm, q1, q2, q3, q4⟩, hW, hv⟩
      dsimp only at hbm q1 q2 q3 q4 hW hv ⊢
      refine aw_norm H.length (ebk (epc e)) hbm q1.symm q2.symm q3.symm (one_of q3 q4) fun Hx hb hoy hly => ?_
      replace hv := hv.keep hoy (.inr (acc_ne hv (Nat.lt_succ_self _)).symm)
      clear hbm q1 q2 q3 q4 hoy hly bm Hm
      have hxl := (List.getElem?_eq_some_iff.1 hb).1
      have hlt := hW.lens
      have hnk := hW.nk
      obtain ⟨g', hvs, hg'⟩ := AccE.src (.inl hv)
      have fin1 : ∀ (r1 : AV) (G1 : AH) (g0 : Nat → List AV), Acc H.length G1 r1 3 1 (0 + tk.length) (fun j => if j < 0 then g0 j else g' (j - 0)) → (accId r1 = none ∨ ∃ id, accId r1 = some id ∧ Hx.length ≤ id) → AccN Hx.length G1 r1 tk := fun r1 G1 g0 h1 h2 => by
        have h3 := Acc.up (acc_nil Hx.length Hx 0 0 (fun _ => [])) h1 (Nat.le_refl _) h2
        rw [Nat.zero_add] at h3
        exact h3.ext fun j hj => by rw [if_neg (Nat.not_lt_zero _), Nat.sub_zero]; exact hg' j hj
      (repeat' (first | (refine sq_id ?_; first | refine sq_nil ?_ | refine sm ?_ | refine sa ?_ | refine ss ?_ | refine st ?_ | refine sf ?_ | refine sp ?_ | refine sq ?_ | refine sl ?_ | refine si ?_ | refine sx ?_ | refine sy ?_ | fail) | (refine rg_id ?_; first | refine rg_fin ?_ | refine rm ?_ | refine ra ?_ | refine rs ?_ | refine rt ?_ | refine rf ?_ | refine rp ?_ | refine rq ?_ | refine rl ?_ | refine ri ?_ | refine rx ?_ | refine ry ?_ | fail) | refine aw_rseq ?_ | refine aw_seq ?_ | refine aw_region ?_ | refine aw_skip ?_ | refine ct ?_ | refine cf ?_ | refine aw_block ?_ | refine aw_exit ?_ | refine then_ret ?_ | refine then_exit ?_ | refine then_normal ?_ | refine blk_ret ?_ | refine blk_normal ?_ | refine blk_exit ?_ | refine blk_pass rfl ?_ | fail))
      refine aw_mid [1, 5, 6, 7, 8, 9, 17] (fun r : AV => [(1, rows3 L), (5, .b true), (6, .ref H.length 6 0 0), (7, .i nx), (8, v), (9, .i k), (17, r)]) (fun r H' => H'[H.length]? = some (some (ebk (epc e))) ∧ AccN (H.length + 1) H' v tk ∧ AccN Hx.length H' r (tk ++ e.free) ∧ Hx.length ≤ H'.length) ?_ ?_
      ·
        refine yall 6 ?_
        refine ye 0 ?_
        refine sq_movek (v := v) rfl rfl rfl ?_
        refine sq_nil ?_
        refine ye 2 ?_
        refine sp ?_
        refine sq_nil ?_
        refine y2 1 3 ?_ ?_
        refine sq_app TYok TYz rfl rfl rfl rfl rfl rfl rfl (by decide) (acc_nil _ _ _ _ (fun i => [.i (tk.getD i 0)])) hvs (by show (0 + tk.length) * 8 ≤ _; omega) (by show 0 + tk.length ≤ _; omega) fun r1 G1 hr1 g1 n1 => ?_
        have hb := g1.get0 hb
        have hr1 := fin1 _ _ _ hr1 n1
        refine sq_nil ?_
        refine y1 3 ?_
        refine sl ?_
        refine sq_nil ?_
        refine y1 4 ?_
        refine sq_app TYok TYz rfl rfl rfl rfl rfl rfl rfl (by decide) (hr1.low (by omega)) (.lst _ _ _ _) (by show (tk.length + e.free.length) * 8 ≤ _; omega) (by show tk.length + e.free.length ≤ _; omega) fun r2 G2 hr2 g2 n2 => ?_
        refine sq_nil ?_
        refine ye 5 ?_
        refine sq_assignk (v := r2) rfl rfl rfl ?_
        refine sq_nil ?_
        refine yd ?_
        exact then_normal ⟨r2, _, by rw [rstf_eq]; rfl, .refl _, g2.get hb (acc_ne hr1 hxl), (hv.keep0 g1).keep g2 (acc_dis hv hr1 (Nat.le_refl _)), Acc.up hr1 (accN_app hr2) g1.1 n2, Nat.le_trans g1.1 g2.1⟩
        refine sl ?_
        refine sq_nil ?_
        refine y1 1 ?_
        refine sq_app TYok TYz rfl rfl rfl rfl rfl rfl rfl (by decide) (acc_nil _ _ _ _ (fun i => [.i (tk.getD i 0)])) hvs (by show (0 + tk.length) * 8 ≤ _; omega) (by show 0 + tk.length ≤ _; omega) fun r1 G1 hr1 g1 n1 => ?_
        have hb := g1.get0 hb
        have hr1 := fin1 _ _ _ hr1 n1
        refine sq_nil ?_
        refine y1 4 ?_
        refine sq_app TYok TYz rfl rfl rfl rfl rfl rfl rfl (by decide) (hr1.low (by omega)) (.lst _ _ _ _) (by show (tk.length + e.free.length) * 8 ≤ _; omega) (by show tk.length + e.free.length ≤ _; omega) fun r2 G2 hr2 g2 n2 => ?_
        refine sq_nil ?_
        refine ye 5 ?_
        refine sq_assignk (v := r2) rfl rfl rfl ?_
        refine sq_nil ?_
        refine yd ?_
        exact then_normal ⟨r2, _, by rw [rstf_eq]; rfl, .refl _, g2.get hb (acc_ne hr1 hxl), (hv.keep0 g1).keep g2 (acc_dis hv hr1 (Nat.le_refl _)), Acc.up hr1 (accN_app hr2) g1.1 n2, Nat.le_trans g1.1 g2.1⟩
      clear hb fin1 hvs hg' g'
      have hvo := hv
      rintro r Hz ⟨hb, hv, hr, hmz⟩
      have hN40 : ∀ j, (wN tk e j).length ≤ 41 := fun j => by rcases j with _ | _ | _ | j <;> simp [wN] <;> omega
      (repeat' (first | (refine sq_id ?_; first | refine sq_nil ?_ | refine sm ?_ | refine sa ?_ | refine ss ?_ | refine st ?_ | refine sf ?_ | refine sp ?_ | refine sq ?_ | refine sl ?_ | refine si ?_ | refine sx ?_ | refine sy ?_ | refine sq_movek (v := r) rfl rfl rfl ?_ | refine sq_assignk (v := r) rfl rfl rfl ?_ | refine rg_movek (v := r) rfl rfl rfl ?_ | refine rg_assignk (v := r) rfl rfl rfl ?_) | (refine rg_id ?_; first | refine rg_fin ?_ | refine rm ?_ | refine ra ?_ | refine rs ?_ | refine rt ?_ | refine rf ?_ | refine rp ?_ | refine rq ?_ | refine rl ?_ | refine ri ?_ | refine rx ?_ | refine ry ?_ | refine sq_movek (v := r) rfl rfl rfl ?_ | refine sq_assignk (v := r) rfl rfl rfl ?_ | refine rg_movek (v := r) rfl rfl rfl ?_ | refine rg_assignk (v := r) rfl rfl rfl ?_) | refine aw_rseq ?_ | refine aw_seq ?_ | refine aw_region ?_ | refine aw_skip ?_ | refine ct ?_ | refine cf ?_ | refine d0s ?_ | refine d0r ?_ | refine aw_block ?_ | refine aw_exit ?_ | refine then_ret ?_ | refine then_exit ?_ | refine then_normal ?_ | refine blk_ret ?_ | refine blk_normal ?_ | refine blk_exit ?_ | refine blk_pass rfl ?_ | refine sq_movek (v := r) rfl rfl rfl ?_ | refine sq_assignk (v := r) rfl rfl rfl ?_ | refine rg_movek (v := r) rfl rfl rfl ?_ | refine rg_assignk (v := r) rfl rfl rfl ?_))
      refine aw_for [1, 5, 6, 7, 8, 9, 17, 18] (fun a : Nat × AV => [(1, rows3 L), (5, .b true), (6, .ref H.length 6 0 0), (7, .i nx), (8, v), (9, .i k), (17, a.2), (18, .i a.1)]) (fun a H' => a.1 ≤ 3 ∧ H'[H.length]? = some (some (ebk (epc e))) ∧ AccN (H.length + 1) H' v tk ∧ AccN Hx.length H' a.2 (wN tk e a.1) ∧ Hx.length ≤ H'.length) (fun a => 3 - a.1) (0, r) (by rw [rstf_eq]; rfl) ⟨Nat.zero_le _, hb, hv, hr, hmz⟩ ?_
      clear hb hv hr hmz r Hz
      rintro ⟨j, r⟩ Hz ⟨hj, hb, hv, hr, hmz⟩
      dsimp only at hj hb hv hr ⊢
      have hne := acc_ne hr hxl
      have hdis := acc_dis hvo hr (Nat.le_refl _)
      have hjl := hN40 j
      by_cases hj3 : j < 3
      · rcases (by omega : j = 0 ∨ j = 1 ∨ j = 2) with rfl | rfl | rfl
        · (repeat' (first | (refine sq_id ?_; first | refine sq_nil ?_ | refine sm ?_ | refine sa ?_ | refine ss ?_ | refine st ?_ | refine sf ?_ | refine sp ?_ | refine sq ?_ | refine sl ?_ | refine si ?_ | refine sx ?_ | refine sy ?_ | refine sq_movek (v := r) rfl rfl rfl ?_ | refine sq_assignk (v := r) rfl rfl rfl ?_ | refine rg_movek (v := r) rfl rfl rfl ?_ | refine rg_assignk (v := r) rfl rfl rfl ?_) | (refine rg_id ?_; first | refine rg_fin ?_ | refine rm ?_ | refine ra ?_ | refine rs ?_ | refine rt ?_ | refine rf ?_ | refine rp ?_ | refine rq ?_ | refine rl ?_ | refine ri ?_ | refine rx ?_ | refine ry ?_ | refine sq_movek (v := r) rfl rfl rfl ?_ | refine sq_assignk (v := r) rfl rfl rfl ?_ | refine rg_movek (v := r) rfl rfl rfl ?_ | refine rg_assignk (v := r) rfl rfl rfl ?_) | refine aw_rseq ?_ | refine aw_seq ?_ | refine aw_region ?_ | refine aw_skip ?_ | refine ct ?_ | refine cf ?_ | refine d0s ?_ | refine d0r ?_ | refine aw_block ?_ | refine aw_exit ?_ | refine then_ret ?_ | refine then_exit ?_ | refine then_normal ?_ | refine blk_ret ?_ | refine blk_normal ?_ | refine blk_exit ?_ | refine blk_pass rfl ?_ | refine sq_movek (v := r) rfl rfl rfl ?_ | refine sq_assignk (v := r) rfl rfl rfl ?_ | refine rg_movek (v := r) rfl rfl rfl ?_ | refine rg_assignk (v := r) rfl rfl rfl ?_))
          refine sq_app TYok TYz rfl rfl rfl rfl rfl rfl rfl (by decide) (hr.low (by omega)) (.lst _ _ _ _) (by show ((wN tk e 0).length + e.l0.length) * 8 ≤ _; omega) (by show (wN tk e 0).length + e.l0.length ≤ _; omega) fun r' H1 hr' ho hn => ?_
          (repeat' (first | (refine sq_id ?_; first | refine sq_nil ?_ | refine sm ?_ | refine sa ?_ | refine ss ?_ | refine st ?_ | refine sf ?_ | refine sp ?_ | refine sq ?_ | refine sl ?_ | refine si ?_ | refine sx ?_ | refine sy ?_ | refine sq_movek (v := r') rfl rfl rfl ?_ | refine sq_assignk (v := r') rfl rfl rfl ?_ | refine rg_movek (v := r') rfl rfl rfl ?_ | refine rg_assignk (v := r') rfl rfl rfl ?_) | (refine rg_id ?_; first | refine rg_fin ?_ | refine rm ?_ | refine ra ?_ | refine rs ?_ | refine rt ?_ | refine rf ?_ | refine rp ?_ | refine rq ?_ | refine rl ?_ | refine ri ?_ | refine rx ?_ | refine ry ?_ | refine sq_movek (v := r') rfl rfl rfl ?_ | refine sq_assignk (v := r') rfl rfl rfl ?_ | refine rg_movek (v := r') rfl rfl rfl ?_ | refine rg_assignk (v := r') rfl rfl rfl ?_) | refine aw_rseq ?_ | refine aw_seq ?_ | refine aw_region ?_ | refine aw_skip ?_ | refine ct ?_ | refine cf ?_ | refine d0s ?_ | refine d0r ?_ | refine aw_block ?_ | refine aw_exit ?_ | refine then_ret ?_ | refine then_exit ?_ | refine then_normal ?_ | refine blk_ret ?_ | refine blk_normal ?_ | refine blk_exit ?_ | refine blk_pass rfl ?_ | refine sq_movek (v := r') rfl rfl rfl ?_ | refine sq_assignk (v := r') rfl rfl rfl ?_ | refine rg_movek (v := r') rfl rfl rfl ?_ | refine rg_assignk (v := r') rfl rfl rfl ?_))
          exact ⟨(1, r'), by rw [rstf_eq]; rfl, ⟨by show 1 ≤ 3; omega, ho.get hb hne, hv.keep ho hdis, Acc.up hr (accN_app hr') hmz hn, Nat.le_trans hmz ho.1⟩, by show 3 - 1 < 3 - 0; omega⟩
        · (repeat' (first | (refine sq_id ?_; first | refine sq_nil ?_ | refine sm ?_ | refine sa ?_ | refine ss ?_ | refine st ?_ | refine sf ?_ | refine sp ?_ | refine sq ?_ | refine sl ?_ | refine si ?_ | refine sx ?_ | refine sy ?_ | refine sq_movek (v := r) rfl rfl rfl ?_ | refine sq_assignk (v := r) rfl rfl rfl ?_ | refine rg_movek (v := r) rfl rfl rfl ?_ | refine rg_assignk (v := r) rfl rfl rfl ?_) | (refine rg_id ?_; first | refine rg_fin ?_ | refine rm ?_ | refine ra ?_ | refine rs ?_ | refine rt ?_ | refine rf ?_ | refine rp ?_ | refine rq ?_ | refine rl ?_ | refine ri ?_ | refine rx ?_ | refine ry ?_ | refine sq_movek (v := r) rfl rfl rfl ?_ | refine sq_assignk (v := r) rfl rfl rfl ?_ | refine rg_movek (v := r) rfl rfl rfl ?_ | refine rg_assignk (v := r) rfl rfl rfl ?_) | refine aw_rseq ?_ | refine aw_seq ?_ | refine aw_region ?_ | refine aw_skip ?_ | refine ct ?_ | refine cf ?_ | refine d0s ?_ | refine d0r ?_ | refine aw_block ?_ | refine aw_exit ?_ | refine then_ret ?_ | refine then_exit ?_ | refine then_normal ?_ | refine blk_ret ?_ | refine blk_normal ?_ | refine blk_exit ?_ | refine blk_pass rfl ?_ | refine sq_movek (v := r) rfl rfl rfl ?_ | refine sq_assignk (v := r) rfl rfl rfl ?_ | refine rg_movek (v := r) rfl rfl rfl ?_ | refine rg_assignk (v := r) rfl rfl rfl ?_))
          refine sq_app TYok TYz rfl rfl rfl rfl rfl rfl rfl (by decide) (hr.low (by omega)) (.lst _ _ _ _) (by show ((wN tk e 1).length + e.l1.length) * 8 ≤ _; omega) (by show (wN tk e 1).length + e.l1.length ≤ _; omega) fun r' H1 hr' ho hn => ?_
          (repeat' (first | (refine sq_id ?_; first | refine sq_nil ?_ | refine sm ?_ | refine sa ?_ | refine ss ?_ | refine st ?_ | refine sf ?_ | refine sp ?_ | refine sq ?_ | refine sl ?_ | refine si ?_ | refine sx ?_ | refine sy ?_ | refine sq_movek (v := r') rfl rfl rfl ?_ | refine sq_assignk (v := r') rfl rfl rfl ?_ | refine rg_movek (v := r') rfl rfl rfl ?_ | refine rg_assignk (v := r') rfl rfl rfl ?_) | (refine rg_id ?_; first | refine rg_fin ?_ | refine rm ?_ | refine ra ?_ | refine rs ?_ | refine rt ?_ | refine rf ?_ | refine rp ?_ | refine rq ?_ | refine rl ?_ | refine ri ?_ | refine rx ?_ | refine ry ?_ | refine sq_movek (v := r') rfl rfl rfl ?_ | refine sq_assignk (v := r') rfl rfl rfl ?_ | refine rg_movek (v := r') rfl rfl rfl ?_ | refine rg_assignk (v := r') rfl rfl rfl ?_) | refine aw_rseq ?_ | refine aw_seq ?_ | refine aw_region ?_ | refine aw_skip ?_ | refine ct ?_ | refine cf ?_ | refine d0s ?_ | refine d0r ?_ | refine aw_block ?_ | refine aw_exit ?_ | refine then_ret ?_ | refine then_exit ?_ | refine then_normal ?_ | refine blk_ret ?_ | refine blk_normal ?_ | refine blk_exit ?_ | refine blk_pass rfl ?_ | refine sq_movek (v := r') rfl rfl rfl ?_ | refine sq_assignk (v := r') rfl rfl rfl ?_ | refine rg_movek (v := r') rfl rfl rfl ?_ | refine rg_assignk (v := r') rfl rfl rfl ?_))
          exact ⟨(2, r'), by rw [rstf_eq]; rfl, ⟨by show 2 ≤ 3; omega, ho.get hb hne, hv.keep ho hdis, Acc.up hr (accN_app hr') hmz hn, Nat.le_trans hmz ho.1⟩, by show 3 - 2 < 3 - 1; omega⟩
        · (repeat' (first | (refine sq_id ?_; first | refine sq_nil ?_ | refine sm ?_ | refine sa ?_ | refine ss ?_ | refine st ?_ | refine sf ?_ | refine sp ?_ | refine sq ?_ | refine sl ?_ | refine si ?_ | refine sx ?_ | refine sy ?_ | refine sq_movek (v := r) rfl rfl rfl ?_ | refine sq_assignk (v := r) rfl rfl rfl ?_ | refine rg_movek (v := r) rfl rfl rfl ?_ | refine rg_assignk (v := r) rfl rfl rfl ?_) | (refine rg_id ?_; first | refine rg_fin ?_ | refine rm ?_ | refine ra ?_ | refine rs ?_ | refine rt ?_ | refine rf ?_ | refine rp ?_ | refine rq ?_ | refine rl ?_ | refine ri ?_ | refine rx ?_ | refine ry ?_ | refine sq_movek (v := r) rfl rfl rfl ?_ | refine sq_assignk (v := r) rfl rfl rfl ?_ | refine rg_movek (v := r) rfl rfl rfl ?_ | refine rg_assignk (v := r) rfl rfl rfl ?_) | refine aw_rseq ?_ | refine aw_seq ?_ | refine aw_region ?_ | refine aw_skip ?_ | refine ct ?_ | refine cf ?_ | refine d0s ?_ | refine d0r ?_ | refine aw_block ?_ | refine aw_exit ?_ | refine then_ret ?_ | refine then_exit ?_ | refine then_normal ?_ | refine blk_ret ?_ | refine blk_normal ?_ | refine blk_exit ?_ | refine blk_pass rfl ?_ | refine sq_movek (v := r) rfl rfl rfl ?_ | refine sq_assignk (v := r) rfl rfl rfl ?_ | refine rg_movek (v := r) rfl rfl rfl ?_ | refine rg_assignk (v := r) rfl rfl rfl ?_))
          refine sq_app TYok TYz rfl rfl rfl rfl rfl rfl rfl (by decide) (hr.low (by omega)) (.lst _ _ _ _) (by show ((wN tk e 2).length + e.l2.length) * 8 ≤ _; omega) (by show (wN tk e 2).length + e.l2.length ≤ _; omega) fun r' H1 hr' ho hn => ?_
          (repeat' (first | (refine sq_id ?_; first | refine sq_nil ?_ | refine sm ?_ | refine sa ?_ | refine ss ?_ | refine st ?_ | refine sf ?_ | refine sp ?_ | refine sq ?_ | refine sl ?_ | refine si ?_ | refine sx ?_ | refine sy ?_ | refine sq_movek (v := r') rfl rfl rfl ?_ | refine sq_assignk (v := r') rfl rfl rfl ?_ | refine rg_movek (v := r') rfl rfl rfl ?_ | refine rg_assignk (v := r') rfl rfl rfl ?_) | (refine rg_id ?_; first | refine rg_fin ?_ | refine rm ?_ | refine ra ?_ | refine rs ?_ | refine rt ?_ | refine rf ?_ | refine rp ?_ | refine rq ?_ | refine rl ?_ | refine ri ?_ | refine rx ?_ | refine ry ?_ | refine sq_movek (v := r') rfl rfl rfl ?_ | refine sq_assignk (v := r') rfl rfl rfl ?_ | refine rg_movek (v := r') rfl rfl rfl ?_ | refine rg_assignk (v := r') rfl rfl rfl ?_) | refine aw_rseq ?_ | refine aw_seq ?_ | refine aw_region ?_ | refine aw_skip ?_ | refine ct ?_ | refine cf ?_ | refine d0s ?_ | refine d0r ?_ | refine aw_block ?_ | refine aw_exit ?_ | refine then_ret ?_ | refine then_exit ?_ | refine then_normal ?_ | refine blk_ret ?_ | refine blk_normal ?_ | refine blk_exit ?_ | refine blk_pass rfl ?_ | refine sq_movek (v := r') rfl rfl rfl ?_ | refine sq_assignk (v := r') rfl rfl rfl ?_ | refine rg_movek (v := r') rfl rfl rfl ?_ | refine rg_assignk (v := r') rfl rfl rfl ?_))
          exact ⟨(3, r'), by rw [rstf_eq]; rfl, ⟨by show 3 ≤ 3; omega, ho.get hb hne, hv.keep ho hdis, Acc.up hr (accN_app hr') hmz hn, Nat.le_trans hmz ho.1⟩, by show 3 - 3 < 3 - 2; omega⟩
      have hj3e : j = 3 := by omega
      subst hj3e
      have hl := hW.perm.length_eq
      rw [iota_len] at hl
      have hl : (wN tk e 3).length = nx := hl
      have hmem : ∀ i, i < nx → (i : Int) ∈ wN tk e 3 := fun i hi => hW.perm.mem_iff.2 (iota_mem nx i hi)
      refine aw_freeze 17 (show Acc H.length Hz r _ _ _ _ from hr.low (by omega)) fun H5 ho5 => ?_
      have hb5 := ho5.get hb hne
      have hv5 := hv.keep ho5 hdis
      clear hb hv hr hne hdis hN40 hmz ho5 hvo
      generalize wN tk e 3 = l at *
      have hrt := right_s e hW.right.bd
      rw [decide_eq_true hW.right] at hrt
      (repeat' (first | (refine sq_id ?_; first | refine sq_nil ?_ | refine sm ?_ | refine sa ?_ | refine ss ?_ | refine st ?_ | refine sf ?_ | refine sp ?_ | refine sq ?_ | refine sl ?_ | refine si ?_ | refine sx ?_ | refine sy ?_ | refine sc hrt ?_ | fail) | (refine rg_id ?_; first | refine rg_fin ?_ | refine rm ?_ | refine ra ?_ | refine rs ?_ | refine rt ?_ | refine rf ?_ | refine rp ?_ | refine rq ?_ | refine rl ?_ | refine ri ?_ | refine rx ?_ | refine ry ?_ | refine sc hrt ?_ | fail) | refine aw_rseq ?_ | refine aw_seq ?_ | refine aw_region ?_ | refine aw_skip ?_ | refine ct ?_ | refine cf ?_ | refine d0s ?_ | refine d0r ?_ | refine aw_block ?_ | refine aw_exit ?_ | refine then_ret ?_ | refine then_exit ?_ | refine then_normal ?_ | refine blk_ret ?_ | refine blk_normal ?_ | refine blk_exit ?_ | refine blk_pass rfl ?_ | refine sc hrt ?_ | fail))
      refine aw_for [1, 5, 6, 7, 8, 9, 17, 19] (fun n : Nat => [(1, rows3 L), (5, .b true), (6, .ref H.length 6 0 0), (7, .i nx), (8, v), (9, .i k), (17, ints l), (19, .i n)]) (fun n H' => n ≤ nx ∧ H' = H5) (fun n => nx - n) 0 (by rw [rstf_eq]; rfl) ⟨Nat.zero_le _, rfl⟩ ?_
      rintro n Hn ⟨hn, rfl⟩
      by_cases hnl : n < nx
      · have hin := in_s l n (by omega)
        rw [decide_eq_true (hmem n hnl)] at hin
        (repeat' (first | (refine sq_id ?_; first | refine sq_nil ?_ | refine sm ?_ | refine sa ?_ | refine ss ?_ | refine st ?_ | refine sf ?_ | refine sp ?_ | refine sq ?_ | refine sl ?_ | refine si ?_ | refine sx ?_ | refine sy ?_ | refine sc hin ?_ | fail) | (refine rg_id ?_; first | refine rg_fin ?_ | refine rm ?_ | refine ra ?_ | refine rs ?_ | refine rt ?_ | refine rf ?_ | refine rp ?_ | refine rq ?_ | refine rl ?_ | refine ri ?_ | refine rx ?_ | refine ry ?_ | refine sc hin ?_ | fail) | refine aw_rseq ?_ | refine aw_seq ?_ | refine aw_region ?_ | refine aw_skip ?_ | refine ct ?_ | refine cf ?_ | refine d0s ?_ | refine d0r ?_ | refine aw_block ?_ | refine aw_exit ?_ | refine then_ret ?_ | refine then_exit ?_ | refine then_normal ?_ | refine blk_ret ?_ | refine blk_normal ?_ | refine blk_exit ?_ | refine blk_pass rfl ?_ | refine sc hin ?_ | fail))
        exact ⟨n + 1, by rw [rstf_eq]; rfl, ⟨by omega, rfl⟩, by omega⟩
      rcases hv5 with ⟨hz, rfl⟩ | ⟨id, b, hid, rfl, hvb, u1, u2, u3, u4⟩
      · (repeat' (first | (refine sq_id ?_; first | refine sq_nil ?_ | refine sm ?_ | refine sa ?_ | refine ss ?_ | refine st ?_ | refine sf ?_ | refine sp ?_ | refine sq ?_ | refine sl ?_ | refine si ?_ | refine sx ?_ | refine sy ?_) | (refine rg_id ?_; first | refine rg_fin ?_ | refine rm ?_ | refine ra ?_ | refine rs ?_ | refine rt ?_ | refine rf ?_ | refine rp ?_ | refine rq ?_ | refine rl ?_ | refine ri ?_ | refine rx ?_ | refine ry ?_) | refine aw_rseq ?_ | refine aw_seq ?_ | refine aw_region ?_ | refine aw_skip ?_ | refine ct ?_ | refine cf ?_ | refine d0s ?_ | refine d0r ?_ | refine aw_block ?_ | refine aw_exit ?_ | refine then_ret ?_ | refine then_exit ?_ | refine then_normal ?_ | refine blk_ret ?_ | refine blk_normal ?_ | refine blk_exit ?_ | refine blk_pass rfl ?_))
        refine aw_for [1, 5, 6, 7, 8, 9, 20] (fun i : Nat => [(1, rows3 L), (5, .b true), (6, .ref H.length 6 0 0), (7, .i nx), (8, .p (.slice none 0 0)), (9, .i k), (20, .i (i + 1 : Nat))]) (fun i H' => i = 0 ∧ H' = Hn) (fun i => 0) 0 (by rw [rstf_eq]; rfl) ⟨rfl, rfl⟩ ?_
        rintro i Hi ⟨rfl, rfl⟩
        (repeat' (first | (refine sq_id ?_; first | refine sq_nil ?_ | refine sm ?_ | refine sa ?_ | refine ss ?_ | refine st ?_ | refine sf ?_ | refine sp ?_ | refine sq ?_ | refine sl ?_ | refine si ?_ | refine sx ?_ | refine sy ?_) | (refine rg_id ?_; first | refine rg_fin ?_ | refine rm ?_ | refine ra ?_ | refine rs ?_ | refine rt ?_ | refine rf ?_ | refine rp ?_ | refine rq ?_ | refine rl ?_ | refine ri ?_ | refine rx ?_ | refine ry ?_) | refine aw_rseq ?_ | refine aw_seq ?_ | refine aw_region ?_ | refine aw_skip ?_ | refine ct ?_ | refine cf ?_ | refine d0s ?_ | refine d0r ?_ | refine aw_block ?_ | refine aw_exit ?_ | refine then_ret ?_ | refine then_exit ?_ | refine then_normal ?_ | refine blk_ret ?_ | refine blk_normal ?_ | refine blk_exit ?_ | refine blk_pass rfl ?_))
        exact ⟨(e, nx, .p (.slice none 0 0), tk, k + 1), by rw [rstf_eq]; rfl, ⟨by show k + 1 ≤ _; omega, by show k + 1 ≤ _; omega, ⟨_, hb5, rfl, rfl, rfl, rfl⟩, hW, .inl ⟨hz, rfl⟩⟩, by show L.length - (k + 1) < L.length - k; omega⟩
      · refine aw_norm id (iblk tk) hvb u1.symm u2.symm u3.symm (fun i hi => u4 i (by omega)) fun Hv hvb hov hlv => ?_
        have hb5 := hov.get hb5 (by simp; omega)
        clear u1 u2 u3 u4
        (repeat' (first | (refine sq_id ?_; first | refine sq_nil ?_ | refine sm ?_ | refine sa ?_ | refine ss ?_ | refine st ?_ | refine sf ?_ | refine sp ?_ | refine sq ?_ | refine sl ?_ | refine si ?_ | refine sx ?_ | refine sy ?_ | fail) | (refine rg_id ?_; first | refine rg_fin ?_ | refine rm ?_ | refine ra ?_ | refine rs ?_ | refine rt ?_ | refine rf ?_ | refine rp ?_ | refine rq ?_ | refine rl ?_ | refine ri ?_ | refine rx ?_ | refine ry ?_ | fail) | refine aw_rseq ?_ | refine aw_seq ?_ | refine aw_region ?_ | refine aw_skip ?_ | refine ct ?_ | refine cf ?_ | refine d0s ?_ | refine d0r ?_ | refine aw_block ?_ | refine aw_exit ?_ | refine then_ret ?_ | refine then_exit ?_ | refine then_normal ?_ | refine blk_ret ?_ | refine blk_normal ?_ | refine blk_exit ?_ | refine blk_pass rfl ?_ | fail))
        refine aw_for [1, 5, 6, 7, 8, 9, 20] (fun i : Nat => [(1, rows3 L), (5, .b true), (6, .ref H.length 6 0 0), (7, .i nx), (8, .arr id 1 0 tk.length), (9, .i k), (20, .i (i + 1 : Nat))]) (fun i H' => H' = Hv) (fun i => tk.length - i) 0 (by rw [rstf_eq]; rfl) rfl ?_
        rintro i Hi rfl
        by_cases hil : i + 1 < tk.length
        · have f1 : tk.getD (badd 0 (i + 1)) 0 = ((i + 1 : Nat) : Int) := hW.tks (i + 1) hil
          have f2 : tk.getD (badd 0 ((((i + 1 : Nat) : Int) - 1).toNat)) 0 = (i : Int) := by
            rw [show ((((i + 1 : Nat) : Int) - 1).toNat) = i by omega]
            exact hW.tks i (by omega)
          have hil2 : badd 0 ((((i + 1 : Nat) : Int) - 1).toNat) < tk.length := by
            show ((((i + 1 : Nat) : Int) - 1).toNat) < _
            omega
          (repeat' (first | (refine sq_id ?_; first | refine sq_nil ?_ | refine sm ?_ | refine sa ?_ | refine ss ?_ | refine st ?_ | refine sf ?_ | refine sp ?_ | refine sq ?_ | refine sl ?_ | refine si ?_ | refine sx ?_ | refine sy ?_) | (refine rg_id ?_; first | refine rg_fin ?_ | refine rm ?_ | refine ra ?_ | refine rs ?_ | refine rt ?_ | refine rf ?_ | refine rp ?_ | refine rq ?_ | refine rl ?_ | refine ri ?_ | refine rx ?_ | refine ry ?_) | refine aw_rseq ?_ | refine aw_seq ?_ | refine aw_region ?_ | refine aw_skip ?_ | refine ct ?_ | refine cf ?_ | refine d0s ?_ | refine d0r ?_ | refine aw_block ?_ | refine aw_exit ?_ | refine then_ret ?_ | refine then_exit ?_ | refine then_normal ?_ | refine blk_ret ?_ | refine blk_normal ?_ | refine blk_exit ?_ | refine blk_pass rfl ?_))
          exact ⟨i + 1, by rw [rstf_eq]; rfl, List.append_nil _, by omega⟩
        · (repeat' (first | (refine sq_id ?_; first | refine sq_nil ?_ | refine sm ?_ | refine sa ?_ | refine ss ?_ | refine st ?_ | refine sf ?_ | refine sp ?_ | refine sq ?_ | refine sl ?_ | refine si ?_ | refine sx ?_ | refine sy ?_) | (refine rg_id ?_; first | refine rg_fin ?_ | refine rm ?_ | refine ra ?_ | refine rs ?_ | refine rt ?_ | refine rf ?_ | refine rp ?_ | refine rq ?_ | refine rl ?_ | refine ri ?_ | refine rx ?_ | refine ry ?_) | refine aw_rseq ?_ | refine aw_seq ?_ | refine aw_region ?_ | refine aw_skip ?_ | refine ct ?_ | refine cf ?_ | refine d0s ?_ | refine d0r ?_ | refine aw_block ?_ | refine aw_exit ?_ | refine then_ret ?_ | refine then_exit ?_ | refine then_normal ?_ | refine blk_ret ?_ | refine blk_normal ?_ | refine blk_exit ?_ | refine blk_pass rfl ?_))
          exact ⟨(e, nx, .arr id 1 0 tk.length, tk, k + 1), by rw [rstf_eq]; rfl, ⟨by show k + 1 ≤ _; omega, by show k + 1 ≤ _; omega, ⟨_, hb5, rfl, rfl, rfl, rfl⟩, hW, .inr ⟨id, _, hid, rfl, hvb, rfl, rfl, rfl, fun _ _ => rfl⟩⟩, by show L.length - (k + 1) < L.length - k; omega⟩
    · (repeat' (first | (refine sq_id ?_; first | refine sq_nil ?_ | refine sm ?_ | refine sa ?_ | refine ss ?_ | refine st ?_ | refine sf ?_ | refine sp ?_ | refine sq ?_ | refine sl ?_ | refine si ?_ | refine sx ?_ | refine sy ?_) | (refine rg_id ?_; first | refine rg_fin ?_ | refine rm ?_ | refine ra ?_ | refine rs ?_ | refine rt ?_ | refine rf ?_ | refine rp ?_ | refine rq ?_ | refine rl ?_ | refine ri ?_ | refine rx ?_ | refine ry ?_) | refine aw_rseq ?_ | refine aw_seq ?_ | refine aw_region ?_ | refine aw_skip ?_ | refine ct ?_ | refine cf ?_ | refine d0s ?_ | refine d0r ?_ | refine aw_block ?_ | refine aw_exit ?_ | refine then_ret ?_ | refine then_exit ?_ | refine then_normal ?_ | refine blk_ret ?_ | refine blk_normal ?_ | refine blk_exit ?_ | refine blk_pass rfl ?_))
      ((try refine aw_ret ?_); (repeat (first | refine then_ret ?_ | refine blk_ret ?_)); refine fin_t True.intro rfl rfl ?_)
      exact rfl
  · (repeat' (first | (refine sq_id ?_; first | refine sq_nil ?_ | refine sm ?_ | refine sa ?_ | refine ss ?_ | refine st ?_ | refine sf ?_ | refine sp ?_ | refine sq ?_ | refine sl ?_ | refine si ?_ | refine sx ?_ | refine sy ?_) | (refine rg_id ?_; first | refine rg_fin ?_ | refine rm ?_ | refine ra ?_ | refine rs ?_ | refine rt ?_ | refine rf ?_ | refine rp ?_ | refine rq ?_ | refine rl ?_ | refine ri ?_ | refine rx ?_ | refine ry ?_) | refine aw_rseq ?_ | refine aw_seq ?_ | refine aw_region ?_ | refine aw_skip ?_ | refine ct ?_ | refine cf ?_ | refine d0s ?_ | refine d0r ?_ | refine aw_block ?_ | refine aw_exit ?_ | refine then_ret ?_ | refine then_exit ?_ | refine then_normal ?_ | refine blk_ret ?_ | refine blk_normal ?_ | refine blk_exit ?_ | refine blk_pass rfl ?_))
    ((try refine aw_ret ?_); (repeat (first | refine then_ret ?_ | refine blk_ret ?_)); refine fin_t True.intro rfl rfl ?_)
    exact rfl
theorem whole_s (w : Int) (L : List (Int × Int × Int)) (hw : I64 w) (hL : L.length ≤ maxLen ∧ R64 L) :
    SC true Try.prog 7 [.i w, rows3 L] [] (fun r _ => r = .b true) := wholeH_s [] w L hw hL
end Go.Proofs.Ytmhepmocnnlhnaa.Ab
