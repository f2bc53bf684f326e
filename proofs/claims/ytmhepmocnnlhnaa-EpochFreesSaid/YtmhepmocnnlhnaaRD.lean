/- EpochFrees. -/
import Derived.Test.YtmhepmocnnlhnaaQW
import Derived.Test.YtmhepmocnnlhnaaQX
import Derived.Test.YtmhepmocnnlhnaaFE
namespace Go.Proofs.Ytmhepmocnnlhnaa.Ab
open Go Go.RowKit
def allN (U : Ep) : Nat → List Int
  | 0 => []
  | 1 => [] ++ U.l0
  | 2 => [] ++ U.l0 ++ U.l1
  | _ => [] ++ U.l0 ++ U.l1 ++ U.l2
abbrev AccN (k0 : Nat) (H : AH) (v : AV) (xs : List Int) : Prop := Acc k0 H v 3 1 xs.length (fun i => [.i (xs.getD i 0)])
theorem accN_app {k0 : Nat} {H : AH} {v : AV} {a b : List Int} (h : Acc k0 H v 3 1 (a.length + b.length) (fun j => if j < a.length then [AV.i (a.getD j 0)] else [AV.i (b.getD (j - a.length) 0)])) : AccN k0 H v (a ++ b) := by
  have := h.ext (g' := fun i => [AV.i ((a ++ b).getD i 0)]) fun j _ => app_cell a b j
  rwa [← List.length_append] at this
theorem right_drop {b : Ep} (h : RightE b) (k : Nat) : RightE { b with free := b.free.drop k } := by
  obtain ⟨h1, h2, h3, h4, h5, h6⟩ := h
  have hs : (nodesL { b with free := b.free.drop k }).Sublist (nodesL b) := by
    simp only [nodesL, nodesK]
    exact (((List.drop_sublist k b.free).append (List.Sublist.refl _)).append (List.Sublist.refl _)).append (List.Sublist.refl _)
  exact ⟨h1, h2, h3, Nat.le_trans hs.length_le h4, h5.sublist hs, fun n hn => h6 n (hs.subset hn)⟩
theorem drop_facts {b : Ep} (h : RightE b) {k : Nat} (hk : k < b.free.length) : (b.free.drop k).getD 0 0 ∈ b.free ∧ (b.free.drop k).getD 0 0 ∉ (b.free.drop k).drop 1 ∧ b.free.drop k ≠ [] := by
  have hd : (b.free.drop k).Nodup := by
    have := h.2.2.2.2.1
    simp only [nodesL, nodesK, List.append_assoc] at this
    exact ((List.nodup_append.1 this).1).sublist (List.drop_sublist k b.free)
  have hne : b.free.drop k ≠ [] := fun hx => by have := congrArg List.length hx; simp at this; omega
  have hsub : ∀ x ∈ b.free.drop k, x ∈ b.free := fun x hx => List.mem_of_mem_drop hx
  generalize b.free.drop k = l at *
  cases l with
  | nil => exact absurd rfl hne
  | cons x l => exact ⟨hsub x (List.mem_cons_self ..), (List.nodup_cons.1 hd).1, hne⟩
theorem frees_chain {wl : Nat} {U : Ep} (hU : EI wl 40 20 U) (hp : ∀ p ∈ U.pins, p = 0) (hg : Gap U) :
    ∃ a b, advanceE U = (a, true, 0) ∧ advanceE a = (b, true, 0) ∧ RightE a ∧ RightE b ∧ b.now = U.now + 2 ∧ b.free.length = (allN U 3 ++ U.free).length ∧ ∀ n, n ∈ b.free ↔ n ∈ allN U 3 ++ U.free := by
  have hn := hU.now
  have hN := hU.right.1.1
  have e1 := advance_ok hU.right hp (by omega)
  have I1 := hU.advance
  rw [e1] at I1
  dsimp only at I1
  obtain ⟨a1, a2⟩ := advT_now U
  have e2 := advance_ok I1.right (by rw [a2]; exact hp) (by omega)
  have I2 := I1.advance
  rw [e2] at I2
  dsimp only at I2
  obtain ⟨b1, b2⟩ := advT_now (advT U)
  refine ⟨_, _, e1, e2, I1.right, I2.right, by omega, ?_, ?_⟩
  · rw [free_advT, free_advT, a1, lim_advT U _ (mod3 _), if_neg (by omega)]
    unfold Gap at hg
    rcases mod3 U.now with h | h | h
    · rw [show (U.now + 1 + 2) % 3 = 0 by omega, show (U.now + 2) % 3 = 2 by omega]
      rw [show (U.now + 1) % 3 = 1 by omega] at hg
      have hg : U.l1 = [] := hg
      show ((U.free ++ U.l2) ++ U.l0).length = ([] ++ U.l0 ++ U.l1 ++ U.l2 ++ U.free).length
      simp only [List.length_append, hg, List.length_nil]; omega
    · rw [show (U.now + 1 + 2) % 3 = 1 by omega, show (U.now + 2) % 3 = 0 by omega]
      rw [show (U.now + 1) % 3 = 2 by omega] at hg
      have hg : U.l2 = [] := hg
      show ((U.free ++ U.l0) ++ U.l1).length = ([] ++ U.l0 ++ U.l1 ++ U.l2 ++ U.free).length
      simp only [List.length_append, hg, List.length_nil]; omega
    · rw [show (U.now + 1 + 2) % 3 = 2 by omega, show (U.now + 2) % 3 = 1 by omega]
      rw [show (U.now + 1) % 3 = 0 by omega] at hg
      have hg : U.l0 = [] := hg
      show ((U.free ++ U.l1) ++ U.l2).length = ([] ++ U.l0 ++ U.l1 ++ U.l2 ++ U.free).length
      simp only [List.length_append, hg, List.length_nil]; omega
  · intro n
    rw [free_advT, free_advT, a1, lim_advT U _ (mod3 _), if_neg (by omega)]
    unfold Gap at hg
    rcases mod3 U.now with h | h | h
    · rw [show (U.now + 1 + 2) % 3 = 0 by omega, show (U.now + 2) % 3 = 2 by omega]
      rw [show (U.now + 1) % 3 = 1 by omega] at hg
      have hg : U.l1 = [] := hg
      show n ∈ ((U.free ++ U.l2) ++ U.l0) ↔ n ∈ ([] ++ U.l0 ++ U.l1 ++ U.l2 ++ U.free)
      simp only [List.mem_append, hg, List.not_mem_nil, false_or, or_false]
      constructor <;> rintro h
      · rcases h with (h | h) | h
        · exact .inr h
        · exact .inl (.inr h)
        · exact .inl (.inl h)
      · rcases h with (h | h) | h
        · exact .inr h
        · exact .inl (.inr h)
        · exact .inl (.inl h)
    · rw [show (U.now + 1 + 2) % 3 = 1 by omega, show (U.now + 2) % 3 = 0 by omega]
      rw [show (U.now + 1) % 3 = 2 by omega] at hg
      have hg : U.l2 = [] := hg
      show n ∈ ((U.free ++ U.l0) ++ U.l1) ↔ n ∈ ([] ++ U.l0 ++ U.l1 ++ U.l2 ++ U.free)
      simp only [List.mem_append, hg, List.not_mem_nil, false_or, or_false]
      constructor <;> rintro h
      · rcases h with (h | h) | h
        · exact .inr h
        · exact .inl (.inl h)
        · exact .inl (.inr h)
      · rcases h with (h | h) | h
        · exact .inl (.inr h)
        · exact .inr h
        · exact .inl (.inl h)
    · rw [show (U.now + 1 + 2) % 3 = 2 by omega, show (U.now + 2) % 3 = 1 by omega]
      rw [show (U.now + 1) % 3 = 0 by omega] at hg
      have hg : U.l0 = [] := hg
      show n ∈ ((U.free ++ U.l1) ++ U.l2) ↔ n ∈ ([] ++ U.l0 ++ U.l1 ++ U.l2 ++ U.free)
      simp only [List.mem_append, hg, List.not_mem_nil, false_or, or_false]
      constructor <;> rintro h
      · rcases h with (h | h) | h
        · exact .inr h
        · exact .inl (.inl h)
        · exact .inl (.inr h)
      · rcases h with (h | h) | h
        · exact .inl (.inr h)
        · exact .inr h
        · exact .inl (.inl h)
theorem gap_unp {w k : Nat} {m : Int} {E : Ep} (h : EI w k m E) (hg : Gap E) : Gap (unp E w) := by
  obtain ⟨_, _, h3, _⟩ := unp_inv h w (Nat.le_refl _)
  rw [h3]
  exact hg
set_option maxHeartbeats 16000000 in
theorem freesH_s (H : AH) (w : Int) (L : List (Int × Int × Int)) (hw : I64 w) (hL : L.length ≤ maxLen ∧ R64 L) :
    SC true Try.prog 5 [.i w, rows3 L] H (fun r _ => r = .b true) := by
  have hA := awake_s
  have hEp := epochs_s w hw L hL.2 hL.1
  have hI := epochs_inv w L
  have hG := gap_epochs w L
  generalize epochsE w L = e at *
  have hw5 := pick_bd w 5 (by decide)
  generalize hwl : (1 + pick w 5).toNat = wl at *
  have hwl5 : 1 ≤ wl ∧ wl ≤ 5 := by omega
  refine sc_in TYok Try.func5 (by kernel_rfl) Try.ntmps5 rfl rfl rfl ?_
  (repeat' (first | (refine sq_id ?_; first | refine sq_nil ?_ | refine sm ?_ | refine sa ?_ | refine ss ?_ | refine st ?_ | refine sf ?_ | refine sp ?_ | refine sq ?_ | refine sl ?_ | refine si ?_ | refine sx ?_ | refine sy ?_ | refine sc hA ?_ | refine sc hEp ?_) | (refine rg_id ?_; first | refine rg_fin ?_ | refine rm ?_ | refine ra ?_ | refine rs ?_ | refine rt ?_ | refine rf ?_ | refine rp ?_ | refine rq ?_ | refine rl ?_ | refine ri ?_ | refine rx ?_ | refine ry ?_ | refine sc hA ?_ | refine sc hEp ?_) | refine aw_rseq ?_ | refine aw_seq ?_ | refine aw_region ?_ | refine aw_skip ?_ | refine ct ?_ | refine cf ?_ | refine d0s ?_ | refine d0r ?_ | refine aw_block ?_ | refine aw_exit ?_ | refine then_ret ?_ | refine then_exit ?_ | refine then_normal ?_ | refine blk_ret ?_ | refine blk_normal ?_ | refine blk_exit ?_ | refine blk_pass rfl ?_ | refine sc hA ?_ | refine sc hEp ?_))
  refine nw fun H1 hb1 ho1 hl1 => ?_
  refine sw hb1 fun H2 hb2 ho2 hl2 => ?_
  refine sq_nil ?_
  refine aw_norm H.length (ebk (epc e)) hb2 rfl rfl rfl (one_of rfl rfl) fun H3 hb3 ho3 hl3 => ?_
  (repeat' (first | (refine sq_id ?_; first | refine sq_nil ?_ | refine sm ?_ | refine sa ?_ | refine ss ?_ | refine st ?_ | refine sf ?_ | refine sp ?_ | refine sq ?_ | refine sl ?_ | refine si ?_ | refine sx ?_ | refine sy ?_) | (refine rg_id ?_; first | refine rg_fin ?_ | refine rm ?_ | refine ra ?_ | refine rs ?_ | refine rt ?_ | refine rf ?_ | refine rp ?_ | refine rq ?_ | refine rl ?_ | refine ri ?_ | refine rx ?_ | refine ry ?_) | refine aw_rseq ?_ | refine aw_seq ?_ | refine aw_region ?_ | refine aw_skip ?_ | refine ct ?_ | refine cf ?_ | refine d0s ?_ | refine d0r ?_ | refine aw_block ?_ | refine aw_exit ?_ | refine then_ret ?_ | refine then_exit ?_ | refine then_normal ?_ | refine blk_ret ?_ | refine blk_normal ?_ | refine blk_exit ?_ | refine blk_pass rfl ?_))
  refine aw_for [5, 6, 7] (fun k : Nat => [(5, .b true), (6, .ref H.length 6 0 0), (7, .i k)]) (fun k H' => k ≤ wl ∧ IsBox H' H.length (epc (unp e k))) (fun k => wl - k) 0 (by rw [rstf_eq]; rfl) ⟨by omega, _, hb3, rfl, rfl, rfl, rfl⟩ ?_
  clear hb1 hb2 hb3 ho1 ho2 ho3 hl1 hl2 hl3 hEp
  rintro k Hm ⟨hk, bm, hbm, q1, q2, q3, q4⟩
  refine aw_norm H.length (ebk (epc (unp e k))) hbm q1.symm q2.symm q3.symm (one_of q3 q4) fun Hx hb hoy hly => ?_
  clear hbm q1 q2 q3 q4 hoy hly
  have hxl := (List.getElem?_eq_some_iff.1 hb).1
  obtain ⟨hU, _, _, hu2⟩ := unp_inv hI k hk
  have hus : unp e (k + 1) = if (unp e k).pins.getD k 0 ≠ 0 then (unpinE (unp e k) k).1 else unp e k := rfl
  have hull := hU.wl
  have hall := unp_all hI
  have hGu := gap_unp hI hG
  by_cases hkl : k < wl
  · have hkl' : k < (unp e k).pins.length := by omega
    by_cases hz : (unp e k).pins.getD k 0 = 0
    · rw [if_neg (fun h => h hz)] at hus
      have hz' : (unp e k).pins.getD (badd 0 k) 0 = 0 := hz
      generalize unp e k = u at *
      (repeat' (first | (refine sq_id ?_; first | refine sq_nil ?_ | refine sm ?_ | refine sa ?_ | refine ss ?_ | refine st ?_ | refine sf ?_ | refine sp ?_ | refine sq ?_ | refine sl ?_ | refine si ?_ | refine sx ?_ | refine sy ?_) | (refine rg_id ?_; first | refine rg_fin ?_ | refine rm ?_ | refine ra ?_ | refine rs ?_ | refine rt ?_ | refine rf ?_ | refine rp ?_ | refine rq ?_ | refine rl ?_ | refine ri ?_ | refine rx ?_ | refine ry ?_) | refine aw_rseq ?_ | refine aw_seq ?_ | refine aw_region ?_ | refine aw_skip ?_ | refine ct ?_ | refine cf ?_ | refine d0s ?_ | refine d0r ?_ | refine aw_block ?_ | refine aw_exit ?_ | refine then_ret ?_ | refine then_exit ?_ | refine then_normal ?_ | refine blk_ret ?_ | refine blk_normal ?_ | refine blk_exit ?_ | refine blk_pass rfl ?_))
      exact ⟨k + 1, by rw [rstf_eq]; rfl, ⟨by omega, by rw [hus]; exact ⟨_, hb, rfl, rfl, rfl, rfl⟩⟩, by omega⟩
    · rw [if_pos hz] at hus
      have hz' : ¬ (unp e k).pins.getD (badd 0 k) 0 = 0 := hz
      have he0 := hu2 hkl hz
      generalize unp e k = u at *
      have hC := unpin_s u hU.right.bd k
      obtain ⟨q, hq⟩ : ∃ q, q = unpinE u k := ⟨_, rfl⟩
      rw [← hq] at hC hus he0
      obtain ⟨u', er⟩ := q
      clear hq
      have he0 : er = 0 := he0
      subst he0
      try dsimp only at hus
      (repeat' (first | (refine sq_id ?_; first | refine sq_nil ?_ | refine sm ?_ | refine sa ?_ | refine ss ?_ | refine st ?_ | refine sf ?_ | refine sp ?_ | refine sq ?_ | refine sl ?_ | refine si ?_ | refine sx ?_ | refine sy ?_ | refine sc hC ?_) | (refine rg_id ?_; first | refine rg_fin ?_ | refine rm ?_ | refine ra ?_ | refine rs ?_ | refine rt ?_ | refine rf ?_ | refine rp ?_ | refine rq ?_ | refine rl ?_ | refine ri ?_ | refine rx ?_ | refine ry ?_ | refine sc hC ?_) | refine aw_rseq ?_ | refine aw_seq ?_ | refine aw_region ?_ | refine aw_skip ?_ | refine ct ?_ | refine cf ?_ | refine d0s ?_ | refine d0r ?_ | refine aw_block ?_ | refine aw_exit ?_ | refine then_ret ?_ | refine then_exit ?_ | refine then_normal ?_ | refine blk_ret ?_ | refine blk_normal ?_ | refine blk_exit ?_ | refine blk_pass rfl ?_ | refine sc hC ?_))
      refine nw fun H1a hn1 hoa1 hla1 => ?_
      have hb := hoa1.get0 hb
      refine sw hn1 fun H1 ba ho1 hl1 => ?_
      have hb := ho1.get hb (by simp; omega)
      (repeat' (first | (refine sq_id ?_; first | refine sq_nil ?_ | refine sm ?_ | refine sa ?_ | refine ss ?_ | refine st ?_ | refine sf ?_ | refine sp ?_ | refine sq ?_ | refine sl ?_ | refine si ?_ | refine sx ?_ | refine sy ?_) | (refine rg_id ?_; first | refine rg_fin ?_ | refine rm ?_ | refine ra ?_ | refine rs ?_ | refine rt ?_ | refine rf ?_ | refine rp ?_ | refine rq ?_ | refine rl ?_ | refine ri ?_ | refine rx ?_ | refine ry ?_) | refine aw_rseq ?_ | refine aw_seq ?_ | refine aw_region ?_ | refine aw_skip ?_ | refine ct ?_ | refine cf ?_ | refine d0s ?_ | refine d0r ?_ | refine aw_block ?_ | refine aw_exit ?_ | refine then_ret ?_ | refine then_exit ?_ | refine then_normal ?_ | refine blk_ret ?_ | refine blk_normal ?_ | refine blk_exit ?_ | refine blk_pass rfl ?_))
      refine sw hb fun H5 hb5 ho5 hl5 => ?_
      (repeat' (first | (refine sq_id ?_; first | refine sq_nil ?_ | refine sm ?_ | refine sa ?_ | refine ss ?_ | refine st ?_ | refine sf ?_ | refine sp ?_ | refine sq ?_ | refine sl ?_ | refine si ?_ | refine sx ?_ | refine sy ?_) | (refine rg_id ?_; first | refine rg_fin ?_ | refine rm ?_ | refine ra ?_ | refine rs ?_ | refine rt ?_ | refine rf ?_ | refine rp ?_ | refine rq ?_ | refine rl ?_ | refine ri ?_ | refine rx ?_ | refine ry ?_) | refine aw_rseq ?_ | refine aw_seq ?_ | refine aw_region ?_ | refine aw_skip ?_ | refine ct ?_ | refine cf ?_ | refine d0s ?_ | refine d0r ?_ | refine aw_block ?_ | refine aw_exit ?_ | refine then_ret ?_ | refine then_exit ?_ | refine then_normal ?_ | refine blk_ret ?_ | refine blk_normal ?_ | refine blk_exit ?_ | refine blk_pass rfl ?_))
      exact ⟨k + 1, by rw [rstf_eq]; rfl, ⟨by omega, by rw [hus]; exact ⟨_, hb5, rfl, rfl, rfl, rfl⟩⟩, by omega⟩
  have hkw : k = wl := by omega
  subst hkw
  have hkl' : ¬ k < (unp e k).pins.length := by omega
  clear hus hu2
  generalize unp e k = U at *
  have hUl := hU.len
  rw [nodesL_len U] at hUl
  have hA40 : ∀ j, (allN U j).length ≤ 40 := fun j => by rcases j with _ | _ | _ | j <;> simp [allN] <;> omega
  (repeat' (first | (refine sq_id ?_; first | refine sq_nil ?_ | refine sm ?_ | refine sa ?_ | refine ss ?_ | refine st ?_ | refine sf ?_ | refine sp ?_ | refine sq ?_ | refine sl ?_ | refine si ?_ | refine sx ?_ | refine sy ?_) | (refine rg_id ?_; first | refine rg_fin ?_ | refine rm ?_ | refine ra ?_ | refine rs ?_ | refine rt ?_ | refine rf ?_ | refine rp ?_ | refine rq ?_ | refine rl ?_ | refine ri ?_ | refine rx ?_ | refine ry ?_) | refine aw_rseq ?_ | refine aw_seq ?_ | refine aw_region ?_ | refine aw_skip ?_ | refine ct ?_ | refine cf ?_ | refine d0s ?_ | refine d0r ?_ | refine aw_block ?_ | refine aw_exit ?_ | refine then_ret ?_ | refine then_exit ?_ | refine then_normal ?_ | refine blk_ret ?_ | refine blk_normal ?_ | refine blk_exit ?_ | refine blk_pass rfl ?_))
  refine aw_for [5, 6, 10, 11] (fun a : Nat × AV => [(5, .b true), (6, .ref H.length 6 0 0), (10, a.2), (11, .i a.1)]) (fun a H' => a.1 ≤ 3 ∧ H'[H.length]? = some (some (ebk (epc U))) ∧ AccN (H.length + 1) H' a.2 (allN U a.1)) (fun a => 3 - a.1) (0, .p (.slice none 0 0)) (by rw [rstf_eq]; rfl) ⟨by show 0 ≤ 3; omega, hb, acc_nil _ _ _ _ _⟩ ?_
  clear hb hxl
  rintro ⟨j, v⟩ Hz ⟨hj, hb, hv⟩
  dsimp only at hj hb hv ⊢
  have hzl := (List.getElem?_eq_some_iff.1 hb).1
  have hne : some H.length ≠ accId v := by
    rcases hv with ⟨_, rfl⟩ | ⟨id, b, h1, rfl, _⟩
    · exact fun h => by cases h
    · exact fun h => by cases h; omega
  have hvl := hA40 j
  by_cases hj3 : j < 3
  · rcases (by omega : j = 0 ∨ j = 1 ∨ j = 2) with rfl | rfl | rfl
    · (repeat' (first | (refine sq_id ?_; first | refine sq_nil ?_ | refine sm ?_ | refine sa ?_ | refine ss ?_ | refine st ?_ | refine sf ?_ | refine sp ?_ | refine sq ?_ | refine sl ?_ | refine si ?_ | refine sx ?_ | refine sy ?_ | refine sq_movek (v := v) rfl rfl rfl ?_ | refine sq_assignk (v := v) rfl rfl rfl ?_ | refine rg_movek (v := v) rfl rfl rfl ?_ | refine rg_assignk (v := v) rfl rfl rfl ?_) | (refine rg_id ?_; first | refine rg_fin ?_ | refine rm ?_ | refine ra ?_ | refine rs ?_ | refine rt ?_ | refine rf ?_ | refine rp ?_ | refine rq ?_ | refine rl ?_ | refine ri ?_ | refine rx ?_ | refine ry ?_ | refine sq_movek (v := v) rfl rfl rfl ?_ | refine sq_assignk (v := v) rfl rfl rfl ?_ | refine rg_movek (v := v) rfl rfl rfl ?_ | refine rg_assignk (v := v) rfl rfl rfl ?_) | refine aw_rseq ?_ | refine aw_seq ?_ | refine aw_region ?_ | refine aw_skip ?_ | refine ct ?_ | refine cf ?_ | refine d0s ?_ | refine d0r ?_ | refine aw_block ?_ | refine aw_exit ?_ | refine then_ret ?_ | refine then_exit ?_ | refine then_normal ?_ | refine blk_ret ?_ | refine blk_normal ?_ | refine blk_exit ?_ | refine blk_pass rfl ?_ | refine sq_movek (v := v) rfl rfl rfl ?_ | refine sq_assignk (v := v) rfl rfl rfl ?_ | refine rg_movek (v := v) rfl rfl rfl ?_ | refine rg_assignk (v := v) rfl rfl rfl ?_))
      refine sq_app TYok TYz rfl rfl rfl rfl rfl rfl rfl (by decide) (hv.low (Nat.le_succ _)) (.lst _ _ _ _) (by show ((allN U 0).length + U.l0.length) * 8 ≤ _; omega) (by show (allN U 0).length + U.l0.length ≤ _; omega) fun r H1 hr ho hn => ?_
      (repeat' (first | (refine sq_id ?_; first | refine sq_nil ?_ | refine sm ?_ | refine sa ?_ | refine ss ?_ | refine st ?_ | refine sf ?_ | refine sp ?_ | refine sq ?_ | refine sl ?_ | refine si ?_ | refine sx ?_ | refine sy ?_ | refine sq_movek (v := r) rfl rfl rfl ?_ | refine sq_assignk (v := r) rfl rfl rfl ?_ | refine rg_movek (v := r) rfl rfl rfl ?_ | refine rg_assignk (v := r) rfl rfl rfl ?_) | (refine rg_id ?_; first | refine rg_fin ?_ | refine rm ?_ | refine ra ?_ | refine rs ?_ | refine rt ?_ | refine rf ?_ | refine rp ?_ | refine rq ?_ | refine rl ?_ | refine ri ?_ | refine rx ?_ | refine ry ?_ | refine sq_movek (v := r) rfl rfl rfl ?_ | refine sq_assignk (v := r) rfl rfl rfl ?_ | refine rg_movek (v := r) rfl rfl rfl ?_ | refine rg_assignk (v := r) rfl rfl rfl ?_) | refine aw_rseq ?_ | refine aw_seq ?_ | refine aw_region ?_ | refine aw_skip ?_ | refine ct ?_ | refine cf ?_ | refine d0s ?_ | refine d0r ?_ | refine aw_block ?_ | refine aw_exit ?_ | refine then_ret ?_ | refine then_exit ?_ | refine then_normal ?_ | refine blk_ret ?_ | refine blk_normal ?_ | refine blk_exit ?_ | refine blk_pass rfl ?_ | refine sq_movek (v := r) rfl rfl rfl ?_ | refine sq_assignk (v := r) rfl rfl rfl ?_ | refine rg_movek (v := r) rfl rfl rfl ?_ | refine rg_assignk (v := r) rfl rfl rfl ?_))
      exact ⟨(1, r), by rw [rstf_eq]; rfl, ⟨by show 1 ≤ 3; omega, ho.get hb hne, Acc.up hv (accN_app hr) (by omega) hn⟩, by show 3 - 1 < 3 - 0; omega⟩
    · (repeat' (first | (refine sq_id ?_; first | refine sq_nil ?_ | refine sm ?_ | refine sa ?_ | refine ss ?_ | refine st ?_ | refine sf ?_ | refine sp ?_ | refine sq ?_ | refine sl ?_ | refine si ?_ | refine sx ?_ | refine sy ?_ | refine sq_movek (v := v) rfl rfl rfl ?_ | refine sq_assignk (v := v) rfl rfl rfl ?_ | refine rg_movek (v := v) rfl rfl rfl ?_ | refine rg_assignk (v := v) rfl rfl rfl ?_) | (refine rg_id ?_; first | refine rg_fin ?_ | refine rm ?_ | refine ra ?_ | refine rs ?_ | refine rt ?_ | refine rf ?_ | refine rp ?_ | refine rq ?_ | refine rl ?_ | refine ri ?_ | refine rx ?_ | refine ry ?_ | refine sq_movek (v := v) rfl rfl rfl ?_ | refine sq_assignk (v := v) rfl rfl rfl ?_ | refine rg_movek (v := v) rfl rfl rfl ?_ | refine rg_assignk (v := v) rfl rfl rfl ?_) | refine aw_rseq ?_ | refine aw_seq ?_ | refine aw_region ?_ | refine aw_skip ?_ | refine ct ?_ | refine cf ?_ | refine d0s ?_ | refine d0r ?_ | refine aw_block ?_ | refine aw_exit ?_ | refine then_ret ?_ | refine then_exit ?_ | refine then_normal ?_ | refine blk_ret ?_ | refine blk_normal ?_ | refine blk_exit ?_ | refine blk_pass rfl ?_ | refine sq_movek (v := v) rfl rfl rfl ?_ | refine sq_assignk (v := v) rfl rfl rfl ?_ | refine rg_movek (v := v) rfl rfl rfl ?_ | refine rg_assignk (v := v) rfl rfl rfl ?_))
      refine sq_app TYok TYz rfl rfl rfl rfl rfl rfl rfl (by decide) (hv.low (Nat.le_succ _)) (.lst _ _ _ _) (by show ((allN U 1).length + U.l1.length) * 8 ≤ _; omega) (by show (allN U 1).length + U.l1.length ≤ _; omega) fun r H1 hr ho hn => ?_
      (repeat' (first | (refine sq_id ?_; first | refine sq_nil ?_ | refine sm ?_ | refine sa ?_ | refine ss ?_ | refine st ?_ | refine sf ?_ | refine sp ?_ | refine sq ?_ | refine sl ?_ | refine si ?_ | refine sx ?_ | refine sy ?_ | refine sq_movek (v := r) rfl rfl rfl ?_ | refine sq_assignk (v := r) rfl rfl rfl ?_ | refine rg_movek (v := r) rfl rfl rfl ?_ | refine rg_assignk (v := r) rfl rfl rfl ?_) | (refine rg_id ?_; first | refine rg_fin ?_ | refine rm ?_ | refine ra ?_ | refine rs ?_ | refine rt ?_ | refine rf ?_ | refine rp ?_ | refine rq ?_ | refine rl ?_ | refine ri ?_ | refine rx ?_ | refine ry ?_ | refine sq_movek (v := r) rfl rfl rfl ?_ | refine sq_assignk (v := r) rfl rfl rfl ?_ | refine rg_movek (v := r) rfl rfl rfl ?_ | refine rg_assignk (v := r) rfl rfl rfl ?_) | refine aw_rseq ?_ | refine aw_seq ?_ | refine aw_region ?_ | refine aw_skip ?_ | refine ct ?_ | refine cf ?_ | refine d0s ?_ | refine d0r ?_ | refine aw_block ?_ | refine aw_exit ?_ | refine then_ret ?_ | refine then_exit ?_ | refine then_normal ?_ | refine blk_ret ?_ | refine blk_normal ?_ | refine blk_exit ?_ | refine blk_pass rfl ?_ | refine sq_movek (v := r) rfl rfl rfl ?_ | refine sq_assignk (v := r) rfl rfl rfl ?_ | refine rg_movek (v := r) rfl rfl rfl ?_ | refine rg_assignk (v := r) rfl rfl rfl ?_))
      exact ⟨(2, r), by rw [rstf_eq]; rfl, ⟨by show 2 ≤ 3; omega, ho.get hb hne, Acc.up hv (accN_app hr) (by omega) hn⟩, by show 3 - 2 < 3 - 1; omega⟩
    · (repeat' (first | (refine sq_id ?_; first | refine sq_nil ?_ | refine sm ?_ | refine sa ?_ | refine ss ?_ | refine st ?_ | refine sf ?_ | refine sp ?_ | refine sq ?_ | refine sl ?_ | refine si ?_ | refine sx ?_ | refine sy ?_ | refine sq_movek (v := v) rfl rfl rfl ?_ | refine sq_assignk (v := v) rfl rfl rfl ?_ | refine rg_movek (v := v) rfl rfl rfl ?_ | refine rg_assignk (v := v) rfl rfl rfl ?_) | (refine rg_id ?_; first | refine rg_fin ?_ | refine rm ?_ | refine ra ?_ | refine rs ?_ | refine rt ?_ | refine rf ?_ | refine rp ?_ | refine rq ?_ | refine rl ?_ | refine ri ?_ | refine rx ?_ | refine ry ?_ | refine sq_movek (v := v) rfl rfl rfl ?_ | refine sq_assignk (v := v) rfl rfl rfl ?_ | refine rg_movek (v := v) rfl rfl rfl ?_ | refine rg_assignk (v := v) rfl rfl rfl ?_) | refine aw_rseq ?_ | refine aw_seq ?_ | refine aw_region ?_ | refine aw_skip ?_ | refine ct ?_ | refine cf ?_ | refine d0s ?_ | refine d0r ?_ | refine aw_block ?_ | refine aw_exit ?_ | refine then_ret ?_ | refine then_exit ?_ | refine then_normal ?_ | refine blk_ret ?_ | refine blk_normal ?_ | refine blk_exit ?_ | refine blk_pass rfl ?_ | refine sq_movek (v := v) rfl rfl rfl ?_ | refine sq_assignk (v := v) rfl rfl rfl ?_ | refine rg_movek (v := v) rfl rfl rfl ?_ | refine rg_assignk (v := v) rfl rfl rfl ?_))
      refine sq_app TYok TYz rfl rfl rfl rfl rfl rfl rfl (by decide) (hv.low (Nat.le_succ _)) (.lst _ _ _ _) (by show ((allN U 2).length + U.l2.length) * 8 ≤ _; omega) (by show (allN U 2).length + U.l2.length ≤ _; omega) fun r H1 hr ho hn => ?_
      (repeat' (first | (refine sq_id ?_; first | refine sq_nil ?_ | refine sm ?_ | refine sa ?_ | refine ss ?_ | refine st ?_ | refine sf ?_ | refine sp ?_ | refine sq ?_ | refine sl ?_ | refine si ?_ | refine sx ?_ | refine sy ?_ | refine sq_movek (v := r) rfl rfl rfl ?_ | refine sq_assignk (v := r) rfl rfl rfl ?_ | refine rg_movek (v := r) rfl rfl rfl ?_ | refine rg_assignk (v := r) rfl rfl rfl ?_) | (refine rg_id ?_; first | refine rg_fin ?_ | refine rm ?_ | refine ra ?_ | refine rs ?_ | refine rt ?_ | refine rf ?_ | refine rp ?_ | refine rq ?_ | refine rl ?_ | refine ri ?_ | refine rx ?_ | refine ry ?_ | refine sq_movek (v := r) rfl rfl rfl ?_ | refine sq_assignk (v := r) rfl rfl rfl ?_ | refine rg_movek (v := r) rfl rfl rfl ?_ | refine rg_assignk (v := r) rfl rfl rfl ?_) | refine aw_rseq ?_ | refine aw_seq ?_ | refine aw_region ?_ | refine aw_skip ?_ | refine ct ?_ | refine cf ?_ | refine d0s ?_ | refine d0r ?_ | refine aw_block ?_ | refine aw_exit ?_ | refine then_ret ?_ | refine then_exit ?_ | refine then_normal ?_ | refine blk_ret ?_ | refine blk_normal ?_ | refine blk_exit ?_ | refine blk_pass rfl ?_ | refine sq_movek (v := r) rfl rfl rfl ?_ | refine sq_assignk (v := r) rfl rfl rfl ?_ | refine rg_movek (v := r) rfl rfl rfl ?_ | refine rg_assignk (v := r) rfl rfl rfl ?_))
      exact ⟨(3, r), by rw [rstf_eq]; rfl, ⟨by show 3 ≤ 3; omega, ho.get hb hne, Acc.up hv (accN_app hr) (by omega) hn⟩, by show 3 - 3 < 3 - 2; omega⟩
  have hj3e : j = 3 := by omega
  subst hj3e
  (repeat' (first | (refine sq_id ?_; first | refine sq_nil ?_ | refine sm ?_ | refine sa ?_ | refine ss ?_ | refine st ?_ | refine sf ?_ | refine sp ?_ | refine sq ?_ | refine sl ?_ | refine si ?_ | refine sx ?_ | refine sy ?_ | refine sq_movek (v := v) rfl rfl rfl ?_ | refine sq_assignk (v := v) rfl rfl rfl ?_ | refine rg_movek (v := v) rfl rfl rfl ?_ | refine rg_assignk (v := v) rfl rfl rfl ?_) | (refine rg_id ?_; first | refine rg_fin ?_ | refine rm ?_ | refine ra ?_ | refine rs ?_ | refine rt ?_ | refine rf ?_ | refine rp ?_ | refine rq ?_ | refine rl ?_ | refine ri ?_ | refine rx ?_ | refine ry ?_ | refine sq_movek (v := v) rfl rfl rfl ?_ | refine sq_assignk (v := v) rfl rfl rfl ?_ | refine rg_movek (v := v) rfl rfl rfl ?_ | refine rg_assignk (v := v) rfl rfl rfl ?_) | refine aw_rseq ?_ | refine aw_seq ?_ | refine aw_region ?_ | refine aw_skip ?_ | refine ct ?_ | refine cf ?_ | refine d0s ?_ | refine d0r ?_ | refine aw_block ?_ | refine aw_exit ?_ | refine then_ret ?_ | refine then_exit ?_ | refine then_normal ?_ | refine blk_ret ?_ | refine blk_normal ?_ | refine blk_exit ?_ | refine blk_pass rfl ?_ | refine sq_movek (v := v) rfl rfl rfl ?_ | refine sq_assignk (v := v) rfl rfl rfl ?_ | refine rg_movek (v := v) rfl rfl rfl ?_ | refine rg_assignk (v := v) rfl rfl rfl ?_))
  refine sq_app TYok TYz rfl rfl rfl rfl rfl rfl rfl (by decide) (hv.low (Nat.le_succ _)) (.lst _ _ _ _) (by show ((allN U 3).length + U.free.length) * 8 ≤ _; omega) (by show (allN U 3).length + U.free.length ≤ _; omega) fun r H1 hr ho hn => ?_
  have hr2 := Acc.up hv (accN_app hr) (by omega) hn
  have hner : some H.length ≠ accId r := by
    rcases hr2 with ⟨_, rfl⟩ | ⟨id, b, h1, rfl, _⟩
    · exact fun h => by cases h
    · exact fun h => by cases h; omega
  refine sq_assignk (v := r) rfl rfl rfl ?_
  refine sq_nil ?_
  obtain ⟨a, b, e1, e2, r1, r2, hnow, hlen, hmem⟩ := frees_chain hU hall hGu
  have hall40 : (allN U 3 ++ U.free).length ≤ 80 := by rw [List.length_append]; omega
  refine aw_freeze 10 (show Acc H.length H1 r _ _ _ _ from accN_app hr) fun H4 ho4 => ?_
  have hb4 := ho4.get (ho.get hb hne) hner
  have h1 := advance_s U hU.right.bd
  rw [e1] at h1
  have h2 := advance_s a r1.bd
  rw [e2] at h2
  generalize allN U 3 ++ U.free = al at *
  have hz4 := (List.getElem?_eq_some_iff.1 hb4).1
  have hUn := hU.now
  have hUn0 := hU.right.1.1
  clear e1 e2 hb hv hr hr2 hA40 hvl hUl hn ho hne hner ho4
  (repeat' (first | (refine sq_id ?_; first | refine sq_nil ?_ | refine sm ?_ | refine sa ?_ | refine ss ?_ | refine st ?_ | refine sf ?_ | refine sp ?_ | refine sq ?_ | refine sl ?_ | refine si ?_ | refine sx ?_ | refine sy ?_ | refine sc h1 ?_) | (refine rg_id ?_; first | refine rg_fin ?_ | refine rm ?_ | refine ra ?_ | refine rs ?_ | refine rt ?_ | refine rf ?_ | refine rp ?_ | refine rq ?_ | refine rl ?_ | refine ri ?_ | refine rx ?_ | refine ry ?_ | refine sc h1 ?_) | refine aw_rseq ?_ | refine aw_seq ?_ | refine aw_region ?_ | refine aw_skip ?_ | refine ct ?_ | refine cf ?_ | refine d0s ?_ | refine d0r ?_ | refine aw_block ?_ | refine aw_exit ?_ | refine then_ret ?_ | refine then_exit ?_ | refine then_normal ?_ | refine blk_ret ?_ | refine blk_normal ?_ | refine blk_exit ?_ | refine blk_pass rfl ?_ | refine sc h1 ?_))
  refine nw fun G1 hn1 hoa1 hla1 => ?_
  have hb4 := hoa1.get0 hb4
  refine sw hn1 fun G2 ba ho1 hl1 => ?_
  have hb4 := ho1.get hb4 (by simp; omega)
  (repeat' (first | (refine sq_id ?_; first | refine sq_nil ?_ | refine sm ?_ | refine sa ?_ | refine ss ?_ | refine st ?_ | refine sf ?_ | refine sp ?_ | refine sq ?_ | refine sl ?_ | refine si ?_ | refine sx ?_ | refine sy ?_ | refine sc h2 ?_) | (refine rg_id ?_; first | refine rg_fin ?_ | refine rm ?_ | refine ra ?_ | refine rs ?_ | refine rt ?_ | refine rf ?_ | refine rp ?_ | refine rq ?_ | refine rl ?_ | refine ri ?_ | refine rx ?_ | refine ry ?_ | refine sc h2 ?_) | refine aw_rseq ?_ | refine aw_seq ?_ | refine aw_region ?_ | refine aw_skip ?_ | refine ct ?_ | refine cf ?_ | refine d0s ?_ | refine d0r ?_ | refine aw_block ?_ | refine aw_exit ?_ | refine then_ret ?_ | refine then_exit ?_ | refine then_normal ?_ | refine blk_ret ?_ | refine blk_normal ?_ | refine blk_exit ?_ | refine blk_pass rfl ?_ | refine sc h2 ?_))
  refine nw fun G3 hn3 hoa3 hla3 => ?_
  have hb4 := hoa3.get0 hb4
  refine sw hn3 fun G4 bb ho3 hl3 => ?_
  have hb4 := ho3.get hb4 (by simp; omega)
  (repeat' (first | (refine sq_id ?_; first | refine sq_nil ?_ | refine sm ?_ | refine sa ?_ | refine ss ?_ | refine st ?_ | refine sf ?_ | refine sp ?_ | refine sq ?_ | refine sl ?_ | refine si ?_ | refine sx ?_ | refine sy ?_) | (refine rg_id ?_; first | refine rg_fin ?_ | refine rm ?_ | refine ra ?_ | refine rs ?_ | refine rt ?_ | refine rf ?_ | refine rp ?_ | refine rq ?_ | refine rl ?_ | refine ri ?_ | refine rx ?_ | refine ry ?_) | refine aw_rseq ?_ | refine aw_seq ?_ | refine aw_region ?_ | refine aw_skip ?_ | refine ct ?_ | refine cf ?_ | refine d0s ?_ | refine d0r ?_ | refine aw_block ?_ | refine aw_exit ?_ | refine then_ret ?_ | refine then_exit ?_ | refine then_normal ?_ | refine blk_ret ?_ | refine blk_normal ?_ | refine blk_exit ?_ | refine blk_pass rfl ?_))
  refine nw fun G5 hn5 hoa5 hla5 => ?_
  have bb := hoa5.get0 bb
  refine sw hn5 fun G6 bx ho5 hl5 => ?_
  have bb := ho5.get bb (by simp; omega)
  refine sq_nil ?_
  refine aw_norm G2.length (ebk (epc b)) bb rfl rfl rfl (one_of rfl rfl) fun G7 bb ho7 hl7 => ?_
  have bx := ho7.get bx (by simp; omega)
  (repeat' (first | (refine sq_id ?_; first | refine sq_nil ?_ | refine sm ?_ | refine sa ?_ | refine ss ?_ | refine st ?_ | refine sf ?_ | refine sp ?_ | refine sq ?_ | refine sl ?_ | refine si ?_ | refine sx ?_ | refine sy ?_) | (refine rg_id ?_; first | refine rg_fin ?_ | refine rm ?_ | refine ra ?_ | refine rs ?_ | refine rt ?_ | refine rf ?_ | refine rp ?_ | refine rq ?_ | refine rl ?_ | refine ri ?_ | refine rx ?_ | refine ry ?_) | refine aw_rseq ?_ | refine aw_seq ?_ | refine aw_region ?_ | refine aw_skip ?_ | refine ct ?_ | refine cf ?_ | refine d0s ?_ | refine d0r ?_ | refine aw_block ?_ | refine aw_exit ?_ | refine then_ret ?_ | refine then_exit ?_ | refine then_normal ?_ | refine blk_ret ?_ | refine blk_normal ?_ | refine blk_exit ?_ | refine blk_pass rfl ?_))
  refine aw_for [5, 10, 15, 18, 19] (fun k : Nat => [(5, .b true), (10, ints al), (15, .ref G2.length 6 0 0), (18, .ref G4.length 6 0 0), (19, .i k)]) (fun k H' => k ≤ al.length ∧ H'[G2.length]? = some (some (ebk (epc b))) ∧ IsBox H' G4.length (epc { b with free := b.free.drop k })) (fun k => al.length - k) 0 (by rw [rstf_eq]; rfl) ⟨by omega, bb, _, bx, rfl, rfl, rfl, rfl⟩ ?_
  clear bb bx h1 h2
  rintro k Hk ⟨hk, bb, bm, hbm, q1, q2, q3, q4⟩
  refine aw_norm G4.length (ebk (epc { b with free := b.free.drop k })) hbm q1.symm q2.symm q3.symm (one_of q3 q4) fun Hx bx hoy hly => ?_
  have bb := hoy.get bb (by simp; omega)
  have hxl := (List.getElem?_eq_some_iff.1 bx).1
  clear hbm q1 q2 q3 q4 hoy hly
  by_cases hkl : k < al.length
  · obtain ⟨d1, d2, d3⟩ := drop_facts r2 (k := k) (by omega)
    have hR := right_drop r2 k
    have hT := take_s _ hR.bd
    rw [take_ok hR d3] at hT
    have hdd : (b.free.drop k).drop 1 = b.free.drop (k + 1) := by rw [List.drop_drop]
    dsimp only at hT
    rw [hdd] at hT d2
    have hin1 := in_s al ((b.free.drop k).getD 0 0) (by omega)
    rw [decide_eq_true ((hmem _).1 d1)] at hin1
    have hin2 := in_s (b.free.drop (k + 1)) ((b.free.drop k).getD 0 0) (by rw [List.length_drop]; omega)
    rw [decide_eq_false d2] at hin2
    have hin3 := in_s b.free (al.getD k 0) (by omega)
    rw [decide_eq_true ((hmem _).2 (mem_getD al 0 k hkl))] at hin3
    generalize (b.free.drop k).getD 0 0 = n at *
    (repeat' (first | (refine sq_id ?_; first | refine sq_nil ?_ | refine sm ?_ | refine sa ?_ | refine ss ?_ | refine st ?_ | refine sf ?_ | refine sp ?_ | refine sq ?_ | refine sl ?_ | refine si ?_ | refine sx ?_ | refine sy ?_ | refine sc hT ?_) | (refine rg_id ?_; first | refine rg_fin ?_ | refine rm ?_ | refine ra ?_ | refine rs ?_ | refine rt ?_ | refine rf ?_ | refine rp ?_ | refine rq ?_ | refine rl ?_ | refine ri ?_ | refine rx ?_ | refine ry ?_ | refine sc hT ?_) | refine aw_rseq ?_ | refine aw_seq ?_ | refine aw_region ?_ | refine aw_skip ?_ | refine ct ?_ | refine cf ?_ | refine d0s ?_ | refine d0r ?_ | refine aw_block ?_ | refine aw_exit ?_ | refine then_ret ?_ | refine then_exit ?_ | refine then_normal ?_ | refine blk_ret ?_ | refine blk_normal ?_ | refine blk_exit ?_ | refine blk_pass rfl ?_ | refine sc hT ?_))
    refine nw fun G1 hn1 hoa1 hla1 => ?_
    have bb := hoa1.get0 bb
    have bx := hoa1.get0 bx
    refine sw hn1 fun G2' bc ho1 hl1 => ?_
    have bb := ho1.get bb (by simp; omega)
    have bx := ho1.get bx (by simp; omega)
    (repeat' (first | (refine sq_id ?_; first | refine sq_nil ?_ | refine sm ?_ | refine sa ?_ | refine ss ?_ | refine st ?_ | refine sf ?_ | refine sp ?_ | refine sq ?_ | refine sl ?_ | refine si ?_ | refine sx ?_ | refine sy ?_ | refine rc hin1 ?_ | refine rc hin2 ?_ | refine rc hin3 ?_) | (refine rg_id ?_; first | refine rg_fin ?_ | refine rm ?_ | refine ra ?_ | refine rs ?_ | refine rt ?_ | refine rf ?_ | refine rp ?_ | refine rq ?_ | refine rl ?_ | refine ri ?_ | refine rx ?_ | refine ry ?_ | refine rc hin1 ?_ | refine rc hin2 ?_ | refine rc hin3 ?_) | refine aw_rseq ?_ | refine aw_seq ?_ | refine aw_region ?_ | refine aw_skip ?_ | refine ct ?_ | refine cf ?_ | refine d0s ?_ | refine d0r ?_ | refine aw_block ?_ | refine aw_exit ?_ | refine then_ret ?_ | refine then_exit ?_ | refine then_normal ?_ | refine blk_ret ?_ | refine blk_normal ?_ | refine blk_exit ?_ | refine blk_pass rfl ?_ | refine rc hin1 ?_ | refine rc hin2 ?_ | refine rc hin3 ?_))
    rw [List.append_nil]
    (repeat' (first | (refine sq_id ?_; first | refine sq_nil ?_ | refine sm ?_ | refine sa ?_ | refine ss ?_ | refine st ?_ | refine sf ?_ | refine sp ?_ | refine sq ?_ | refine sl ?_ | refine si ?_ | refine sx ?_ | refine sy ?_) | (refine rg_id ?_; first | refine rg_fin ?_ | refine rm ?_ | refine ra ?_ | refine rs ?_ | refine rt ?_ | refine rf ?_ | refine rp ?_ | refine rq ?_ | refine rl ?_ | refine ri ?_ | refine rx ?_ | refine ry ?_) | refine aw_rseq ?_ | refine aw_seq ?_ | refine aw_region ?_ | refine aw_skip ?_ | refine ct ?_ | refine cf ?_ | refine d0s ?_ | refine d0r ?_ | refine aw_block ?_ | refine aw_exit ?_ | refine then_ret ?_ | refine then_exit ?_ | refine then_normal ?_ | refine blk_ret ?_ | refine blk_normal ?_ | refine blk_exit ?_ | refine blk_pass rfl ?_))
    refine sw bx fun H5 hb5 ho5 hl5 => ?_
    (repeat' (first | (refine sq_id ?_; first | refine sq_nil ?_ | refine sm ?_ | refine sa ?_ | refine ss ?_ | refine st ?_ | refine sf ?_ | refine sp ?_ | refine sq ?_ | refine sl ?_ | refine si ?_ | refine sx ?_ | refine sy ?_) | (refine rg_id ?_; first | refine rg_fin ?_ | refine rm ?_ | refine ra ?_ | refine rs ?_ | refine rt ?_ | refine rf ?_ | refine rp ?_ | refine rq ?_ | refine rl ?_ | refine ri ?_ | refine rx ?_ | refine ry ?_) | refine aw_rseq ?_ | refine aw_seq ?_ | refine aw_region ?_ | refine aw_skip ?_ | refine ct ?_ | refine cf ?_ | refine d0s ?_ | refine d0r ?_ | refine aw_block ?_ | refine aw_exit ?_ | refine then_ret ?_ | refine then_exit ?_ | refine then_normal ?_ | refine blk_ret ?_ | refine blk_normal ?_ | refine blk_exit ?_ | refine blk_pass rfl ?_))
    exact ⟨k + 1, by rw [rstf_eq]; rfl, ⟨by omega, ho5.get bb (by simp; omega), _, hb5, rfl, rfl, rfl, rfl⟩, by omega⟩
  · have hz0 : (b.free.drop k).length = 0 := by rw [List.length_drop]; omega
    (repeat' (first | (refine sq_id ?_; first | refine sq_nil ?_ | refine sm ?_ | refine sa ?_ | refine ss ?_ | refine st ?_ | refine sf ?_ | refine sp ?_ | refine sq ?_ | refine sl ?_ | refine si ?_ | refine sx ?_ | refine sy ?_) | (refine rg_id ?_; first | refine rg_fin ?_ | refine rm ?_ | refine ra ?_ | refine rs ?_ | refine rt ?_ | refine rf ?_ | refine rp ?_ | refine rq ?_ | refine rl ?_ | refine ri ?_ | refine rx ?_ | refine ry ?_) | refine aw_rseq ?_ | refine aw_seq ?_ | refine aw_region ?_ | refine aw_skip ?_ | refine ct ?_ | refine cf ?_ | refine d0s ?_ | refine d0r ?_ | refine aw_block ?_ | refine aw_exit ?_ | refine then_ret ?_ | refine then_exit ?_ | refine then_normal ?_ | refine blk_ret ?_ | refine blk_normal ?_ | refine blk_exit ?_ | refine blk_pass rfl ?_))
    ((try refine aw_ret ?_); (repeat (first | refine then_ret ?_ | refine blk_ret ?_)); refine fin_t True.intro rfl rfl ?_)
    exact rfl
theorem frees_s (w : Int) (L : List (Int × Int × Int)) (hw : I64 w) (hL : L.length ≤ maxLen ∧ R64 L) :
    SC true Try.prog 5 [.i w, rows3 L] [] (fun r _ => r = .b true) := freesH_s [] w L hw hL
end Go.Proofs.Ytmhepmocnnlhnaa.Ab
