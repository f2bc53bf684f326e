/- epoch.worker, and its closure. -/
import Derived.Test.YtmhepmocnnlhnaaQH
namespace Go.Proofs.Ytmhepmocnnlhnaa.Ab
open Go Go.RowKit
abbrev ibox (i : Int) : Blk := ⟨3, 1, 1, fun _ => [.i i]⟩
abbrev fbox (v : AV) : Blk := ⟨54, 1, 1, fun _ => [v]⟩
set_option maxHeartbeats 4000000 in
theorem worker_s (e : Ep) (hbd : Bd e) (i : Int) {g : FuncId} {gcs : List AV} {cells : Nat → List AV} {Fact : Nat → Nat → AH → Prop} (hl : ∀ m, (cells m).length = 6) (hst : ∀ k m H H', Fact k m H → Rest 0 k H H' → Fact k m H')
    (hown : ∀ H, SC true Try.prog 50 [epv e] H (fun r H' => Oth H H' none ∧ ∃ m : Nat, r = .agg (cells m) ∧ Fact H.length m H')) (H : AH) (Q : AV → AH → Prop)
    (hN : ¬ RightE e → ∀ k m H', Oth H H' none → H.length ≤ k → Fact k m H' → Q (.tup [.agg (cells m), .i 1]) H')
    (hY : RightE e → ∀ k id m bi bd H0 H1, Oth H H1 none → H.length ≤ k → k ≤ id → id = H0.length → Fact k m H0 → Fact k m H1 → IsBox H1 id (cells m) → bi < k → bd < k → H1[bi]? = some (some (ibox i)) → H1[bd]? = some (some (fbox (.fn (.func g) [] gcs))) →
      SC true Try.prog 47 [.ref id 6 0 0, .ref bi 1 0 0, .ref bd 1 0 0] H1 (fun r H2 => ∃ er, r = .i er ∧ H1.length ≤ H2.length ∧ (∀ j, H.length ≤ j → j < k → H2[j]? = H1[j]?) ∧
      (er ≠ 0 → ∀ H3, Rest H.length k H2 H3 → Q (.tup [epv e, .i er]) H3) ∧ (er = 0 → ∃ cs', cs'.length = 6 ∧ IsBox H2 id cs' ∧ ∀ H3, Rest H.length k H2 H3 → Q (.tup [.agg cs', .i 0]) H3))) :
    SC true Try.prog 28 [epv e, .i i, .fn (.func g) [] gcs] H Q := by
  refine sc_in TYok Try.func28 (by kernel_rfl) Try.ntmps28 rfl rfl rfl ?_
  refine aw_seq ?_
  refine aw_region ?_
  refine nw fun H1 hb1 ho1 hl1 => ?_
  refine nw fun H2 hb2 ho2 hl2 => ?_
  refine nw fun H3 hb3 ho3 hl3 => ?_
  refine nw fun H4 hb4 ho4 hl4 => ?_
  have h41 := ho4.get0 (ho3.get0 (ho2.get0 hb1))
  have h42 := ho4.get0 (ho3.get0 hb2)
  have h43 := ho4.get0 hb3
  have ho14 := ((ho1.trans0 ho2).trans0 ho3).trans0 ho4
  (repeat' (first | (refine sq_id ?_; first | refine sq_nil ?_ | refine sm ?_ | refine sa ?_ | refine ss ?_ | refine st ?_ | refine sf ?_ | refine sp ?_ | refine sq ?_ | refine sl ?_ | refine si ?_ | refine sx ?_ | refine sy ?_) | (refine rg_id ?_; first | refine rg_fin ?_ | refine rm ?_ | refine ra ?_ | refine rs ?_ | refine rt ?_ | refine rf ?_ | refine rp ?_ | refine rq ?_ | refine rl ?_ | refine ri ?_ | refine rx ?_ | refine ry ?_) | refine aw_rseq ?_ | refine aw_seq ?_ | refine aw_region ?_ | refine aw_skip ?_ | refine ct ?_ | refine cf ?_ | refine d0s ?_ | refine d0r ?_ | refine aw_block ?_ | refine aw_exit ?_ | refine then_ret ?_ | refine then_exit ?_ | refine then_normal ?_ | refine blk_ret ?_ | refine blk_normal ?_ | refine blk_exit ?_ | refine blk_pass rfl ?_))
  refine sq_call rfl rfl rfl (LeL.refl _) (SC.mono (Q := fun r H' => ∃ cs' er, r = .tup [.agg cs', .i er] ∧ cs'.length = 6 ∧ H'[H3.length]? = H4[H3.length]? ∧ ∀ H5, Oth H' H5 (some H3.length) → Q (.tup [.agg cs', .i er]) H5) (change_s e hbd hl hst hown H4 _ ?_ ?_) fun r H5 he => ?_)
  · intro hr k m H' ho hk hF
    refine ⟨_, 1, rfl, hl m, ho.2 _ (by omega) (by simp), fun H5 h5 => hN hr k m H5 ((ho14.trans0 ho).new h5 (by omega)) (by omega) (hst _ _ _ _ hF (h5.rest (Nat.zero_le _) (by omega)))⟩
  · intro hr k id m H0 H5 ho hk hF0 hkid hid hF hbx
    refine (hY hr k id m H1.length H2.length H0 H5 (ho14.trans0 ho) (by omega) hkid hid hF0 hF hbx (by omega) (by omega) (ho.get0 h42) (ho.get0 h43)).mono fun r H6 he => ?_
    obtain ⟨er, hr, hlen, hkeep, hq1, hq2⟩ := he
    have hres : H6[H3.length]? = H4[H3.length]? := (hkeep _ (by omega) (by omega)).trans (ho.2 _ (by omega) (by simp))
    have hcomp : ∀ H7 H8, Rest H4.length k H6 H7 → Oth H7 H8 (some H3.length) → Rest H.length k H6 H8 := fun H7 H8 h7 h8 => ⟨Nat.le_trans h7.1 h8.1, fun j hj hc => by
      rw [h8.2 j (by have := h7.1; omega) (by simp; omega)]
      exact h7.2 j hj (by omega)⟩
    have hl4' := ho.1
    refine ⟨er, hr, hlen, fun j hj hj2 => hkeep j (by omega) hj2, fun h0 H7 h7 => ⟨_, er, rfl, rfl, (h7.2 _ (by omega) (by omega)).trans hres, fun H8 h8 => hq1 h0 H8 (hcomp _ _ h7 h8)⟩, fun h0 => ?_⟩
    obtain ⟨cs', hc, hbox, hq⟩ := hq2 h0
    exact ⟨cs', hc, hbox, fun H7 h7 => ⟨_, 0, rfl, hc, (h7.2 _ (by omega) (by omega)).trans hres, fun H8 h8 => hq H8 (hcomp _ _ h7 h8)⟩⟩
  · obtain ⟨cs', er, rfl, hcl, hres, hq⟩ := he
    rw [hb4] at hres
    (repeat' (first | (refine sq_id ?_; first | refine sq_nil ?_ | refine sm ?_ | refine sa ?_ | refine ss ?_ | refine st ?_ | refine sf ?_ | refine sp ?_ | refine sq ?_ | refine sl ?_ | refine si ?_ | refine sx ?_ | refine sy ?_) | (refine rg_id ?_; first | refine rg_fin ?_ | refine rm ?_ | refine ra ?_ | refine rs ?_ | refine rt ?_ | refine rf ?_ | refine rp ?_ | refine rq ?_ | refine rl ?_ | refine ri ?_ | refine rx ?_ | refine ry ?_) | refine aw_rseq ?_ | refine aw_seq ?_ | refine aw_region ?_ | refine aw_skip ?_ | refine ct ?_ | refine cf ?_ | refine d0s ?_ | refine d0r ?_ | refine aw_block ?_ | refine aw_exit ?_ | refine then_ret ?_ | refine then_exit ?_ | refine then_normal ?_ | refine blk_ret ?_ | refine blk_normal ?_ | refine blk_exit ?_ | refine blk_pass rfl ?_))
    refine sq_storek TYok rfl rfl rfl hres rfl Nat.zero_lt_one rfl rfl hcl (by rw [hcl]; exact Nat.le_refl 6) fun H7 hb7 ho7 hl7 => ?_
    (repeat' (first | (refine sq_id ?_; first | refine sq_nil ?_ | refine sm ?_ | refine sa ?_ | refine ss ?_ | refine st ?_ | refine sf ?_ | refine sp ?_ | refine sq ?_ | refine sl ?_ | refine si ?_ | refine sx ?_ | refine sy ?_) | (refine rg_id ?_; first | refine rg_fin ?_ | refine rm ?_ | refine ra ?_ | refine rs ?_ | refine rt ?_ | refine rf ?_ | refine rp ?_ | refine rq ?_ | refine rl ?_ | refine ri ?_ | refine rx ?_ | refine ry ?_) | refine aw_rseq ?_ | refine aw_seq ?_ | refine aw_region ?_ | refine aw_skip ?_ | refine ct ?_ | refine cf ?_ | refine d0s ?_ | refine d0r ?_ | refine aw_block ?_ | refine aw_exit ?_ | refine then_ret ?_ | refine then_exit ?_ | refine then_normal ?_ | refine blk_ret ?_ | refine blk_normal ?_ | refine blk_exit ?_ | refine blk_pass rfl ?_ | refine aw_dec rfl (fun _ => ?_) (fun _ => ?_)))
    ((try refine aw_ret ?_); (repeat (first | refine then_ret ?_ | refine blk_ret ?_)))
    exact ⟨True.intro, _, .cell _ _ _ _ _ _ _ _ _ rfl hb7 rfl Nat.zero_lt_one (by show apart TY _ (splice _ 0 cs') = _; rw [splice_all (by rw [hcl]; rfl)]; exact apart_ep cs' hcl) (.tmp _ _ _ .nil), hq H7 ho7⟩
theorem nil_at {H : AH} {id : Nat} {b : Option (Option Blk)} (h : H[id]? = b) : (H ++ [])[id]? = b := by rw [List.append_nil]; exact h
/-- the closure, where the pins may change -/
theorem worker1P_s (now i : Int) {m n id bi bd : Nat} {rest : List AV} {g : FuncId} {gcs : List AV} (H : AH) (Q : AV → AH → Prop) (hbx : IsBox H id (.i now :: .arr m 1 0 n :: rest)) (hbi : H[bi]? = some (some (ibox i))) (hbd : H[bd]? = some (some (fbox (.fn (.func g) [] gcs)))) (n1 : bi ≠ id) (n2 : bd ≠ id)
    (hout : ¬ (0 ≤ i ∧ i < n) → ∀ H2, H2[id]? = some (some (ebk (.i now :: .arr m 1 0 n :: rest))) → Oth H H2 (some id) → Q (.i 1) H2)
    (hin : ∀ j : Nat, i = j → j < n → ∀ H2, H2[id]? = some (some (ebk (.i now :: .arr m 1 0 n :: rest))) → Oth H H2 (some id) → SC true Try.prog g (.ref id 6 0 0 :: .ref m 1 j 0 :: gcs) H2 Q) :
    SC true Try.prog 47 [.ref id 6 0 0, .ref bi 1 0 0, .ref bd 1 0 0] H Q := by
  refine sc_in TYok Try.func47 (by kernel_rfl) Try.ntmps47 rfl rfl rfl ?_
  obtain ⟨b, hb, e1, e2, e3, e4⟩ := hbx
  refine aw_norm id (ebk (.i now :: .arr m 1 0 n :: rest)) hb e1.symm e2.symm e3.symm (one_of e3 e4) fun H2 hb2 ho2 hl2 => ?_
  have hbi := ho2.get hbi (by simpa using n1)
  have hbd := ho2.get hbd (by simpa using n2)
  have hbn := nil_at hb2
  have hbin := nil_at hbi
  have hbdn := nil_at hbd
  by_cases h0 : 0 ≤ i
  · obtain ⟨j, rfl⟩ := Int.eq_ofNat_of_zero_le h0
    by_cases h1 : j < n
    · have hq := hin j rfl h1 H2 hb2 ho2
      (repeat' (first | (refine sq_id ?_; first | refine sq_nil ?_ | refine sm ?_ | refine sa ?_ | refine ss ?_ | refine st ?_ | refine sf ?_ | refine sp ?_ | refine sq ?_ | refine sl ?_ | refine si ?_ | refine sx ?_ | refine sy ?_) | (refine rg_id ?_; first | refine rg_fin ?_ | refine rm ?_ | refine ra ?_ | refine rs ?_ | refine rt ?_ | refine rf ?_ | refine rp ?_ | refine rq ?_ | refine rl ?_ | refine ri ?_ | refine rx ?_ | refine ry ?_) | refine aw_rseq ?_ | refine aw_seq ?_ | refine aw_region ?_ | refine aw_skip ?_ | refine ct ?_ | refine cf ?_ | refine aw_d1seq rfl (by kernel_rfl) ?_ | refine aw_d1 rfl (by kernel_rfl) ?_ | refine aw_block ?_ | refine aw_exit ?_ | refine then_ret ?_ | refine then_exit ?_ | refine then_normal ?_ | refine blk_ret ?_ | refine blk_normal ?_ | refine blk_exit ?_ | refine blk_pass rfl ?_))
      rw [List.append_nil]
      refine sq_callv rfl rfl rfl rfl (LeL.refl _) (hq.mono fun r H3 he => ?_)
      refine sq_assignk (v := r) rfl rfl rfl ?_
      refine sq_nil ?_
      (repeat' (first | (refine sq_id ?_; first | refine sq_nil ?_ | refine sm ?_ | refine sa ?_ | refine ss ?_ | refine st ?_ | refine sf ?_ | refine sp ?_ | refine sq ?_ | refine sl ?_ | refine si ?_ | refine sx ?_ | refine sy ?_ | refine sq_movek (v := r) rfl rfl rfl ?_ | refine sq_assignk (v := r) rfl rfl rfl ?_ | refine rg_movek (v := r) rfl rfl rfl ?_ | refine rg_assignk (v := r) rfl rfl rfl ?_) | (refine rg_id ?_; first | refine rg_fin ?_ | refine rm ?_ | refine ra ?_ | refine rs ?_ | refine rt ?_ | refine rf ?_ | refine rp ?_ | refine rq ?_ | refine rl ?_ | refine ri ?_ | refine rx ?_ | refine ry ?_ | refine sq_movek (v := r) rfl rfl rfl ?_ | refine sq_assignk (v := r) rfl rfl rfl ?_ | refine rg_movek (v := r) rfl rfl rfl ?_ | refine rg_assignk (v := r) rfl rfl rfl ?_) | refine aw_rseq ?_ | refine aw_seq ?_ | refine aw_region ?_ | refine aw_skip ?_ | refine ct ?_ | refine cf ?_ | refine d0s ?_ | refine d0r ?_ | refine aw_block ?_ | refine aw_exit ?_ | refine then_ret ?_ | refine then_exit ?_ | refine then_normal ?_ | refine blk_ret ?_ | refine blk_normal ?_ | refine blk_exit ?_ | refine blk_pass rfl ?_ | refine aw_dec rfl (fun _ => ?_) (fun _ => ?_) | refine sq_movek (v := r) rfl rfl rfl ?_ | refine sq_assignk (v := r) rfl rfl rfl ?_ | refine rg_movek (v := r) rfl rfl rfl ?_ | refine rg_assignk (v := r) rfl rfl rfl ?_))
      ((try refine aw_ret ?_); (repeat (first | refine then_ret ?_ | refine blk_ret ?_)); refine fin_k True.intro rfl ?_)
      exact he
    · have hq := hout (by omega)
      (repeat' (first | (refine sq_id ?_; first | refine sq_nil ?_ | refine sm ?_ | refine sa ?_ | refine ss ?_ | refine st ?_ | refine sf ?_ | refine sp ?_ | refine sq ?_ | refine sl ?_ | refine si ?_ | refine sx ?_ | refine sy ?_) | (refine rg_id ?_; first | refine rg_fin ?_ | refine rm ?_ | refine ra ?_ | refine rs ?_ | refine rt ?_ | refine rf ?_ | refine rp ?_ | refine rq ?_ | refine rl ?_ | refine ri ?_ | refine rx ?_ | refine ry ?_) | refine aw_rseq ?_ | refine aw_seq ?_ | refine aw_region ?_ | refine aw_skip ?_ | refine ct ?_ | refine cf ?_ | refine d0s ?_ | refine d0r ?_ | refine aw_block ?_ | refine aw_exit ?_ | refine then_ret ?_ | refine then_exit ?_ | refine then_normal ?_ | refine blk_ret ?_ | refine blk_normal ?_ | refine blk_exit ?_ | refine blk_pass rfl ?_))
      ((try refine aw_ret ?_); (repeat (first | refine then_ret ?_ | refine blk_ret ?_)); refine fin_t True.intro rfl rfl ?_)
      rw [List.append_nil]
      exact hq H2 hb2 ho2
  · have hq := hout (by omega)
    (repeat' (first | (refine sq_id ?_; first | refine sq_nil ?_ | refine sm ?_ | refine sa ?_ | refine ss ?_ | refine st ?_ | refine sf ?_ | refine sp ?_ | refine sq ?_ | refine sl ?_ | refine si ?_ | refine sx ?_ | refine sy ?_) | (refine rg_id ?_; first | refine rg_fin ?_ | refine rm ?_ | refine ra ?_ | refine rs ?_ | refine rt ?_ | refine rf ?_ | refine rp ?_ | refine rq ?_ | refine rl ?_ | refine ri ?_ | refine rx ?_ | refine ry ?_) | refine aw_rseq ?_ | refine aw_seq ?_ | refine aw_region ?_ | refine aw_skip ?_ | refine ct ?_ | refine cf ?_ | refine d0s ?_ | refine d0r ?_ | refine aw_block ?_ | refine aw_exit ?_ | refine then_ret ?_ | refine then_exit ?_ | refine then_normal ?_ | refine blk_ret ?_ | refine blk_normal ?_ | refine blk_exit ?_ | refine blk_pass rfl ?_))
    ((try refine aw_ret ?_); (repeat (first | refine then_ret ?_ | refine blk_ret ?_)); refine fin_t True.intro rfl rfl ?_)
    rw [List.append_nil]
    exact hq H2 hb2 ho2
/-- the closure, where the pins stay -/
theorem worker1L_s (now i : Int) {n id bi bd : Nat} {t : Bool} {gg : Nat → List AV} {rest : List AV} {g : FuncId} {gcs : List AV} (H : AH) (Q : AV → AH → Prop) (hbx : IsBox H id (.i now :: .lst t 1 n gg :: rest)) (hbi : H[bi]? = some (some (ibox i))) (hbd : H[bd]? = some (some (fbox (.fn (.func g) [] gcs)))) (n1 : bi ≠ id) (n2 : bd ≠ id)
    (hout : ¬ (0 ≤ i ∧ i < n) → ∀ H2, H2[id]? = some (some (ebk (.i now :: .lst t 1 n gg :: rest))) → Oth H H2 (some id) → Q (.i 1) H2)
    (hin : ∀ j : Nat, i = j → j < n → ∀ H2, H2[id]? = some (some (ebk (.i now :: .lst t 1 n gg :: rest))) → Oth H H2 (some id) → SC true Try.prog g (.ref id 6 0 0 :: .fref (gg j) :: gcs) H2 Q) :
    SC true Try.prog 47 [.ref id 6 0 0, .ref bi 1 0 0, .ref bd 1 0 0] H Q := by
  refine sc_in TYok Try.func47 (by kernel_rfl) Try.ntmps47 rfl rfl rfl ?_
  obtain ⟨b, hb, e1, e2, e3, e4⟩ := hbx
  refine aw_norm id (ebk (.i now :: .lst t 1 n gg :: rest)) hb e1.symm e2.symm e3.symm (one_of e3 e4) fun H2 hb2 ho2 hl2 => ?_
  have hbi := ho2.get hbi (by simpa using n1)
  have hbd := ho2.get hbd (by simpa using n2)
  have hbn := nil_at hb2
  have hbin := nil_at hbi
  have hbdn := nil_at hbd
  by_cases h0 : 0 ≤ i
  · obtain ⟨j, rfl⟩ := Int.eq_ofNat_of_zero_le h0
    by_cases h1 : j < n
    · have hq := hin j rfl h1 H2 hb2 ho2
      (repeat' (first | (refine sq_id ?_; first | refine sq_nil ?_ | refine sm ?_ | refine sa ?_ | refine ss ?_ | refine st ?_ | refine sf ?_ | refine sp ?_ | refine sq ?_ | refine sl ?_ | refine si ?_ | refine sx ?_ | refine sy ?_) | (refine rg_id ?_; first | refine rg_fin ?_ | refine rm ?_ | refine ra ?_ | refine rs ?_ | refine rt ?_ | refine rf ?_ | refine rp ?_ | refine rq ?_ | refine rl ?_ | refine ri ?_ | refine rx ?_ | refine ry ?_) | refine aw_rseq ?_ | refine aw_seq ?_ | refine aw_region ?_ | refine aw_skip ?_ | refine ct ?_ | refine cf ?_ | refine aw_d1seq rfl (by kernel_rfl) ?_ | refine aw_d1 rfl (by kernel_rfl) ?_ | refine aw_block ?_ | refine aw_exit ?_ | refine then_ret ?_ | refine then_exit ?_ | refine then_normal ?_ | refine blk_ret ?_ | refine blk_normal ?_ | refine blk_exit ?_ | refine blk_pass rfl ?_))
      rw [List.append_nil]
      refine sq_callv rfl rfl rfl rfl (LeL.refl _) (hq.mono fun r H3 he => ?_)
      refine sq_assignk (v := r) rfl rfl rfl ?_
      refine sq_nil ?_
      (repeat' (first | (refine sq_id ?_; first | refine sq_nil ?_ | refine sm ?_ | refine sa ?_ | refine ss ?_ | refine st ?_ | refine sf ?_ | refine sp ?_ | refine sq ?_ | refine sl ?_ | refine si ?_ | refine sx ?_ | refine sy ?_ | refine sq_movek (v := r) rfl rfl rfl ?_ | refine sq_assignk (v := r) rfl rfl rfl ?_ | refine rg_movek (v := r) rfl rfl rfl ?_ | refine rg_assignk (v := r) rfl rfl rfl ?_) | (refine rg_id ?_; first | refine rg_fin ?_ | refine rm ?_ | refine ra ?_ | refine rs ?_ | refine rt ?_ | refine rf ?_ | refine rp ?_ | refine rq ?_ | refine rl ?_ | refine ri ?_ | refine rx ?_ | refine ry ?_ | refine sq_movek (v := r) rfl rfl rfl ?_ | refine sq_assignk (v := r) rfl rfl rfl ?_ | refine rg_movek (v := r) rfl rfl rfl ?_ | refine rg_assignk (v := r) rfl rfl rfl ?_) | refine aw_rseq ?_ | refine aw_seq ?_ | refine aw_region ?_ | refine aw_skip ?_ | refine ct ?_ | refine cf ?_ | refine d0s ?_ | refine d0r ?_ | refine aw_block ?_ | refine aw_exit ?_ | refine then_ret ?_ | refine then_exit ?_ | refine then_normal ?_ | refine blk_ret ?_ | refine blk_normal ?_ | refine blk_exit ?_ | refine blk_pass rfl ?_ | refine aw_dec rfl (fun _ => ?_) (fun _ => ?_) | refine sq_movek (v := r) rfl rfl rfl ?_ | refine sq_assignk (v := r) rfl rfl rfl ?_ | refine rg_movek (v := r) rfl rfl rfl ?_ | refine rg_assignk (v := r) rfl rfl rfl ?_))
      ((try refine aw_ret ?_); (repeat (first | refine then_ret ?_ | refine blk_ret ?_)); refine fin_k True.intro rfl ?_)
      exact he
    · have hq := hout (by omega)
      (repeat' (first | (refine sq_id ?_; first | refine sq_nil ?_ | refine sm ?_ | refine sa ?_ | refine ss ?_ | refine st ?_ | refine sf ?_ | refine sp ?_ | refine sq ?_ | refine sl ?_ | refine si ?_ | refine sx ?_ | refine sy ?_) | (refine rg_id ?_; first | refine rg_fin ?_ | refine rm ?_ | refine ra ?_ | refine rs ?_ | refine rt ?_ | refine rf ?_ | refine rp ?_ | refine rq ?_ | refine rl ?_ | refine ri ?_ | refine rx ?_ | refine ry ?_) | refine aw_rseq ?_ | refine aw_seq ?_ | refine aw_region ?_ | refine aw_skip ?_ | refine ct ?_ | refine cf ?_ | refine d0s ?_ | refine d0r ?_ | refine aw_block ?_ | refine aw_exit ?_ | refine then_ret ?_ | refine then_exit ?_ | refine then_normal ?_ | refine blk_ret ?_ | refine blk_normal ?_ | refine blk_exit ?_ | refine blk_pass rfl ?_))
      ((try refine aw_ret ?_); (repeat (first | refine then_ret ?_ | refine blk_ret ?_)); refine fin_t True.intro rfl rfl ?_)
      rw [List.append_nil]
      exact hq H2 hb2 ho2
  · have hq := hout (by omega)
    (repeat' (first | (refine sq_id ?_; first | refine sq_nil ?_ | refine sm ?_ | refine sa ?_ | refine ss ?_ | refine st ?_ | refine sf ?_ | refine sp ?_ | refine sq ?_ | refine sl ?_ | refine si ?_ | refine sx ?_ | refine sy ?_) | (refine rg_id ?_; first | refine rg_fin ?_ | refine rm ?_ | refine ra ?_ | refine rs ?_ | refine rt ?_ | refine rf ?_ | refine rp ?_ | refine rq ?_ | refine rl ?_ | refine ri ?_ | refine rx ?_ | refine ry ?_) | refine aw_rseq ?_ | refine aw_seq ?_ | refine aw_region ?_ | refine aw_skip ?_ | refine ct ?_ | refine cf ?_ | refine d0s ?_ | refine d0r ?_ | refine aw_block ?_ | refine aw_exit ?_ | refine then_ret ?_ | refine then_exit ?_ | refine then_normal ?_ | refine blk_ret ?_ | refine blk_normal ?_ | refine blk_exit ?_ | refine blk_pass rfl ?_))
    ((try refine aw_ret ?_); (repeat (first | refine then_ret ?_ | refine blk_ret ?_)); refine fin_t True.intro rfl rfl ?_)
    rw [List.append_nil]
    exact hq H2 hb2 ho2
end Go.Proofs.Ytmhepmocnnlhnaa.Ab
