/- The slots that are tried, in order: hash.Path. -/
import Derived.Test.YtphjglbbhanmpaaSB
import Derived.Test.YtphjglbbhanmpaaSA
namespace Go.Proofs.Ytphjglbbhanmpaa.Ab
open Go Go.RowKit
set_option maxRecDepth 10000
abbrev ib (x : Int) : Blk := ⟨3, 1, 1, fun _ => [.i x]⟩
set_option maxHeartbeats 1000000 in
theorem pathn_s (a s : Nat) (x S : Int) (hx : 0 ≤ x ∧ x < S) (hS : S ≤ 4000) (H : AH) (ha : H[a]? = some (some (ib x))) (hs : H[s]? = some (some (ib S))) (hne : s ≠ a) :
    SC true Try.prog 76 [.ref a 1 0 0, .ref s 1 0 0] H (fun r H' => r = .i x ∧ H'[a]? = some (some (ib (if x + 1 = S then 0 else x + 1))) ∧ Oth H H' (some a) ∧ H'.length = H.length) := by
  refine sc_in TYok Try.func76 (by kernel_rfl) Try.ntmps76 rfl rfl rfl ?_
  (repeat' (first | (refine sq_id ?_; first | refine sq_nil ?_ | refine sq_move rfl rfl rfl ?_ | refine sq_assign rfl rfl rfl ?_ | refine sq_skip rfl rfl ?_ | refine sq_t TYok TYz rfl rfl rfl True.intro so ?_ | refine sq_f TYok TYz rfl rfl rfl True.intro so ?_ | refine sq_pure TYok TYz false rfl rfl rfl sd ?_ | refine sq_pure TYok TYz true rfl rfl rfl sd ?_ | refine sq_load TYok rfl rfl rfl (by assumption) (by rfl) (by first | exact Nat.zero_lt_one | assumption | omega) (by rfl) ?_ | refine sq_lit TYok TYz rfl rfl rfl rfl rfl rfl rfl rfl ?_ | refine sq_ixa TYok rfl rfl rfl rfl rfl rfl rfl sd ?_ | refine sq_ixr TYok rfl rfl rfl rfl rfl rfl rfl sd ?_) | (refine rg_id ?_; first | refine rg_fin ?_ | refine rg_move rfl rfl rfl ?_ | refine rg_assign rfl rfl rfl ?_ | refine rg_skip rfl rfl ?_ | refine rg_t TYok TYz rfl rfl rfl True.intro so ?_ | refine rg_f TYok TYz rfl rfl rfl True.intro so ?_ | refine rg_pure TYok TYz false rfl rfl rfl sd ?_ | refine rg_pure TYok TYz true rfl rfl rfl sd ?_ | refine rg_load TYok rfl rfl rfl (by assumption) (by rfl) (by first | exact Nat.zero_lt_one | assumption | omega) (by rfl) ?_ | refine rg_lit TYok TYz rfl rfl rfl rfl rfl rfl rfl rfl ?_ | refine rg_ixa TYok rfl rfl rfl rfl rfl rfl rfl sd ?_ | refine rg_ixr TYok rfl rfl rfl rfl rfl rfl rfl sd ?_) | refine aw_rseq ?_ | refine aw_seq ?_ | refine aw_region ?_ | refine aw_skip ?_ | refine aw_true rfl ?_ | refine aw_false rfl ?_ | refine aw_d0seq rfl (by kernel_rfl) ?_ | refine aw_d0 rfl (by kernel_rfl) ?_ | refine aw_block ?_ | refine aw_exit ?_ | refine then_ret ?_ | refine then_exit ?_ | refine then_normal ?_ | refine blk_ret ?_ | refine blk_normal ?_ | refine blk_exit ?_ | refine blk_pass rfl ?_))
  refine sq_storek TYok rfl rfl rfl ha rfl Nat.zero_lt_one rfl rfl rfl (Nat.le_of_ble_eq_true rfl) fun H1 hb1 ho1 hl1 => ?_
  have hs1 := ho1.get hs (by simp; omega)
  (repeat' (first | (refine sq_id ?_; first | refine sq_nil ?_ | refine sq_move rfl rfl rfl ?_ | refine sq_assign rfl rfl rfl ?_ | refine sq_skip rfl rfl ?_ | refine sq_t TYok TYz rfl rfl rfl True.intro so ?_ | refine sq_f TYok TYz rfl rfl rfl True.intro so ?_ | refine sq_pure TYok TYz false rfl rfl rfl sd ?_ | refine sq_pure TYok TYz true rfl rfl rfl sd ?_ | refine sq_load TYok rfl rfl rfl (by assumption) (by rfl) (by first | exact Nat.zero_lt_one | assumption | omega) (by rfl) ?_ | refine sq_lit TYok TYz rfl rfl rfl rfl rfl rfl rfl rfl ?_ | refine sq_ixa TYok rfl rfl rfl rfl rfl rfl rfl sd ?_ | refine sq_ixr TYok rfl rfl rfl rfl rfl rfl rfl sd ?_) | (refine rg_id ?_; first | refine rg_fin ?_ | refine rg_move rfl rfl rfl ?_ | refine rg_assign rfl rfl rfl ?_ | refine rg_skip rfl rfl ?_ | refine rg_t TYok TYz rfl rfl rfl True.intro so ?_ | refine rg_f TYok TYz rfl rfl rfl True.intro so ?_ | refine rg_pure TYok TYz false rfl rfl rfl sd ?_ | refine rg_pure TYok TYz true rfl rfl rfl sd ?_ | refine rg_load TYok rfl rfl rfl (by assumption) (by rfl) (by first | exact Nat.zero_lt_one | assumption | omega) (by rfl) ?_ | refine rg_lit TYok TYz rfl rfl rfl rfl rfl rfl rfl rfl ?_ | refine rg_ixa TYok rfl rfl rfl rfl rfl rfl rfl sd ?_ | refine rg_ixr TYok rfl rfl rfl rfl rfl rfl rfl sd ?_) | refine aw_rseq ?_ | refine aw_seq ?_ | refine aw_region ?_ | refine aw_skip ?_ | refine aw_true rfl ?_ | refine aw_false rfl ?_ | refine aw_d0seq rfl (by kernel_rfl) ?_ | refine aw_d0 rfl (by kernel_rfl) ?_ | refine aw_block ?_ | refine aw_exit ?_ | refine then_ret ?_ | refine then_exit ?_ | refine then_normal ?_ | refine blk_ret ?_ | refine blk_normal ?_ | refine blk_exit ?_ | refine blk_pass rfl ?_))
  refine aw_dec rfl (fun h => ?_) (fun h => ?_)
  · rw [if_pos h]
    (repeat' (first | (refine sq_id ?_; first | refine sq_nil ?_ | refine sq_move rfl rfl rfl ?_ | refine sq_assign rfl rfl rfl ?_ | refine sq_skip rfl rfl ?_ | refine sq_t TYok TYz rfl rfl rfl True.intro so ?_ | refine sq_f TYok TYz rfl rfl rfl True.intro so ?_ | refine sq_pure TYok TYz false rfl rfl rfl sd ?_ | refine sq_pure TYok TYz true rfl rfl rfl sd ?_ | refine sq_load TYok rfl rfl rfl (by assumption) (by rfl) (by first | exact Nat.zero_lt_one | assumption | omega) (by rfl) ?_ | refine sq_lit TYok TYz rfl rfl rfl rfl rfl rfl rfl rfl ?_ | refine sq_ixa TYok rfl rfl rfl rfl rfl rfl rfl sd ?_ | refine sq_ixr TYok rfl rfl rfl rfl rfl rfl rfl sd ?_) | (refine rg_id ?_; first | refine rg_fin ?_ | refine rg_move rfl rfl rfl ?_ | refine rg_assign rfl rfl rfl ?_ | refine rg_skip rfl rfl ?_ | refine rg_t TYok TYz rfl rfl rfl True.intro so ?_ | refine rg_f TYok TYz rfl rfl rfl True.intro so ?_ | refine rg_pure TYok TYz false rfl rfl rfl sd ?_ | refine rg_pure TYok TYz true rfl rfl rfl sd ?_ | refine rg_load TYok rfl rfl rfl (by assumption) (by rfl) (by first | exact Nat.zero_lt_one | assumption | omega) (by rfl) ?_ | refine rg_lit TYok TYz rfl rfl rfl rfl rfl rfl rfl rfl ?_ | refine rg_ixa TYok rfl rfl rfl rfl rfl rfl rfl sd ?_ | refine rg_ixr TYok rfl rfl rfl rfl rfl rfl rfl sd ?_) | refine aw_rseq ?_ | refine aw_seq ?_ | refine aw_region ?_ | refine aw_skip ?_ | refine aw_true rfl ?_ | refine aw_false rfl ?_ | refine aw_d0seq rfl (by kernel_rfl) ?_ | refine aw_d0 rfl (by kernel_rfl) ?_ | refine aw_block ?_ | refine aw_exit ?_ | refine then_ret ?_ | refine then_exit ?_ | refine then_normal ?_ | refine blk_ret ?_ | refine blk_normal ?_ | refine blk_exit ?_ | refine blk_pass rfl ?_))
    refine sq_storek TYok rfl rfl rfl hb1 rfl Nat.zero_lt_one rfl rfl rfl (Nat.le_of_ble_eq_true rfl) fun H2 hb2 ho2 hl2 => ?_
    (repeat' (first | (refine sq_id ?_; first | refine sq_nil ?_ | refine sq_move rfl rfl rfl ?_ | refine sq_assign rfl rfl rfl ?_ | refine sq_skip rfl rfl ?_ | refine sq_t TYok TYz rfl rfl rfl True.intro so ?_ | refine sq_f TYok TYz rfl rfl rfl True.intro so ?_ | refine sq_pure TYok TYz false rfl rfl rfl sd ?_ | refine sq_pure TYok TYz true rfl rfl rfl sd ?_ | refine sq_load TYok rfl rfl rfl (by assumption) (by rfl) (by first | exact Nat.zero_lt_one | assumption | omega) (by rfl) ?_ | refine sq_lit TYok TYz rfl rfl rfl rfl rfl rfl rfl rfl ?_ | refine sq_ixa TYok rfl rfl rfl rfl rfl rfl rfl sd ?_ | refine sq_ixr TYok rfl rfl rfl rfl rfl rfl rfl sd ?_) | (refine rg_id ?_; first | refine rg_fin ?_ | refine rg_move rfl rfl rfl ?_ | refine rg_assign rfl rfl rfl ?_ | refine rg_skip rfl rfl ?_ | refine rg_t TYok TYz rfl rfl rfl True.intro so ?_ | refine rg_f TYok TYz rfl rfl rfl True.intro so ?_ | refine rg_pure TYok TYz false rfl rfl rfl sd ?_ | refine rg_pure TYok TYz true rfl rfl rfl sd ?_ | refine rg_load TYok rfl rfl rfl (by assumption) (by rfl) (by first | exact Nat.zero_lt_one | assumption | omega) (by rfl) ?_ | refine rg_lit TYok TYz rfl rfl rfl rfl rfl rfl rfl rfl ?_ | refine rg_ixa TYok rfl rfl rfl rfl rfl rfl rfl sd ?_ | refine rg_ixr TYok rfl rfl rfl rfl rfl rfl rfl sd ?_) | refine aw_rseq ?_ | refine aw_seq ?_ | refine aw_region ?_ | refine aw_skip ?_ | refine aw_true rfl ?_ | refine aw_false rfl ?_ | refine aw_d0seq rfl (by kernel_rfl) ?_ | refine aw_d0 rfl (by kernel_rfl) ?_ | refine aw_block ?_ | refine aw_exit ?_ | refine then_ret ?_ | refine then_exit ?_ | refine then_normal ?_ | refine blk_ret ?_ | refine blk_normal ?_ | refine blk_exit ?_ | refine blk_pass rfl ?_ | refine aw_dec rfl (fun _ => ?_) (fun _ => ?_)))
    refine aw_norm a (ib 0) hb2 rfl rfl rfl (one_blk rfl rfl) fun H3 hb3 ho3 hl3 => ?_
    ((try refine aw_ret ?_); (repeat (first | refine then_ret ?_ | refine blk_ret ?_)); refine fin_t True.intro rfl rfl ?_)
    exact ⟨rfl, hb3, (ho1.trans_same ho2).trans_same ho3, by omega⟩
  · rw [if_neg h]
    (repeat' (first | (refine sq_id ?_; first | refine sq_nil ?_ | refine sq_move rfl rfl rfl ?_ | refine sq_assign rfl rfl rfl ?_ | refine sq_skip rfl rfl ?_ | refine sq_t TYok TYz rfl rfl rfl True.intro so ?_ | refine sq_f TYok TYz rfl rfl rfl True.intro so ?_ | refine sq_pure TYok TYz false rfl rfl rfl sd ?_ | refine sq_pure TYok TYz true rfl rfl rfl sd ?_ | refine sq_load TYok rfl rfl rfl (by assumption) (by rfl) (by first | exact Nat.zero_lt_one | assumption | omega) (by rfl) ?_ | refine sq_lit TYok TYz rfl rfl rfl rfl rfl rfl rfl rfl ?_ | refine sq_ixa TYok rfl rfl rfl rfl rfl rfl rfl sd ?_ | refine sq_ixr TYok rfl rfl rfl rfl rfl rfl rfl sd ?_) | (refine rg_id ?_; first | refine rg_fin ?_ | refine rg_move rfl rfl rfl ?_ | refine rg_assign rfl rfl rfl ?_ | refine rg_skip rfl rfl ?_ | refine rg_t TYok TYz rfl rfl rfl True.intro so ?_ | refine rg_f TYok TYz rfl rfl rfl True.intro so ?_ | refine rg_pure TYok TYz false rfl rfl rfl sd ?_ | refine rg_pure TYok TYz true rfl rfl rfl sd ?_ | refine rg_load TYok rfl rfl rfl (by assumption) (by rfl) (by first | exact Nat.zero_lt_one | assumption | omega) (by rfl) ?_ | refine rg_lit TYok TYz rfl rfl rfl rfl rfl rfl rfl rfl ?_ | refine rg_ixa TYok rfl rfl rfl rfl rfl rfl rfl sd ?_ | refine rg_ixr TYok rfl rfl rfl rfl rfl rfl rfl sd ?_) | refine aw_rseq ?_ | refine aw_seq ?_ | refine aw_region ?_ | refine aw_skip ?_ | refine aw_true rfl ?_ | refine aw_false rfl ?_ | refine aw_d0seq rfl (by kernel_rfl) ?_ | refine aw_d0 rfl (by kernel_rfl) ?_ | refine aw_block ?_ | refine aw_exit ?_ | refine then_ret ?_ | refine then_exit ?_ | refine then_normal ?_ | refine blk_ret ?_ | refine blk_normal ?_ | refine blk_exit ?_ | refine blk_pass rfl ?_ | refine aw_dec rfl (fun _ => ?_) (fun _ => ?_)))
    refine aw_norm a (ib (x + 1)) hb1 rfl rfl rfl (one_blk rfl rfl) fun H3 hb3 ho3 hl3 => ?_
    ((try refine aw_ret ?_); (repeat (first | refine then_ret ?_ | refine blk_ret ?_)); refine fin_t True.intro rfl rfl ?_)
    exact ⟨rfl, hb3, ho1.trans_same ho3, by omega⟩
set_option maxHeartbeats 1000000 in
theorem pathm_s (a b c d S : Int) (hS : 1 ≤ S ∧ S ≤ 4000) (H : AH) :
    SC true Try.prog 63 [.agg (k4 a b c d), .i S] H (fun r H' => r = .fn (.func 76) [] [.ref (H.length + 2) 1 0 0, .ref (H.length + 1) 1 0 0] ∧ H'[H.length + 2]? = some (some (ib (hashOf [a, b, c, d] % S))) ∧ H'[H.length + 1]? = some (some (ib S)) ∧ Ext H H') := by
  have hO := of_s a b c d
  have hbd := hashOf_bd [a, b, c, d]
  have hsl := slot_s (hashOf [a, b, c, d]) 0 S (by omega) (by omega) (by omega)
  rw [Int.add_zero] at hsl
  refine sc_in TYok Try.func63 (by kernel_rfl) Try.ntmps63 rfl rfl rfl ?_
  refine aw_seq ?_
  refine aw_region ?_
  refine sq_newk TYok TYz false rfl rfl rfl True.intro fun H1 hb1 ho1 hl1 => ?_
  refine sq_newk TYok TYz false rfl rfl rfl True.intro fun H2 hb2 ho2 hl2 => ?_
  have hb12 := ho2.get0 hb1
  (repeat' (first | (refine sq_id ?_; first | refine sq_nil ?_ | refine sq_move rfl rfl rfl ?_ | refine sq_assign rfl rfl rfl ?_ | refine sq_skip rfl rfl ?_ | refine sq_t TYok TYz rfl rfl rfl True.intro so ?_ | refine sq_f TYok TYz rfl rfl rfl True.intro so ?_ | refine sq_pure TYok TYz false rfl rfl rfl sd ?_ | refine sq_pure TYok TYz true rfl rfl rfl sd ?_ | refine sq_load TYok rfl rfl rfl (by assumption) (by rfl) (by first | exact Nat.zero_lt_one | assumption | omega) (by rfl) ?_ | refine sq_lit TYok TYz rfl rfl rfl rfl rfl rfl rfl rfl ?_ | refine sq_ixa TYok rfl rfl rfl rfl rfl rfl rfl sd ?_ | refine sq_ixr TYok rfl rfl rfl rfl rfl rfl rfl sd ?_) | (refine rg_id ?_; first | refine rg_fin ?_ | refine rg_move rfl rfl rfl ?_ | refine rg_assign rfl rfl rfl ?_ | refine rg_skip rfl rfl ?_ | refine rg_t TYok TYz rfl rfl rfl True.intro so ?_ | refine rg_f TYok TYz rfl rfl rfl True.intro so ?_ | refine rg_pure TYok TYz false rfl rfl rfl sd ?_ | refine rg_pure TYok TYz true rfl rfl rfl sd ?_ | refine rg_load TYok rfl rfl rfl (by assumption) (by rfl) (by first | exact Nat.zero_lt_one | assumption | omega) (by rfl) ?_ | refine rg_lit TYok TYz rfl rfl rfl rfl rfl rfl rfl rfl ?_ | refine rg_ixa TYok rfl rfl rfl rfl rfl rfl rfl sd ?_ | refine rg_ixr TYok rfl rfl rfl rfl rfl rfl rfl sd ?_) | refine aw_rseq ?_ | refine aw_seq ?_ | refine aw_region ?_ | refine aw_skip ?_ | refine aw_true rfl ?_ | refine aw_false rfl ?_ | refine aw_block ?_ | refine aw_exit ?_ | refine then_ret ?_ | refine then_exit ?_ | refine then_normal ?_ | refine blk_ret ?_ | refine blk_normal ?_ | refine blk_exit ?_ | refine blk_pass rfl ?_))
  have e1 : H1.length = H.length + 1 := hl1
  have e2 : H2.length = H1.length + 1 := hl2
  have hx2 : Ext H H2 := ho1.ext.trans ho2.ext
  refine aw_mid [3, 5] (fun _ : Unit => [(3, .ref H1.length 1 0 0), (5, .ref H2.length 1 0 0)]) (fun _ H' => (∃ B : Blk, H'[H2.length]? = some (some B) ∧ B.ety = 3 ∧ B.sz = 1 ∧ B.n = 1 ∧ B.g 0 = [.i (hashOf [a, b, c, d] % S)]) ∧ H'[H1.length]? = some (some (ib S)) ∧ Ext H H') ?_ ?_
  ·
    have fin : ∀ {H3 H4 : AH} {B : Blk}, H3.length = H2.length + 1 → Oth H2 H3 none → H4[H2.length]? = some (some B) → B.ety = 3 ∧ B.sz = 1 ∧ B.n = 1 ∧ B.g 0 = [.i (hashOf [a, b, c, d] % S)] → Oth H3 H4 (some H2.length) → (∃ B : Blk, H4[H2.length]? = some (some B) ∧ B.ety = 3 ∧ B.sz = 1 ∧ B.n = 1 ∧ B.g 0 = [.i (hashOf [a, b, c, d] % S)]) ∧ H4[H1.length]? = some (some (ib S)) ∧ Ext H H4 := fun h1 h2 h3 h4 h5 => ⟨⟨_, h3, h4⟩, h5.get (h2.get0 hb2) (by simp; omega), (hx2.trans h2.ext).oth h5 (by rintro _ ⟨⟩; omega)⟩
    refine aw_all (by kernel_rfl) 6 rfl ?_
    refine ay_3 0 2 4 (by kernel_rfl) rfl rfl rfl rfl rfl rfl  ?_ ?_ ?_
    · refine sq_load TYok rfl rfl rfl (by first | assumption | exact ho3.get0 hb12 | exact ho3.get0 hb2) rfl Nat.zero_lt_one rfl ?_
      refine sq_nil ?_
      refine ay_3 1 2 4 (by kernel_rfl) rfl rfl rfl rfl rfl rfl  ?_ ?_ ?_
      · refine sq_ps rfl rfl rfl hO (LeL.refl _) ?_
        refine sq_nil ?_
        refine ay_2 2 4 (by kernel_rfl) rfl rfl rfl rfl  ?_ ?_
        · refine sq_load TYok rfl rfl rfl (by first | assumption | exact ho3.get0 hb12 | exact ho3.get0 hb2) rfl Nat.zero_lt_one rfl ?_
          refine sq_nil ?_
          refine ay_2 3 4 (by kernel_rfl) rfl rfl rfl rfl  ?_ ?_
          · refine sq_ps rfl rfl rfl hsl (LeL.refl _) ?_
            refine sq_nil ?_
            refine ay_1 4 (by kernel_rfl) rfl rfl ?_
            refine sq_newk TYok TYz false rfl rfl rfl True.intro fun H3 hb3 ho3 hl3 => ?_
            refine sq_nil ?_
            refine ay_1 5 (by kernel_rfl) rfl rfl ?_
            refine sq_storek TYok rfl rfl rfl hb3 rfl Nat.zero_lt_one rfl rfl rfl (Nat.le_of_ble_eq_true rfl) fun H4 hb4 ho4 hl4 => ?_
            refine sq_nil ?_
            refine ay_done (by kernel_rfl) ?_
            exact then_normal ⟨(), _, by rw [rstf_eq]; rfl, .refl _, fin hl3 ho3 hb4 ⟨rfl, rfl, rfl, rfl⟩ ho4⟩
          · refine sq_newk TYok TYz false rfl rfl rfl True.intro fun H3 hb3 ho3 hl3 => ?_
            refine sq_nil ?_
            refine ay_1 3 (by kernel_rfl) rfl rfl ?_
            refine sq_ps rfl rfl rfl hsl (LeL.refl _) ?_
            refine sq_nil ?_
            refine ay_1 5 (by kernel_rfl) rfl rfl ?_
            refine sq_storek TYok rfl rfl rfl hb3 rfl Nat.zero_lt_one rfl rfl rfl (Nat.le_of_ble_eq_true rfl) fun H4 hb4 ho4 hl4 => ?_
            refine sq_nil ?_
            refine ay_done (by kernel_rfl) ?_
            exact then_normal ⟨(), _, by rw [rstf_eq]; rfl, .refl _, fin hl3 ho3 hb4 ⟨rfl, rfl, rfl, rfl⟩ ho4⟩
        · refine sq_newk TYok TYz false rfl rfl rfl True.intro fun H3 hb3 ho3 hl3 => ?_
          refine sq_nil ?_
          refine ay_1 2 (by kernel_rfl) rfl rfl ?_
          refine sq_load TYok rfl rfl rfl (by first | assumption | exact ho3.get0 hb12 | exact ho3.get0 hb2) rfl Nat.zero_lt_one rfl ?_
          refine sq_nil ?_
          refine ay_1 3 (by kernel_rfl) rfl rfl ?_
          refine sq_ps rfl rfl rfl hsl (LeL.refl _) ?_
          refine sq_nil ?_
          refine ay_1 5 (by kernel_rfl) rfl rfl ?_
          refine sq_storek TYok rfl rfl rfl hb3 rfl Nat.zero_lt_one rfl rfl rfl (Nat.le_of_ble_eq_true rfl) fun H4 hb4 ho4 hl4 => ?_
          refine sq_nil ?_
          refine ay_done (by kernel_rfl) ?_
          exact then_normal ⟨(), _, by rw [rstf_eq]; rfl, .refl _, fin hl3 ho3 hb4 ⟨rfl, rfl, rfl, rfl⟩ ho4⟩
      · refine sq_load TYok rfl rfl rfl (by first | assumption | exact ho3.get0 hb12 | exact ho3.get0 hb2) rfl Nat.zero_lt_one rfl ?_
        refine sq_nil ?_
        refine ay_2 1 4 (by kernel_rfl) rfl rfl rfl rfl  ?_ ?_
        · refine sq_ps rfl rfl rfl hO (LeL.refl _) ?_
          refine sq_nil ?_
          refine ay_2 3 4 (by kernel_rfl) rfl rfl rfl rfl  ?_ ?_
          · refine sq_ps rfl rfl rfl hsl (LeL.refl _) ?_
            refine sq_nil ?_
            refine ay_1 4 (by kernel_rfl) rfl rfl ?_
            refine sq_newk TYok TYz false rfl rfl rfl True.intro fun H3 hb3 ho3 hl3 => ?_
            refine sq_nil ?_
            refine ay_1 5 (by kernel_rfl) rfl rfl ?_
            refine sq_storek TYok rfl rfl rfl hb3 rfl Nat.zero_lt_one rfl rfl rfl (Nat.le_of_ble_eq_true rfl) fun H4 hb4 ho4 hl4 => ?_
            refine sq_nil ?_
            refine ay_done (by kernel_rfl) ?_
            exact then_normal ⟨(), _, by rw [rstf_eq]; rfl, .refl _, fin hl3 ho3 hb4 ⟨rfl, rfl, rfl, rfl⟩ ho4⟩
          · refine sq_newk TYok TYz false rfl rfl rfl True.intro fun H3 hb3 ho3 hl3 => ?_
            refine sq_nil ?_
            refine ay_1 3 (by kernel_rfl) rfl rfl ?_
            refine sq_ps rfl rfl rfl hsl (LeL.refl _) ?_
            refine sq_nil ?_
            refine ay_1 5 (by kernel_rfl) rfl rfl ?_
            refine sq_storek TYok rfl rfl rfl hb3 rfl Nat.zero_lt_one rfl rfl rfl (Nat.le_of_ble_eq_true rfl) fun H4 hb4 ho4 hl4 => ?_
            refine sq_nil ?_
            refine ay_done (by kernel_rfl) ?_
            exact then_normal ⟨(), _, by rw [rstf_eq]; rfl, .refl _, fin hl3 ho3 hb4 ⟨rfl, rfl, rfl, rfl⟩ ho4⟩
        · refine sq_newk TYok TYz false rfl rfl rfl True.intro fun H3 hb3 ho3 hl3 => ?_
          refine sq_nil ?_
          refine ay_1 1 (by kernel_rfl) rfl rfl ?_
          refine sq_ps rfl rfl rfl hO (LeL.refl _) ?_
          refine sq_nil ?_
          refine ay_1 3 (by kernel_rfl) rfl rfl ?_
          refine sq_ps rfl rfl rfl hsl (LeL.refl _) ?_
          refine sq_nil ?_
          refine ay_1 5 (by kernel_rfl) rfl rfl ?_
          refine sq_storek TYok rfl rfl rfl hb3 rfl Nat.zero_lt_one rfl rfl rfl (Nat.le_of_ble_eq_true rfl) fun H4 hb4 ho4 hl4 => ?_
          refine sq_nil ?_
          refine ay_done (by kernel_rfl) ?_
          exact then_normal ⟨(), _, by rw [rstf_eq]; rfl, .refl _, fin hl3 ho3 hb4 ⟨rfl, rfl, rfl, rfl⟩ ho4⟩
      · refine sq_newk TYok TYz false rfl rfl rfl True.intro fun H3 hb3 ho3 hl3 => ?_
        refine sq_nil ?_
        refine ay_2 1 2 (by kernel_rfl) rfl rfl rfl rfl  ?_ ?_
        · refine sq_ps rfl rfl rfl hO (LeL.refl _) ?_
          refine sq_nil ?_
          refine ay_1 2 (by kernel_rfl) rfl rfl ?_
          refine sq_load TYok rfl rfl rfl (by first | assumption | exact ho3.get0 hb12 | exact ho3.get0 hb2) rfl Nat.zero_lt_one rfl ?_
          refine sq_nil ?_
          refine ay_1 3 (by kernel_rfl) rfl rfl ?_
          refine sq_ps rfl rfl rfl hsl (LeL.refl _) ?_
          refine sq_nil ?_
          refine ay_1 5 (by kernel_rfl) rfl rfl ?_
          refine sq_storek TYok rfl rfl rfl hb3 rfl Nat.zero_lt_one rfl rfl rfl (Nat.le_of_ble_eq_true rfl) fun H4 hb4 ho4 hl4 => ?_
          refine sq_nil ?_
          refine ay_done (by kernel_rfl) ?_
          exact then_normal ⟨(), _, by rw [rstf_eq]; rfl, .refl _, fin hl3 ho3 hb4 ⟨rfl, rfl, rfl, rfl⟩ ho4⟩
        · refine sq_load TYok rfl rfl rfl (by first | assumption | exact ho3.get0 hb12 | exact ho3.get0 hb2) rfl Nat.zero_lt_one rfl ?_
          refine sq_nil ?_
          refine ay_1 1 (by kernel_rfl) rfl rfl ?_
          refine sq_ps rfl rfl rfl hO (LeL.refl _) ?_
          refine sq_nil ?_
          refine ay_1 3 (by kernel_rfl) rfl rfl ?_
          refine sq_ps rfl rfl rfl hsl (LeL.refl _) ?_
          refine sq_nil ?_
          refine ay_1 5 (by kernel_rfl) rfl rfl ?_
          refine sq_storek TYok rfl rfl rfl hb3 rfl Nat.zero_lt_one rfl rfl rfl (Nat.le_of_ble_eq_true rfl) fun H4 hb4 ho4 hl4 => ?_
          refine sq_nil ?_
          refine ay_done (by kernel_rfl) ?_
          exact then_normal ⟨(), _, by rw [rstf_eq]; rfl, .refl _, fin hl3 ho3 hb4 ⟨rfl, rfl, rfl, rfl⟩ ho4⟩
    · refine sq_load TYok rfl rfl rfl (by first | assumption | exact ho3.get0 hb12 | exact ho3.get0 hb2) rfl Nat.zero_lt_one rfl ?_
      refine sq_nil ?_
      refine ay_2 0 4 (by kernel_rfl) rfl rfl rfl rfl  ?_ ?_
      · refine sq_load TYok rfl rfl rfl (by first | assumption | exact ho3.get0 hb12 | exact ho3.get0 hb2) rfl Nat.zero_lt_one rfl ?_
        refine sq_nil ?_
        refine ay_2 1 4 (by kernel_rfl) rfl rfl rfl rfl  ?_ ?_
        · refine sq_ps rfl rfl rfl hO (LeL.refl _) ?_
          refine sq_nil ?_
          refine ay_2 3 4 (by kernel_rfl) rfl rfl rfl rfl  ?_ ?_
          · refine sq_ps rfl rfl rfl hsl (LeL.refl _) ?_
            refine sq_nil ?_
            refine ay_1 4 (by kernel_rfl) rfl rfl ?_
            refine sq_newk TYok TYz false rfl rfl rfl True.intro fun H3 hb3 ho3 hl3 => ?_
            refine sq_nil ?_
            refine ay_1 5 (by kernel_rfl) rfl rfl ?_
            refine sq_storek TYok rfl rfl rfl hb3 rfl Nat.zero_lt_one rfl rfl rfl (Nat.le_of_ble_eq_true rfl) fun H4 hb4 ho4 hl4 => ?_
            refine sq_nil ?_
            refine ay_done (by kernel_rfl) ?_
            exact then_normal ⟨(), _, by rw [rstf_eq]; rfl, .refl _, fin hl3 ho3 hb4 ⟨rfl, rfl, rfl, rfl⟩ ho4⟩
          · refine sq_newk TYok TYz false rfl rfl rfl True.intro fun H3 hb3 ho3 hl3 => ?_
            refine sq_nil ?_
            refine ay_1 3 (by kernel_rfl) rfl rfl ?_
            refine sq_ps rfl rfl rfl hsl (LeL.refl _) ?_
            refine sq_nil ?_
            refine ay_1 5 (by kernel_rfl) rfl rfl ?_
            refine sq_storek TYok rfl rfl rfl hb3 rfl Nat.zero_lt_one rfl rfl rfl (Nat.le_of_ble_eq_true rfl) fun H4 hb4 ho4 hl4 => ?_
            refine sq_nil ?_
            refine ay_done (by kernel_rfl) ?_
            exact then_normal ⟨(), _, by rw [rstf_eq]; rfl, .refl _, fin hl3 ho3 hb4 ⟨rfl, rfl, rfl, rfl⟩ ho4⟩
        · refine sq_newk TYok TYz false rfl rfl rfl True.intro fun H3 hb3 ho3 hl3 => ?_
          refine sq_nil ?_
          refine ay_1 1 (by kernel_rfl) rfl rfl ?_
          refine sq_ps rfl rfl rfl hO (LeL.refl _) ?_
          refine sq_nil ?_
          refine ay_1 3 (by kernel_rfl) rfl rfl ?_
          refine sq_ps rfl rfl rfl hsl (LeL.refl _) ?_
          refine sq_nil ?_
          refine ay_1 5 (by kernel_rfl) rfl rfl ?_
          refine sq_storek TYok rfl rfl rfl hb3 rfl Nat.zero_lt_one rfl rfl rfl (Nat.le_of_ble_eq_true rfl) fun H4 hb4 ho4 hl4 => ?_
          refine sq_nil ?_
          refine ay_done (by kernel_rfl) ?_
          exact then_normal ⟨(), _, by rw [rstf_eq]; rfl, .refl _, fin hl3 ho3 hb4 ⟨rfl, rfl, rfl, rfl⟩ ho4⟩
      · refine sq_newk TYok TYz false rfl rfl rfl True.intro fun H3 hb3 ho3 hl3 => ?_
        refine sq_nil ?_
        refine ay_1 0 (by kernel_rfl) rfl rfl ?_
        refine sq_load TYok rfl rfl rfl (by first | assumption | exact ho3.get0 hb12 | exact ho3.get0 hb2) rfl Nat.zero_lt_one rfl ?_
        refine sq_nil ?_
        refine ay_1 1 (by kernel_rfl) rfl rfl ?_
        refine sq_ps rfl rfl rfl hO (LeL.refl _) ?_
        refine sq_nil ?_
        refine ay_1 3 (by kernel_rfl) rfl rfl ?_
        refine sq_ps rfl rfl rfl hsl (LeL.refl _) ?_
        refine sq_nil ?_
        refine ay_1 5 (by kernel_rfl) rfl rfl ?_
        refine sq_storek TYok rfl rfl rfl hb3 rfl Nat.zero_lt_one rfl rfl rfl (Nat.le_of_ble_eq_true rfl) fun H4 hb4 ho4 hl4 => ?_
        refine sq_nil ?_
        refine ay_done (by kernel_rfl) ?_
        exact then_normal ⟨(), _, by rw [rstf_eq]; rfl, .refl _, fin hl3 ho3 hb4 ⟨rfl, rfl, rfl, rfl⟩ ho4⟩
    · refine sq_newk TYok TYz false rfl rfl rfl True.intro fun H3 hb3 ho3 hl3 => ?_
      refine sq_nil ?_
      refine ay_2 0 2 (by kernel_rfl) rfl rfl rfl rfl  ?_ ?_
      · refine sq_load TYok rfl rfl rfl (by first | assumption | exact ho3.get0 hb12 | exact ho3.get0 hb2) rfl Nat.zero_lt_one rfl ?_
        refine sq_nil ?_
        refine ay_2 1 2 (by kernel_rfl) rfl rfl rfl rfl  ?_ ?_
        · refine sq_ps rfl rfl rfl hO (LeL.refl _) ?_
          refine sq_nil ?_
          refine ay_1 2 (by kernel_rfl) rfl rfl ?_
          refine sq_load TYok rfl rfl rfl (by first | assumption | exact ho3.get0 hb12 | exact ho3.get0 hb2) rfl Nat.zero_lt_one rfl ?_
          refine sq_nil ?_
          refine ay_1 3 (by kernel_rfl) rfl rfl ?_
          refine sq_ps rfl rfl rfl hsl (LeL.refl _) ?_
          refine sq_nil ?_
          refine ay_1 5 (by kernel_rfl) rfl rfl ?_
          refine sq_storek TYok rfl rfl rfl hb3 rfl Nat.zero_lt_one rfl rfl rfl (Nat.le_of_ble_eq_true rfl) fun H4 hb4 ho4 hl4 => ?_
          refine sq_nil ?_
          refine ay_done (by kernel_rfl) ?_
          exact then_normal ⟨(), _, by rw [rstf_eq]; rfl, .refl _, fin hl3 ho3 hb4 ⟨rfl, rfl, rfl, rfl⟩ ho4⟩
        · refine sq_load TYok rfl rfl rfl (by first | assumption | exact ho3.get0 hb12 | exact ho3.get0 hb2) rfl Nat.zero_lt_one rfl ?_
          refine sq_nil ?_
          refine ay_1 1 (by kernel_rfl) rfl rfl ?_
          refine sq_ps rfl rfl rfl hO (LeL.refl _) ?_
          refine sq_nil ?_
          refine ay_1 3 (by kernel_rfl) rfl rfl ?_
          refine sq_ps rfl rfl rfl hsl (LeL.refl _) ?_
          refine sq_nil ?_
          refine ay_1 5 (by kernel_rfl) rfl rfl ?_
          refine sq_storek TYok rfl rfl rfl hb3 rfl Nat.zero_lt_one rfl rfl rfl (Nat.le_of_ble_eq_true rfl) fun H4 hb4 ho4 hl4 => ?_
          refine sq_nil ?_
          refine ay_done (by kernel_rfl) ?_
          exact then_normal ⟨(), _, by rw [rstf_eq]; rfl, .refl _, fin hl3 ho3 hb4 ⟨rfl, rfl, rfl, rfl⟩ ho4⟩
      · refine sq_load TYok rfl rfl rfl (by first | assumption | exact ho3.get0 hb12 | exact ho3.get0 hb2) rfl Nat.zero_lt_one rfl ?_
        refine sq_nil ?_
        refine ay_1 0 (by kernel_rfl) rfl rfl ?_
        refine sq_load TYok rfl rfl rfl (by first | assumption | exact ho3.get0 hb12 | exact ho3.get0 hb2) rfl Nat.zero_lt_one rfl ?_
        refine sq_nil ?_
        refine ay_1 1 (by kernel_rfl) rfl rfl ?_
        refine sq_ps rfl rfl rfl hO (LeL.refl _) ?_
        refine sq_nil ?_
        refine ay_1 3 (by kernel_rfl) rfl rfl ?_
        refine sq_ps rfl rfl rfl hsl (LeL.refl _) ?_
        refine sq_nil ?_
        refine ay_1 5 (by kernel_rfl) rfl rfl ?_
        refine sq_storek TYok rfl rfl rfl hb3 rfl Nat.zero_lt_one rfl rfl rfl (Nat.le_of_ble_eq_true rfl) fun H4 hb4 ho4 hl4 => ?_
        refine sq_nil ?_
        refine ay_done (by kernel_rfl) ?_
        exact then_normal ⟨(), _, by rw [rstf_eq]; rfl, .refl _, fin hl3 ho3 hb4 ⟨rfl, rfl, rfl, rfl⟩ ho4⟩
  · rintro - H3 ⟨⟨B, h1, q1, q2, q3, q4⟩, h2, h3⟩
    refine aw_norm H2.length (ib (hashOf [a, b, c, d] % S)) h1 q1.symm q2.symm q3.symm (fun i hi => by
      have : i = 0 := by omega
      subst this; exact q4) fun H5 hb5 ho5 hl5 => ?_
    have h25 := ho5.get h2 (by simp; omega)
    (repeat' (first | (refine sq_id ?_; first | refine sq_nil ?_ | refine sq_move rfl rfl rfl ?_ | refine sq_assign rfl rfl rfl ?_ | refine sq_skip rfl rfl ?_ | refine sq_t TYok TYz rfl rfl rfl True.intro so ?_ | refine sq_f TYok TYz rfl rfl rfl True.intro so ?_ | refine sq_pure TYok TYz false rfl rfl rfl sd ?_ | refine sq_pure TYok TYz true rfl rfl rfl sd ?_ | refine sq_load TYok rfl rfl rfl (by assumption) (by rfl) (by first | exact Nat.zero_lt_one | assumption | omega) (by rfl) ?_ | refine sq_lit TYok TYz rfl rfl rfl rfl rfl rfl rfl rfl ?_ | refine sq_ixa TYok rfl rfl rfl rfl rfl rfl rfl sd ?_ | refine sq_ixr TYok rfl rfl rfl rfl rfl rfl rfl sd ?_) | (refine rg_id ?_; first | refine rg_fin ?_ | refine rg_move rfl rfl rfl ?_ | refine rg_assign rfl rfl rfl ?_ | refine rg_skip rfl rfl ?_ | refine rg_t TYok TYz rfl rfl rfl True.intro so ?_ | refine rg_f TYok TYz rfl rfl rfl True.intro so ?_ | refine rg_pure TYok TYz false rfl rfl rfl sd ?_ | refine rg_pure TYok TYz true rfl rfl rfl sd ?_ | refine rg_load TYok rfl rfl rfl (by assumption) (by rfl) (by first | exact Nat.zero_lt_one | assumption | omega) (by rfl) ?_ | refine rg_lit TYok TYz rfl rfl rfl rfl rfl rfl rfl rfl ?_ | refine rg_ixa TYok rfl rfl rfl rfl rfl rfl rfl sd ?_ | refine rg_ixr TYok rfl rfl rfl rfl rfl rfl rfl sd ?_) | refine aw_rseq ?_ | refine aw_seq ?_ | refine aw_region ?_ | refine aw_skip ?_ | refine aw_true rfl ?_ | refine aw_false rfl ?_ | refine aw_d0seq rfl (by kernel_rfl) ?_ | refine aw_d0 rfl (by kernel_rfl) ?_ | refine aw_block ?_ | refine aw_exit ?_ | refine then_ret ?_ | refine then_exit ?_ | refine then_normal ?_ | refine blk_ret ?_ | refine blk_normal ?_ | refine blk_exit ?_ | refine blk_pass rfl ?_))
    ((try refine aw_ret ?_); (repeat (first | refine then_ret ?_ | refine blk_ret ?_)); refine fin_t True.intro rfl rfl ?_)
    refine ⟨?_, ?_, ?_, h3.oth ho5 (by rintro _ ⟨⟩; omega)⟩
    · rw [e2, e1]; rfl
    · rw [← hb5, e2, e1]
    · rw [← h25, e1]
theorem acc_ne {k : Nat} {H : AH} {v : AV} {e sz n : Nat} {g : Nat → List AV} (h : Acc k H v e sz n g) {id : Nat} (hi : id < k) : some id ≠ accId v := by
  rcases h with ⟨_, rfl⟩ | ⟨id', b, h1, rfl, _⟩
  · exact fun h => by cases h
  · exact fun h => by cases h; omega
def pathL (S : Nat) (k : Kid) (n : Nat) : List Int := (List.range n).map fun r : Nat => ((hS S k r : Nat) : Int)
theorem pathL_len (S : Nat) (k : Kid) (n : Nat) : (pathL S k n).length = n := by simp [pathL]
theorem pathL_at (S : Nat) (k : Kid) (n j : Nat) (h : j < n) : (pathL S k n).getD j 0 = ((hS S k j : Nat) : Int) := by
  unfold pathL
  rw [List.getD_eq_getElem?_getD, List.getElem?_map, List.getElem?_range h]; rfl
theorem mod_next (a S : Int) (hS : 1 ≤ S) : (a + 1) % S = if a % S + 1 = S then 0 else a % S + 1 := by
  have h1 := Int.emod_nonneg a (b := S) (by omega)
  have h2 := Int.emod_lt_of_pos a (b := S) (by omega)
  rw [Int.add_emod]
  by_cases h : a % S + 1 = S
  · rw [if_pos h]
    by_cases hs1 : S = 1
    · subst hs1; omega
    · rw [Int.emod_eq_of_lt (a := 1) (by omega) (by omega), h, Int.emod_self]
  · rw [if_neg h, Int.emod_eq_of_lt (a := 1) (by omega) (by omega), Int.emod_eq_of_lt (by omega) (by omega)]
set_option maxHeartbeats 1000000 in
theorem path_s (k : Kid) (S : Nat) (hS1 : 1 ≤ S) (hS2 : S ≤ 100) : PS Try.prog 40 [.agg (k4 k.1 k.2.1 k.2.2.1 k.2.2.2), .i S] (ints (pathL S k S)) := ps_acc (e := 3) (cl_ints _) fun H => by
  rw [pathL_len]
  refine sc_in TYok Try.func40 (by kernel_rfl) Try.ntmps40 rfl rfl rfl ?_
  refine aw_seq ?_
  refine aw_region ?_
  refine sq_newk TYok TYz false rfl rfl rfl True.intro fun H1 hb1 ho1 hl1 => ?_
  have hpm := pathm_s k.1 k.2.1 k.2.2.1 k.2.2.2 S (by omega) H1
  have e1 : H1.length = H.length + 1 := hl1
  (repeat' (first | (refine sq_id ?_; first | refine sq_nil ?_ | refine sq_move rfl rfl rfl ?_ | refine sq_assign rfl rfl rfl ?_ | refine sq_skip rfl rfl ?_ | refine sq_t TYok TYz rfl rfl rfl True.intro so ?_ | refine sq_f TYok TYz rfl rfl rfl True.intro so ?_ | refine sq_pure TYok TYz false rfl rfl rfl sd ?_ | refine sq_pure TYok TYz true rfl rfl rfl sd ?_ | refine sq_load TYok rfl rfl rfl (by assumption) (by rfl) (by first | exact Nat.zero_lt_one | assumption | omega) (by rfl) ?_ | refine sq_lit TYok TYz rfl rfl rfl rfl rfl rfl rfl rfl ?_ | refine sq_ixa TYok rfl rfl rfl rfl rfl rfl rfl sd ?_ | refine sq_ixr TYok rfl rfl rfl rfl rfl rfl rfl sd ?_ | refine sq_call rfl rfl rfl (LeL.refl _) (hpm.mono fun r H2 ⟨e, ha, hs, hx⟩ => ?_) | (cases e)) | (refine rg_id ?_; first | refine rg_fin ?_ | refine rg_move rfl rfl rfl ?_ | refine rg_assign rfl rfl rfl ?_ | refine rg_skip rfl rfl ?_ | refine rg_t TYok TYz rfl rfl rfl True.intro so ?_ | refine rg_f TYok TYz rfl rfl rfl True.intro so ?_ | refine rg_pure TYok TYz false rfl rfl rfl sd ?_ | refine rg_pure TYok TYz true rfl rfl rfl sd ?_ | refine rg_load TYok rfl rfl rfl (by assumption) (by rfl) (by first | exact Nat.zero_lt_one | assumption | omega) (by rfl) ?_ | refine rg_lit TYok TYz rfl rfl rfl rfl rfl rfl rfl rfl ?_ | refine rg_ixa TYok rfl rfl rfl rfl rfl rfl rfl sd ?_ | refine rg_ixr TYok rfl rfl rfl rfl rfl rfl rfl sd ?_ | refine sq_call rfl rfl rfl (LeL.refl _) (hpm.mono fun r H2 ⟨e, ha, hs, hx⟩ => ?_) | (cases e)) | refine aw_rseq ?_ | refine aw_seq ?_ | refine aw_region ?_ | refine aw_skip ?_ | refine aw_true rfl ?_ | refine aw_false rfl ?_ | refine aw_d0seq rfl (by kernel_rfl) ?_ | refine aw_d0 rfl (by kernel_rfl) ?_ | refine aw_block ?_ | refine aw_exit ?_ | refine then_ret ?_ | refine then_exit ?_ | refine then_normal ?_ | refine blk_ret ?_ | refine blk_normal ?_ | refine blk_exit ?_ | refine blk_pass rfl ?_ | refine sq_call rfl rfl rfl (LeL.refl _) (hpm.mono fun r H2 ⟨e, ha, hs, hx⟩ => ?_) | (cases e)))
  have hlt := (List.getElem?_eq_some_iff.1 ha).1
  refine aw_for [4, 5, 15, 16] (fun s : Nat × AV => [(4, s.2), (5, .fn (.func 76) [] [.ref (H1.length + 2) 1 0 0, .ref (H1.length + 1) 1 0 0]), (15, .i S), (16, .i s.1)])
    (fun s H' => s.1 ≤ S ∧ Ext H H' ∧ H2.length ≤ H'.length ∧ H'[H1.length + 2]? = some (some (ib ((kh k + s.1) % S))) ∧ H'[H1.length + 1]? = some (some (ib S)) ∧ Acc H2.length H' s.2 3 1 s.1 (fun i => [.i ((pathL S k S).getD i 0)]))
    (fun s => S - s.1) (0, .p (.slice none 0 0)) (by rw [rstf_eq]; rfl) ⟨by omega, ho1.ext.trans hx, Nat.le_refl _, by rw [show kh k + ((0 : Nat) : Int) = kh k by omega]; exact ha, hs, acc_nil _ _ _ _ _⟩ ?_
  rintro ⟨j, fa⟩ H3 ⟨hj, hx3, hl3, ha3, hs3, hacc⟩
  simp only at hj hl3 ha3 hs3 hacc
  by_cases hlt2 : j < S
  · obtain ⟨q1, q2⟩ := hS_lt S hS1 k j
    have hn := pathn_s (H1.length + 2) (H1.length + 1) ((kh k + j) % S) S (by omega) (by omega) H3 ha3 hs3 (by omega)
    rw [← mod_next _ _ (by omega), show kh k + (j : Int) + 1 = kh k + ((j + 1 : Nat) : Int) by omega] at hn
    have hat := pathL_at S k S j hlt2
    rw [← q2] at hn
    (repeat' (first | (refine sq_id ?_; first | refine sq_nil ?_ | refine sq_move rfl rfl rfl ?_ | refine sq_assign rfl rfl rfl ?_ | refine sq_skip rfl rfl ?_ | refine sq_t TYok TYz rfl rfl rfl True.intro so ?_ | refine sq_f TYok TYz rfl rfl rfl True.intro so ?_ | refine sq_pure TYok TYz false rfl rfl rfl sd ?_ | refine sq_pure TYok TYz true rfl rfl rfl sd ?_ | refine sq_load TYok rfl rfl rfl (by assumption) (by rfl) (by first | exact Nat.zero_lt_one | assumption | omega) (by rfl) ?_ | refine sq_lit TYok TYz rfl rfl rfl rfl rfl rfl rfl rfl ?_ | refine sq_ixa TYok rfl rfl rfl rfl rfl rfl rfl sd ?_ | refine sq_ixr TYok rfl rfl rfl rfl rfl rfl rfl sd ?_ | refine sq_movek (v := fa) rfl rfl rfl ?_ | refine sq_assignk (v := fa) rfl rfl rfl ?_ | refine rg_movek (v := fa) rfl rfl rfl ?_ | refine rg_assignk (v := fa) rfl rfl rfl ?_ | refine sq_callv rfl rfl rfl rfl (LeL.refl _) (hn.mono fun r H4 ⟨e, ha4, ho4, hl4⟩ => ?_) | (cases e)) | (refine rg_id ?_; first | refine rg_fin ?_ | refine rg_move rfl rfl rfl ?_ | refine rg_assign rfl rfl rfl ?_ | refine rg_skip rfl rfl ?_ | refine rg_t TYok TYz rfl rfl rfl True.intro so ?_ | refine rg_f TYok TYz rfl rfl rfl True.intro so ?_ | refine rg_pure TYok TYz false rfl rfl rfl sd ?_ | refine rg_pure TYok TYz true rfl rfl rfl sd ?_ | refine rg_load TYok rfl rfl rfl (by assumption) (by rfl) (by first | exact Nat.zero_lt_one | assumption | omega) (by rfl) ?_ | refine rg_lit TYok TYz rfl rfl rfl rfl rfl rfl rfl rfl ?_ | refine rg_ixa TYok rfl rfl rfl rfl rfl rfl rfl sd ?_ | refine rg_ixr TYok rfl rfl rfl rfl rfl rfl rfl sd ?_ | refine sq_movek (v := fa) rfl rfl rfl ?_ | refine sq_assignk (v := fa) rfl rfl rfl ?_ | refine rg_movek (v := fa) rfl rfl rfl ?_ | refine rg_assignk (v := fa) rfl rfl rfl ?_ | refine sq_callv rfl rfl rfl rfl (LeL.refl _) (hn.mono fun r H4 ⟨e, ha4, ho4, hl4⟩ => ?_) | (cases e)) | refine aw_rseq ?_ | refine aw_seq ?_ | refine aw_region ?_ | refine aw_skip ?_ | refine aw_true rfl ?_ | refine aw_false rfl ?_ | refine aw_d0seq rfl (by kernel_rfl) ?_ | refine aw_d0 rfl (by kernel_rfl) ?_ | refine aw_block ?_ | refine aw_exit ?_ | refine then_ret ?_ | refine then_exit ?_ | refine then_normal ?_ | refine blk_ret ?_ | refine blk_normal ?_ | refine blk_exit ?_ | refine blk_pass rfl ?_ | refine sq_movek (v := fa) rfl rfl rfl ?_ | refine sq_assignk (v := fa) rfl rfl rfl ?_ | refine rg_movek (v := fa) rfl rfl rfl ?_ | refine rg_assignk (v := fa) rfl rfl rfl ?_ | refine sq_callv rfl rfl rfl rfl (LeL.refl _) (hn.mono fun r H4 ⟨e, ha4, ho4, hl4⟩ => ?_) | (cases e)))
    have hs4 := ho4.get hs3 (by simp)
    have hacc4 := hacc.keep ho4 (.inr fun e => acc_ne hacc (by omega) e.symm)
    refine sq_app TYok TYz rfl rfl rfl rfl rfl rfl rfl (by decide) (hacc4.low (by omega)) (.lst _ _ _ _) (by show (j + 1) * 8 ≤ _; omega) (by omega) fun fa' H5 ha5 ho5 hn5 => ?_
    have hacc5 := hacc4.up ha5 (by omega) hn5
    have ha5' := ho5.get ha4 (acc_ne hacc4 (by omega))
    have hs5 := ho5.get hs4 (acc_ne hacc4 (by omega))
    (repeat' (first | (refine sq_id ?_; first | refine sq_nil ?_ | refine sq_move rfl rfl rfl ?_ | refine sq_assign rfl rfl rfl ?_ | refine sq_skip rfl rfl ?_ | refine sq_t TYok TYz rfl rfl rfl True.intro so ?_ | refine sq_f TYok TYz rfl rfl rfl True.intro so ?_ | refine sq_pure TYok TYz false rfl rfl rfl sd ?_ | refine sq_pure TYok TYz true rfl rfl rfl sd ?_ | refine sq_load TYok rfl rfl rfl (by assumption) (by rfl) (by first | exact Nat.zero_lt_one | assumption | omega) (by rfl) ?_ | refine sq_lit TYok TYz rfl rfl rfl rfl rfl rfl rfl rfl ?_ | refine sq_ixa TYok rfl rfl rfl rfl rfl rfl rfl sd ?_ | refine sq_ixr TYok rfl rfl rfl rfl rfl rfl rfl sd ?_ | refine sq_movek (v := fa') rfl rfl rfl ?_ | refine sq_assignk (v := fa') rfl rfl rfl ?_ | refine rg_movek (v := fa') rfl rfl rfl ?_ | refine rg_assignk (v := fa') rfl rfl rfl ?_) | (refine rg_id ?_; first | refine rg_fin ?_ | refine rg_move rfl rfl rfl ?_ | refine rg_assign rfl rfl rfl ?_ | refine rg_skip rfl rfl ?_ | refine rg_t TYok TYz rfl rfl rfl True.intro so ?_ | refine rg_f TYok TYz rfl rfl rfl True.intro so ?_ | refine rg_pure TYok TYz false rfl rfl rfl sd ?_ | refine rg_pure TYok TYz true rfl rfl rfl sd ?_ | refine rg_load TYok rfl rfl rfl (by assumption) (by rfl) (by first | exact Nat.zero_lt_one | assumption | omega) (by rfl) ?_ | refine rg_lit TYok TYz rfl rfl rfl rfl rfl rfl rfl rfl ?_ | refine rg_ixa TYok rfl rfl rfl rfl rfl rfl rfl sd ?_ | refine rg_ixr TYok rfl rfl rfl rfl rfl rfl rfl sd ?_ | refine sq_movek (v := fa') rfl rfl rfl ?_ | refine sq_assignk (v := fa') rfl rfl rfl ?_ | refine rg_movek (v := fa') rfl rfl rfl ?_ | refine rg_assignk (v := fa') rfl rfl rfl ?_) | refine aw_rseq ?_ | refine aw_seq ?_ | refine aw_region ?_ | refine aw_skip ?_ | refine aw_true rfl ?_ | refine aw_false rfl ?_ | refine aw_d0seq rfl (by kernel_rfl) ?_ | refine aw_d0 rfl (by kernel_rfl) ?_ | refine aw_block ?_ | refine aw_exit ?_ | refine then_ret ?_ | refine then_exit ?_ | refine then_normal ?_ | refine blk_ret ?_ | refine blk_normal ?_ | refine blk_exit ?_ | refine blk_pass rfl ?_ | refine sq_movek (v := fa') rfl rfl rfl ?_ | refine sq_assignk (v := fa') rfl rfl rfl ?_ | refine rg_movek (v := fa') rfl rfl rfl ?_ | refine rg_assignk (v := fa') rfl rfl rfl ?_))
    refine ⟨(j + 1, fa'), by rw [rstf_eq]; rfl, ⟨by show j + 1 ≤ S; omega, ?_, by have := ho5.1; omega, ha5', hs5, ?_⟩, by show S - (j + 1) < S - j; omega⟩
    · have hx4 : Ext H H4 := hx3.oth ho4 (by rintro _ ⟨⟩; omega)
      exact hx4.acc (hacc4.low (by omega)) ho5
    · refine hacc5.ext fun i hi => ?_
      by_cases h : i < j
      · rw [if_pos h]
      · have : i = j := by omega
        subst this
        rw [if_neg h, hat, Nat.sub_self]; rfl
  · have : j = S := by omega
    subst this
    (repeat' (first | (refine sq_id ?_; first | refine sq_nil ?_ | refine sq_move rfl rfl rfl ?_ | refine sq_assign rfl rfl rfl ?_ | refine sq_skip rfl rfl ?_ | refine sq_t TYok TYz rfl rfl rfl True.intro so ?_ | refine sq_f TYok TYz rfl rfl rfl True.intro so ?_ | refine sq_pure TYok TYz false rfl rfl rfl sd ?_ | refine sq_pure TYok TYz true rfl rfl rfl sd ?_ | refine sq_load TYok rfl rfl rfl (by assumption) (by rfl) (by first | exact Nat.zero_lt_one | assumption | omega) (by rfl) ?_ | refine sq_lit TYok TYz rfl rfl rfl rfl rfl rfl rfl rfl ?_ | refine sq_ixa TYok rfl rfl rfl rfl rfl rfl rfl sd ?_ | refine sq_ixr TYok rfl rfl rfl rfl rfl rfl rfl sd ?_ | refine sq_movek (v := fa) rfl rfl rfl ?_ | refine sq_assignk (v := fa) rfl rfl rfl ?_ | refine rg_movek (v := fa) rfl rfl rfl ?_ | refine rg_assignk (v := fa) rfl rfl rfl ?_) | (refine rg_id ?_; first | refine rg_fin ?_ | refine rg_move rfl rfl rfl ?_ | refine rg_assign rfl rfl rfl ?_ | refine rg_skip rfl rfl ?_ | refine rg_t TYok TYz rfl rfl rfl True.intro so ?_ | refine rg_f TYok TYz rfl rfl rfl True.intro so ?_ | refine rg_pure TYok TYz false rfl rfl rfl sd ?_ | refine rg_pure TYok TYz true rfl rfl rfl sd ?_ | refine rg_load TYok rfl rfl rfl (by assumption) (by rfl) (by first | exact Nat.zero_lt_one | assumption | omega) (by rfl) ?_ | refine rg_lit TYok TYz rfl rfl rfl rfl rfl rfl rfl rfl ?_ | refine rg_ixa TYok rfl rfl rfl rfl rfl rfl rfl sd ?_ | refine rg_ixr TYok rfl rfl rfl rfl rfl rfl rfl sd ?_ | refine sq_movek (v := fa) rfl rfl rfl ?_ | refine sq_assignk (v := fa) rfl rfl rfl ?_ | refine rg_movek (v := fa) rfl rfl rfl ?_ | refine rg_assignk (v := fa) rfl rfl rfl ?_) | refine aw_rseq ?_ | refine aw_seq ?_ | refine aw_region ?_ | refine aw_skip ?_ | refine aw_true rfl ?_ | refine aw_false rfl ?_ | refine aw_d0seq rfl (by kernel_rfl) ?_ | refine aw_d0 rfl (by kernel_rfl) ?_ | refine aw_block ?_ | refine aw_exit ?_ | refine then_ret ?_ | refine then_exit ?_ | refine then_normal ?_ | refine blk_ret ?_ | refine blk_normal ?_ | refine blk_exit ?_ | refine blk_pass rfl ?_ | refine aw_dec rfl (fun _ => ?_) (fun _ => ?_) | refine sq_movek (v := fa) rfl rfl rfl ?_ | refine sq_assignk (v := fa) rfl rfl rfl ?_ | refine rg_movek (v := fa) rfl rfl rfl ?_ | refine rg_assignk (v := fa) rfl rfl rfl ?_))
    ((try refine aw_ret ?_); (repeat (first | refine then_ret ?_ | refine blk_ret ?_)); refine fin_k True.intro rfl ?_)
    exact ⟨hx3, hacc.low (by omega)⟩
end Go.Proofs.Ytphjglbbhanmpaa.Ab
