/- EpochTells, walked. -/
import Derived.Test.YtmhepmocnnlhnaaQW
import Derived.Test.YtmhepmocnnlhnaaRG
namespace Go.Proofs.Ytmhepmocnnlhnaa.Ab
open Go Go.RowKit
theorem bd_new (w : Int) : Bd (newE w) := by
  unfold newE
  split
  · exact ⟨by show (List.replicate w.toNat (0 : Int)).length ≤ 100; rw [List.length_replicate]; omega, by show (0 : Nat) + 0 + 0 + 0 ≤ 1100; decide⟩
  · exact ⟨by decide, by decide⟩
theorem bd_pin {e : Ep} (h : Bd e) (i : Int) : Bd (pinE e i).1 := by
  rcases pin_cases e i with ⟨h1, _⟩ | ⟨j, _, _, _, hr, h1⟩ <;> rw [h1]
  · exact h
  · exact (right_set hr j _ (.inr (.inr rfl))).bd
theorem bd_unpin {e : Ep} (h : Bd e) (i : Int) : Bd (unpinE e i).1 := by
  rcases unpin_cases e i with ⟨h1, _⟩ | ⟨j, _, _, _, hr, h1⟩ <;> rw [h1]
  · exact h
  · exact (right_set hr j _ (.inl rfl)).bd
theorem bd_retire {e : Ep} (h : Bd e) (i n : Int) : Bd (retireE e i n).1 := by
  rcases retire_cases e i n with ⟨h1, _⟩ | ⟨j, _, _, _, hr, hp, hne, hl, h1⟩ <;> rw [h1]
  · exact h
  · exact (right_addL hr _ n hp hne hl).bd
theorem bd_advance {e : Ep} (h : Bd e) : Bd (advanceE e).1 := by
  rcases advance_cases e with ⟨h1, _⟩ | ⟨hr, hb, h1⟩ <;> rw [h1]
  · exact h
  · exact (right_advT hr hb).bd
theorem bd_take {e : Ep} (h : Bd e) : Bd (takeE e).1 := by
  rcases take_cases e with ⟨h1, _⟩ | ⟨hr, hf, h1⟩ <;> rw [h1]
  · exact h
  · exact (right_take hr hf).bd
def EpOk (E : Ep) : Prop := I64 E.now ∧ E.pins.length ≤ 17592186044416 ∧ E.l0.length ≤ 17592186044416 ∧ E.l1.length ≤ 17592186044416 ∧ E.l2.length ≤ 17592186044416 ∧ E.free.length ≤ 17592186044416
set_option maxHeartbeats 16000000 in
theorem tellsH_s (H : AH) (wk : Int) (L : List (Int × Int × Int)) (E : Ep) (w n : Int) (hwk : I64 wk) (hL : L.length ≤ maxLen ∧ R64 L) (hE : EpOk E) (hw : I64 w) (hn : I64 n) :
    SC true Try.prog 3 [.i wk, rows3 L, epv E, .i w, .i n] H (fun r _ => r = .b true) := by
  have hA := awake_s
  have hEp := epochs_s wk hwk L hL.2 hL.1
  have hB1 := (epochs_inv wk L).right.bd
  generalize epochsE wk L = e0 at *
  obtain ⟨pw, hpw, _, pw0, pw1⟩ := pick_k w 6 hw (by decide)
  obtain ⟨pn, hpn, _, pn0, pn1⟩ := pick_k n 21 hn (by decide)
  have hN1 := new_s w
  have hN2 := refnew_s w
  have hSn := refsame_s (newE w) (bd_new w)
  refine sc_in TYok Try.func3 (by kernel_rfl) Try.ntmps3 rfl rfl rfl ?_
  refine aw_seq ?_
  refine aw_region ?_
  refine nw fun H1 hb1 ho1 hl1 => ?_
  (repeat' (first | (refine sq_id ?_; first | refine sq_nil ?_ | refine sm ?_ | refine sa ?_ | refine ss ?_ | refine st ?_ | refine sf ?_ | refine sp ?_ | refine sq ?_ | refine sl ?_ | refine si ?_ | refine sx ?_ | refine sy ?_ | refine sc hA ?_ | refine sc hN1 ?_ | refine sc hN2 ?_ | refine sc hSn ?_ | refine rc hEp ?_ | fail) | (refine rg_id ?_; first | refine rg_fin ?_ | refine rm ?_ | refine ra ?_ | refine rs ?_ | refine rt ?_ | refine rf ?_ | refine rp ?_ | refine rq ?_ | refine rl ?_ | refine ri ?_ | refine rx ?_ | refine ry ?_ | refine sc hA ?_ | refine sc hN1 ?_ | refine sc hN2 ?_ | refine sc hSn ?_ | refine rc hEp ?_ | fail) | refine aw_rseq ?_ | refine aw_seq ?_ | refine aw_region ?_ | refine aw_skip ?_ | refine ct ?_ | refine cf ?_ | refine d0s ?_ | refine d0r ?_ | refine aw_block ?_ | refine aw_exit ?_ | refine then_ret ?_ | refine then_exit ?_ | refine then_normal ?_ | refine blk_ret ?_ | refine blk_normal ?_ | refine blk_exit ?_ | refine blk_pass rfl ?_ | refine sc hA ?_ | refine sc hN1 ?_ | refine sc hN2 ?_ | refine sc hSn ?_ | refine rc hEp ?_ | fail))
  refine aw_slot 45 (.lst true 6 2 fun i => epc (if i = 0 then e0 else E)) (le_lst (fun h => h) fun i hi => by
    rcases (by omega : i = 0 ∨ i = 1) with rfl | rfl <;> rfl) ?_
  rw [List.append_nil]
  refine aw_for [3, 4, 11, 45, 46, 47] (fun k : Nat => [(3, .i w), (4, .i n), (11, .b true), (45, .lst true 6 2 fun i => epc (if i = 0 then e0 else E)), (46, .i 2), (47, .i k)]) (fun k H' => k ≤ 2) (fun k => 2 - k) 0 (by rw [rstf_eq]; rfl) (by omega) ?_
  rintro k Hx hk
  have hBk : (if k = 0 then e0 else E).pins.length ≤ 17592186044416 ∧ (if k = 0 then e0 else E).l0.length ≤ 17592186044416 ∧ (if k = 0 then e0 else E).l1.length ≤ 17592186044416 ∧ (if k = 0 then e0 else E).l2.length ≤ 17592186044416 ∧ (if k = 0 then e0 else E).free.length ≤ 17592186044416 := by
    split
    · obtain ⟨a, b⟩ := hB1
      exact ⟨by omega, by omega, by omega, by omega, by omega⟩
    · exact hE.2
  by_cases hk2 : k < 2
  · (repeat' (first | (refine sq_id ?_; first | refine sq_nil ?_ | refine sm ?_ | refine sa ?_ | refine ss ?_ | refine st ?_ | refine sf ?_ | refine sp ?_ | refine sq ?_ | refine sl ?_ | refine si ?_ | refine sx ?_ | refine sy ?_ | fail) | (refine rg_id ?_; first | refine rg_fin ?_ | refine rm ?_ | refine ra ?_ | refine rs ?_ | refine rt ?_ | refine rf ?_ | refine rp ?_ | refine rq ?_ | refine rl ?_ | refine ri ?_ | refine rx ?_ | refine ry ?_ | fail) | refine aw_rseq ?_ | refine aw_seq ?_ | refine aw_region ?_ | refine aw_skip ?_ | refine ct ?_ | refine cf ?_ | refine d0s ?_ | refine d0r ?_ | refine aw_block ?_ | refine aw_exit ?_ | refine then_ret ?_ | refine then_exit ?_ | refine then_normal ?_ | refine blk_ret ?_ | refine blk_normal ?_ | refine blk_exit ?_ | refine blk_pass rfl ?_ | fail))
    refine nw fun H2 hb2 ho2 hl2 => ?_
    refine sw hb2 fun H3 hb3 ho3 hl3 => ?_
    refine sq_nil ?_
    obtain ⟨e, he⟩ : ∃ e, e = if k = 0 then e0 else E := ⟨_, rfl⟩
    rw [← he] at hBk
    refine aw_norm Hx.length (ebk (epc e)) hb3 rfl rfl rfl (one_of rfl (by rw [he]; rfl)) fun H4 hb4 ho4 hl4 => ?_
    clear he hb2 hb3 ho2 ho3 hl2 hl3 ho4 hl4
    obtain ⟨g0, g1, g2, g3, g4⟩ := hBk
    by_cases hp : 100 < e.pins.length
    · (repeat' (first | (refine sq_id ?_; first | refine sq_nil ?_ | refine sm ?_ | refine sa ?_ | refine ss ?_ | refine st ?_ | refine sf ?_ | refine sp ?_ | refine sq ?_ | refine sl ?_ | refine si ?_ | refine sx ?_ | refine sy ?_) | (refine rg_id ?_; first | refine rg_fin ?_ | refine rm ?_ | refine ra ?_ | refine rs ?_ | refine rt ?_ | refine rf ?_ | refine rp ?_ | refine rq ?_ | refine rl ?_ | refine ri ?_ | refine rx ?_ | refine ry ?_) | refine aw_rseq ?_ | refine aw_seq ?_ | refine aw_region ?_ | refine aw_skip ?_ | refine ct ?_ | refine cf ?_ | refine d0s ?_ | refine d0r ?_ | refine aw_block ?_ | refine aw_exit ?_ | refine then_ret ?_ | refine then_exit ?_ | refine then_normal ?_ | refine blk_ret ?_ | refine blk_normal ?_ | refine blk_exit ?_ | refine blk_pass rfl ?_))
      exact ⟨k + 1, by rw [rstf_eq]; rfl, by omega, by omega⟩
    by_cases hs : 1100 < e.l0.length + e.l1.length + e.l2.length + e.free.length
    · (repeat' (first | (refine sq_id ?_; first | refine sq_nil ?_ | refine sm ?_ | refine sa ?_ | refine ss ?_ | refine st ?_ | refine sf ?_ | refine sp ?_ | refine sq ?_ | refine sl ?_ | refine si ?_ | refine sx ?_ | refine sy ?_) | (refine rg_id ?_; first | refine rg_fin ?_ | refine rm ?_ | refine ra ?_ | refine rs ?_ | refine rt ?_ | refine rf ?_ | refine rp ?_ | refine rq ?_ | refine rl ?_ | refine ri ?_ | refine rx ?_ | refine ry ?_) | refine aw_rseq ?_ | refine aw_seq ?_ | refine aw_region ?_ | refine aw_skip ?_ | refine ct ?_ | refine cf ?_ | refine d0s ?_ | refine d0r ?_ | refine aw_block ?_ | refine aw_exit ?_ | refine then_ret ?_ | refine then_exit ?_ | refine then_normal ?_ | refine blk_ret ?_ | refine blk_normal ?_ | refine blk_exit ?_ | refine blk_pass rfl ?_))
      exact ⟨k + 1, by rw [rstf_eq]; rfl, by omega, by omega⟩
    have hbd : Bd e := ⟨by omega, by omega⟩
    (repeat' (first | (refine sq_id ?_; first | refine sq_nil ?_ | refine sm ?_ | refine sa ?_ | refine ss ?_ | refine st ?_ | refine sf ?_ | refine sp ?_ | refine sq ?_ | refine sl ?_ | refine si ?_ | refine sx ?_ | refine sy ?_ | refine sc hpw ?_ | refine sc hpn ?_ | refine rc hpw ?_ | refine rc hpn ?_ | fail) | (refine rg_id ?_; first | refine rg_fin ?_ | refine rm ?_ | refine ra ?_ | refine rs ?_ | refine rt ?_ | refine rf ?_ | refine rp ?_ | refine rq ?_ | refine rl ?_ | refine ri ?_ | refine rx ?_ | refine ry ?_ | refine sc hpw ?_ | refine sc hpn ?_ | refine rc hpw ?_ | refine rc hpn ?_ | fail) | refine aw_rseq ?_ | refine aw_seq ?_ | refine aw_region ?_ | refine aw_skip ?_ | refine ct ?_ | refine cf ?_ | refine d0s ?_ | refine d0r ?_ | refine aw_block ?_ | refine aw_exit ?_ | refine then_ret ?_ | refine then_exit ?_ | refine then_normal ?_ | refine blk_ret ?_ | refine blk_normal ?_ | refine blk_exit ?_ | refine blk_pass rfl ?_ | refine sc hpw ?_ | refine sc hpn ?_ | refine rc hpw ?_ | refine rc hpn ?_ | fail))
    refine aw_slot 84 (.lst true 2 2 fun i => [.i (if i = 0 then w else pw), .i (if i = 0 then n else pn)]) (le_lst (fun h => h) fun i hi => by
      rcases (by omega : i = 0 ∨ i = 1) with rfl | rfl <;> rfl) ?_
    try rw [List.append_nil]
    refine aw_for [3, 4, 11, 13, 45, 46, 47, 84, 85, 86] (fun j : Nat => [(3, .i w), (4, .i n), (11, .b true), (13, .ref Hx.length 6 0 0), (45, .lst true 6 2 fun i => epc (if i = 0 then e0 else E)), (46, .i 2), (47, .i k), (84, .lst true 2 2 fun i => [.i (if i = 0 then w else pw), .i (if i = 0 then n else pn)]), (85, .i 2), (86, .i j)]) (fun j H' => j ≤ 2 ∧ H'[Hx.length]? = some (some (ebk (epc e)))) (fun j => 2 - j) 0 (by rw [rstf_eq]; rfl) ⟨by omega, hb4⟩ ?_
    clear hb4
    rintro j Hy ⟨hj, hb⟩
    by_cases hj2 : j < 2
    · (repeat' (first | (refine sq_id ?_; first | refine sq_nil ?_ | refine sm ?_ | refine sa ?_ | refine ss ?_ | refine st ?_ | refine sf ?_ | refine sp ?_ | refine sq ?_ | refine sl ?_ | refine si ?_ | refine sx ?_ | refine sy ?_ | fail) | (refine rg_id ?_; first | refine rg_fin ?_ | refine rm ?_ | refine ra ?_ | refine rs ?_ | refine rt ?_ | refine rf ?_ | refine rp ?_ | refine rq ?_ | refine rl ?_ | refine ri ?_ | refine rx ?_ | refine ry ?_ | fail) | refine aw_rseq ?_ | refine aw_seq ?_ | refine aw_region ?_ | refine aw_skip ?_ | refine ct ?_ | refine cf ?_ | refine d0s ?_ | refine d0r ?_ | refine aw_block ?_ | refine aw_exit ?_ | refine then_ret ?_ | refine then_exit ?_ | refine then_normal ?_ | refine blk_ret ?_ | refine blk_normal ?_ | refine blk_exit ?_ | refine blk_pass rfl ?_ | fail))
      refine nw fun H2 hb2 ho2 hl2 => ?_
      have hyl := (List.getElem?_eq_some_iff.1 hb).1
      have hb := ho2.get0 hb
      obtain ⟨x0, hx0⟩ : ∃ x0, x0 = if j = 0 then w else pw := ⟨_, rfl⟩
      obtain ⟨x1, hx1⟩ : ∃ x1, x1 = if j = 0 then n else pn := ⟨_, rfl⟩
      rw [← hx0, ← hx1]
      refine sw hb2 fun H3 bx ho3 hl3 => ?_
      have hb := ho3.get hb (by simp; omega)
      clear hx0 hx1
      have c1 := pin_s e hbd x0
      have c2 := refpin_s e hbd x0
      have hB := bd_pin hbd x0
      obtain ⟨q, hq⟩ : ∃ q, q = pinE e x0 := ⟨_, rfl⟩
      rw [← hq] at c1 c2 hB
      obtain ⟨a, er⟩ := q
      clear hq
      have hS := refsame_s a hB
      (repeat' (first | (refine sq_id ?_; first | refine sq_nil ?_ | refine sm ?_ | refine sa ?_ | refine ss ?_ | refine st ?_ | refine sf ?_ | refine sp ?_ | refine sq ?_ | refine sl ?_ | refine si ?_ | refine sx ?_ | refine sy ?_ | refine sc c1 ?_ | fail) | (refine rg_id ?_; first | refine rg_fin ?_ | refine rm ?_ | refine ra ?_ | refine rs ?_ | refine rt ?_ | refine rf ?_ | refine rp ?_ | refine rq ?_ | refine rl ?_ | refine ri ?_ | refine rx ?_ | refine ry ?_ | refine sc c1 ?_ | fail) | refine aw_rseq ?_ | refine aw_seq ?_ | refine aw_region ?_ | refine aw_skip ?_ | refine ct ?_ | refine cf ?_ | refine d0s ?_ | refine d0r ?_ | refine aw_block ?_ | refine aw_exit ?_ | refine then_ret ?_ | refine then_exit ?_ | refine then_normal ?_ | refine blk_ret ?_ | refine blk_normal ?_ | refine blk_exit ?_ | refine blk_pass rfl ?_ | refine sc c1 ?_ | fail))
      refine nw fun G1 hn1 hoa1 hla1 => ?_
      have hb := hoa1.get0 hb
      have bx := hoa1.get0 bx
      refine sw hn1 fun G2 ba ho1' hl1' => ?_
      have hb := ho1'.get hb (by simp; omega)
      have bx := ho1'.get bx (by simp; omega)
      (repeat' (first | (refine sq_id ?_; first | refine sq_nil ?_ | refine sm ?_ | refine sa ?_ | refine ss ?_ | refine st ?_ | refine sf ?_ | refine sp ?_ | refine sq ?_ | refine sl ?_ | refine si ?_ | refine sx ?_ | refine sy ?_ | refine sc c2 ?_ | fail) | (refine rg_id ?_; first | refine rg_fin ?_ | refine rm ?_ | refine ra ?_ | refine rs ?_ | refine rt ?_ | refine rf ?_ | refine rp ?_ | refine rq ?_ | refine rl ?_ | refine ri ?_ | refine rx ?_ | refine ry ?_ | refine sc c2 ?_ | fail) | refine aw_rseq ?_ | refine aw_seq ?_ | refine aw_region ?_ | refine aw_skip ?_ | refine ct ?_ | refine cf ?_ | refine d0s ?_ | refine d0r ?_ | refine aw_block ?_ | refine aw_exit ?_ | refine then_ret ?_ | refine then_exit ?_ | refine then_normal ?_ | refine blk_ret ?_ | refine blk_normal ?_ | refine blk_exit ?_ | refine blk_pass rfl ?_ | refine sc c2 ?_ | fail))
      refine nw fun G3 hn3 hoa3 hla3 => ?_
      have hb := hoa3.get0 hb
      have bx := hoa3.get0 bx
      have ba := hoa3.get0 ba
      refine sw hn3 fun G4 bb ho3' hl3' => ?_
      have hb := ho3'.get hb (by simp; omega)
      have bx := ho3'.get bx (by simp; omega)
      have ba := ho3'.get ba (by simp; omega)
      (repeat' (first | (refine sq_id ?_; first | refine sq_nil ?_ | refine sm ?_ | refine sa ?_ | refine ss ?_ | refine st ?_ | refine sf ?_ | refine sp ?_ | refine sq ?_ | refine sl ?_ | refine si ?_ | refine sx ?_ | refine sy ?_ | refine sc hS ?_ | fail) | (refine rg_id ?_; first | refine rg_fin ?_ | refine rm ?_ | refine ra ?_ | refine rs ?_ | refine rt ?_ | refine rf ?_ | refine rp ?_ | refine rq ?_ | refine rl ?_ | refine ri ?_ | refine rx ?_ | refine ry ?_ | refine sc hS ?_ | fail) | refine aw_rseq ?_ | refine aw_seq ?_ | refine aw_region ?_ | refine aw_skip ?_ | refine ct ?_ | refine cf ?_ | refine d0s ?_ | refine d0r ?_ | refine aw_block ?_ | refine aw_exit ?_ | refine then_ret ?_ | refine then_exit ?_ | refine then_normal ?_ | refine blk_ret ?_ | refine blk_normal ?_ | refine blk_exit ?_ | refine blk_pass rfl ?_ | refine sc hS ?_ | fail))
      have c1 := unpin_s e hbd x0
      have c2 := refunpin_s e hbd x0
      have hB := bd_unpin hbd x0
      obtain ⟨q, hq⟩ : ∃ q, q = unpinE e x0 := ⟨_, rfl⟩
      rw [← hq] at c1 c2 hB
      obtain ⟨a, er⟩ := q
      clear hq
      have hS := refsame_s a hB
      (repeat' (first | (refine sq_id ?_; first | refine sq_nil ?_ | refine sm ?_ | refine sa ?_ | refine ss ?_ | refine st ?_ | refine sf ?_ | refine sp ?_ | refine sq ?_ | refine sl ?_ | refine si ?_ | refine sx ?_ | refine sy ?_ | refine sc c1 ?_ | fail) | (refine rg_id ?_; first | refine rg_fin ?_ | refine rm ?_ | refine ra ?_ | refine rs ?_ | refine rt ?_ | refine rf ?_ | refine rp ?_ | refine rq ?_ | refine rl ?_ | refine ri ?_ | refine rx ?_ | refine ry ?_ | refine sc c1 ?_ | fail) | refine aw_rseq ?_ | refine aw_seq ?_ | refine aw_region ?_ | refine aw_skip ?_ | refine ct ?_ | refine cf ?_ | refine d0s ?_ | refine d0r ?_ | refine aw_block ?_ | refine aw_exit ?_ | refine then_ret ?_ | refine then_exit ?_ | refine then_normal ?_ | refine blk_ret ?_ | refine blk_normal ?_ | refine blk_exit ?_ | refine blk_pass rfl ?_ | refine sc c1 ?_ | fail))
      refine sw ba fun G5 ba ho5 hl5 => ?_
      have hb := ho5.get hb (by simp; omega)
      have bx := ho5.get bx (by simp; omega)
      have bb := ho5.get bb (by simp; omega)
      (repeat' (first | (refine sq_id ?_; first | refine sq_nil ?_ | refine sm ?_ | refine sa ?_ | refine ss ?_ | refine st ?_ | refine sf ?_ | refine sp ?_ | refine sq ?_ | refine sl ?_ | refine si ?_ | refine sx ?_ | refine sy ?_ | refine sc c2 ?_ | fail) | (refine rg_id ?_; first | refine rg_fin ?_ | refine rm ?_ | refine ra ?_ | refine rs ?_ | refine rt ?_ | refine rf ?_ | refine rp ?_ | refine rq ?_ | refine rl ?_ | refine ri ?_ | refine rx ?_ | refine ry ?_ | refine sc c2 ?_ | fail) | refine aw_rseq ?_ | refine aw_seq ?_ | refine aw_region ?_ | refine aw_skip ?_ | refine ct ?_ | refine cf ?_ | refine d0s ?_ | refine d0r ?_ | refine aw_block ?_ | refine aw_exit ?_ | refine then_ret ?_ | refine then_exit ?_ | refine then_normal ?_ | refine blk_ret ?_ | refine blk_normal ?_ | refine blk_exit ?_ | refine blk_pass rfl ?_ | refine sc c2 ?_ | fail))
      refine sw bb fun G6 bb ho6 hl6 => ?_
      have hb := ho6.get hb (by simp; omega)
      have bx := ho6.get bx (by simp; omega)
      have ba := ho6.get ba (by simp; omega)
      (repeat' (first | (refine sq_id ?_; first | refine sq_nil ?_ | refine sm ?_ | refine sa ?_ | refine ss ?_ | refine st ?_ | refine sf ?_ | refine sp ?_ | refine sq ?_ | refine sl ?_ | refine si ?_ | refine sx ?_ | refine sy ?_ | refine sc hS ?_ | fail) | (refine rg_id ?_; first | refine rg_fin ?_ | refine rm ?_ | refine ra ?_ | refine rs ?_ | refine rt ?_ | refine rf ?_ | refine rp ?_ | refine rq ?_ | refine rl ?_ | refine ri ?_ | refine rx ?_ | refine ry ?_ | refine sc hS ?_ | fail) | refine aw_rseq ?_ | refine aw_seq ?_ | refine aw_region ?_ | refine aw_skip ?_ | refine ct ?_ | refine cf ?_ | refine d0s ?_ | refine d0r ?_ | refine aw_block ?_ | refine aw_exit ?_ | refine then_ret ?_ | refine then_exit ?_ | refine then_normal ?_ | refine blk_ret ?_ | refine blk_normal ?_ | refine blk_exit ?_ | refine blk_pass rfl ?_ | refine sc hS ?_ | fail))
      have c1 := retire_s e hbd x0 x1
      have c2 := refretire_s e hbd x0 x1
      have hB := bd_retire hbd x0 x1
      obtain ⟨q, hq⟩ : ∃ q, q = retireE e x0 x1 := ⟨_, rfl⟩
      rw [← hq] at c1 c2 hB
      obtain ⟨a, er⟩ := q
      clear hq
      have hS := refsame_s a hB
      (repeat' (first | (refine sq_id ?_; first | refine sq_nil ?_ | refine sm ?_ | refine sa ?_ | refine ss ?_ | refine st ?_ | refine sf ?_ | refine sp ?_ | refine sq ?_ | refine sl ?_ | refine si ?_ | refine sx ?_ | refine sy ?_ | refine sc c1 ?_ | fail) | (refine rg_id ?_; first | refine rg_fin ?_ | refine rm ?_ | refine ra ?_ | refine rs ?_ | refine rt ?_ | refine rf ?_ | refine rp ?_ | refine rq ?_ | refine rl ?_ | refine ri ?_ | refine rx ?_ | refine ry ?_ | refine sc c1 ?_ | fail) | refine aw_rseq ?_ | refine aw_seq ?_ | refine aw_region ?_ | refine aw_skip ?_ | refine ct ?_ | refine cf ?_ | refine d0s ?_ | refine d0r ?_ | refine aw_block ?_ | refine aw_exit ?_ | refine then_ret ?_ | refine then_exit ?_ | refine then_normal ?_ | refine blk_ret ?_ | refine blk_normal ?_ | refine blk_exit ?_ | refine blk_pass rfl ?_ | refine sc c1 ?_ | fail))
      refine sw ba fun G5 ba ho5 hl5 => ?_
      have hb := ho5.get hb (by simp; omega)
      have bx := ho5.get bx (by simp; omega)
      have bb := ho5.get bb (by simp; omega)
      (repeat' (first | (refine sq_id ?_; first | refine sq_nil ?_ | refine sm ?_ | refine sa ?_ | refine ss ?_ | refine st ?_ | refine sf ?_ | refine sp ?_ | refine sq ?_ | refine sl ?_ | refine si ?_ | refine sx ?_ | refine sy ?_ | refine sc c2 ?_ | fail) | (refine rg_id ?_; first | refine rg_fin ?_ | refine rm ?_ | refine ra ?_ | refine rs ?_ | refine rt ?_ | refine rf ?_ | refine rp ?_ | refine rq ?_ | refine rl ?_ | refine ri ?_ | refine rx ?_ | refine ry ?_ | refine sc c2 ?_ | fail) | refine aw_rseq ?_ | refine aw_seq ?_ | refine aw_region ?_ | refine aw_skip ?_ | refine ct ?_ | refine cf ?_ | refine d0s ?_ | refine d0r ?_ | refine aw_block ?_ | refine aw_exit ?_ | refine then_ret ?_ | refine then_exit ?_ | refine then_normal ?_ | refine blk_ret ?_ | refine blk_normal ?_ | refine blk_exit ?_ | refine blk_pass rfl ?_ | refine sc c2 ?_ | fail))
      refine sw bb fun G6 bb ho6 hl6 => ?_
      have hb := ho6.get hb (by simp; omega)
      have bx := ho6.get bx (by simp; omega)
      have ba := ho6.get ba (by simp; omega)
      (repeat' (first | (refine sq_id ?_; first | refine sq_nil ?_ | refine sm ?_ | refine sa ?_ | refine ss ?_ | refine st ?_ | refine sf ?_ | refine sp ?_ | refine sq ?_ | refine sl ?_ | refine si ?_ | refine sx ?_ | refine sy ?_ | refine sc hS ?_ | fail) | (refine rg_id ?_; first | refine rg_fin ?_ | refine rm ?_ | refine ra ?_ | refine rs ?_ | refine rt ?_ | refine rf ?_ | refine rp ?_ | refine rq ?_ | refine rl ?_ | refine ri ?_ | refine rx ?_ | refine ry ?_ | refine sc hS ?_ | fail) | refine aw_rseq ?_ | refine aw_seq ?_ | refine aw_region ?_ | refine aw_skip ?_ | refine ct ?_ | refine cf ?_ | refine d0s ?_ | refine d0r ?_ | refine aw_block ?_ | refine aw_exit ?_ | refine then_ret ?_ | refine then_exit ?_ | refine then_normal ?_ | refine blk_ret ?_ | refine blk_normal ?_ | refine blk_exit ?_ | refine blk_pass rfl ?_ | refine sc hS ?_ | fail))
      exact ⟨j + 1, by rw [rstf_eq]; rfl, ⟨by omega, hb⟩, by omega⟩
    · have c1 := advance_s e hbd
      have c2 := refadvance_s e hbd
      have hB := bd_advance hbd
      obtain ⟨q, hq⟩ : ∃ q, q = advanceE e := ⟨_, rfl⟩
      rw [← hq] at c1 c2 hB
      obtain ⟨a, b1, er⟩ := q
      clear hq
      have hS := refsame_s a hB
      have c3 := take_s e hbd
      have c4 := reftake_s e hbd
      have hB2 := bd_take hbd
      obtain ⟨q, hq⟩ : ∃ q, q = takeE e := ⟨_, rfl⟩
      rw [← hq] at c3 c4 hB2
      obtain ⟨a2, g, b2, er2⟩ := q
      clear hq
      have hS2 := refsame_s a2 hB2
      have r1 := right_s e hbd
      have r2 := refright_s e hbd
      generalize decide (RightE e) = rb at r1 r2
      have hyl := (List.getElem?_eq_some_iff.1 hb).1
      (repeat' (first | (refine sq_id ?_; first | refine sq_nil ?_ | refine sm ?_ | refine sa ?_ | refine ss ?_ | refine st ?_ | refine sf ?_ | refine sp ?_ | refine sq ?_ | refine sl ?_ | refine si ?_ | refine sx ?_ | refine sy ?_ | refine sc c1 ?_ | fail) | (refine rg_id ?_; first | refine rg_fin ?_ | refine rm ?_ | refine ra ?_ | refine rs ?_ | refine rt ?_ | refine rf ?_ | refine rp ?_ | refine rq ?_ | refine rl ?_ | refine ri ?_ | refine rx ?_ | refine ry ?_ | refine sc c1 ?_ | fail) | refine aw_rseq ?_ | refine aw_seq ?_ | refine aw_region ?_ | refine aw_skip ?_ | refine ct ?_ | refine cf ?_ | refine d0s ?_ | refine d0r ?_ | refine aw_block ?_ | refine aw_exit ?_ | refine then_ret ?_ | refine then_exit ?_ | refine then_normal ?_ | refine blk_ret ?_ | refine blk_normal ?_ | refine blk_exit ?_ | refine blk_pass rfl ?_ | refine sc c1 ?_ | fail))
      refine nw fun G0a hn0 hoa0 hla0 => ?_
      have hb := hoa0.get0 hb
      refine sw hn0 fun G0 bx0 ho0' hl0' => ?_
      have hb := ho0'.get hb (by simp; omega)
      (repeat' (first | (refine sq_id ?_; first | refine sq_nil ?_ | refine sm ?_ | refine sa ?_ | refine ss ?_ | refine st ?_ | refine sf ?_ | refine sp ?_ | refine sq ?_ | refine sl ?_ | refine si ?_ | refine sx ?_ | refine sy ?_ | refine sc c2 ?_ | fail) | (refine rg_id ?_; first | refine rg_fin ?_ | refine rm ?_ | refine ra ?_ | refine rs ?_ | refine rt ?_ | refine rf ?_ | refine rp ?_ | refine rq ?_ | refine rl ?_ | refine ri ?_ | refine rx ?_ | refine ry ?_ | refine sc c2 ?_ | fail) | refine aw_rseq ?_ | refine aw_seq ?_ | refine aw_region ?_ | refine aw_skip ?_ | refine ct ?_ | refine cf ?_ | refine d0s ?_ | refine d0r ?_ | refine aw_block ?_ | refine aw_exit ?_ | refine then_ret ?_ | refine then_exit ?_ | refine then_normal ?_ | refine blk_ret ?_ | refine blk_normal ?_ | refine blk_exit ?_ | refine blk_pass rfl ?_ | refine sc c2 ?_ | fail))
      refine nw fun G1a hn1 hoa1 hla1 => ?_
      have hb := hoa1.get0 hb
      have bx0 := hoa1.get0 bx0
      refine sw hn1 fun G1 bx1 ho1' hl1' => ?_
      have hb := ho1'.get hb (by simp; omega)
      have bx0 := ho1'.get bx0 (by simp; omega)
      (repeat' (first | (refine sq_id ?_; first | refine sq_nil ?_ | refine sm ?_ | refine sa ?_ | refine ss ?_ | refine st ?_ | refine sf ?_ | refine sp ?_ | refine sq ?_ | refine sl ?_ | refine si ?_ | refine sx ?_ | refine sy ?_ | refine sc c3 ?_ | fail) | (refine rg_id ?_; first | refine rg_fin ?_ | refine rm ?_ | refine ra ?_ | refine rs ?_ | refine rt ?_ | refine rf ?_ | refine rp ?_ | refine rq ?_ | refine rl ?_ | refine ri ?_ | refine rx ?_ | refine ry ?_ | refine sc c3 ?_ | fail) | refine aw_rseq ?_ | refine aw_seq ?_ | refine aw_region ?_ | refine aw_skip ?_ | refine ct ?_ | refine cf ?_ | refine d0s ?_ | refine d0r ?_ | refine aw_block ?_ | refine aw_exit ?_ | refine then_ret ?_ | refine then_exit ?_ | refine then_normal ?_ | refine blk_ret ?_ | refine blk_normal ?_ | refine blk_exit ?_ | refine blk_pass rfl ?_ | refine sc c3 ?_ | fail))
      refine nw fun G2a hn2 hoa2 hla2 => ?_
      have hb := hoa2.get0 hb
      have bx0 := hoa2.get0 bx0
      have bx1 := hoa2.get0 bx1
      refine sw hn2 fun G2 bx2 ho2' hl2' => ?_
      have hb := ho2'.get hb (by simp; omega)
      have bx0 := ho2'.get bx0 (by simp; omega)
      have bx1 := ho2'.get bx1 (by simp; omega)
      (repeat' (first | (refine sq_id ?_; first | refine sq_nil ?_ | refine sm ?_ | refine sa ?_ | refine ss ?_ | refine st ?_ | refine sf ?_ | refine sp ?_ | refine sq ?_ | refine sl ?_ | refine si ?_ | refine sx ?_ | refine sy ?_ | refine sc c4 ?_ | fail) | (refine rg_id ?_; first | refine rg_fin ?_ | refine rm ?_ | refine ra ?_ | refine rs ?_ | refine rt ?_ | refine rf ?_ | refine rp ?_ | refine rq ?_ | refine rl ?_ | refine ri ?_ | refine rx ?_ | refine ry ?_ | refine sc c4 ?_ | fail) | refine aw_rseq ?_ | refine aw_seq ?_ | refine aw_region ?_ | refine aw_skip ?_ | refine ct ?_ | refine cf ?_ | refine d0s ?_ | refine d0r ?_ | refine aw_block ?_ | refine aw_exit ?_ | refine then_ret ?_ | refine then_exit ?_ | refine then_normal ?_ | refine blk_ret ?_ | refine blk_normal ?_ | refine blk_exit ?_ | refine blk_pass rfl ?_ | refine sc c4 ?_ | fail))
      refine nw fun G3a hn3 hoa3 hla3 => ?_
      have hb := hoa3.get0 hb
      have bx0 := hoa3.get0 bx0
      have bx1 := hoa3.get0 bx1
      have bx2 := hoa3.get0 bx2
      refine sw hn3 fun G3 bx3 ho3' hl3' => ?_
      have hb := ho3'.get hb (by simp; omega)
      have bx0 := ho3'.get bx0 (by simp; omega)
      have bx1 := ho3'.get bx1 (by simp; omega)
      have bx2 := ho3'.get bx2 (by simp; omega)
      cases b1 <;> cases b2 <;> cases rb
      all_goals
        (repeat' (first | (refine sq_id ?_; first | refine sq_nil ?_ | refine sm ?_ | refine sa ?_ | refine ss ?_ | refine st ?_ | refine sf ?_ | refine sp ?_ | refine sq ?_ | refine sl ?_ | refine si ?_ | refine sx ?_ | refine sy ?_ | refine rc hS ?_ | refine rc hS2 ?_ | refine rc r1 ?_ | refine rc r2 ?_ | fail) | (refine rg_id ?_; first | refine rg_fin ?_ | refine rm ?_ | refine ra ?_ | refine rs ?_ | refine rt ?_ | refine rf ?_ | refine rp ?_ | refine rq ?_ | refine rl ?_ | refine ri ?_ | refine rx ?_ | refine ry ?_ | refine rc hS ?_ | refine rc hS2 ?_ | refine rc r1 ?_ | refine rc r2 ?_ | fail) | refine aw_rseq ?_ | refine aw_seq ?_ | refine aw_region ?_ | refine aw_skip ?_ | refine ct ?_ | refine cf ?_ | refine d0s ?_ | refine d0r ?_ | refine aw_block ?_ | refine aw_exit ?_ | refine then_ret ?_ | refine then_exit ?_ | refine then_normal ?_ | refine blk_ret ?_ | refine blk_normal ?_ | refine blk_exit ?_ | refine blk_pass rfl ?_ | refine rc hS ?_ | refine rc hS2 ?_ | refine rc r1 ?_ | refine rc r2 ?_ | fail))
        exact ⟨k + 1, by rw [rstf_eq]; rfl, by omega, by omega⟩
  · (repeat' (first | (refine sq_id ?_; first | refine sq_nil ?_ | refine sm ?_ | refine sa ?_ | refine ss ?_ | refine st ?_ | refine sf ?_ | refine sp ?_ | refine sq ?_ | refine sl ?_ | refine si ?_ | refine sx ?_ | refine sy ?_) | (refine rg_id ?_; first | refine rg_fin ?_ | refine rm ?_ | refine ra ?_ | refine rs ?_ | refine rt ?_ | refine rf ?_ | refine rp ?_ | refine rq ?_ | refine rl ?_ | refine ri ?_ | refine rx ?_ | refine ry ?_) | refine aw_rseq ?_ | refine aw_seq ?_ | refine aw_region ?_ | refine aw_skip ?_ | refine ct ?_ | refine cf ?_ | refine d0s ?_ | refine d0r ?_ | refine aw_block ?_ | refine aw_exit ?_ | refine then_ret ?_ | refine then_exit ?_ | refine then_normal ?_ | refine blk_ret ?_ | refine blk_normal ?_ | refine blk_exit ?_ | refine blk_pass rfl ?_))
    ((try refine aw_ret ?_); (repeat (first | refine then_ret ?_ | refine blk_ret ?_)); refine fin_t True.intro rfl rfl ?_)
    exact rfl
end Go.Proofs.Ytmhepmocnnlhnaa.Ab
