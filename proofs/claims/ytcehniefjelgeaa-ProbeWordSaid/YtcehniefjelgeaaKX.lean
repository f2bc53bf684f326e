/- A worker that puts a node, and one that finds it behind that: how many steps. -/
import Derived.Test.YtcehniefjelgeaaKN
namespace Go.Proofs.Ytcehniefjelgeaa.Ab
open Go Go.RowKit
section
variable {S N : Nat} {m m2 : List Int} {k : Kid}
/-- the same kids in two memories: as many steps -/
theorem cmp_two (hm : Mem S N m) (hm2 : Mem S N m2) {r n : Nat} (hr : r < S) (hn : n < N) (hag : ∀ j, j < 4 → m2.getD (S + 4 * n + j) 0 = m.getD (S + 4 * n + j) 0) (hk : kidsAt S m n ≠ k) : ∀ (d j : Nat), j + d = 3 → (∀ i, i < j → m.getD (S + 4 * n + i) 0 = kc k i) →
    ∃ t j' : Nat, t ≤ d + 1 ∧ Runs S N t m (sW k 1 r 0 n j) m (if r + 1 = S then eW k 1 (r + 1 : Nat) 0 n j' (-1) else sW k 0 (r + 1 : Nat) 0 n j') ∧ Runs S N t m2 (sW k 1 r 0 n j) m2 (if r + 1 = S then eW k 1 (r + 1 : Nat) 0 n j' (-1) else sW k 0 (r + 1 : Nat) 0 n j') := by
  intro d
  induction d with
  | zero =>
    intro j hj hall
    have hj3 : j = 3 := by omega
    subst hj3
    have hs := st_cmp (k := k) hm hr hn (by omega : 3 < 4)
    have hs2 := st_cmp (k := k) hm2 hr hn (by omega : 3 < 4)
    rw [hag 3 (by omega)] at hs2
    by_cases h : m.getD (S + 4 * n + 3) 0 = kc k 3
    · refine absurd (at_kids n fun i hi => ?_) hk
      by_cases h3 : i = 3
      · subst h3; exact h
      · exact hall i (by omega)
    · rw [if_pos h] at hs hs2
      exact ⟨1, 3, by omega, hs, hs2⟩
  | succ d ih =>
    intro j hj hall
    have hs := st_cmp (k := k) hm hr hn (by omega : j < 4)
    have hs2 := st_cmp (k := k) hm2 hr hn (by omega : j < 4)
    rw [hag j (by omega)] at hs2
    by_cases h : m.getD (S + 4 * n + j) 0 = kc k j
    · rw [if_neg (by simpa using h), if_neg (by omega)] at hs hs2
      obtain ⟨t, j', h1, h2, h3⟩ := ih (j + 1) (by omega) (fun i hi => by
        by_cases hij : i = j
        · subst hij; exact h
        · exact hall i (by omega))
      exact ⟨1 + t, j', by omega, hs.trans h2, hs2.trans h3⟩
    · rw [if_pos h] at hs hs2
      exact ⟨1, j, by omega, hs, hs2⟩
theorem srch_two (hm : Mem S N m) (hm2 : Mem S N m2) : ∀ r : Nat, r < S → (∀ r', r' < r → ∃ n : Nat, n < N ∧ m.getD (hS S k r') 0 = (n : Int) + 1 ∧ m2.getD (hS S k r') 0 = (n : Int) + 1 ∧ kidsAt S m n ≠ k ∧ ∀ j, j < 4 → m2.getD (S + 4 * n + j) 0 = m.getD (S + 4 * n + j) 0) →
    ∃ t : Nat, t ≤ 5 * r ∧ ∃ r6 r7 : Int, 0 ≤ r7 ∧ Runs S N t m (sW k 0 0 0 0 0) m (sW k 0 r 0 r6 r7) ∧ Runs S N t m2 (sW k 0 0 0 0 0) m2 (sW k 0 r 0 r6 r7)
  | 0, _, _ => ⟨0, by omega, 0, 0, Int.le_refl _, .nil _ _, .nil _ _⟩
  | r + 1, hr, h => by
    obtain ⟨t, ht, r6, r7, h7, hrun, hrun2⟩ := srch_two hm hm2 r (by omega) fun r' h' => h r' (by omega)
    obtain ⟨n, hn, hx, hx2, hk, hag⟩ := h r (by omega)
    have hl := st_look (k := k) (r6 := r6) hm (by omega : r < S) h7
    rw [if_pos (by omega), hx, show (n : Int) + 1 - 1 = n by omega] at hl
    have hl2 := st_look (k := k) (r6 := r6) hm2 (by omega : r < S) h7
    rw [if_pos (by omega), hx2, show (n : Int) + 1 - 1 = n by omega] at hl2
    obtain ⟨t', j', h1, h2, h3⟩ := cmp_two (k := k) hm hm2 (by omega : r < S) hn hag hk 3 0 (by omega) (fun i hi => by omega)
    rw [if_neg (by omega)] at h2 h3
    exact ⟨t + (1 + t'), by omega, n, j', Int.natCast_nonneg _, hrun.trans (hl.trans h2), hrun2.trans (hl2.trans h3)⟩
end
theorem find_from {S N : Nat} {m : List Int} {k : Kid} (hm : Mem S N m) {r n : Nat} (hr : r < S) (hn : n < N) (hx : m.getD (hS S k r) 0 = (n : Int) + 1) (hk : kidsAt S m n = k) {t : Nat} {r6 r7 : Int} (h7 : 0 ≤ r7) (hrun : Runs S N t m (sW k 0 0 0 0 0) m (sW k 0 r 0 r6 r7)) : ∃ w', Runs S N (t + 5) m (sW k 0 0 0 0 0) m w' ∧ w'.done = true ∧ w'.out = n := by
  have hl := st_look (k := k) (r6 := r6) hm hr h7
  rw [if_pos (by omega), hx, show (n : Int) + 1 - 1 = n by omega] at hl
  rcases cmp_run (k := k) hm hr hn 3 0 (by omega) (fun i hi => by omega) with ⟨_, h1⟩ | ⟨h1, _⟩
  · exact ⟨_, hrun.trans (hl.trans h1), rfl, rfl⟩
  · exact absurd hk h1
theorem put_from {S N : Nat} {m : List Int} {k : Kid} (hm : Mem S N m) {r C x l : Nat} (hr : r < S) (he : m.getD (hS S k r) 0 = 0) (hC : C ≤ 1000) (hh : m.getD (S + 4 * N) 0 = (C : Int) * 1048576 + ((x : Int) + 1)) (hx : x < N) (hlk : m.getD (S + 4 * N + (x + 1)) 0 = l) (hl : l ≤ N) (hk : ∀ j, j < 4 → 0 ≤ kc k j ∧ kc k j ≤ 1152921504606846975) {t : Nat} {r6 r7 : Int} (h7 : 0 ≤ r7) (hrun : Runs S N t m (sW k 0 0 0 0 0) m (sW k 0 r 0 r6 r7)) :
    ∃ t' : Nat, t' = t + 9 ∧ ∃ w', Runs S N t' m (sW k 0 0 0 0 0) (putM S N m k (hS S k r) x (((C : Int) + 1) * 1048576 + l)) w' ∧ w'.done = true ∧ w'.out = x := by
  have hS1 := hm.S1
  have hN1 := hm.N1
  have hlen := hm.len
  obtain ⟨s1, s2⟩ := hS_lt S hS1.1 k r
  have a1 := st_look (k := k) (r6 := r6) hm hr h7
  rw [if_neg (by omega)] at a1
  have hH : Hn (m.getD (S + 4 * N) 0) = ((x + 1 : Nat) : Int) := by
    rw [hh, show (x : Int) + 1 = ((x + 1 : Nat) : Int) by omega]
    exact hn_at C (x + 1) (by omega)
  have a2 := st_head (k := k) (r6 := r6) hm hr h7
  rw [if_neg (by omega)] at a2
  have a3 := st_next (k := k) hm hr h7 hH (by omega : x + 1 ≤ N)
  rw [hlk] at a3
  have hdiv : (m.getD (S + 4 * N) 0) / 1048576 = C := by rw [hh]; omega
  have a4 := st_take (k := k) hm hr (r7 := l) (r6 := m.getD (S + 4 * N) 0) (by omega) (by omega) rfl
  rw [hH, hdiv] at a4
  have m1 := hm.set_out (i := S + 4 * N) (v := ((C : Int) + 1) * 1048576 + l) (by omega) (by omega)
  have b0 := st_write (r6 := m.getD (S + 4 * N) 0) m1 hr hx (by omega : 0 < 4) (hk 0 (by omega))
  have m2 := m1.set_out (i := S + 4 * x + 0) (v := kc k 0) (by omega) (by simp; omega)
  have b1 := st_write (r6 := m.getD (S + 4 * N) 0) m2 hr hx (by omega : 1 < 4) (hk 1 (by omega))
  have m3 := m2.set_out (i := S + 4 * x + 1) (v := kc k 1) (by omega) (by simp; omega)
  have b2 := st_write (r6 := m.getD (S + 4 * N) 0) m3 hr hx (by omega : 2 < 4) (hk 2 (by omega))
  have m4 := m3.set_out (i := S + 4 * x + 2) (v := kc k 2) (by omega) (by simp; omega)
  have b3 := st_write (r6 := m.getD (S + 4 * N) 0) m4 hr hx (by omega : 3 < 4) (hk 3 (by omega))
  have m5 := m4.set_out (i := S + 4 * x + 3) (v := kc k 3) (by omega) (by simp; omega)
  rw [if_neg (by omega)] at b0 b1 b2
  rw [if_pos rfl] at b3
  have hsl : ((((((m.set (S + 4 * N) (((C : Int) + 1) * 1048576 + l)).set (S + 4 * x + 0) (kc k 0)).set (S + 4 * x + 1) (kc k 1)).set (S + 4 * x + 2) (kc k 2)).set (S + 4 * x + 3) (kc k 3))).getD (hS S k r) 0 = 0 := by
    rw [set_getDw _ (S + 4 * x + 3) _ 0 (by simp; omega), if_neg (by omega), set_getDw _ (S + 4 * x + 2) _ 0 (by simp; omega), if_neg (by omega), set_getDw _ (S + 4 * x + 1) _ 0 (by simp; omega), if_neg (by omega), set_getDw _ (S + 4 * x + 0) _ 0 (by simp; omega), if_neg (by omega), set_getDw _ (S + 4 * N) _ 0 (by omega), if_neg (by omega), he]
  have c := st_claim (k := k) (r6 := m.getD (S + 4 * N) 0) (r7 := 4) m5 hr hx hsl (by omega)
  exact ⟨t + (1 + (1 + (1 + (1 + (1 + (1 + (1 + (1 + 1)))))))), by omega, _, hrun.trans (a1.trans (a2.trans (a3.trans (a4.trans (b0.trans (b1.trans (b2.trans (b3.trans c)))))))), rfl, rfl⟩
/-- what a run of one worker alone comes to, and the next one's -/
theorem intern_more {S N C : Nat} {m : List Int} {F : List Nat} {had : List (Kid × Nat)} {k : Kid} (h : WF S N m F C had) (hC : C ≤ 1000) (hk : KB k) : ∃ t : Nat, t ≤ 5 * S + 9 ∧ ∃ m' w', Runs S N t m (sW k 0 0 0 0 0) m' w' ∧ w'.done = true ∧
    ((∃ v : Nat, v < N ∧ w'.out = v ∧ m' = m ∧ t ≤ 5 * S) ∨ (w'.out = -1 ∧ m' = m) ∨
     (∃ (v : Nat) (F' : List Nat) (s : Nat) (hh : Int) (i : Nat) (w2 : Wk), w'.out = v ∧ v < N ∧ s < S ∧ m.getD s 0 = 0 ∧ m' = putM S N m k s v hh ∧ WF S N m' F' (C + 1) (had ++ [(k, v)]) ∧ Runs S N i m' (sW k 0 0 0 0 0) m' w2 ∧ w2.done = true ∧ w2.out = v ∧ i ≤ 5 * S ∧ t ≤ i + 9)) := by
  have hm := h.mem
  have hS1 := hm.S1
  obtain ⟨l1, l2⟩ := h.lt
  by_cases hin : k ∈ had.map Prod.fst
  · obtain ⟨t, h1, m', w', h2, h3, h4⟩ := intern_run h hC hk
    refine ⟨t, h1, m', w', h2, h3, ?_⟩
    rcases h4 with ⟨v, hv, ho, he, ht⟩ | ⟨hno, _⟩ | ⟨hno, _⟩
    · exact .inl ⟨v, l2 _ hv, ho, he, ht⟩
    · exact absurd hin hno
    · exact absurd hin hno
  · have hmis : ∀ r', m.getD (hS S k r') 0 ≠ 0 → Mis S N m k r' := fun r' hr' => by
      obtain ⟨e, e1, e2⟩ := h.at (hS_lt S hS1.1 k r').1 hr'
      exact ⟨e.2, l2 e e1, e2, fun hke => hin (List.mem_map.2 ⟨e, e1, by rw [← h.kids e e1, hke]⟩)⟩
    have hex : (∃ q, q < S ∧ m.getD (hS S k q) 0 = 0 ∧ ∀ r', r' < q → m.getD (hS S k r') 0 ≠ 0) ∨ ∀ r', r' < S → m.getD (hS S k r') 0 ≠ 0 := by
      have : ∀ q : Nat, q ≤ S → (∃ q', q' < q ∧ m.getD (hS S k q') 0 = 0 ∧ ∀ r', r' < q' → m.getD (hS S k r') 0 ≠ 0) ∨ ∀ r', r' < q → m.getD (hS S k r') 0 ≠ 0 := by
        intro q
        induction q with
        | zero => exact fun _ => .inr fun r' h => by omega
        | succ q ih =>
          intro hq
          rcases ih (by omega) with ⟨q', a1, a2⟩ | ha
          · exact .inl ⟨q', by omega, a2⟩
          · by_cases hb : m.getD (hS S k q) 0 = 0
            · exact .inl ⟨q, by omega, hb, ha⟩
            · exact .inr fun r' hr' => by
                by_cases e : r' = q
                · subst e; exact hb
                · exact ha r' (by omega)
      exact this S (Nat.le_refl _)
    rcases hex with ⟨q, q1, q2, q3⟩ | hall
    · cases hF : F with
      | nil =>
        subst hF
        have hh : Hn (m.getD (S + 4 * N) 0) = 0 := by
          rw [h.head]
          exact hn_at C 0 (by omega)
        obtain ⟨t, t1, w', t2, t3, t4⟩ := run_none (k := k) hm q1 (fun r' h' => hmis r' (q3 r' h')) q2 hh
        exact ⟨t, t1, m, w', t2, t3, .inr (.inl ⟨t4, rfl⟩)⟩
      | cons x F' =>
        subst hF
        have hx := l1 x (List.mem_cons_self ..)
        obtain ⟨l, hl, hlN⟩ := hdF_le (F := F') (n := N) fun y hy => l1 y (List.mem_cons_of_mem _ hy)
        have hlk : m.getD (S + 4 * N + (x + 1)) 0 = l := by rw [← hl]; exact h.chain.1
        have hw := h.put hin q1 q3 q2
        rw [hl] at hw
        have hs := (hS_lt S hS1.1 k q).1
        have hat := putM_at (k := k) hm hs hx (((C : Int) + 1) * 1048576 + l)
        obtain ⟨t0, u1, r6, r7, u3, u4, u5⟩ := srch_two (k := k) hm hw.mem q q1 fun r' hr' => by
          obtain ⟨e, e1, e2⟩ := h.at (hS_lt S hS1.1 k r').1 (q3 r' hr')
          have hx2 : e.2 ≠ x := fun hex => by
            have h1 := h.perm x
            have h2 : 0 < (had.map Prod.snd).count x := List.count_pos_iff.2 (List.mem_map.2 ⟨e, e1, hex⟩)
            rw [List.count_cons_self, if_pos hx] at h1
            omega
          have hlt := (hS_lt S hS1.1 k r').1
          have hne : hS S k r' ≠ hS S k q := fun e => q3 r' hr' (by rw [e]; exact q2)
          have he2 := l2 e e1
          refine ⟨e.2, he2, e2, ?_, fun hke => hin (List.mem_map.2 ⟨e, e1, by rw [← h.kids e e1, hke]⟩), fun j hj => ?_⟩
          · rw [hat, if_neg hne, if_neg (by omega), if_neg (by omega)]; exact e2
          · rw [hat, if_neg (by omega), if_neg (by omega), if_neg (by omega)]
        obtain ⟨t, t1, w', t2, t3, t4⟩ := put_from (k := k) hm q1 q2 hC h.head hx hlk hlN hk u3 u4
        have hfin := find_from (k := k) hw.mem q1 hx (by rw [hat, if_pos rfl]; omega) (hw.kids (k, x) (by simp)) u3 u5
        obtain ⟨w2, f1, f2, f3⟩ := hfin
        exact ⟨t, by omega, _, w', t2, t3, .inr (.inr ⟨x, F', _, _, _, w2, t4, hx, hs, q2, rfl, hw, f1, f2, f3, by omega, by omega⟩)⟩
    · obtain ⟨t, t1, w', t2, t3, t4⟩ := run_full (k := k) hm fun r' h' => hmis r' (hall r' h')
      exact ⟨t, by omega, m, w', t2, t3, .inr (.inl ⟨t4, rfl⟩)⟩
end Go.Proofs.Ytcehniefjelgeaa.Ab
/- A worker that does not end in time; a table that one worker filled. -/
namespace Go.Proofs.Ytcehniefjelgeaa.Ab
open Go Go.RowKit
set_option maxHeartbeats 2000000 in
theorem alone_stop (S N : Int) (n most : Nat) (hm : n = most + 1) (hmost : most ≤ 1000000) (m m' : List Int) (w w' : Wk) (hr : Runs S N n m w m' w') :
    PS Try.prog 11 [.agg (tb S N), ints m, .agg (wk w), .i most] (.tup [ints m', .agg (wk w'), .i most, .b false]) := by
  refine ps_in TYok Try.func11 (by kernel_rfl) Try.ntmps11 rfl rfl rfl (.tup _ fun x hx => ?_) fun H => ?_
  · simp only [List.mem_cons, List.not_mem_nil, or_false] at hx
    rcases hx with rfl | rfl | rfl | rfl
    · exact cl_ints _
    · exact .agg _ (cl_wk _)
    · exact .p _
    · exact .p _
  refine aw_seq ?_
  refine aw_region ?_
  refine sq_newk TYok TYz false rfl rfl rfl True.intro fun H1 hb1 ho1 hl1 => ?_
  refine sq_newk TYok TYz false rfl rfl rfl True.intro fun H2 hb2 ho2 hl2 => ?_
  have hb12 := ho2.get0 hb1
  (repeat' (first | (refine sq_id ?_; first | refine sq_nil ?_ | refine sq_move rfl rfl rfl ?_ | refine sq_assign rfl rfl rfl ?_ | refine sq_skip rfl rfl ?_ | refine sq_t TYok TYz rfl rfl rfl True.intro so ?_ | refine sq_f TYok TYz rfl rfl rfl True.intro so ?_ | refine sq_pure TYok TYz false rfl rfl rfl sd ?_ | refine sq_pure TYok TYz true rfl rfl rfl sd ?_ | refine sq_load TYok rfl rfl rfl (by assumption) (by rfl) (by first | exact Nat.zero_lt_one | assumption | omega) (by rfl) ?_ | refine sq_lit TYok TYz rfl rfl rfl rfl rfl rfl rfl rfl ?_ | refine sq_ixa TYok rfl rfl rfl rfl rfl rfl rfl sd ?_ | refine sq_ixr TYok rfl rfl rfl rfl rfl rfl rfl sd ?_) | (refine rg_id ?_; first | refine rg_fin ?_ | refine rg_move rfl rfl rfl ?_ | refine rg_assign rfl rfl rfl ?_ | refine rg_skip rfl rfl ?_ | refine rg_t TYok TYz rfl rfl rfl True.intro so ?_ | refine rg_f TYok TYz rfl rfl rfl True.intro so ?_ | refine rg_pure TYok TYz false rfl rfl rfl sd ?_ | refine rg_pure TYok TYz true rfl rfl rfl sd ?_ | refine rg_load TYok rfl rfl rfl (by assumption) (by rfl) (by first | exact Nat.zero_lt_one | assumption | omega) (by rfl) ?_ | refine rg_lit TYok TYz rfl rfl rfl rfl rfl rfl rfl rfl ?_ | refine rg_ixa TYok rfl rfl rfl rfl rfl rfl rfl sd ?_ | refine rg_ixr TYok rfl rfl rfl rfl rfl rfl rfl sd ?_) | refine aw_rseq ?_ | refine aw_seq ?_ | refine aw_region ?_ | refine aw_skip ?_ | refine aw_true rfl ?_ | refine aw_false rfl ?_ | refine aw_d0seq rfl (by kernel_rfl) ?_ | refine aw_d0 rfl (by kernel_rfl) ?_ | refine aw_block ?_ | refine aw_exit ?_ | refine then_ret ?_ | refine then_exit ?_ | refine then_normal ?_ | refine blk_ret ?_ | refine blk_normal ?_ | refine blk_exit ?_ | refine blk_pass rfl ?_))
  refine sq_newk TYok TYz false rfl rfl rfl True.intro fun H3 hb3 ho3 hl3 => ?_
  have hb13 := ho3.get0 hb12
  have hb23 := ho3.get0 hb2
  have e1 : H1.length = H.length + 1 := hl1
  have e2 : H2.length = H1.length + 1 := hl2
  have e3 : H3.length = H2.length + 1 := hl3
  have hx3 : Ext H H3 := (ho1.ext.trans ho2.ext).trans ho3.ext
  (repeat' (first | (refine sq_id ?_; first | refine sq_nil ?_ | refine sq_move rfl rfl rfl ?_ | refine sq_assign rfl rfl rfl ?_ | refine sq_skip rfl rfl ?_ | refine sq_t TYok TYz rfl rfl rfl True.intro so ?_ | refine sq_f TYok TYz rfl rfl rfl True.intro so ?_ | refine sq_pure TYok TYz false rfl rfl rfl sd ?_ | refine sq_pure TYok TYz true rfl rfl rfl sd ?_ | refine sq_load TYok rfl rfl rfl (by assumption) (by rfl) (by first | exact Nat.zero_lt_one | assumption | omega) (by rfl) ?_ | refine sq_lit TYok TYz rfl rfl rfl rfl rfl rfl rfl rfl ?_ | refine sq_ixa TYok rfl rfl rfl rfl rfl rfl rfl sd ?_ | refine sq_ixr TYok rfl rfl rfl rfl rfl rfl rfl sd ?_) | (refine rg_id ?_; first | refine rg_fin ?_ | refine rg_move rfl rfl rfl ?_ | refine rg_assign rfl rfl rfl ?_ | refine rg_skip rfl rfl ?_ | refine rg_t TYok TYz rfl rfl rfl True.intro so ?_ | refine rg_f TYok TYz rfl rfl rfl True.intro so ?_ | refine rg_pure TYok TYz false rfl rfl rfl sd ?_ | refine rg_pure TYok TYz true rfl rfl rfl sd ?_ | refine rg_load TYok rfl rfl rfl (by assumption) (by rfl) (by first | exact Nat.zero_lt_one | assumption | omega) (by rfl) ?_ | refine rg_lit TYok TYz rfl rfl rfl rfl rfl rfl rfl rfl ?_ | refine rg_ixa TYok rfl rfl rfl rfl rfl rfl rfl sd ?_ | refine rg_ixr TYok rfl rfl rfl rfl rfl rfl rfl sd ?_) | refine aw_rseq ?_ | refine aw_seq ?_ | refine aw_region ?_ | refine aw_skip ?_ | refine aw_true rfl ?_ | refine aw_false rfl ?_ | refine aw_d0seq rfl (by kernel_rfl) ?_ | refine aw_d0 rfl (by kernel_rfl) ?_ | refine aw_block ?_ | refine aw_exit ?_ | refine then_ret ?_ | refine then_exit ?_ | refine then_normal ?_ | refine blk_ret ?_ | refine blk_normal ?_ | refine blk_exit ?_ | refine blk_pass rfl ?_))
  refine aw_for [1, 3, 4, 6, 9, 12] (fun s : Nat × List Int × Wk => [(1, ints s.2.1), (3, .i most), (4, .ref H.length 2 0 0), (6, .ref H1.length 12 0 0), (9, .ref H2.length 12 0 0), (12, .i s.1)])
    (fun s H' => s.1 ≤ n ∧ Runs S N (n - s.1) s.2.1 s.2.2 m' w' ∧ Ext H H' ∧ H3.length ≤ H'.length ∧ H'[H.length]? = some (some ⟨25, 2, 1, fun _ => tb S N⟩) ∧ H'[H1.length]? = some (some (wblk1 s.2.2)) ∧ H'[H2.length]? = some (some (wblk1 ⟨0, 0, 0, 0, 0, 0, 0, 0, 0, 0, false, 0⟩)))
    (fun s => n - s.1) (0, m, w) (by rw [rstf_eq]; rfl) ⟨by omega, hr, hx3, Nat.le_refl _, hb13, hb23, hb3⟩ ?_
  rintro ⟨j, X, W⟩ H4 ⟨hj, hR, hx4, hl4, hb4, hc4, hr4⟩
  simp only at hj hR hb4 hc4 hr4
  generalize hq : n - j = q at hR
  cases hR with
  | nil =>
    have : j = n := by omega
    subst this
    (repeat' (first | (refine sq_id ?_; first | refine sq_nil ?_ | refine sq_move rfl rfl rfl ?_ | refine sq_assign rfl rfl rfl ?_ | refine sq_skip rfl rfl ?_ | refine sq_t TYok TYz rfl rfl rfl True.intro so ?_ | refine sq_f TYok TYz rfl rfl rfl True.intro so ?_ | refine sq_pure TYok TYz false rfl rfl rfl sd ?_ | refine sq_pure TYok TYz true rfl rfl rfl sd ?_ | refine sq_load TYok rfl rfl rfl (by assumption) (by rfl) (by first | exact Nat.zero_lt_one | assumption | omega) (by rfl) ?_ | refine sq_lit TYok TYz rfl rfl rfl rfl rfl rfl rfl rfl ?_ | refine sq_ixa TYok rfl rfl rfl rfl rfl rfl rfl sd ?_ | refine sq_ixr TYok rfl rfl rfl rfl rfl rfl rfl sd ?_) | (refine rg_id ?_; first | refine rg_fin ?_ | refine rg_move rfl rfl rfl ?_ | refine rg_assign rfl rfl rfl ?_ | refine rg_skip rfl rfl ?_ | refine rg_t TYok TYz rfl rfl rfl True.intro so ?_ | refine rg_f TYok TYz rfl rfl rfl True.intro so ?_ | refine rg_pure TYok TYz false rfl rfl rfl sd ?_ | refine rg_pure TYok TYz true rfl rfl rfl sd ?_ | refine rg_load TYok rfl rfl rfl (by assumption) (by rfl) (by first | exact Nat.zero_lt_one | assumption | omega) (by rfl) ?_ | refine rg_lit TYok TYz rfl rfl rfl rfl rfl rfl rfl rfl ?_ | refine rg_ixa TYok rfl rfl rfl rfl rfl rfl rfl sd ?_ | refine rg_ixr TYok rfl rfl rfl rfl rfl rfl rfl sd ?_) | refine aw_rseq ?_ | refine aw_seq ?_ | refine aw_region ?_ | refine aw_skip ?_ | refine aw_true rfl ?_ | refine aw_false rfl ?_ | refine aw_d0seq rfl (by kernel_rfl) ?_ | refine aw_d0 rfl (by kernel_rfl) ?_ | refine aw_block ?_ | refine aw_exit ?_ | refine then_ret ?_ | refine then_exit ?_ | refine then_normal ?_ | refine blk_ret ?_ | refine blk_normal ?_ | refine blk_exit ?_ | refine blk_pass rfl ?_))
    refine sq_storek TYok rfl rfl rfl hr4 rfl Nat.zero_lt_one rfl rfl rfl (Nat.le_of_ble_eq_true rfl) fun H5 hb5 ho5 hl5 => ?_
    (repeat' (first | (refine sq_id ?_; first | refine sq_nil ?_ | refine sq_move rfl rfl rfl ?_ | refine sq_assign rfl rfl rfl ?_ | refine sq_skip rfl rfl ?_ | refine sq_t TYok TYz rfl rfl rfl True.intro so ?_ | refine sq_f TYok TYz rfl rfl rfl True.intro so ?_ | refine sq_pure TYok TYz false rfl rfl rfl sd ?_ | refine sq_pure TYok TYz true rfl rfl rfl sd ?_ | refine sq_load TYok rfl rfl rfl (by assumption) (by rfl) (by first | exact Nat.zero_lt_one | assumption | omega) (by rfl) ?_ | refine sq_lit TYok TYz rfl rfl rfl rfl rfl rfl rfl rfl ?_ | refine sq_ixa TYok rfl rfl rfl rfl rfl rfl rfl sd ?_ | refine sq_ixr TYok rfl rfl rfl rfl rfl rfl rfl sd ?_) | (refine rg_id ?_; first | refine rg_fin ?_ | refine rg_move rfl rfl rfl ?_ | refine rg_assign rfl rfl rfl ?_ | refine rg_skip rfl rfl ?_ | refine rg_t TYok TYz rfl rfl rfl True.intro so ?_ | refine rg_f TYok TYz rfl rfl rfl True.intro so ?_ | refine rg_pure TYok TYz false rfl rfl rfl sd ?_ | refine rg_pure TYok TYz true rfl rfl rfl sd ?_ | refine rg_load TYok rfl rfl rfl (by assumption) (by rfl) (by first | exact Nat.zero_lt_one | assumption | omega) (by rfl) ?_ | refine rg_lit TYok TYz rfl rfl rfl rfl rfl rfl rfl rfl ?_ | refine rg_ixa TYok rfl rfl rfl rfl rfl rfl rfl sd ?_ | refine rg_ixr TYok rfl rfl rfl rfl rfl rfl rfl sd ?_) | refine aw_rseq ?_ | refine aw_seq ?_ | refine aw_region ?_ | refine aw_skip ?_ | refine aw_true rfl ?_ | refine aw_false rfl ?_ | refine aw_d0seq rfl (by kernel_rfl) ?_ | refine aw_d0 rfl (by kernel_rfl) ?_ | refine aw_block ?_ | refine aw_exit ?_ | refine then_ret ?_ | refine then_exit ?_ | refine then_normal ?_ | refine blk_ret ?_ | refine blk_normal ?_ | refine blk_exit ?_ | refine blk_pass rfl ?_))
    ((try refine aw_ret ?_); (repeat (first | refine then_ret ?_ | refine blk_ret ?_)))
    refine ⟨True.intro, _, .tmp _ _ _ (.cell _ _ _ _ _ _ _ _ _ rfl hb5 rfl Nat.zero_lt_one rfl (.tmp _ _ _ (.tmp _ _ _ .nil))), ?_⟩
    exact ⟨hx4.oth ho5 (by rintro _ ⟨⟩; omega), rfl⟩
  | @cons q _ m1 _ _ w1 _ hdn hst _ hR =>
    (repeat' (first | (refine sq_id ?_; first | refine sq_nil ?_ | refine sq_move rfl rfl rfl ?_ | refine sq_assign rfl rfl rfl ?_ | refine sq_skip rfl rfl ?_ | refine sq_t TYok TYz rfl rfl rfl True.intro so ?_ | refine sq_f TYok TYz rfl rfl rfl True.intro so ?_ | refine sq_pure TYok TYz false rfl rfl rfl sd ?_ | refine sq_pure TYok TYz true rfl rfl rfl sd ?_ | refine sq_load TYok rfl rfl rfl (by assumption) (by rfl) (by first | exact Nat.zero_lt_one | assumption | omega) (by rfl) ?_ | refine sq_lit TYok TYz rfl rfl rfl rfl rfl rfl rfl rfl ?_ | refine sq_ixa TYok rfl rfl rfl rfl rfl rfl rfl sd ?_ | refine sq_ixr TYok rfl rfl rfl rfl rfl rfl rfl sd ?_) | (refine rg_id ?_; first | refine rg_fin ?_ | refine rg_move rfl rfl rfl ?_ | refine rg_assign rfl rfl rfl ?_ | refine rg_skip rfl rfl ?_ | refine rg_t TYok TYz rfl rfl rfl True.intro so ?_ | refine rg_f TYok TYz rfl rfl rfl True.intro so ?_ | refine rg_pure TYok TYz false rfl rfl rfl sd ?_ | refine rg_pure TYok TYz true rfl rfl rfl sd ?_ | refine rg_load TYok rfl rfl rfl (by assumption) (by rfl) (by first | exact Nat.zero_lt_one | assumption | omega) (by rfl) ?_ | refine rg_lit TYok TYz rfl rfl rfl rfl rfl rfl rfl rfl ?_ | refine rg_ixa TYok rfl rfl rfl rfl rfl rfl rfl sd ?_ | refine rg_ixr TYok rfl rfl rfl rfl rfl rfl rfl sd ?_) | refine aw_rseq ?_ | refine aw_seq ?_ | refine aw_region ?_ | refine aw_skip ?_ | refine aw_true rfl ?_ | refine aw_false rfl ?_ | refine aw_d0seq rfl (by kernel_rfl) ?_ | refine aw_d0 rfl (by kernel_rfl) ?_ | refine aw_block ?_ | refine aw_exit ?_ | refine then_ret ?_ | refine then_exit ?_ | refine then_normal ?_ | refine blk_ret ?_ | refine blk_normal ?_ | refine blk_exit ?_ | refine blk_pass rfl ?_))
    rw [hdn]
    (repeat' (first | (refine sq_id ?_; first | refine sq_nil ?_ | refine sq_move rfl rfl rfl ?_ | refine sq_assign rfl rfl rfl ?_ | refine sq_skip rfl rfl ?_ | refine sq_t TYok TYz rfl rfl rfl True.intro so ?_ | refine sq_f TYok TYz rfl rfl rfl True.intro so ?_ | refine sq_pure TYok TYz false rfl rfl rfl sd ?_ | refine sq_pure TYok TYz true rfl rfl rfl sd ?_ | refine sq_load TYok rfl rfl rfl (by assumption) (by rfl) (by first | exact Nat.zero_lt_one | assumption | omega) (by rfl) ?_ | refine sq_lit TYok TYz rfl rfl rfl rfl rfl rfl rfl rfl ?_ | refine sq_ixa TYok rfl rfl rfl rfl rfl rfl rfl sd ?_ | refine sq_ixr TYok rfl rfl rfl rfl rfl rfl rfl sd ?_ | refine sq_ps rfl rfl rfl hst (LeL.refl _) ?_) | (refine rg_id ?_; first | refine rg_fin ?_ | refine rg_move rfl rfl rfl ?_ | refine rg_assign rfl rfl rfl ?_ | refine rg_skip rfl rfl ?_ | refine rg_t TYok TYz rfl rfl rfl True.intro so ?_ | refine rg_f TYok TYz rfl rfl rfl True.intro so ?_ | refine rg_pure TYok TYz false rfl rfl rfl sd ?_ | refine rg_pure TYok TYz true rfl rfl rfl sd ?_ | refine rg_load TYok rfl rfl rfl (by assumption) (by rfl) (by first | exact Nat.zero_lt_one | assumption | omega) (by rfl) ?_ | refine rg_lit TYok TYz rfl rfl rfl rfl rfl rfl rfl rfl ?_ | refine rg_ixa TYok rfl rfl rfl rfl rfl rfl rfl sd ?_ | refine rg_ixr TYok rfl rfl rfl rfl rfl rfl rfl sd ?_ | refine sq_ps rfl rfl rfl hst (LeL.refl _) ?_) | refine aw_rseq ?_ | refine aw_seq ?_ | refine aw_region ?_ | refine aw_skip ?_ | refine aw_true rfl ?_ | refine aw_false rfl ?_ | refine aw_d0seq rfl (by kernel_rfl) ?_ | refine aw_d0 rfl (by kernel_rfl) ?_ | refine aw_block ?_ | refine aw_exit ?_ | refine then_ret ?_ | refine then_exit ?_ | refine then_normal ?_ | refine blk_ret ?_ | refine blk_normal ?_ | refine blk_exit ?_ | refine blk_pass rfl ?_ | refine sq_ps rfl rfl rfl hst (LeL.refl _) ?_))
    refine sq_newk TYok TYz false rfl rfl rfl True.intro fun H5 hb5 ho5 hl5 => ?_
    have e5 : H5.length = H4.length + 1 := hl5
    have hb45 := ho5.get0 hb4
    have hc45 := ho5.get0 hc4
    have hr45 := ho5.get0 hr4
    (repeat' (first | (refine sq_id ?_; first | refine sq_nil ?_ | refine sq_move rfl rfl rfl ?_ | refine sq_assign rfl rfl rfl ?_ | refine sq_skip rfl rfl ?_ | refine sq_t TYok TYz rfl rfl rfl True.intro so ?_ | refine sq_f TYok TYz rfl rfl rfl True.intro so ?_ | refine sq_pure TYok TYz false rfl rfl rfl sd ?_ | refine sq_pure TYok TYz true rfl rfl rfl sd ?_ | refine sq_load TYok rfl rfl rfl (by assumption) (by rfl) (by first | exact Nat.zero_lt_one | assumption | omega) (by rfl) ?_ | refine sq_lit TYok TYz rfl rfl rfl rfl rfl rfl rfl rfl ?_ | refine sq_ixa TYok rfl rfl rfl rfl rfl rfl rfl sd ?_ | refine sq_ixr TYok rfl rfl rfl rfl rfl rfl rfl sd ?_) | (refine rg_id ?_; first | refine rg_fin ?_ | refine rg_move rfl rfl rfl ?_ | refine rg_assign rfl rfl rfl ?_ | refine rg_skip rfl rfl ?_ | refine rg_t TYok TYz rfl rfl rfl True.intro so ?_ | refine rg_f TYok TYz rfl rfl rfl True.intro so ?_ | refine rg_pure TYok TYz false rfl rfl rfl sd ?_ | refine rg_pure TYok TYz true rfl rfl rfl sd ?_ | refine rg_load TYok rfl rfl rfl (by assumption) (by rfl) (by first | exact Nat.zero_lt_one | assumption | omega) (by rfl) ?_ | refine rg_lit TYok TYz rfl rfl rfl rfl rfl rfl rfl rfl ?_ | refine rg_ixa TYok rfl rfl rfl rfl rfl rfl rfl sd ?_ | refine rg_ixr TYok rfl rfl rfl rfl rfl rfl rfl sd ?_) | refine aw_rseq ?_ | refine aw_seq ?_ | refine aw_region ?_ | refine aw_skip ?_ | refine aw_true rfl ?_ | refine aw_false rfl ?_ | refine aw_d0seq rfl (by kernel_rfl) ?_ | refine aw_d0 rfl (by kernel_rfl) ?_ | refine aw_block ?_ | refine aw_exit ?_ | refine then_ret ?_ | refine then_exit ?_ | refine then_normal ?_ | refine blk_ret ?_ | refine blk_normal ?_ | refine blk_exit ?_ | refine blk_pass rfl ?_))
    refine sq_storek TYok rfl rfl rfl hb5 rfl Nat.zero_lt_one rfl rfl rfl (Nat.le_of_ble_eq_true rfl) fun H6 hb6 ho6 hl6 => ?_
    have hb46 := ho6.get hb45 (by simp; omega)
    have hc46 := ho6.get hc45 (by simp; omega)
    have hr46 := ho6.get hr45 (by simp; omega)
    (repeat' (first | (refine sq_id ?_; first | refine sq_nil ?_ | refine sq_move rfl rfl rfl ?_ | refine sq_assign rfl rfl rfl ?_ | refine sq_skip rfl rfl ?_ | refine sq_t TYok TYz rfl rfl rfl True.intro so ?_ | refine sq_f TYok TYz rfl rfl rfl True.intro so ?_ | refine sq_pure TYok TYz false rfl rfl rfl sd ?_ | refine sq_pure TYok TYz true rfl rfl rfl sd ?_ | refine sq_load TYok rfl rfl rfl (by assumption) (by rfl) (by first | exact Nat.zero_lt_one | assumption | omega) (by rfl) ?_ | refine sq_lit TYok TYz rfl rfl rfl rfl rfl rfl rfl rfl ?_ | refine sq_ixa TYok rfl rfl rfl rfl rfl rfl rfl sd ?_ | refine sq_ixr TYok rfl rfl rfl rfl rfl rfl rfl sd ?_) | (refine rg_id ?_; first | refine rg_fin ?_ | refine rg_move rfl rfl rfl ?_ | refine rg_assign rfl rfl rfl ?_ | refine rg_skip rfl rfl ?_ | refine rg_t TYok TYz rfl rfl rfl True.intro so ?_ | refine rg_f TYok TYz rfl rfl rfl True.intro so ?_ | refine rg_pure TYok TYz false rfl rfl rfl sd ?_ | refine rg_pure TYok TYz true rfl rfl rfl sd ?_ | refine rg_load TYok rfl rfl rfl (by assumption) (by rfl) (by first | exact Nat.zero_lt_one | assumption | omega) (by rfl) ?_ | refine rg_lit TYok TYz rfl rfl rfl rfl rfl rfl rfl rfl ?_ | refine rg_ixa TYok rfl rfl rfl rfl rfl rfl rfl sd ?_ | refine rg_ixr TYok rfl rfl rfl rfl rfl rfl rfl sd ?_) | refine aw_rseq ?_ | refine aw_seq ?_ | refine aw_region ?_ | refine aw_skip ?_ | refine aw_true rfl ?_ | refine aw_false rfl ?_ | refine aw_d0seq rfl (by kernel_rfl) ?_ | refine aw_d0 rfl (by kernel_rfl) ?_ | refine aw_block ?_ | refine aw_exit ?_ | refine then_ret ?_ | refine then_exit ?_ | refine then_normal ?_ | refine blk_ret ?_ | refine blk_normal ?_ | refine blk_exit ?_ | refine blk_pass rfl ?_))
    refine sq_storek TYok rfl rfl rfl hc46 rfl Nat.zero_lt_one rfl rfl rfl (Nat.le_of_ble_eq_true rfl) fun H7 hb7 ho7 hl7 => ?_
    have hb47 := ho7.get hb46 (by simp; omega)
    have hr47 := ho7.get hr46 (by simp; omega)
    refine sq_nil ?_
    repeat (first | refine blk_normal ?_ | refine then_normal ?_)
    refine aw_norm H1.length (wblk1 w1) hb7 rfl rfl rfl (one_blk rfl rfl) fun H8 hb8 ho8 hl8 => ?_
    have hb48 := ho8.get hb47 (by simp; omega)
    have hr48 := ho8.get hr47 (by simp; omega)
    (repeat' (first | (refine sq_id ?_; first | refine sq_nil ?_ | refine sq_move rfl rfl rfl ?_ | refine sq_assign rfl rfl rfl ?_ | refine sq_skip rfl rfl ?_ | refine sq_t TYok TYz rfl rfl rfl True.intro so ?_ | refine sq_f TYok TYz rfl rfl rfl True.intro so ?_ | refine sq_pure TYok TYz false rfl rfl rfl sd ?_ | refine sq_pure TYok TYz true rfl rfl rfl sd ?_ | refine sq_load TYok rfl rfl rfl (by assumption) (by rfl) (by first | exact Nat.zero_lt_one | assumption | omega) (by rfl) ?_ | refine sq_lit TYok TYz rfl rfl rfl rfl rfl rfl rfl rfl ?_ | refine sq_ixa TYok rfl rfl rfl rfl rfl rfl rfl sd ?_ | refine sq_ixr TYok rfl rfl rfl rfl rfl rfl rfl sd ?_) | (refine rg_id ?_; first | refine rg_fin ?_ | refine rg_move rfl rfl rfl ?_ | refine rg_assign rfl rfl rfl ?_ | refine rg_skip rfl rfl ?_ | refine rg_t TYok TYz rfl rfl rfl True.intro so ?_ | refine rg_f TYok TYz rfl rfl rfl True.intro so ?_ | refine rg_pure TYok TYz false rfl rfl rfl sd ?_ | refine rg_pure TYok TYz true rfl rfl rfl sd ?_ | refine rg_load TYok rfl rfl rfl (by assumption) (by rfl) (by first | exact Nat.zero_lt_one | assumption | omega) (by rfl) ?_ | refine rg_lit TYok TYz rfl rfl rfl rfl rfl rfl rfl rfl ?_ | refine rg_ixa TYok rfl rfl rfl rfl rfl rfl rfl sd ?_ | refine rg_ixr TYok rfl rfl rfl rfl rfl rfl rfl sd ?_) | refine aw_rseq ?_ | refine aw_seq ?_ | refine aw_region ?_ | refine aw_skip ?_ | refine aw_true rfl ?_ | refine aw_false rfl ?_ | refine aw_d0seq rfl (by kernel_rfl) ?_ | refine aw_d0 rfl (by kernel_rfl) ?_ | refine aw_block ?_ | refine aw_exit ?_ | refine then_ret ?_ | refine then_exit ?_ | refine then_normal ?_ | refine blk_ret ?_ | refine blk_normal ?_ | refine blk_exit ?_ | refine blk_pass rfl ?_))
    have hx8 : Ext H H8 := (((hx4.trans ho5.ext).oth ho6 (by rintro _ ⟨⟩; omega)).oth ho7 (by rintro _ ⟨⟩; omega)).oth ho8 (by rintro _ ⟨⟩; omega)
    refine ⟨(j + 1, m1, w1), by rw [rstf_eq]; rfl, ⟨by simp only; omega, ?_, hx8, by omega, hb48, hb8, hr48⟩, by simp only; omega⟩
    simp only
    rw [show n - (j + 1) = q by omega]
    exact hR
/-- so many steps of those -/
theorem Runs.first {S N : Int} {n : Nat} {m m2 : List Int} {w w2 : Wk} (h : Runs S N n m w m2 w2) : ∀ k, k ≤ n → ∃ m1 w1, Runs S N k m w m1 w1 := by
  induction h with
  | nil m w => intro k hk; obtain rfl : k = 0 := by omega
               exact ⟨m, w, .nil _ _⟩
  | @cons n m m1 m2 w w1 w2 h1 h2 h3 _ ih =>
    intro k hk
    cases k with
    | zero => exact ⟨m, w, .nil _ _⟩
    | succ k =>
      obtain ⟨a, b, h⟩ := ih k (by omega)
      exact ⟨a, b, .cons h1 h2 h3 h⟩
/-- a worker alone, however long it takes -/
theorem alone_any (S N : Int) (n most : Nat) (hmost : most ≤ 1000000) (m m' : List Int) (w w' : Wk) (hr : Runs S N n m w m' w') (hd : w'.done = true) :
    ∃ m2 w2 i b, PS Try.prog 11 [.agg (tb S N), ints m, .agg (wk w), .i most] (.tup [ints m2, .agg (wk w2), .i i, .b b]) := by
  by_cases h : n ≤ most
  · exact ⟨_, _, _, _, alone_s S N n most h hmost m m' w w' hr hd⟩
  · obtain ⟨m1, w1, h1⟩ := hr.first (most + 1) (by omega)
    exact ⟨_, _, _, _, alone_stop S N (most + 1) most rfl hmost m m1 w w1 h1⟩
abbrev tblB (S N : Int) : Blk := ⟨25, 2, 1, fun _ => tb S N⟩
set_option maxHeartbeats 4000000 in
theorem filled_s (S N : Nat) (hS : 1 ≤ S ∧ S ≤ 9) (hN : N ≤ 8) (raw : List Four) (hr : raw.length ≤ maxLen ∧ ∀ x ∈ raw, F64 x) (H : AH) :
    SC true Try.prog 16 [.agg (tb S N), accs raw] H (fun r H' => Ext H H' ∧ ∃ m F C had, WF S N m F C had ∧ C ≤ 8 ∧ r = ints m) := by
  refine sc_in TYok Try.func16 (by kernel_rfl) Try.ntmps16 rfl rfl rfl ?_
  have hl' : raw.length ≤ 9223372036854775807 := hr.1
  have hnew := refnew_s S N (by omega) (by omega)
  have w0 := WF_new S N (by omega) (by omega)
  refine aw_seq ?_
  refine aw_region ?_
  refine sq_newk TYok TYz false rfl rfl rfl True.intro fun H1 hb1 ho1 hl1 => ?_
  have e1 : H1.length = H.length + 1 := hl1
  (repeat' (first | (refine sq_id ?_; first | refine sq_nil ?_ | refine sq_move rfl rfl rfl ?_ | refine sq_assign rfl rfl rfl ?_ | refine sq_skip rfl rfl ?_ | refine sq_t TYok TYz rfl rfl rfl True.intro so ?_ | refine sq_f TYok TYz rfl rfl rfl True.intro so ?_ | refine sq_pure TYok TYz false rfl rfl rfl sd ?_ | refine sq_pure TYok TYz true rfl rfl rfl sd ?_ | refine sq_load TYok rfl rfl rfl (by assumption) (by rfl) (by first | exact Nat.zero_lt_one | assumption | omega) (by rfl) ?_ | refine sq_lit TYok TYz rfl rfl rfl rfl rfl rfl rfl rfl ?_ | refine sq_ixa TYok rfl rfl rfl rfl rfl rfl rfl sd ?_ | refine sq_ixr TYok rfl rfl rfl rfl rfl rfl rfl sd ?_ | refine sq_ps rfl rfl rfl hnew (LeL.refl _) ?_) | (refine rg_id ?_; first | refine rg_fin ?_ | refine rg_move rfl rfl rfl ?_ | refine rg_assign rfl rfl rfl ?_ | refine rg_skip rfl rfl ?_ | refine rg_t TYok TYz rfl rfl rfl True.intro so ?_ | refine rg_f TYok TYz rfl rfl rfl True.intro so ?_ | refine rg_pure TYok TYz false rfl rfl rfl sd ?_ | refine rg_pure TYok TYz true rfl rfl rfl sd ?_ | refine rg_load TYok rfl rfl rfl (by assumption) (by rfl) (by first | exact Nat.zero_lt_one | assumption | omega) (by rfl) ?_ | refine rg_lit TYok TYz rfl rfl rfl rfl rfl rfl rfl rfl ?_ | refine rg_ixa TYok rfl rfl rfl rfl rfl rfl rfl sd ?_ | refine rg_ixr TYok rfl rfl rfl rfl rfl rfl rfl sd ?_ | refine sq_ps rfl rfl rfl hnew (LeL.refl _) ?_) | refine aw_rseq ?_ | refine aw_seq ?_ | refine aw_region ?_ | refine aw_skip ?_ | refine aw_true rfl ?_ | refine aw_false rfl ?_ | refine aw_d0seq rfl (by kernel_rfl) ?_ | refine aw_d0 rfl (by kernel_rfl) ?_ | refine aw_block ?_ | refine aw_exit ?_ | refine then_ret ?_ | refine then_exit ?_ | refine then_normal ?_ | refine blk_ret ?_ | refine blk_normal ?_ | refine blk_exit ?_ | refine blk_pass rfl ?_ | refine sq_ps rfl rfl rfl hnew (LeL.refl _) ?_))
  refine aw_for [1, 2, 5, 6] (fun s : Nat × List Int × List Nat × Nat × List (Kid × Nat) => [(1, accs raw), (2, .ref H.length 2 0 0), (5, ints s.2.1), (6, .i s.1)])
    (fun s H' => s.1 ≤ raw.length ∧ s.1 ≤ 8 ∧ WF S N s.2.1 s.2.2.1 s.2.2.2.1 s.2.2.2.2 ∧ s.2.2.2.1 ≤ s.1 ∧ Ext H H' ∧ H'[H.length]? = some (some (tblB S N)))
    (fun s => raw.length - s.1) (0, newL S N, List.range N, 0, []) (by rw [rstf_eq]; rfl) ⟨by omega, by omega, w0, by simp, ho1.ext, hb1⟩ ?_
  clear hb1 ho1 w0 hnew
  rintro ⟨i, m, F, C, had⟩ H4 ⟨hi, hi8, hw, hC, hx4, hb4⟩
  simp only at hi hi8 hw hC hb4
  have hlt4 := (List.getElem?_eq_some_iff.1 hb4).1
  by_cases hgo : i < raw.length ∧ i < 8
  · obtain ⟨g1, g2⟩ := hgo
    have hf := hr.2 _ (mem_getD raw (0, 0, 0, 0) i g1)
    obtain ⟨x0, p0, _, a0, b0⟩ := pick_k (raw.getD i (0, 0, 0, 0)).1 2 hf.1 (by omega)
    obtain ⟨x1, p1, _, a1, b1⟩ := pick_k (raw.getD i (0, 0, 0, 0)).2.1 2 hf.2.1 (by omega)
    obtain ⟨x2, p2, _, a2, b2⟩ := pick_k (raw.getD i (0, 0, 0, 0)).2.2.1 2 hf.2.2.1 (by omega)
    obtain ⟨x3, p3, _, a3, b3⟩ := pick_k (raw.getD i (0, 0, 0, 0)).2.2.2 2 hf.2.2.2 (by omega)
    have hkb : KB (x0, x1, x2, x3) := by
      intro j hj
      rcases (by omega : j = 0 ∨ j = 1 ∨ j = 2 ∨ j = 3) with rfl | rfl | rfl | rfl
      · exact ⟨a0, by show x0 ≤ _; omega⟩
      · exact ⟨a1, by show x1 ≤ _; omega⟩
      · exact ⟨a2, by show x2 ≤ _; omega⟩
      · exact ⟨a3, by show x3 ≤ _; omega⟩
    have hlk := lkids_s (raw.getD i (0, 0, 0, 0)).1 (raw.getD i (0, 0, 0, 0)).2.1 (raw.getD i (0, 0, 0, 0)).2.2.1 (raw.getD i (0, 0, 0, 0)).2.2.2 x0 x1 x2 x3 p0 p1 p2 p3
    have hin := refintern_s x0 x1 x2 x3
    obtain ⟨t, ht, m', w', hrun, hdn, hcase⟩ := intern_run hw (by omega) hkb
    have hnext : ∃ F' C' had', WF S N m' F' C' had' ∧ C' ≤ i + 1 := by
      rcases hcase with ⟨_, _, _, rfl, _⟩ | ⟨_, _, rfl, _⟩ | ⟨_, v, F', _, _, _, hw'⟩
      · exact ⟨F, C, had, hw, by omega⟩
      · exact ⟨F, C, had, hw, by omega⟩
      · exact ⟨F', C + 1, _, hw', by omega⟩
    obtain ⟨F', C', had', hw', hC'⟩ := hnext
    clear hcase p0 p1 p2 p3
    (repeat' (first | (refine sq_id ?_; first | refine sq_nil ?_ | refine sq_move rfl rfl rfl ?_ | refine sq_assign rfl rfl rfl ?_ | refine sq_skip rfl rfl ?_ | refine sq_t TYok TYz rfl rfl rfl True.intro so ?_ | refine sq_f TYok TYz rfl rfl rfl True.intro so ?_ | refine sq_pure TYok TYz false rfl rfl rfl sd ?_ | refine sq_pure TYok TYz true rfl rfl rfl sd ?_ | refine sq_load TYok rfl rfl rfl (by assumption) (by rfl) (by first | exact Nat.zero_lt_one | assumption | omega) (by rfl) ?_ | refine sq_lit TYok TYz rfl rfl rfl rfl rfl rfl rfl rfl ?_ | refine sq_ixa TYok rfl rfl rfl rfl rfl rfl rfl sd ?_ | refine sq_ixr TYok rfl rfl rfl rfl rfl rfl rfl sd ?_ | refine sq_ps rfl rfl rfl hlk (LeL.refl _) ?_ | refine sq_ps rfl rfl rfl hin (LeL.refl _) ?_) | (refine rg_id ?_; first | refine rg_fin ?_ | refine rg_move rfl rfl rfl ?_ | refine rg_assign rfl rfl rfl ?_ | refine rg_skip rfl rfl ?_ | refine rg_t TYok TYz rfl rfl rfl True.intro so ?_ | refine rg_f TYok TYz rfl rfl rfl True.intro so ?_ | refine rg_pure TYok TYz false rfl rfl rfl sd ?_ | refine rg_pure TYok TYz true rfl rfl rfl sd ?_ | refine rg_load TYok rfl rfl rfl (by assumption) (by rfl) (by first | exact Nat.zero_lt_one | assumption | omega) (by rfl) ?_ | refine rg_lit TYok TYz rfl rfl rfl rfl rfl rfl rfl rfl ?_ | refine rg_ixa TYok rfl rfl rfl rfl rfl rfl rfl sd ?_ | refine rg_ixr TYok rfl rfl rfl rfl rfl rfl rfl sd ?_ | refine sq_ps rfl rfl rfl hlk (LeL.refl _) ?_ | refine sq_ps rfl rfl rfl hin (LeL.refl _) ?_) | refine aw_rseq ?_ | refine aw_seq ?_ | refine aw_region ?_ | refine aw_skip ?_ | refine aw_true rfl ?_ | refine aw_false rfl ?_ | refine aw_d0seq rfl (by kernel_rfl) ?_ | refine aw_d0 rfl (by kernel_rfl) ?_ | refine aw_block ?_ | refine aw_exit ?_ | refine then_ret ?_ | refine then_exit ?_ | refine then_normal ?_ | refine blk_ret ?_ | refine blk_normal ?_ | refine blk_exit ?_ | refine blk_pass rfl ?_ | refine sq_ps rfl rfl rfl hlk (LeL.refl _) ?_ | refine sq_ps rfl rfl rfl hin (LeL.refl _) ?_))
    refine sq_newk TYok TYz false rfl rfl rfl True.intro fun H5 hb5 ho5 hl5 => ?_
    have e5 : H5.length = H4.length + 1 := hl5
    have hb45 := ho5.get0 hb4
    refine sq_storek TYok rfl rfl rfl hb5 rfl Nat.zero_lt_one rfl rfl rfl (Nat.le_of_ble_eq_true rfl) fun H6 hb6 ho6 hl6 => ?_
    have hb46 := ho6.get hb45 (by simp; omega)
    have hx6 : Ext H H6 := (hx4.trans ho5.ext).oth ho6 (by rintro _ ⟨⟩; have := hx4.1; omega)
    (repeat' (first | (refine sq_id ?_; first | refine sq_nil ?_ | refine sq_move rfl rfl rfl ?_ | refine sq_assign rfl rfl rfl ?_ | refine sq_skip rfl rfl ?_ | refine sq_t TYok TYz rfl rfl rfl True.intro so ?_ | refine sq_f TYok TYz rfl rfl rfl True.intro so ?_ | refine sq_pure TYok TYz false rfl rfl rfl sd ?_ | refine sq_pure TYok TYz true rfl rfl rfl sd ?_ | refine sq_load TYok rfl rfl rfl (by assumption) (by rfl) (by first | exact Nat.zero_lt_one | assumption | omega) (by rfl) ?_ | refine sq_lit TYok TYz rfl rfl rfl rfl rfl rfl rfl rfl ?_ | refine sq_ixa TYok rfl rfl rfl rfl rfl rfl rfl sd ?_ | refine sq_ixr TYok rfl rfl rfl rfl rfl rfl rfl sd ?_) | (refine rg_id ?_; first | refine rg_fin ?_ | refine rg_move rfl rfl rfl ?_ | refine rg_assign rfl rfl rfl ?_ | refine rg_skip rfl rfl ?_ | refine rg_t TYok TYz rfl rfl rfl True.intro so ?_ | refine rg_f TYok TYz rfl rfl rfl True.intro so ?_ | refine rg_pure TYok TYz false rfl rfl rfl sd ?_ | refine rg_pure TYok TYz true rfl rfl rfl sd ?_ | refine rg_load TYok rfl rfl rfl (by assumption) (by rfl) (by first | exact Nat.zero_lt_one | assumption | omega) (by rfl) ?_ | refine rg_lit TYok TYz rfl rfl rfl rfl rfl rfl rfl rfl ?_ | refine rg_ixa TYok rfl rfl rfl rfl rfl rfl rfl sd ?_ | refine rg_ixr TYok rfl rfl rfl rfl rfl rfl rfl sd ?_) | refine aw_rseq ?_ | refine aw_seq ?_ | refine aw_region ?_ | refine aw_skip ?_ | refine aw_true rfl ?_ | refine aw_false rfl ?_ | refine aw_d0seq rfl (by kernel_rfl) ?_ | refine aw_d0 rfl (by kernel_rfl) ?_ | refine aw_block ?_ | refine aw_exit ?_ | refine then_ret ?_ | refine then_exit ?_ | refine then_normal ?_ | refine blk_ret ?_ | refine blk_normal ?_ | refine blk_exit ?_ | refine blk_pass rfl ?_))
    refine aw_norm H4.length (wblk1 (internW x0 x1 x2 x3)) hb6 rfl rfl rfl (one_blk rfl rfl) fun H7 hb7 ho7 hl7 => ?_
    have hb47 := ho7.get hb46 (by simp; omega)
    have hx7 : Ext H H7 := hx6.oth ho7 (by rintro _ ⟨⟩; have := hx4.1; omega)
    refine aw_for [1, 2, 5, 6, 7, 8] (fun s : Nat × List Int × Wk => [(1, accs raw), (2, .ref H.length 2 0 0), (5, ints s.2.1), (6, .i i), (7, .ref H4.length 12 0 0), (8, .i s.1)])
      (fun s H' => s.1 ≤ t ∧ Runs S N (t - s.1) s.2.1 s.2.2 m' w' ∧ Ext H H' ∧ H'[H.length]? = some (some (tblB S N)) ∧ H'[H4.length]? = some (some (wblk1 s.2.2)))
      (fun s => t - s.1) (0, m, internW x0 x1 x2 x3) (by rw [rstf_eq]; rfl) ⟨by omega, hrun, hx7, hb47, hb7⟩ ?_
    rintro ⟨j, X, W⟩ H8 ⟨hj, hR, hx8, hb8, hc8⟩
    simp only at hj hR hb8 hc8
    generalize hq : t - j = q at hR
    cases hR with
    | nil =>
      (repeat' (first | (refine sq_id ?_; first | refine sq_nil ?_ | refine sq_move rfl rfl rfl ?_ | refine sq_assign rfl rfl rfl ?_ | refine sq_skip rfl rfl ?_ | refine sq_t TYok TYz rfl rfl rfl True.intro so ?_ | refine sq_f TYok TYz rfl rfl rfl True.intro so ?_ | refine sq_pure TYok TYz false rfl rfl rfl sd ?_ | refine sq_pure TYok TYz true rfl rfl rfl sd ?_ | refine sq_load TYok rfl rfl rfl (by assumption) (by rfl) (by first | exact Nat.zero_lt_one | assumption | omega) (by rfl) ?_ | refine sq_lit TYok TYz rfl rfl rfl rfl rfl rfl rfl rfl ?_ | refine sq_ixa TYok rfl rfl rfl rfl rfl rfl rfl sd ?_ | refine sq_ixr TYok rfl rfl rfl rfl rfl rfl rfl sd ?_) | (refine rg_id ?_; first | refine rg_fin ?_ | refine rg_move rfl rfl rfl ?_ | refine rg_assign rfl rfl rfl ?_ | refine rg_skip rfl rfl ?_ | refine rg_t TYok TYz rfl rfl rfl True.intro so ?_ | refine rg_f TYok TYz rfl rfl rfl True.intro so ?_ | refine rg_pure TYok TYz false rfl rfl rfl sd ?_ | refine rg_pure TYok TYz true rfl rfl rfl sd ?_ | refine rg_load TYok rfl rfl rfl (by assumption) (by rfl) (by first | exact Nat.zero_lt_one | assumption | omega) (by rfl) ?_ | refine rg_lit TYok TYz rfl rfl rfl rfl rfl rfl rfl rfl ?_ | refine rg_ixa TYok rfl rfl rfl rfl rfl rfl rfl sd ?_ | refine rg_ixr TYok rfl rfl rfl rfl rfl rfl rfl sd ?_) | refine aw_rseq ?_ | refine aw_seq ?_ | refine aw_region ?_ | refine aw_skip ?_ | refine aw_true rfl ?_ | refine aw_false rfl ?_ | refine aw_d0seq rfl (by kernel_rfl) ?_ | refine aw_d0 rfl (by kernel_rfl) ?_ | refine aw_block ?_ | refine aw_exit ?_ | refine then_ret ?_ | refine then_exit ?_ | refine then_normal ?_ | refine blk_ret ?_ | refine blk_normal ?_ | refine blk_exit ?_ | refine blk_pass rfl ?_))
      rw [hdn]
      (repeat' (first | (refine sq_id ?_; first | refine sq_nil ?_ | refine sq_move rfl rfl rfl ?_ | refine sq_assign rfl rfl rfl ?_ | refine sq_skip rfl rfl ?_ | refine sq_t TYok TYz rfl rfl rfl True.intro so ?_ | refine sq_f TYok TYz rfl rfl rfl True.intro so ?_ | refine sq_pure TYok TYz false rfl rfl rfl sd ?_ | refine sq_pure TYok TYz true rfl rfl rfl sd ?_ | refine sq_load TYok rfl rfl rfl (by assumption) (by rfl) (by first | exact Nat.zero_lt_one | assumption | omega) (by rfl) ?_ | refine sq_lit TYok TYz rfl rfl rfl rfl rfl rfl rfl rfl ?_ | refine sq_ixa TYok rfl rfl rfl rfl rfl rfl rfl sd ?_ | refine sq_ixr TYok rfl rfl rfl rfl rfl rfl rfl sd ?_) | (refine rg_id ?_; first | refine rg_fin ?_ | refine rg_move rfl rfl rfl ?_ | refine rg_assign rfl rfl rfl ?_ | refine rg_skip rfl rfl ?_ | refine rg_t TYok TYz rfl rfl rfl True.intro so ?_ | refine rg_f TYok TYz rfl rfl rfl True.intro so ?_ | refine rg_pure TYok TYz false rfl rfl rfl sd ?_ | refine rg_pure TYok TYz true rfl rfl rfl sd ?_ | refine rg_load TYok rfl rfl rfl (by assumption) (by rfl) (by first | exact Nat.zero_lt_one | assumption | omega) (by rfl) ?_ | refine rg_lit TYok TYz rfl rfl rfl rfl rfl rfl rfl rfl ?_ | refine rg_ixa TYok rfl rfl rfl rfl rfl rfl rfl sd ?_ | refine rg_ixr TYok rfl rfl rfl rfl rfl rfl rfl sd ?_) | refine aw_rseq ?_ | refine aw_seq ?_ | refine aw_region ?_ | refine aw_skip ?_ | refine aw_true rfl ?_ | refine aw_false rfl ?_ | refine aw_d0seq rfl (by kernel_rfl) ?_ | refine aw_d0 rfl (by kernel_rfl) ?_ | refine aw_block ?_ | refine aw_exit ?_ | refine then_ret ?_ | refine then_exit ?_ | refine then_normal ?_ | refine blk_ret ?_ | refine blk_normal ?_ | refine blk_exit ?_ | refine blk_pass rfl ?_))
      exact ⟨(i + 1, m', F', C', had'), by rw [rstf_eq]; rfl, ⟨by simp only; omega, by simp only; omega, hw', by simp only; omega, hx8, hb8⟩, by simp only; omega⟩
    | @cons q _ m1 _ _ w1 _ hdn1 _ hst hR =>
      (repeat' (first | (refine sq_id ?_; first | refine sq_nil ?_ | refine sq_move rfl rfl rfl ?_ | refine sq_assign rfl rfl rfl ?_ | refine sq_skip rfl rfl ?_ | refine sq_t TYok TYz rfl rfl rfl True.intro so ?_ | refine sq_f TYok TYz rfl rfl rfl True.intro so ?_ | refine sq_pure TYok TYz false rfl rfl rfl sd ?_ | refine sq_pure TYok TYz true rfl rfl rfl sd ?_ | refine sq_load TYok rfl rfl rfl (by assumption) (by rfl) (by first | exact Nat.zero_lt_one | assumption | omega) (by rfl) ?_ | refine sq_lit TYok TYz rfl rfl rfl rfl rfl rfl rfl rfl ?_ | refine sq_ixa TYok rfl rfl rfl rfl rfl rfl rfl sd ?_ | refine sq_ixr TYok rfl rfl rfl rfl rfl rfl rfl sd ?_) | (refine rg_id ?_; first | refine rg_fin ?_ | refine rg_move rfl rfl rfl ?_ | refine rg_assign rfl rfl rfl ?_ | refine rg_skip rfl rfl ?_ | refine rg_t TYok TYz rfl rfl rfl True.intro so ?_ | refine rg_f TYok TYz rfl rfl rfl True.intro so ?_ | refine rg_pure TYok TYz false rfl rfl rfl sd ?_ | refine rg_pure TYok TYz true rfl rfl rfl sd ?_ | refine rg_load TYok rfl rfl rfl (by assumption) (by rfl) (by first | exact Nat.zero_lt_one | assumption | omega) (by rfl) ?_ | refine rg_lit TYok TYz rfl rfl rfl rfl rfl rfl rfl rfl ?_ | refine rg_ixa TYok rfl rfl rfl rfl rfl rfl rfl sd ?_ | refine rg_ixr TYok rfl rfl rfl rfl rfl rfl rfl sd ?_) | refine aw_rseq ?_ | refine aw_seq ?_ | refine aw_region ?_ | refine aw_skip ?_ | refine aw_true rfl ?_ | refine aw_false rfl ?_ | refine aw_d0seq rfl (by kernel_rfl) ?_ | refine aw_d0 rfl (by kernel_rfl) ?_ | refine aw_block ?_ | refine aw_exit ?_ | refine then_ret ?_ | refine then_exit ?_ | refine then_normal ?_ | refine blk_ret ?_ | refine blk_normal ?_ | refine blk_exit ?_ | refine blk_pass rfl ?_))
      rw [hdn1]
      (repeat' (first | (refine sq_id ?_; first | refine sq_nil ?_ | refine sq_move rfl rfl rfl ?_ | refine sq_assign rfl rfl rfl ?_ | refine sq_skip rfl rfl ?_ | refine sq_t TYok TYz rfl rfl rfl True.intro so ?_ | refine sq_f TYok TYz rfl rfl rfl True.intro so ?_ | refine sq_pure TYok TYz false rfl rfl rfl sd ?_ | refine sq_pure TYok TYz true rfl rfl rfl sd ?_ | refine sq_load TYok rfl rfl rfl (by assumption) (by rfl) (by first | exact Nat.zero_lt_one | assumption | omega) (by rfl) ?_ | refine sq_lit TYok TYz rfl rfl rfl rfl rfl rfl rfl rfl ?_ | refine sq_ixa TYok rfl rfl rfl rfl rfl rfl rfl sd ?_ | refine sq_ixr TYok rfl rfl rfl rfl rfl rfl rfl sd ?_ | refine sq_ps rfl rfl rfl hst (LeL.refl _) ?_) | (refine rg_id ?_; first | refine rg_fin ?_ | refine rg_move rfl rfl rfl ?_ | refine rg_assign rfl rfl rfl ?_ | refine rg_skip rfl rfl ?_ | refine rg_t TYok TYz rfl rfl rfl True.intro so ?_ | refine rg_f TYok TYz rfl rfl rfl True.intro so ?_ | refine rg_pure TYok TYz false rfl rfl rfl sd ?_ | refine rg_pure TYok TYz true rfl rfl rfl sd ?_ | refine rg_load TYok rfl rfl rfl (by assumption) (by rfl) (by first | exact Nat.zero_lt_one | assumption | omega) (by rfl) ?_ | refine rg_lit TYok TYz rfl rfl rfl rfl rfl rfl rfl rfl ?_ | refine rg_ixa TYok rfl rfl rfl rfl rfl rfl rfl sd ?_ | refine rg_ixr TYok rfl rfl rfl rfl rfl rfl rfl sd ?_ | refine sq_ps rfl rfl rfl hst (LeL.refl _) ?_) | refine aw_rseq ?_ | refine aw_seq ?_ | refine aw_region ?_ | refine aw_skip ?_ | refine aw_true rfl ?_ | refine aw_false rfl ?_ | refine aw_d0seq rfl (by kernel_rfl) ?_ | refine aw_d0 rfl (by kernel_rfl) ?_ | refine aw_block ?_ | refine aw_exit ?_ | refine then_ret ?_ | refine then_exit ?_ | refine then_normal ?_ | refine blk_ret ?_ | refine blk_normal ?_ | refine blk_exit ?_ | refine blk_pass rfl ?_ | refine sq_ps rfl rfl rfl hst (LeL.refl _) ?_))
      refine sq_storek TYok rfl rfl rfl hc8 rfl Nat.zero_lt_one rfl rfl rfl (Nat.le_of_ble_eq_true rfl) fun H9 hb9 ho9 hl9 => ?_
      have hb89 := ho9.get hb8 (by simp; omega)
      have hx9 : Ext H H9 := hx8.oth ho9 (by rintro _ ⟨⟩; have := hx4.1; omega)
      refine sq_nil ?_
      repeat (first | refine blk_normal ?_ | refine then_normal ?_)
      refine aw_norm H4.length (wblk1 w1) hb9 rfl rfl rfl (one_blk rfl rfl) fun H10 hb10 ho10 hl10 => ?_
      have hb810 := ho10.get hb89 (by simp; omega)
      have hx10 : Ext H H10 := hx9.oth ho10 (by rintro _ ⟨⟩; have := hx4.1; omega)
      (repeat' (first | (refine sq_id ?_; first | refine sq_nil ?_ | refine sq_move rfl rfl rfl ?_ | refine sq_assign rfl rfl rfl ?_ | refine sq_skip rfl rfl ?_ | refine sq_t TYok TYz rfl rfl rfl True.intro so ?_ | refine sq_f TYok TYz rfl rfl rfl True.intro so ?_ | refine sq_pure TYok TYz false rfl rfl rfl sd ?_ | refine sq_pure TYok TYz true rfl rfl rfl sd ?_ | refine sq_load TYok rfl rfl rfl (by assumption) (by rfl) (by first | exact Nat.zero_lt_one | assumption | omega) (by rfl) ?_ | refine sq_lit TYok TYz rfl rfl rfl rfl rfl rfl rfl rfl ?_ | refine sq_ixa TYok rfl rfl rfl rfl rfl rfl rfl sd ?_ | refine sq_ixr TYok rfl rfl rfl rfl rfl rfl rfl sd ?_) | (refine rg_id ?_; first | refine rg_fin ?_ | refine rg_move rfl rfl rfl ?_ | refine rg_assign rfl rfl rfl ?_ | refine rg_skip rfl rfl ?_ | refine rg_t TYok TYz rfl rfl rfl True.intro so ?_ | refine rg_f TYok TYz rfl rfl rfl True.intro so ?_ | refine rg_pure TYok TYz false rfl rfl rfl sd ?_ | refine rg_pure TYok TYz true rfl rfl rfl sd ?_ | refine rg_load TYok rfl rfl rfl (by assumption) (by rfl) (by first | exact Nat.zero_lt_one | assumption | omega) (by rfl) ?_ | refine rg_lit TYok TYz rfl rfl rfl rfl rfl rfl rfl rfl ?_ | refine rg_ixa TYok rfl rfl rfl rfl rfl rfl rfl sd ?_ | refine rg_ixr TYok rfl rfl rfl rfl rfl rfl rfl sd ?_) | refine aw_rseq ?_ | refine aw_seq ?_ | refine aw_region ?_ | refine aw_skip ?_ | refine aw_true rfl ?_ | refine aw_false rfl ?_ | refine aw_d0seq rfl (by kernel_rfl) ?_ | refine aw_d0 rfl (by kernel_rfl) ?_ | refine aw_block ?_ | refine aw_exit ?_ | refine then_ret ?_ | refine then_exit ?_ | refine then_normal ?_ | refine blk_ret ?_ | refine blk_normal ?_ | refine blk_exit ?_ | refine blk_pass rfl ?_))
      refine ⟨(j + 1, m1, w1), by rw [rstf_eq]; rfl, ⟨by simp only; omega, ?_, hx10, hb810, hb10⟩, by simp only; omega⟩
      simp only
      rw [show t - (j + 1) = q by omega]
      exact hR
  · rcases (by omega : ¬ i < raw.length ∨ (i < raw.length ∧ ¬ i < 8)) with h | ⟨h, h2⟩
    · (repeat' (first | (refine sq_id ?_; first | refine sq_nil ?_ | refine sq_move rfl rfl rfl ?_ | refine sq_assign rfl rfl rfl ?_ | refine sq_skip rfl rfl ?_ | refine sq_t TYok TYz rfl rfl rfl True.intro so ?_ | refine sq_f TYok TYz rfl rfl rfl True.intro so ?_ | refine sq_pure TYok TYz false rfl rfl rfl sd ?_ | refine sq_pure TYok TYz true rfl rfl rfl sd ?_ | refine sq_load TYok rfl rfl rfl (by assumption) (by rfl) (by first | exact Nat.zero_lt_one | assumption | omega) (by rfl) ?_ | refine sq_lit TYok TYz rfl rfl rfl rfl rfl rfl rfl rfl ?_ | refine sq_ixa TYok rfl rfl rfl rfl rfl rfl rfl sd ?_ | refine sq_ixr TYok rfl rfl rfl rfl rfl rfl rfl sd ?_) | (refine rg_id ?_; first | refine rg_fin ?_ | refine rg_move rfl rfl rfl ?_ | refine rg_assign rfl rfl rfl ?_ | refine rg_skip rfl rfl ?_ | refine rg_t TYok TYz rfl rfl rfl True.intro so ?_ | refine rg_f TYok TYz rfl rfl rfl True.intro so ?_ | refine rg_pure TYok TYz false rfl rfl rfl sd ?_ | refine rg_pure TYok TYz true rfl rfl rfl sd ?_ | refine rg_load TYok rfl rfl rfl (by assumption) (by rfl) (by first | exact Nat.zero_lt_one | assumption | omega) (by rfl) ?_ | refine rg_lit TYok TYz rfl rfl rfl rfl rfl rfl rfl rfl ?_ | refine rg_ixa TYok rfl rfl rfl rfl rfl rfl rfl sd ?_ | refine rg_ixr TYok rfl rfl rfl rfl rfl rfl rfl sd ?_) | refine aw_rseq ?_ | refine aw_seq ?_ | refine aw_region ?_ | refine aw_skip ?_ | refine aw_true rfl ?_ | refine aw_false rfl ?_ | refine aw_d0seq rfl (by kernel_rfl) ?_ | refine aw_d0 rfl (by kernel_rfl) ?_ | refine aw_block ?_ | refine aw_exit ?_ | refine then_ret ?_ | refine then_exit ?_ | refine then_normal ?_ | refine blk_ret ?_ | refine blk_normal ?_ | refine blk_exit ?_ | refine blk_pass rfl ?_))
      ((try refine aw_ret ?_); (repeat (first | refine then_ret ?_ | refine blk_ret ?_)); refine fin_t True.intro rfl rfl ?_)
      exact ⟨hx4, m, F, C, had, hw, by omega, rfl⟩
    · (repeat' (first | (refine sq_id ?_; first | refine sq_nil ?_ | refine sq_move rfl rfl rfl ?_ | refine sq_assign rfl rfl rfl ?_ | refine sq_skip rfl rfl ?_ | refine sq_t TYok TYz rfl rfl rfl True.intro so ?_ | refine sq_f TYok TYz rfl rfl rfl True.intro so ?_ | refine sq_pure TYok TYz false rfl rfl rfl sd ?_ | refine sq_pure TYok TYz true rfl rfl rfl sd ?_ | refine sq_load TYok rfl rfl rfl (by assumption) (by rfl) (by first | exact Nat.zero_lt_one | assumption | omega) (by rfl) ?_ | refine sq_lit TYok TYz rfl rfl rfl rfl rfl rfl rfl rfl ?_ | refine sq_ixa TYok rfl rfl rfl rfl rfl rfl rfl sd ?_ | refine sq_ixr TYok rfl rfl rfl rfl rfl rfl rfl sd ?_) | (refine rg_id ?_; first | refine rg_fin ?_ | refine rg_move rfl rfl rfl ?_ | refine rg_assign rfl rfl rfl ?_ | refine rg_skip rfl rfl ?_ | refine rg_t TYok TYz rfl rfl rfl True.intro so ?_ | refine rg_f TYok TYz rfl rfl rfl True.intro so ?_ | refine rg_pure TYok TYz false rfl rfl rfl sd ?_ | refine rg_pure TYok TYz true rfl rfl rfl sd ?_ | refine rg_load TYok rfl rfl rfl (by assumption) (by rfl) (by first | exact Nat.zero_lt_one | assumption | omega) (by rfl) ?_ | refine rg_lit TYok TYz rfl rfl rfl rfl rfl rfl rfl rfl ?_ | refine rg_ixa TYok rfl rfl rfl rfl rfl rfl rfl sd ?_ | refine rg_ixr TYok rfl rfl rfl rfl rfl rfl rfl sd ?_) | refine aw_rseq ?_ | refine aw_seq ?_ | refine aw_region ?_ | refine aw_skip ?_ | refine aw_true rfl ?_ | refine aw_false rfl ?_ | refine aw_d0seq rfl (by kernel_rfl) ?_ | refine aw_d0 rfl (by kernel_rfl) ?_ | refine aw_block ?_ | refine aw_exit ?_ | refine then_ret ?_ | refine then_exit ?_ | refine then_normal ?_ | refine blk_ret ?_ | refine blk_normal ?_ | refine blk_exit ?_ | refine blk_pass rfl ?_))
      ((try refine aw_ret ?_); (repeat (first | refine then_ret ?_ | refine blk_ret ?_)); refine fin_t True.intro rfl rfl ?_)
      exact ⟨hx4, m, F, C, had, hw, by omega, rfl⟩
/-- a raw table, kids of four raw numbers -/
theorem raw_table (a b : Int) (ha : I64 a) (hb : I64 b) : ∃ S N : Nat, 1 ≤ S ∧ S ≤ 9 ∧ N ≤ 8 ∧ PS Try.prog 8 [.i a, .i b] (.agg (tb S N)) := by
  obtain ⟨x, px, _, xa, xb⟩ := pick_k a 9 ha (by omega)
  obtain ⟨y, py, _, ya, yb⟩ := pick_k b 9 hb (by omega)
  have hT := table_s a b x y px py ⟨xa, xb⟩
  obtain ⟨N, rfl⟩ := Int.eq_ofNat_of_zero_le ya
  obtain ⟨S, hS⟩ : ∃ S : Nat, 1 + x = (S : Int) := ⟨(1 + x).toNat, by omega⟩
  rw [hS] at hT
  exact ⟨S, N, by omega, by omega, by omega, hT⟩
theorem raw_kids (a b c d : Int) (ha : I64 a) (hb : I64 b) (hc : I64 c) (hd : I64 d) : ∃ x0 x1 x2 x3 : Int, KB (x0, x1, x2, x3) ∧ PS Try.prog 10 [.agg (k4 a b c d)] (.agg (k4 x0 x1 x2 x3)) := by
  obtain ⟨x0, p0, _, a0, b0⟩ := pick_k a 2 ha (by omega)
  obtain ⟨x1, p1, _, a1, b1⟩ := pick_k b 2 hb (by omega)
  obtain ⟨x2, p2, _, a2, b2⟩ := pick_k c 2 hc (by omega)
  obtain ⟨x3, p3, _, a3, b3⟩ := pick_k d 2 hd (by omega)
  refine ⟨x0, x1, x2, x3, ?_, lkids_s a b c d x0 x1 x2 x3 p0 p1 p2 p3⟩
  intro j hj
  rcases (by omega : j = 0 ∨ j = 1 ∨ j = 2 ∨ j = 3) with rfl | rfl | rfl | rfl
  · exact ⟨a0, by show x0 ≤ _; omega⟩
  · exact ⟨a1, by show x1 ≤ _; omega⟩
  · exact ⟨a2, by show x2 ≤ _; omega⟩
  · exact ⟨a3, by show x3 ≤ _; omega⟩
end Go.Proofs.Ytcehniefjelgeaa.Ab
