/- One worker alone: it ends, and how. -/
import Derived.Test.YtcehniefjelgeaaKJ
namespace Go.Proofs.Ytcehniefjelgeaa.Ab
open Go Go.RowKit
def kidsAt (S : Nat) (m : List Int) (n : Nat) : Kid := (m.getD (S + 4 * n) 0, m.getD (S + 4 * n + 1) 0, m.getD (S + 4 * n + 2) 0, m.getD (S + 4 * n + 3) 0)
section
variable {S N : Nat} {m : List Int} {k : Kid}
theorem at_kids (n : Nat) (h : ∀ j, j < 4 → m.getD (S + 4 * n + j) 0 = kc k j) : kidsAt S m n = k := by
  have h0 := h 0 (by omega)
  have h1 := h 1 (by omega)
  have h2 := h 2 (by omega)
  have h3 := h 3 (by omega)
  unfold kidsAt
  rw [show m.getD (S + 4 * n) 0 = k.1 from h0, h1, h2, h3]; rfl
theorem kids_at (n : Nat) (h : kidsAt S m n = k) : ∀ j, j < 4 → m.getD (S + 4 * n + j) 0 = kc k j := by
  intro j hj
  subst h
  rcases (by omega : j = 0 ∨ j = 1 ∨ j = 2 ∨ j = 3) with rfl | rfl | rfl | rfl <;> rfl
/-- the kids of a node, compared from a place on -/
theorem cmp_run (hm : Mem S N m) {r n : Nat} (hr : r < S) (hn : n < N) : ∀ (d j : Nat), j + d = 3 → (∀ i, i < j → m.getD (S + 4 * n + i) 0 = kc k i) →
    (kidsAt S m n = k ∧ Runs S N (d + 1) m (sW k 1 r 0 n j) m (eW k 1 r 0 n 4 n)) ∨
    (kidsAt S m n ≠ k ∧ ∃ t j' : Nat, t ≤ d + 1 ∧ Runs S N t m (sW k 1 r 0 n j) m (if r + 1 = S then eW k 1 (r + 1 : Nat) 0 n j' (-1) else sW k 0 (r + 1 : Nat) 0 n j')) := by
  intro d
  induction d with
  | zero =>
    intro j hj hall
    have hj3 : j = 3 := by omega
    subst hj3
    have hs := st_cmp (k := k) hm hr hn (by omega : 3 < 4)
    by_cases h : m.getD (S + 4 * n + 3) 0 = kc k 3
    · rw [if_neg (by simpa using h), if_pos rfl] at hs
      refine .inl ⟨at_kids n fun i hi => ?_, hs⟩
      by_cases h3 : i = 3
      · subst h3; exact h
      · exact hall i (by omega)
    · rw [if_pos h] at hs
      exact .inr ⟨fun e => h (kids_at n e 3 (by omega)), 1, 3, by omega, hs⟩
  | succ d ih =>
    intro j hj hall
    have hs := st_cmp (k := k) hm hr hn (by omega : j < 4)
    by_cases h : m.getD (S + 4 * n + j) 0 = kc k j
    · rw [if_neg (by simpa using h), if_neg (by omega)] at hs
      rcases ih (j + 1) (by omega) (fun i hi => by
        by_cases hij : i = j
        · subst hij; exact h
        · exact hall i (by omega)) with ⟨h1, h2⟩ | ⟨h1, t, j', h2, h3⟩
      · refine .inl ⟨h1, ?_⟩
        have := hs.trans h2
        rwa [show 1 + (d + 1) = d + 1 + 1 by omega] at this
      · exact .inr ⟨h1, 1 + t, j', by omega, hs.trans h3⟩
    · rw [if_pos h] at hs
      exact .inr ⟨fun e => h (kids_at n e j (by omega)), 1, j, by omega, hs⟩
/-- at a slot there is another node -/
def Mis (S N : Nat) (m : List Int) (k : Kid) (r : Nat) : Prop := ∃ n : Nat, n < N ∧ m.getD (hS S k r) 0 = (n : Int) + 1 ∧ kidsAt S m n ≠ k
theorem mis_run (hm : Mem S N m) {r : Nat} {r6 r7 : Int} (hr : r < S) (h7 : 0 ≤ r7) (h : Mis S N m k r) : ∃ t n j' : Nat, t ≤ 5 ∧ Runs S N t m (sW k 0 r 0 r6 r7) m (if r + 1 = S then eW k 1 (r + 1 : Nat) 0 n j' (-1) else sW k 0 (r + 1 : Nat) 0 n j') := by
  obtain ⟨n, hn, hx, hk⟩ := h
  have hl := st_look (k := k) (r6 := r6) hm hr h7
  rw [if_pos (by omega), hx, show (n : Int) + 1 - 1 = n by omega] at hl
  rcases cmp_run (k := k) hm hr hn 3 0 (by omega) (fun i hi => by omega) with ⟨h1, _⟩ | ⟨_, t, j', h2, h3⟩
  · exact absurd h1 hk
  · exact ⟨1 + t, n, j', by omega, hl.trans h3⟩
theorem srch (hm : Mem S N m) : ∀ r : Nat, r < S → (∀ r', r' < r → Mis S N m k r') → ∃ t : Nat, t ≤ 5 * r ∧ ∃ r6 r7 : Int, 0 ≤ r7 ∧ Runs S N t m (sW k 0 0 0 0 0) m (sW k 0 r 0 r6 r7)
  | 0, _, _ => ⟨0, by omega, 0, 0, Int.le_refl _, .nil _ _⟩
  | r + 1, hr, h => by
    obtain ⟨t, ht, r6, r7, h7, hrun⟩ := srch hm r (by omega) fun r' h' => h r' (by omega)
    obtain ⟨t', n, j', ht', hrun'⟩ := mis_run (r6 := r6) hm (by omega) h7 (h r (by omega))
    rw [if_neg (by omega)] at hrun'
    exact ⟨t + t', by omega, n, j', Int.natCast_nonneg _, hrun.trans hrun'⟩
/-- all slots hold others -/
theorem run_full (hm : Mem S N m) (h : ∀ r, r < S → Mis S N m k r) : ∃ t : Nat, t ≤ 5 * S ∧ ∃ w', Runs S N t m (sW k 0 0 0 0 0) m w' ∧ w'.done = true ∧ w'.out = -1 := by
  have hS := hm.S1
  obtain ⟨t, ht, r6, r7, h7, hrun⟩ := srch hm (S - 1) (by omega) fun r' h' => h r' (by omega)
  obtain ⟨t', n, j', ht', hrun'⟩ := mis_run (r6 := r6) hm (by omega : S - 1 < S) h7 (h (S - 1) (by omega))
  rw [if_pos (by omega)] at hrun'
  exact ⟨t + t', by omega, _, hrun.trans hrun', rfl, rfl⟩
/-- it is there -/
theorem run_found (hm : Mem S N m) {r n : Nat} (hr : r < S) (hmis : ∀ r', r' < r → Mis S N m k r') (hn : n < N) (hx : m.getD (hS S k r) 0 = (n : Int) + 1) (hk : kidsAt S m n = k) : ∃ t : Nat, t ≤ 5 * S ∧ ∃ w', Runs S N t m (sW k 0 0 0 0 0) m w' ∧ w'.done = true ∧ w'.out = n := by
  obtain ⟨t, ht, r6, r7, h7, hrun⟩ := srch hm r hr hmis
  have hl := st_look (k := k) (r6 := r6) hm hr h7
  rw [if_pos (by omega), hx, show (n : Int) + 1 - 1 = n by omega] at hl
  rcases cmp_run (k := k) hm hr hn 3 0 (by omega) (fun i hi => by omega) with ⟨_, h1⟩ | ⟨h1, _⟩
  · exact ⟨t + (1 + (3 + 1)), by omega, _, hrun.trans (hl.trans h1), rfl, rfl⟩
  · exact absurd hk h1
/-- none is free -/
theorem run_none (hm : Mem S N m) {r : Nat} (hr : r < S) (hmis : ∀ r', r' < r → Mis S N m k r') (hx : m.getD (hS S k r) 0 = 0) (hf : Hn (m.getD (S + 4 * N) 0) = 0) : ∃ t : Nat, t ≤ 5 * S + 9 ∧ ∃ w', Runs S N t m (sW k 0 0 0 0 0) m w' ∧ w'.done = true ∧ w'.out = -1 := by
  obtain ⟨t, ht, r6, r7, h7, hrun⟩ := srch hm r hr hmis
  have hl := st_look (k := k) (r6 := r6) hm hr h7
  rw [if_neg (by omega)] at hl
  have hh := st_head (k := k) (r6 := r6) hm hr h7
  rw [if_pos hf] at hh
  exact ⟨t + (1 + 1), by omega, _, hrun.trans (hl.trans hh), rfl, rfl⟩
theorem Mem.set_out (hm : Mem S N m) {i : Nat} {v : Int} (hi : S ≤ i) (hi2 : i < m.length) : Mem S N (m.set i v) :=
  ⟨hm.S1, hm.N1, by rw [List.length_set]; exact hm.len, fun j hj => by rw [set_getDw m i v 0 hi2, if_neg (by omega)]; exact hm.slots j hj⟩
/-- the words behind it -/
def putM (S N : Nat) (m : List Int) (k : Kid) (s x : Nat) (h : Int) : List Int := (((((m.set (S + 4 * N) h).set (S + 4 * x + 0) (kc k 0)).set (S + 4 * x + 1) (kc k 1)).set (S + 4 * x + 2) (kc k 2)).set (S + 4 * x + 3) (kc k 3)).set s (x + 1 : Nat)
theorem putM_len (s x : Nat) (h : Int) : (putM S N m k s x h).length = m.length := by unfold putM; simp
theorem putM_at (hm : Mem S N m) {s x : Nat} (hs : s < S) (hx : x < N) (h : Int) (i : Nat) : (putM S N m k s x h).getD i 0 = if i = s then ((x + 1 : Nat) : Int) else if S + 4 * x ≤ i ∧ i < S + 4 * x + 4 then kc k (i - (S + 4 * x)) else if i = S + 4 * N then h else m.getD i 0 := by
  have hl := hm.len
  unfold putM
  rw [set_getDw _ s _ 0 (by simp; omega)]
  by_cases h1 : s = i
  · rw [if_pos h1, if_pos h1.symm]
  rw [if_neg h1, if_neg (fun e => h1 e.symm), set_getDw _ (S + 4 * x + 3) _ 0 (by simp; omega), set_getDw _ (S + 4 * x + 2) _ 0 (by simp; omega), set_getDw _ (S + 4 * x + 1) _ 0 (by simp; omega), set_getDw _ (S + 4 * x + 0) _ 0 (by simp; omega), set_getDw _ (S + 4 * N) _ 0 (by omega)]
  by_cases h2 : S + 4 * x ≤ i ∧ i < S + 4 * x + 4
  · rw [if_pos h2]
    rcases (by omega : i = S + 4 * x ∨ i = S + 4 * x + 1 ∨ i = S + 4 * x + 2 ∨ i = S + 4 * x + 3) with rfl | rfl | rfl | rfl
    · rw [if_neg (by omega), if_neg (by omega), if_neg (by omega), if_pos (by omega), show S + 4 * x - (S + 4 * x) = 0 by omega]
    · rw [if_neg (by omega), if_neg (by omega), if_pos (by omega), show S + 4 * x + 1 - (S + 4 * x) = 1 by omega]
    · rw [if_neg (by omega), if_pos (by omega), show S + 4 * x + 2 - (S + 4 * x) = 2 by omega]
    · rw [if_pos (by omega), show S + 4 * x + 3 - (S + 4 * x) = 3 by omega]
  · rw [if_neg h2, if_neg (by omega), if_neg (by omega), if_neg (by omega), if_neg (by omega)]
    by_cases h3 : i = S + 4 * N
    · rw [if_pos h3, if_pos h3.symm]
    · rw [if_neg h3, if_neg (fun e => h3 e.symm)]
/-- a node is put -/
theorem run_put (hm : Mem S N m) {r C x l : Nat} (hr : r < S) (hmis : ∀ r', r' < r → Mis S N m k r') (he : m.getD (hS S k r) 0 = 0) (hC : C ≤ 1000) (hh : m.getD (S + 4 * N) 0 = (C : Int) * 1048576 + ((x : Int) + 1)) (hx : x < N) (hlk : m.getD (S + 4 * N + (x + 1)) 0 = l) (hl : l ≤ N) (hk : ∀ j, j < 4 → 0 ≤ kc k j ∧ kc k j ≤ 1152921504606846975) :
    ∃ t : Nat, t ≤ 5 * r + 9 ∧ ∃ w', Runs S N t m (sW k 0 0 0 0 0) (putM S N m k (hS S k r) x (((C : Int) + 1) * 1048576 + l)) w' ∧ w'.done = true ∧ w'.out = x := by
  have hS1 := hm.S1
  have hN1 := hm.N1
  have hlen := hm.len
  obtain ⟨s1, s2⟩ := hS_lt S hS1.1 k r
  obtain ⟨t, ht, r6, r7, h7, hrun⟩ := srch hm r hr hmis
  have a1 := st_look (k := k) (r6 := r6) hm hr h7
  rw [if_neg (by omega)] at a1
  have hH : Hn (m.getD (S + 4 * N) 0) = ((x + 1 : Nat) : Int) := by
    rw [hh, show (x : Int) + 1 = ((x + 1 : Nat) : Int) by omega]
    exact hn_at C (x + 1) (by omega)
  have a2 := st_head (k := k) (r6 := r6) hm hr h7
  rw [if_neg (by omega)] at a2
  have a3 := st_next (k := k) hm hr h7 hH (by omega : x + 1 ≤ N)
  rw [hlk] at a3
  have hdiv : (m.getD (S + 4 * N) 0) / 1048576 = C := by rw [hh]; omega
  have a4 := st_take (k := k) hm hr (r7 := l) (r6 := m.getD (S + 4 * N) 0) (by omega) (by omega) rfl
  rw [hH, hdiv] at a4
  have m1 := hm.set_out (i := S + 4 * N) (v := ((C : Int) + 1) * 1048576 + l) (by omega) (by omega)
  have b0 := st_write (r6 := m.getD (S + 4 * N) 0) m1 hr hx (by omega : 0 < 4) (hk 0 (by omega))
  have m2 := m1.set_out (i := S + 4 * x + 0) (v := kc k 0) (by omega) (by simp; omega)
  have b1 := st_write (r6 := m.getD (S + 4 * N) 0) m2 hr hx (by omega : 1 < 4) (hk 1 (by omega))
  have m3 := m2.set_out (i := S + 4 * x + 1) (v := kc k 1) (by omega) (by simp; omega)
  have b2 := st_write (r6 := m.getD (S + 4 * N) 0) m3 hr hx (by omega : 2 < 4) (hk 2 (by omega))
  have m4 := m3.set_out (i := S + 4 * x + 2) (v := kc k 2) (by omega) (by simp; omega)
  have b3 := st_write (r6 := m.getD (S + 4 * N) 0) m4 hr hx (by omega : 3 < 4) (hk 3 (by omega))
  have m5 := m4.set_out (i := S + 4 * x + 3) (v := kc k 3) (by omega) (by simp; omega)
  rw [if_neg (by omega)] at b0 b1 b2
  rw [if_pos rfl] at b3
  have hsl : ((((((m.set (S + 4 * N) (((C : Int) + 1) * 1048576 + l)).set (S + 4 * x + 0) (kc k 0)).set (S + 4 * x + 1) (kc k 1)).set (S + 4 * x + 2) (kc k 2)).set (S + 4 * x + 3) (kc k 3))).getD (hS S k r) 0 = 0 := by
    rw [set_getDw _ (S + 4 * x + 3) _ 0 (by simp; omega), if_neg (by omega), set_getDw _ (S + 4 * x + 2) _ 0 (by simp; omega), if_neg (by omega), set_getDw _ (S + 4 * x + 1) _ 0 (by simp; omega), if_neg (by omega), set_getDw _ (S + 4 * x + 0) _ 0 (by simp; omega), if_neg (by omega), set_getDw _ (S + 4 * N) _ 0 (by omega), if_neg (by omega), he]
  have c := st_claim (k := k) (r6 := m.getD (S + 4 * N) 0) (r7 := 4) m5 hr hx hsl (by omega)
  exact ⟨t + (1 + (1 + (1 + (1 + (1 + (1 + (1 + (1 + 1)))))))), by omega, _, hrun.trans (a1.trans (a2.trans (a3.trans (a4.trans (b0.trans (b1.trans (b2.trans (b3.trans c)))))))), rfl, rfl⟩
end
end Go.Proofs.Ytcehniefjelgeaa.Ab
