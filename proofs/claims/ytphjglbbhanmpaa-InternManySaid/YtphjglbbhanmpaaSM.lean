/- Tables that are new; crowds that change nothing; how many nodes (plain). -/
import Derived.Test.YtphjglbbhanmpaaSC
import Derived.Test.YtphjglbbhanmpaaSF
namespace Go.Proofs.Ytphjglbbhanmpaa.Ab
open Go Go.RowKit
theorem newL_at (S N j : Nat) : (newL S N).getD j 0 = if j < S + 4 * N then 0 else (makeL N).getD (j - (S + 4 * N)) 0 := by
  unfold newL
  by_cases h : j < S + 4 * N
  · rw [if_pos h, List.getD_eq_getElem?_getD, List.getElem?_append_left (by simpa using h), List.getElem?_replicate, if_pos h]; rfl
  · rw [if_neg h, List.getD_eq_getElem?_getD, List.getElem?_append_right (by simp; omega), List.length_replicate, List.getD_eq_getElem?_getD]
theorem hdF_range (a d : Nat) : hdF (List.range' a d) = if d = 0 then 0 else (a : Int) + 1 := by
  cases d with
  | zero => rfl
  | succ d => rw [List.range'_succ]; rfl
theorem chain_new (S N : Nat) : ∀ d a, a + d = N → ChainT S N (newL S N) (List.range' a d)
  | 0, _, _ => True.intro
  | d + 1, a, h => by
    rw [List.range'_succ]
    refine ⟨?_, chain_new S N d (a + 1) (by omega)⟩
    rw [hdF_range, newL_at, if_neg (by omega), show S + 4 * N + 1 + a - (S + 4 * N) = a + 1 by omega]
    by_cases hd : d = 0
    · rw [if_pos hd, show a + 1 = N by omega]; exact makeL_end N
    · rw [if_neg hd, makeL_at N (a + 1) (by omega)]
theorem count_range (n a : Nat) : (List.range n).count a = if a < n then 1 else 0 := by
  induction n with
  | zero => simp
  | succ m ih =>
    rw [List.range_succ, List.count_append, ih, List.count_cons, List.count_nil]
    by_cases h1 : a < m
    · rw [if_pos h1, if_neg (by simp; omega), if_pos (by omega)]
    · by_cases h2 : m = a
      · rw [if_neg h1, if_pos (by simpa using h2), if_pos (by omega)]
      · rw [if_neg h1, if_neg (by simpa using h2), if_neg (by omega)]
theorem Tab_new (S N : Nat) : Tab S N (newL S N) (List.range N) 0 (fun _ => 0) := by
  have he : List.range N = List.range' 0 N := List.range_eq_range'
  have hz : ∀ i, i < S → (newL S N).getD i 0 = 0 := fun i hi => by rw [newL_at, if_pos (by omega)]
  refine ⟨newL_len S N, fun i hi h => absurd (hz i hi) h, ?_, by rw [he]; exact chain_new S N N 0 (by omega), fun x hx => ?_, fun a => ?_⟩
  · rw [he, hdF_range, newL_at, if_neg (by omega), Nat.sub_self]
    by_cases hN : N = 0
    · subst hN; rfl
    · rw [if_neg hN, makeL_at N 0 (by omega)]; omega
  · rw [newL_at, if_neg (by omega), show S + 4 * N + 1 + x - (S + 4 * N) = x + 1 by omega]
    by_cases h : x + 1 < N
    · rw [makeL_at N _ h]; omega
    · rw [show x + 1 = N by omega, makeL_end]; omega
  · have : pubC S (newL S N) a = 0 := by
      unfold pubC
      rw [List.map_congr_left (g := fun _ => 0) fun i hi => by rw [hz i (List.mem_range.1 hi), if_neg (by omega)]]
      exact sumR_zero S
    rw [count_range, this]; rfl
section
variable {S N : Nat} {m m0 : List Int} {F : List Nat} {C : Nat} {k : Kid} {w : Wk} {ks : List Kid} {now : List Wk}
/-- where nothing changes -/
inductive QW (S N : Nat) (m : List Int) (k : Kid) : Wk → Prop
  | look (r : Nat) (r6 r7 o : Int) : r < S → (∀ q, q < r → Mis S N m k q) → 0 ≤ r7 → QW S N m k (wW k 0 r 0 r6 r7 false o)
  | cmp (r n j : Nat) (o : Int) : r < S → (∀ q, q < r → Mis S N m k q) → n < N → m.getD (hS S k r) 0 = (n : Int) + 1 → j < 4 → (∀ i, i < j → m.getD (S + 4 * n + i) 0 = kc k i) → QW S N m k (wW k 1 r 0 n j false o)
  | head (r : Nat) (r6 r7 o : Int) : r < S → (∀ q, q < r → Mis S N m k q) → m.getD (hS S k r) 0 = 0 → 0 ≤ r7 → QW S N m k (wW k 10 r 0 r6 r7 false o)
  | found (pc r4 r5 r6 r7 : Int) (p n : Nat) : At S N m k p n → QW S N m k (wW k pc r4 r5 r6 r7 true n)
  | none (pc r4 r5 r6 r7 : Int) (p : Nat) : p < S → m.getD (hS S k p) 0 = 0 → (∀ q, q < p → Mis S N m k q) → QW S N m k (wW k pc r4 r5 r6 r7 true (-1))
theorem QW.wv (h : QW S N m k w) (hd : w.done = false) : WkI S N m F C k w := by
  cases h with
  | look r r6 r7 o h1 h2 h3 => exact .look r 0 r6 r7 o h1 h2 h3 (.inl rfl)
  | cmp r n j o h1 h2 h3 h4 h5 h6 => exact .cmp r n j 0 o h1 h2 h3 h4 h5 h6 (.inl rfl)
  | head r r6 r7 o h1 h2 h3 h4 => exact .head r r6 r7 o h1 h2 h4
  | found pc r4 r5 r6 r7 p n h => exact absurd hd (by simp)
  | none pc r4 r5 r6 r7 p h1 h2 h3 => exact absurd hd (by simp)
/-- its node is there; or it is not, and none is free -/
def Set_ (S N : Nat) (m : List Int) (F : List Nat) (k : Kid) : Prop := (∃ p n, At S N m k p n) ∨ (F = [] ∧ ∃ p, p < S ∧ m.getD (hS S k p) 0 = 0 ∧ ∀ q, q < p → Mis S N m k q)
theorem At.not_zero {p n r : Nat} (h : At S N m k p n) (h0 : m.getD (hS S k r) 0 = 0) (hm : ∀ q, q < r → Mis S N m k q) : False := by
  rcases Nat.lt_trichotomy p r with hl | rfl | hl
  · obtain ⟨x, _, e, hne⟩ := hm p hl
    have := h.at_
    have : x = n := by omega
    subst this
    exact hne h.kids
  · have := h.at_; omega
  · obtain ⟨x, _, e, _⟩ := h.mis r hl
    omega
theorem At.not_mis {p n : Nat} (h : At S N m k p n) (hm : ∀ q, q < S → Mis S N m k q) : False := by
  obtain ⟨x, _, e, hne⟩ := hm p h.lt
  have := h.at_
  have : x = n := by omega
  subst this
  exact hne h.kids
theorem QW_step (hS1 : 1 ≤ S) (hN : N ≤ 100) (h : Tab S N m F C (fun _ => 0)) (hs : Set_ S N m F k) (hw : QW S N m k w) (hd : w.done = false) : ∃ w', stI S N m w = (m, w', 0) ∧ QW S N m k w' ∧ phW S N m w' < phW S N m w := by
  cases hw with
  | look r r6 r7 o h1 h2 h3 =>
    obtain ⟨hlt, _⟩ := hS_lt S hS1 k r
    refine ⟨_, st0 rfl, ?_⟩
    rw [slotW]
    by_cases h0 : m.getD (hS S k r) 0 = 0
    · unfold lookW
      rw [if_neg (by omega), if_neg (by simp)]
      refine ⟨.head r r6 r7 o h1 h2 h0 h3, ?_⟩
      rw [phW_head, phW_look, if_pos rfl, if_pos h0, if_pos rfl]; omega
    · obtain ⟨n, hn, e, _⟩ := h.slots _ hlt h0
      unfold lookW
      rw [e, if_pos (by omega), show (n : Int) + 1 - 1 = n by omega]
      refine ⟨.cmp r n 0 o h1 h2 hn e (by omega) (fun i hi => by omega), ?_⟩
      have := phW_cmp (S := S) (N := N) (m := m) (k := k) r 0 n 0 o
      rw [phW_look, if_neg h0]
      show phW S N m (wW k 1 r 0 n (0 : Nat) false o) < _
      rw [this]; omega
  | cmp r n j o h1 h2 h3 h4 h5 h6 =>
    have hst : stI S N m (wW k 1 r 0 n j false o) = (m, cmpW (wW k 1 r 0 n j false o) S (m.getD (S + 4 * n + j) 0), 0) := by
      rw [st1 rfl]
      show (m, cmpW _ _ (m.getD ((S : Int) + 4 * n + j).toNat 0), (0 : Int)) = _
      rw [show ((S : Int) + 4 * n + j).toNat = S + 4 * n + j by omega]
    refine ⟨_, hst, ?_⟩
    have hreg := reg_kc (k := k) 1 r 0 n j h5 false o
    unfold cmpW
    rw [hreg]
    by_cases hx : m.getD (S + 4 * n + j) 0 = kc k j
    · rw [if_neg (by simpa using hx)]
      by_cases h3' : j = 3
      · subst h3'
        rw [if_pos (show ((3 : Nat) : Int) + 1 = 4 by decide)]
        have hat : At S N m k r n := ⟨h1, h3, h4, at_kids n fun i hi => by
          by_cases h : i = 3
          · subst h; exact hx
          · exact h6 i (by omega), h2⟩
        unfold endW
        rw [if_pos (show (0 : Int) = 0 by rfl)]
        refine ⟨.found 1 r 0 n (3 + 1) r n hat, ?_⟩
        rw [phW_cmp]
        show phW S N m (wW k 1 r 0 n _ true n) < _
        rw [phW_done]; omega
      · rw [if_neg (by show ¬ ((j : Int) + 1 = 4); omega)]
        refine ⟨.cmp r n (j + 1) o h1 h2 h3 h4 (by omega) (fun i hi => by
          by_cases h : i = j
          · subst h; exact hx
          · exact h6 i (by omega)), ?_⟩
        show phW S N m (wW k 1 r 0 n (j + 1 : Nat) false o) < _
        rw [phW_cmp, phW_cmp]; omega
    · have hms := mis_succ h2 h3 h4 (kids_ne h5 hx)
      have hr1 : r + 1 < S := Decidable.byContradiction fun hc => by
        have hrS : r + 1 = S := by omega
        rw [hrS] at hms
        rcases hs with ⟨p, n, hat⟩ | ⟨_, p, hp, h0, _⟩
        · exact hat.not_mis hms
        · obtain ⟨x, _, e, _⟩ := hms p hp
          omega
      rw [if_pos hx, if_neg (by show ¬ ((r : Int) + 1 = S); omega)]
      refine ⟨.look (r + 1) n j o hr1 hms (by omega), ?_⟩
      show phW S N m (wW k 0 (r + 1 : Nat) 0 n j false o) < _
      have := phW_look_le (S := S) (N := N) (m := m) (k := k) (r + 1) 0 n j o
      rw [phW_cmp]; omega
  | head r r6 r7 o h1 h2 h3 h4 =>
    refine ⟨_, st10 rfl, ?_⟩
    have hF : F = [] := by
      rcases hs with ⟨p, n, hat⟩ | ⟨e, _⟩
      · exact (hat.not_zero h3 h2).elim
      · exact e
    subst hF
    have hHn : Hn (m.getD (S + 4 * N) 0) = 0 := by
      rw [h.head]
      exact hn_at C 0 (by omega)
    unfold headW endW
    rw [if_pos hHn, if_pos (show (0 : Int) = 0 by rfl)]
    refine ⟨.none 10 r 0 _ r7 r h1 h3 h2, ?_⟩
    show phW S N m (wW k 10 r 0 _ r7 true (-1)) < _
    rw [phW_done, phW_head]; omega
  | found pc r4 r5 r6 r7 p n h => exact absurd hd (by simp)
  | none pc r4 r5 r6 r7 p h1 h2 h3 => exact absurd hd (by simp)
def QK (S N : Nat) (m0 : List Int) (ks : List Kid) (m : List Int) (now : List Wk) : Prop := m = m0 ∧ now.length = ks.length ∧ ∀ i, i < now.length → QW S N m0 (ks.getD i k0) (now.getD i wk0)
theorem QK_step (hS1 : 1 ≤ S) (hN : N ≤ 100) (h : Tab S N m0 F C (fun _ => 0)) (hs : ∀ k ∈ ks, Set_ S N m0 F k) (hK : QK S N m0 ks m now) {j : Nat} (hj : j < now.length) (hd : (now.getD j wk0).done = false) :
    (stI S N m (now.getD j wk0)).2.2 = 0 ∧ QK S N m0 ks (stI S N m (now.getD j wk0)).1 (now.set j (stI S N m (now.getD j wk0)).2.1) ∧ phi S N (stI S N m (now.getD j wk0)).1 (now.set j (stI S N m (now.getD j wk0)).2.1) < phi S N m now := by
  obtain ⟨rfl, hl, ha⟩ := hK
  have hjk : j < ks.length := hl ▸ hj
  obtain ⟨w', e, h1, h2⟩ := QW_step hS1 hN h (hs (ks.getD j k0) (by rw [getD_at ks j hjk]; exact List.getElem_mem hjk)) (ha j hj) hd
  rw [e]
  refine ⟨rfl, ⟨rfl, by simpa using hl, fun i hi => ?_⟩, ?_⟩
  · simp only [List.length_set] at hi
    simp only
    rw [set_getDw now j w' wk0 hj i]
    by_cases hij : j = i
    · subst hij; rw [if_pos rfl]; exact h1
    · rw [if_neg hij]; exact ha i hi
  · have := sum_same (phW S N m) now j w' hj
    rw [← getD_at now j hj wk0] at this
    unfold phi
    simp only
    omega
theorem QK_begin (hS1 : 1 ≤ S) (ks : List Kid) : QK S N m ks m (ks.map startK) :=
  ⟨rfl, by simp, fun i hi => by
    rw [List.length_map] at hi
    rw [start_getD ks i hi]
    exact .look 0 0 0 0 (by omega) (fun q hq => by omega) (by omega)⟩
theorem quiet_run (hS1 : 1 ≤ S) (hS30 : S ≤ 30) (hN : N ≤ 100) (h : Tab S N m F C (fun _ => 0)) (ks : List Kid) (hk : ks.length ≤ 12) (hs : ∀ k ∈ ks, Set_ S N m F k) (picks : List Int) :
    ∃ l', driveT (stI S N) picks m (ks.map startK) = (m, l', 0) ∧ l'.length = ks.length ∧ ∀ i, i < ks.length → (∀ p n, At S N m (ks.getD i k0) p n → (l'.getD i wk0).out = n) ∧ ((∀ p n, ¬ At S N m (ks.getD i k0) p n) → (l'.getD i wk0).out = -1) := by
  have hp := phi_begin (S := S) (N := N) (m := m) hS30 ks hk
  obtain ⟨m', l', h1, ⟨rfl, h2, h3⟩, h4⟩ := driveL_inv (stI S N) picks m (ks.map startK) (QK S N m ks) (phi S N) (fun ws now j hI hj hd => QK_step hS1 hN h hs hI hj hd) 100000 (-1) m (ks.map startK) (Nat.le_refl _) (QK_begin hS1 ks) (by omega)
  refine ⟨l', ?_, h2, fun i hi => ?_⟩
  · unfold driveT
    rw [if_neg (by rw [List.length_map]; omega), h1]
  · have hi' : i < l'.length := by omega
    have hq := h3 i hi'
    have hd := h4 (l'.getD i wk0) (by rw [getD_at l' i hi']; exact List.getElem_mem hi')
    generalize l'.getD i wk0 = w at *
    generalize ks.getD i k0 = k at *
    cases hq with
    | look r r6 r7 o h1 h2 h3 => simp at hd
    | cmp r n j o h1 h2 h3 h4 h5 h6 => simp at hd
    | head r r6 r7 o h1 h2 h3 h4 => simp at hd
    | found pc r4 r5 r6 r7 p n h => exact ⟨fun p' n' h' => by have := (h.same h').2; subst this; rfl, fun hno => absurd h (hno p n)⟩
    | none pc r4 r5 r6 r7 p h1 h2 h3 => exact ⟨fun p' n' h' => (h'.not_zero h2 h3).elim, fun _ => rfl⟩
/-- where a slot is empty each search ends -/
theorem Tab.search (hS1 : 1 ≤ S) (h : Tab S N m F C (fun _ => 0)) (hz : nzS S m < S) (k : Kid) : (∃ p n, At S N m k p n) ∨ ∃ p, p < S ∧ m.getD (hS S k p) 0 = 0 ∧ ∀ q, q < p → Mis S N m k q := by
  have key : ∀ r, r ≤ S → (∀ q, q < r → Mis S N m k q) ∨ (∃ p n, At S N m k p n) ∨ ∃ p, p < S ∧ m.getD (hS S k p) 0 = 0 ∧ ∀ q, q < p → Mis S N m k q := by
    intro r
    induction r with
    | zero => exact fun _ => .inl fun q hq => by omega
    | succ r ih =>
      intro hr
      rcases ih (by omega) with hm | hm
      · obtain ⟨hlt, _⟩ := hS_lt S hS1 k r
        by_cases h0 : m.getD (hS S k r) 0 = 0
        · exact .inr (.inr ⟨r, by omega, h0, hm⟩)
        · obtain ⟨n, hn, e, _⟩ := h.slots _ hlt h0
          by_cases hk : kidsAt S m n = k
          · exact .inr (.inl ⟨r, n, by omega, hn, e, hk, hm⟩)
          · exact .inl (mis_succ hm hn e hk)
      · exact .inr hm
  rcases key S (Nat.le_refl _) with hm | hm
  · exfalso
    have : nzS S m = S := by
      unfold nzS
      rw [sumR_eq _ (fun _ => 1) S fun i hi => ?_, sumR_one]
      obtain ⟨r, hr, rfl⟩ := hS_surj S hS1 k i hi
      obtain ⟨n, _, e, _⟩ := hm r hr
      rw [if_neg (by omega)]
    omega
  · exact hm
theorem sumR_swap (g : Nat → Nat → Nat) (S : Nat) : ∀ n, sumR (fun i => sumR (g i) S) n = sumR (fun s => sumR (fun i => g i s) n) S
  | 0 => (sumR_zero S).symm.trans (sumR_eq (fun _ => 0) _ S fun _ _ => rfl)
  | n + 1 => by
    rw [sumR_succ, sumR_swap g S n, ← sumR_add]
    exact sumR_eq _ _ S fun s _ => (sumR_succ _ n).symm
/-- is a worker's wish the first of its kind? -/
def firstB (ks : List Kid) (i : Nat) : Bool := (List.range i).all fun j => decide (ks.getD j k0 ≠ ks.getD i k0)
theorem firstB_iff (ks : List Kid) (i : Nat) : firstB ks i = true ↔ ∀ j, j < i → ks.getD j k0 ≠ ks.getD i k0 := by
  unfold firstB
  rw [List.all_eq_true]
  exact ⟨fun h j hj => of_decide_eq_true (h j (List.mem_range.2 hj)), fun h j hj => decide_eq_true (h j (List.mem_range.1 hj))⟩
def manyN (ks : List Kid) (n : Nat) : Nat := sumR (fun i => if firstB ks i = true then 1 else 0) n
theorem first_of (ks : List Kid) : ∀ i, i < ks.length → ∃ j, j ≤ i ∧ firstB ks j = true ∧ ks.getD j k0 = ks.getD i k0 := by
  intro i
  induction i using Nat.strongRecOn with
  | ind i ih =>
    intro hi
    by_cases h : firstB ks i = true
    · exact ⟨i, Nat.le_refl _, h, rfl⟩
    · have : ∃ j, j < i ∧ ks.getD j k0 = ks.getD i k0 := Decidable.byContradiction fun hn => h ((firstB_iff ks i).2 fun j hj e => hn ⟨j, hj, e⟩)
      obtain ⟨j, hj, e⟩ := this
      obtain ⟨j', h1, h2, h3⟩ := ih j hj (by omega)
      exact ⟨j', by omega, h2, h3.trans e⟩
/-- as many nodes as unlike wishes -/
theorem many_nz (h : Tab S N m F C (fun _ => 0)) (hS1 : 1 ≤ S) (hat : ∀ i, i < ks.length → ∃ p n, At S N m (ks.getD i k0) p n) (horg : ∀ i n : Nat, i < S → m.getD i 0 = (n : Int) + 1 → kidsAt S m n ∈ ks) : nzS S m = manyN ks ks.length := by
  let P : Nat → Nat → Nat := fun i s => if firstB ks i = true ∧ m.getD s 0 ≠ 0 ∧ kidsAt S m (m.getD s 0 - 1).toNat = ks.getD i k0 then 1 else 0
  have h1 : ∀ i, i < ks.length → sumR (P i) S = if firstB ks i = true then 1 else 0 := fun i hi => by
    by_cases hf : firstB ks i = true
    · rw [if_pos hf]
      obtain ⟨p, n, ha⟩ := hat i hi
      obtain ⟨hlt, _⟩ := hS_lt S hS1 (ks.getD i k0) p
      rw [sumR_eq (P i) (fun s => if s = hS S (ks.getD i k0) p then 1 else 0) S fun s hs => ?_, sumR_at, if_pos hlt]
      show (if _ then 1 else 0) = _
      by_cases he : s = hS S (ks.getD i k0) p
      · subst he
        rw [if_pos rfl, if_pos ⟨hf, by rw [ha.at_]; omega, by rw [ha.at_, show ((n : Int) + 1 - 1).toNat = n by omega]; exact ha.kids⟩]
      · rw [if_neg he, if_neg]
        rintro ⟨_, hne, hk⟩
        obtain ⟨n', hn', e', p', h1, h2⟩ := h.slots s hs hne
        rw [e', show ((n' : Int) + 1 - 1).toNat = n' by omega] at hk
        rw [hk] at h1 h2
        exact he (by rw [← h2, (h1.same ha).1])
    · rw [if_neg hf]
      exact (sumR_eq (P i) (fun _ => 0) S fun s _ => by show (if _ then 1 else 0) = _; rw [if_neg (fun h => hf h.1)]).trans (sumR_zero S)
  have h2 : ∀ s, s < S → sumR (fun i => P i s) ks.length = if m.getD s 0 = 0 then 0 else 1 := fun s hs => by
    by_cases h0 : m.getD s 0 = 0
    · rw [if_pos h0]
      exact (sumR_eq _ (fun _ => 0) _ fun i _ => by show (if _ then 1 else 0) = _; rw [if_neg (fun h => h.2.1 h0)]).trans (sumR_zero _)
    · rw [if_neg h0]
      obtain ⟨n, hn, e, _⟩ := h.slots s hs h0
      have hm := horg s n hs e
      obtain ⟨i, hi, he⟩ := List.getElem_of_mem hm
      obtain ⟨j, hj, hf, hje⟩ := first_of ks i hi
      rw [getD_at ks i hi k0, he] at hje
      rw [sumR_eq _ (fun i => if i = j then 1 else 0) _ fun i' hi' => ?_, sumR_at, if_pos (by omega)]
      show (if _ then 1 else 0) = _
      rw [e, show ((n : Int) + 1 - 1).toNat = n by omega]
      by_cases hij : i' = j
      · subst hij
        rw [if_pos rfl, if_pos ⟨hf, by omega, hje.symm⟩]
      · rw [if_neg hij, if_neg]
        rintro ⟨hf', _, hk'⟩
        rcases Nat.lt_or_gt_of_ne hij with hl | hl
        · exact (firstB_iff ks j).1 hf i' hl (by rw [← hk', hje])
        · exact (firstB_iff ks i').1 hf' j hl (by rw [← hk', hje])
  have h3 := sumR_swap P S ks.length
  unfold nzS manyN
  rw [← sumR_eq _ _ _ h1, h3, sumR_eq _ _ _ h2]
end
end Go.Proofs.Ytphjglbbhanmpaa.Ab
