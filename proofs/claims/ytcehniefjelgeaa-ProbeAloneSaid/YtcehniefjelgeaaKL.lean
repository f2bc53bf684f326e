/- A table, and what is in it. -/
import Derived.Test.YtcehniefjelgeaaKK
namespace Go.Proofs.Ytcehniefjelgeaa.Ab
open Go Go.RowKit
def hdF : List Nat → Int
  | [] => 0
  | x :: _ => (x : Int) + 1
def ChainA (b : Nat) (ws : List Int) : List Nat → Prop
  | [] => True
  | x :: F => ws.getD (b + (x + 1)) 0 = hdF F ∧ ChainA b ws F
theorem ChainA_same {b : Nat} {ws ws' : List Int} : ∀ F : List Nat, (∀ x ∈ F, ws'.getD (b + (x + 1)) 0 = ws.getD (b + (x + 1)) 0) → ChainA b ws F → ChainA b ws' F
  | [], _, _ => True.intro
  | x :: F, h, hc => ⟨by rw [h x (List.mem_cons_self ..)]; exact hc.1, ChainA_same F (fun y hy => h y (List.mem_cons_of_mem _ hy)) hc.2⟩
def valsN (had : List (Kid × Nat)) : List Int := had.map fun e => (e.2 : Int)
structure WF (S N : Nat) (m : List Int) (F : List Nat) (C : Nat) (had : List (Kid × Nat)) : Prop where
  mem : Mem S N m
  head : m.getD (S + 4 * N) 0 = (C : Int) * 1048576 + hdF F
  chain : ChainA (S + 4 * N) m F
  perm : ∀ a, F.count a + (had.map Prod.snd).count a = if a < N then 1 else 0
  nodes : (nodesL S m).Perm (valsN had)
  kids : ∀ e ∈ had, kidsAt S m e.2 = e.1
  find : ∀ e ∈ had, ∃ r, r < S ∧ m.getD (hS S e.1 r) 0 = (e.2 : Int) + 1 ∧ ∀ r', r' < r → m.getD (hS S e.1 r') 0 ≠ 0
  keys : (had.map Prod.fst).Nodup
theorem hdF_le {F : List Nat} {n : Nat} (h : ∀ x ∈ F, x < n) : ∃ m : Nat, hdF F = m ∧ m ≤ n := by
  cases F with
  | nil => exact ⟨0, rfl, by omega⟩
  | cons x F => exact ⟨x + 1, rfl, h x (List.mem_cons_self ..)⟩
section
variable {S N C : Nat} {m : List Int} {F : List Nat} {had : List (Kid × Nat)} {k : Kid}
theorem WF.lt (h : WF S N m F C had) : (∀ x ∈ F, x < N) ∧ ∀ e ∈ had, e.2 < N := by
  refine ⟨fun x hx => ?_, fun e he => ?_⟩
  · have h1 := h.perm x
    have h2 := List.count_pos_iff.2 hx
    apply Decidable.byContradiction
    intro hn
    rw [if_neg hn] at h1; omega
  · have h1 := h.perm e.2
    have h2 : 0 < (had.map Prod.snd).count e.2 := List.count_pos_iff.2 (List.mem_map.2 ⟨e, he, rfl⟩)
    apply Decidable.byContradiction
    intro hn
    rw [if_neg hn] at h1; omega
theorem WF.size (h : WF S N m F C had) : F.length + had.length = N := by
  have hp : (F ++ had.map Prod.snd).Perm (List.range N) := by
    rw [List.perm_iff_count]
    intro a
    rw [List.count_append, h.perm a]
    have : ∀ q, (List.range q).count a = if a < q then 1 else 0 := by
      intro q
      induction q with
      | zero => simp
      | succ q ih =>
        rw [List.range_succ, List.count_append, ih, List.count_cons, List.count_nil]
        by_cases h1 : a < q
        · rw [if_pos h1, if_neg (by simp; omega), if_pos (by omega)]
        · by_cases h2 : q = a
          · rw [if_neg h1, if_pos (by simpa using h2), if_pos (by omega)]
          · rw [if_neg h1, if_neg (by simpa using h2), if_neg (by omega)]
    rw [this N]
  have := hp.length_eq
  simpa using this
theorem WF.count (h : WF S N m F C had) : (nodesL S m).length = had.length := by
  have := h.nodes.length_eq
  rw [this]; unfold valsN; simp
/-- who is at a slot -/
theorem mem_nodes (S : Nat) (m : List Int) : ∀ q : Nat, q ≤ S → S ≤ m.length → ∀ i, i < q → 0 < m.getD i 0 → m.getD i 0 - 1 ∈ nodesL q m
  | 0, _, _, i, hi, _ => by omega
  | q + 1, hq, hl, i, hi, h0 => by
    rw [nodesL_succ q m (by omega)]
    by_cases h : i = q
    · subst h; rw [if_pos h0]; simp
    · exact List.mem_append_left _ (mem_nodes S m q (by omega) hl i (by omega) h0)
theorem WF.at (h : WF S N m F C had) {i : Nat} (hi : i < S) (h0 : m.getD i 0 ≠ 0) : ∃ e ∈ had, m.getD i 0 = (e.2 : Int) + 1 := by
  have hs := h.mem.slots i hi
  have hm := mem_nodes S m S (Nat.le_refl _) (by have := h.mem.len; omega) i hi (by omega)
  have := (h.nodes.mem_iff).1 hm
  unfold valsN at this
  obtain ⟨e, he, h1⟩ := List.mem_map.1 this
  exact ⟨e, he, by omega⟩
theorem WF.same (h : WF S N m F C had) {e e' : Kid × Nat} (he : e ∈ had) (he' : e' ∈ had) (hk : e.1 = e'.1) : e = e' := by
  have h1 := h.keys
  obtain ⟨i, hi, rfl⟩ := List.getElem_of_mem he
  obtain ⟨j, hj, rfl⟩ := List.getElem_of_mem he'
  have : (had.map Prod.fst)[i]'(by simpa using hi) = (had.map Prod.fst)[j]'(by simpa using hj) := by simpa using hk
  have := (List.getElem_inj h1).1 this
  subst this; rfl
theorem hS_all (hS1 : 1 ≤ S) (k : Kid) (s : Nat) (hs : s < S) : ∃ r, r < S ∧ hS S k r = s := by
  have h1 := Int.emod_nonneg ((s : Int) - kh k) (b := (S : Int)) (by omega)
  have h2 := Int.emod_lt_of_pos ((s : Int) - kh k) (b := (S : Int)) (by omega)
  refine ⟨(((s : Int) - kh k) % S).toNat, by omega, ?_⟩
  unfold hS
  have e : ((((s : Int) - kh k) % S).toNat : Int) = ((s : Int) - kh k) % S := by omega
  rw [e, Int.add_emod, Int.emod_emod, ← Int.add_emod, show kh k + ((s : Int) - kh k) = s by omega, Int.emod_eq_of_lt (by omega) (by omega)]
  omega
theorem nodes_full (hl : S ≤ m.length) : ∀ q : Nat, q ≤ S → (∀ i, i < q → 0 < m.getD i 0) → (nodesL q m).length = q
  | 0, _, _ => by unfold nodesL; simp
  | q + 1, hq, h => by
    rw [nodesL_succ q m (by omega), if_pos (h q (by omega)), List.length_append, nodes_full hl q (by omega) fun i hi => h i (by omega)]; rfl
theorem nodes_put {m' : List Int} {s x : Nat} (hl : S ≤ m.length) (hl' : S ≤ m'.length) (h0 : m.getD s 0 = 0) (h1 : ∀ i, i < S → m'.getD i 0 = if i = s then ((x + 1 : Nat) : Int) else m.getD i 0) :
    ∀ q : Nat, q ≤ S → (q ≤ s → nodesL q m' = nodesL q m) ∧ (s < q → (nodesL q m').Perm ((x : Int) :: nodesL q m))
  | 0, _ => ⟨fun _ => rfl, fun h => by omega⟩
  | q + 1, hq => by
    obtain ⟨i1, i2⟩ := nodes_put hl hl' h0 h1 q (by omega)
    rw [nodesL_succ q m' (by omega), nodesL_succ q m (by omega), h1 q (by omega)]
    refine ⟨fun h => ?_, fun h => ?_⟩
    · rw [i1 (by omega), if_neg (by omega : ¬ q = s)]
    · by_cases hqs : q = s
      · subst hqs
        rw [i1 (Nat.le_refl _), if_pos rfl, h0, if_pos (by omega), if_neg (by omega), List.append_nil, show ((x + 1 : Nat) : Int) - 1 = x by omega]
        exact List.perm_append_comm
      · rw [if_neg hqs]
        exact (i2 (by omega)).append_right _
theorem WF.put {x : Nat} (h : WF S N m (x :: F) C had) (hk : k ∉ had.map Prod.fst) {r : Nat} (hr : r < S) (hmis : ∀ r', r' < r → m.getD (hS S k r') 0 ≠ 0) (h0 : m.getD (hS S k r) 0 = 0) :
    WF S N (putM S N m k (hS S k r) x (((C : Int) + 1) * 1048576 + hdF F)) F (C + 1) (had ++ [(k, x)]) := by
  obtain ⟨l1, l2⟩ := h.lt
  have hx : x < N := l1 x (List.mem_cons_self ..)
  obtain ⟨s1, s2⟩ := hS_lt S h.mem.S1.1 k r
  have hat := putM_at (k := k) h.mem s1 hx (((C : Int) + 1) * 1048576 + hdF F)
  have hln := putM_len (S := S) (N := N) (m := m) (k := k) (hS S k r) x (((C : Int) + 1) * 1048576 + hdF F)
  generalize putM S N m k (hS S k r) x (((C : Int) + 1) * 1048576 + hdF F) = m' at *
  have hS1 := h.mem.S1
  have hlen := h.mem.len
  have hxhad : ∀ e ∈ had, e.2 ≠ x := fun e he hex => by
    have h1 := h.perm x
    rw [List.count_cons_self] at h1
    have h2 : 0 < (had.map Prod.snd).count x := List.count_pos_iff.2 (List.mem_map.2 ⟨e, he, hex⟩)
    split at h1 <;> omega
  have hslot : ∀ i, i < S → m'.getD i 0 = if i = hS S k r then ((x + 1 : Nat) : Int) else m.getD i 0 := fun i hi => by
    rw [hat i]
    by_cases he : i = hS S k r
    · rw [if_pos he, if_pos he]
    · rw [if_neg he, if_neg he, if_neg (by omega), if_neg (by omega)]
  have hkx : kidsAt S m' x = k := at_kids x fun j hj => by
    rw [hat, if_neg (by omega), if_pos (by omega), show S + 4 * x + j - (S + 4 * x) = j by omega]
  have hko : ∀ e ∈ had, kidsAt S m' e.2 = e.1 := fun e he => by
    have hne := hxhad e he
    have hlt := l2 e he
    have h2 := kids_at e.2 (h.kids e he)
    exact at_kids e.2 fun j hj => by
      rw [hat, if_neg (by omega), if_neg (by omega), if_neg (by omega)]
      exact h2 j hj
  refine ⟨⟨hS1, h.mem.N1, by rw [hln]; exact hlen, fun i hi => ?_⟩, ?_, ?_, fun a => ?_, ?_, fun e he => ?_, fun e he => ?_, ?_⟩
  · rw [hslot i hi]
    have := h.mem.slots i hi
    split <;> omega
  · rw [hat, if_neg (by omega), if_neg (by omega), if_pos rfl]; simp
  · refine ChainA_same F (fun y hy => ?_) h.chain.2
    have := l1 y (List.mem_cons_of_mem _ hy)
    rw [hat, if_neg (by omega), if_neg (by omega), if_neg (by omega)]
  · have h1 := h.perm a
    rw [List.count_cons] at h1
    rw [List.map_append, List.count_append]
    show F.count a + ((had.map Prod.snd).count a + [x].count a) = _
    rw [List.count_cons, List.count_nil]
    omega
  · have hp := (nodes_put (S := S) (m' := m') (s := hS S k r) (x := x) (by omega) (by omega) h0 hslot S (Nat.le_refl _)).2 s1
    unfold valsN
    rw [List.map_append]
    exact hp.trans ((List.Perm.cons _ h.nodes).trans (List.perm_append_comm (l₁ := [(x : Int)])))
  · rcases List.mem_append.1 he with he | he
    · exact hko e he
    · rw [List.mem_singleton] at he; subst he; exact hkx
  · rcases List.mem_append.1 he with he | he
    · obtain ⟨q, q1, q2, q3⟩ := h.find e he
      refine ⟨q, q1, ?_, fun r' hr' => ?_⟩
      · have := (hS_lt S hS1.1 e.1 q).1
        rw [hslot _ this, if_neg (fun e' => by rw [e', h0] at q2; omega)]
        exact q2
      · have := (hS_lt S hS1.1 e.1 r').1
        rw [hslot _ this]
        have := q3 r' hr'
        split <;> omega
    · rw [List.mem_singleton] at he
      subst he
      refine ⟨r, hr, by rw [hslot _ s1, if_pos rfl]; show ((x + 1 : Nat) : Int) = (x : Int) + 1; omega, fun r' hr' => ?_⟩
      have := (hS_lt S hS1.1 k r').1
      show m'.getD (hS S k r') 0 ≠ 0
      rw [hslot _ this]
      have := hmis r' hr'
      split <;> omega
  · rw [List.map_append]
    refine List.nodup_append.2 ⟨h.keys, by simp, fun a ha b hb => ?_⟩
    rw [List.map_cons, List.map_nil, List.mem_singleton] at hb
    subst hb
    intro e; subst e; exact hk ha
def KB (k : Kid) : Prop := ∀ j, j < 4 → 0 ≤ kc k j ∧ kc k j ≤ 1152921504606846975
/-- what one worker alone comes to -/
theorem intern_run (h : WF S N m F C had) (hC : C ≤ 1000) (hk : KB k) : ∃ t : Nat, t ≤ 5 * S + 9 ∧ ∃ m' w', Runs S N t m (sW k 0 0 0 0 0) m' w' ∧ w'.done = true ∧
    ((∃ v, (k, v) ∈ had ∧ w'.out = v ∧ m' = m ∧ t ≤ 5 * S) ∨ (k ∉ had.map Prod.fst ∧ w'.out = -1 ∧ m' = m ∧ min S N ≤ had.length) ∨
     (k ∉ had.map Prod.fst ∧ ∃ v F', w'.out = (v : Nat) ∧ v < N ∧ F = v :: F' ∧ WF S N m' F' (C + 1) (had ++ [(k, v)]))) := by
  have hm := h.mem
  have hS1 := hm.S1
  obtain ⟨l1, l2⟩ := h.lt
  by_cases hin : k ∈ had.map Prod.fst
  · obtain ⟨⟨k', v⟩, he, rfl⟩ := List.mem_map.1 hin
    obtain ⟨r, r1, r2, r3⟩ := h.find _ he
    have hmis : ∀ r', r' < r → Mis S N m k' r' ∨ ∃ n : Nat, n < N ∧ m.getD (hS S k' r') 0 = (n : Int) + 1 ∧ kidsAt S m n = k' := fun r' hr' => by
      obtain ⟨e, e1, e2⟩ := h.at (hS_lt S hS1.1 k' r').1 (r3 r' hr')
      by_cases hke : kidsAt S m e.2 = k'
      · exact .inr ⟨e.2, l2 e e1, e2, hke⟩
      · exact .inl ⟨e.2, l2 e e1, e2, hke⟩
    -- the first slot with such kids
    have hex : ∃ q n : Nat, q < S ∧ (∀ r', r' < q → Mis S N m k' r') ∧ n < N ∧ m.getD (hS S k' q) 0 = (n : Int) + 1 ∧ kidsAt S m n = k' := by
      have : ∀ q : Nat, q ≤ r → (∃ q' n : Nat, q' < q ∧ (∀ r', r' < q' → Mis S N m k' r') ∧ n < N ∧ m.getD (hS S k' q') 0 = (n : Int) + 1 ∧ kidsAt S m n = k') ∨ ∀ r', r' < q → Mis S N m k' r' := by
        intro q
        induction q with
        | zero => exact fun _ => .inr fun r' h => by omega
        | succ q ih =>
          intro hq
          rcases ih (by omega) with ⟨q', n, a1, a2⟩ | ha
          · exact .inl ⟨q', n, by omega, a2⟩
          · rcases hmis q (by omega) with hb | ⟨n, b1, b2, b3⟩
            · exact .inr fun r' hr' => by
                by_cases e : r' = q
                · subst e; exact hb
                · exact ha r' (by omega)
            · exact .inl ⟨q, n, by omega, ha, b1, b2, b3⟩
      rcases this r (Nat.le_refl _) with ⟨q', n, a1, a2⟩ | ha
      · exact ⟨q', n, by omega, a2⟩
      · exact ⟨r, v, r1, ha, l2 _ he, r2, h.kids _ he⟩
    obtain ⟨q, n, q1, q2, q3, q4, q5⟩ := hex
    obtain ⟨t, t1, w', t2, t3, t4⟩ := run_found hm q1 q2 q3 q4 q5
    obtain ⟨e, e1, e2⟩ := h.at (hS_lt S hS1.1 k' q).1 (by omega)
    have hen : e.2 = n := by omega
    have hek : e.1 = k' := by rw [← h.kids e e1, hen, q5]
    have := h.same e1 he hek
    subst this
    exact ⟨t, by omega, m, w', t2, t3, .inl ⟨v, he, by rw [t4]; omega, rfl, t1⟩⟩
  · have hmis : ∀ r', m.getD (hS S k r') 0 ≠ 0 → Mis S N m k r' := fun r' hr' => by
      obtain ⟨e, e1, e2⟩ := h.at (hS_lt S hS1.1 k r').1 hr'
      exact ⟨e.2, l2 e e1, e2, fun hke => hin (List.mem_map.2 ⟨e, e1, by rw [← h.kids e e1, hke]⟩)⟩
    have hex : (∃ q, q < S ∧ m.getD (hS S k q) 0 = 0 ∧ ∀ r', r' < q → m.getD (hS S k r') 0 ≠ 0) ∨ ∀ r', r' < S → m.getD (hS S k r') 0 ≠ 0 := by
      have : ∀ q : Nat, q ≤ S → (∃ q', q' < q ∧ m.getD (hS S k q') 0 = 0 ∧ ∀ r', r' < q' → m.getD (hS S k r') 0 ≠ 0) ∨ ∀ r', r' < q → m.getD (hS S k r') 0 ≠ 0 := by
        intro q
        induction q with
        | zero => exact fun _ => .inr fun r' h => by omega
        | succ q ih =>
          intro hq
          rcases ih (by omega) with ⟨q', a1, a2⟩ | ha
          · exact .inl ⟨q', by omega, a2⟩
          · by_cases hb : m.getD (hS S k q) 0 = 0
            · exact .inl ⟨q, by omega, hb, ha⟩
            · exact .inr fun r' hr' => by
                by_cases e : r' = q
                · subst e; exact hb
                · exact ha r' (by omega)
      exact this S (Nat.le_refl _)
    rcases hex with ⟨q, q1, q2, q3⟩ | hall
    · cases hF : F with
      | nil =>
        subst hF
        have hh : Hn (m.getD (S + 4 * N) 0) = 0 := by
          rw [h.head]
          exact hn_at C 0 (by omega)
        obtain ⟨t, t1, w', t2, t3, t4⟩ := run_none (k := k) hm q1 (fun r' h' => hmis r' (q3 r' h')) q2 hh
        have hsz := h.size
        simp only [List.length_nil] at hsz
        exact ⟨t, t1, m, w', t2, t3, .inr (.inl ⟨hin, t4, rfl, by omega⟩)⟩
      | cons x F' =>
        subst hF
        have hx := l1 x (List.mem_cons_self ..)
        obtain ⟨l, hl, hlN⟩ := hdF_le (F := F') (n := N) fun y hy => l1 y (List.mem_cons_of_mem _ hy)
        have hlk : m.getD (S + 4 * N + (x + 1)) 0 = l := by rw [← hl]; exact h.chain.1
        obtain ⟨t, t1, w', t2, t3, t4⟩ := run_put (k := k) hm q1 (fun r' h' => hmis r' (q3 r' h')) q2 hC h.head hx hlk hlN hk
        have hw := h.put hin q1 q3 q2
        rw [hl] at hw
        exact ⟨t, by omega, _, w', t2, t3, .inr (.inr ⟨hin, x, F', t4, hx, rfl, hw⟩)⟩
    · obtain ⟨t, t1, w', t2, t3, t4⟩ := run_full (k := k) hm fun r' h' => hmis r' (hall r' h')
      have hfull : (nodesL S m).length = S := nodes_full (by have := hm.len; omega) S (Nat.le_refl _) fun i hi => by
        obtain ⟨r, r1, rfl⟩ := hS_all hS1.1 k i hi
        have := hm.slots _ hi
        have := hall r r1
        omega
      have hc := h.count
      exact ⟨t, by omega, m, w', t2, t3, .inr (.inl ⟨hin, t4, rfl, by omega⟩)⟩
end
end Go.Proofs.Ytcehniefjelgeaa.Ab
