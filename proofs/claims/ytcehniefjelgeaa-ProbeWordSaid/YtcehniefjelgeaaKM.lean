/- A table, and what is in it. -/
import Derived.Test.YtcehniefjelgeaaKK
namespace Go.Proofs.Ytcehniefjelgeaa.Ab
open Go Go.RowKit
def hdF : List Nat → Int
  | [] => 0
  | x :: _ => (x : Int) + 1
def ChainA (b : Nat) (ws : List Int) : List Nat → Prop
  | [] => True
  | x :: F => ws.getD (b + (x + 1)) 0 = hdF F ∧ ChainA b ws F
theorem ChainA_same {b : Nat} {ws ws' : List Int} : ∀ F : List Nat, (∀ x ∈ F, ws'.getD (b + (x + 1)) 0 = ws.getD (b + (x + 1)) 0) → ChainA b ws F → ChainA b ws' F
  | [], _, _ => True.intro
  | x :: F, h, hc => ⟨by rw [h x (List.mem_cons_self ..)]; exact hc.1, ChainA_same F (fun y hy => h y (List.mem_cons_of_mem _ hy)) hc.2⟩
def valsN (had : List (Kid × Nat)) : List Int := had.map fun e => (e.2 : Int)
structure WF (S N : Nat) (m : List Int) (F : List Nat) (C : Nat) (had : List (Kid × Nat)) : Prop where
  mem : Mem S N m
  head : m.getD (S + 4 * N) 0 = (C : Int) * 1048576 + hdF F
  chain : ChainA (S + 4 * N) m F
  perm : ∀ a, F.count a + (had.map Prod.snd).count a = if a < N then 1 else 0
  nodes : (nodesL S m).Perm (valsN had)
  kids : ∀ e ∈ had, kidsAt S m e.2 = e.1
  find : ∀ e ∈ had, ∃ r, r < S ∧ m.getD (hS S e.1 r) 0 = (e.2 : Int) + 1 ∧ ∀ r', r' < r → m.getD (hS S e.1 r') 0 ≠ 0
  keys : (had.map Prod.fst).Nodup
theorem hdF_le {F : List Nat} {n : Nat} (h : ∀ x ∈ F, x < n) : ∃ m : Nat, hdF F = m ∧ m ≤ n := by
  cases F with
  | nil => exact ⟨0, rfl, by omega⟩
  | cons x F => exact ⟨x + 1, rfl, h x (List.mem_cons_self ..)⟩
section
variable {S N C : Nat} {m : List Int} {F : List Nat} {had : List (Kid × Nat)} {k : Kid}
theorem WF.lt (h : WF S N m F C had) : (∀ x ∈ F, x < N) ∧ ∀ e ∈ had, e.2 < N := by
  refine ⟨fun x hx => ?_, fun e he => ?_⟩
  · have h1 := h.perm x
    have h2 := List.count_pos_iff.2 hx
    apply Decidable.byContradiction
    intro hn
    rw [if_neg hn] at h1; omega
  · have h1 := h.perm e.2
    have h2 : 0 < (had.map Prod.snd).count e.2 := List.count_pos_iff.2 (List.mem_map.2 ⟨e, he, rfl⟩)
    apply Decidable.byContradiction
    intro hn
    rw [if_neg hn] at h1; omega
theorem WF.size (h : WF S N m F C had) : F.length + had.length = N := by
  have hp : (F ++ had.map Prod.snd).Perm (List.range N) := by
    rw [List.perm_iff_count]
    intro a
    rw [List.count_append, h.perm a]
    have : ∀ q, (List.range q).count a = if a < q then 1 else 0 := by
      intro q
      induction q with
      | zero => simp
      | succ q ih =>
        rw [List.range_succ, List.count_append, ih, List.count_cons, List.count_nil]
        by_cases h1 : a < q
        · rw [if_pos h1, if_neg (by simp; omega), if_pos (by omega)]
        · by_cases h2 : q = a
          · rw [if_neg h1, if_pos (by simpa using h2), if_pos (by omega)]
          · rw [if_neg h1, if_neg (by simpa using h2), if_neg (by omega)]
    rw [this N]
  have := hp.length_eq
  simpa using this
theorem WF.count (h : WF S N m F C had) : (nodesL S m).length = had.length := by
  have := h.nodes.length_eq
  rw [this]; unfold valsN; simp
/-- who is at a slot -/
theorem mem_nodes (S : Nat) (m : List Int) : ∀ q : Nat, q ≤ S → S ≤ m.length → ∀ i, i < q → 0 < m.getD i 0 → m.getD i 0 - 1 ∈ nodesL q m
  | 0, _, _, i, hi, _ => by omega
  | q + 1, hq, hl, i, hi, h0 => by
    rw [nodesL_succ q m (by omega)]
    by_cases h : i = q
    · subst h; rw [if_pos h0]; simp
    · exact List.mem_append_left _ (mem_nodes S m q (by omega) hl i (by omega) h0)
theorem WF.at (h : WF S N m F C had) {i : Nat} (hi : i < S) (h0 : m.getD i 0 ≠ 0) : ∃ e ∈ had, m.getD i 0 = (e.2 : Int) + 1 := by
  have hs := h.mem.slots i hi
  have hm := mem_nodes S m S (Nat.le_refl _) (by have := h.mem.len; omega) i hi (by omega)
  have := (h.nodes.mem_iff).1 hm
  unfold valsN at this
  obtain ⟨e, he, h1⟩ := List.mem_map.1 this
  exact ⟨e, he, by omega⟩
theorem WF.same (h : WF S N m F C had) {e e' : Kid × Nat} (he : e ∈ had) (he' : e' ∈ had) (hk : e.1 = e'.1) : e = e' := by
  have h1 := h.keys
  obtain ⟨i, hi, rfl⟩ := List.getElem_of_mem he
  obtain ⟨j, hj, rfl⟩ := List.getElem_of_mem he'
  have : (had.map Prod.fst)[i]'(by simpa using hi) = (had.map Prod.fst)[j]'(by simpa using hj) := by simpa using hk
  have := (List.getElem_inj h1).1 this
  subst this; rfl
theorem hS_all (hS1 : 1 ≤ S) (k : Kid) (s : Nat) (hs : s < S) : ∃ r, r < S ∧ hS S k r = s := by
  have h1 := Int.emod_nonneg ((s : Int) - kh k) (b := (S : Int)) (by omega)
  have h2 := Int.emod_lt_of_pos ((s : Int) - kh k) (b := (S : Int)) (by omega)
  refine ⟨(((s : Int) - kh k) % S).toNat, by omega, ?_⟩
  unfold hS
  have e : ((((s : Int) - kh k) % S).toNat : Int) = ((s : Int) - kh k) % S := by omega
  rw [e, Int.add_emod, Int.emod_emod, ← Int.add_emod, show kh k + ((s : Int) - kh k) = s by omega, Int.emod_eq_of_lt (by omega) (by omega)]
  omega
theorem nodes_full (hl : S ≤ m.length) : ∀ q : Nat, q ≤ S → (∀ i, i < q → 0 < m.getD i 0) → (nodesL q m).length = q
  | 0, _, _ => by unfold nodesL; simp
  | q + 1, hq, h => by
    rw [nodesL_succ q m (by omega), if_pos (h q (by omega)), List.length_append, nodes_full hl q (by omega) fun i hi => h i (by omega)]; rfl
theorem nodes_put {m' : List Int} {s x : Nat} (hl : S ≤ m.length) (hl' : S ≤ m'.length) (h0 : m.getD s 0 = 0) (h1 : ∀ i, i < S → m'.getD i 0 = if i = s then ((x + 1 : Nat) : Int) else m.getD i 0) :
    ∀ q : Nat, q ≤ S → (q ≤ s → nodesL q m' = nodesL q m) ∧ (s < q → (nodesL q m').Perm ((x : Int) :: nodesL q m))
  | 0, _ => ⟨fun _ => rfl, fun h => by omega⟩
  | q + 1, hq => by
    obtain ⟨i1, i2⟩ := nodes_put hl hl' h0 h1 q (by omega)
    rw [nodesL_succ q m' (by omega), nodesL_succ q m (by omega), h1 q (by omega)]
    refine ⟨fun h => ?_, fun h => ?_⟩
    · rw [i1 (by omega), if_neg (by omega : ¬ q = s)]
    · by_cases hqs : q = s
      · subst hqs
        rw [i1 (Nat.le_refl _), if_pos rfl, h0, if_pos (by omega), if_neg (by omega), List.append_nil, show ((x + 1 : Nat) : Int) - 1 = x by omega]
        exact List.perm_append_comm
      · rw [if_neg hqs]
        exact (i2 (by omega)).append_right _
theorem WF.put {x : Nat} (h : WF S N m (x :: F) C had) (hk : k ∉ had.map Prod.fst) {r : Nat} (hr : r < S) (hmis : ∀ r', r' < r → m.getD (hS S k r') 0 ≠ 0) (h0 : m.getD (hS S k r) 0 = 0) :
    WF S N (putM S N m k (hS S k r) x (((C : Int) + 1) * 1048576 + hdF F)) F (C + 1) (had ++ [(k, x)]) := by
  obtain ⟨l1, l2⟩ := h.lt
  have hx : x < N := l1 x (List.mem_cons_self ..)
  obtain ⟨s1, s2⟩ := hS_lt S h.mem.S1.1 k r
  have hat := putM_at (k := k) h.mem s1 hx (((C : Int) + 1) * 1048576 + hdF F)
  have hln := putM_len (S := S) (N := N) (m := m) (k := k) (hS S k r) x (((C : Int) + 1) * 1048576 + hdF F)
  generalize putM S N m k (hS S k r) x (((C : Int) + 1) * 1048576 + hdF F) = m' at *
  have hS1 := h.mem.S1
  have hlen := h.mem.len
  have hxhad : ∀ e ∈ had, e.2 ≠ x := fun e he hex => by
    have h1 := h.perm x
    rw [List.count_cons_self] at h1
    have h2 : 0 < (had.map Prod.snd).count x := List.count_pos_iff.2 (List.mem_map.2 ⟨e, he, hex⟩)
    split at h1 <;> omega
  have hslot : ∀ i, i < S → m'.getD i 0 = if i = hS S k r then ((x + 1 : Nat) : Int) else m.getD i 0 := fun i hi => by
    rw [hat i]
    by_cases he : i = hS S k r
    · rw [if_pos he, if_pos he]
    · rw [if_neg he, if_neg he, if_neg (by omega), if_neg (by omega)]
  have hkx : kidsAt S m' x = k := at_kids x fun j hj => by
    rw [hat, if_neg (by omega), if_pos (by omega), show S + 4 * x + j - (S + 4 * x) = j by omega]
  have hko : ∀ e ∈ had, kidsAt S m' e.2 = e.1 := fun e he => by
    have hne := hxhad e he
    have hlt := l2 e he
    have h2 := kids_at e.2 (h.kids e he)
    exact at_kids e.2 fun j hj => by
      rw [hat, if_neg (by omega), if_neg (by omega), if_neg (by omega)]
      exact h2 j hj
  refine ⟨⟨hS1, h.mem.N1, by rw [hln]; exact hlen, fun i hi => ?_⟩, ?_, ?_, fun a => ?_, ?_, fun e he => ?_, fun e he => ?_, ?_⟩
  · rw [hslot i hi]
    have := h.mem.slots i hi
    split <;> omega
  · rw [hat, if_neg (by omega), if_neg (by omega), if_pos rfl]; simp
  · refine ChainA_same F (fun y hy => ?_) h.chain.2
    have := l1 y (List.mem_cons_of_mem _ hy)
    rw [hat, if_neg (by omega), if_neg (by omega), if_neg (by omega)]
  · have h1 := h.perm a
    rw [List.count_cons] at h1
    rw [List.map_append, List.count_append]
    show F.count a + ((had.map Prod.snd).count a + [x].count a) = _
    rw [List.count_cons, List.count_nil]
    omega
  · have hp := (nodes_put (S := S) (m' := m') (s := hS S k r) (x := x) (by omega) (by omega) h0 hslot S (Nat.le_refl _)).2 s1
    unfold valsN
    rw [List.map_append]
    exact hp.trans ((List.Perm.cons _ h.nodes).trans (List.perm_append_comm (l₁ := [(x : Int)])))
  · rcases List.mem_append.1 he with he | he
    · exact hko e he
    · rw [List.mem_singleton] at he; subst he; exact hkx
  · rcases List.mem_append.1 he with he | he
    · obtain ⟨q, q1, q2, q3⟩ := h.find e he
      refine ⟨q, q1, ?_, fun r' hr' => ?_⟩
      · have := (hS_lt S hS1.1 e.1 q).1
        rw [hslot _ this, if_neg (fun e' => by rw [e', h0] at q2; omega)]
        exact q2
      · have := (hS_lt S hS1.1 e.1 r').1
        rw [hslot _ this]
        have := q3 r' hr'
        split <;> omega
    · rw [List.mem_singleton] at he
      subst he
      refine ⟨r, hr, by rw [hslot _ s1, if_pos rfl]; show ((x + 1 : Nat) : Int) = (x : Int) + 1; omega, fun r' hr' => ?_⟩
      have := (hS_lt S hS1.1 k r').1
      show m'.getD (hS S k r') 0 ≠ 0
      rw [hslot _ this]
      have := hmis r' hr'
      split <;> omega
  · rw [List.map_append]
    refine List.nodup_append.2 ⟨h.keys, by simp, fun a ha b hb => ?_⟩
    rw [List.map_cons, List.map_nil, List.mem_singleton] at hb
    subst hb
    intro e; subst e; exact hk ha
def KB (k : Kid) : Prop := ∀ j, j < 4 → 0 ≤ kc k j ∧ kc k j ≤ 1152921504606846975
/-- what one worker alone comes to -/
theorem intern_run (h : WF S N m F C had) (hC : C ≤ 1000) (hk : KB k) : ∃ t : Nat, t ≤ 5 * S + 9 ∧ ∃ m' w', Runs S N t m (sW k 0 0 0 0 0) m' w' ∧ w'.done = true ∧
    ((∃ v, (k, v) ∈ had ∧ w'.out = v ∧ m' = m ∧ t ≤ 5 * S) ∨ (k ∉ had.map Prod.fst ∧ w'.out = -1 ∧ m' = m ∧ min S N ≤ had.length) ∨
     (k ∉ had.map Prod.fst ∧ ∃ v F', w'.out = (v : Nat) ∧ v < N ∧ F = v :: F' ∧ WF S N m' F' (C + 1) (had ++ [(k, v)]))) := by
  have hm := h.mem
  have hS1 := hm.S1
  obtain ⟨l1, l2⟩ := h.lt
  by_cases hin : k ∈ had.map Prod.fst
  · obtain ⟨⟨k', v⟩, he, rfl⟩ := List.mem_map.1 hin
    obtain ⟨r, r1, r2, r3⟩ := h.find _ he
    have hmis : ∀ r', r' < r → Mis S N m k' r' ∨ ∃ n : Nat, n < N ∧ m.getD (hS S k' r') 0 = (n : Int) + 1 ∧ kidsAt S m n = k' := fun r' hr' => by
      obtain ⟨e, e1, e2⟩ := h.at (hS_lt S hS1.1 k' r').1 (r3 r' hr')
      by_cases hke : kidsAt S m e.2 = k'
      · exact .inr ⟨e.2, l2 e e1, e2, hke⟩
      · exact .inl ⟨e.2, l2 e e1, e2, hke⟩
    -- the first slot with such kids
    have hex : ∃ q n : Nat, q < S ∧ (∀ r', r' < q → Mis S N m k' r') ∧ n < N ∧ m.getD (hS S k' q) 0 = (n : Int) + 1 ∧ kidsAt S m n = k' := by
      have : ∀ q : Nat, q ≤ r → (∃ q' n : Nat, q' < q ∧ (∀ r', r' < q' → Mis S N m k' r') ∧ n < N ∧ m.getD (hS S k' q') 0 = (n : Int) + 1 ∧ kidsAt S m n = k') ∨ ∀ r', r' < q → Mis S N m k' r' := by
        intro q
        induction q with
        | zero => exact fun _ => .inr fun r' h => by omega
        | succ q ih =>
          intro hq
          rcases ih (by omega) with ⟨q', n, a1, a2⟩ | ha
          · exact .inl ⟨q', n, by omega, a2⟩
          · rcases hmis q (by omega) with hb | ⟨n, b1, b2, b3⟩
            · exact .inr fun r' hr' => by
                by_cases e : r' = q
                · subst e; exact hb
                · exact ha r' (by omega)
            · exact .inl ⟨q, n, by omega, ha, b1, b2, b3⟩
      rcases this r (Nat.le_refl _) with ⟨q', n, a1, a2⟩ | ha
      · exact ⟨q', n, by omega, a2⟩
      · exact ⟨r, v, r1, ha, l2 _ he, r2, h.kids _ he⟩
    obtain ⟨q, n, q1, q2, q3, q4, q5⟩ := hex
    obtain ⟨t, t1, w', t2, t3, t4⟩ := run_found hm q1 q2 q3 q4 q5
    obtain ⟨e, e1, e2⟩ := h.at (hS_lt S hS1.1 k' q).1 (by omega)
    have hen : e.2 = n := by omega
    have hek : e.1 = k' := by rw [← h.kids e e1, hen, q5]
    have := h.same e1 he hek
    subst this
    exact ⟨t, by omega, m, w', t2, t3, .inl ⟨v, he, by rw [t4]; omega, rfl, t1⟩⟩
  · have hmis : ∀ r', m.getD (hS S k r') 0 ≠ 0 → Mis S N m k r' := fun r' hr' => by
      obtain ⟨e, e1, e2⟩ := h.at (hS_lt S hS1.1 k r').1 hr'
      exact ⟨e.2, l2 e e1, e2, fun hke => hin (List.mem_map.2 ⟨e, e1, by rw [← h.kids e e1, hke]⟩)⟩
    have hex : (∃ q, q < S ∧ m.getD (hS S k q) 0 = 0 ∧ ∀ r', r' < q → m.getD (hS S k r') 0 ≠ 0) ∨ ∀ r', r' < S → m.getD (hS S k r') 0 ≠ 0 := by
      have : ∀ q : Nat, q ≤ S → (∃ q', q' < q ∧ m.getD (hS S k q') 0 = 0 ∧ ∀ r', r' < q' → m.getD (hS S k r') 0 ≠ 0) ∨ ∀ r', r' < q → m.getD (hS S k r') 0 ≠ 0 := by
        intro q
        induction q with
        | zero => exact fun _ => .inr fun r' h => by omega
        | succ q ih =>
          intro hq
          rcases ih (by omega) with ⟨q', a1, a2⟩ | ha
          · exact .inl ⟨q', by omega, a2⟩
          · by_cases hb : m.getD (hS S k q) 0 = 0
            · exact .inl ⟨q, by omega, hb, ha⟩
            · exact .inr fun r' hr' => by
                by_cases e : r' = q
                · subst e; exact hb
                · exact ha r' (by omega)
      exact this S (Nat.le_refl _)
    rcases hex with ⟨q, q1, q2, q3⟩ | hall
    · cases hF : F with
      | nil =>
        subst hF
        have hh : Hn (m.getD (S + 4 * N) 0) = 0 := by
          rw [h.head]
          exact hn_at C 0 (by omega)
        obtain ⟨t, t1, w', t2, t3, t4⟩ := run_none (k := k) hm q1 (fun r' h' => hmis r' (q3 r' h')) q2 hh
        have hsz := h.size
        simp only [List.length_nil] at hsz
        exact ⟨t, t1, m, w', t2, t3, .inr (.inl ⟨hin, t4, rfl, by omega⟩)⟩
      | cons x F' =>
        subst hF
        have hx := l1 x (List.mem_cons_self ..)
        obtain ⟨l, hl, hlN⟩ := hdF_le (F := F') (n := N) fun y hy => l1 y (List.mem_cons_of_mem _ hy)
        have hlk : m.getD (S + 4 * N + (x + 1)) 0 = l := by rw [← hl]; exact h.chain.1
        obtain ⟨t, t1, w', t2, t3, t4⟩ := run_put (k := k) hm q1 (fun r' h' => hmis r' (q3 r' h')) q2 hC h.head hx hlk hlN hk
        have hw := h.put hin q1 q3 q2
        rw [hl] at hw
        exact ⟨t, by omega, _, w', t2, t3, .inr (.inr ⟨hin, x, F', t4, hx, rfl, hw⟩)⟩
    · obtain ⟨t, t1, w', t2, t3, t4⟩ := run_full (k := k) hm fun r' h' => hmis r' (hall r' h')
      have hfull : (nodesL S m).length = S := nodes_full (by have := hm.len; omega) S (Nat.le_refl _) fun i hi => by
        obtain ⟨r, r1, rfl⟩ := hS_all hS1.1 k i hi
        have := hm.slots _ hi
        have := hall r r1
        omega
      have hc := h.count
      exact ⟨t, by omega, m, w', t2, t3, .inr (.inl ⟨hin, t4, rfl, by omega⟩)⟩
end
end Go.Proofs.Ytcehniefjelgeaa.Ab
/- A new table; what is free; what is wrong. -/
namespace Go.Proofs.Ytcehniefjelgeaa.Ab
open Go Go.RowKit
def intsN (l : List Nat) : List Int := l.map fun k : Nat => (k : Int)
theorem intsN_len (l : List Nat) : (intsN l).length = l.length := by unfold intsN; simp
theorem freeGo_chain {ws : List Int} {b n : Nat} (hl : ws.length = b + (n + 1)) (hn : n < 1048576) : ∀ (F : List Nat) (f : Nat), F.length ≤ f → (∀ x ∈ F, x < n) → ChainA b ws F → freeGo ws b f (hdF F) = intsN F
  | [], f, _, _, _ => by
    cases f with
    | zero => rfl
    | succ f => rw [freeGo, if_neg (by show ¬ ((0 : Int) < 0 ∧ _); omega)]; rfl
  | x :: F, 0, h, _, _ => by simp at h
  | x :: F, f + 1, h, hx, hc => by
    have h1 := hx x (List.mem_cons_self ..)
    have e : hdF (x :: F) = (x : Int) + 1 := rfl
    have e2 : ((b : Int) + ((x : Int) + 1)).toNat = b + (x + 1) := by omega
    obtain ⟨m, hm, hmn⟩ := hdF_le (F := F) (n := n) fun y hy => hx y (List.mem_cons_of_mem _ hy)
    have e3 : Hn (hdF F) = hdF F := by
      have := hn_at 0 m (by omega)
      rw [hm]
      simpa using this
    rw [freeGo, e, if_pos (by omega), e2, hc.1, e3, freeGo_chain hl hn F f (by simpa using h) (fun y hy => hx y (List.mem_cons_of_mem _ hy)) hc.2]
    unfold intsN
    rw [List.map_cons, show (x : Int) + 1 - 1 = x by omega]
theorem free_list {S N C : Nat} {m : List Int} {F : List Nat} {had : List (Kid × Nat)} (h : WF S N m F C had) : freeL m (S + 4 * N) = intsN F := by
  have hl := h.size
  have hm := h.mem
  have hlen := hm.len
  have hN1 := hm.N1
  obtain ⟨l1, _⟩ := h.lt
  obtain ⟨q, hq, hqn⟩ := hdF_le l1
  unfold freeL
  rw [if_pos (by omega), h.head, hq, hn_at C q (by omega), ← hq]
  exact freeGo_chain hlen (by omega) F 1000 (by omega) l1 h.chain
theorem hdF_range (a d : Nat) : hdF (List.range' a d) = if d = 0 then 0 else (a : Int) + 1 := by
  cases d with
  | zero => rfl
  | succ d => rw [List.range'_succ]; rfl
theorem newL_lo (S N i : Nat) (h : i < S + 4 * N) : (newL S N).getD i 0 = 0 := by
  unfold newL
  rw [List.getD_eq_getElem?_getD, List.getElem?_append_left (by simpa using h), List.getElem?_replicate, if_pos h]; rfl
theorem newL_hi (S N i : Nat) : (newL S N).getD (S + 4 * N + i) 0 = (makeL N).getD i 0 := by
  unfold newL
  rw [List.getD_eq_getElem?_getD, List.getElem?_append_right (by simp), List.length_replicate, List.getD_eq_getElem?_getD, show S + 4 * N + i - (S + 4 * N) = i by omega]
theorem chain_new (S N : Nat) : ∀ d a, a + d = N → ChainA (S + 4 * N) (newL S N) (List.range' a d)
  | 0, _, _ => True.intro
  | d + 1, a, h => by
    rw [List.range'_succ]
    refine ⟨?_, chain_new S N d (a + 1) (by omega)⟩
    rw [hdF_range, newL_hi]
    by_cases hd : d = 0
    · rw [if_pos hd, show a + 1 = N by omega]; exact makeL_end N
    · rw [if_neg hd, makeL_at N (a + 1) (by omega)]
theorem nodes_new (S N : Nat) : ∀ q : Nat, q ≤ S → nodesL q (newL S N) = []
  | 0, _ => rfl
  | q + 1, h => by rw [nodesL_succ q _ (by rw [newL_len]; omega), nodes_new S N q (by omega), newL_lo S N q (by omega)]; rfl
theorem WF_new (S N : Nat) (hS : 1 ≤ S ∧ S ≤ 100) (hN : N ≤ 100) : WF S N (newL S N) (List.range N) 0 [] := by
  have he : List.range N = List.range' 0 N := List.range_eq_range'
  refine ⟨⟨hS, hN, newL_len S N, fun i hi => by rw [newL_lo S N i (by omega)]; omega⟩, ?_, by rw [he]; exact chain_new S N N 0 (by omega), fun a => ?_, by rw [nodes_new S N S (Nat.le_refl _)]; exact .refl _, fun e he => (by cases he), fun e he => (by cases he), by simp⟩
  · have := newL_hi S N 0
    rw [Nat.add_zero] at this
    rw [this, he, hdF_range]
    by_cases hn : N = 0
    · subst hn; rfl
    · rw [if_neg hn, makeL_at N 0 (by omega)]; omega
  · have h1 := List.nodup_range (n := N)
    by_cases h : a < N
    · rw [if_pos h]
      have h2 := List.nodup_iff_count.1 h1 a
      have h3 := List.count_pos_iff.2 (List.mem_range.2 h)
      simp; omega
    · rw [if_neg h, List.count_eq_zero.2 (by simpa using h)]; simp
theorem right_f : PS Try.prog 20 [.agg (tb 0 0)] (.b false) := by
  refine ps_in TYok Try.func20 (by kernel_rfl) Try.ntmps20 rfl rfl rfl (cl_b _) fun H => ?_
  refine aw_seq ?_
  refine aw_region ?_
  refine sq_newk TYok TYz false rfl rfl rfl True.intro fun H1 hb1 ho1 hl1 => ?_
  (repeat' (first | (refine sq_id ?_; first | refine sq_nil ?_ | refine sq_move rfl rfl rfl ?_ | refine sq_assign rfl rfl rfl ?_ | refine sq_skip rfl rfl ?_ | refine sq_t TYok TYz rfl rfl rfl True.intro so ?_ | refine sq_f TYok TYz rfl rfl rfl True.intro so ?_ | refine sq_pure TYok TYz false rfl rfl rfl sd ?_ | refine sq_pure TYok TYz true rfl rfl rfl sd ?_ | refine sq_load TYok rfl rfl rfl (by assumption) (by rfl) (by first | exact Nat.zero_lt_one | assumption | omega) (by rfl) ?_ | refine sq_lit TYok TYz rfl rfl rfl rfl rfl rfl rfl rfl ?_ | refine sq_ixa TYok rfl rfl rfl rfl rfl rfl rfl sd ?_ | refine sq_ixr TYok rfl rfl rfl rfl rfl rfl rfl sd ?_) | (refine rg_id ?_; first | refine rg_fin ?_ | refine rg_move rfl rfl rfl ?_ | refine rg_assign rfl rfl rfl ?_ | refine rg_skip rfl rfl ?_ | refine rg_t TYok TYz rfl rfl rfl True.intro so ?_ | refine rg_f TYok TYz rfl rfl rfl True.intro so ?_ | refine rg_pure TYok TYz false rfl rfl rfl sd ?_ | refine rg_pure TYok TYz true rfl rfl rfl sd ?_ | refine rg_load TYok rfl rfl rfl (by assumption) (by rfl) (by first | exact Nat.zero_lt_one | assumption | omega) (by rfl) ?_ | refine rg_lit TYok TYz rfl rfl rfl rfl rfl rfl rfl rfl ?_ | refine rg_ixa TYok rfl rfl rfl rfl rfl rfl rfl sd ?_ | refine rg_ixr TYok rfl rfl rfl rfl rfl rfl rfl sd ?_) | refine aw_rseq ?_ | refine aw_seq ?_ | refine aw_region ?_ | refine aw_skip ?_ | refine aw_true rfl ?_ | refine aw_false rfl ?_ | refine aw_d0seq rfl (by kernel_rfl) ?_ | refine aw_d0 rfl (by kernel_rfl) ?_ | refine aw_block ?_ | refine aw_exit ?_ | refine then_ret ?_ | refine then_exit ?_ | refine then_normal ?_ | refine blk_ret ?_ | refine blk_normal ?_ | refine blk_exit ?_ | refine blk_pass rfl ?_ | refine aw_dec rfl (fun _ => ?_) (fun _ => ?_) | refine aw_ret ?_))
  ((try refine aw_ret ?_); (repeat (first | refine then_ret ?_ | refine blk_ret ?_)); refine fin_t True.intro rfl rfl ?_)
  exact ⟨ho1.ext, rfl⟩
set_option maxHeartbeats 4000000 in
/-- words that are none -/
theorem step_bad (S N : Int) (hS : 1 ≤ S ∧ S ≤ 4000) (hN : 0 ≤ N ∧ N ≤ 1000) (w : Wk) (hw : w.pc = 0) : PS Try.prog 19 [.agg (tb S N), ints [], .agg (wk w)] (.tup [ints [], .agg (wk w), .i 1]) := by
  have hfit := fits_s S N [] hS hN (by simp)
  rw [decide_eq_false (by simp; omega)] at hfit
  have hcl := clone_s [] (by simp)
  obtain ⟨pc, job, r0, r1, r2, r3, r4, r5, r6, r7, done, out⟩ := w
  dsimp only at hw
  subst hw
  have hask : Asked Try.prog 3 (keysP.map fun x => .int .i64 x.1) (.int .i64 0) ((keysP.map Prod.fst).map fun m => ((0 : Int) == m)) := asked_int (q := .i64) (by kernel_rfl) (keysP.map Prod.fst) 0 rfl
  refine ps_in TYok Try.func19 (by kernel_rfl) Try.ntmps19 rfl rfl rfl (.tup _ fun x hx => ?_) fun H => ?_
  · simp only [List.mem_cons, List.not_mem_nil, or_false] at hx
    rcases hx with rfl | rfl | rfl
    · exact cl_ints _
    · exact .agg _ (cl_wk _)
    · exact .p _
  refine aw_seq ?_
  refine aw_region ?_
  refine sq_newk TYok TYz false rfl rfl rfl True.intro fun H1 hb1 ho1 hl1 => ?_
  refine sq_newk TYok TYz false rfl rfl rfl True.intro fun H2 hb2 ho2 hl2 => ?_
  have hb12 := ho2.get0 hb1
  (repeat' (first | (refine sq_id ?_; first | refine sq_nil ?_ | refine sq_move rfl rfl rfl ?_ | refine sq_assign rfl rfl rfl ?_ | refine sq_skip rfl rfl ?_ | refine sq_t TYok TYz rfl rfl rfl True.intro so ?_ | refine sq_f TYok TYz rfl rfl rfl True.intro so ?_ | refine sq_pure TYok TYz false rfl rfl rfl sd ?_ | refine sq_pure TYok TYz true rfl rfl rfl sd ?_ | refine sq_load TYok rfl rfl rfl (by assumption) (by rfl) (by first | exact Nat.zero_lt_one | assumption | omega) (by rfl) ?_ | refine sq_lit TYok TYz rfl rfl rfl rfl rfl rfl rfl rfl ?_ | refine sq_ixa TYok rfl rfl rfl rfl rfl rfl rfl sd ?_ | refine sq_ixr TYok rfl rfl rfl rfl rfl rfl rfl sd ?_) | (refine rg_id ?_; first | refine rg_fin ?_ | refine rg_move rfl rfl rfl ?_ | refine rg_assign rfl rfl rfl ?_ | refine rg_skip rfl rfl ?_ | refine rg_t TYok TYz rfl rfl rfl True.intro so ?_ | refine rg_f TYok TYz rfl rfl rfl True.intro so ?_ | refine rg_pure TYok TYz false rfl rfl rfl sd ?_ | refine rg_pure TYok TYz true rfl rfl rfl sd ?_ | refine rg_load TYok rfl rfl rfl (by assumption) (by rfl) (by first | exact Nat.zero_lt_one | assumption | omega) (by rfl) ?_ | refine rg_lit TYok TYz rfl rfl rfl rfl rfl rfl rfl rfl ?_ | refine rg_ixa TYok rfl rfl rfl rfl rfl rfl rfl sd ?_ | refine rg_ixr TYok rfl rfl rfl rfl rfl rfl rfl sd ?_) | refine aw_rseq ?_ | refine aw_seq ?_ | refine aw_region ?_ | refine aw_skip ?_ | refine aw_true rfl ?_ | refine aw_false rfl ?_ | refine aw_d0seq rfl (by kernel_rfl) ?_ | refine aw_d0 rfl (by kernel_rfl) ?_ | refine aw_block ?_ | refine aw_exit ?_ | refine then_ret ?_ | refine then_exit ?_ | refine then_normal ?_ | refine blk_ret ?_ | refine blk_normal ?_ | refine blk_exit ?_ | refine blk_pass rfl ?_))
  refine sq_newk TYok TYz false rfl rfl rfl True.intro fun H3 hb3 ho3 hl3 => ?_
  have hb13 := ho3.get0 hb12
  have hb23 := ho3.get0 hb2
  (repeat' (first | (refine sq_id ?_; first | refine sq_nil ?_ | refine sq_move rfl rfl rfl ?_ | refine sq_assign rfl rfl rfl ?_ | refine sq_skip rfl rfl ?_ | refine sq_t TYok TYz rfl rfl rfl True.intro so ?_ | refine sq_f TYok TYz rfl rfl rfl True.intro so ?_ | refine sq_pure TYok TYz false rfl rfl rfl sd ?_ | refine sq_pure TYok TYz true rfl rfl rfl sd ?_ | refine sq_load TYok rfl rfl rfl (by assumption) (by rfl) (by first | exact Nat.zero_lt_one | assumption | omega) (by rfl) ?_ | refine sq_lit TYok TYz rfl rfl rfl rfl rfl rfl rfl rfl ?_ | refine sq_ixa TYok rfl rfl rfl rfl rfl rfl rfl sd ?_ | refine sq_ixr TYok rfl rfl rfl rfl rfl rfl rfl sd ?_) | (refine rg_id ?_; first | refine rg_fin ?_ | refine rg_move rfl rfl rfl ?_ | refine rg_assign rfl rfl rfl ?_ | refine rg_skip rfl rfl ?_ | refine rg_t TYok TYz rfl rfl rfl True.intro so ?_ | refine rg_f TYok TYz rfl rfl rfl True.intro so ?_ | refine rg_pure TYok TYz false rfl rfl rfl sd ?_ | refine rg_pure TYok TYz true rfl rfl rfl sd ?_ | refine rg_load TYok rfl rfl rfl (by assumption) (by rfl) (by first | exact Nat.zero_lt_one | assumption | omega) (by rfl) ?_ | refine rg_lit TYok TYz rfl rfl rfl rfl rfl rfl rfl rfl ?_ | refine rg_ixa TYok rfl rfl rfl rfl rfl rfl rfl sd ?_ | refine rg_ixr TYok rfl rfl rfl rfl rfl rfl rfl sd ?_) | refine aw_rseq ?_ | refine aw_seq ?_ | refine aw_region ?_ | refine aw_skip ?_ | refine aw_true rfl ?_ | refine aw_false rfl ?_ | refine aw_d0seq rfl (by kernel_rfl) ?_ | refine aw_d0 rfl (by kernel_rfl) ?_ | refine aw_block ?_ | refine aw_exit ?_ | refine then_ret ?_ | refine then_exit ?_ | refine then_normal ?_ | refine blk_ret ?_ | refine blk_normal ?_ | refine blk_exit ?_ | refine blk_pass rfl ?_))
  refine sq_newk TYok TYz false rfl rfl rfl True.intro fun H4 hb4 ho4 hl4 => ?_
  have hb14 := ho4.get0 hb13
  have hb24 := ho4.get0 hb23
  have hb34 := ho4.get0 hb3
  have hn24 := nil_at hb24
  have hn34 := nil_at hb34
  refine sq_assign rfl rfl rfl ?_
  refine sq_nil ?_
  refine aw_seq ?_
  refine aw_mseq (m := 18) (p := 9) (es := keysP) (kt := 3) (et := 1) (qk := .i64) (by kernel_rfl) (by kernel_rfl) (by decide) (by decide) rfl (.cons (.cons (.cons (.cons (.cons (.cons (.cons (.cons (.cons (.cons (.nil _))))))))))) (by decide) (by decide) (by decide) (by decide) ?_
  (repeat' (first | (refine sq_id ?_; first | refine sq_nil ?_ | refine sq_move rfl rfl rfl ?_ | refine sq_assign rfl rfl rfl ?_ | refine sq_skip rfl rfl ?_ | refine sq_t TYok TYz rfl rfl rfl True.intro so ?_ | refine sq_f TYok TYz rfl rfl rfl True.intro so ?_ | refine sq_pure TYok TYz false rfl rfl rfl sd ?_ | refine sq_pure TYok TYz true rfl rfl rfl sd ?_ | refine sq_load TYok rfl rfl rfl (by assumption) (by rfl) (by first | exact Nat.zero_lt_one | assumption | omega) (by rfl) ?_ | refine sq_lit TYok TYz rfl rfl rfl rfl rfl rfl rfl rfl ?_ | refine sq_ixa TYok rfl rfl rfl rfl rfl rfl rfl sd ?_ | refine sq_ixr TYok rfl rfl rfl rfl rfl rfl rfl sd ?_ | refine sq_look (kt := 3) (et := 1) (by kernel_rfl) rfl rfl rfl is_p hask 0 rfl (fun i hi => by rcases i with _ | _ | _ | _ | _ | _ | _ | _ | _ | _ | i <;> first | rfl | (cases hi)) rfl ?_ | refine sq_ps rfl rfl rfl hfit (LeL.refl _) ?_ | refine rg_ps rfl rfl rfl hcl (LeL.refl _) ?_) | (refine rg_id ?_; first | refine rg_fin ?_ | refine rg_move rfl rfl rfl ?_ | refine rg_assign rfl rfl rfl ?_ | refine rg_skip rfl rfl ?_ | refine rg_t TYok TYz rfl rfl rfl True.intro so ?_ | refine rg_f TYok TYz rfl rfl rfl True.intro so ?_ | refine rg_pure TYok TYz false rfl rfl rfl sd ?_ | refine rg_pure TYok TYz true rfl rfl rfl sd ?_ | refine rg_load TYok rfl rfl rfl (by assumption) (by rfl) (by first | exact Nat.zero_lt_one | assumption | omega) (by rfl) ?_ | refine rg_lit TYok TYz rfl rfl rfl rfl rfl rfl rfl rfl ?_ | refine rg_ixa TYok rfl rfl rfl rfl rfl rfl rfl sd ?_ | refine rg_ixr TYok rfl rfl rfl rfl rfl rfl rfl sd ?_ | refine sq_look (kt := 3) (et := 1) (by kernel_rfl) rfl rfl rfl is_p hask 0 rfl (fun i hi => by rcases i with _ | _ | _ | _ | _ | _ | _ | _ | _ | _ | i <;> first | rfl | (cases hi)) rfl ?_ | refine sq_ps rfl rfl rfl hfit (LeL.refl _) ?_ | refine rg_ps rfl rfl rfl hcl (LeL.refl _) ?_) | refine aw_rseq ?_ | refine aw_seq ?_ | refine aw_region ?_ | refine aw_skip ?_ | refine aw_true rfl ?_ | refine aw_false rfl ?_ | refine aw_d0seq rfl (by kernel_rfl) ?_ | refine aw_d0 rfl (by kernel_rfl) ?_ | refine aw_block ?_ | refine aw_exit ?_ | refine then_ret ?_ | refine then_exit ?_ | refine then_normal ?_ | refine blk_ret ?_ | refine blk_normal ?_ | refine blk_exit ?_ | refine blk_pass rfl ?_ | refine sq_look (kt := 3) (et := 1) (by kernel_rfl) rfl rfl rfl is_p hask 0 rfl (fun i hi => by rcases i with _ | _ | _ | _ | _ | _ | _ | _ | _ | _ | i <;> first | rfl | (cases hi)) rfl ?_ | refine sq_ps rfl rfl rfl hfit (LeL.refl _) ?_ | refine rg_ps rfl rfl rfl hcl (LeL.refl _) ?_))
  refine sq_storek TYok rfl rfl rfl hb34 rfl Nat.zero_lt_one rfl rfl rfl (Nat.le_of_ble_eq_true rfl) fun H6 hb6 ho6 hl6 => ?_
  (repeat' (first | (refine sq_id ?_; first | refine sq_nil ?_ | refine sq_move rfl rfl rfl ?_ | refine sq_assign rfl rfl rfl ?_ | refine sq_skip rfl rfl ?_ | refine sq_t TYok TYz rfl rfl rfl True.intro so ?_ | refine sq_f TYok TYz rfl rfl rfl True.intro so ?_ | refine sq_pure TYok TYz false rfl rfl rfl sd ?_ | refine sq_pure TYok TYz true rfl rfl rfl sd ?_ | refine sq_load TYok rfl rfl rfl (by assumption) (by rfl) (by first | exact Nat.zero_lt_one | assumption | omega) (by rfl) ?_ | refine sq_lit TYok TYz rfl rfl rfl rfl rfl rfl rfl rfl ?_ | refine sq_ixa TYok rfl rfl rfl rfl rfl rfl rfl sd ?_ | refine sq_ixr TYok rfl rfl rfl rfl rfl rfl rfl sd ?_) | (refine rg_id ?_; first | refine rg_fin ?_ | refine rg_move rfl rfl rfl ?_ | refine rg_assign rfl rfl rfl ?_ | refine rg_skip rfl rfl ?_ | refine rg_t TYok TYz rfl rfl rfl True.intro so ?_ | refine rg_f TYok TYz rfl rfl rfl True.intro so ?_ | refine rg_pure TYok TYz false rfl rfl rfl sd ?_ | refine rg_pure TYok TYz true rfl rfl rfl sd ?_ | refine rg_load TYok rfl rfl rfl (by assumption) (by rfl) (by first | exact Nat.zero_lt_one | assumption | omega) (by rfl) ?_ | refine rg_lit TYok TYz rfl rfl rfl rfl rfl rfl rfl rfl ?_ | refine rg_ixa TYok rfl rfl rfl rfl rfl rfl rfl sd ?_ | refine rg_ixr TYok rfl rfl rfl rfl rfl rfl rfl sd ?_) | refine aw_rseq ?_ | refine aw_seq ?_ | refine aw_region ?_ | refine aw_skip ?_ | refine aw_true rfl ?_ | refine aw_false rfl ?_ | refine aw_d0seq rfl (by kernel_rfl) ?_ | refine aw_d0 rfl (by kernel_rfl) ?_ | refine aw_block ?_ | refine aw_exit ?_ | refine then_ret ?_ | refine then_exit ?_ | refine then_normal ?_ | refine blk_ret ?_ | refine blk_normal ?_ | refine blk_exit ?_ | refine blk_pass rfl ?_))
  ((try refine aw_ret ?_); (repeat (first | refine then_ret ?_ | refine blk_ret ?_)))
  refine ⟨True.intro, _, .tmp _ _ _ (.cell _ _ _ _ _ _ _ _ _ rfl hb6 rfl Nat.zero_lt_one rfl (.tmp _ _ _ .nil)), ?_⟩
  have hx4 : Ext H H4 := ((ho1.ext.trans ho2.ext).trans ho3.ext).trans ho4.ext
  have e1 : H1.length = H.length + 1 := hl1
  have e2 : H2.length = H1.length + 1 := hl2
  exact ⟨hx4.oth ho6 (by rintro _ ⟨⟩; omega), rfl⟩
end Go.Proofs.Ytcehniefjelgeaa.Ab
