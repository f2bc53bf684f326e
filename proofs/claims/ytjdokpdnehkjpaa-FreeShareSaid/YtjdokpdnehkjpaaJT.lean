/- Crowds on a free list: begin, end; the list of the free. -/
import Derived.Test.YtjdokpdnehkjpaaJS
namespace Go.Proofs.Ytjdokpdnehkjpaa.Ab
open Go Go.RowKit
def intsN (l : List Nat) : List Int := l.map fun k : Nat => (k : Int)
/-- between crowds -/
structure FJ (n : Nat) (ws : List Int) (F R : List Nat) (C : Nat) : Prop where
  len : ws.length = n + 1
  head : ws.getD 0 0 = (C : Int) * 1048576 + hdF F
  chain : Chain ws F
  range : ∀ i, 1 ≤ i → i < n + 1 → 0 ≤ ws.getD i 0 ∧ ws.getD i 0 ≤ n
  perm : ∀ a, F.count a + R.count a = if a < n then 1 else 0
/-- a crowd that takes, or gives what it may give -/
structure Crw (R : List Nat) (l : List Wk) : Prop where
  len : l.length ≤ 8
  le : givenN l ≤ R.length
  all : ∀ w ∈ l, w = popW ∨ ∃ k : Nat, k ∈ R ∧ w = pushW k
  sum : ∀ a, (l.map fun w => (hasW w).count a).sum = (R.take (givenN l)).count a
def outN (l : List Wk) : List Nat := (outsL l).map Int.toNat
theorem FJ_perm {n : Nat} {ws : List Int} {F R : List Nat} {C : Nat} (h : FJ n ws F R C) : (F ++ R).Perm (List.range n) := by
  rw [List.perm_iff_count]
  intro a
  rw [List.count_append, h.perm a]
  have : ∀ m, (List.range m).count a = if a < m then 1 else 0 := by
    intro m
    induction m with
    | zero => simp
    | succ m ih =>
      rw [List.range_succ, List.count_append, ih, List.count_cons, List.count_nil]
      by_cases h1 : a < m
      · rw [if_pos h1, if_neg (by simp; omega), if_pos (by omega)]
      · by_cases h2 : m = a
        · rw [if_neg h1, if_pos (by simpa using h2), if_pos (by omega)]
        · rw [if_neg h1, if_neg (by simpa using h2), if_neg (by omega)]
  rw [this n]
theorem FJ_len {n : Nat} {ws : List Int} {F R : List Nat} {C : Nat} (h : FJ n ws F R C) : F.length + R.length = n := by
  have := (FJ_perm h).length_eq
  simpa using this
theorem FJ_lt {n : Nat} {ws : List Int} {F R : List Nat} {C : Nat} (h : FJ n ws F R C) : ∀ x, x ∈ F ∨ x ∈ R → x < n := fun x hx => by
  have := (FJ_perm h).mem_iff (a := x)
  simp at this
  exact this.1 hx
theorem hdF_range (a d : Nat) : hdF (List.range' a d) = if d = 0 then 0 else (a : Int) + 1 := by
  cases d with
  | zero => rfl
  | succ d => rw [List.range'_succ]; rfl
theorem chain_make (n : Nat) : ∀ d a, a + d = n → Chain (makeL n) (List.range' a d)
  | 0, _, _ => True.intro
  | d + 1, a, h => by
    rw [List.range'_succ]
    refine ⟨?_, chain_make n d (a + 1) (by omega)⟩
    rw [hdF_range]
    by_cases hd : d = 0
    · rw [if_pos hd, show a + 1 = n by omega]; exact makeL_end n
    · rw [if_neg hd, makeL_at n (a + 1) (by omega)]
theorem FJ_make (n : Nat) : FJ n (makeL n) (List.range n) [] 0 := by
  have he : List.range n = List.range' 0 n := List.range_eq_range'
  refine ⟨makeL_len n, ?_, by rw [he]; exact chain_make n n 0 (by omega), fun i h1 h2 => ?_, fun a => ?_⟩
  · rw [he, hdF_range]
    by_cases hn : n = 0
    · subst hn; rfl
    · rw [if_neg hn, makeL_at n 0 (by omega)]; omega
  · by_cases h : i < n
    · rw [makeL_at n i h]; omega
    · rw [show i = n by omega, makeL_end]; omega
  · have h1 := List.nodup_range (n := n)
    by_cases h : a < n
    · rw [if_pos h]
      have h2 := List.nodup_iff_count.1 h1 a
      have h3 := List.count_pos_iff.2 (List.mem_range.2 h)
      simp; omega
    · rw [if_neg h, List.count_eq_zero.2 (by simpa using h)]; simp
theorem FI_begin {n : Nat} {ws : List Int} {F R : List Nat} {C : Nat} {l : List Wk} (h : FJ n ws F R C) (hc : Crw R l) : FI n (R.drop (givenN l)) C l ws l F C := by
  have hw : ∀ i, i < l.length → l.getD i wk0 = popW ∨ ∃ k : Nat, k ∈ R ∧ l.getD i wk0 = pushW k := fun i hi => hc.all _ (by rw [getD_at l i hi]; exact List.getElem_mem hi)
  refine ⟨h.len, h.head, h.chain, h.range, fun a => ?_, fun i hi => ?_, ?_, rfl, fun _ _ => ⟨rfl, rfl⟩⟩
  · rw [hc.sum a]
    have h1 := h.perm a
    have h2 : R.count a = (R.take (givenN l)).count a + (R.drop (givenN l)).count a := by rw [← List.count_append, List.take_append_drop]
    omega
  · rcases hw i hi with e | ⟨k, hk, e⟩ <;> rw [e]
    · exact ⟨.inl rfl, fun _ => ⟨by simp [popW], by simp [popW]⟩, fun _ h => by simp [popW] at h, fun _ h => by simp [popW] at h, fun _ h => by simp [popW] at h, fun h => by simp [popW] at h, fun _ h => by simp [popW] at h⟩
    · have := FJ_lt h k (.inr hk)
      exact ⟨.inr rfl, fun _ => ⟨by simp [pushW], by simp [pushW]⟩, fun _ h => by simp [pushW] at h, fun _ h => by simp [pushW] at h, fun _ h => by simp [pushW] at h, fun _ => ⟨by simp [pushW], by simp [pushW]; exact this, fun h => by simp [pushW] at h⟩, fun _ h => by simp [pushW] at h⟩
  · have : (l.map sucW).sum = 0 := by
      have h0 := sum_le sucW (fun _ => 0) l fun w hw' => by
        rcases hc.all w hw' with rfl | ⟨k, _, rfl⟩ <;> simp [sucW, popW, pushW]
      have h1 : ((l.map fun _ => 0).sum : Nat) = 0 := by clear h0 hw hc; induction l with
        | nil => rfl
        | cons a l ih => simpa using ih
      omega
    omega
theorem given_eq (l : List Wk) : givenN l = (l.map (·.job)).count 2 := by
  induction l with
  | nil => rfl
  | cons a l ih =>
    rw [List.map_cons, List.count_cons, ← ih]
    unfold givenN
    by_cases h : a.job = 2
    · rw [List.filter_cons_of_pos (by simpa using h), if_pos (by simpa using h)]; rfl
    · rw [List.filter_cons_of_neg (by simpa using h), if_neg (by simpa using h)]; rfl
theorem jobs_eq {now l : List Wk} (h : now.length = l.length ∧ ∀ i, i < l.length → (now.getD i wk0).job = (l.getD i wk0).job ∧ (now.getD i wk0).r0 = (l.getD i wk0).r0) : now.map (·.job) = l.map (·.job) := by
  refine List.ext_getElem (by simp [h.1]) fun i h1 h2 => ?_
  simp only [List.length_map] at h1 h2
  rw [List.getElem_map, List.getElem_map, ← getD_at now i h1 wk0, ← getD_at l i h2 wk0]
  exact (h.2 i h2).1
theorem has_done (l : List Wk) (h : ∀ w ∈ l, w.done = true) (hj : ∀ w ∈ l, w.job = 1 ∨ w.job = 2) (a : Nat) : (l.map fun w => (hasW w).count a).sum = (outN l).count a := by
  induction l with
  | nil => rfl
  | cons w l ih =>
    have i1 := ih (fun w hw => h w (List.mem_cons_of_mem _ hw)) fun w hw => hj w (List.mem_cons_of_mem _ hw)
    have h1 := h w (List.mem_cons_self ..)
    have h2 := hj w (List.mem_cons_self ..)
    rw [List.map_cons, List.sum_cons, i1]
    unfold outN outsL hasW
    by_cases e : w.job = 1 ∧ 0 ≤ w.out
    · rw [List.filter_cons_of_pos (by simpa using e), if_neg (by omega), if_pos ⟨h1, e.2⟩, List.map_cons, List.map_cons, List.count_cons, List.count_cons]; simp; omega
    · rw [List.filter_cons_of_neg (by simpa using e)]
      rcases h2 with e2 | e2
      · rw [if_neg (by omega), if_neg (by rintro ⟨_, h⟩; exact e ⟨e2, h⟩)]; simp
      · rw [if_pos e2, if_pos h1]; simp
theorem outs_eq (l : List Wk) : outsL l = intsN (outN l) := by
  unfold intsN outN
  rw [List.map_map]
  conv => lhs; rw [← List.map_id (outsL l)]
  refine List.map_congr_left fun x hx => ?_
  unfold outsL at hx
  obtain ⟨w, hw, rfl⟩ := List.mem_map.1 hx
  simp only [List.mem_filter, Bool.and_eq_true, decide_eq_true_eq] at hw
  show w.out = ((w.out.toNat : Nat) : Int)
  omega
theorem FI_end {n : Nat} {R : List Nat} {C0 C : Nat} {l0 now : List Wk} {ws : List Int} {F : List Nat} (h : FI n R C0 l0 ws now F C) (hd : ∀ w ∈ now, w.done = true) : FJ n ws F (R ++ outN now) C := by
  refine ⟨h.len, h.head, h.chain, h.range, fun a => ?_⟩
  have h1 := h.perm a
  rw [has_done now hd (fun w hw => by
    obtain ⟨i, hi, rfl⟩ := List.getElem_of_mem hw
    have := (h.all i hi).job
    rwa [getD_at now i hi] at this) a] at h1
  rw [List.count_append]; omega
/-- a crowd, from its begin to its end -/
theorem crowd_run (n : Nat) (hn : n ≤ 20) {ws : List Int} {F R : List Nat} {C : Nat} (hC : C ≤ 1000) {l : List Wk} (h : FJ n ws F R C) (hc : Crw R l) (picks : List Int) :
    ∃ ws' now F' C', driveT (stepF 0) picks ws l = (ws', now, 0) ∧ FI n (R.drop (givenN l)) C l ws' now F' C' ∧ (∀ w ∈ now, w.done = true) ∧ FJ n ws' F' (R.drop (givenN l) ++ outN now) C' ∧
      keepL (intsN R) now = intsN (R.drop (givenN l) ++ outN now) ∧ ((∀ w ∈ l, w.job = 1) → ∀ w ∈ now, w.out = -1 → F' = []) := by
  have hlen := hc.len
  obtain ⟨ws', now, r1, ⟨F', C', r2, rj⟩, r3⟩ := driveL_inv (stepF 0) picks ws l
    (fun ws' now => ∃ F' C', FI n (R.drop (givenN l)) C l ws' now F' C' ∧ ((∀ w ∈ l, w.job = 1) → ∀ i, i < now.length → (now.getD i wk0).done = true → (now.getD i wk0).out = -1 → F' = []))
    (fun ws' now => (now.map (leftM (ws'.getD 0 0))).sum)
    (by
      rintro ws1 now1 j ⟨F1, C1, hI, hx⟩ hj hd
      have hl1 : now1.length ≤ 8 := by rw [hI.same.1]; exact hlen
      obtain ⟨s1, F2, C2, s2, s3, s4⟩ := FI_step hn hl1 hC hI hj hd
      refine ⟨s1, ⟨F2, C2, s2, fun hall i hi h1 h2 => ?_⟩, s3⟩
      have hj0 : (now1.getD j wk0).job = 1 := by
        rw [(hI.same.2 j (by rw [← hI.same.1]; exact hj)).1, getD_at l j (by rw [← hI.same.1]; exact hj)]
        exact hall _ (List.getElem_mem _)
      obtain ⟨t1, t2⟩ := s4 hj0
      rw [List.length_set] at hi
      rw [set_getDw now1 j _ wk0 hj i] at h1 h2
      by_cases hij : j = i
      · rw [if_pos hij] at h1 h2; exact t2 h1 h2
      · rw [if_neg hij] at h1 h2
        have := hx hall i hi h1 h2
        subst this
        rcases t1 with rfl | ⟨x, hx⟩
        · rfl
        · cases hx)
    100000 (-1) ws l (Nat.le_refl _) ⟨F, C, FI_begin h hc, fun _ i hi h1 => by
      have := hc.all _ (by rw [getD_at l i hi] ; exact List.getElem_mem hi : l.getD i wk0 ∈ l)
      rcases this with e | ⟨k, _, e⟩ <;> rw [e] at h1 <;> simp [popW, pushW] at h1⟩ (by
      have h1 := sum_le (leftM (ws.getD 0 0)) (fun _ => 30) l fun w hw => by
        unfold leftM
        split
        · omega
        · split <;> omega
      have h2 : ∀ l : List Wk, ((l.map fun _ => 30).sum : Nat) = 30 * l.length := by
        intro l
        induction l with
        | nil => rfl
        | cons a l ih => rw [List.map_cons, List.sum_cons, ih, List.length_cons]; omega
      rw [h2] at h1
      omega)
  have hg : givenN now = givenN l := by rw [given_eq, given_eq, jobs_eq r2.same]
  refine ⟨ws', now, F', C', ?_, r2, r3, FI_end r2 r3, ?_, fun hall w hw ho => ?_⟩
  · unfold driveT
    rw [if_neg (by omega)]
    exact r1
  · unfold keepL
    rw [outs_eq, hg]
    unfold intsN
    rw [List.length_map, Nat.min_eq_left hc.le, List.map_append, List.map_drop]
  · obtain ⟨i, hi, rfl⟩ := List.getElem_of_mem hw
    have e := getD_at now i hi wk0
    exact rj hall i hi (by rw [e]; exact r3 _ hw) (by rw [e]; exact ho)
theorem crS_spec (raw : List Int) (R : List Nat) : ∀ i, givenN (crS raw (intsN R) i).2 = (crS raw (intsN R) i).1 ∧ (∀ w ∈ (crS raw (intsN R) i).2, w = popW ∨ ∃ k : Nat, k ∈ R ∧ w = pushW k) ∧
    ∀ a, ((crS raw (intsN R) i).2.map fun w => (hasW w).count a).sum = (R.take (crS raw (intsN R) i).1).count a
  | 0 => ⟨rfl, fun w h => by simp [crS] at h, fun a => by simp [crS]⟩
  | i + 1 => by
    obtain ⟨h1, h2, h3⟩ := crS_spec raw R i
    rw [crS]
    split
    · rename_i h
      generalize crS raw (intsN R) i = s at *
      obtain ⟨c, l⟩ := s
      dsimp only at *
      have hlt : c < R.length := by have := h.2; unfold intsN at this; simpa using this
      have hget : (intsN R).getD c 0 = (R.getD c 0 : Nat) := by
        unfold intsN
        rw [List.getD_eq_getElem?_getD, List.getElem?_map, List.getElem?_eq_getElem hlt, List.getD_eq_getElem?_getD, List.getElem?_eq_getElem hlt]; rfl
      refine ⟨by rw [given_snoc, h1]; rfl, fun w hw => ?_, fun a => ?_⟩
      · rcases List.mem_append.1 hw with hw | hw
        · exact h2 w hw
        · rw [List.mem_singleton] at hw
          exact .inr ⟨R.getD c 0, by rw [getD_at R c hlt]; exact List.getElem_mem hlt, by rw [hw, hget]⟩
      · rw [List.map_append, List.sum_append, h3, take_snoc R 0 c hlt, List.count_append, hget]
        simp [hasW, pushW]
    · generalize crS raw (intsN R) i = s at *
      obtain ⟨c, l⟩ := s
      dsimp only at *
      refine ⟨by rw [given_snoc, h1]; rfl, fun w hw => ?_, fun a => ?_⟩
      · rcases List.mem_append.1 hw with hw | hw
        · exact h2 w hw
        · rw [List.mem_singleton] at hw; exact .inl hw
      · rw [List.map_append, List.sum_append, h3]
        simp [hasW, popW]
theorem crw_of (raw : List Int) (R : List Nat) : Crw R (crowdL raw (intsN R)) := by
  obtain ⟨h1, h2, h3⟩ := crS_spec raw R (min raw.length 8)
  have h4 := (crS_len raw (intsN R) (min raw.length 8)).2
  exact ⟨crowdL_len _ _, by unfold crowdL; rw [h1]; unfold intsN at h4 ⊢; simpa using h4, h2, fun a => by unfold crowdL; rw [h3, h1]⟩
theorem freeGo_chain {ws : List Int} {n : Nat} (hl : ws.length = n + 1) (hn : n < 1048576) : ∀ (F : List Nat) (f : Nat), F.length ≤ f → (∀ x ∈ F, x < n) → Chain ws F → freeGo ws 0 f (hdF F) = intsN F
  | [], f, _, _, _ => by
    cases f with
    | zero => rfl
    | succ f => rw [freeGo, if_neg (by show ¬ ((0 : Int) < 0 ∧ _); omega)]; rfl
  | x :: F, 0, h, _, _ => by simp at h
  | x :: F, f + 1, h, hx, hc => by
    have h1 := hx x (List.mem_cons_self ..)
    have e : hdF (x :: F) = (x : Int) + 1 := rfl
    have e2 : (((0 : Nat) : Int) + ((x : Int) + 1)).toNat = x + 1 := by omega
    obtain ⟨m, hm, hmn⟩ := hdF_le (F := F) (n := n) fun y hy => hx y (List.mem_cons_of_mem _ hy)
    have e3 : Hn (hdF F) = hdF F := by
      have := hn_at 0 m (by omega)
      rw [hm]
      simpa using this
    rw [freeGo, e, if_pos (by omega), e2, hc.1, e3, freeGo_chain hl hn F f (by simpa using h) (fun y hy => hx y (List.mem_cons_of_mem _ hy)) hc.2]
    unfold intsN
    rw [List.map_cons, show (x : Int) + 1 - 1 = x by omega]
theorem free_list {n : Nat} {ws : List Int} {F R : List Nat} {C : Nat} (h : FJ n ws F R C) (hn : n ≤ 20) (_hC : C ≤ 100000) : freeL ws 0 = intsN F := by
  have hl := FJ_len h
  have hx : ∀ x ∈ F, x < n := fun x hx => FJ_lt h x (.inl hx)
  obtain ⟨m, hm, hmn⟩ := hdF_le hx
  unfold freeL
  rw [if_pos (by rw [h.len]; omega), h.head, hm, hn_at C m (by omega), ← hm]
  exact freeGo_chain h.len (by omega) F 1000 (by omega) hx h.chain
end Go.Proofs.Ytjdokpdnehkjpaa.Ab
