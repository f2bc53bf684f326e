/- Crowds on a free list: a step keeps what holds. -/
import Derived.Test.YtjdokpdnehkjpaaJR
namespace Go.Proofs.Ytjdokpdnehkjpaa.Ab
open Go Go.RowKit
section
variable {n C0 C C' j : Nat} {R F F' : List Nat} {l0 now : List Wk} {ws ws' : List Int} {w w' : Wk}
theorem FI_put (h : FI n R C0 l0 ws now F C) (hj : j < now.length) (hw : now.getD j wk0 = w)
    (hlen : ws'.length = n + 1) (hhead : ws'.getD 0 0 = (C' : Int) * 1048576 + hdF F') (hchain : Chain ws' F')
    (hrange : ∀ i, 1 ≤ i → i < n + 1 → 0 ≤ ws'.getD i 0 ∧ ws'.getD i 0 ≤ n)
    (hperm : ∀ a, F'.count a + (hasW w').count a = F.count a + (hasW w).count a)
    (hown : Wok n ws' F' C' w') (hoth : ∀ i, i < now.length → i ≠ j → Wok n ws' F' C' (now.getD i wk0))
    (hcnt : C' + sucW w = C + sucW w') (hjob : w'.job = w.job ∧ w'.r0 = w.r0) :
    FI n R C0 l0 ws' (now.set j w') F' C' := by
  subst hw
  have ej := getD_at now j hj wk0
  refine ⟨hlen, hhead, hchain, hrange, fun a => ?_, fun i hi => ?_, ?_, ?_⟩
  · have h1 := h.perm a
    have h2 := sum_same (fun w => (hasW w).count a) now j w' hj
    have h3 := hperm a
    rw [ej] at h3
    omega
  · rw [List.length_set] at hi
    rw [set_getDw now j w' wk0 hj i]
    by_cases hij : j = i
    · rw [if_pos hij]; exact hown
    · rw [if_neg hij]; exact hoth i hi (fun e => hij e.symm)
  · have h1 := h.cnt
    have h2 := sum_same sucW now j w' hj
    rw [ej] at hcnt
    omega
  · refine ⟨by rw [List.length_set]; exact h.same.1, fun i hi => ?_⟩
    rw [set_getDw now j w' wk0 hj i]
    by_cases hij : j = i
    · subst hij; rw [if_pos rfl, hjob.1, hjob.2]; exact h.same.2 j hi
    · rw [if_neg hij]; exact h.same.2 i hi
theorem FI_lt (h : FI n R C0 l0 ws now F C) {x : Nat} (hx : x ∈ F) : x < n := by
  have h1 := h.perm x
  have h2 := List.count_pos_iff.2 hx
  apply Decidable.byContradiction
  intro hn
  rw [if_neg hn] at h1
  omega
theorem hdF_le (h : ∀ x ∈ F, x < n) : ∃ m : Nat, hdF F = m ∧ m ≤ n := by
  cases F with
  | nil => exact ⟨0, rfl, by omega⟩
  | cons x F => exact ⟨x + 1, rfl, h x (List.mem_cons_self ..)⟩
theorem hasW_push (h1 : w.job = 2) (h2 : w.done = false) : hasW w = [w.r0.toNat] := by unfold hasW; rw [if_pos h1, if_neg (by rw [h2]; simp)]
theorem FI_notin (h : FI n R C0 l0 ws now F C) (hj : j < now.length) (hw : now.getD j wk0 = w) (h1 : w.job = 2) (h2 : w.done = false) : w.r0.toNat ∉ F := by
  intro hm
  have e1 := h.perm w.r0.toNat
  have e2 := List.count_pos_iff.2 hm
  have e3 := le_sum (fun v => (hasW v).count w.r0.toNat) now j hj
  rw [← getD_at now j hj wk0, hw, hasW_push h1 h2, List.count_singleton_self] at e3
  split at e1 <;> omega
theorem FI_apart {i : Nat} {v : Wk} (h : FI n R C0 l0 ws now F C) (hj : j < now.length) (hi : i < now.length) (hij : i ≠ j) (hw : now.getD j wk0 = w) (hv : now.getD i wk0 = v) (h1 : w.job = 2) (h2 : w.done = false) (h3 : v.job = 2) (h4 : v.done = false) :
    v.r0.toNat ≠ w.r0.toNat := by
  intro he
  have e1 := h.perm w.r0.toNat
  have e3 := two_le_sum (fun v => (hasW v).count w.r0.toNat) now i j hi hj hij
  rw [← getD_at now j hj wk0, hw, hasW_push h1 h2, ← getD_at now i hi wk0, hv, hasW_push h3 h4, he, List.count_singleton_self] at e3
  split at e1 <;> omega
theorem Chain_set {k : Nat} {v : Int} (hk : k < ws.length) : ∀ F : List Nat, (∀ x ∈ F, k ≠ x + 1) → Chain ws F → Chain (ws.set k v) F
  | [], _, _ => True.intro
  | x :: F, h, hc => ⟨by rw [set_getDw ws k v 0 hk, if_neg (h x (List.mem_cons_self ..))]; exact hc.1, Chain_set hk F (fun y hy => h y (List.mem_cons_of_mem _ hy)) hc.2⟩
theorem suc_le (l : List Wk) : (l.map sucW).sum ≤ l.length := by
  have h2 : ((l.map fun _ => 1).sum : Nat) = l.length := by induction l with
    | nil => rfl
    | cons a l ih => rw [List.map_cons, List.sum_cons, ih, List.length_cons]; omega
  have h1 := sum_le sucW (fun _ => 1) l fun x _ => by unfold sucW; split <;> omega
  omega
theorem left_own {hd : Int} (hj : j < now.length) (hw : now.getD j wk0 = w) (h : leftM hd w' < leftM hd w) : ((now.set j w').map (leftM hd)).sum < (now.map (leftM hd)).sum := by
  have := sum_same (leftM hd) now j w' hj
  rw [← getD_at now j hj wk0, hw] at this
  omega
theorem left_swap {hd hd' : Int} (hj : j < now.length) (hl : now.length ≤ 8) (hw : now.getD j wk0 = w) (h : w.done = false) (hp : w.pc = 2) (h' : w'.done = true) : ((now.set j w').map (leftM hd')).sum < (now.map (leftM hd)).sum := by
  have h1 := sum_set (fun w => leftM hd w + 3) (leftM hd') now j w' hj fun v _ => by
    unfold leftM
    split
    · omega
    · split <;> split <;> omega
  have h2 := sum_add (leftM hd) 3 now
  rw [← getD_at now j hj wk0, hw] at h1
  have h3 : leftM hd' w' = 0 := by unfold leftM; rw [if_pos h']
  have h4 : 25 ≤ leftM hd w := by
    have : (2 : Int).toNat = 2 := rfl
    unfold leftM; rw [if_neg (by rw [h]; simp), hp, this]; omega
  omega
theorem FI_close {st : List Int × Wk × Int} {φ : Nat} (hs : st = (ws', w', 0)) (hI : FI n R C0 l0 ws' (now.set j w') F' C') (hm : ((now.set j w').map (leftM (ws'.getD 0 0))).sum < φ)
    (hx : w.job = 1 → (F' = F ∨ ∃ x, F = x :: F') ∧ (w'.done = true → w'.out = -1 → F' = [])) :
    st.2.2 = 0 ∧ ∃ F' C', FI n R C0 l0 st.1 (now.set j st.2.1) F' C' ∧ ((now.set j st.2.1).map (leftM (st.1.getD 0 0))).sum < φ ∧ (w.job = 1 → (F' = F ∨ ∃ x, F = x :: F') ∧ (st.2.1.done = true → st.2.1.out = -1 → F' = [])) := by
  subst hs; exact ⟨rfl, _, _, hI, hm, hx⟩
set_option maxHeartbeats 1000000 in
theorem FI_step (hn : n ≤ 20) (hl : now.length ≤ 8) (hC0 : C0 ≤ 1000) (h : FI n R C0 l0 ws now F C) (hj : j < now.length) (hd : (now.getD j wk0).done = false) :
    (stepF 0 ws (now.getD j wk0)).2.2 = 0 ∧ ∃ F' C', FI n R C0 l0 (stepF 0 ws (now.getD j wk0)).1 (now.set j (stepF 0 ws (now.getD j wk0)).2.1) F' C' ∧
      ((now.set j (stepF 0 ws (now.getD j wk0)).2.1).map (leftM ((stepF 0 ws (now.getD j wk0)).1.getD 0 0))).sum < (now.map (leftM (ws.getD 0 0))).sum ∧
      ((now.getD j wk0).job = 1 → (F' = F ∨ ∃ x, F = x :: F') ∧ ((stepF 0 ws (now.getD j wk0)).2.1.done = true → (stepF 0 ws (now.getD j wk0)).2.1.out = -1 → F' = [])) := by
  have hC : C ≤ 1008 := by have := suc_le now; have := h.cnt; omega
  obtain ⟨m, hm, hmn⟩ := hdF_le (F := F) (n := n) fun x hx => FI_lt h hx
  have ho := h.all j hj
  have hoth : ∀ i, i < now.length → i ≠ j → Wok n ws F C (now.getD i wk0) := fun i hi _ => h.all i hi
  have hlen := h.len
  have hhead := h.head
  generalize hw : now.getD j wk0 = w at *
  obtain ⟨p0, p2⟩ := ho.pc hd
  have hp : w.pc = 0 ∨ w.pc = 1 ∨ w.pc = 2 := by omega
  have hHd : Hn (ws.getD 0 0) = m := by rw [hhead, hm]; exact hn_at C m (by omega)
  have hs0 : sucW w = 0 := by unfold sucW; rw [if_neg (by rw [hd]; simp)]
  rcases hp with hp | hp | hp
  · by_cases he : w.job = 1 ∧ Hn (ws.getD 0 0) = 0
    · refine FI_close (w' := { w with r1 := ws.getD 0 0, pc := 0, done := true, out := -1 }) (by rw [sF_load0 hd ho.job hp (by omega) (by omega)]; unfold behF; rw [if_pos hp, if_pos he]) (FI_put h hj hw hlen hhead h.chain h.range ?_ ?_ hoth ?_ ⟨rfl, rfl⟩) (left_own hj hw ?_) (fun _ => ⟨.inl rfl, fun _ _ => by
        cases F with
        | nil => rfl
        | cons x F' => have e : hdF (x :: F') = (x : Int) + 1 := rfl; omega⟩)
      · intro a; unfold hasW; simp [hd, he.1]
      · exact ⟨ho.job, fun h => by simp at h, fun h => by simp at h, fun h => by simp at h, fun h => by simp at h, fun h' => by rw [he.1] at h'; omega, fun _ _ => .inl rfl⟩
      · rw [hs0]; unfold sucW; simp [he.1]
      · unfold leftM; rw [if_pos rfl, if_neg (by rw [hd]; simp)]; omega
    · refine FI_close (w' := { w with r1 := ws.getD 0 0, pc := 1 }) (by rw [sF_load0 hd ho.job hp (by omega) (by omega)]; unfold behF; rw [if_pos hp, if_neg he]) (FI_put h hj hw hlen hhead h.chain h.range ?_ ?_ hoth ?_ ⟨rfl, rfl⟩) (left_own hj hw ?_) (fun _ => ⟨.inl rfl, fun h => by simp [hd] at h⟩)
      · intro a; unfold hasW; simp [hd]
      · refine ⟨ho.job, fun _ => by simp, fun _ _ => ⟨C, m, by rw [hhead, hm], Nat.le_refl _, hmn, fun _ => hm.symm, fun h1 => ?_⟩, fun _ h => by simp at h, fun _ h => by simp at h, fun h' => ⟨(ho.push h').1, (ho.push h').2.1, fun h => by rw [hd] at h; simp at h⟩, fun _ h => by simp [hd] at h⟩
        have : w.job = 1 := h1
        rw [hHd] at he
        omega
      · rw [hs0]; unfold sucW; simp [hd]
      · unfold leftM; simp [hd, hp]
  · obtain ⟨c, hh, e1, e2, e3, e4, e5⟩ := ho.old hd (by omega)
    have hHw : Hn w.r1 = hh := by rw [e1]; exact hn_at c hh (by omega)
    rcases ho.job with hb | hb
    · refine FI_close (sF_pop1 hd hb hp hh hHw (by omega) (by omega)) (FI_put h hj hw hlen hhead h.chain h.range ?_ ?_ hoth ?_ ⟨rfl, rfl⟩) (left_own hj hw ?_) (fun _ => ⟨.inl rfl, fun h => by simp [hd] at h⟩)
      · intro a; unfold hasW; simp [hd, hb]
      · have h1 := e5 hb
        refine ⟨ho.job, fun _ => by simp, fun _ _ => ⟨c, hh, e1, e2, e3, e4, e5⟩, fun _ _ _ => ⟨(h.range hh h1 (by omega)).1, (h.range hh h1 (by omega)).2, fun hr => ?_⟩, fun _ _ h' => by rw [hb] at h'; omega, fun h' => by rw [hb] at h'; omega, fun _ h => by simp [hd] at h⟩
        have hr : w.r1 = ws.getD 0 0 := hr
        have hcC : c = C := by omega
        have := e4 hcC
        cases F with
        | nil => have e : hdF [] = 0 := rfl; omega
        | cons x F' =>
          refine ⟨x, F', rfl, ?_⟩
          have e : hdF (x :: F') = (x : Int) + 1 := rfl
          have : hh = x + 1 := by omega
          subst this
          exact h.chain.1
      · rw [hs0]; unfold sucW; simp [hd]
      · have e : (1 : Int).toNat = 1 := rfl
        have e' : (2 : Int).toNat = 2 := rfl
        unfold leftM; simp only [hd, hp, e, e']; simp
    · obtain ⟨k0, k1, k2⟩ := ho.push hb
      obtain ⟨k, hk⟩ := Int.eq_ofNat_of_zero_le k0
      have hkt : w.r0.toNat = k := by omega
      have hnin := FI_notin h hj hw hb hd
      rw [hkt] at hnin
      have hset := set_getDw ws (k + 1) (hh : Int) 0 (by omega)
      have hz : (ws.set (k + 1) (hh : Int)).getD 0 0 = ws.getD 0 0 := by rw [hset, if_neg (by omega)]
      refine FI_close (by rw [sF_push1 hd hb hp k hk (by omega) (by omega), hHw] : stepF 0 ws w = (ws.set (k + 1) (hh : Int), { w with pc := 2 }, 0)) (FI_put h hj hw (by rw [List.length_set]; exact hlen) (by rw [hz]; exact hhead) (Chain_set (by omega) F (fun x hx he => hnin (by rw [show k = x by omega]; exact hx)) h.chain) ?_ ?_ ?_ ?_ ?_ ⟨rfl, rfl⟩) ?_ (fun h => by omega)
      · intro i h1 h2
        rw [hset]
        split
        · omega
        · exact h.range i h1 h2
      · intro a; unfold hasW; simp [hd, hb]
      · refine ⟨ho.job, fun _ => by simp, fun _ _ => ⟨c, hh, e1, e2, e3, e4, e5⟩, fun _ _ h' => by rw [hb] at h'; omega, fun _ _ _ hr => ?_, fun h' => ⟨k0, k1, fun h => by simp [hd] at h⟩, fun _ h => by simp [hd] at h⟩
        have hr : w.r1 = ws.getD 0 0 := hr.trans hz
        show (ws.set (k + 1) (hh : Int)).getD (w.r0.toNat + 1) 0 = hdF F
        rw [hkt, hset, if_pos rfl]
        exact e4 (by omega)
      · intro i hi hij
        have hv := h.all i hi
        refine ⟨hv.job, hv.pc, hv.old, fun a b c => ?_, fun a b c d => ?_, hv.push, hv.pop⟩
        · rw [hz]; exact hv.two1 a b c
        · rw [hz] at d
          have := FI_apart h hj hi hij hw rfl hb hd c a
          rw [hset, if_neg (by omega)]
          exact hv.two2 a b c d
      · rw [hs0]; unfold sucW; simp [hd]
      · rw [hz]
        refine left_own hj hw ?_
        have e : (1 : Int).toNat = 1 := rfl
        have e' : (2 : Int).toNat = 2 := rfl
        unfold leftM; simp only [hd, hp, e, e']; simp
  · obtain ⟨c, hh, e1, e2, e3, e4, e5⟩ := ho.old hd (by omega)
    have hHw : Hn w.r1 = hh := by rw [e1]; exact hn_at c hh (by omega)
    have hval : ∃ x : Nat, (if w.job = 1 then w.r2 else IntKind.i64.wrap (w.r0 + 1)) = x ∧ x ≤ n := by
      rcases ho.job with hb | hb
      · rw [if_pos hb]
        obtain ⟨a, b, _⟩ := ho.two1 hd hp hb
        exact ⟨w.r2.toNat, by omega, by omega⟩
      · rw [if_neg (by omega)]
        obtain ⟨k0, k1, k2⟩ := ho.push hb
        exact ⟨(w.r0 + 1).toNat, by rw [wrap_small (by omega)]; omega, by omega⟩
    obtain ⟨v, hv, hvn⟩ := hval
    have hsw := sF_swap (ws := ws) hd ho.job hp (((c : Int) + 1) * 1048576 + v) (by rw [hv, e1]; exact nwH_at c hh v (by omega) (by omega) (by omega)) (by omega) (by omega) (by omega)
    by_cases hsame : ws.getD 0 0 = w.r1
    · rw [if_pos hsame, if_pos hsame] at hsw
      have hcC : c = C := by omega
      subst hcC
      have hset := set_getDw ws 0 (((c : Int) + 1) * 1048576 + v) 0 (by omega)
      have hothers : ∀ G : List Nat, ∀ i, i < now.length → i ≠ j → Wok n (ws.set 0 (((c : Int) + 1) * 1048576 + v)) G (c + 1) (now.getD i wk0) := fun G i hi hij => by
        have hu := h.all i hi
        refine ⟨hu.job, hu.pc, fun a b => ?_, fun a b d => ?_, fun a b d e => ?_, hu.push, hu.pop⟩
        · obtain ⟨c', h', f1, f2, f3, f4, f5⟩ := hu.old a b
          exact ⟨c', h', f1, by omega, f3, fun he => by omega, f5⟩
        · obtain ⟨g1, g2, _⟩ := hu.two1 a b d
          refine ⟨g1, g2, fun hr => ?_⟩
          obtain ⟨c', h', f1, f2, f3, f4, f5⟩ := hu.old a (by omega)
          rw [hset, if_pos rfl] at hr
          omega
        · obtain ⟨c', h', f1, f2, f3, f4, f5⟩ := hu.old a (by omega)
          rw [hset, if_pos rfl] at e
          omega
      rcases ho.job with hb | hb
      · obtain ⟨_, _, g⟩ := ho.two1 hd hp hb
        obtain ⟨x, F', rfl, hr2⟩ := g hsame.symm
        rw [if_pos hb] at hv
        have hx : hh = x + 1 := by
          have e : hdF (x :: F') = (x : Int) + 1 := rfl
          have := e4 rfl
          omega
        have hxn := FI_lt h (List.mem_cons_self (a := x) (l := F'))
        rw [if_pos hb, hHw] at hsw
        refine FI_close hsw (FI_put (F' := F') (C' := c + 1) h hj hw (by rw [List.length_set]; exact hlen) (by rw [hset, if_pos rfl]; omega) (Chain_set (by omega) F' (fun _ _ => by omega) h.chain.2) ?_ ?_ ?_ (hothers F') ?_ ⟨rfl, rfl⟩) (left_swap hj hl hw hd hp rfl) (fun _ => ⟨.inr ⟨x, rfl⟩, fun _ ho => by
          have : (hh : Int) - 1 = -1 := ho
          omega⟩)
        · intro i h1 h2
          rw [hset, if_neg (by omega)]
          exact h.range i h1 h2
        · intro a
          have : ((hh : Int) - 1).toNat = x := by omega
          have h0 : (0 : Int) ≤ (hh : Int) - 1 := by omega
          have f1 : hasW { w with done := true, out := (hh : Int) - 1 } = [x] := by unfold hasW; rw [if_neg (show ¬ w.job = 2 by omega), if_pos ⟨rfl, h0⟩]; show [((hh : Int) - 1).toNat] = _; rw [this]
          have f2 : hasW w = [] := by unfold hasW; rw [if_neg (show ¬ w.job = 2 by omega), if_neg (by rw [hd]; simp)]
          rw [f1, f2, List.count_cons, List.count_cons, List.count_nil]; omega
        · exact ⟨ho.job, fun h => by simp at h, fun h => by simp at h, fun h => by simp at h, fun h => by simp at h, fun h' => by rw [hb] at h'; omega, fun _ _ => .inr ⟨by show (0 : Int) ≤ (hh : Int) - 1; omega, by show (hh : Int) - 1 < n; omega⟩⟩
        · rw [hs0]
          have h0 : (0 : Int) ≤ (hh : Int) - 1 := by omega
          unfold sucW; rw [if_pos ⟨rfl, .inr h0⟩]
      · obtain ⟨k0, k1, k2⟩ := ho.push hb
        obtain ⟨k, hk⟩ := Int.eq_ofNat_of_zero_le k0
        have hkt : w.r0.toNat = k := by omega
        have hnin := FI_notin h hj hw hb hd
        rw [hkt] at hnin
        have h2 := ho.two2 hd hp hb hsame.symm
        rw [hkt] at h2
        have hj1 : ¬ w.job = 1 := by omega
        rw [if_neg hj1, wrap_small (by omega)] at hv
        rw [if_neg hj1] at hsw
        refine FI_close hsw (FI_put (F' := k :: F) (C' := c + 1) h hj hw (by rw [List.length_set]; exact hlen) (by rw [hset, if_pos rfl]; show _ = _ + ((k : Int) + 1); omega) ⟨by rw [hset, if_neg (by omega)]; exact h2, Chain_set (by omega) F (fun _ _ => by omega) h.chain⟩ ?_ ?_ ?_ (hothers _) ?_ ⟨rfl, rfl⟩) (left_swap hj hl hw hd hp rfl) (fun h => by omega)
        · intro i h1 h2
          rw [hset, if_neg (by omega)]
          exact h.range i h1 h2
        · intro a
          unfold hasW
          simp only [hb, hd, hkt]
          simp [List.count_cons]
        · exact ⟨ho.job, fun h => by simp at h, fun h => by simp at h, fun h => by simp at h, fun h => by simp at h, fun _ => ⟨k0, k1, fun _ => rfl⟩, fun h' => by rw [hb] at h'; omega⟩
        · rw [hs0]
          unfold sucW; simp [hb]
    · rw [if_neg hsame, if_neg hsame] at hsw
      refine FI_close hsw (FI_put h hj hw hlen hhead h.chain h.range ?_ ?_ hoth ?_ ⟨rfl, rfl⟩) (left_own hj hw ?_) (fun _ => ⟨.inl rfl, fun h => by simp [hd] at h⟩)
      · intro a; unfold hasW; simp [hd]
      · exact ⟨ho.job, fun _ => by simp, fun _ h => by simp at h, fun _ h => by simp at h, fun _ h => by simp at h, fun h' => ⟨(ho.push h').1, (ho.push h').2.1, fun h => by simp [hd] at h⟩, fun _ h => by simp [hd] at h⟩
      · rw [hs0]; unfold sucW; simp [hd]
      · have hne : ¬ w.r1 = ws.getD 0 0 := fun h => hsame h.symm
        have f1 : leftM (ws.getD 0 0) { w with pc := 0 } = 27 := by unfold leftM; rw [if_neg (by rw [hd]; simp), if_neg (by rintro ⟨h, _⟩; exact absurd h (by show ¬ (1 : Int) ≤ 0; omega))]; rfl
        have f2 : leftM (ws.getD 0 0) w = 28 := by unfold leftM; rw [if_neg (by rw [hd]; simp), hp, if_pos ⟨by omega, hne⟩]; rfl
        omega
end
end Go.Proofs.Ytjdokpdnehkjpaa.Ab
