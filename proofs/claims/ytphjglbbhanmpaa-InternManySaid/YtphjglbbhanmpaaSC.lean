/- Crowds on a table, where there is room (plain). -/
import Derived.Test.YtphjglbbhanmpaaSA
import Derived.Test.YtphjglbbhanmpaaSB
namespace Go.Proofs.Ytphjglbbhanmpaa.Ab
open Go Go.RowKit
def sumR (f : Nat → Nat) (n : Nat) : Nat := ((List.range n).map f).sum
theorem sumR_succ (f : Nat → Nat) (n : Nat) : sumR f (n + 1) = sumR f n + f n := by
  unfold sumR; rw [List.range_succ, List.map_append, List.sum_append]; simp
theorem sumR_le (f g : Nat → Nat) : ∀ n, (∀ i, i < n → f i ≤ g i) → sumR f n ≤ sumR g n
  | 0, _ => Nat.le_refl _
  | n + 1, h => by
    rw [sumR_succ, sumR_succ]
    have := sumR_le f g n fun i hi => h i (by omega)
    have := h n (by omega)
    omega
theorem sumR_eq (f g : Nat → Nat) (n : Nat) (h : ∀ i, i < n → f i = g i) : sumR f n = sumR g n := by
  have h1 := sumR_le f g n fun i hi => Nat.le_of_eq (h i hi)
  have h2 := sumR_le g f n fun i hi => Nat.le_of_eq (h i hi).symm
  omega
theorem sumR_add (f g : Nat → Nat) : ∀ n, sumR (fun i => f i + g i) n = sumR f n + sumR g n
  | 0 => rfl
  | n + 1 => by rw [sumR_succ, sumR_succ, sumR_succ, sumR_add f g n]; omega
theorem sumR_one : ∀ n, sumR (fun _ => 1) n = n
  | 0 => rfl
  | n + 1 => by rw [sumR_succ, sumR_one n]
theorem sumR_zero : ∀ n, sumR (fun _ => 0) n = 0
  | 0 => rfl
  | n + 1 => by rw [sumR_succ, sumR_zero n]
theorem sumR_at (x : Nat) : ∀ n, sumR (fun a => if a = x then 1 else 0) n = if x < n then 1 else 0
  | 0 => by rw [if_neg (by omega)]; rfl
  | n + 1 => by
    rw [sumR_succ, sumR_at x n]
    by_cases h : n = x
    · subst h; rw [if_pos rfl, if_neg (by omega), if_pos (by omega)]
    · rw [if_neg h]
      by_cases h2 : x < n
      · rw [if_pos h2, if_pos (by omega)]
      · rw [if_neg h2, if_neg (by omega)]
theorem sumR_count (N : Nat) : ∀ F : List Nat, (∀ x ∈ F, x < N) → sumR (fun a => F.count a) N = F.length
  | [], _ => (sumR_eq (fun a => ([] : List Nat).count a) (fun _ => 0) N fun _ _ => rfl).trans (sumR_zero N)
  | x :: F, h => by
    rw [sumR_eq _ (fun a => F.count a + if a = x then 1 else 0) N fun a _ => count_x x a F, sumR_add, sumR_count N F fun y hy => h y (List.mem_cons_of_mem _ hy), sumR_at, if_pos (h x (List.mem_cons_self ..))]
    rfl
/-- how many slots are not empty -/
def nzS (S : Nat) (m : List Int) : Nat := sumR (fun i => if m.getD i 0 = 0 then 0 else 1) S
theorem pub_nz (N : Nat) (m : List Int) : ∀ S : Nat, (∀ i, i < S → m.getD i 0 ≠ 0 → ∃ n : Nat, n < N ∧ m.getD i 0 = (n : Int) + 1) → sumR (pubC S m) N = nzS S m
  | 0, _ => (sumR_eq (pubC 0 m) (fun _ => 0) N fun _ _ => rfl).trans (sumR_zero N)
  | S + 1, h => by
    have e : ∀ a, pubC (S + 1) m a = pubC S m a + if m.getD S 0 = (a : Int) + 1 then 1 else 0 := fun a => sumR_succ _ S
    have ih := pub_nz N m S fun i hi => h i (by omega)
    unfold nzS at ih ⊢
    rw [sumR_eq _ (fun a => pubC S m a + if m.getD S 0 = (a : Int) + 1 then 1 else 0) N fun a _ => e a, sumR_add, ih, sumR_succ]
    congr 1
    by_cases h0 : m.getD S 0 = 0
    · rw [if_pos h0, sumR_eq _ (fun _ => 0) N fun a _ => by rw [if_neg (by omega)], sumR_zero]
    · obtain ⟨n, hn, e1⟩ := h S (by omega) h0
      rw [if_neg h0, sumR_eq _ (fun a => if a = n then 1 else 0) N fun a _ => ?_, sumR_at, if_pos hn]
      by_cases h : a = n
      · subst h; rw [if_pos e1, if_pos rfl]
      · rw [if_neg (by omega), if_neg h]
theorem hS_surj (S : Nat) (hS1 : 1 ≤ S) (k : Kid) (i : Nat) (hi : i < S) : ∃ r, r < S ∧ hS S k r = i := by
  have h1 := Int.emod_nonneg ((i : Int) - kh k) (b := (S : Int)) (by omega)
  have h2 := Int.emod_lt_of_pos ((i : Int) - kh k) (b := (S : Int)) (by omega)
  refine ⟨(((i : Int) - kh k) % S).toNat, by omega, ?_⟩
  unfold hS
  rw [Int.toNat_of_nonneg h1, Int.add_emod, Int.emod_emod_of_dvd _ (Int.dvd_refl _), ← Int.add_emod, show kh k + ((i : Int) - kh k) = i by omega, Int.emod_eq_of_lt (by omega) (by omega)]
  omega
section
variable {S N : Nat} {m m' m0 : List Int} {F F' : List Nat} {C C' F0 j : Nat} {k : Kid} {w w' : Wk} {ks : List Kid} {now : List Wk} {held : Nat → Nat}
theorem Tab.sum (h : Tab S N m F C held) : F.length + nzS S m + sumR held N = N := by
  have h1 := sumR_eq (fun a => F.count a + pubC S m a + held a) (fun a => 1) N fun a ha => by rw [h.perm a, if_pos ha]
  rw [sumR_one, sumR_add, sumR_add, sumR_count N F fun x hx => (h.lt hx).1, show sumR (fun i => pubC S m i) N = nzS S m from pub_nz N m S fun i hi hne => by obtain ⟨n, hn, e, _⟩ := h.slots i hi hne; exact ⟨n, hn, e⟩] at h1
  exact h1
theorem Tab.room (hS1 : 1 ≤ S) (hNS : N ≤ S) (h : Tab S N m F C held) (hne : F ≠ [] ∨ ∃ x, x < N ∧ 1 ≤ held x) (hall : ∀ q, q < S → Mis S N m k q) : False := by
  have hs := h.sum
  have hz : nzS S m = S := by
    unfold nzS
    rw [sumR_eq _ (fun _ => 1) S fun i hi => ?_, sumR_one]
    obtain ⟨r, hr, rfl⟩ := hS_surj S hS1 k i hi
    obtain ⟨n, _, e, _⟩ := hall r hr
    rw [if_neg (by omega)]
  rcases hne with hne | ⟨x, hx, h1⟩
  · have : F.length ≠ 0 := fun e => hne (List.eq_nil_of_length_eq_zero e)
    omega
  · have := sum_range_le held x N hx
    unfold sumR at hs
    omega
theorem used_le (l : List Wk) : (l.map usedW).sum ≤ l.length := by
  have h2 : ((l.map fun _ => 1).sum : Nat) = l.length := by induction l with
    | nil => rfl
    | cons a l ih => rw [List.map_cons, List.sum_cons, ih, List.length_cons]; omega
  have h1 := sum_le usedW (fun _ => 1) l fun x _ => by unfold usedW; split <;> omega
  omega
theorem used_lt (l : List Wk) (j : Nat) (hj : j < l.length) (h0 : usedW (l.getD j wk0) = 0) : (l.map usedW).sum < l.length := by
  have h1 := sum_same usedW l j { wk0 with r5 := 1 } hj
  have h2 := used_le (l.set j { wk0 with r5 := 1 })
  rw [List.length_set] at h2
  rw [← getD_at l j hj wk0, h0] at h1
  have : usedW { wk0 with r5 := 1 } = 1 := rfl
  omega
theorem CI.room (hS1 : 1 ≤ S) (hNS : N ≤ S) (h : CI S N m0 F0 ks m now F C) (hF : ks.length ≤ F0) (hj : j < now.length) (hw : now.getD j wk0 = w) (hd : w.done = false) (h5 : w.r5 = 0 ∨ ∃ x : Nat, x < N ∧ w.r5 = (x : Int) + 1) : Room S N m F k w := by
  have hne : w.r5 = 0 → F ≠ [] := fun e => by
    have h1 := used_lt now j hj (by rw [hw]; unfold usedW; rw [if_pos e])
    have h2 := h.cnt
    have h3 := h.ln
    rintro rfl
    simp at h2
    omega
  refine ⟨hne, fun r hr hall => Decidable.byContradiction fun hc => ?_⟩
  have hrS : r + 1 = S := by omega
  rw [hrS] at hall
  refine h.tab.room hS1 hNS ?_ hall
  rcases h5 with e | ⟨x, hx, e⟩
  · exact .inl (hne e)
  · refine .inr ⟨x, hx, ?_⟩
    have := le_sum (fun w => heldW w x) now j hj
    rw [← getD_at now j hj wk0, hw] at this
    have h1 : heldW w x = 1 := by unfold heldW; rw [if_pos ⟨hd, e⟩]
    omega
theorem CI_step (hS1 : 1 ≤ S) (hNS : N ≤ S) (hN : N ≤ 100) (h : CI S N m0 F0 ks m now F C) (hF : ks.length ≤ F0) (hj : j < now.length) (hd : (now.getD j wk0).done = false) :
    ∃ m' w' F' C', stI S N m (now.getD j wk0) = (m', w', 0) ∧ SR S N m F C (ks.getD j k0) (now.getD j wk0) m' w' F' C' := by
  have hwi := h.all j hj
  have hroom := fun h5 => h.room (k := ks.getD j k0) hS1 hNS hF hj rfl hd h5
  have hhd : ∀ x : Nat, heldW (now.getD j wk0) x = 1 → 1 ≤ (now.map fun w => heldW w x).sum := fun x e => by
    have := le_sum (fun w => heldW w x) now j hj
    rw [← getD_at now j hj wk0, e] at this
    exact this
  have htab := h.tab
  generalize hw : now.getD j wk0 = w at *
  generalize ks.getD j k0 = k at *
  cases hwi with
  | look r r5 r6 r7 o h1 h2 h3 h4 =>
    obtain ⟨w', e1, e2⟩ := s_look r r5 r6 r7 o hS1 htab h1 h2 h3 h4
    exact ⟨_, _, _, _, e1, e2⟩
  | cmp r n j r5 o h1 h2 h3 h4 h5 h6 h7 =>
    obtain ⟨w', e1, e2⟩ := s_cmp r n j r5 o hS1 htab h1 h2 h3 h4 h5 h6 h7 (hroom (by
      rcases h7 with e | ⟨x, hx, e, _⟩
      · exact .inl e
      · exact .inr ⟨x, hx, e⟩))
    exact ⟨_, _, _, _, e1, e2⟩
  | head r r6 r7 o h1 h2 h3 =>
    obtain ⟨w', e1, e2⟩ := s_head r r6 r7 o hN htab h1 h2 h3 (hroom (.inl rfl))
    exact ⟨_, _, _, _, e1, e2⟩
  | next r c a r7 o h1 h2 h3 h4 h5 h6 h7 =>
    obtain ⟨w', e1, e2⟩ := s_next r c a r7 o hN htab h1 h2 h4 h5 h6 h7
    exact ⟨_, _, _, _, e1, e2⟩
  | take r c a l o h1 h2 h3 h4 h5 h6 h7 => exact s_take r c a l o hN htab h1 h2 h3 h4 h5 h6 h7
  | write r x j r6 o h1 h2 h3 h4 h5 => exact s_write r x j r6 o htab (hhd x (held_own x)) h1 h2 h3 h4 h5
  | claim r x r6 r7 o h1 h2 h3 h4 h5 => exact s_claim r x r6 r7 o hS1 htab h1 h2 h3 h4 h5
  | back r p x n r6 r7 h1 h2 h3 h4 => exact s_back r p x n r6 r7 htab h1 h2 h3 h4
  | link r p x n c a r7 h1 h2 h3 h4 h5 h6 h7 => exact s_link r p x n c a r7 hN htab (hhd x (held_own x)) h1 h2 h3 h4 h5 h6 h7
  | give r p x n c a r7 h1 h2 h3 h4 h5 h6 h7 => exact s_give r p x n c a r7 hN htab h1 h2 h3 h4 h5 h6 h7
  | done pc r4 r5 r6 r7 p n h => exact absurd hd (by simp)
/-- a worker that begins -/
def startK (k : Kid) : Wk := wW k 0 0 0 0 0 false 0
/-- what holds of words and workers all the while -/
def CK (S N : Nat) (m0 : List Int) (F0 C0 : Nat) (ks : List Kid) (m : List Int) (now : List Wk) : Prop := ∃ F C, CI S N m0 F0 ks m now F C ∧ C + phi S N m now ≤ C0 + 10000
theorem start_getD (ks : List Kid) (i : Nat) (hi : i < ks.length) : (ks.map startK).getD i wk0 = startK (ks.getD i k0) := by
  rw [getD_at _ i (by simpa using hi), getD_at ks i hi, List.getElem_map]
theorem sum_zero {α : Type} (f : α → Nat) (l : List α) (h : ∀ x ∈ l, f x = 0) : (l.map f).sum = 0 := by
  induction l with
  | nil => rfl
  | cons a l ih => rw [List.map_cons, List.sum_cons, h a (List.mem_cons_self ..), ih fun x hx => h x (List.mem_cons_of_mem _ hx)]
theorem CI_begin (hS1 : 1 ≤ S) (h : Tab S N m F C (fun _ => 0)) (ks : List Kid) : CI S N m F.length ks m (ks.map startK) F C := by
  have e : ∀ a, ((ks.map startK).map fun w => heldW w a).sum = 0 := fun a => sum_zero _ _ fun x hx => by
    obtain ⟨k, _, rfl⟩ := List.mem_map.1 hx
    exact held_0 a
  have e2 : ((ks.map startK).map usedW).sum = 0 := sum_zero _ _ fun x hx => by
    obtain ⟨k, _, rfl⟩ := List.mem_map.1 hx
    exact used_0
  refine ⟨⟨h.len, h.slots, h.head, h.chain, h.range, fun a => by rw [e a]; exact h.perm a⟩, by simp, fun i hi => ?_, by rw [e2]; rfl, fun i n hi e => ?_, fun _ _ _ h => h⟩
  · rw [List.length_map] at hi
    rw [start_getD ks i hi]
    exact .look 0 0 0 0 0 (by omega) (fun q hq => by omega) (by omega) (.inl rfl)
  · obtain ⟨n', hn, e1, p, h1, _⟩ := h.slots i hi (by omega)
    have : n' = n := by omega
    subst this
    exact .inl ⟨p, h1⟩
theorem phi_begin (hS30 : S ≤ 30) (ks : List Kid) (hk : ks.length ≤ 12) : phi S N m (ks.map startK) ≤ 7500 := by
  unfold phi
  have h1 := sum_le (phW S N m) (fun _ => 0 + 624) (ks.map startK) fun x hx => by
    obtain ⟨k, _, rfl⟩ := List.mem_map.1 hx
    have := phW_look_le (S := S) (N := N) (m := m) (k := k) 0 0 0 0 0
    rw [if_pos rfl] at this
    have e : startK k = wW k 0 (0 : Nat) 0 0 0 false 0 := rfl
    rw [e]; omega
  have h2 := sum_add (fun _ : Wk => 0) 624 (ks.map startK)
  have h3 := sum_zero (fun _ : Wk => 0) (ks.map startK) fun _ _ => rfl
  rw [List.length_map] at h2
  omega
theorem CK_step (hS1 : 1 ≤ S) (hNS : N ≤ S) (hN : N ≤ 100) {C0 : Nat} (hF : ks.length ≤ F0) (hk : ks.length ≤ 12) (h : CK S N m0 F0 C0 ks m now) (hj : j < now.length) (hd : (now.getD j wk0).done = false) :
    (stI S N m (now.getD j wk0)).2.2 = 0 ∧ CK S N m0 F0 C0 ks (stI S N m (now.getD j wk0)).1 (now.set j (stI S N m (now.getD j wk0)).2.1) ∧ phi S N (stI S N m (now.getD j wk0)).1 (now.set j (stI S N m (now.getD j wk0)).2.1) < phi S N m now := by
  obtain ⟨F, C, h, hc⟩ := h
  obtain ⟨m', w', F', C', e, s⟩ := CI_step hS1 hNS hN h hF hj hd
  rw [e]
  have h1 := CI_put hS1 h hj rfl rfl s
  obtain ⟨h2, h3⟩ := phi_step hS1 (by have := h.ln; omega) hj rfl s
  exact ⟨rfl, ⟨F', C', h1, by simp only; omega⟩, h2⟩
/-- a crowd on a table where there is room -/
theorem crowd_run (hS1 : 1 ≤ S) (hS30 : S ≤ 30) (hNS : N ≤ S) (hN : N ≤ 100) (h : Tab S N m F C (fun _ => 0)) (ks : List Kid) (hk : ks.length ≤ 12) (hkF : ks.length ≤ F.length) (picks : List Int) :
    ∃ m' l' F' C', driveT (stI S N) picks m (ks.map startK) = (m', l', 0) ∧ CI S N m F.length ks m' l' F' C' ∧ (∀ w ∈ l', w.done = true) ∧ C' ≤ C + 10000 := by
  have hp := phi_begin (S := S) (N := N) (m := m) hS30 ks hk
  obtain ⟨m', l', h1, ⟨F', C', h2, h3⟩, h4⟩ := driveL_inv (stI S N) picks m (ks.map startK) (CK S N m F.length C ks) (phi S N) (fun ws now j hI hj hd => CK_step hS1 hNS hN hkF hk hI hj hd) 100000 (-1) m (ks.map startK) (Nat.le_refl _) ⟨F, C, CI_begin hS1 h ks, by omega⟩ (by omega)
  refine ⟨m', l', F', C', ?_, h2, h4, by omega⟩
  unfold driveT
  rw [if_neg (by rw [List.length_map]; omega), h1]
theorem CI.tab_end (h : CI S N m0 F0 ks m now F C) (hd : ∀ w ∈ now, w.done = true) : Tab S N m F C (fun _ => 0) := by
  have e : ∀ a, (now.map fun w => heldW w a).sum = 0 := fun a => sum_zero _ _ fun x hx => by unfold heldW; rw [if_neg (by rw [hd x hx]; simp)]
  refine ⟨h.tab.len, h.tab.slots, h.tab.head, h.tab.chain, h.tab.range, fun a => ?_⟩
  have := h.tab.perm a
  rw [e a] at this
  exact this
theorem CI.out (h : CI S N m0 F0 ks m now F C) (hd : ∀ w ∈ now, w.done = true) {i : Nat} (hi : i < ks.length) : ∃ p n : Nat, At S N m (ks.getD i k0) p n ∧ (now.getD i wk0).out = n := by
  have hi' : i < now.length := by rw [h.ln]; exact hi
  have h1 := h.all i hi'
  have h2 := hd (now.getD i wk0) (by rw [getD_at now i hi']; exact List.getElem_mem hi')
  generalize now.getD i wk0 = w at *
  cases h1 <;> first | exact ⟨_, _, by assumption, rfl⟩ | (simp at h2)
theorem CI.left (h : CI S N m0 F0 ks m now F C) : F0 ≤ F.length + ks.length := by
  have h1 := h.cnt
  have h2 := used_le now
  have h3 := h.ln
  omega
end
end Go.Proofs.Ytphjglbbhanmpaa.Ab
