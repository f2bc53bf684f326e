/- Crowds on a table: what holds all the while; each step (plain). -/
import Derived.Test.YtphjglbbhanmpaaKD
namespace Go.Proofs.Ytphjglbbhanmpaa.Ab
open Go Go.RowKit
theorem getD_at {α : Type} (l : List α) (j : Nat) (h : j < l.length) (d : α) : l.getD j d = l[j] := by
  rw [List.getD_eq_getElem?_getD, List.getElem?_eq_getElem h]; rfl
theorem set_getDw {α : Type} (l : List α) (j : Nat) (v d : α) (hj : j < l.length) (i : Nat) : (l.set j v).getD i d = if j = i then v else l.getD i d := by
  rw [List.getD_eq_getElem?_getD, List.getElem?_set]
  by_cases h : j = i
  · subst h; simp [hj]
  · rw [if_neg h, if_neg h, List.getD_eq_getElem?_getD]
theorem hn_at (c h : Nat) (hh : h < 1048576) : Hn ((c : Int) * 1048576 + h) = h := by unfold Hn; rw [if_neg (by omega)]; omega
abbrev Kid : Type := Int × Int × Int × Int
def kc (k : Kid) (j : Nat) : Int := if j = 0 then k.1 else if j = 1 then k.2.1 else if j = 2 then k.2.2.1 else k.2.2.2
def kh (k : Kid) : Int := hashOf [k.1, k.2.1, k.2.2.1, k.2.2.2]
def hS (S : Nat) (k : Kid) (r : Nat) : Nat := ((kh k + r) % S).toNat
theorem hS_lt (S : Nat) (hS0 : 1 ≤ S) (k : Kid) (r : Nat) : hS S k r < S ∧ ((hS S k r : Nat) : Int) = (kh k + r) % S := by
  unfold hS
  have h1 := Int.emod_nonneg (kh k + r) (b := (S : Int)) (by omega)
  have h2 := Int.emod_lt_of_pos (kh k + r) (b := (S : Int)) (by omega)
  omega
def kidsAt (S : Nat) (m : List Int) (n : Nat) : Kid := (m.getD (S + 4 * n) 0, m.getD (S + 4 * n + 1) 0, m.getD (S + 4 * n + 2) 0, m.getD (S + 4 * n + 3) 0)
theorem at_kids {S : Nat} {m : List Int} {k : Kid} (n : Nat) (h : ∀ j, j < 4 → m.getD (S + 4 * n + j) 0 = kc k j) : kidsAt S m n = k := by
  have h0 := h 0 (by omega)
  have h1 := h 1 (by omega)
  have h2 := h 2 (by omega)
  have h3 := h 3 (by omega)
  unfold kidsAt
  rw [show m.getD (S + 4 * n) 0 = k.1 from h0, h1, h2, h3]; rfl
theorem kids_at {S : Nat} {m : List Int} {k : Kid} (n : Nat) (h : kidsAt S m n = k) : ∀ j, j < 4 → m.getD (S + 4 * n + j) 0 = kc k j := by
  intro j hj
  subst h
  rcases (by omega : j = 0 ∨ j = 1 ∨ j = 2 ∨ j = 3) with rfl | rfl | rfl | rfl <;> rfl
/-- at a slot there is another node -/
def Mis (S N : Nat) (m : List Int) (k : Kid) (r : Nat) : Prop := ∃ n : Nat, n < N ∧ m.getD (hS S k r) 0 = (n : Int) + 1 ∧ kidsAt S m n ≠ k
/-- a node is in the table, the so many-th on the way of its kids -/
structure At (S N : Nat) (m : List Int) (k : Kid) (p n : Nat) : Prop where
  lt : p < S
  ln : n < N
  at_ : m.getD (hS S k p) 0 = (n : Int) + 1
  kids : kidsAt S m n = k
  mis : ∀ q, q < p → Mis S N m k q
theorem At.same {S N : Nat} {m : List Int} {k : Kid} {p n p' n' : Nat} (h : At S N m k p n) (h' : At S N m k p' n') : p = p' ∧ n = n' := by
  have one : ∀ p n p' n' : Nat, At S N m k p n → At S N m k p' n' → ¬ p < p' := fun p n p' n' h h' hl => by
    obtain ⟨x, _, e, hne⟩ := h'.mis _ hl
    have e2 := e.symm.trans h.at_
    have : x = n := by omega
    subst this
    exact hne h.kids
  have hp : p = p' := by have := one _ _ _ _ h h'; have := one _ _ _ _ h' h; omega
  subst hp
  have := h.at_.symm.trans h'.at_
  exact ⟨rfl, by omega⟩
def hdF : List Nat → Int
  | [] => 0
  | x :: _ => (x : Int) + 1
theorem hdF_le {F : List Nat} {n : Nat} (h : ∀ x ∈ F, x < n) : ∃ m : Nat, hdF F = m ∧ m ≤ n := by
  cases F with
  | nil => exact ⟨0, rfl, by omega⟩
  | cons x _ => exact ⟨x + 1, rfl, h x (List.mem_cons_self ..)⟩
def ChainT (S N : Nat) (m : List Int) : List Nat → Prop
  | [] => True
  | x :: F => m.getD (S + 4 * N + 1 + x) 0 = hdF F ∧ ChainT S N m F
theorem ChainT.mono {S N : Nat} {m m' : List Int} : ∀ {F : List Nat}, (∀ x ∈ F, m'.getD (S + 4 * N + 1 + x) 0 = m.getD (S + 4 * N + 1 + x) 0) → ChainT S N m F → ChainT S N m' F
  | [], _, _ => True.intro
  | _ :: _, h, hc => ⟨(h _ (List.mem_cons_self ..)).trans hc.1, ChainT.mono (fun y hy => h y (List.mem_cons_of_mem _ hy)) hc.2⟩
def giveW (w : Wk) (b : Bool) : Wk := if b = true then { w with pc := 32, r5 := 0, done := true } else { w with pc := 30 }
/-- a step, where all is in order -/
def stI (S N : Nat) (m : List Int) (w : Wk) : List Int × Wk × Int :=
  if w.pc = 0 then (m, lookW w (m.getD (slotV w S).toNat 0), 0)
  else if w.pc = 1 then (m, cmpW w S (m.getD (S + 4 * w.r6 + w.r7).toNat 0), 0)
  else if w.pc = 10 then (m, headW w (m.getD (S + 4 * N) 0), 0)
  else if w.pc = 11 then (m, { w with r7 := m.getD (S + 4 * N + (Hn w.r6).toNat) 0, pc := 12 }, 0)
  else if w.pc = 12 then (if m.getD (S + 4 * N) 0 = w.r6 then m.set (S + 4 * N) ((w.r6 / 1048576 + 1) * 1048576 + w.r7) else m, takeW w (decide (m.getD (S + 4 * N) 0 = w.r6)), 0)
  else if w.pc = 13 then (m.set (S + 4 * (w.r5 - 1) + w.r7).toNat (reg w), wrW w, 0)
  else if w.pc = 20 then (if m.getD (slotV w S).toNat 0 = 0 then m.set (slotV w S).toNat w.r5 else m, clW w (decide (m.getD (slotV w S).toNat 0 = 0)), 0)
  else if w.pc = 30 then (m, { w with r6 := m.getD (S + 4 * N) 0, pc := 31 }, 0)
  else if w.pc = 31 then (m.set (S + 4 * N + w.r5.toNat) (Hn w.r6), { w with pc := 32 }, 0)
  else (if m.getD (S + 4 * N) 0 = w.r6 then m.set (S + 4 * N) ((w.r6 / 1048576 + 1) * 1048576 + w.r5) else m, giveW w (decide (m.getD (S + 4 * N) 0 = w.r6)), 0)
/-- a worker that wants a node -/
abbrev wW (k : Kid) (pc r4 r5 r6 r7 : Int) (d : Bool) (o : Int) : Wk := ⟨pc, 3, k.1, k.2.1, k.2.2.1, k.2.2.2, r4, r5, r6, r7, d, o⟩
theorem slotW (S : Nat) (k : Kid) (pc : Int) (r : Nat) (r5 r6 r7 : Int) (d : Bool) (o : Int) : (slotV (wW k pc r r5 r6 r7 d o) S).toNat = hS S k r := rfl
/-- the node that a worker has taken -/
def heldW (w : Wk) (a : Nat) : Nat := if w.done = false ∧ w.r5 = (a : Int) + 1 then 1 else 0
def usedW (w : Wk) : Nat := if w.r5 = 0 then 0 else 1
/-- how far a worker is from its end -/
def phW (S N : Nat) (m : List Int) (w : Wk) : Nat :=
  if w.done = true then 0 else
  (if w.r5 = 0 then 128 else 64) +
  (if w.pc = 0 then 16 * (S - w.r4.toNat) + (if m.getD (slotV w S).toNat 0 = 0 then (if w.r5 = 0 then 16 else 10) else 6)
   else if w.pc = 1 then 16 * (S - w.r4.toNat) + (5 - w.r7.toNat)
   else if w.pc = 10 then 16 * (S - w.r4.toNat) + 15
   else if w.pc = 11 then 16 * (S - w.r4.toNat) + (if w.r6 = m.getD (S + 4 * N) 0 then 14 else 17)
   else if w.pc = 12 then 16 * (S - w.r4.toNat) + (if w.r6 = m.getD (S + 4 * N) 0 then 13 else 16)
   else if w.pc = 13 then 16 * (S - w.r4.toNat) + (13 - w.r7.toNat)
   else if w.pc = 20 then 16 * (S - w.r4.toNat) + (if m.getD (slotV w S).toNat 0 = 0 then 9 else 7)
   else if w.pc = 30 then 15
   else if w.pc = 31 then (if w.r6 = m.getD (S + 4 * N) 0 then 14 else 17)
   else (if w.r6 = m.getD (S + 4 * N) 0 then 13 else 16))
def Own (S N : Nat) (m : List Int) (k : Kid) (r5 : Int) : Prop := r5 = 0 ∨ ∃ x : Nat, x < N ∧ r5 = (x : Int) + 1 ∧ kidsAt S m x = k
/-- what holds of a worker -/
inductive WkI (S N : Nat) (m : List Int) (F : List Nat) (C : Nat) (k : Kid) : Wk → Prop
  | look (r : Nat) (r5 r6 r7 o : Int) : r < S → (∀ q, q < r → Mis S N m k q) → 0 ≤ r7 → Own S N m k r5 → WkI S N m F C k (wW k 0 r r5 r6 r7 false o)
  | cmp (r n j : Nat) (r5 o : Int) : r < S → (∀ q, q < r → Mis S N m k q) → n < N → m.getD (hS S k r) 0 = (n : Int) + 1 → j < 4 → (∀ i, i < j → m.getD (S + 4 * n + i) 0 = kc k i) → Own S N m k r5 → WkI S N m F C k (wW k 1 r r5 n j false o)
  | head (r : Nat) (r6 r7 o : Int) : r < S → (∀ q, q < r → Mis S N m k q) → 0 ≤ r7 → WkI S N m F C k (wW k 10 r 0 r6 r7 false o)
  | next (r c h : Nat) (r7 o : Int) : r < S → (∀ q, q < r → Mis S N m k q) → 0 ≤ r7 → c ≤ C → 1 ≤ h → h ≤ N → (c = C → (h : Int) = hdF F) → WkI S N m F C k (wW k 11 r 0 ((c : Int) * 1048576 + h) r7 false o)
  | take (r c h l : Nat) (o : Int) : r < S → (∀ q, q < r → Mis S N m k q) → c ≤ C → 1 ≤ h → h ≤ N → l ≤ N → (c = C → ∃ x F', F = x :: F' ∧ h = x + 1 ∧ (l : Int) = hdF F') → WkI S N m F C k (wW k 12 r 0 ((c : Int) * 1048576 + h) l false o)
  | write (r x j : Nat) (r6 o : Int) : r < S → (∀ q, q < r → Mis S N m k q) → x < N → j < 4 → (∀ i, i < j → m.getD (S + 4 * x + i) 0 = kc k i) → WkI S N m F C k (wW k 13 r ((x : Int) + 1) r6 j false o)
  | claim (r x : Nat) (r6 r7 o : Int) : r < S → (∀ q, q < r → Mis S N m k q) → x < N → 0 ≤ r7 → kidsAt S m x = k → WkI S N m F C k (wW k 20 r ((x : Int) + 1) r6 r7 false o)
  | back (r p x n : Nat) (r6 r7 : Int) : r < S → 0 ≤ r7 → x < N → At S N m k p n → WkI S N m F C k (wW k 30 r ((x : Int) + 1) r6 r7 false n)
  | link (r p x n c h : Nat) (r7 : Int) : r < S → 0 ≤ r7 → x < N → At S N m k p n → c ≤ C → h ≤ N → (c = C → (h : Int) = hdF F) → WkI S N m F C k (wW k 31 r ((x : Int) + 1) ((c : Int) * 1048576 + h) r7 false n)
  | give (r p x n c h : Nat) (r7 : Int) : r < S → 0 ≤ r7 → x < N → At S N m k p n → c ≤ C → h ≤ N → (c = C → (h : Int) = hdF F ∧ m.getD (S + 4 * N + 1 + x) 0 = h) → WkI S N m F C k (wW k 32 r ((x : Int) + 1) ((c : Int) * 1048576 + h) r7 false n)
  | done (pc r4 r5 r6 r7 : Int) (p n : Nat) : At S N m k p n → WkI S N m F C k (wW k pc r4 r5 r6 r7 true n)
/-- how often a node stands in the slots -/
def pubC (S : Nat) (m : List Int) (a : Nat) : Nat := ((List.range S).map fun i => if m.getD i 0 = (a : Int) + 1 then 1 else 0).sum
theorem sum_range_upd (f g : Nat → Nat) (s : Nat) : ∀ S : Nat, (∀ i, i < S → i ≠ s → f i = g i) → s < S → ((List.range S).map f).sum + g s = ((List.range S).map g).sum + f s
  | 0, _, h => by omega
  | S + 1, h, hs => by
    rw [List.range_succ, List.map_append, List.map_append, List.sum_append, List.sum_append]
    simp only [List.map_cons, List.map_nil, List.sum_cons, List.sum_nil]
    by_cases e : s = S
    · subst e
      have : (List.range s).map f = (List.range s).map g := List.map_congr_left fun i hi => h i (by have := List.mem_range.1 hi; omega) (by have := List.mem_range.1 hi; omega)
      rw [this]; omega
    · have := sum_range_upd f g s S (fun i hi hne => h i (by omega) hne) (by omega)
      have := h S (by omega) (fun e' => e e'.symm)
      omega
theorem sum_range_le (f : Nat → Nat) (s : Nat) : ∀ S : Nat, s < S → f s ≤ ((List.range S).map f).sum
  | 0, h => by omega
  | S + 1, hs => by
    rw [List.range_succ, List.map_append, List.sum_append]
    simp only [List.map_cons, List.map_nil, List.sum_cons, List.sum_nil]
    by_cases e : s = S
    · subst e; omega
    · have := sum_range_le f s S (by omega); omega
theorem pubC_same {S : Nat} {m m' : List Int} (h : ∀ i, i < S → m'.getD i 0 = m.getD i 0) (a : Nat) : pubC S m' a = pubC S m a := by
  unfold pubC
  rw [List.map_congr_left fun i hi => by rw [h i (List.mem_range.1 hi)]]
theorem pubC_pos {S : Nat} {m : List Int} {i a : Nat} (hi : i < S) (h : m.getD i 0 = (a : Int) + 1) : 1 ≤ pubC S m a := by
  have := sum_range_le (fun i => if m.getD i 0 = (a : Int) + 1 then 1 else 0) i S hi
  simp only [h, if_true] at this
  exact this
/-- a table, its free list; held: how often a node is a worker's -/
structure Tab (S N : Nat) (m : List Int) (F : List Nat) (C : Nat) (held : Nat → Nat) : Prop where
  len : m.length = S + 4 * N + (N + 1)
  slots : ∀ i, i < S → m.getD i 0 ≠ 0 → ∃ n : Nat, n < N ∧ m.getD i 0 = (n : Int) + 1 ∧ ∃ p, At S N m (kidsAt S m n) p n ∧ hS S (kidsAt S m n) p = i
  head : m.getD (S + 4 * N) 0 = (C : Int) * 1048576 + hdF F
  chain : ChainT S N m F
  range : ∀ x, x < N → 0 ≤ m.getD (S + 4 * N + 1 + x) 0 ∧ m.getD (S + 4 * N + 1 + x) 0 ≤ N
  perm : ∀ a, F.count a + pubC S m a + held a = if a < N then 1 else 0
/-- what a step brings -/
structure SR (S N : Nat) (m : List Int) (F : List Nat) (C : Nat) (k : Kid) (w : Wk) (m' : List Int) (w' : Wk) (F' : List Nat) (C' : Nat) : Prop where
  len : m'.length = m.length
  hs : ∀ i, i < S → m.getD i 0 ≠ 0 → m'.getD i 0 = m.getD i 0
  hk : ∀ n j, n < N → j < 4 → heldW w n = 0 → m'.getD (S + 4 * n + j) 0 = m.getD (S + 4 * n + j) 0
  hl : ∀ x, x < N → heldW w x = 0 → m'.getD (S + 4 * N + 1 + x) 0 = m.getD (S + 4 * N + 1 + x) 0
  hC : (C' = C ∧ F' = F ∧ m'.getD (S + 4 * N) 0 = m.getD (S + 4 * N) 0) ∨ (C' = C + 1 ∧ m'.getD (S + 4 * N) 0 = (C' : Int) * 1048576 + hdF F')
  chain : ChainT S N m' F'
  range : ∀ x, x < N → 0 ≤ m'.getD (S + 4 * N + 1 + x) 0 ∧ m'.getD (S + 4 * N + 1 + x) 0 ≤ N
  new : ∀ i, i < S → m'.getD i 0 ≠ m.getD i 0 → ∃ x p : Nat, x < N ∧ m'.getD i 0 = (x : Int) + 1 ∧ At S N m' k p x ∧ hS S k p = i
  perm : ∀ a, F'.count a + pubC S m' a + heldW w' a = F.count a + pubC S m a + heldW w a
  wi : WkI S N m' F' C' k w'
  cnt : F'.length + usedW w' = F.length + usedW w
  dec : phW S N m' w' + 36 * (C' - C) < phW S N m w
section
variable {S N : Nat} {m m' : List Int} {F F' : List Nat} {C C' : Nat} {k : Kid} {w w' : Wk}
theorem Mis.mono {q : Nat} (hS1 : 1 ≤ S) (hs : ∀ i, i < S → m.getD i 0 ≠ 0 → m'.getD i 0 = m.getD i 0) (hk : ∀ n, n < N → (∃ i, i < S ∧ m.getD i 0 = (n : Int) + 1) → ∀ j, j < 4 → m'.getD (S + 4 * n + j) 0 = m.getD (S + 4 * n + j) 0) (h : Mis S N m k q) : Mis S N m' k q := by
  obtain ⟨n, hn, e, hne⟩ := h
  obtain ⟨h1, _⟩ := hS_lt S hS1 k q
  refine ⟨n, hn, by rw [hs _ h1 (by omega), e], fun e2 => hne ?_⟩
  refine at_kids n fun j hj => ?_
  rw [← hk n hn ⟨_, h1, e⟩ j hj]
  exact kids_at n e2 j hj
theorem kids_mono {n : Nat} (h : ∀ j, j < 4 → m'.getD (S + 4 * n + j) 0 = m.getD (S + 4 * n + j) 0) : kidsAt S m' n = kidsAt S m n :=
  at_kids n fun j hj => by rw [h j hj]; exact kids_at n rfl j hj
theorem At.mono {p n : Nat} (hS1 : 1 ≤ S) (hs : ∀ i, i < S → m.getD i 0 ≠ 0 → m'.getD i 0 = m.getD i 0) (hk : ∀ n, n < N → (∃ i, i < S ∧ m.getD i 0 = (n : Int) + 1) → ∀ j, j < 4 → m'.getD (S + 4 * n + j) 0 = m.getD (S + 4 * n + j) 0) (h : At S N m k p n) : At S N m' k p n := by
  obtain ⟨h1, _⟩ := hS_lt S hS1 k p
  refine ⟨h.lt, h.ln, by rw [hs _ h1 (by have := h.at_; omega), h.at_], ?_, fun q hq => (h.mis q hq).mono hS1 hs hk⟩
  rw [kids_mono (hk n h.ln ⟨_, h1, h.at_⟩), h.kids]
theorem Own.mono {r5 : Int} (hk : ∀ x : Nat, x < N → r5 = (x : Int) + 1 → ∀ j, j < 4 → m'.getD (S + 4 * x + j) 0 = m.getD (S + 4 * x + j) 0) (h : Own S N m k r5) : Own S N m' k r5 := by
  rcases h with h | ⟨x, hx, e, h⟩
  · exact .inl h
  · exact .inr ⟨x, hx, e, by rw [kids_mono (hk x hx e), h]⟩
theorem held_own {pc r4 r6 r7 o : Int} (x : Nat) : heldW (wW k pc r4 ((x : Int) + 1) r6 r7 false o) x = 1 := by unfold heldW; simp
/-- what holds of a worker holds when another one has made a step -/
theorem WkI.mono (hS1 : 1 ≤ S) (h : WkI S N m F C k w) (hs : ∀ i, i < S → m.getD i 0 ≠ 0 → m'.getD i 0 = m.getD i 0)
    (hk : ∀ n, n < N → ((∃ i, i < S ∧ m.getD i 0 = (n : Int) + 1) ∨ heldW w n = 1) → ∀ j, j < 4 → m'.getD (S + 4 * n + j) 0 = m.getD (S + 4 * n + j) 0)
    (hl : ∀ x, x < N → heldW w x = 1 → m'.getD (S + 4 * N + 1 + x) 0 = m.getD (S + 4 * N + 1 + x) 0)
    (hC : (C' = C ∧ F' = F) ∨ C' = C + 1) : WkI S N m' F' C' k w := by
  have hk1 : ∀ n, n < N → (∃ i, i < S ∧ m.getD i 0 = (n : Int) + 1) → ∀ j, j < 4 → m'.getD (S + 4 * n + j) 0 = m.getD (S + 4 * n + j) 0 := fun n hn h => hk n hn (.inl h)
  have mis : ∀ {r : Nat}, (∀ q, q < r → Mis S N m k q) → ∀ q, q < r → Mis S N m' k q := fun h q hq => (h q hq).mono hS1 hs hk1
  have hCl : ∀ {c : Nat}, c ≤ C → c ≤ C' := fun h => by rcases hC with ⟨h1, _⟩ | h1 <;> omega
  have hCe : ∀ {c : Nat}, c ≤ C → c = C' → c = C ∧ F' = F := fun h e => by
    rcases hC with ⟨h1, h2⟩ | h1
    · exact ⟨by omega, h2⟩
    · omega
  have own : ∀ {r5 : Int}, (∀ x : Nat, r5 = (x : Int) + 1 → heldW w x = 1) → Own S N m k r5 → Own S N m' k r5 := fun hh h => h.mono fun x hx e => hk x hx (.inr (hh x e))
  cases h with
  | look r r5 r6 r7 o h1 h2 h3 h4 => exact .look r r5 r6 r7 o h1 (mis h2) h3 (own (fun x e => by unfold heldW; rw [if_pos ⟨rfl, e⟩]) h4)
  | cmp r n j r5 o h1 h2 h3 h4 h5 h6 h7 =>
    obtain ⟨k1, _⟩ := hS_lt S hS1 k r
    refine .cmp r n j r5 o h1 (mis h2) h3 (by rw [hs _ k1 (by omega), h4]) h5 (fun i hi => ?_) (own (fun x e => by unfold heldW; rw [if_pos ⟨rfl, e⟩]) h7)
    rw [hk1 n h3 ⟨_, k1, h4⟩ i (by omega)]; exact h6 i hi
  | head r r6 r7 o h1 h2 h3 => exact .head r r6 r7 o h1 (mis h2) h3
  | next r c h r7 o h1 h2 h3 h4 h5 h6 h7 =>
    exact .next r c h r7 o h1 (mis h2) h3 (hCl h4) h5 h6 fun e => by obtain ⟨e1, e2⟩ := hCe h4 e; rw [e2]; exact h7 e1
  | take r c h l o h1 h2 h3 h4 h5 h6 h7 =>
    exact .take r c h l o h1 (mis h2) (hCl h3) h4 h5 h6 fun e => by obtain ⟨e1, e2⟩ := hCe h3 e; rw [e2]; exact h7 e1
  | write r x j r6 o h1 h2 h3 h4 h5 =>
    exact .write r x j r6 o h1 (mis h2) h3 h4 fun i hi => by rw [hk x h3 (.inr (held_own x)) i (by omega)]; exact h5 i hi
  | claim r x r6 r7 o h1 h2 h3 h4 h5 =>
    exact .claim r x r6 r7 o h1 (mis h2) h3 h4 (by rw [kids_mono (hk x h3 (.inr (held_own x))), h5])
  | back r p x n r6 r7 h1 h2 h3 h4 => exact .back r p x n r6 r7 h1 h2 h3 (h4.mono hS1 hs hk1)
  | link r p x n c h r7 h1 h2 h3 h4 h5 h6 h7 =>
    exact .link r p x n c h r7 h1 h2 h3 (h4.mono hS1 hs hk1) (hCl h5) h6 fun e => by obtain ⟨e1, e2⟩ := hCe h5 e; rw [e2]; exact h7 e1
  | give r p x n c h r7 h1 h2 h3 h4 h5 h6 h7 =>
    exact .give r p x n c h r7 h1 h2 h3 (h4.mono hS1 hs hk1) (hCl h5) h6 fun e => by
      obtain ⟨e1, e2⟩ := hCe h5 e
      rw [e2, hl x h3 (held_own x)]; exact h7 e1
  | done pc r4 r5 r6 r7 p n h => exact .done pc r4 r5 r6 r7 p n (h.mono hS1 hs hk1)
end
theorem sum_le {α : Type} (f g : α → Nat) : ∀ (l : List α), (∀ x ∈ l, f x ≤ g x) → (l.map f).sum ≤ (l.map g).sum
  | [], _ => by simp
  | a :: l, h => by
    have h1 := h a (List.mem_cons_self ..)
    have h2 := sum_le f g l fun x hx => h x (List.mem_cons_of_mem _ hx)
    simp only [List.map_cons, List.sum_cons]
    omega
theorem sum_set {α : Type} (F G : α → Nat) : ∀ (l : List α) (j : Nat) (x : α) (hj : j < l.length), (∀ w ∈ l, G w ≤ F w) → ((l.set j x).map G).sum + F l[j] ≤ (l.map F).sum + G x
  | a :: l, 0, x, _, h => by
    have := sum_le G F l fun y hy => h y (List.mem_cons_of_mem _ hy)
    simp only [List.set_cons_zero, List.map_cons, List.sum_cons, List.getElem_cons_zero]
    omega
  | a :: l, j + 1, x, hj, h => by
    have h1 := h a (List.mem_cons_self ..)
    have := sum_set F G l j x (by simpa using hj) (fun y hy => h y (List.mem_cons_of_mem _ hy))
    simp only [List.set_cons_succ, List.map_cons, List.sum_cons, List.getElem_cons_succ]
    omega
theorem sum_same {α : Type} (F : α → Nat) : ∀ (l : List α) (j : Nat) (x : α) (hj : j < l.length), ((l.set j x).map F).sum + F l[j] = (l.map F).sum + F x
  | a :: l, 0, x, _ => by
    simp only [List.set_cons_zero, List.map_cons, List.sum_cons, List.getElem_cons_zero]; omega
  | a :: l, j + 1, x, hj => by
    have := sum_same F l j x (by simpa using hj)
    simp only [List.set_cons_succ, List.map_cons, List.sum_cons, List.getElem_cons_succ]; omega
theorem sum_add {α : Type} (F : α → Nat) (c : Nat) : ∀ l : List α, (l.map fun x => F x + c).sum = (l.map F).sum + c * l.length
  | [] => by simp
  | a :: l => by
    simp only [List.map_cons, List.sum_cons, sum_add F c l, List.length_cons, Nat.mul_succ]; omega
theorem le_sum {α : Type} (F : α → Nat) : ∀ (l : List α) (j : Nat) (h : j < l.length), F l[j] ≤ (l.map F).sum
  | a :: l, 0, _ => by simp only [List.getElem_cons_zero, List.map_cons, List.sum_cons]; omega
  | a :: l, j + 1, h => by
    have := le_sum F l j (by simpa using h)
    simp only [List.getElem_cons_succ, List.map_cons, List.sum_cons]; omega
theorem two_le_sum {α : Type} (F : α → Nat) : ∀ (l : List α) (i j : Nat) (hi : i < l.length) (hj : j < l.length), i ≠ j → F l[i] + F l[j] ≤ (l.map F).sum
  | a :: l, 0, 0, _, _, h => absurd rfl h
  | a :: l, 0, j + 1, _, hj, _ => by
    have := le_sum F l j (by simpa using hj)
    simp only [List.getElem_cons_succ, List.getElem_cons_zero, List.map_cons, List.sum_cons]; omega
  | a :: l, i + 1, 0, hi, _, _ => by
    have := le_sum F l i (by simpa using hi)
    simp only [List.getElem_cons_succ, List.getElem_cons_zero, List.map_cons, List.sum_cons]; omega
  | a :: l, i + 1, j + 1, hi, hj, h => by
    have := two_le_sum F l i j (by simpa using hi) (by simpa using hj) (by omega)
    simp only [List.getElem_cons_succ, List.map_cons, List.sum_cons]; omega
def k0 : Kid := (0, 0, 0, 0)
/-- a crowd that works on a table -/
structure CI (S N : Nat) (m0 : List Int) (F0 : Nat) (ks : List Kid) (m : List Int) (now : List Wk) (F : List Nat) (C : Nat) : Prop where
  tab : Tab S N m F C (fun a => (now.map fun w => heldW w a).sum)
  ln : now.length = ks.length
  all : ∀ i, i < now.length → WkI S N m F C (ks.getD i k0) (now.getD i wk0)
  cnt : F.length + (now.map usedW).sum = F0
  org : ∀ i n : Nat, i < S → m.getD i 0 = (n : Int) + 1 → (∃ p, At S N m0 (kidsAt S m n) p n) ∨ kidsAt S m n ∈ ks
  old : ∀ k p n, At S N m0 k p n → At S N m k p n
def phi (S N : Nat) (m : List Int) (now : List Wk) : Nat := (now.map (phW S N m)).sum
section
variable {S N : Nat} {m m' m0 : List Int} {F F' : List Nat} {C C' F0 j : Nat} {k : Kid} {w w' : Wk} {ks : List Kid} {now : List Wk} {held : Nat → Nat}
theorem Tab.pub (h : Tab S N m F C held) {n : Nat} (hp : ∃ i, i < S ∧ m.getD i 0 = (n : Int) + 1) : n < N ∧ held n = 0 ∧ F.count n = 0 := by
  obtain ⟨i, hi, e⟩ := hp
  have h1 := h.perm n
  have h2 := pubC_pos hi e
  split at h1 <;> omega
theorem Tab.lt (h : Tab S N m F C held) {n : Nat} (hp : n ∈ F) : n < N ∧ held n = 0 ∧ pubC S m n = 0 := by
  have h1 := h.perm n
  have h2 := List.count_pos_iff.2 hp
  split at h1 <;> omega
theorem Tab.hd (h : Tab S N m F C held) : ∃ a : Nat, hdF F = a ∧ a ≤ N := hdF_le fun _ hx => (h.lt hx).1
theorem CI.unheld (h : CI S N m0 F0 ks m now F C) {n i : Nat} (hp : ∃ i, i < S ∧ m.getD i 0 = (n : Int) + 1) (hi : i < now.length) : heldW (now.getD i wk0) n = 0 := by
  have h1 := (h.tab.pub hp).2.1
  have h2 := le_sum (fun w => heldW w n) now i hi
  rw [← getD_at now i hi wk0] at h2
  have h1 : (now.map fun w => heldW w n).sum = 0 := h1
  omega
theorem CI_put (hS1 : 1 ≤ S) (h : CI S N m0 F0 ks m now F C) (hj : j < now.length) (hw : now.getD j wk0 = w) (hk : ks.getD j k0 = k) (s : SR S N m F C k w m' w' F' C') : CI S N m0 F0 ks m' (now.set j w') F' C' := by
  have ej := getD_at now j hj wk0
  have hkp : ∀ n, n < N → (∃ i, i < S ∧ m.getD i 0 = (n : Int) + 1) → ∀ j, j < 4 → m'.getD (S + 4 * n + j) 0 = m.getD (S + 4 * n + j) 0 := fun n hn hp i hi => s.hk n i hn hi (by rw [← hw]; exact h.unheld hp hj)
  have atm : ∀ {k p n}, At S N m k p n → At S N m' k p n := fun h => h.mono hS1 s.hs hkp
  have hsum := fun a => sum_same (fun w => heldW w a) now j w' hj
  refine ⟨⟨s.len.trans h.tab.len, fun i hi hne => ?_, ?_, s.chain, s.range, fun a => ?_⟩, by rw [List.length_set]; exact h.ln, fun i hi => ?_, ?_, fun i n hi e => ?_, fun k p n hh => atm (h.old k p n hh)⟩
  · by_cases e : m'.getD i 0 = m.getD i 0
    · obtain ⟨n, hn, e1, p, h1, h2⟩ := h.tab.slots i hi (by rw [← e]; exact hne)
      have := kids_mono (hkp n hn ⟨i, hi, e1⟩)
      exact ⟨n, hn, by rw [e, e1], p, by rw [this]; exact atm h1, by rw [this]; exact h2⟩
    · obtain ⟨x, p, hx, e1, h1, h2⟩ := s.new i hi e
      have := h1.kids
      subst this
      exact ⟨x, hx, e1, p, h1, h2⟩
  · rcases s.hC with ⟨e1, e2, e3⟩ | ⟨e1, e2⟩
    · rw [e3, e1, e2]; exact h.tab.head
    · exact e2
  · have h1 := h.tab.perm a
    have h2 := s.perm a
    have h3 := hsum a
    rw [← ej, hw] at h3
    omega
  · rw [List.length_set] at hi
    rw [set_getDw now j w' wk0 hj i]
    by_cases hij : j = i
    · subst hij; rw [if_pos rfl, hk]; exact s.wi
    · rw [if_neg hij]
      have hdis : ∀ n, heldW (now.getD i wk0) n = 1 → heldW w n = 0 := fun n h1 => by
        have h2 := h.tab.perm n
        have h3 := two_le_sum (fun w => heldW w n) now i j hi hj (fun e => hij e.symm)
        rw [← ej, hw, ← getD_at now i hi wk0] at h3
        split at h2 <;> omega
      refine (h.all i hi).mono hS1 s.hs (fun n hn hp => ?_) (fun x hx hp => s.hl x hx (hdis x hp)) ?_
      · rcases hp with hp | hp
        · exact hkp n hn hp
        · exact fun j' hj' => s.hk n j' hn hj' (hdis n hp)
      · rcases s.hC with ⟨e1, e2, _⟩ | ⟨e1, _⟩
        · exact .inl ⟨e1, e2⟩
        · exact .inr e1
  · have h1 := h.cnt
    have h2 := s.cnt
    have h3 := sum_same usedW now j w' hj
    rw [← ej, hw] at h3
    omega
  · by_cases e0 : m'.getD i 0 = m.getD i 0
    · have e1 : m.getD i 0 = (n : Int) + 1 := by rw [← e0, e]
      have hp : ∃ i, i < S ∧ m.getD i 0 = (n : Int) + 1 := ⟨i, hi, e1⟩
      rw [kids_mono (hkp n (h.tab.pub hp).1 hp)]
      exact h.org i n hi e1
    · obtain ⟨x, p, hx, e1, h1, h2⟩ := s.new i hi e0
      have : x = n := by omega
      subst this
      refine .inr ?_
      rw [h1.kids, ← hk]
      have : j < ks.length := h.ln ▸ hj
      rw [getD_at ks j this]
      exact List.getElem_mem this
theorem phW_oth (hS1 : 1 ≤ S) (hs : ∀ i, i < S → m.getD i 0 ≠ 0 → m'.getD i 0 = m.getD i 0) (v : Wk) : phW S N m' v ≤ phW S N m v + 3 ∧ (m'.getD (S + 4 * N) 0 = m.getD (S + 4 * N) 0 → phW S N m' v ≤ phW S N m v) := by
  have hlt : (slotV v S).toNat < S := by
    unfold slotV
    have h1 := Int.emod_nonneg (hashOf [v.r0, v.r1, v.r2, v.r3] + v.r4) (b := (S : Int)) (by omega)
    have h2 := Int.emod_lt_of_pos (hashOf [v.r0, v.r1, v.r2, v.r3] + v.r4) (b := (S : Int)) (by omega)
    omega
  have hz := hs _ hlt
  have hab : m'.getD (slotV v S).toNat 0 = 0 → m.getD (slotV v S).toNat 0 = 0 := fun h => Decidable.byContradiction fun hne => hne (by rw [← hz hne, h])
  unfold phW
  by_cases hd : v.done = true
  · rw [if_pos hd, if_pos hd]; omega
  rw [if_neg hd, if_neg hd]
  generalize (slotV v S).toNat = s at *
  generalize m.getD s 0 = a at *
  generalize m'.getD s 0 = b at *
  generalize m.getD (S + 4 * N) 0 = c at *
  generalize m'.getD (S + 4 * N) 0 = d at *
  generalize 16 * (S - v.r4.toNat) = q
  generalize hD : (if v.r5 = 0 then 128 else 64) = D
  by_cases p0 : v.pc = 0
  · rw [if_pos p0, if_pos p0]
    have : (if b = 0 then (if v.r5 = 0 then 16 else 10) else 6) ≤ (if a = 0 then (if v.r5 = 0 then 16 else 10) else 6) := by
      by_cases hb : b = 0
      · rw [if_pos hb, if_pos (hab hb)]; omega
      · rw [if_neg hb]; split <;> (try split) <;> omega
    exact ⟨by omega, fun _ => by omega⟩
  rw [if_neg p0, if_neg p0]
  by_cases p1 : v.pc = 1
  · rw [if_pos p1, if_pos p1]; omega
  rw [if_neg p1, if_neg p1]
  by_cases p2 : v.pc = 10
  · rw [if_pos p2, if_pos p2]; omega
  rw [if_neg p2, if_neg p2]
  by_cases p3 : v.pc = 11
  · rw [if_pos p3, if_pos p3]
    refine ⟨?_, fun e => by rw [e]; omega⟩
    split <;> split <;> omega
  rw [if_neg p3, if_neg p3]
  by_cases p4 : v.pc = 12
  · rw [if_pos p4, if_pos p4]
    refine ⟨?_, fun e => by rw [e]; omega⟩
    split <;> split <;> omega
  rw [if_neg p4, if_neg p4]
  by_cases p5 : v.pc = 13
  · rw [if_pos p5, if_pos p5]; omega
  rw [if_neg p5, if_neg p5]
  by_cases p6 : v.pc = 20
  · rw [if_pos p6, if_pos p6]
    have : (if b = 0 then 9 else 7) ≤ (if a = 0 then 9 else 7) := by
      by_cases hb : b = 0
      · rw [if_pos hb, if_pos (hab hb)]; omega
      · rw [if_neg hb]; split <;> omega
    exact ⟨by omega, fun _ => by omega⟩
  rw [if_neg p6, if_neg p6]
  by_cases p7 : v.pc = 30
  · rw [if_pos p7, if_pos p7]; omega
  rw [if_neg p7, if_neg p7]
  by_cases p8 : v.pc = 31
  · rw [if_pos p8, if_pos p8]
    refine ⟨?_, fun e => by rw [e]; omega⟩
    split <;> split <;> omega
  rw [if_neg p8, if_neg p8]
  refine ⟨?_, fun e => by rw [e]; omega⟩
  split <;> split <;> omega
theorem phi_step (hS1 : 1 ≤ S) (hl : now.length ≤ 12) (hj : j < now.length) (hw : now.getD j wk0 = w) (s : SR S N m F C k w m' w' F' C') : phi S N m' (now.set j w') < phi S N m now ∧ C' ≤ C + 1 := by
  have ej := getD_at now j hj wk0
  have hd := s.dec
  unfold phi
  rcases s.hC with ⟨e1, _, e3⟩ | ⟨e1, _⟩
  · have h1 := sum_set (phW S N m) (phW S N m') now j w' hj fun v _ => (phW_oth hS1 s.hs v).2 e3
    rw [← ej, hw] at h1
    omega
  · have h1 := sum_set (fun v => phW S N m v + 3) (phW S N m') now j w' hj fun v _ => (phW_oth hS1 s.hs v).1
    have h2 := sum_add (phW S N m) 3 now
    rw [← ej, hw] at h1
    omega
end
section
variable {S N : Nat} {m : List Int} {w : Wk}
theorem st0 (h : w.pc = 0) : stI S N m w = (m, lookW w (m.getD (slotV w S).toNat 0), 0) := by unfold stI; rw [if_pos h]
theorem st1 (h : w.pc = 1) : stI S N m w = (m, cmpW w S (m.getD (S + 4 * w.r6 + w.r7).toNat 0), 0) := by unfold stI; rw [if_neg (by omega), if_pos h]
theorem st10 (h : w.pc = 10) : stI S N m w = (m, headW w (m.getD (S + 4 * N) 0), 0) := by unfold stI; rw [if_neg (by omega), if_neg (by omega), if_pos h]
theorem st11 (h : w.pc = 11) : stI S N m w = (m, { w with r7 := m.getD (S + 4 * N + (Hn w.r6).toNat) 0, pc := 12 }, 0) := by unfold stI; rw [if_neg (by omega), if_neg (by omega), if_neg (by omega), if_pos h]
theorem st12 (h : w.pc = 12) : stI S N m w = (if m.getD (S + 4 * N) 0 = w.r6 then m.set (S + 4 * N) ((w.r6 / 1048576 + 1) * 1048576 + w.r7) else m, takeW w (decide (m.getD (S + 4 * N) 0 = w.r6)), 0) := by
  unfold stI; rw [if_neg (by omega), if_neg (by omega), if_neg (by omega), if_neg (by omega), if_pos h]
theorem st13 (h : w.pc = 13) : stI S N m w = (m.set (S + 4 * (w.r5 - 1) + w.r7).toNat (reg w), wrW w, 0) := by
  unfold stI; rw [if_neg (by omega), if_neg (by omega), if_neg (by omega), if_neg (by omega), if_neg (by omega), if_pos h]
theorem st20 (h : w.pc = 20) : stI S N m w = (if m.getD (slotV w S).toNat 0 = 0 then m.set (slotV w S).toNat w.r5 else m, clW w (decide (m.getD (slotV w S).toNat 0 = 0)), 0) := by
  unfold stI; rw [if_neg (by omega), if_neg (by omega), if_neg (by omega), if_neg (by omega), if_neg (by omega), if_neg (by omega), if_pos h]
theorem st30 (h : w.pc = 30) : stI S N m w = (m, { w with r6 := m.getD (S + 4 * N) 0, pc := 31 }, 0) := by
  unfold stI; rw [if_neg (by omega), if_neg (by omega), if_neg (by omega), if_neg (by omega), if_neg (by omega), if_neg (by omega), if_neg (by omega), if_pos h]
theorem st31 (h : w.pc = 31) : stI S N m w = (m.set (S + 4 * N + w.r5.toNat) (Hn w.r6), { w with pc := 32 }, 0) := by
  unfold stI; rw [if_neg (by omega), if_neg (by omega), if_neg (by omega), if_neg (by omega), if_neg (by omega), if_neg (by omega), if_neg (by omega), if_neg (by omega), if_pos h]
theorem st32 (h : w.pc = 32) : stI S N m w = (if m.getD (S + 4 * N) 0 = w.r6 then m.set (S + 4 * N) ((w.r6 / 1048576 + 1) * 1048576 + w.r5) else m, giveW w (decide (m.getD (S + 4 * N) 0 = w.r6)), 0) := by
  unfold stI; rw [if_neg (by omega), if_neg (by omega), if_neg (by omega), if_neg (by omega), if_neg (by omega), if_neg (by omega), if_neg (by omega), if_neg (by omega), if_neg (by omega)]
end
section
variable {S N : Nat} {m : List Int} {F : List Nat} {C : Nat} {k : Kid} {w w' : Wk} {held : Nat → Nat}
/-- a step that changes no word -/
theorem SR.same (h : Tab S N m F C held) (h1 : ∀ a, heldW w' a = heldW w a) (h2 : usedW w' = usedW w) (hi : WkI S N m F C k w') (hd : phW S N m w' < phW S N m w) : SR S N m F C k w m w' F C :=
  ⟨rfl, fun _ _ _ => rfl, fun _ _ _ _ _ => rfl, fun _ _ _ => rfl, .inl ⟨rfl, rfl, rfl⟩, h.chain, h.range, fun _ _ h => absurd rfl h, fun a => by rw [h1 a], hi, by rw [h2], by omega⟩
theorem kids_ne {n j : Nat} (hj : j < 4) (h : m.getD (S + 4 * n + j) 0 ≠ kc k j) : kidsAt S m n ≠ k := fun e => h (kids_at n e j hj)
/-- one more is known not to be it -/
theorem mis_succ {r n : Nat} (hm : ∀ q, q < r → Mis S N m k q) (hn : n < N) (e : m.getD (hS S k r) 0 = (n : Int) + 1) (hne : kidsAt S m n ≠ k) : ∀ q, q < r + 1 → Mis S N m k q := fun q hq => by
  by_cases h : q = r
  · subst h; exact ⟨n, hn, e, hne⟩
  · exact hm q (by omega)
theorem phW_cmp (r : Nat) (r5 r6 : Int) (j : Nat) (o : Int) : phW S N m (wW k 1 r r5 r6 j false o) = (if r5 = 0 then 128 else 64) + (16 * (S - r) + (5 - j)) := by
  unfold phW; simp
theorem phW_look (r : Nat) (r5 r6 r7 o : Int) : phW S N m (wW k 0 r r5 r6 r7 false o) = (if r5 = 0 then 128 else 64) + (16 * (S - r) + (if m.getD (hS S k r) 0 = 0 then (if r5 = 0 then 16 else 10) else 6)) := by
  unfold phW; simp [slotW]
theorem phW_look_le (r : Nat) (r5 r6 r7 o : Int) : phW S N m (wW k 0 r r5 r6 r7 false o) ≤ (if r5 = 0 then 128 else 64) + (16 * (S - r) + 16) := by
  rw [phW_look]
  generalize (if r5 = 0 then 128 else 64) = D
  split <;> (try split) <;> omega
theorem phW_done (pc r4 r5 r6 r7 o : Int) : phW S N m (wW k pc r4 r5 r6 r7 true o) = 0 := by unfold phW; simp
theorem phW_head (r : Nat) (r6 r7 o : Int) : phW S N m (wW k 10 r 0 r6 r7 false o) = 128 + (16 * (S - r) + 15) := by unfold phW; simp
theorem phW_next (r : Nat) (r6 r7 o : Int) : phW S N m (wW k 11 r 0 r6 r7 false o) = 128 + (16 * (S - r) + (if r6 = m.getD (S + 4 * N) 0 then 14 else 17)) := by unfold phW; simp
theorem phW_take (r : Nat) (r6 r7 o : Int) : phW S N m (wW k 12 r 0 r6 r7 false o) = 128 + (16 * (S - r) + (if r6 = m.getD (S + 4 * N) 0 then 13 else 16)) := by unfold phW; simp
theorem phW_write (r x : Nat) (r6 : Int) (j : Nat) (o : Int) : phW S N m (wW k 13 r ((x : Int) + 1) r6 j false o) = 64 + (16 * (S - r) + (13 - j)) := by
  unfold phW; simp; omega
theorem phW_claim (r x : Nat) (r6 r7 o : Int) : phW S N m (wW k 20 r ((x : Int) + 1) r6 r7 false o) = 64 + (16 * (S - r) + (if m.getD (hS S k r) 0 = 0 then 9 else 7)) := by
  unfold phW; simp [slotW]; omega
theorem phW_back (r4 r6 r7 o : Int) (x : Nat) : phW S N m (wW k 30 r4 ((x : Int) + 1) r6 r7 false o) = 64 + 15 := by
  unfold phW; simp; omega
theorem phW_link (r4 r6 r7 o : Int) (x : Nat) : phW S N m (wW k 31 r4 ((x : Int) + 1) r6 r7 false o) = 64 + (if r6 = m.getD (S + 4 * N) 0 then 14 else 17) := by
  unfold phW; simp; omega
theorem phW_give (r4 r6 r7 o : Int) (x : Nat) : phW S N m (wW k 32 r4 ((x : Int) + 1) r6 r7 false o) = 64 + (if r6 = m.getD (S + 4 * N) 0 then 13 else 16) := by
  unfold phW; simp; omega
theorem reg_kc (pc r4 r5 r6 : Int) (j : Nat) (hj : j < 4) (d : Bool) (o : Int) : reg (wW k pc r4 r5 r6 j d o) = kc k j := by
  unfold reg kc
  rcases (by omega : j = 0 ∨ j = 1 ∨ j = 2 ∨ j = 3) with rfl | rfl | rfl | rfl <;> rfl
end
section
variable {S N : Nat} {m : List Int} {F : List Nat} {C : Nat} {k : Kid} {held : Nat → Nat}
/-- there is room: a slot that is empty is met ahead of the last -/
def Room (S N : Nat) (m : List Int) (F : List Nat) (k : Kid) (w : Wk) : Prop := (w.r5 = 0 → F ≠ []) ∧ ∀ r, r < S → (∀ q, q < r + 1 → Mis S N m k q) → r + 1 < S
theorem s_look (r : Nat) (r5 r6 r7 o : Int) (hS1 : 1 ≤ S) (h : Tab S N m F C held) (hr : r < S) (hm : ∀ q, q < r → Mis S N m k q) (h7 : 0 ≤ r7) (ho : Own S N m k r5) :
    ∃ w', stI S N m (wW k 0 r r5 r6 r7 false o) = (m, w', 0) ∧ SR S N m F C k (wW k 0 r r5 r6 r7 false o) m w' F C := by
  obtain ⟨hlt, _⟩ := hS_lt S hS1 k r
  have hst : stI S N m (wW k 0 r r5 r6 r7 false o) = (m, lookW (wW k 0 r r5 r6 r7 false o) (m.getD (hS S k r) 0), 0) := st0 rfl
  refine ⟨_, hst, ?_⟩
  by_cases h0 : m.getD (hS S k r) 0 = 0
  · unfold lookW
    rw [if_neg (by omega)]
    rcases ho with rfl | ⟨x, hx, rfl, hk⟩
    · rw [if_neg (by simp)]
      refine .same h (fun _ => rfl) rfl (.head r r6 r7 o hr hm h7) ?_
      rw [phW_head, phW_look, if_pos rfl, if_pos h0, if_pos rfl]; omega
    · rw [if_pos (by show ((x : Int) + 1) ≠ 0; omega)]
      refine .same h (fun _ => rfl) rfl (.claim r x r6 r7 o hr hm hx h7 hk) ?_
      rw [phW_claim, phW_look, if_neg (by omega : ¬ ((x : Int) + 1 = 0)), if_pos h0, if_pos h0, if_neg (by omega)]; omega
  · obtain ⟨n, hn, e, _⟩ := h.slots _ hlt h0
    unfold lookW
    rw [e, if_pos (by omega), show (n : Int) + 1 - 1 = n by omega]
    refine .same h (fun _ => rfl) rfl (.cmp r n 0 r5 o hr hm hn e (by omega) (fun i hi => by omega) ho) ?_
    have := phW_cmp (S := S) (N := N) (m := m) (k := k) r r5 n 0 o
    rw [phW_look, if_neg h0]
    show phW S N m (wW k 1 r r5 n (0 : Nat) false o) < _
    rw [this]; omega
theorem s_cmp (r n j : Nat) (r5 o : Int) (_ : 1 ≤ S) (h : Tab S N m F C held) (hr : r < S) (hm : ∀ q, q < r → Mis S N m k q) (hn : n < N) (e : m.getD (hS S k r) 0 = (n : Int) + 1) (hj : j < 4) (hk : ∀ i, i < j → m.getD (S + 4 * n + i) 0 = kc k i) (ho : Own S N m k r5)
    (hroom : Room S N m F k (wW k 1 r r5 n j false o)) : ∃ w', stI S N m (wW k 1 r r5 n j false o) = (m, w', 0) ∧ SR S N m F C k (wW k 1 r r5 n j false o) m w' F C := by
  have hst : stI S N m (wW k 1 r r5 n j false o) = (m, cmpW (wW k 1 r r5 n j false o) S (m.getD (S + 4 * n + j) 0), 0) := by
    rw [st1 rfl]
    show (m, cmpW _ _ (m.getD ((S : Int) + 4 * n + j).toNat 0), (0 : Int)) = _
    rw [show ((S : Int) + 4 * n + j).toNat = S + 4 * n + j by omega]
  refine ⟨_, hst, ?_⟩
  have hreg := reg_kc (k := k) 1 r r5 n j hj false o
  unfold cmpW
  rw [hreg]
  by_cases hx : m.getD (S + 4 * n + j) 0 = kc k j
  · rw [if_neg (by simpa using hx)]
    by_cases h3 : j = 3
    · subst h3
      rw [if_pos (show ((3 : Nat) : Int) + 1 = 4 by decide)]
      have hat : At S N m k r n := ⟨hr, hn, e, at_kids n fun i hi => by
        by_cases h : i = 3
        · subst h; exact hx
        · exact hk i (by omega), hm⟩
      unfold endW
      rcases ho with rfl | ⟨x, hx, rfl, hk⟩
      · rw [if_pos (show (0 : Int) = 0 by rfl)]
        refine .same h (fun a => by unfold heldW; rw [if_neg (by simp), if_neg (by show ¬ (_ ∧ (0 : Int) = (a : Int) + 1); omega)]) rfl (.done 1 r 0 n (3 + 1) r n hat) ?_
        rw [phW_cmp]
        show phW S N m (wW k 1 r 0 n _ true n) < _
        rw [phW_done]; omega
      · rw [if_neg (by show ¬ ((x : Int) + 1 = 0); omega)]
        refine .same h (fun _ => rfl) rfl (.back r r x n n (3 + 1) hr (by omega) hx hat) ?_
        rw [phW_cmp, if_neg (by omega)]
        show phW S N m (wW k 30 r ((x : Int) + 1) n _ false n) < _
        rw [phW_back]; omega
    · rw [if_neg (by show ¬ ((j : Int) + 1 = 4); omega)]
      refine .same h (fun _ => rfl) rfl ?_ ?_
      · exact .cmp r n (j + 1) r5 o hr hm hn e (by omega) (fun i hi => by
          by_cases h : i = j
          · subst h; exact hx
          · exact hk i (by omega)) ho
      · show phW S N m (wW k 1 r r5 n (j + 1 : Nat) false o) < _
        rw [phW_cmp, phW_cmp]; omega
  · have hms := mis_succ hm hn e (kids_ne hj hx)
    have hr1 := hroom.2 r hr hms
    rw [if_pos hx, if_neg (by show ¬ ((r : Int) + 1 = S); omega)]
    refine .same h (fun _ => rfl) rfl (.look (r + 1) r5 n j o hr1 hms (by omega) ho) ?_
    show phW S N m (wW k 0 (r + 1 : Nat) r5 n j false o) < _
    have := phW_look_le (S := S) (N := N) (m := m) (k := k) (r + 1) r5 n j o
    rw [phW_cmp]; omega
theorem s_head (r : Nat) (r6 r7 o : Int) (hN : N ≤ 100) (h : Tab S N m F C held) (hr : r < S) (hm : ∀ q, q < r → Mis S N m k q) (h7 : 0 ≤ r7)
    (hroom : Room S N m F k (wW k 10 r 0 r6 r7 false o)) : ∃ w', stI S N m (wW k 10 r 0 r6 r7 false o) = (m, w', 0) ∧ SR S N m F C k (wW k 10 r 0 r6 r7 false o) m w' F C := by
  have hst : stI S N m (wW k 10 r 0 r6 r7 false o) = (m, headW (wW k 10 r 0 r6 r7 false o) (m.getD (S + 4 * N) 0), 0) := by
    exact st10 rfl
  refine ⟨_, hst, ?_⟩
  obtain ⟨a, ha, haN⟩ := h.hd
  have hF := hroom.1 rfl
  have ha1 : 1 ≤ a := by
    cases F with
    | nil => exact absurd rfl hF
    | cons x F => have e : hdF (x :: F) = (x : Int) + 1 := rfl; omega
  have hh := h.head
  have hHn : Hn (m.getD (S + 4 * N) 0) = a := by rw [hh, ha]; exact hn_at C a (by omega)
  unfold headW
  rw [if_neg (by omega)]
  have hx : m.getD (S + 4 * N) 0 = (C : Int) * 1048576 + (a : Int) := by rw [hh, ha]
  refine .same h (fun _ => rfl) rfl ?_ ?_
  · show WkI S N m F C k (wW k 11 r 0 (m.getD (S + 4 * N) 0) r7 false o)
    rw [hx]
    exact .next r C a r7 o hr hm h7 (Nat.le_refl _) ha1 haN fun _ => ha.symm
  · show phW S N m (wW k 11 r 0 (m.getD (S + 4 * N) 0) r7 false o) < _
    rw [phW_next, phW_head, if_pos rfl]; omega
theorem s_next (r c a : Nat) (r7 o : Int) (hN : N ≤ 100) (h : Tab S N m F C held) (hr : r < S) (hm : ∀ q, q < r → Mis S N m k q) (hc : c ≤ C) (ha : 1 ≤ a) (haN : a ≤ N) (hcC : c = C → (a : Int) = hdF F) :
    ∃ w', stI S N m (wW k 11 r 0 ((c : Int) * 1048576 + a) r7 false o) = (m, w', 0) ∧ SR S N m F C k (wW k 11 r 0 ((c : Int) * 1048576 + a) r7 false o) m w' F C := by
  have hHn : Hn ((c : Int) * 1048576 + a) = a := hn_at c a (by omega)
  have hst : stI S N m (wW k 11 r 0 ((c : Int) * 1048576 + a) r7 false o) = (m, wW k 12 r 0 ((c : Int) * 1048576 + a) (m.getD (S + 4 * N + a) 0) false o, 0) := by
    rw [st11 rfl]
    show (m, wW k 12 r 0 ((c : Int) * 1048576 + a) (m.getD (S + 4 * N + (Hn ((c : Int) * 1048576 + a)).toNat) 0) false o, (0 : Int)) = _
    rw [hHn, Int.toNat_natCast]
  refine ⟨_, hst, ?_⟩
  have hrg := h.range (a - 1) (by omega)
  rw [show S + 4 * N + 1 + (a - 1) = S + 4 * N + a by omega] at hrg
  obtain ⟨l, hl⟩ := Int.eq_ofNat_of_zero_le hrg.1
  rw [hl] at hrg ⊢
  refine .same h (fun _ => rfl) rfl (.take r c a l o hr hm hc ha haN (by omega) fun e => ?_) ?_
  · have := hcC e
    have hch := h.chain
    cases F with
    | nil => have e : hdF [] = 0 := rfl; omega
    | cons x F' =>
      have e : hdF (x :: F') = (x : Int) + 1 := rfl
      have hax : a = x + 1 := by omega
      subst hax
      refine ⟨x, F', rfl, rfl, ?_⟩
      rw [← hch.1, ← hl, show S + 4 * N + 1 + x = S + 4 * N + (x + 1) by omega]
  · rw [phW_take, phW_next]
    split <;> omega
end
section
variable {S N : Nat} {m : List Int} {F : List Nat} {C : Nat} {k : Kid} {held : Nat → Nat}
theorem held_ne {pc r4 r6 r7 o : Int} {x n : Nat} (h : heldW (wW k pc r4 ((x : Int) + 1) r6 r7 false o) n = 0) : n ≠ x := by
  rintro rfl
  rw [held_own] at h
  omega
theorem held_x {pc r4 r6 r7 o : Int} {x : Nat} (a : Nat) : heldW (wW k pc r4 ((x : Int) + 1) r6 r7 false o) a = if a = x then 1 else 0 := by
  unfold heldW
  by_cases h : a = x
  · subst h; rw [if_pos ⟨rfl, rfl⟩, if_pos rfl]
  · rw [if_neg (by rintro ⟨_, e⟩; have : (x : Int) + 1 = (a : Int) + 1 := e; omega), if_neg h]
theorem held_0 {pc r4 r6 r7 o : Int} {d : Bool} (a : Nat) : heldW (wW k pc r4 0 r6 r7 d o) a = 0 := by
  unfold heldW
  rw [if_neg (by rintro ⟨_, e⟩; have : (0 : Int) = (a : Int) + 1 := e; omega)]
theorem held_d {pc r4 r5 r6 r7 o : Int} (a : Nat) : heldW (wW k pc r4 r5 r6 r7 true o) a = 0 := by
  unfold heldW
  rw [if_neg (by simp)]
theorem used_0 {pc r4 r6 r7 o : Int} {d : Bool} : usedW (wW k pc r4 0 r6 r7 d o) = 0 := by unfold usedW; rw [if_pos rfl]
theorem used_x {pc r4 r6 r7 o : Int} {d : Bool} {x : Nat} : usedW (wW k pc r4 ((x : Int) + 1) r6 r7 d o) = 1 := by
  unfold usedW; rw [if_neg (by show ¬ ((x : Int) + 1 = 0); omega)]
theorem count_x (x a : Nat) (F : List Nat) : (x :: F).count a = F.count a + if a = x then 1 else 0 := by
  rw [List.count_cons]
  by_cases h : a = x
  · subst h; simp
  · rw [if_neg h, if_neg (by simp; exact fun e => h e.symm)]
theorem s_take (r c a l : Nat) (o : Int) (hN : N ≤ 100) (h : Tab S N m F C held) (hr : r < S) (hm : ∀ q, q < r → Mis S N m k q) (hc : c ≤ C) (ha : 1 ≤ a) (haN : a ≤ N) (_ : l ≤ N) (hcC : c = C → ∃ x F', F = x :: F' ∧ a = x + 1 ∧ (l : Int) = hdF F') :
    ∃ m' w' F' C', stI S N m (wW k 12 r 0 ((c : Int) * 1048576 + a) l false o) = (m', w', 0) ∧ SR S N m F C k (wW k 12 r 0 ((c : Int) * 1048576 + a) l false o) m' w' F' C' := by
  have hHn : Hn ((c : Int) * 1048576 + a) = a := hn_at c a (by omega)
  have hst := st12 (S := S) (N := N) (m := m) (w := wW k 12 r 0 ((c : Int) * 1048576 + a) l false o) rfl
  have hlen := h.len
  have hh := h.head
  obtain ⟨b, hb, hbN⟩ := h.hd
  by_cases e : m.getD (S + 4 * N) 0 = (c : Int) * 1048576 + a
  · have hcc : c = C := by omega
    obtain ⟨x, F', rfl, rfl, hlF⟩ := hcC hcc
    subst hcc
    rw [if_pos (by exact e), decide_eq_true (by exact e)] at hst
    unfold takeW at hst
    rw [if_pos rfl] at hst
    have ed : (((c : Int) * 1048576 + ((x + 1 : Nat) : Int)) / 1048576 + 1) * 1048576 + l = ((c : Int) + 1) * 1048576 + l := by omega
    refine ⟨m.set (S + 4 * N) (((c : Int) + 1) * 1048576 + l), wW k 13 r ((x : Int) + 1) ((c : Int) * 1048576 + ((x + 1 : Nat) : Int)) (0 : Nat) false o, F', c + 1, hst.trans ?_, ?_⟩
    · show (m.set (S + 4 * N) ((((c : Int) * 1048576 + ((x + 1 : Nat) : Int)) / 1048576 + 1) * 1048576 + l), wW k 13 r (Hn ((c : Int) * 1048576 + ((x + 1 : Nat) : Int))) ((c : Int) * 1048576 + ((x + 1 : Nat) : Int)) 0 false o, (0 : Int)) = _
      rw [hHn, ed]
      rfl
    · have hx := (h.lt (List.mem_cons_self ..)).1
      have g : ∀ i, i ≠ S + 4 * N → (m.set (S + 4 * N) (((c : Int) + 1) * 1048576 + l)).getD i 0 = m.getD i 0 := fun i hi => by rw [set_getDw _ _ _ _ (by omega), if_neg (fun e => hi e.symm)]
      refine ⟨List.length_set .., fun i hi _ => g i (by omega), fun n j hn hj _ => g _ (by omega), fun x hx _ => g _ (by omega), .inr ⟨rfl, ?_⟩, ?_, fun x hx => ?_, fun i hi hne => absurd (g i (by omega)) hne, fun a => ?_, ?_, ?_, ?_⟩
      · rw [set_getDw _ _ _ _ (by omega), if_pos rfl, hlF]; omega
      · exact h.chain.2.mono fun y _ => g _ (by omega)
      · rw [g _ (by omega)]; exact h.range x hx
      · rw [held_0, held_x, count_x, pubC_same fun i hi => g i (by omega)]; omega
      · exact .write r x 0 _ o hr (fun q hq => (hm q hq).mono (by omega) (fun i hi _ => g i (by omega)) fun n hn _ j hj => g _ (by omega)) hx (by omega) fun i hi => by omega
      · rw [used_0, used_x, List.length_cons]
      · have h1 := phW_write (S := S) (N := N) (m := m.set (S + 4 * N) (((c : Int) + 1) * 1048576 + l)) (k := k) r x ((c : Int) * 1048576 + ((x + 1 : Nat) : Int)) 0 o
        rw [h1, phW_take, if_pos e.symm]; omega
  · rw [if_neg (by exact e), decide_eq_false (by exact e)] at hst
    unfold takeW at hst
    rw [if_neg (by simp)] at hst
    refine ⟨m, wW k 10 r 0 ((c : Int) * 1048576 + a) l false o, F, C, hst, .same h (fun _ => rfl) rfl (.head r _ l o hr hm (by omega)) ?_⟩
    rw [phW_head, phW_take, if_neg (fun e' => e e'.symm)]; omega
theorem s_write (r x j : Nat) (r6 o : Int) (h : Tab S N m F C held) (hheld : 1 ≤ held x) (hr : r < S) (hm : ∀ q, q < r → Mis S N m k q) (hx : x < N) (hj : j < 4) (hk : ∀ i, i < j → m.getD (S + 4 * x + i) 0 = kc k i) :
    ∃ m' w' F' C', stI S N m (wW k 13 r ((x : Int) + 1) r6 j false o) = (m', w', 0) ∧ SR S N m F C k (wW k 13 r ((x : Int) + 1) r6 j false o) m' w' F' C' := by
  have hst := st13 (S := S) (N := N) (m := m) (w := wW k 13 r ((x : Int) + 1) r6 j false o) rfl
  have hlen := h.len
  rw [reg_kc 13 r ((x : Int) + 1) r6 j hj false o] at hst
  have ei : ((S : Int) + 4 * (((x : Int) + 1) - 1) + j).toNat = S + 4 * x + j := by omega
  have hst : stI S N m (wW k 13 r ((x : Int) + 1) r6 j false o) = (m.set (S + 4 * x + j) (kc k j), wrW (wW k 13 r ((x : Int) + 1) r6 j false o), 0) := by rw [← ei]; exact hst
  have g : ∀ i, i ≠ S + 4 * x + j → (m.set (S + 4 * x + j) (kc k j)).getD i 0 = m.getD i 0 := fun i hi => by rw [set_getDw _ _ _ _ (by omega), if_neg (fun e => hi e.symm)]
  have gj : (m.set (S + 4 * x + j) (kc k j)).getD (S + 4 * x + j) 0 = kc k j := by rw [set_getDw _ _ _ _ (by omega), if_pos rfl]
  have hpub : ∀ n : Nat, (∃ i, i < S ∧ m.getD i 0 = (n : Int) + 1) → n ≠ x := fun n hp e => by
    have := (h.pub hp).2.1
    subst e; omega
  have hmis : ∀ q, q < r → Mis S N (m.set (S + 4 * x + j) (kc k j)) k q := fun q hq => (hm q hq).mono (by omega) (fun i hi _ => g i (by omega)) fun n hn hp j' hj' => g _ (by have := hpub n hp; omega)
  have key : ∀ w' : Wk, (∀ a, heldW w' a = heldW (wW k 13 r ((x : Int) + 1) r6 j false o) a) → usedW w' = usedW (wW k 13 r ((x : Int) + 1) r6 j false o) → WkI S N (m.set (S + 4 * x + j) (kc k j)) F C k w' → phW S N (m.set (S + 4 * x + j) (kc k j)) w' < phW S N m (wW k 13 r ((x : Int) + 1) r6 j false o) → SR S N m F C k (wW k 13 r ((x : Int) + 1) r6 j false o) (m.set (S + 4 * x + j) (kc k j)) w' F C := fun w' h1 h2 h3 h4 =>
    ⟨List.length_set .., fun i hi _ => g i (by omega), fun n j' hn hj' hne => g _ (by have := held_ne hne; omega), fun x hx _ => g _ (by omega), .inl ⟨rfl, rfl, g _ (by omega)⟩, h.chain.mono fun y _ => g _ (by omega), fun x hx => by rw [g _ (by omega)]; exact h.range x hx,
      fun i hi hne => absurd (g i (by omega)) hne, fun a => by rw [h1, pubC_same fun i hi => g i (by omega)], h3, by rw [h2], by omega⟩
  unfold wrW at hst
  by_cases h3 : j = 3
  · subst h3
    rw [if_pos (show ((3 : Nat) : Int) + 1 = 4 by decide)] at hst
    refine ⟨_, wW k 20 r ((x : Int) + 1) r6 (3 + 1) false o, F, C, hst, key _ (fun _ => rfl) rfl (.claim r x r6 (3 + 1) o hr hmis hx (by omega) ?_) ?_⟩
    · refine at_kids x fun i hi => ?_
      by_cases h : i = 3
      · subst h; exact gj
      · rw [g _ (by omega)]; exact hk i (by omega)
    · rw [phW_claim, phW_write]
      split <;> omega
  · rw [if_neg (by show ¬ ((j : Int) + 1 = 4); omega)] at hst
    refine ⟨_, wW k 13 r ((x : Int) + 1) r6 (j + 1 : Nat) false o, F, C, hst, key _ (fun _ => rfl) rfl (.write r x (j + 1) r6 o hr hmis hx (by omega) fun i hi => ?_) ?_⟩
    · by_cases h : i = j
      · subst h; exact gj
      · rw [g _ (by omega)]; exact hk i (by omega)
    · rw [phW_write, phW_write]; omega
theorem s_claim (r x : Nat) (r6 r7 o : Int) (hS1 : 1 ≤ S) (h : Tab S N m F C held) (hr : r < S) (hm : ∀ q, q < r → Mis S N m k q) (hx : x < N) (h7 : 0 ≤ r7) (hk : kidsAt S m x = k) :
    ∃ m' w' F' C', stI S N m (wW k 20 r ((x : Int) + 1) r6 r7 false o) = (m', w', 0) ∧ SR S N m F C k (wW k 20 r ((x : Int) + 1) r6 r7 false o) m' w' F' C' := by
  have hst := st20 (S := S) (N := N) (m := m) (w := wW k 20 r ((x : Int) + 1) r6 r7 false o) rfl
  obtain ⟨hlt, _⟩ := hS_lt S hS1 k r
  rw [slotW] at hst
  have hlen := h.len
  unfold clW at hst
  by_cases e : m.getD (hS S k r) 0 = 0
  · rw [if_pos e, decide_eq_true e, if_pos rfl] at hst
    have g : ∀ i, i ≠ hS S k r → (m.set (hS S k r) ((x : Int) + 1)).getD i 0 = m.getD i 0 := fun i hi => by rw [set_getDw _ _ _ _ (by omega), if_neg (fun e => hi e.symm)]
    have gr : (m.set (hS S k r) ((x : Int) + 1)).getD (hS S k r) 0 = (x : Int) + 1 := by rw [set_getDw _ _ _ _ (by omega), if_pos rfl]
    have hs : ∀ i, i < S → m.getD i 0 ≠ 0 → (m.set (hS S k r) ((x : Int) + 1)).getD i 0 = m.getD i 0 := fun i _ hne => g i (by rintro rfl; exact hne e)
    have hat : At S N (m.set (hS S k r) ((x : Int) + 1)) k r x := ⟨hr, hx, gr, by rw [kids_mono fun j hj => g _ (by omega), hk], fun q hq => (hm q hq).mono hS1 hs fun n hn _ j hj => g _ (by omega)⟩
    refine ⟨m.set (hS S k r) ((x : Int) + 1), wW k 20 r ((x : Int) + 1) r6 r7 true x, F, C, hst.trans ?_, List.length_set .., hs, fun n j hn hj _ => g _ (by omega), fun x hx _ => g _ (by omega), .inl ⟨rfl, rfl, g _ (by omega)⟩, h.chain.mono fun y _ => g _ (by omega), fun x hx => by rw [g _ (by omega)]; exact h.range x hx, fun i hi hne => ?_, fun a => ?_, .done 20 r _ r6 r7 r x hat, by rw [used_x, used_x], ?_⟩
    · show (m.set (hS S k r) ((x : Int) + 1), wW k 20 r ((x : Int) + 1) r6 r7 true ((x : Int) + 1 - 1), (0 : Int)) = _
      rw [show (x : Int) + 1 - 1 = x by omega]
    · have : i = hS S k r := Decidable.byContradiction fun h => hne (g i h)
      subst this
      exact ⟨x, r, hx, gr, hat, rfl⟩
    · rw [held_d, held_x]
      have h1 := sum_range_upd (fun i => if (m.set (hS S k r) ((x : Int) + 1)).getD i 0 = (a : Int) + 1 then 1 else 0) (fun i => if m.getD i 0 = (a : Int) + 1 then 1 else 0) (hS S k r) S (fun i _ hne => by rw [g i hne]) hlt
      simp only [gr, e] at h1
      rw [if_neg (by omega : ¬ (0 : Int) = (a : Int) + 1)] at h1
      unfold pubC
      by_cases hax : a = x
      · rw [if_pos (by omega)] at h1; rw [if_pos hax]; omega
      · rw [if_neg (by omega)] at h1; rw [if_neg hax]; omega
    · rw [phW_done, phW_claim]; split <;> omega
  · rw [if_neg e, decide_eq_false e, if_neg (by simp)] at hst
    refine ⟨m, wW k 0 r ((x : Int) + 1) r6 r7 false o, F, C, hst, .same h (fun _ => rfl) rfl (.look r _ r6 r7 o hr hm h7 (.inr ⟨x, hx, rfl, hk⟩)) ?_⟩
    rw [phW_look, phW_claim, if_neg e, if_neg e, if_neg (by omega)]; omega
theorem s_back (r p x n : Nat) (r6 r7 : Int) (h : Tab S N m F C held) (hr : r < S) (h7 : 0 ≤ r7) (hx : x < N) (hat : At S N m k p n) :
    ∃ m' w' F' C', stI S N m (wW k 30 r ((x : Int) + 1) r6 r7 false n) = (m', w', 0) ∧ SR S N m F C k (wW k 30 r ((x : Int) + 1) r6 r7 false n) m' w' F' C' := by
  have hst := st30 (S := S) (N := N) (m := m) (w := wW k 30 r ((x : Int) + 1) r6 r7 false n) rfl
  obtain ⟨a, ha, haN⟩ := h.hd
  have hx2 : m.getD (S + 4 * N) 0 = (C : Int) * 1048576 + (a : Int) := by rw [h.head, ha]
  refine ⟨m, wW k 31 r ((x : Int) + 1) (m.getD (S + 4 * N) 0) r7 false n, F, C, hst, .same h (fun _ => rfl) rfl ?_ ?_⟩
  · rw [hx2]
    exact .link r p x n C a r7 hr h7 hx hat (Nat.le_refl _) haN fun _ => ha.symm
  · rw [phW_link, phW_back, if_pos rfl]; omega
theorem s_link (r p x n c a : Nat) (r7 : Int) (hN : N ≤ 100) (h : Tab S N m F C held) (hheld : 1 ≤ held x) (hr : r < S) (h7 : 0 ≤ r7) (hx : x < N) (hat : At S N m k p n) (hc : c ≤ C) (haN : a ≤ N) (hcC : c = C → (a : Int) = hdF F) :
    ∃ m' w' F' C', stI S N m (wW k 31 r ((x : Int) + 1) ((c : Int) * 1048576 + a) r7 false n) = (m', w', 0) ∧ SR S N m F C k (wW k 31 r ((x : Int) + 1) ((c : Int) * 1048576 + a) r7 false n) m' w' F' C' := by
  have hHn : Hn ((c : Int) * 1048576 + a) = a := hn_at c a (by omega)
  have hlen := h.len
  have hst : stI S N m (wW k 31 r ((x : Int) + 1) ((c : Int) * 1048576 + a) r7 false n) = (m.set (S + 4 * N + 1 + x) (a : Int), wW k 32 r ((x : Int) + 1) ((c : Int) * 1048576 + a) r7 false n, 0) := by
    rw [st31 rfl]
    show (m.set (S + 4 * N + ((x : Int) + 1).toNat) (Hn ((c : Int) * 1048576 + a)), _, _) = _
    rw [hHn, show S + 4 * N + ((x : Int) + 1).toNat = S + 4 * N + 1 + x by omega]
  have g : ∀ i, i ≠ S + 4 * N + 1 + x → (m.set (S + 4 * N + 1 + x) (a : Int)).getD i 0 = m.getD i 0 := fun i hi => by rw [set_getDw _ _ _ _ (by omega), if_neg (fun e => hi e.symm)]
  have gx : (m.set (S + 4 * N + 1 + x) (a : Int)).getD (S + 4 * N + 1 + x) 0 = a := by rw [set_getDw _ _ _ _ (by omega), if_pos rfl]
  refine ⟨_, _, F, C, hst, List.length_set .., fun i hi _ => g i (by omega), fun n j hn hj _ => g _ (by omega), fun y hy hne => g _ (by have := held_ne hne; omega), .inl ⟨rfl, rfl, g _ (by omega)⟩, h.chain.mono fun y hy => g _ ?_, fun y hy => ?_, fun i hi hne => absurd (g i (by omega)) hne, fun b => ?_, ?_, rfl, ?_⟩
  · have := (h.lt hy).2.1
    rintro e
    have : y = x := by omega
    subst this; omega
  · by_cases e : y = x
    · subst e; rw [gx]; omega
    · rw [g _ (by omega)]; exact h.range y hy
  · rw [held_x, held_x, pubC_same fun i hi => g i (by omega)]
  · exact .give r p x n c a r7 hr h7 hx (hat.mono (by have := hat.lt; omega) (fun i hi _ => g i (by omega)) fun n hn _ j hj => g _ (by omega)) hc haN fun e => ⟨hcC e, gx⟩
  · rw [phW_give, phW_link, g _ (by omega)]
    split <;> omega
theorem s_give (r p x n c a : Nat) (r7 : Int) (hN : N ≤ 100) (h : Tab S N m F C held) (_ : r < S) (_ : 0 ≤ r7) (hx : x < N) (hat : At S N m k p n) (_ : c ≤ C) (haN : a ≤ N) (hcC : c = C → (a : Int) = hdF F ∧ m.getD (S + 4 * N + 1 + x) 0 = a) :
    ∃ m' w' F' C', stI S N m (wW k 32 r ((x : Int) + 1) ((c : Int) * 1048576 + a) r7 false n) = (m', w', 0) ∧ SR S N m F C k (wW k 32 r ((x : Int) + 1) ((c : Int) * 1048576 + a) r7 false n) m' w' F' C' := by
  have hst := st32 (S := S) (N := N) (m := m) (w := wW k 32 r ((x : Int) + 1) ((c : Int) * 1048576 + a) r7 false n) rfl
  have hlen := h.len
  have hh := h.head
  obtain ⟨b, hb, hbN⟩ := h.hd
  unfold giveW at hst
  by_cases e : m.getD (S + 4 * N) 0 = (c : Int) * 1048576 + a
  · have hcc : c = C := by omega
    obtain ⟨e1, e2⟩ := hcC hcc
    subst hcc
    rw [if_pos (by exact e), decide_eq_true (by exact e), if_pos rfl] at hst
    have ed : (((c : Int) * 1048576 + (a : Int)) / 1048576 + 1) * 1048576 + ((x : Int) + 1) = ((c : Int) + 1) * 1048576 + ((x : Int) + 1) := by omega
    have g : ∀ i, i ≠ S + 4 * N → (m.set (S + 4 * N) (((c : Int) + 1) * 1048576 + ((x : Int) + 1))).getD i 0 = m.getD i 0 := fun i hi => by rw [set_getDw _ _ _ _ (by omega), if_neg (fun e => hi e.symm)]
    refine ⟨m.set (S + 4 * N) (((c : Int) + 1) * 1048576 + ((x : Int) + 1)), wW k 32 r 0 ((c : Int) * 1048576 + a) r7 true n, x :: F, c + 1, hst.trans ?_, List.length_set .., fun i hi _ => g i (by omega), fun n j hn hj _ => g _ (by omega), fun x hx _ => g _ (by omega), .inr ⟨rfl, ?_⟩, ⟨?_, h.chain.mono fun y _ => g _ (by omega)⟩, fun x hx => ?_, fun i hi hne => absurd (g i (by omega)) hne, fun a => ?_, .done 32 r 0 _ r7 p n ?_, ?_, ?_⟩
    · show (m.set (S + 4 * N) ((((c : Int) * 1048576 + (a : Int)) / 1048576 + 1) * 1048576 + ((x : Int) + 1)), _, (0 : Int)) = _
      rw [ed]
    · have e3 : hdF (x :: F) = (x : Int) + 1 := rfl
      rw [set_getDw _ _ _ _ (by omega), if_pos rfl, e3]; omega
    · rw [g _ (by omega), e2, e1]
    · rw [g _ (by omega)]; exact h.range x hx
    · rw [held_d, held_x, count_x, pubC_same fun i hi => g i (by omega)]; omega
    · exact hat.mono (by have := hat.lt; omega) (fun i hi _ => g i (by omega)) fun n hn _ j hj => g _ (by omega)
    · rw [used_0, used_x, List.length_cons]
    · rw [phW_done, phW_give, if_pos e.symm]; omega
  · rw [if_neg (by exact e), decide_eq_false (by exact e), if_neg (by simp)] at hst
    refine ⟨m, wW k 30 r ((x : Int) + 1) ((c : Int) * 1048576 + a) r7 false n, F, C, hst, .same h (fun _ => rfl) rfl (.back r p x n _ r7 (by assumption) (by assumption) hx hat) ?_⟩
    rw [phW_back, phW_give, if_neg (fun e' => e e'.symm)]; omega
end
end Go.Proofs.Ytphjglbbhanmpaa.Ab
