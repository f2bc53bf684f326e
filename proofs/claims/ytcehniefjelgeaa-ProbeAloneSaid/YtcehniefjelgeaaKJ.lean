/- One worker alone: its steps. -/
import Derived.Test.YtcehniefjelgeaaKI
namespace Go.Proofs.Ytcehniefjelgeaa.Ab
open Go Go.RowKit
theorem doW_load (xs : List Int) (j : Nat) (o n : Int) (hj : j < xs.length) (hl : xs.length ≤ 100000) : doW xs 1 j o n = (xs, xs.getD j 0, true, 0) := by
  have hw : wrongE xs 1 j n = 0 := by
    unfold wrongE
    rw [if_neg (by omega), if_neg (by omega), if_neg (by simp)]
  rw [doW, if_pos hw, Int.toNat_natCast]
  simp [doneB]
theorem doW_swap (xs : List Int) (j : Nat) (o n : Int) (hj : j < xs.length) (hl : xs.length ≤ 100000) (hn : -1152921504606846975 ≤ n ∧ n ≤ 1152921504606846975) :
    doW xs 3 j o n = (if xs.getD j 0 = o then xs.set j n else xs, xs.getD j 0, decide (xs.getD j 0 = o), 0) := by
  have ht : toW xs 3 j n = n := by unfold toW; rw [if_neg (by omega)]
  have hw : wrongE xs 3 j n = 0 := by
    unfold wrongE
    rw [if_neg (by omega), if_neg (by omega), if_neg (by rw [ht]; unfold fits; simp; omega)]
  have hd : doneB xs 3 j o = decide (xs.getD j 0 = o) := by unfold doneB; rw [Int.toNat_natCast]; simp
  rw [doW, if_pos hw, ht, hd, Int.toNat_natCast]
  simp
theorem doW_write (xs : List Int) (j : Nat) (o n : Int) (hj : j < xs.length) (hl : xs.length ≤ 100000) (hn : -1152921504606846975 ≤ n ∧ n ≤ 1152921504606846975) :
    doW xs 2 j o n = (xs.set j n, xs.getD j 0, true, 0) := by
  have ht : toW xs 2 j n = n := by unfold toW; rw [if_neg (by omega)]
  have hw : wrongE xs 2 j n = 0 := by
    unfold wrongE
    rw [if_neg (by omega), if_neg (by omega), if_neg (by rw [ht]; unfold fits; simp; omega)]
  have hd : doneB xs 2 j o = true := by unfold doneB; simp
  rw [doW, if_pos hw, ht, hd, Int.toNat_natCast]
  simp
theorem getD_at {α : Type} (l : List α) (j : Nat) (h : j < l.length) (d : α) : l.getD j d = l[j] := by
  rw [List.getD_eq_getElem?_getD, List.getElem?_eq_getElem h]; rfl
theorem set_getDw {α : Type} (l : List α) (j : Nat) (v d : α) (hj : j < l.length) (i : Nat) : (l.set j v).getD i d = if j = i then v else l.getD i d := by
  rw [List.getD_eq_getElem?_getD, List.getElem?_set]
  by_cases h : j = i
  · subst h; simp [hj]
  · rw [if_neg h, if_neg h, List.getD_eq_getElem?_getD]
theorem hn_at (c h : Nat) (hh : h < 1048576) : Hn ((c : Int) * 1048576 + h) = h := by unfold Hn; rw [if_neg (by omega)]; omega
abbrev Kid : Type := Int × Int × Int × Int
def kc (k : Kid) (j : Nat) : Int := if j = 0 then k.1 else if j = 1 then k.2.1 else if j = 2 then k.2.2.1 else k.2.2.2
def kh (k : Kid) : Int := hashOf [k.1, k.2.1, k.2.2.1, k.2.2.2]
theorem kh_bd (k : Kid) : 0 ≤ kh k ∧ kh k < 2147483648 := hashOf_bd _
def hS (S : Nat) (k : Kid) (r : Nat) : Nat := ((kh k + r) % S).toNat
theorem hS_lt (S : Nat) (hS0 : 1 ≤ S) (k : Kid) (r : Nat) : hS S k r < S ∧ ((hS S k r : Nat) : Int) = (kh k + r) % S := by
  unfold hS
  have h1 := Int.emod_nonneg (kh k + r) (b := (S : Int)) (by omega)
  have h2 := Int.emod_lt_of_pos (kh k + r) (b := (S : Int)) (by omega)
  omega
/-- a worker that looks for a node -/
abbrev sW (k : Kid) (pc r4 r5 r6 r7 : Int) : Wk := ⟨pc, 3, k.1, k.2.1, k.2.2.1, k.2.2.2, r4, r5, r6, r7, false, 0⟩
/-- one that is done -/
abbrev eW (k : Kid) (pc r4 r5 r6 r7 out : Int) : Wk := ⟨pc, 3, k.1, k.2.1, k.2.2.1, k.2.2.2, r4, r5, r6, r7, true, out⟩
structure Mem (S N : Nat) (m : List Int) : Prop where
  S1 : 1 ≤ S ∧ S ≤ 100
  N1 : N ≤ 100
  len : m.length = S + 4 * N + (N + 1)
  slots : ∀ i, i < S → 0 ≤ m.getD i 0 ∧ m.getD i 0 ≤ N
section
variable {S N : Nat} {m : List Int} {k : Kid} {r : Nat} {r6 r7 : Int}
theorem one_step {w W' : Wk} {m' : List Int} (hm : Mem S N m) (hw : May S w) (p : Nat) (f : FuncId) (hp : (keysP.map Prod.snd)[p]? = some f) (hb : ∀ i : Nat, ((keysP.map Prod.fst).map fun m => (w.pc == m))[i]? = some true → i = p) (hbp : ((keysP.map Prod.fst).map fun m => (w.pc == m))[p]? = some true)
    (h : ∀ id H, H[id]? = some (some (pblk w S N m 0)) → SC true Try.prog f [.ref id 16 0 0] H (fun _ H' => pq id W' S N m' 0 H H')) : Runs S N 1 m w m' W' :=
  .cons hw.dn (step_of S N (by have := hm.S1; omega) (by have := hm.N1; omega) m (by have := hm.len; omega) w hw p f hp hb hbp h) (.nil _ _)
theorem st_look (hm : Mem S N m) (hr : r < S) (h7 : 0 ≤ r7) : Runs S N 1 m (sW k 0 r 0 r6 r7) m (if 1 ≤ m.getD (hS S k r) 0 then sW k 1 r 0 (m.getD (hS S k r) 0 - 1) 0 else sW k 10 r 0 r6 r7) := by
  obtain ⟨h1, h2⟩ := hS_lt S hm.S1.1 k r
  have hb := hm.slots _ h1
  have hl := hm.len
  have hS1 := hm.S1
  have hN1 := hm.N1
  have hd := doW_load m (hS S k r) 0 0 (by omega) (by omega)
  have e : slotV (sW k 0 r 0 r6 r7) S = ((hS S k r : Nat) : Int) := h2.symm
  rw [← e] at hd
  have hW : lookW (sW k 0 r 0 r6 r7) (m.getD (hS S k r) 0) = (if 1 ≤ m.getD (hS S k r) 0 then sW k 1 r 0 (m.getD (hS S k r) 0 - 1) 0 else sW k 10 r 0 r6 r7) := by
    unfold lookW
    split
    · rfl
    · rw [if_neg (by simp)]
  rw [← hW]
  refine one_step hm ⟨rfl, rfl, .inl rfl, ⟨Int.natCast_nonneg _, by show (r : Int) < S; omega⟩, h7, fun h => by rcases h with h | h <;> exact absurd h (by show ¬ ((0 : Int) = _); omega)⟩ 0 _ rfl (fun i hi => by rcases i with _ | _ | _ | _ | _ | _ | _ | _ | _ | _ | i <;> first | rfl | (cases hi)) rfl fun id H hbk => ?_
  exact look_m id _ S N m H hbk (by omega) (by omega) ⟨Int.natCast_nonneg _, by show (r : Int) ≤ 4000; omega⟩ (by omega) hd
theorem st_cmp {n j : Nat} (hm : Mem S N m) (hr : r < S) (hn : n < N) (hj : j < 4) : Runs S N 1 m (sW k 1 r 0 n j) m (if m.getD (S + 4 * n + j) 0 ≠ kc k j then (if r + 1 = S then eW k 1 (r + 1 : Nat) 0 n j (-1) else sW k 0 (r + 1 : Nat) 0 n j) else if j = 3 then eW k 1 r 0 n 4 n else sW k 1 r 0 n (j + 1 : Nat)) := by
  have hl := hm.len
  have hS1 := hm.S1
  have hN1 := hm.N1
  have hd := doW_load m (S + 4 * n + j) 0 0 (by omega) (by omega)
  have e : ((S + 4 * n + j : Nat) : Int) = (S : Int) + 4 * (sW k 1 r 0 n j).r6 + (sW k 1 r 0 n j).r7 := by show _ = (S : Int) + 4 * n + j; omega
  rw [e] at hd
  have hg : reg (sW k 1 r 0 n j) = kc k j := by
    unfold reg kc
    rcases (by omega : j = 0 ∨ j = 1 ∨ j = 2 ∨ j = 3) with rfl | rfl | rfl | rfl <;> rfl
  have hW : cmpW (sW k 1 r 0 n j) S (m.getD (S + 4 * n + j) 0) = (if m.getD (S + 4 * n + j) 0 ≠ kc k j then (if r + 1 = S then eW k 1 (r + 1 : Nat) 0 n j (-1) else sW k 0 (r + 1 : Nat) 0 n j) else if j = 3 then eW k 1 r 0 n 4 n else sW k 1 r 0 n (j + 1 : Nat)) := by
    unfold cmpW
    rw [hg]
    split
    · by_cases h : r + 1 = S
      · rw [if_pos h, if_pos (by show (r : Int) + 1 = S; omega)]; rfl
      · rw [if_neg h, if_neg (by show ¬ ((r : Int) + 1 = S); omega)]; rfl
    · by_cases h : j = 3
      · subst h; rfl
      · rw [if_neg h, if_neg (by show ¬ ((j : Int) + 1 = 4); omega)]; rfl
  rw [← hW]
  refine one_step hm ⟨rfl, rfl, .inr (.inl rfl), ⟨Int.natCast_nonneg _, by show (r : Int) < S; omega⟩, Int.natCast_nonneg _, fun _ => by show (j : Int) < 4; omega⟩ 1 _ rfl (fun i hi => by rcases i with _ | _ | _ | _ | _ | _ | _ | _ | _ | _ | i <;> first | rfl | (cases hi)) rfl fun id H hbk => ?_
  exact cmp_m id _ S N m H hbk (by omega) (by omega) (by omega) ⟨Int.natCast_nonneg _, by show (r : Int) ≤ 4000; omega⟩ ⟨Int.natCast_nonneg _, by show (n : Int) < N; omega⟩ ⟨Int.natCast_nonneg _, by show (j : Int) < 4; omega⟩ hd
theorem st_head (hm : Mem S N m) (hr : r < S) (h7 : 0 ≤ r7) : Runs S N 1 m (sW k 10 r 0 r6 r7) m (if Hn (m.getD (S + 4 * N) 0) = 0 then eW k 10 r 0 (m.getD (S + 4 * N) 0) r7 (-1) else sW k 11 r 0 (m.getD (S + 4 * N) 0) r7) := by
  have hl := hm.len
  have hS1 := hm.S1
  have hN1 := hm.N1
  have hd := doW_load m (S + 4 * N) 0 0 (by omega) (by omega)
  rw [show ((S + 4 * N : Nat) : Int) = (S : Int) + 4 * N by omega] at hd
  have hW : headW (sW k 10 r 0 r6 r7) (m.getD (S + 4 * N) 0) = (if Hn (m.getD (S + 4 * N) 0) = 0 then eW k 10 r 0 (m.getD (S + 4 * N) 0) r7 (-1) else sW k 11 r 0 (m.getD (S + 4 * N) 0) r7) := by
    unfold headW
    split <;> rfl
  rw [← hW]
  refine one_step hm ⟨rfl, rfl, .inr (.inr (.inl rfl)), ⟨Int.natCast_nonneg _, by show (r : Int) < S; omega⟩, h7, fun h => by rcases h with h | h <;> exact absurd h (by show ¬ ((10 : Int) = _); omega)⟩ 2 _ rfl (fun i hi => by rcases i with _ | _ | _ | _ | _ | _ | _ | _ | _ | _ | i <;> first | rfl | (cases hi)) rfl fun id H hbk => ?_
  exact head_m id _ S N m H hbk (by omega) (by omega) (by omega) hd
theorem st_next (hm : Mem S N m) (hr : r < S) (h7 : 0 ≤ r7) {x : Nat} (hx : Hn r6 = x) (hxN : x ≤ N) : Runs S N 1 m (sW k 11 r 0 r6 r7) m (sW k 12 r 0 r6 (m.getD (S + 4 * N + x) 0)) := by
  have hl := hm.len
  have hS1 := hm.S1
  have hN1 := hm.N1
  have hd := doW_load m (S + 4 * N + x) 0 0 (by omega) (by omega)
  rw [show ((S + 4 * N + x : Nat) : Int) = (S : Int) + 4 * N + Hn (sW k 11 r 0 r6 r7).r6 by show _ = (S : Int) + 4 * N + Hn r6; omega] at hd
  refine one_step hm ⟨rfl, rfl, .inr (.inr (.inr (.inl rfl))), ⟨Int.natCast_nonneg _, by show (r : Int) < S; omega⟩, h7, fun h => by rcases h with h | h <;> exact absurd h (by show ¬ ((11 : Int) = _); omega)⟩ 3 _ rfl (fun i hi => by rcases i with _ | _ | _ | _ | _ | _ | _ | _ | _ | _ | i <;> first | rfl | (cases hi)) rfl fun id H hbk => ?_
  exact next_m id _ S N m H hbk (by omega) (by omega) (by omega) hd
theorem st_take (hm : Mem S N m) (hr : r < S) (h7 : 0 ≤ r7 ∧ r7 ≤ 1000) (h6 : 0 ≤ r6 ∧ r6 ≤ 1000000000000) (hd6 : m.getD (S + 4 * N) 0 = r6) : Runs S N 1 m (sW k 12 r 0 r6 r7) (m.set (S + 4 * N) ((r6 / 1048576 + 1) * 1048576 + r7)) (sW k 13 r (Hn r6) r6 0) := by
  have hl := hm.len
  have hS1 := hm.S1
  have hN1 := hm.N1
  have hd := doW_swap m (S + 4 * N) r6 ((r6 / 1048576 + 1) * 1048576 + r7) (by omega) (by omega) (by omega)
  rw [show ((S + 4 * N : Nat) : Int) = (S : Int) + 4 * N by omega, if_pos hd6, decide_eq_true hd6] at hd
  refine one_step hm ⟨rfl, rfl, .inr (.inr (.inr (.inr (.inl rfl)))), ⟨Int.natCast_nonneg _, by show (r : Int) < S; omega⟩, h7.1, fun h => by rcases h with h | h <;> exact absurd h (by show ¬ ((12 : Int) = _); omega)⟩ 4 _ rfl (fun i hi => by rcases i with _ | _ | _ | _ | _ | _ | _ | _ | _ | _ | i <;> first | rfl | (cases hi)) rfl fun id H hbk => ?_
  exact take_m id (sW k 12 r 0 r6 r7) S N m H hbk (by omega) (by omega) (by omega) ⟨h6.1, by show r6 ≤ _; omega⟩ ⟨h7.1, by show r7 ≤ _; omega⟩ hd
theorem st_write {n j : Nat} (hm : Mem S N m) (hr : r < S) (hn : n < N) (hj : j < 4) (hk : 0 ≤ kc k j ∧ kc k j ≤ 1152921504606846975) : Runs S N 1 m (sW k 13 r (n + 1 : Nat) r6 j) (m.set (S + 4 * n + j) (kc k j)) (if j = 3 then sW k 20 r (n + 1 : Nat) r6 4 else sW k 13 r (n + 1 : Nat) r6 (j + 1 : Nat)) := by
  have hl := hm.len
  have hS1 := hm.S1
  have hN1 := hm.N1
  have hd := doW_write m (S + 4 * n + j) 0 (kc k j) (by omega) (by omega) (by omega)
  have hg : reg (sW k 13 r (n + 1 : Nat) r6 j) = kc k j := by
    unfold reg kc
    rcases (by omega : j = 0 ∨ j = 1 ∨ j = 2 ∨ j = 3) with rfl | rfl | rfl | rfl <;> rfl
  have e : ((S + 4 * n + j : Nat) : Int) = (S : Int) + 4 * ((sW k 13 r (n + 1 : Nat) r6 j).r5 - 1) + (sW k 13 r (n + 1 : Nat) r6 j).r7 := by show _ = (S : Int) + 4 * (((n + 1 : Nat) : Int) - 1) + j; omega
  rw [e, ← hg] at hd
  rw [← hg]
  have hW : wrW (sW k 13 r (n + 1 : Nat) r6 j) = (if j = 3 then sW k 20 r (n + 1 : Nat) r6 4 else sW k 13 r (n + 1 : Nat) r6 (j + 1 : Nat)) := by
    unfold wrW
    by_cases h : j = 3
    · subst h; rfl
    · rw [if_neg h, if_neg (by show ¬ ((j : Int) + 1 = 4); omega)]; rfl
  rw [← hW]
  refine one_step hm ⟨rfl, rfl, .inr (.inr (.inr (.inr (.inr (.inl rfl))))), ⟨Int.natCast_nonneg _, by show (r : Int) < S; omega⟩, Int.natCast_nonneg _, fun _ => by show (j : Int) < 4; omega⟩ 5 _ rfl (fun i hi => by rcases i with _ | _ | _ | _ | _ | _ | _ | _ | _ | _ | i <;> first | rfl | (cases hi)) rfl fun id H hbk => ?_
  exact write_m id (sW k 13 r (n + 1 : Nat) r6 j) S N m H hbk (by omega) (by omega) (by omega) ⟨by show 0 ≤ ((n + 1 : Nat) : Int) - 1; omega, by show ((n + 1 : Nat) : Int) - 1 < N; omega⟩ ⟨Int.natCast_nonneg _, by show (j : Int) < 4; omega⟩ hd
theorem st_claim {n : Nat} (hm : Mem S N m) (hr : r < S) (hn : n < N) (h0 : m.getD (hS S k r) 0 = 0) (h7 : 0 ≤ r7) : Runs S N 1 m (sW k 20 r (n + 1 : Nat) r6 r7) (m.set (hS S k r) (n + 1 : Nat)) (eW k 20 r (n + 1 : Nat) r6 r7 n) := by
  obtain ⟨h1, h2⟩ := hS_lt S hm.S1.1 k r
  have hl := hm.len
  have hS1 := hm.S1
  have hN1 := hm.N1
  have hd := doW_swap m (hS S k r) 0 ((n + 1 : Nat) : Int) (by omega) (by omega) (by omega)
  have e : slotV (sW k 20 r (n + 1 : Nat) r6 r7) S = ((hS S k r : Nat) : Int) := h2.symm
  rw [← e, if_pos h0, decide_eq_true h0] at hd
  have hW : clW (sW k 20 r (n + 1 : Nat) r6 r7) true = eW k 20 r (n + 1 : Nat) r6 r7 n := by
    unfold clW
    rw [if_pos rfl]
    show eW k 20 r (n + 1 : Nat) r6 r7 (((n + 1 : Nat) : Int) - 1) = _
    rw [show ((n + 1 : Nat) : Int) - 1 = n by omega]
  rw [← hW]
  refine one_step hm ⟨rfl, rfl, .inr (.inr (.inr (.inr (.inr (.inr rfl))))), ⟨Int.natCast_nonneg _, by show (r : Int) < S; omega⟩, h7, fun h => by rcases h with h | h <;> exact absurd h (by show ¬ ((20 : Int) = _); omega)⟩ 6 _ rfl (fun i hi => by rcases i with _ | _ | _ | _ | _ | _ | _ | _ | _ | _ | i <;> first | rfl | (cases hi)) rfl fun id H hbk => ?_
  exact claim_m id (sW k 20 r (n + 1 : Nat) r6 r7) S N m H hbk (by omega) (by omega) (by omega) ⟨Int.natCast_nonneg _, by show (r : Int) ≤ 4000; omega⟩ ⟨Int.natCast_nonneg _, by show ((n + 1 : Nat) : Int) ≤ 1000000; omega⟩ hd
end
end Go.Proofs.Ytcehniefjelgeaa.Ab
