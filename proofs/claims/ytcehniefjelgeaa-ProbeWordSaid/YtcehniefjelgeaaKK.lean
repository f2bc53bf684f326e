/- One worker alone: its steps. -/
import Derived.Test.YtcehniefjelgeaaKI
namespace Go.Proofs.Ytcehniefjelgeaa.Ab
open Go Go.RowKit
theorem doW_load (xs : List Int) (j : Nat) (o n : Int) (hj : j < xs.length) (hl : xs.length ≤ 100000) : doW xs 1 j o n = (xs, xs.getD j 0, true, 0) := by
  have hw : wrongE xs 1 j n = 0 := by
    unfold wrongE
    rw [if_neg (by omega), if_neg (by omega), if_neg (by simp)]
  rw [doW, if_pos hw, Int.toNat_natCast]
  simp [doneB]
theorem doW_swap (xs : List Int) (j : Nat) (o n : Int) (hj : j < xs.length) (hl : xs.length ≤ 100000) (hn : -1152921504606846975 ≤ n ∧ n ≤ 1152921504606846975) :
    doW xs 3 j o n = (if xs.getD j 0 = o then xs.set j n else xs, xs.getD j 0, decide (xs.getD j 0 = o), 0) := by
  have ht : toW xs 3 j n = n := by unfold toW; rw [if_neg (by omega)]
  have hw : wrongE xs 3 j n = 0 := by
    unfold wrongE
    rw [if_neg (by omega), if_neg (by omega), if_neg (by rw [ht]; unfold fits; simp; omega)]
  have hd : doneB xs 3 j o = decide (xs.getD j 0 = o) := by unfold doneB; rw [Int.toNat_natCast]; simp
  rw [doW, if_pos hw, ht, hd, Int.toNat_natCast]
  simp
theorem doW_write (xs : List Int) (j : Nat) (o n : Int) (hj : j < xs.length) (hl : xs.length ≤ 100000) (hn : -1152921504606846975 ≤ n ∧ n ≤ 1152921504606846975) :
    doW xs 2 j o n = (xs.set j n, xs.getD j 0, true, 0) := by
  have ht : toW xs 2 j n = n := by unfold toW; rw [if_neg (by omega)]
  have hw : wrongE xs 2 j n = 0 := by
    unfold wrongE
    rw [if_neg (by omega), if_neg (by omega), if_neg (by rw [ht]; unfold fits; simp; omega)]
  have hd : doneB xs 2 j o = true := by unfold doneB; simp
  rw [doW, if_pos hw, ht, hd, Int.toNat_natCast]
  simp
theorem getD_at {α : Type} (l : List α) (j : Nat) (h : j < l.length) (d : α) : l.getD j d = l[j] := by
  rw [List.getD_eq_getElem?_getD, List.getElem?_eq_getElem h]; rfl
theorem set_getDw {α : Type} (l : List α) (j : Nat) (v d : α) (hj : j < l.length) (i : Nat) : (l.set j v).getD i d = if j = i then v else l.getD i d := by
  rw [List.getD_eq_getElem?_getD, List.getElem?_set]
  by_cases h : j = i
  · subst h; simp [hj]
  · rw [if_neg h, if_neg h, List.getD_eq_getElem?_getD]
theorem hn_at (c h : Nat) (hh : h < 1048576) : Hn ((c : Int) * 1048576 + h) = h := by unfold Hn; rw [if_neg (by omega)]; omega
abbrev Kid : Type := Int × Int × Int × Int
def kc (k : Kid) (j : Nat) : Int := if j = 0 then k.1 else if j = 1 then k.2.1 else if j = 2 then k.2.2.1 else k.2.2.2
def kh (k : Kid) : Int := hashOf [k.1, k.2.1, k.2.2.1, k.2.2.2]
theorem kh_bd (k : Kid) : 0 ≤ kh k ∧ kh k < 2147483648 := hashOf_bd _
def hS (S : Nat) (k : Kid) (r : Nat) : Nat := ((kh k + r) % S).toNat
theorem hS_lt (S : Nat) (hS0 : 1 ≤ S) (k : Kid) (r : Nat) : hS S k r < S ∧ ((hS S k r : Nat) : Int) = (kh k + r) % S := by
  unfold hS
  have h1 := Int.emod_nonneg (kh k + r) (b := (S : Int)) (by omega)
  have h2 := Int.emod_lt_of_pos (kh k + r) (b := (S : Int)) (by omega)
  omega
/-- a worker that looks for a node -/
abbrev sW (k : Kid) (pc r4 r5 r6 r7 : Int) : Wk := ⟨pc, 3, k.1, k.2.1, k.2.2.1, k.2.2.2, r4, r5, r6, r7, false, 0⟩
/-- one that is done -/
abbrev eW (k : Kid) (pc r4 r5 r6 r7 out : Int) : Wk := ⟨pc, 3, k.1, k.2.1, k.2.2.1, k.2.2.2, r4, r5, r6, r7, true, out⟩
structure Mem (S N : Nat) (m : List Int) : Prop where
  S1 : 1 ≤ S ∧ S ≤ 100
  N1 : N ≤ 100
  len : m.length = S + 4 * N + (N + 1)
  slots : ∀ i, i < S → 0 ≤ m.getD i 0 ∧ m.getD i 0 ≤ N
section
variable {S N : Nat} {m : List Int} {k : Kid} {r : Nat} {r6 r7 : Int}
theorem one_step {w W' : Wk} {m' : List Int} (hm : Mem S N m) (hw : May S w) (p : Nat) (f : FuncId) (hp : (keysP.map Prod.snd)[p]? = some f) (hb : ∀ i : Nat, ((keysP.map Prod.fst).map fun m => (w.pc == m))[i]? = some true → i = p) (hbp : ((keysP.map Prod.fst).map fun m => (w.pc == m))[p]? = some true) {kk a o n x : Int} {b : Bool} (hk4 : kk ≠ 4) (hn : I64 n) (hd : doW m kk a o n = (m', x, b, 0))
    (hac : PS Try.prog 45 [.agg (tb S N), .agg (wk w)] (acc kk a o n)) (hbe : PS Try.prog 46 [.agg (tb S N), .agg (wk w), .i x, .b b] (.agg (wk W')))
    (h : ∀ id H, H[id]? = some (some (pblk w S N m 0)) → SC true Try.prog f [.ref id 16 0 0] H (fun _ H' => pq id W' S N m' 0 H H')) : Runs S N 1 m w m' W' :=
  .cons hw.dn (step_of S N (by have := hm.S1; omega) (by have := hm.N1; omega) m (by have := hm.len; omega) w hw p f hp hb hbp h) (refstep_of S N (by have := hm.S1; omega) (by have := hm.N1; omega) m (by have := hm.len; omega) w hw hk4 hn hd hac hbe) (.nil _ _)
theorem st_look (hm : Mem S N m) (hr : r < S) (h7 : 0 ≤ r7) : Runs S N 1 m (sW k 0 r 0 r6 r7) m (if 1 ≤ m.getD (hS S k r) 0 then sW k 1 r 0 (m.getD (hS S k r) 0 - 1) 0 else sW k 10 r 0 r6 r7) := by
  obtain ⟨h1, h2⟩ := hS_lt S hm.S1.1 k r
  have hb := hm.slots _ h1
  have hl := hm.len
  have hS1 := hm.S1
  have hN1 := hm.N1
  have hd := doW_load m (hS S k r) 0 0 (by omega) (by omega)
  have e : slotV (sW k 0 r 0 r6 r7) S = ((hS S k r : Nat) : Int) := h2.symm
  rw [← e] at hd
  have hW : lookW (sW k 0 r 0 r6 r7) (m.getD (hS S k r) 0) = (if 1 ≤ m.getD (hS S k r) 0 then sW k 1 r 0 (m.getD (hS S k r) 0 - 1) 0 else sW k 10 r 0 r6 r7) := by
    unfold lookW
    split
    · rfl
    · rw [if_neg (by simp)]
  have hac := racc_look S N k.1 k.2.1 k.2.2.1 k.2.2.2 r r6 r7 (by omega) (by omega) ⟨Int.natCast_nonneg _, by omega⟩
  have hbe : PS Try.prog 46 [.agg (tb S N), .agg (wk (sW k 0 r 0 r6 r7)), .i (m.getD (hS S k r) 0), .b true] (.agg (wk (lookW (sW k 0 r 0 r6 r7) (m.getD (hS S k r) 0)))) := by
    rw [hW]
    split
    · exact rbeh_look1 S N _ k.1 k.2.1 k.2.2.1 k.2.2.2 r r6 r7 ⟨by omega, by omega⟩
    · exact rbeh_look0 S N _ k.1 k.2.1 k.2.2.1 k.2.2.2 r r6 r7 (by omega)
  rw [← hW]
  refine one_step hm ⟨rfl, rfl, .inl rfl, ⟨Int.natCast_nonneg _, by show (r : Int) < S; omega⟩, h7, fun h => by rcases h with h | h <;> exact absurd h (by show ¬ ((0 : Int) = _); omega)⟩ 0 _ rfl (fun i hi => by rcases i with _ | _ | _ | _ | _ | _ | _ | _ | _ | _ | i <;> first | rfl | (cases hi)) rfl (by decide) ⟨by decide, by decide⟩ hd hac hbe fun id H hbk => ?_
  exact look_m id _ S N m H hbk (by omega) (by omega) ⟨Int.natCast_nonneg _, by show (r : Int) ≤ 4000; omega⟩ (by omega) hd
theorem st_cmp {n j : Nat} (hm : Mem S N m) (hr : r < S) (hn : n < N) (hj : j < 4) : Runs S N 1 m (sW k 1 r 0 n j) m (if m.getD (S + 4 * n + j) 0 ≠ kc k j then (if r + 1 = S then eW k 1 (r + 1 : Nat) 0 n j (-1) else sW k 0 (r + 1 : Nat) 0 n j) else if j = 3 then eW k 1 r 0 n 4 n else sW k 1 r 0 n (j + 1 : Nat)) := by
  have hl := hm.len
  have hS1 := hm.S1
  have hN1 := hm.N1
  have hd := doW_load m (S + 4 * n + j) 0 0 (by omega) (by omega)
  have e : ((S + 4 * n + j : Nat) : Int) = (S : Int) + 4 * (sW k 1 r 0 n j).r6 + (sW k 1 r 0 n j).r7 := by show _ = (S : Int) + 4 * n + j; omega
  rw [e] at hd
  have hg : reg (sW k 1 r 0 n j) = kc k j := by
    unfold reg kc
    rcases (by omega : j = 0 ∨ j = 1 ∨ j = 2 ∨ j = 3) with rfl | rfl | rfl | rfl <;> rfl
  have hW : cmpW (sW k 1 r 0 n j) S (m.getD (S + 4 * n + j) 0) = (if m.getD (S + 4 * n + j) 0 ≠ kc k j then (if r + 1 = S then eW k 1 (r + 1 : Nat) 0 n j (-1) else sW k 0 (r + 1 : Nat) 0 n j) else if j = 3 then eW k 1 r 0 n 4 n else sW k 1 r 0 n (j + 1 : Nat)) := by
    unfold cmpW
    rw [hg]
    split
    · by_cases h : r + 1 = S
      · rw [if_pos h, if_pos (by show (r : Int) + 1 = S; omega)]; rfl
      · rw [if_neg h, if_neg (by show ¬ ((r : Int) + 1 = S); omega)]; rfl
    · by_cases h : j = 3
      · subst h; rfl
      · rw [if_neg h, if_neg (by show ¬ ((j : Int) + 1 = 4); omega)]; rfl
  have hac := racc_cmp S N k.1 k.2.1 k.2.2.1 k.2.2.2 r n j (by omega) (by omega) ⟨Int.natCast_nonneg _, by omega⟩ ⟨Int.natCast_nonneg _, by omega⟩
  have hbe : PS Try.prog 46 [.agg (tb S N), .agg (wk (sW k 1 r 0 n j)), .i (m.getD (S + 4 * n + j) 0), .b true] (.agg (wk (cmpW (sW k 1 r 0 n j) S (m.getD (S + 4 * n + j) 0)))) := by
    rw [hW]
    generalize m.getD (S + 4 * n + j) 0 = x
    rcases (by omega : j = 0 ∨ j = 1 ∨ j = 2 ∨ j = 3) with rfl | rfl | rfl | rfl
    · by_cases hx : x = kc k 0
      · rw [if_neg (by simpa using hx), if_neg (by omega)]
        exact rbeh_cmp0 S N x k.1 k.2.1 k.2.2.1 k.2.2.2 r n hx
      · rw [if_pos hx]
        by_cases hr1 : r + 1 = S
        · rw [if_pos hr1]
          exact rbeh_last0 S N x k.1 k.2.1 k.2.2.1 k.2.2.2 r n (by omega) hx ⟨Int.natCast_nonneg _, by omega⟩
        · rw [if_neg hr1]
          exact rbeh_miss0 S N x k.1 k.2.1 k.2.2.1 k.2.2.2 r n (by omega) hx ⟨Int.natCast_nonneg _, by omega⟩
    · by_cases hx : x = kc k 1
      · rw [if_neg (by simpa using hx), if_neg (by omega)]
        exact rbeh_cmp1 S N x k.1 k.2.1 k.2.2.1 k.2.2.2 r n hx
      · rw [if_pos hx]
        by_cases hr1 : r + 1 = S
        · rw [if_pos hr1]
          exact rbeh_last1 S N x k.1 k.2.1 k.2.2.1 k.2.2.2 r n (by omega) hx ⟨Int.natCast_nonneg _, by omega⟩
        · rw [if_neg hr1]
          exact rbeh_miss1 S N x k.1 k.2.1 k.2.2.1 k.2.2.2 r n (by omega) hx ⟨Int.natCast_nonneg _, by omega⟩
    · by_cases hx : x = kc k 2
      · rw [if_neg (by simpa using hx), if_neg (by omega)]
        exact rbeh_cmp2 S N x k.1 k.2.1 k.2.2.1 k.2.2.2 r n hx
      · rw [if_pos hx]
        by_cases hr1 : r + 1 = S
        · rw [if_pos hr1]
          exact rbeh_last2 S N x k.1 k.2.1 k.2.2.1 k.2.2.2 r n (by omega) hx ⟨Int.natCast_nonneg _, by omega⟩
        · rw [if_neg hr1]
          exact rbeh_miss2 S N x k.1 k.2.1 k.2.2.1 k.2.2.2 r n (by omega) hx ⟨Int.natCast_nonneg _, by omega⟩
    · by_cases hx : x = kc k 3
      · rw [if_neg (by simpa using hx), if_pos rfl]
        exact rbeh_cmp3 S N x k.1 k.2.1 k.2.2.1 k.2.2.2 r n hx
      · rw [if_pos hx]
        by_cases hr1 : r + 1 = S
        · rw [if_pos hr1]
          exact rbeh_last3 S N x k.1 k.2.1 k.2.2.1 k.2.2.2 r n (by omega) hx ⟨Int.natCast_nonneg _, by omega⟩
        · rw [if_neg hr1]
          exact rbeh_miss3 S N x k.1 k.2.1 k.2.2.1 k.2.2.2 r n (by omega) hx ⟨Int.natCast_nonneg _, by omega⟩
  rw [← hW]
  refine one_step hm ⟨rfl, rfl, .inr (.inl rfl), ⟨Int.natCast_nonneg _, by show (r : Int) < S; omega⟩, Int.natCast_nonneg _, fun _ => by show (j : Int) < 4; omega⟩ 1 _ rfl (fun i hi => by rcases i with _ | _ | _ | _ | _ | _ | _ | _ | _ | _ | i <;> first | rfl | (cases hi)) rfl (by decide) ⟨by decide, by decide⟩ hd hac hbe fun id H hbk => ?_
  exact cmp_m id _ S N m H hbk (by omega) (by omega) (by omega) ⟨Int.natCast_nonneg _, by show (r : Int) ≤ 4000; omega⟩ ⟨Int.natCast_nonneg _, by show (n : Int) < N; omega⟩ ⟨Int.natCast_nonneg _, by show (j : Int) < 4; omega⟩ hd
theorem st_head (hm : Mem S N m) (hr : r < S) (h7 : 0 ≤ r7) : Runs S N 1 m (sW k 10 r 0 r6 r7) m (if Hn (m.getD (S + 4 * N) 0) = 0 then eW k 10 r 0 (m.getD (S + 4 * N) 0) r7 (-1) else sW k 11 r 0 (m.getD (S + 4 * N) 0) r7) := by
  have hl := hm.len
  have hS1 := hm.S1
  have hN1 := hm.N1
  have hd := doW_load m (S + 4 * N) 0 0 (by omega) (by omega)
  rw [show ((S + 4 * N : Nat) : Int) = (S : Int) + 4 * N by omega] at hd
  have hW : headW (sW k 10 r 0 r6 r7) (m.getD (S + 4 * N) 0) = (if Hn (m.getD (S + 4 * N) 0) = 0 then eW k 10 r 0 (m.getD (S + 4 * N) 0) r7 (-1) else sW k 11 r 0 (m.getD (S + 4 * N) 0) r7) := by
    unfold headW
    split <;> rfl
  have hac := racc_head S N k.1 k.2.1 k.2.2.1 k.2.2.2 r r6 r7 (by omega) (by omega)
  have hbe : PS Try.prog 46 [.agg (tb S N), .agg (wk (sW k 10 r 0 r6 r7)), .i (m.getD (S + 4 * N) 0), .b true] (.agg (wk (headW (sW k 10 r 0 r6 r7) (m.getD (S + 4 * N) 0)))) := by
    rw [hW]
    split
    · rename_i h; exact rbeh_head0 S N _ k.1 k.2.1 k.2.2.1 k.2.2.2 r r6 r7 h
    · rename_i h; exact rbeh_head1 S N _ k.1 k.2.1 k.2.2.1 k.2.2.2 r r6 r7 h
  rw [← hW]
  refine one_step hm ⟨rfl, rfl, .inr (.inr (.inl rfl)), ⟨Int.natCast_nonneg _, by show (r : Int) < S; omega⟩, h7, fun h => by rcases h with h | h <;> exact absurd h (by show ¬ ((10 : Int) = _); omega)⟩ 2 _ rfl (fun i hi => by rcases i with _ | _ | _ | _ | _ | _ | _ | _ | _ | _ | i <;> first | rfl | (cases hi)) rfl (by decide) ⟨by decide, by decide⟩ hd hac hbe fun id H hbk => ?_
  exact head_m id _ S N m H hbk (by omega) (by omega) (by omega) hd
theorem st_next (hm : Mem S N m) (hr : r < S) (h7 : 0 ≤ r7) {x : Nat} (hx : Hn r6 = x) (hxN : x ≤ N) : Runs S N 1 m (sW k 11 r 0 r6 r7) m (sW k 12 r 0 r6 (m.getD (S + 4 * N + x) 0)) := by
  have hl := hm.len
  have hS1 := hm.S1
  have hN1 := hm.N1
  have hd := doW_load m (S + 4 * N + x) 0 0 (by omega) (by omega)
  rw [show ((S + 4 * N + x : Nat) : Int) = (S : Int) + 4 * N + Hn (sW k 11 r 0 r6 r7).r6 by show _ = (S : Int) + 4 * N + Hn r6; omega] at hd
  have hac := racc_next S N k.1 k.2.1 k.2.2.1 k.2.2.2 r r6 r7 (by omega) (by omega) (by omega)
  have hbe := rbeh_next S N (m.getD (S + 4 * N + x) 0) k.1 k.2.1 k.2.2.1 k.2.2.2 r r6 r7
  refine one_step hm ⟨rfl, rfl, .inr (.inr (.inr (.inl rfl))), ⟨Int.natCast_nonneg _, by show (r : Int) < S; omega⟩, h7, fun h => by rcases h with h | h <;> exact absurd h (by show ¬ ((11 : Int) = _); omega)⟩ 3 _ rfl (fun i hi => by rcases i with _ | _ | _ | _ | _ | _ | _ | _ | _ | _ | i <;> first | rfl | (cases hi)) rfl (by decide) ⟨by decide, by decide⟩ hd hac hbe fun id H hbk => ?_
  exact next_m id _ S N m H hbk (by omega) (by omega) (by omega) hd
theorem st_take (hm : Mem S N m) (hr : r < S) (h7 : 0 ≤ r7 ∧ r7 ≤ 1000) (h6 : 0 ≤ r6 ∧ r6 ≤ 1000000000000) (hd6 : m.getD (S + 4 * N) 0 = r6) : Runs S N 1 m (sW k 12 r 0 r6 r7) (m.set (S + 4 * N) ((r6 / 1048576 + 1) * 1048576 + r7)) (sW k 13 r (Hn r6) r6 0) := by
  have hl := hm.len
  have hS1 := hm.S1
  have hN1 := hm.N1
  have hd := doW_swap m (S + 4 * N) r6 ((r6 / 1048576 + 1) * 1048576 + r7) (by omega) (by omega) (by omega)
  rw [show ((S + 4 * N : Nat) : Int) = (S : Int) + 4 * N by omega, if_pos hd6, decide_eq_true hd6] at hd
  have hac := racc_take S N k.1 k.2.1 k.2.2.1 k.2.2.2 r r6 r7 (by omega) (by omega) h6 h7
  have hbe := rbeh_take S N (m.getD (S + 4 * N) 0) k.1 k.2.1 k.2.2.1 k.2.2.2 r r6 r7
  refine one_step hm ⟨rfl, rfl, .inr (.inr (.inr (.inr (.inl rfl)))), ⟨Int.natCast_nonneg _, by show (r : Int) < S; omega⟩, h7.1, fun h => by rcases h with h | h <;> exact absurd h (by show ¬ ((12 : Int) = _); omega)⟩ 4 _ rfl (fun i hi => by rcases i with _ | _ | _ | _ | _ | _ | _ | _ | _ | _ | i <;> first | rfl | (cases hi)) rfl (by decide) ⟨by omega, by omega⟩ hd hac hbe fun id H hbk => ?_
  exact take_m id (sW k 12 r 0 r6 r7) S N m H hbk (by omega) (by omega) (by omega) ⟨h6.1, by show r6 ≤ _; omega⟩ ⟨h7.1, by show r7 ≤ _; omega⟩ hd
theorem st_write {n j : Nat} (hm : Mem S N m) (hr : r < S) (hn : n < N) (hj : j < 4) (hk : 0 ≤ kc k j ∧ kc k j ≤ 1152921504606846975) : Runs S N 1 m (sW k 13 r (n + 1 : Nat) r6 j) (m.set (S + 4 * n + j) (kc k j)) (if j = 3 then sW k 20 r (n + 1 : Nat) r6 4 else sW k 13 r (n + 1 : Nat) r6 (j + 1 : Nat)) := by
  have hl := hm.len
  have hS1 := hm.S1
  have hN1 := hm.N1
  have hd := doW_write m (S + 4 * n + j) 0 (kc k j) (by omega) (by omega) (by omega)
  have hg : reg (sW k 13 r (n + 1 : Nat) r6 j) = kc k j := by
    unfold reg kc
    rcases (by omega : j = 0 ∨ j = 1 ∨ j = 2 ∨ j = 3) with rfl | rfl | rfl | rfl <;> rfl
  have e : ((S + 4 * n + j : Nat) : Int) = (S : Int) + 4 * ((sW k 13 r (n + 1 : Nat) r6 j).r5 - 1) + (sW k 13 r (n + 1 : Nat) r6 j).r7 := by show _ = (S : Int) + 4 * (((n + 1 : Nat) : Int) - 1) + j; omega
  rw [e, ← hg] at hd
  rw [← hg]
  have hW : wrW (sW k 13 r (n + 1 : Nat) r6 j) = (if j = 3 then sW k 20 r (n + 1 : Nat) r6 4 else sW k 13 r (n + 1 : Nat) r6 (j + 1 : Nat)) := by
    unfold wrW
    by_cases h : j = 3
    · subst h; rfl
    · rw [if_neg h, if_neg (by show ¬ ((j : Int) + 1 = 4); omega)]; rfl
  have hac : PS Try.prog 45 [.agg (tb S N), .agg (wk (sW k 13 r (n + 1 : Nat) r6 j))] (acc 2 ((S : Int) + 4 * ((sW k 13 r (n + 1 : Nat) r6 j).r5 - 1) + (sW k 13 r (n + 1 : Nat) r6 j).r7) 0 (reg (sW k 13 r (n + 1 : Nat) r6 j))) := by
    rcases (by omega : j = 0 ∨ j = 1 ∨ j = 2 ∨ j = 3) with rfl | rfl | rfl | rfl
    · exact racc_write0 S N k.1 k.2.1 k.2.2.1 k.2.2.2 r (n + 1 : Nat) r6 (by omega) (by omega) ⟨by omega, by omega⟩
    · exact racc_write1 S N k.1 k.2.1 k.2.2.1 k.2.2.2 r (n + 1 : Nat) r6 (by omega) (by omega) ⟨by omega, by omega⟩
    · exact racc_write2 S N k.1 k.2.1 k.2.2.1 k.2.2.2 r (n + 1 : Nat) r6 (by omega) (by omega) ⟨by omega, by omega⟩
    · exact racc_write3 S N k.1 k.2.1 k.2.2.1 k.2.2.2 r (n + 1 : Nat) r6 (by omega) (by omega) ⟨by omega, by omega⟩
  have hbe : PS Try.prog 46 [.agg (tb S N), .agg (wk (sW k 13 r (n + 1 : Nat) r6 j)), .i (m.getD (S + 4 * n + j) 0), .b true] (.agg (wk (wrW (sW k 13 r (n + 1 : Nat) r6 j)))) := by
    rw [hW]
    rcases (by omega : j = 0 ∨ j = 1 ∨ j = 2 ∨ j = 3) with rfl | rfl | rfl | rfl
    · rw [if_neg (by omega)]; exact rbeh_write0 S N _ k.1 k.2.1 k.2.2.1 k.2.2.2 r (n + 1 : Nat) r6
    · rw [if_neg (by omega)]; exact rbeh_write1 S N _ k.1 k.2.1 k.2.2.1 k.2.2.2 r (n + 1 : Nat) r6
    · rw [if_neg (by omega)]; exact rbeh_write2 S N _ k.1 k.2.1 k.2.2.1 k.2.2.2 r (n + 1 : Nat) r6
    · rw [if_pos rfl]; exact rbeh_write3 S N _ k.1 k.2.1 k.2.2.1 k.2.2.2 r (n + 1 : Nat) r6
  rw [← hW]
  refine one_step hm ⟨rfl, rfl, .inr (.inr (.inr (.inr (.inr (.inl rfl))))), ⟨Int.natCast_nonneg _, by show (r : Int) < S; omega⟩, Int.natCast_nonneg _, fun _ => by show (j : Int) < 4; omega⟩ 5 _ rfl (fun i hi => by rcases i with _ | _ | _ | _ | _ | _ | _ | _ | _ | _ | i <;> first | rfl | (cases hi)) rfl (by decide) ⟨by omega, by omega⟩ hd hac hbe fun id H hbk => ?_
  exact write_m id (sW k 13 r (n + 1 : Nat) r6 j) S N m H hbk (by omega) (by omega) (by omega) ⟨by show 0 ≤ ((n + 1 : Nat) : Int) - 1; omega, by show ((n + 1 : Nat) : Int) - 1 < N; omega⟩ ⟨Int.natCast_nonneg _, by show (j : Int) < 4; omega⟩ hd
theorem st_claim {n : Nat} (hm : Mem S N m) (hr : r < S) (hn : n < N) (h0 : m.getD (hS S k r) 0 = 0) (h7 : 0 ≤ r7) : Runs S N 1 m (sW k 20 r (n + 1 : Nat) r6 r7) (m.set (hS S k r) (n + 1 : Nat)) (eW k 20 r (n + 1 : Nat) r6 r7 n) := by
  obtain ⟨h1, h2⟩ := hS_lt S hm.S1.1 k r
  have hl := hm.len
  have hS1 := hm.S1
  have hN1 := hm.N1
  have hd := doW_swap m (hS S k r) 0 ((n + 1 : Nat) : Int) (by omega) (by omega) (by omega)
  have e : slotV (sW k 20 r (n + 1 : Nat) r6 r7) S = ((hS S k r : Nat) : Int) := h2.symm
  rw [← e, if_pos h0, decide_eq_true h0] at hd
  have hW : clW (sW k 20 r (n + 1 : Nat) r6 r7) true = eW k 20 r (n + 1 : Nat) r6 r7 n := by
    unfold clW
    rw [if_pos rfl]
    show eW k 20 r (n + 1 : Nat) r6 r7 (((n + 1 : Nat) : Int) - 1) = _
    rw [show ((n + 1 : Nat) : Int) - 1 = n by omega]
  have hac := racc_claim S N k.1 k.2.1 k.2.2.1 k.2.2.2 r (n + 1 : Nat) r6 r7 (by omega) (by omega) ⟨Int.natCast_nonneg _, by omega⟩
  have hbe := rbeh_claim S N (m.getD (hS S k r) 0) k.1 k.2.1 k.2.2.1 k.2.2.2 r (n + 1 : Nat) r6 r7 ⟨by omega, by omega⟩
  rw [← hW]
  refine one_step hm ⟨rfl, rfl, .inr (.inr (.inr (.inr (.inr (.inr rfl))))), ⟨Int.natCast_nonneg _, by show (r : Int) < S; omega⟩, h7, fun h => by rcases h with h | h <;> exact absurd h (by show ¬ ((20 : Int) = _); omega)⟩ 6 _ rfl (fun i hi => by rcases i with _ | _ | _ | _ | _ | _ | _ | _ | _ | _ | i <;> first | rfl | (cases hi)) rfl (by decide) ⟨by omega, by omega⟩ hd hac hbe fun id H hbk => ?_
  exact claim_m id (sW k 20 r (n + 1 : Nat) r6 r7) S N m H hbk (by omega) (by omega) (by omega) ⟨Int.natCast_nonneg _, by show (r : Int) ≤ 4000; omega⟩ ⟨Int.natCast_nonneg _, by show ((n + 1 : Nat) : Int) ≤ 1000000; omega⟩ hd
end
end Go.Proofs.Ytcehniefjelgeaa.Ab
/- One worker alone: it ends, and how. -/
namespace Go.Proofs.Ytcehniefjelgeaa.Ab
open Go Go.RowKit
def kidsAt (S : Nat) (m : List Int) (n : Nat) : Kid := (m.getD (S + 4 * n) 0, m.getD (S + 4 * n + 1) 0, m.getD (S + 4 * n + 2) 0, m.getD (S + 4 * n + 3) 0)
section
variable {S N : Nat} {m : List Int} {k : Kid}
theorem at_kids (n : Nat) (h : ∀ j, j < 4 → m.getD (S + 4 * n + j) 0 = kc k j) : kidsAt S m n = k := by
  have h0 := h 0 (by omega)
  have h1 := h 1 (by omega)
  have h2 := h 2 (by omega)
  have h3 := h 3 (by omega)
  unfold kidsAt
  rw [show m.getD (S + 4 * n) 0 = k.1 from h0, h1, h2, h3]; rfl
theorem kids_at (n : Nat) (h : kidsAt S m n = k) : ∀ j, j < 4 → m.getD (S + 4 * n + j) 0 = kc k j := by
  intro j hj
  subst h
  rcases (by omega : j = 0 ∨ j = 1 ∨ j = 2 ∨ j = 3) with rfl | rfl | rfl | rfl <;> rfl
/-- the kids of a node, compared from a place on -/
theorem cmp_run (hm : Mem S N m) {r n : Nat} (hr : r < S) (hn : n < N) : ∀ (d j : Nat), j + d = 3 → (∀ i, i < j → m.getD (S + 4 * n + i) 0 = kc k i) →
    (kidsAt S m n = k ∧ Runs S N (d + 1) m (sW k 1 r 0 n j) m (eW k 1 r 0 n 4 n)) ∨
    (kidsAt S m n ≠ k ∧ ∃ t j' : Nat, t ≤ d + 1 ∧ Runs S N t m (sW k 1 r 0 n j) m (if r + 1 = S then eW k 1 (r + 1 : Nat) 0 n j' (-1) else sW k 0 (r + 1 : Nat) 0 n j')) := by
  intro d
  induction d with
  | zero =>
    intro j hj hall
    have hj3 : j = 3 := by omega
    subst hj3
    have hs := st_cmp (k := k) hm hr hn (by omega : 3 < 4)
    by_cases h : m.getD (S + 4 * n + 3) 0 = kc k 3
    · rw [if_neg (by simpa using h), if_pos rfl] at hs
      refine .inl ⟨at_kids n fun i hi => ?_, hs⟩
      by_cases h3 : i = 3
      · subst h3; exact h
      · exact hall i (by omega)
    · rw [if_pos h] at hs
      exact .inr ⟨fun e => h (kids_at n e 3 (by omega)), 1, 3, by omega, hs⟩
  | succ d ih =>
    intro j hj hall
    have hs := st_cmp (k := k) hm hr hn (by omega : j < 4)
    by_cases h : m.getD (S + 4 * n + j) 0 = kc k j
    · rw [if_neg (by simpa using h), if_neg (by omega)] at hs
      rcases ih (j + 1) (by omega) (fun i hi => by
        by_cases hij : i = j
        · subst hij; exact h
        · exact hall i (by omega)) with ⟨h1, h2⟩ | ⟨h1, t, j', h2, h3⟩
      · refine .inl ⟨h1, ?_⟩
        have := hs.trans h2
        rwa [show 1 + (d + 1) = d + 1 + 1 by omega] at this
      · exact .inr ⟨h1, 1 + t, j', by omega, hs.trans h3⟩
    · rw [if_pos h] at hs
      exact .inr ⟨fun e => h (kids_at n e j (by omega)), 1, j, by omega, hs⟩
/-- at a slot there is another node -/
def Mis (S N : Nat) (m : List Int) (k : Kid) (r : Nat) : Prop := ∃ n : Nat, n < N ∧ m.getD (hS S k r) 0 = (n : Int) + 1 ∧ kidsAt S m n ≠ k
theorem mis_run (hm : Mem S N m) {r : Nat} {r6 r7 : Int} (hr : r < S) (h7 : 0 ≤ r7) (h : Mis S N m k r) : ∃ t n j' : Nat, t ≤ 5 ∧ Runs S N t m (sW k 0 r 0 r6 r7) m (if r + 1 = S then eW k 1 (r + 1 : Nat) 0 n j' (-1) else sW k 0 (r + 1 : Nat) 0 n j') := by
  obtain ⟨n, hn, hx, hk⟩ := h
  have hl := st_look (k := k) (r6 := r6) hm hr h7
  rw [if_pos (by omega), hx, show (n : Int) + 1 - 1 = n by omega] at hl
  rcases cmp_run (k := k) hm hr hn 3 0 (by omega) (fun i hi => by omega) with ⟨h1, _⟩ | ⟨_, t, j', h2, h3⟩
  · exact absurd h1 hk
  · exact ⟨1 + t, n, j', by omega, hl.trans h3⟩
theorem srch (hm : Mem S N m) : ∀ r : Nat, r < S → (∀ r', r' < r → Mis S N m k r') → ∃ t : Nat, t ≤ 5 * r ∧ ∃ r6 r7 : Int, 0 ≤ r7 ∧ Runs S N t m (sW k 0 0 0 0 0) m (sW k 0 r 0 r6 r7)
  | 0, _, _ => ⟨0, by omega, 0, 0, Int.le_refl _, .nil _ _⟩
  | r + 1, hr, h => by
    obtain ⟨t, ht, r6, r7, h7, hrun⟩ := srch hm r (by omega) fun r' h' => h r' (by omega)
    obtain ⟨t', n, j', ht', hrun'⟩ := mis_run (r6 := r6) hm (by omega) h7 (h r (by omega))
    rw [if_neg (by omega)] at hrun'
    exact ⟨t + t', by omega, n, j', Int.natCast_nonneg _, hrun.trans hrun'⟩
/-- all slots hold others -/
theorem run_full (hm : Mem S N m) (h : ∀ r, r < S → Mis S N m k r) : ∃ t : Nat, t ≤ 5 * S ∧ ∃ w', Runs S N t m (sW k 0 0 0 0 0) m w' ∧ w'.done = true ∧ w'.out = -1 := by
  have hS := hm.S1
  obtain ⟨t, ht, r6, r7, h7, hrun⟩ := srch hm (S - 1) (by omega) fun r' h' => h r' (by omega)
  obtain ⟨t', n, j', ht', hrun'⟩ := mis_run (r6 := r6) hm (by omega : S - 1 < S) h7 (h (S - 1) (by omega))
  rw [if_pos (by omega)] at hrun'
  exact ⟨t + t', by omega, _, hrun.trans hrun', rfl, rfl⟩
/-- it is there -/
theorem run_found (hm : Mem S N m) {r n : Nat} (hr : r < S) (hmis : ∀ r', r' < r → Mis S N m k r') (hn : n < N) (hx : m.getD (hS S k r) 0 = (n : Int) + 1) (hk : kidsAt S m n = k) : ∃ t : Nat, t ≤ 5 * S ∧ ∃ w', Runs S N t m (sW k 0 0 0 0 0) m w' ∧ w'.done = true ∧ w'.out = n := by
  obtain ⟨t, ht, r6, r7, h7, hrun⟩ := srch hm r hr hmis
  have hl := st_look (k := k) (r6 := r6) hm hr h7
  rw [if_pos (by omega), hx, show (n : Int) + 1 - 1 = n by omega] at hl
  rcases cmp_run (k := k) hm hr hn 3 0 (by omega) (fun i hi => by omega) with ⟨_, h1⟩ | ⟨h1, _⟩
  · exact ⟨t + (1 + (3 + 1)), by omega, _, hrun.trans (hl.trans h1), rfl, rfl⟩
  · exact absurd hk h1
/-- none is free -/
theorem run_none (hm : Mem S N m) {r : Nat} (hr : r < S) (hmis : ∀ r', r' < r → Mis S N m k r') (hx : m.getD (hS S k r) 0 = 0) (hf : Hn (m.getD (S + 4 * N) 0) = 0) : ∃ t : Nat, t ≤ 5 * S + 9 ∧ ∃ w', Runs S N t m (sW k 0 0 0 0 0) m w' ∧ w'.done = true ∧ w'.out = -1 := by
  obtain ⟨t, ht, r6, r7, h7, hrun⟩ := srch hm r hr hmis
  have hl := st_look (k := k) (r6 := r6) hm hr h7
  rw [if_neg (by omega)] at hl
  have hh := st_head (k := k) (r6 := r6) hm hr h7
  rw [if_pos hf] at hh
  exact ⟨t + (1 + 1), by omega, _, hrun.trans (hl.trans hh), rfl, rfl⟩
theorem Mem.set_out (hm : Mem S N m) {i : Nat} {v : Int} (hi : S ≤ i) (hi2 : i < m.length) : Mem S N (m.set i v) :=
  ⟨hm.S1, hm.N1, by rw [List.length_set]; exact hm.len, fun j hj => by rw [set_getDw m i v 0 hi2, if_neg (by omega)]; exact hm.slots j hj⟩
/-- the words behind it -/
def putM (S N : Nat) (m : List Int) (k : Kid) (s x : Nat) (h : Int) : List Int := (((((m.set (S + 4 * N) h).set (S + 4 * x + 0) (kc k 0)).set (S + 4 * x + 1) (kc k 1)).set (S + 4 * x + 2) (kc k 2)).set (S + 4 * x + 3) (kc k 3)).set s (x + 1 : Nat)
theorem putM_len (s x : Nat) (h : Int) : (putM S N m k s x h).length = m.length := by unfold putM; simp
theorem putM_at (hm : Mem S N m) {s x : Nat} (hs : s < S) (hx : x < N) (h : Int) (i : Nat) : (putM S N m k s x h).getD i 0 = if i = s then ((x + 1 : Nat) : Int) else if S + 4 * x ≤ i ∧ i < S + 4 * x + 4 then kc k (i - (S + 4 * x)) else if i = S + 4 * N then h else m.getD i 0 := by
  have hl := hm.len
  unfold putM
  rw [set_getDw _ s _ 0 (by simp; omega)]
  by_cases h1 : s = i
  · rw [if_pos h1, if_pos h1.symm]
  rw [if_neg h1, if_neg (fun e => h1 e.symm), set_getDw _ (S + 4 * x + 3) _ 0 (by simp; omega), set_getDw _ (S + 4 * x + 2) _ 0 (by simp; omega), set_getDw _ (S + 4 * x + 1) _ 0 (by simp; omega), set_getDw _ (S + 4 * x + 0) _ 0 (by simp; omega), set_getDw _ (S + 4 * N) _ 0 (by omega)]
  by_cases h2 : S + 4 * x ≤ i ∧ i < S + 4 * x + 4
  · rw [if_pos h2]
    rcases (by omega : i = S + 4 * x ∨ i = S + 4 * x + 1 ∨ i = S + 4 * x + 2 ∨ i = S + 4 * x + 3) with rfl | rfl | rfl | rfl
    · rw [if_neg (by omega), if_neg (by omega), if_neg (by omega), if_pos (by omega), show S + 4 * x - (S + 4 * x) = 0 by omega]
    · rw [if_neg (by omega), if_neg (by omega), if_pos (by omega), show S + 4 * x + 1 - (S + 4 * x) = 1 by omega]
    · rw [if_neg (by omega), if_pos (by omega), show S + 4 * x + 2 - (S + 4 * x) = 2 by omega]
    · rw [if_pos (by omega), show S + 4 * x + 3 - (S + 4 * x) = 3 by omega]
  · rw [if_neg h2, if_neg (by omega), if_neg (by omega), if_neg (by omega), if_neg (by omega)]
    by_cases h3 : i = S + 4 * N
    · rw [if_pos h3, if_pos h3.symm]
    · rw [if_neg h3, if_neg (fun e => h3 e.symm)]
/-- a node is put -/
theorem run_put (hm : Mem S N m) {r C x l : Nat} (hr : r < S) (hmis : ∀ r', r' < r → Mis S N m k r') (he : m.getD (hS S k r) 0 = 0) (hC : C ≤ 1000) (hh : m.getD (S + 4 * N) 0 = (C : Int) * 1048576 + ((x : Int) + 1)) (hx : x < N) (hlk : m.getD (S + 4 * N + (x + 1)) 0 = l) (hl : l ≤ N) (hk : ∀ j, j < 4 → 0 ≤ kc k j ∧ kc k j ≤ 1152921504606846975) :
    ∃ t : Nat, t ≤ 5 * r + 9 ∧ ∃ w', Runs S N t m (sW k 0 0 0 0 0) (putM S N m k (hS S k r) x (((C : Int) + 1) * 1048576 + l)) w' ∧ w'.done = true ∧ w'.out = x := by
  have hS1 := hm.S1
  have hN1 := hm.N1
  have hlen := hm.len
  obtain ⟨s1, s2⟩ := hS_lt S hS1.1 k r
  obtain ⟨t, ht, r6, r7, h7, hrun⟩ := srch hm r hr hmis
  have a1 := st_look (k := k) (r6 := r6) hm hr h7
  rw [if_neg (by omega)] at a1
  have hH : Hn (m.getD (S + 4 * N) 0) = ((x + 1 : Nat) : Int) := by
    rw [hh, show (x : Int) + 1 = ((x + 1 : Nat) : Int) by omega]
    exact hn_at C (x + 1) (by omega)
  have a2 := st_head (k := k) (r6 := r6) hm hr h7
  rw [if_neg (by omega)] at a2
  have a3 := st_next (k := k) hm hr h7 hH (by omega : x + 1 ≤ N)
  rw [hlk] at a3
  have hdiv : (m.getD (S + 4 * N) 0) / 1048576 = C := by rw [hh]; omega
  have a4 := st_take (k := k) hm hr (r7 := l) (r6 := m.getD (S + 4 * N) 0) (by omega) (by omega) rfl
  rw [hH, hdiv] at a4
  have m1 := hm.set_out (i := S + 4 * N) (v := ((C : Int) + 1) * 1048576 + l) (by omega) (by omega)
  have b0 := st_write (r6 := m.getD (S + 4 * N) 0) m1 hr hx (by omega : 0 < 4) (hk 0 (by omega))
  have m2 := m1.set_out (i := S + 4 * x + 0) (v := kc k 0) (by omega) (by simp; omega)
  have b1 := st_write (r6 := m.getD (S + 4 * N) 0) m2 hr hx (by omega : 1 < 4) (hk 1 (by omega))
  have m3 := m2.set_out (i := S + 4 * x + 1) (v := kc k 1) (by omega) (by simp; omega)
  have b2 := st_write (r6 := m.getD (S + 4 * N) 0) m3 hr hx (by omega : 2 < 4) (hk 2 (by omega))
  have m4 := m3.set_out (i := S + 4 * x + 2) (v := kc k 2) (by omega) (by simp; omega)
  have b3 := st_write (r6 := m.getD (S + 4 * N) 0) m4 hr hx (by omega : 3 < 4) (hk 3 (by omega))
  have m5 := m4.set_out (i := S + 4 * x + 3) (v := kc k 3) (by omega) (by simp; omega)
  rw [if_neg (by omega)] at b0 b1 b2
  rw [if_pos rfl] at b3
  have hsl : ((((((m.set (S + 4 * N) (((C : Int) + 1) * 1048576 + l)).set (S + 4 * x + 0) (kc k 0)).set (S + 4 * x + 1) (kc k 1)).set (S + 4 * x + 2) (kc k 2)).set (S + 4 * x + 3) (kc k 3))).getD (hS S k r) 0 = 0 := by
    rw [set_getDw _ (S + 4 * x + 3) _ 0 (by simp; omega), if_neg (by omega), set_getDw _ (S + 4 * x + 2) _ 0 (by simp; omega), if_neg (by omega), set_getDw _ (S + 4 * x + 1) _ 0 (by simp; omega), if_neg (by omega), set_getDw _ (S + 4 * x + 0) _ 0 (by simp; omega), if_neg (by omega), set_getDw _ (S + 4 * N) _ 0 (by omega), if_neg (by omega), he]
  have c := st_claim (k := k) (r6 := m.getD (S + 4 * N) 0) (r7 := 4) m5 hr hx hsl (by omega)
  exact ⟨t + (1 + (1 + (1 + (1 + (1 + (1 + (1 + (1 + 1)))))))), by omega, _, hrun.trans (a1.trans (a2.trans (a3.trans (a4.trans (b0.trans (b1.trans (b2.trans (b3.trans c)))))))), rfl, rfl⟩
end
end Go.Proofs.Ytcehniefjelgeaa.Ab
