/- Walks of the two Paths. -/
import Derived.Test.YtkflllendbgdaaaW
namespace Go.Proofs.Ytkflllendbgdaaa
open Go.RowKit

def pathL (h s : Int) (n : Nat) : List Int := (List.range n).map fun (i : Nat) => (h + (i : Int)) % s
theorem pathL_succ (h s : Int) (n : Nat) : pathL h s (n + 1) = pathL h s n ++ [(h + (n : Int)) % s] := by
  unfold pathL; rw [List.range_succ, List.map_append]; rfl
theorem pathL_length (h s : Int) (n : Nat) : (pathL h s n).length = n := by unfold pathL; simp
theorem turn_mod (h s : Int) (k : Nat) (hs : 1 ≤ s) : turn ((h + (k : Int)) % s) s = (h + ((k + 1 : Nat) : Int)) % s := by
  unfold turn
  have e : (h + ((k + 1 : Nat) : Int)) = (h + (k : Int)) + 1 := by omega
  rw [e]
  generalize h + (k : Int) = x
  have h1 := Int.emod_nonneg x (show s ≠ 0 by omega)
  have h2 := Int.emod_lt_of_pos x (show 0 < s by omega)
  have h3 : (x + 1) % s = (x % s + 1) % s := by rw [Int.emod_add_emod]
  rw [h3]
  split
  · rename_i hh; rw [hh, Int.emod_self]
  · exact (Int.emod_eq_of_lt (by omega) (by omega)).symm

theorem Try.info3 : (Try.prog.info? 3).map (fun i => (i.zero, i.size, i.bytes)) = some (some (.int .i64 0), 1, 8) := by kernel_rfl

/-- an owned row of numbers reads as a list -/
theorem ints_own {w : World} {base : Nat} {v : Value} {n : Nat} {xs : List Int} (h : w.ownsRow base 3 1 v n (xs.map (Value.int .i64))) : Ints w v xs ∧ n = xs.length := by
  obtain ⟨hl, h⟩ := h
  have hn : n = xs.length := by simp at hl; omega
  refine ⟨?_, hn⟩
  rcases h with ⟨rfl, hn0⟩ | ⟨g, cap, cur, rfl, hb, hg, hnc, hcm, hcs, htake⟩
  · have : xs = [] := List.eq_nil_of_length_eq_zero (by omega)
    subst this
    exact ⟨none, 0, rfl, by simp, by omega, .inl rfl⟩
  · unfold maxLen at hcm
    refine ⟨_, cap, by rw [hn], by omega, hcm, .inr ⟨g, 0, rfl, fun i hi => ?_⟩⟩
    rw [Nat.zero_add, cell_of_row w g i cur 3 (0, 0) hg]
    have h1 : (xs.map (Value.int .i64))[i]? = some (.int .i64 (xs.getD i 0)) := by
      simp [List.getD_eq_getElem?_getD, List.getElem?_eq_getElem hi]
    rw [← htake, List.getElem?_take] at h1
    split at h1
    · simpa using h1
    · cases h1

theorem grown_later {w w' : World} (h : Later w w') (row : Option Nat) : w.grownBy w' row := ⟨h.os, h.tape, h.output, h.size, fun k hk _ => h.block k hk⟩
theorem own_later {w w' : World} {base : Nat} {e : TypeId} {size : Nat} {v : Value} {n : Nat} {xs : List Value} (h : w.ownsRow base e size v n xs) (hl : Later w w') : w'.ownsRow base e size v n xs :=
  h.kept (grown_later hl none) (by cases hv : v.ownBlock <;> simp)
theorem own_keep {w w' : World} {base : Nat} {e : TypeId} {size : Nat} {v : Value} {n : Nat} {xs : List Value} (h : w.ownsRow base e size v n xs) {b : Nat} (hg : w.grownBy w' (some b)) (hb : b < base) : w'.ownsRow base e size v n xs :=
  h.kept hg (by
    cases hv : v.ownBlock with
    | none => left; rfl
    | some x => right; intro e; cases e; have := (h.lt b hv).1; omega)
theorem own_row_of {w : World} {base : Nat} {e : TypeId} {size : Nat} {v : Value} {n : Nat} {xs : List Value} (h : w.ownsRow base e size v n xs) (b : Nat) (hb : b < base) : some b ≠ v.ownBlock := by
  intro e; have := (h.lt b e.symm).1; omega
def PathSays (xs : List Int) (w : World) (e : Ending) (w' : World) : Prop := ∃ v, e = .returned v ∧ Ints w' v xs ∧ Later w w'
set_option maxHeartbeats 1000000 in
theorem rpath_any (k0 k1 k2 k3 s : Int) (w : World) (s0 : 1 ≤ s) (s1 : s ≤ 4000) :
    Calls Try.prog 14 #[four k0 k1 k2 k3, .int .i64 s] w (PathSays (pathL (hashOf [k0, k1, k2, k3]) s s.toNat) w) := by
  obtain ⟨n, rfl⟩ := Int.eq_ofNat_of_zero_le (show 0 ≤ s by omega)
  rw [Int.toNat_natCast]
  have hb := hashOf_bd [k0, k1, k2, k3]
  have hof := fun w => rof_any k0 k1 k2 k3 w
  generalize hashOf [k0, k1, k2, k3] = h at *
  have Hof := Lib.hid hof
  clear hof
  obtain ⟨i0, hi, hz0, hz1, hz2⟩ := info_parts Try.info3
  have hB : ∀ w1, Later ((w.alloc (.cells #[.int .i64 k0, .int .i64 k1, .int .i64 k2, .int .i64 k3] 22))) w1 → w1.cell? ⟨w.heap.size, 0, none⟩ = some (.int .i64 k0) ∧ w1.cell? ⟨w.heap.size, 1, none⟩ = some (.int .i64 k1) ∧ w1.cell? ⟨w.heap.size, 2, none⟩ = some (.int .i64 k2) ∧ w1.cell? ⟨w.heap.size, 3, none⟩ = some (.int .i64 k3) := by
    intro w1 h1
    refine ⟨?_, ?_, ?_, ?_⟩ <;> (rw [h1.cell (by simp)]; simp)
  go_enter Try.func14, Try.ntmps14
  go_wp2
  go_loopw [5, 6] (fun v i wr => ∃ k : Nat, i = .int .i64 k ∧ k ≤ n ∧ wr.ownsRow (w.heap.size + 1) 3 1 v k ((pathL h n k).map (Value.int .i64)) ∧ Later (w.alloc (.cells #[.int .i64 k0, .int .i64 k1, .int .i64 k2, .int .i64 k3] 22)) wr) (fun _ i _ => n - (intOf i).toNat)
  case atStart => exact ⟨0, rfl, by omega, by simpa [pathL] using World.ownsRow_nil _ _ _ _, later_refl _⟩
  case round =>
    obtain ⟨k, rfl, hk, hown, hw⟩ := hrel
    obtain ⟨c0, c1, c2, c3⟩ := hB wr hw
    have hsz := hw.size
    simp only [World.size_alloc] at hsz
    by_cases hlt : k < n
    · have hsl : slotOf h (k : Int) (n : Int) = (h + (k : Int)) % (n : Int) := slotOf_in s0 hb.1 (by omega) (by omega) (by omega)
      have Hsl := Lib.hid hsl
      have Hps := Lib.hid (pathL_succ h n k)
      clear hsl
      go_wp2_with (first
        | (go_at_call 16; refine (Hof.out _).mono ?_; rintro e w2 ⟨rfl, hb2⟩; have hown2 := own_later hown hb2; have hsz2 := hb2.size; clear c0 c1 c2 c3)
        | (go_at_call 11; refine (rslot_any _ _ _ _).mono ?_; rintro e w3 ⟨rfl, rfl⟩)
        | (at_builtin; refine wpList_append_own _ rfl _ _ 25 rfl (w.heap.size + 1) 3 i0 (.int .i64 0) 1 8 Try.underlying25 hi hz0 hz1 hz2 rfl (by decide) _ _ _ rfl (hown2.alloc _) ⟨w2.heap.size, 0, none⟩ 1 1 [.int .i64 (slotOf h (k : Int) (n : Int))] rfl rfl ?c1 ?c2 ?c3 ?c4 ?c5 ?_))
      case c1 => exact (cell_one_new _ _ _)
      case c2 => simp [Value.oneCell']
      case c3 => unfold maxLen; omega
      case c4 => omega
      case c5 => simp; omega
      intro v' w4 hown4 hgr _
      go_wp2
      go_roundw
      case rel =>
        refine ⟨k + 1, by go_num, by omega, ?_, ?_⟩
        · rw [Hps.out, List.map_append]
          have := hown4
          rw [Hsl.out] at this
          exact this
        · exact (((hw.trans (hb2.mono (by simp; omega))).alloc (by simp; omega) _).grown hgr (by simp; omega) (fun k hk => by have := (hown2.lt k hk).1; simp; omega))
      case measure => simp [intOf]; omega
    · have hkn : k = n := by omega
      subst hkn
      clear c0 c1 c2 c3
      go_wp2
      go_ret
      exact ⟨_, rfl, (ints_own hown).1, (later_alloc _ _).trans (hw.mono (by simp))⟩

theorem rpath_none (k0 k1 k2 k3 s : Int) (w : World) (hs : s < 1 ∨ 4000 < s) :
    Calls Try.prog 14 #[four k0 k1 k2 k3, .int .i64 s] w (PathSays [] w) := by
  rcases hs with hs | hs
  · go_enter Try.func14, Try.ntmps14
    go_wp2
    refine wp_loop_rounds 1 ?_
    simp only [rounds_succ]
    go_wp2
    go_ret
    exact ⟨_, rfl, ⟨none, 0, rfl, by simp, by omega, .inl rfl⟩, later_alloc _ _⟩
  · go_enter Try.func14, Try.ntmps14
    go_wp2
    refine wp_loop_rounds 1 ?_
    simp only [rounds_succ]
    go_wp2
    go_ret
    exact ⟨_, rfl, ⟨none, 0, rfl, by simp, by omega, .inl rfl⟩, later_alloc _ _⟩

theorem hpath_none (k0 k1 k2 k3 s : Int) (w : World) (hs : s < 1 ∨ 4000 < s) :
    Calls Try.prog 13 #[four k0 k1 k2 k3, .int .i64 s] w fun e w' => e = .returned (.slice none 0 0) ∧ Later w w' := by
  rcases hs with hs | hs
  · go_enter Try.func13, Try.ntmps13
    go_wp2
    go_ret
    exact ⟨rfl, later_alloc _ _⟩
  · go_enter Try.func13, Try.ntmps13
    go_wp2
    go_ret
    exact ⟨rfl, later_alloc _ _⟩

set_option maxHeartbeats 1000000 in
theorem hpath_any (k0 k1 k2 k3 s : Int) (w : World) (s0 : 1 ≤ s) (s1 : s ≤ 4000) :
    Calls Try.prog 13 #[four k0 k1 k2 k3, .int .i64 s] w (PathSays (pathL (hashOf [k0, k1, k2, k3]) s s.toNat) w) := by
  obtain ⟨n, rfl⟩ := Int.eq_ofNat_of_zero_le (show 0 ≤ s by omega)
  rw [Int.toNat_natCast]
  have hb := hashOf_bd [k0, k1, k2, k3]
  have hof := fun w => path_any k0 k1 k2 k3 n w s0 s1
  generalize hashOf [k0, k1, k2, k3] = h at *
  have Hof := Lib.hid hof
  clear hof
  obtain ⟨i0, hi, hz0, hz1, hz2⟩ := info_parts Try.info3
  go_enter Try.func13, Try.ntmps13
  go_wp2_with (go_at_call 18; refine (Hof.out _).mono ?_; rintro e w1 ⟨v, rfl, ⟨bA, bS, rfl, hne, hA0, hS0, hA, hS⟩, hw1⟩)
  have hAl := lt_of_block hA
  have hSl := lt_of_block hS
  have HA := Lib.hid hA
  have HS := Lib.hid hS
  have hsz1 := hw1.size
  clear hA hS
  go_loopw [4, 16] (fun v i wr => ∃ k : Nat, i = .int .i64 k ∧ k ≤ n ∧ wr.ownsRow w1.heap.size 3 1 v k ((pathL h n k).map (Value.int .i64)) ∧ Below (w.heap.size + 1) w1 wr ∧ wr.heap[bA]? = some (one ((h + (k : Int)) % n)) ∧ wr.heap[bS]? = some (one n) ∧ w1.heap.size ≤ wr.heap.size) (fun _ i _ => n - (intOf i).toNat)
  case atStart => exact ⟨0, rfl, by omega, by simpa [pathL] using World.ownsRow_nil _ _ _ _, Below.refl _ _, by simpa using HA.out, HS.out, Nat.le_refl _⟩
  case round =>
    obtain ⟨k, rfl, hk, hown, hw, hrA, hrS, hsz⟩ := hrel
    by_cases hlt : k < n
    · have hnx := next_any bA bS ((h + (k : Int)) % n) n wr hrA hrS hne (Int.emod_nonneg _ (by omega)) (by have := Int.emod_lt_of_pos (h + (k : Int)) (show 0 < (n : Int) by omega); omega) (by omega)
      rw [turn_mod h n k s0] at hnx
      have Hnx := Lib.hid hnx
      have HrS := Lib.hid hrS
      have Hps := Lib.hid (pathL_succ h n k)
      clear hnx hrA hrS
      go_wp2_with fail
      refine (Hnx.out).mono ?_
      rintro e w2 ⟨rfl, hA2, hg2⟩
      have hown2 := own_keep hown hg2 hAl
      have hsz2 := hg2.size
      have HA2 := Lib.hid hA2
      clear hA2
      go_wp2_with (at_builtin; refine wpList_append_own _ rfl _ _ 25 rfl w1.heap.size 3 i0 (.int .i64 0) 1 8 Try.underlying25 hi hz0 hz1 hz2 rfl (by decide) _ _ _ rfl (hown2.alloc _) ⟨w2.heap.size, 0, none⟩ 1 1 [.int .i64 ((h + (k : Int)) % n)] rfl rfl ?c1 ?c2 ?c3 ?c4 ?c5 ?_)
      case c1 => exact (cell_one_new _ _ _)
      case c2 => simp [Value.oneCell']
      case c3 => unfold maxLen; omega
      case c4 => omega
      case c5 => simp; omega
      intro v' w4 hown4 hgr _
      go_wp2
      go_roundw
      case rel =>
        refine ⟨k + 1, by go_num, by omega, ?_, ?_, ?_, ?_, ?_⟩
        · rw [Hps.out, List.map_append]
          exact hown4
        · refine (((hw.grown hg2 ?_ ?_).alloc ?_ _).grown hgr ?_ ?_)
          · simp at hsz1; omega
          · intro k hk; cases hk; simp at hA0; exact hA0
          · simp at hsz1; omega
          · simp at hsz1 ⊢; omega
          · intro k hk; have := (hown2.lt k hk).1; simp at hsz1; omega
        · rw [hgr.block bA (by simp; omega) (own_row_of hown2 bA hAl), Below.heap_alloc _ _ _ (by omega)]; exact HA2.out
        · rw [hgr.block bS (by simp; omega) (own_row_of hown2 bS hSl), Below.heap_alloc _ _ _ (by omega), hg2.block bS (by omega) (by intro e; cases e; exact hne rfl)]; exact HrS.out
        · have := hgr.size; simp at this; omega
      case measure => simp [intOf]; omega
    · have hkn : k = n := by omega
      subst hkn
      clear hrA hrS
      go_wp2
      go_ret
      refine ⟨_, rfl, (ints_own hown).1, ?_⟩
      exact ((later_alloc _ _).trans ((hw1.mono (by simp)))).trans (hw.mono (by simp))

end Go.Proofs.Ytkflllendbgdaaa
