/- The law's walk: paths. -/
import Derived.Test.YtkflllendbgdaaaV
namespace Go.Proofs.Ytkflllendbgdaaa
open Go.RowKit

theorem slot_apart (H n : Int) (i k : Int) (_ : 1 ≤ n) (hk : 0 ≤ k) (hi : k < i) (hin : i < n) : (H + i) % n ≠ (H + k) % n := by
  intro e
  have h1 : (H + i - (H + k)) % n = 0 := Int.emod_eq_emod_iff_emod_sub_eq_zero.1 e
  rw [show H + i - (H + k) = i - k from by omega, Int.emod_eq_of_lt (by omega) (by omega)] at h1
  omega
/-- which slots were seen: those that come later were not -/
def Seen (H : Int) (n k : Nat) (s : List Int) : Prop := s.length = n ∧ ∀ i, k ≤ i → i < n → s.getD ((H + (i : Int)) % (n : Int)).toNat 0 = 0
theorem seen_start (H : Int) (n : Nat) : Seen H n 0 (List.replicate n 0) := by
  refine ⟨by simp, fun i _ _ => ?_⟩
  simp only [List.getD_eq_getElem?_getD, List.getElem?_replicate]
  split <;> rfl
theorem seen_next {H : Int} {n k : Nat} {s : List Int} (h : Seen H n k s) (_ : k < n) (v : Int) : Seen H n (k + 1) (s.set ((H + (k : Int)) % (n : Int)).toNat v) := by
  refine ⟨by simpa using h.1, fun i hi hin => ?_⟩
  have hne := slot_apart H n i k (by omega) (by omega) (by omega) (by omega)
  have b1 := Int.emod_nonneg (H + (i : Int)) (show (n : Int) ≠ 0 by omega)
  have b2 := Int.emod_nonneg (H + (k : Int)) (show (n : Int) ≠ 0 by omega)
  rw [List.getD_eq_getElem?_getD, List.getElem?_set_ne (by omega), ← List.getD_eq_getElem?_getD]
  exact h.2 i (by omega) hin
theorem pathL_get (H s : Int) (n i : Nat) (hi : i < n) : (pathL H s n).getD i 0 = (H + (i : Int)) % s := by
  unfold pathL
  simp [List.getD_eq_getElem?_getD, hi]

set_option maxRecDepth 100000 in
set_option maxHeartbeats 8000000 in
theorem paths_row (k0 k1 k2 k3 s : Int) (w : World) (_ : I64 k0) (_ : I64 k1) (_ : I64 k2) (_ : I64 k3) (hs : I64 s) :
    Calls Try.prog 4 #[four k0 k1 k2 k3, .int .i64 s] w fun e w' => e = .returned (.bool true) ∧ Later w w' := by
  have p0 := fun w => pick_any s 300 w hs.1 hs.2 (by omega) (by omega)
  obtain ⟨q0, q1⟩ := pick_bd s 300 (by omega)
  generalize pick s 300 = q at *
  obtain ⟨m, rfl⟩ := Int.eq_ofNat_of_zero_le q0
  have hp := fun w => hpath_any k0 k1 k2 k3 (1 + (m : Int)) w (by omega) (by omega)
  have ho := of_any k0 k1 k2 k3
  have hb := hashOf_bd [k0, k1, k2, k3]
  generalize hashOf [k0, k1, k2, k3] = H at *
  obtain ⟨H0, H1⟩ := hb
  have en : (1 + (m : Int)) = ((m + 1 : Nat) : Int) := by omega
  have hsl : ∀ k : Nat, k < m + 1 → slotOf H (k : Int) (1 + (m : Int)) = (H + (k : Int)) % (1 + (m : Int)) := fun k hk => slotOf_in (by omega) H0 (by omega) (by omega) (by omega)
  have P0 := Lib.hid p0
  have Hp := Lib.hid hp
  have Ho := Lib.hid ho
  have Hsl := Lib.hid hsl
  have En := Lib.hid en
  obtain ⟨hs0, hs1⟩ := hs
  clear p0 hp ho hsl en
  obtain ⟨i0, hi, hz0, hz1, hz2⟩ := info_parts Try.info3
  have hmk : ∀ w : World, (Instr.makeSlice 25 (.int .i64 (1 + (m : Int))) (.int .i64 (1 + (m : Int)))).run Try.prog w = .ok (.slice (some ⟨w.heap.size, 0, none⟩) (m + 1) (m + 1)) (w.alloc (.cells ((List.replicate (m + 1) 0).map (Value.int .i64)).toArray 3)) := by
    intro w
    have h := run_make (P := Try.prog) w 25 3 i0 (.int .i64 0) Try.underlying25 hi hz0 .i64 .i64 (1 + (m : Int)) (1 + (m : Int)) (by omega) (by omega) (by rw [hz2]; omega) (by omega)
    have e : (1 + (m : Int)).toNat = m + 1 := by omega
    rw [hz1, e, madeCells_int] at h
    exact h
  have Hmk := Lib.hid hmk
  clear hmk
  go_enter Try.func4, Try.ntmps4
  go_wp2_with fail
  refine (awake_any _).mono ?_
  rintro e w1 ⟨rfl, hw1⟩
  have c0 : w1.cell? ⟨w.heap.size, 0, none⟩ = some (.int .i64 k0) := by rw [hw1.cell (by simp)]; simp
  have c1 : w1.cell? ⟨w.heap.size, 1, none⟩ = some (.int .i64 k1) := by rw [hw1.cell (by simp)]; simp
  have c2 : w1.cell? ⟨w.heap.size, 2, none⟩ = some (.int .i64 k2) := by rw [hw1.cell (by simp)]; simp
  have c3 : w1.cell? ⟨w.heap.size, 3, none⟩ = some (.int .i64 k3) := by rw [hw1.cell (by simp)]; simp
  have hl : w.heap.size < w1.heap.size := by have := hw1.size; simp at this; omega
  have hl1 : Later w w1 := (later_alloc _ _).trans (hw1.mono (by simp))
  clear hw1
  go_wp2_with fail
  refine (P0.out _).mono ?_
  rintro e w2 ⟨rfl, rfl⟩
  go_wp2_with fail
  refine (Hp.out _).mono ?_
  rintro e w2 ⟨v, rfl, ⟨a, c, rfl, hc1, hc2, hv⟩, hw2⟩
  have hm := Hmk.out w2
  rcases hv with hv | ⟨b, off, rfl, hv⟩
  · have := congrArg List.length hv
    simp only [pathL_length, List.length_nil] at this
    omega
  rw [pathL_length] at hc1 hv
  have el : (1 + (m : Int)).toNat = m + 1 := by omega
  rw [el] at hc1 hv
  rw [pathL_length, el]
  have hv2 : ∀ i, i < m + 1 → w2.cell? ⟨b, off + i, none⟩ = some (.int .i64 ((H + (i : Int)) % (1 + (m : Int)))) := fun i h => by rw [hv i h, pathL_get _ _ _ _ h]
  clear hv
  have hmm : ((m + 1 : Nat) : Int) = 1 + (m : Int) := by omega
  go_wp2
  have hR : Row1 (w2.alloc (Obj.cells (Array.replicate (m + 1) (Value.int IntKind.i64 0)) 3)) w2.heap.size 3 ((List.replicate (m + 1) 0).map (Value.int .i64)) := by
    have := row1_new w2 3 ((List.replicate (m + 1) 0).map (Value.int .i64))
    simpa using this
  have hsz2 := hw2.size
  have cell2 : ∀ {b o v}, w1.cell? ⟨b, o, none⟩ = some v → (w2.alloc (Obj.cells (Array.replicate (m + 1) (Value.int IntKind.i64 0)) 3)).cell? ⟨b, o, none⟩ = some v := fun {b o v} h => by
    have hlt := World.block_lt_of_cell? w1 _ h
    rw [World.cell?_alloc_past _ _ _ (Nat.lt_of_lt_of_le hlt hsz2), hw2.cell (p := ⟨b, o, none⟩) hlt]; exact h
  have hv3 : ∀ i, i < m + 1 → (w2.alloc (Obj.cells (Array.replicate (m + 1) (Value.int IntKind.i64 0)) 3)).cell? ⟨b, off + i, none⟩ = some (.int .i64 ((H + (i : Int)) % (1 + (m : Int)))) := fun i h => by
    rw [World.cell?_alloc_past _ _ _ (World.block_lt_of_cell? w2 _ (hv2 i h))]; exact hv2 i h
  have hbB : b < w2.heap.size := World.block_lt_of_cell? w2 _ (hv2 0 (by omega))
  replace c0 := cell2 c0
  replace c1 := cell2 c1
  replace c2 := cell2 c2
  replace c3 := cell2 c3
  have hl3 : Later w (w2.alloc (Obj.cells (Array.replicate (m + 1) (Value.int IntKind.i64 0)) 3)) := (hl1.trans (hw2.mono (by omega))).alloc (by omega) _
  have hbl : w2.heap.size < (w2.alloc (Obj.cells (Array.replicate (m + 1) (Value.int IntKind.i64 0)) 3)).heap.size := by simp
  have hwB : w.heap.size < w2.heap.size := by omega
  clear hv2 cell2
  generalize w2.alloc (Obj.cells (Array.replicate (m + 1) (Value.int IntKind.i64 0)) 3) = W at *
  generalize w2.heap.size = B at *
  clear hw2
  have HR := Lib.hid hR
  clear hR hm
  go_loopw [9] (fun i wr => ∃ (k : Nat) (sn : List Int), i = .int .i64 k ∧ k ≤ m + 1 ∧ Below B W wr ∧ W.heap.size ≤ wr.heap.size ∧ Hid (Row1 wr B 3 (sn.map (Value.int .i64))) ∧ Hid (Seen H (m + 1) k sn)) (fun i _ => m + 1 - (intOf i).toNat)
  case atStart => exact ⟨0, List.replicate (m + 1) 0, rfl, by omega, Below.refl _ _, Nat.le_refl _, HR.out, seen_start H (m + 1)⟩
  case round =>
    obtain ⟨k, sn, rfl, hk, hw, hWs, hRr, hSn⟩ := hrel
    have cell : ∀ {b o v}, b < B → W.cell? ⟨b, o, none⟩ = some v → wr.cell? ⟨b, o, none⟩ = some v := fun {b o v} hb h => by rw [hw.cell (p := ⟨b, o, none⟩) hb]; exact h
    replace c0 := cell hwB c0
    replace c1 := cell hwB c1
    replace c2 := cell hwB c2
    replace c3 := cell hwB c3
    have lw := World.block_lt_of_cell? wr _ c0
    by_cases hlt : k < m + 1
    · have hx := cell hbB (hv3 k hlt)
      have lb := World.block_lt_of_cell? wr _ hx
      have hsk := Hsl.out k hlt
      have hs0' := hSn.out.2 k (Nat.le_refl _) hlt
      have hln := hSn.out.1
      have hnx := seen_next hSn.out hlt 1
      have x0 := Int.emod_nonneg (H + (k : Int)) (show (1 + (m : Int)) ≠ 0 by omega)
      have x1 := Int.emod_lt_of_pos (H + (k : Int)) (show 0 < (1 + (m : Int)) by omega)
      rw [show ((m + 1 : Nat) : Int) = 1 + (m : Int) from by omega] at hs0' hnx
      have hstep : 0 < k → ∃ y : Int, wr.cell? ⟨b, off + (k - 1), none⟩ = some (.int .i64 y) ∧ 0 ≤ y ∧ y < 1 + (m : Int) ∧ (y + 1) % (1 + (m : Int)) = (H + (k : Int)) % (1 + (m : Int)) := fun h0 => by
        refine ⟨_, cell hbB (hv3 (k - 1) (by omega)), Int.emod_nonneg _ (by omega), Int.emod_lt_of_pos _ (by omega), ?_⟩
        rw [Int.emod_add_emod]
        congr 1; omega
      have hso : ∀ (κ : Int) (w : World), κ = (k : Int) → Calls Try.prog 10 #[.int .i64 H, .int .i64 κ, .int .i64 (1 + (m : Int))] w fun e w' => e = .returned (.int .i64 ((H + (k : Int)) % (1 + (m : Int)))) ∧ w = w' := by
        rintro κ w rfl
        have := slot_any H k (1 + (m : Int)) w
        rwa [hsk] at this
      generalize (H + (k : Int)) % (1 + (m : Int)) = x at *
      obtain ⟨j, rfl⟩ := Int.eq_ofNat_of_zero_le x0
      rw [Int.toNat_natCast] at hs0' hnx
      have hc := row1_cell hRr.out j
      have hf := row1_free hRr.out j
      have lB := row1_lt hRr.out
      have hcj : wr.cell? ⟨B, j, none⟩ = some (.int .i64 0) := by
        rw [hc, List.getElem?_map]
        have : j < sn.length := by omega
        simp only [List.getD_eq_getElem?_getD, List.getElem?_eq_getElem this, Option.getD_some] at hs0'
        rw [List.getElem?_eq_getElem this, hs0']; rfl
      have hrs := row1_set hRr.out j (.int .i64 1)
      rw [← List.map_set] at hrs
      have Hso := Lib.hid hso
      have Hrs := Lib.hid hrs
      have Hnx := Lib.hid hnx
      have Hln := Lib.hid hln
      have hq0 : ¬ (1 + (m : Int) = 0) := by omega
      clear hso hsk hrs hnx hln hs0' hc cell hv3
      by_cases hk0 : k = 0
      · subst hk0
        clear hstep
        simp only [Nat.add_zero] at hx
        go_wp2_with fail
        refine' wp_region_g (E := Later) (.eq _ :: .eq _ :: .eq _ :: .eq _ :: .eq _ :: .eq _ :: .eq _ :: .eq _ :: .eq _ :: .eq _ :: .eq _ :: .eq _ :: .eq _ :: .eq _ :: .eq _ :: .eq _ :: .eq _ :: .eq _ :: .eq _ :: .eq _ :: .eq _ :: .eq _ :: .eq _ :: .eq _ :: .eq _ :: .eq _ :: .eq _ :: .eq _ :: .eq _ :: .eq _ :: .eq _ :: .eq _ :: .eq _ :: .eq _ :: .eq _ :: .eq _ :: .eq _ :: .eq _ :: .eq _ :: .eq _ :: .eq _ :: .eq _ :: .eq _ :: .eq _ :: .eq _ :: .eq _ :: .eq _ :: .eq _ :: .eq _ :: .eq _ :: .eq _ :: .eq _ :: .eq _ :: .eq _ :: []) (by kernel_rfl) later_trans (later_drew _) rfl (by kernel_rfl) [7, 9, 6, 8, 2] _ ?vals1 (⟨[(0, 7)], [], none⟩ :: ⟨[(1, 9)], [], none⟩ :: ⟨[], [(0, 28), (1, 29)], none⟩ :: ⟨[], [(2, 30)], none⟩ :: ⟨[], [(3, 31)], none⟩ :: ⟨[], [(4, 32)], none⟩ :: ⟨[(0, 7)], [(5, 33)], (some (some 33, false))⟩ :: ⟨[(1, 9)], [(5, 33)], (some (some 33, false))⟩ :: ⟨[], [(6, 34), (7, 35), (5, 33)], (some (some 33, false))⟩ :: ⟨[], [(8, 36), (5, 33)], (some (some 33, false))⟩ :: ⟨[(2, 6)], [(5, 33)], (some (some 33, false))⟩ :: ⟨[], [(9, 37), (10, 38), (5, 33)], (some (some 33, false))⟩ :: ⟨[], [(5, 33), (11, 39)], none⟩ :: ⟨[], [(12, 40)], none⟩ :: ⟨[(3, 8)], [(13, 41)], (some (some 41, false))⟩ :: ⟨[(0, 7)], [(13, 41)], (some (some 41, false))⟩ :: ⟨[(1, 9)], [(13, 41)], (some (some 41, false))⟩ :: ⟨[], [(15, 43), (16, 44), (13, 41)], (some (some 41, false))⟩ :: ⟨[], [(17, 45), (13, 41)], (some (some 41, false))⟩ :: ⟨[], [(14, 42), (18, 46), (13, 41)], (some (some 41, false))⟩ :: ⟨[], [(19, 47), (13, 41)], (some (some 41, false))⟩ :: ⟨[], [(20, 48), (13, 41)], (some (some 41, false))⟩ :: ⟨[], [(13, 41), (21, 49)], none⟩ :: ⟨[], [(22, 50)], none⟩ :: ⟨[(0, 7)], [(23, 51)], (some (some 51, false))⟩ :: ⟨[(1, 9)], [(23, 51)], (some (some 51, false))⟩ :: ⟨[], [(24, 52), (25, 53), (23, 51)], (some (some 51, false))⟩ :: ⟨[], [(26, 54), (23, 51)], (some (some 51, false))⟩ :: ⟨[(4, 2)], [(23, 51)], (some (some 51, false))⟩ :: ⟨[], [(28, 56), (23, 51)], (some (some 51, false))⟩ :: ⟨[(1, 9)], [(23, 51)], (some (some 51, false))⟩ :: ⟨[(2, 6)], [(23, 51)], (some (some 51, false))⟩ :: ⟨[], [(29, 57), (30, 58), (31, 59), (23, 51)], (some (some 51, false))⟩ :: ⟨[], [(27, 55), (32, 60), (23, 51)], (some (some 51, false))⟩ :: ⟨[], [(23, 51), (33, 61)], none⟩ :: ⟨[], [(34, 62)], none⟩ :: ⟨[(1, 9)], [(35, 63)], (some (some 63, false))⟩ :: ⟨[], [(36, 64), (35, 63)], (some (some 63, false))⟩ :: ⟨[], [(37, 65), (35, 63)], (some (some 63, false))⟩ :: ⟨[(0, 7)], [(38, 66)], (some (some 66, true))⟩ :: ⟨[(1, 9)], [(38, 66)], (some (some 66, true))⟩ :: ⟨[], [(39, 67), (40, 68), (38, 66)], (some (some 66, true))⟩ :: ⟨[], [(41, 69), (38, 66)], (some (some 66, true))⟩ :: ⟨[(0, 7)], [(38, 66)], (some (some 66, true))⟩ :: ⟨[(1, 9)], [(38, 66)], (some (some 66, true))⟩ :: ⟨[], [(44, 72), (38, 66)], (some (some 66, true))⟩ :: ⟨[], [(43, 71), (45, 73), (38, 66)], (some (some 66, true))⟩ :: ⟨[], [(46, 74), (38, 66)], (some (some 66, true))⟩ :: ⟨[], [(47, 75), (38, 66)], (some (some 66, true))⟩ :: ⟨[(2, 6)], [(38, 66)], (some (some 66, true))⟩ :: ⟨[], [(48, 76), (49, 77), (38, 66)], (some (some 66, true))⟩ :: ⟨[], [(42, 70), (50, 78), (38, 66)], (some (some 66, true))⟩ :: ⟨[], [(38, 66), (51, 79), (35, 63)], (some (some 63, false))⟩ :: ⟨[], [(35, 63), (52, 80)], none⟩ :: []) (by kernel_rfl) [0, 1, 2, 3, 4, 5, 6, 7, 8, 9, 10, 11, 12, 13, 14, 15, 16, 17, 18, 19, 20, 21, 22, 23, 24, 25, 26, 27, 82, 83, 84, 85, 86, 87, 88, 89, 90, 91, 92, 93, 94, 95, 96, 97, 98, 99, 100, 101] _ ?vlb1 [(53, 81)] (by kernel_rfl) (fun g => g 0 :: g 1 :: g 2 :: g 3 :: g 4 :: g 5 :: g 6 :: g 7 :: g 8 :: g 9 :: g 10 :: g 11 :: g 12 :: g 13 :: g 14 :: g 15 :: g 16 :: g 17 :: g 18 :: g 19 :: g 20 :: g 21 :: g 22 :: g 23 :: g 24 :: g 25 :: g 26 :: g 27 :: g 28 :: g 29 :: g 30 :: g 31 :: g 32 :: g 33 :: g 34 :: g 35 :: g 36 :: g 37 :: g 38 :: g 39 :: g 40 :: g 41 :: g 42 :: g 43 :: g 44 :: g 45 :: g 46 :: g 47 :: g 48 :: g 49 :: g 50 :: g 51 :: g 52 :: g 53 :: g 54 :: g 55 :: g 56 :: g 57 :: g 58 :: g 59 :: g 60 :: g 61 :: g 62 :: g 63 :: g 64 :: g 65 :: g 66 :: g 67 :: g 68 :: g 69 :: g 70 :: g 71 :: g 72 :: g 73 :: g 74 :: g 75 :: g 76 :: g 77 :: g 78 :: g 79 :: g 80 :: g 81 :: g 82 :: g 83 :: g 84 :: g 85 :: g 86 :: g 87 :: g 88 :: g 89 :: g 90 :: g 91 :: g 92 :: g 93 :: g 94 :: g 95 :: g 96 :: g 97 :: g 98 :: g 99 :: g 100 :: g 101 :: []) (fun _ => rfl) ?steps1 ?fin1
        case vlb1 => (simp only [List.map_cons, List.map_nil, Array.getD_eq_getD_getElem?, List.getElem?_toArray, List.getElem?_cons_zero, List.getElem?_cons_succ, Option.getD_some]; rfl)
        case vals1 => (simp only [List.map_cons, List.map_nil, Array.getD_eq_getD_getElem?, List.getElem?_toArray, List.getElem?_cons_zero, List.getElem?_cons_succ, Option.getD_some]; rfl)
        case steps1 =>
          refine stepsR_cons ?_ ?_
          · intro w1 hw1 ρ hcst hfn h7
            refine runs_of ?_
            (go_simp; try go_bits)
            refine ⟨later_refl _, ?_⟩; refine fact_rfl
          refine stepsR_cons ?_ ?_
          · intro w1 hw1 ρ hcst hfn h9
            refine runs_of ?_
            (go_simp; try go_bits)
            refine ⟨later_refl _, ?_⟩; refine fact_rfl
          refine stepsR_cons ?_ ?_
          · intro w1 hw1 ρ hcst hfn h28 h29
            refine runs_of ?_
            (go_simp; try go_bits)
            refine ⟨later_refl _, ?_⟩; refine fact_rfl
          refine stepsR_cons ?_ ?_
          · intro w1 hw1 ρ hcst hfn h30
            obtain ⟨hc, hf⟩ := bcell hw1
            refine runs_of ?_
            (go_simp; try go_bits)
            refine ⟨later_refl _, ?_⟩; refine fact_rfl
          refine stepsR_cons ?_ ?_
          · intro w1 hw1 ρ hcst hfn h31
            refine runs_of ?_
            (go_simp; try go_bits)
            refine ⟨later_refl _, ?_⟩; refine fact_rfl
          refine stepsR_cons ?_ ?_
          · intro w1 hw1 ρ hcst hfn h32
            refine runs_of ?_
            (go_simp; try go_bits)
            refine ⟨later_refl _, ?_⟩; refine fact_rfl
          refine stepsR_cons ?_ ?_
          · intro w1 hw1 ρ hcst hfn h7 h33
            refine runs_of ?_
            (go_simp; try go_bits)
            refine ⟨later_refl _, ?_⟩; refine fact_rfl
          refine stepsR_cons ?_ ?_
          · intro w1 hw1 ρ hcst hfn h9 h33
            refine runs_of ?_
            (go_simp; try go_bits)
            refine ⟨later_refl _, ?_⟩; refine fact_rfl
          refine stepsR_cons ?_ ?_
          · intro w1 hw1 ρ hcst hfn h34 h35 h33
            refine runs_of ?_
            (go_simp; try go_bits)
            refine ⟨later_refl _, ?_⟩; refine fact_rfl
          refine stepsR_cons ?_ ?_
          · intro w1 hw1 ρ hcst hfn h36 h33
            obtain ⟨hc, hf⟩ := bcell hw1
            refine runs_of ?_
            (go_simp; try go_bits)
            refine ⟨later_refl _, ?_⟩; refine fact_rfl
          refine stepsR_cons ?_ ?_
          · intro w1 hw1 ρ hcst hfn h6 h33
            refine runs_of ?_
            (go_simp; try go_bits)
            refine ⟨later_refl _, ?_⟩; refine fact_rfl
          refine stepsR_cons ?_ ?_
          · intro w1 hw1 ρ hcst hfn h37 h38 h33
            refine runs_of ?_
            (go_simp; try go_bits)
            refine ⟨later_refl _, ?_⟩; refine fact_rfl
          refine stepsR_cons ?_ ?_
          · intro w1 hw1 ρ hcst hfn h33 h39
            refine runs_of ?_
            (go_simp; try go_bits)
            refine ⟨later_refl _, ?_⟩; refine fact_rfl
          refine stepsR_cons ?_ ?_
          · intro w1 hw1 ρ hcst hfn h40
            refine runs_of ?_
            (go_simp; try go_bits)
            refine ⟨later_refl _, ?_⟩; refine fact_rfl
          refine stepsR_cons ?_ ?_
          · intro w1 hw1 ρ hcst hfn h8 h41
            refine runs_of ?_
            (go_simp; try go_bits)
            refine ⟨later_refl _, ?_⟩; refine fact_rfl
          refine stepsR_cons ?_ ?_
          · intro w1 hw1 ρ hcst hfn h7 h41
            refine runs_of ?_
            (go_simp; try go_bits)
            refine ⟨later_refl _, ?_⟩; refine fact_rfl
          refine stepsR_cons ?_ ?_
          · intro w1 hw1 ρ hcst hfn h9 h41
            refine runs_of ?_
            (go_simp; try go_bits)
            refine ⟨later_refl _, ?_⟩; refine fact_rfl
          refine stepsR_cons ?_ ?_
          · intro w1 hw1 ρ hcst hfn h43 h44 h41
            refine runs_of ?_
            (go_simp; try go_bits)
            refine ⟨later_refl _, ?_⟩; refine fact_rfl
          refine stepsR_cons ?_ ?_
          · intro w1 hw1 ρ hcst hfn h45 h41
            obtain ⟨hc, hf⟩ := bcell hw1
            refine runs_of ?_
            (go_simp; try go_bits)
            refine ⟨later_refl _, ?_⟩; refine fact_rfl
          refine stepsR_cons ?_ ?_
          · intro w1 hw1 ρ hcst hfn h42 h46 h41
            refine runs_of ?_
            (go_simp; try go_bits)
            refine ⟨later_refl _, ?_⟩; refine fact_rfl
          refine stepsR_cons ?_ ?_
          · intro w1 hw1 ρ hcst hfn h47 h41
            obtain ⟨hc, hf⟩ := bcell hw1
            refine runs_of ?_
            (go_simp; try go_bits)
            refine ⟨later_refl _, ?_⟩; refine fact_rfl
          refine stepsR_cons ?_ ?_
          · intro w1 hw1 ρ hcst hfn h48 h41
            refine runs_of ?_
            (go_simp; try go_bits)
            refine ⟨later_refl _, ?_⟩; refine fact_rfl
          refine stepsR_cons ?_ ?_
          · intro w1 hw1 ρ hcst hfn h41 h49
            refine runs_of ?_
            (go_simp; try go_bits)
            refine ⟨later_refl _, ?_⟩; refine fact_rfl
          refine stepsR_cons ?_ ?_
          · intro w1 hw1 ρ hcst hfn h50
            refine runs_of ?_
            (go_simp; try go_bits)
            refine ⟨later_refl _, ?_⟩; refine fact_rfl
          refine stepsR_cons ?_ ?_
          · intro w1 hw1 ρ hcst hfn h7 h51
            refine runs_of ?_
            (go_simp; try go_bits)
            refine ⟨later_refl _, ?_⟩; refine fact_rfl
          refine stepsR_cons ?_ ?_
          · intro w1 hw1 ρ hcst hfn h9 h51
            refine runs_of ?_
            (go_simp; try go_bits)
            refine ⟨later_refl _, ?_⟩; refine fact_rfl
          refine stepsR_cons ?_ ?_
          · intro w1 hw1 ρ hcst hfn h52 h53 h51
            refine runs_of ?_
            (go_simp; try go_bits)
            refine ⟨later_refl _, ?_⟩; refine fact_rfl
          refine stepsR_cons ?_ ?_
          · intro w1 hw1 ρ hcst hfn h54 h51
            obtain ⟨hc, hf⟩ := bcell hw1
            refine runs_of ?_
            (go_simp; try go_bits)
            refine ⟨later_refl _, ?_⟩; refine fact_rfl
          refine stepsR_cons ?_ ?_
          · intro w1 hw1 ρ hcst hfn h2 h51
            obtain ⟨hc, hf⟩ := bcell hw1
            refine runs_of ?_
            (go_simp; try go_bits)
            refine ⟨later_refl _, ?_⟩; refine fact_rfl
          refine stepsR_cons ?_ ?_
          · intro w1 hw1 ρ hcst hfn h56 h51
            obtain ⟨hc, hf⟩ := bcell hw1
            refine runs_of ?_
            (go_simp; try go_bits)
            refine (Ho.out _).mono ?_; rintro e w3 ⟨rfl, hl⟩; refine ⟨_, rfl, hl, ?_⟩; refine fact_rfl
          refine stepsR_cons ?_ ?_
          · intro w1 hw1 ρ hcst hfn h9 h51
            refine runs_of ?_
            (go_simp; try go_bits)
            refine ⟨later_refl _, ?_⟩; refine fact_rfl
          refine stepsR_cons ?_ ?_
          · intro w1 hw1 ρ hcst hfn h6 h51
            refine runs_of ?_
            (go_simp; try go_bits)
            refine ⟨later_refl _, ?_⟩; refine fact_rfl
          refine stepsR_cons ?_ ?_
          · intro w1 hw1 ρ hcst hfn h57 h58 h59 h51
            obtain ⟨hc, hf⟩ := bcell hw1
            refine runs_of ?_
            (go_simp; try go_bits)
            refine (Hso.out _ _ (by omega)).mono ?_; rintro e w3 ⟨rfl, rfl⟩; refine ⟨_, rfl, later_refl _, ?_⟩; refine fact_rfl
          refine stepsR_cons ?_ ?_
          · intro w1 hw1 ρ hcst hfn h55 h60 h51
            refine runs_of ?_
            (go_simp; try go_bits)
            refine ⟨later_refl _, ?_⟩; refine fact_rfl
          refine stepsR_cons ?_ ?_
          · intro w1 hw1 ρ hcst hfn h51 h61
            refine runs_of ?_
            (go_simp; try go_bits)
            refine ⟨later_refl _, ?_⟩; refine fact_rfl
          refine stepsR_cons ?_ ?_
          · intro w1 hw1 ρ hcst hfn h62
            refine runs_of ?_
            (go_simp; try go_bits)
            refine ⟨later_refl _, ?_⟩; refine fact_rfl
          refine stepsR_cons ?_ ?_
          · intro w1 hw1 ρ hcst hfn h9 h63
            refine runs_of ?_
            (go_simp; try go_bits)
            refine ⟨later_refl _, ?_⟩; refine fact_rfl
          refine stepsR_cons ?_ ?_
          · intro w1 hw1 ρ hcst hfn h64 h63
            refine runs_of ?_
            (go_simp; try go_bits)
            refine ⟨later_refl _, ?_⟩; refine fact_rfl
          refine stepsR_cons ?_ ?_
          · intro w1 hw1 ρ hcst hfn h65 h63
            refine runs_of ?_
            (go_simp; try go_bits)
            refine ⟨later_refl _, ?_⟩; refine fact_rfl
          refine stepsR_cons ?_ ?_
          · intro w1 hw1 ρ hcst hfn h7 h66
            refine runs_of ?_
            (go_simp; try go_bits)
            refine ⟨later_refl _, ?_⟩; refine fact_rfl
          refine stepsR_cons ?_ ?_
          · intro w1 hw1 ρ hcst hfn h9 h66
            refine runs_of ?_
            (go_simp; try go_bits)
            refine ⟨later_refl _, ?_⟩; refine fact_rfl
          refine stepsR_cons ?_ ?_
          · intro w1 hw1 ρ hcst hfn h67 h68 h66
            refine runs_of ?_
            (go_simp; try go_bits)
            refine ⟨later_refl _, ?_⟩; refine fact_rfl
          refine stepsR_cons ?_ ?_
          · intro w1 hw1 ρ hcst hfn h69 h66
            obtain ⟨hc, hf⟩ := bcell hw1
            refine runs_of ?_
            (go_simp; try go_bits)
            refine ⟨later_refl _, ?_⟩; refine fact_rfl
          refine stepsR_cons ?_ ?_
          · intro w1 hw1 ρ hcst hfn h7 h66
            refine runs_of ?_
            (go_simp; try go_bits)
            refine ⟨later_refl _, ?_⟩; refine fact_rfl
          refine stepsR_cons ?_ ?_
          · intro w1 hw1 ρ hcst hfn h9 h66
            refine runs_of ?_
            (go_simp; try go_bits)
            refine ⟨later_refl _, ?_⟩; refine fact_rfl
          refine stepsR_cons ?_ ?_
          · intro w1 hw1 ρ hcst hfn h72 h66
            refine runs_of ?_
            (go_simp; try go_bits)
            refine ⟨later_refl _, ?_⟩; refine fact_rfl
          refine stepsR_cons ?_ ?_
          · intro w1 hw1 ρ hcst hfn h71 h73 h66
            refine runs_of ?_
            (go_simp; try go_bits)
            refine ⟨later_refl _, ?_⟩; refine fact_rfl
          refine stepsR_cons ?_ ?_
          · intro w1 hw1 ρ hcst hfn h74 h66
            obtain ⟨hc, hf⟩ := bcell hw1
            refine runs_of ?_
            (go_simp; try go_bits)
            refine ⟨later_refl _, ?_⟩; refine fact_rfl
          refine stepsR_cons ?_ ?_
          · intro w1 hw1 ρ hcst hfn h75 h66
            refine runs_of ?_
            (go_simp; try go_bits)
            refine ⟨later_refl _, ?_⟩; refine fact_rfl
          refine stepsR_cons ?_ ?_
          · intro w1 hw1 ρ hcst hfn h6 h66
            refine runs_of ?_
            (go_simp; try go_bits)
            refine ⟨later_refl _, ?_⟩; refine fact_rfl
          refine stepsR_cons ?_ ?_
          · intro w1 hw1 ρ hcst hfn h76 h77 h66
            refine runs_of ?_
            (go_simp; try go_bits)
            refine ⟨later_refl _, ?_⟩; refine fact_rfl
          refine stepsR_cons ?_ ?_
          · intro w1 hw1 ρ hcst hfn h70 h78 h66
            refine runs_of ?_
            (go_simp; try go_bits)
            refine ⟨later_refl _, ?_⟩; refine fact_rfl
          refine stepsR_cons ?_ ?_
          · intro w1 hw1 ρ hcst hfn h66 h79 h63
            refine runs_of ?_
            (go_simp; try go_bits)
            refine ⟨later_refl _, ?_⟩; refine fact_rfl
          refine stepsR_cons ?_ ?_
          · intro w1 hw1 ρ hcst hfn h63 h80
            refine runs_of ?_
            (go_simp; try go_bits)
            refine ⟨later_refl _, ?_⟩; refine fact_rfl
          exact stepsR_nil
        intro w2 hw2 g g0 g1 g2 g3 g4 g5 g6 g7 g8 g9 g10 g11 g12 g13 g14 g15 g16 g17 g18 g19 g20 g21 g22 g23 g24 g25 g26 g27 g82 g83 g84 g85 g86 g87 g88 g89 g90 g91 g92 g93 g94 g95 g96 g97 g98 g99 g100 g101 g81
        simp only [withSrcG, g0, g1, g2, g3, g4, g5, g6, g7, g8, g9, g10, g11, g12, g13, g14, g15, g16, g17, g18, g19, g20, g21, g22, g23, g24, g25, g26, g27, g82, g83, g84, g85, g86, g87, g88, g89, g90, g91, g92, g93, g94, g95, g96, g97, g98, g99, g100, g101, g81]
        clear g0 g1 g2 g3 g4 g5 g6 g7 g8 g9 g10 g11 g12 g13 g14 g15 g16 g17 g18 g19 g20 g21 g22 g23 g24 g25 g26 g27 g82 g83 g84 g85 g86 g87 g88 g89 g90 g91 g92 g93 g94 g95 g96 g97 g98 g99 g100 g101 g81
        have hcj2 : w2.cell? ⟨B, j, none⟩ = some (.int .i64 0) := by rw [hw2.cell (p := ⟨B, j, none⟩) lB]; exact hcj
        have hf2 : w2.frozen? ⟨B, j, none⟩ = false := by rw [hw2.frozen (p := ⟨B, j, none⟩) lB]; exact hf
        have hR2 := row1_up hRr.out hw2
        have hx2 : w2.cell? ⟨b, off, none⟩ = some (.int .i64 j) := by rw [hw2.cell (p := ⟨b, off, none⟩) lb]; exact hx
        have HR2 := Lib.hid hR2
        clear hR2
        go_wp2
        go_roundw
        case rel =>
          refine ⟨1, sn.set j 1, by go_num, by omega, ?_, ?_, ?_, ?_⟩
          · exact (hw.trans (hw2.mono (by omega))).setCell (Nat.le_refl B) _
          · have := hw2.size; simp; omega
          · have := row1_set HR2.out j (.int .i64 1)
            rw [← List.map_set] at this
            exact this
          · exact Hnx.out
        case measure => simp [intOf]
      · obtain ⟨y, hy, y0, y1, hyx⟩ := hstep (by omega)
        clear hstep
        have hkp : 0 < k := by omega
        have hki : 1 ≤ (k : Int) := by omega
        have hkj : (k : Int) - 1 < 1 + (m : Int) := by omega
        go_wp2_with fail
        refine' wp_region_g (E := Later) (.eq _ :: .eq _ :: .eq _ :: .eq _ :: .eq _ :: .eq _ :: .eq _ :: .eq _ :: .eq _ :: .eq _ :: .eq _ :: .eq _ :: .eq _ :: .eq _ :: .eq _ :: .eq _ :: .eq _ :: .eq _ :: .eq _ :: .eq _ :: .eq _ :: .eq _ :: .eq _ :: .eq _ :: .eq _ :: .eq _ :: .eq _ :: .eq _ :: .eq _ :: .eq _ :: .eq _ :: .eq _ :: .eq _ :: .eq _ :: .eq _ :: .eq _ :: .eq _ :: .eq _ :: .eq _ :: .eq _ :: .eq _ :: .eq _ :: .eq _ :: .eq _ :: .eq _ :: .eq _ :: .eq _ :: .eq _ :: .eq _ :: .eq _ :: .eq _ :: .eq _ :: .eq _ :: .eq _ :: []) (by kernel_rfl) later_trans (later_drew _) rfl (by kernel_rfl) [7, 9, 6, 8, 2] _ ?vals2 (⟨[(0, 7)], [], none⟩ :: ⟨[(1, 9)], [], none⟩ :: ⟨[], [(0, 28), (1, 29)], none⟩ :: ⟨[], [(2, 30)], none⟩ :: ⟨[], [(3, 31)], none⟩ :: ⟨[], [(4, 32)], none⟩ :: ⟨[(0, 7)], [(5, 33)], (some (some 33, false))⟩ :: ⟨[(1, 9)], [(5, 33)], (some (some 33, false))⟩ :: ⟨[], [(6, 34), (7, 35), (5, 33)], (some (some 33, false))⟩ :: ⟨[], [(8, 36), (5, 33)], (some (some 33, false))⟩ :: ⟨[(2, 6)], [(5, 33)], (some (some 33, false))⟩ :: ⟨[], [(9, 37), (10, 38), (5, 33)], (some (some 33, false))⟩ :: ⟨[], [(5, 33), (11, 39)], none⟩ :: ⟨[], [(12, 40)], none⟩ :: ⟨[(3, 8)], [(13, 41)], (some (some 41, false))⟩ :: ⟨[(0, 7)], [(13, 41)], (some (some 41, false))⟩ :: ⟨[(1, 9)], [(13, 41)], (some (some 41, false))⟩ :: ⟨[], [(15, 43), (16, 44), (13, 41)], (some (some 41, false))⟩ :: ⟨[], [(17, 45), (13, 41)], (some (some 41, false))⟩ :: ⟨[], [(14, 42), (18, 46), (13, 41)], (some (some 41, false))⟩ :: ⟨[], [(19, 47), (13, 41)], (some (some 41, false))⟩ :: ⟨[], [(20, 48), (13, 41)], (some (some 41, false))⟩ :: ⟨[], [(13, 41), (21, 49)], none⟩ :: ⟨[], [(22, 50)], none⟩ :: ⟨[(0, 7)], [(23, 51)], (some (some 51, false))⟩ :: ⟨[(1, 9)], [(23, 51)], (some (some 51, false))⟩ :: ⟨[], [(24, 52), (25, 53), (23, 51)], (some (some 51, false))⟩ :: ⟨[], [(26, 54), (23, 51)], (some (some 51, false))⟩ :: ⟨[(4, 2)], [(23, 51)], (some (some 51, false))⟩ :: ⟨[], [(28, 56), (23, 51)], (some (some 51, false))⟩ :: ⟨[(1, 9)], [(23, 51)], (some (some 51, false))⟩ :: ⟨[(2, 6)], [(23, 51)], (some (some 51, false))⟩ :: ⟨[], [(29, 57), (30, 58), (31, 59), (23, 51)], (some (some 51, false))⟩ :: ⟨[], [(27, 55), (32, 60), (23, 51)], (some (some 51, false))⟩ :: ⟨[], [(23, 51), (33, 61)], none⟩ :: ⟨[], [(34, 62)], none⟩ :: ⟨[(1, 9)], [(35, 63)], (some (some 63, false))⟩ :: ⟨[], [(36, 64), (35, 63)], (some (some 63, false))⟩ :: ⟨[], [(37, 65), (35, 63)], (some (some 63, false))⟩ :: ⟨[(0, 7)], [(38, 66)], (some (some 66, true))⟩ :: ⟨[(1, 9)], [(38, 66)], (some (some 66, true))⟩ :: ⟨[], [(39, 67), (40, 68), (38, 66)], (some (some 66, true))⟩ :: ⟨[], [(41, 69), (38, 66)], (some (some 66, true))⟩ :: ⟨[(0, 7)], [(38, 66)], (some (some 66, true))⟩ :: ⟨[(1, 9)], [(38, 66)], (some (some 66, true))⟩ :: ⟨[], [(44, 72), (38, 66)], (some (some 66, true))⟩ :: ⟨[], [(43, 71), (45, 73), (38, 66)], (some (some 66, true))⟩ :: ⟨[], [(46, 74), (38, 66)], (some (some 66, true))⟩ :: ⟨[], [(47, 75), (38, 66)], (some (some 66, true))⟩ :: ⟨[(2, 6)], [(38, 66)], (some (some 66, true))⟩ :: ⟨[], [(48, 76), (49, 77), (38, 66)], (some (some 66, true))⟩ :: ⟨[], [(42, 70), (50, 78), (38, 66)], (some (some 66, true))⟩ :: ⟨[], [(38, 66), (51, 79), (35, 63)], (some (some 63, false))⟩ :: ⟨[], [(35, 63), (52, 80)], none⟩ :: []) (by kernel_rfl) [0, 1, 2, 3, 4, 5, 6, 7, 8, 9, 10, 11, 12, 13, 14, 15, 16, 17, 18, 19, 20, 21, 22, 23, 24, 25, 26, 27, 82, 83, 84, 85, 86, 87, 88, 89, 90, 91, 92, 93, 94, 95, 96, 97, 98, 99, 100, 101] _ ?vlb2 [(53, 81)] (by kernel_rfl) (fun g => g 0 :: g 1 :: g 2 :: g 3 :: g 4 :: g 5 :: g 6 :: g 7 :: g 8 :: g 9 :: g 10 :: g 11 :: g 12 :: g 13 :: g 14 :: g 15 :: g 16 :: g 17 :: g 18 :: g 19 :: g 20 :: g 21 :: g 22 :: g 23 :: g 24 :: g 25 :: g 26 :: g 27 :: g 28 :: g 29 :: g 30 :: g 31 :: g 32 :: g 33 :: g 34 :: g 35 :: g 36 :: g 37 :: g 38 :: g 39 :: g 40 :: g 41 :: g 42 :: g 43 :: g 44 :: g 45 :: g 46 :: g 47 :: g 48 :: g 49 :: g 50 :: g 51 :: g 52 :: g 53 :: g 54 :: g 55 :: g 56 :: g 57 :: g 58 :: g 59 :: g 60 :: g 61 :: g 62 :: g 63 :: g 64 :: g 65 :: g 66 :: g 67 :: g 68 :: g 69 :: g 70 :: g 71 :: g 72 :: g 73 :: g 74 :: g 75 :: g 76 :: g 77 :: g 78 :: g 79 :: g 80 :: g 81 :: g 82 :: g 83 :: g 84 :: g 85 :: g 86 :: g 87 :: g 88 :: g 89 :: g 90 :: g 91 :: g 92 :: g 93 :: g 94 :: g 95 :: g 96 :: g 97 :: g 98 :: g 99 :: g 100 :: g 101 :: []) (fun _ => rfl) ?steps2 ?fin2
        case vlb2 => (simp only [List.map_cons, List.map_nil, Array.getD_eq_getD_getElem?, List.getElem?_toArray, List.getElem?_cons_zero, List.getElem?_cons_succ, Option.getD_some]; rfl)
        case vals2 => (simp only [List.map_cons, List.map_nil, Array.getD_eq_getD_getElem?, List.getElem?_toArray, List.getElem?_cons_zero, List.getElem?_cons_succ, Option.getD_some]; rfl)
        case steps2 =>
          refine stepsR_cons ?_ ?_
          · intro w1 hw1 ρ hcst hfn h7
            refine runs_of ?_
            (go_simp; try go_bits)
            refine ⟨later_refl _, ?_⟩; refine fact_rfl
          refine stepsR_cons ?_ ?_
          · intro w1 hw1 ρ hcst hfn h9
            refine runs_of ?_
            (go_simp; try go_bits)
            refine ⟨later_refl _, ?_⟩; refine fact_rfl
          refine stepsR_cons ?_ ?_
          · intro w1 hw1 ρ hcst hfn h28 h29
            refine runs_of ?_
            (go_simp; try go_bits)
            refine ⟨later_refl _, ?_⟩; refine fact_rfl
          refine stepsR_cons ?_ ?_
          · intro w1 hw1 ρ hcst hfn h30
            obtain ⟨hc, hf⟩ := bcell hw1
            refine runs_of ?_
            (go_simp; try go_bits)
            refine ⟨later_refl _, ?_⟩; refine fact_rfl
          refine stepsR_cons ?_ ?_
          · intro w1 hw1 ρ hcst hfn h31
            refine runs_of ?_
            (go_simp; try go_bits)
            refine ⟨later_refl _, ?_⟩; refine fact_rfl
          refine stepsR_cons ?_ ?_
          · intro w1 hw1 ρ hcst hfn h32
            refine runs_of ?_
            (go_simp; try go_bits)
            refine ⟨later_refl _, ?_⟩; refine fact_rfl
          refine stepsR_cons ?_ ?_
          · intro w1 hw1 ρ hcst hfn h7 h33
            refine runs_of ?_
            (go_simp; try go_bits)
            refine ⟨later_refl _, ?_⟩; refine fact_rfl
          refine stepsR_cons ?_ ?_
          · intro w1 hw1 ρ hcst hfn h9 h33
            refine runs_of ?_
            (go_simp; try go_bits)
            refine ⟨later_refl _, ?_⟩; refine fact_rfl
          refine stepsR_cons ?_ ?_
          · intro w1 hw1 ρ hcst hfn h34 h35 h33
            refine runs_of ?_
            (go_simp; try go_bits)
            refine ⟨later_refl _, ?_⟩; refine fact_rfl
          refine stepsR_cons ?_ ?_
          · intro w1 hw1 ρ hcst hfn h36 h33
            obtain ⟨hc, hf⟩ := bcell hw1
            refine runs_of ?_
            (go_simp; try go_bits)
            refine ⟨later_refl _, ?_⟩; refine fact_rfl
          refine stepsR_cons ?_ ?_
          · intro w1 hw1 ρ hcst hfn h6 h33
            refine runs_of ?_
            (go_simp; try go_bits)
            refine ⟨later_refl _, ?_⟩; refine fact_rfl
          refine stepsR_cons ?_ ?_
          · intro w1 hw1 ρ hcst hfn h37 h38 h33
            refine runs_of ?_
            (go_simp; try go_bits)
            refine ⟨later_refl _, ?_⟩; refine fact_rfl
          refine stepsR_cons ?_ ?_
          · intro w1 hw1 ρ hcst hfn h33 h39
            refine runs_of ?_
            (go_simp; try go_bits)
            refine ⟨later_refl _, ?_⟩; refine fact_rfl
          refine stepsR_cons ?_ ?_
          · intro w1 hw1 ρ hcst hfn h40
            refine runs_of ?_
            (go_simp; try go_bits)
            refine ⟨later_refl _, ?_⟩; refine fact_rfl
          refine stepsR_cons ?_ ?_
          · intro w1 hw1 ρ hcst hfn h8 h41
            refine runs_of ?_
            (go_simp; try go_bits)
            refine ⟨later_refl _, ?_⟩; refine fact_rfl
          refine stepsR_cons ?_ ?_
          · intro w1 hw1 ρ hcst hfn h7 h41
            refine runs_of ?_
            (go_simp; try go_bits)
            refine ⟨later_refl _, ?_⟩; refine fact_rfl
          refine stepsR_cons ?_ ?_
          · intro w1 hw1 ρ hcst hfn h9 h41
            refine runs_of ?_
            (go_simp; try go_bits)
            refine ⟨later_refl _, ?_⟩; refine fact_rfl
          refine stepsR_cons ?_ ?_
          · intro w1 hw1 ρ hcst hfn h43 h44 h41
            refine runs_of ?_
            (go_simp; try go_bits)
            refine ⟨later_refl _, ?_⟩; refine fact_rfl
          refine stepsR_cons ?_ ?_
          · intro w1 hw1 ρ hcst hfn h45 h41
            obtain ⟨hc, hf⟩ := bcell hw1
            refine runs_of ?_
            (go_simp; try go_bits)
            refine ⟨later_refl _, ?_⟩; refine fact_rfl
          refine stepsR_cons ?_ ?_
          · intro w1 hw1 ρ hcst hfn h42 h46 h41
            refine runs_of ?_
            (go_simp; try go_bits)
            refine ⟨later_refl _, ?_⟩; refine fact_rfl
          refine stepsR_cons ?_ ?_
          · intro w1 hw1 ρ hcst hfn h47 h41
            obtain ⟨hc, hf⟩ := bcell hw1
            refine runs_of ?_
            (go_simp; try go_bits)
            refine ⟨later_refl _, ?_⟩; refine fact_rfl
          refine stepsR_cons ?_ ?_
          · intro w1 hw1 ρ hcst hfn h48 h41
            refine runs_of ?_
            (go_simp; try go_bits)
            refine ⟨later_refl _, ?_⟩; refine fact_rfl
          refine stepsR_cons ?_ ?_
          · intro w1 hw1 ρ hcst hfn h41 h49
            refine runs_of ?_
            (go_simp; try go_bits)
            refine ⟨later_refl _, ?_⟩; refine fact_rfl
          refine stepsR_cons ?_ ?_
          · intro w1 hw1 ρ hcst hfn h50
            refine runs_of ?_
            (go_simp; try go_bits)
            refine ⟨later_refl _, ?_⟩; refine fact_rfl
          refine stepsR_cons ?_ ?_
          · intro w1 hw1 ρ hcst hfn h7 h51
            refine runs_of ?_
            (go_simp; try go_bits)
            refine ⟨later_refl _, ?_⟩; refine fact_rfl
          refine stepsR_cons ?_ ?_
          · intro w1 hw1 ρ hcst hfn h9 h51
            refine runs_of ?_
            (go_simp; try go_bits)
            refine ⟨later_refl _, ?_⟩; refine fact_rfl
          refine stepsR_cons ?_ ?_
          · intro w1 hw1 ρ hcst hfn h52 h53 h51
            refine runs_of ?_
            (go_simp; try go_bits)
            refine ⟨later_refl _, ?_⟩; refine fact_rfl
          refine stepsR_cons ?_ ?_
          · intro w1 hw1 ρ hcst hfn h54 h51
            obtain ⟨hc, hf⟩ := bcell hw1
            refine runs_of ?_
            (go_simp; try go_bits)
            refine ⟨later_refl _, ?_⟩; refine fact_rfl
          refine stepsR_cons ?_ ?_
          · intro w1 hw1 ρ hcst hfn h2 h51
            obtain ⟨hc, hf⟩ := bcell hw1
            refine runs_of ?_
            (go_simp; try go_bits)
            refine ⟨later_refl _, ?_⟩; refine fact_rfl
          refine stepsR_cons ?_ ?_
          · intro w1 hw1 ρ hcst hfn h56 h51
            obtain ⟨hc, hf⟩ := bcell hw1
            refine runs_of ?_
            (go_simp; try go_bits)
            refine (Ho.out _).mono ?_; rintro e w3 ⟨rfl, hl⟩; refine ⟨_, rfl, hl, ?_⟩; refine fact_rfl
          refine stepsR_cons ?_ ?_
          · intro w1 hw1 ρ hcst hfn h9 h51
            refine runs_of ?_
            (go_simp; try go_bits)
            refine ⟨later_refl _, ?_⟩; refine fact_rfl
          refine stepsR_cons ?_ ?_
          · intro w1 hw1 ρ hcst hfn h6 h51
            refine runs_of ?_
            (go_simp; try go_bits)
            refine ⟨later_refl _, ?_⟩; refine fact_rfl
          refine stepsR_cons ?_ ?_
          · intro w1 hw1 ρ hcst hfn h57 h58 h59 h51
            obtain ⟨hc, hf⟩ := bcell hw1
            refine runs_of ?_
            (go_simp; try go_bits)
            refine (Hso.out _ _ (by omega)).mono ?_; rintro e w3 ⟨rfl, rfl⟩; refine ⟨_, rfl, later_refl _, ?_⟩; refine fact_rfl
          refine stepsR_cons ?_ ?_
          · intro w1 hw1 ρ hcst hfn h55 h60 h51
            refine runs_of ?_
            (go_simp; try go_bits)
            refine ⟨later_refl _, ?_⟩; refine fact_rfl
          refine stepsR_cons ?_ ?_
          · intro w1 hw1 ρ hcst hfn h51 h61
            refine runs_of ?_
            (go_simp; try go_bits)
            refine ⟨later_refl _, ?_⟩; refine fact_rfl
          refine stepsR_cons ?_ ?_
          · intro w1 hw1 ρ hcst hfn h62
            refine runs_of ?_
            (go_simp; try go_bits)
            refine ⟨later_refl _, ?_⟩; refine fact_rfl
          refine stepsR_cons ?_ ?_
          · intro w1 hw1 ρ hcst hfn h9 h63
            refine runs_of ?_
            (go_simp; try go_bits)
            refine ⟨later_refl _, ?_⟩; refine fact_rfl
          refine stepsR_cons ?_ ?_
          · intro w1 hw1 ρ hcst hfn h64 h63
            refine runs_of ?_
            (go_simp; try go_bits)
            refine ⟨later_refl _, ?_⟩; refine fact_rfl
          refine stepsR_cons ?_ ?_
          · intro w1 hw1 ρ hcst hfn h65 h63
            refine runs_of ?_
            (go_simp; try go_bits)
            refine ⟨later_refl _, ?_⟩; refine fact_rfl
          refine stepsR_cons ?_ ?_
          · intro w1 hw1 ρ hcst hfn h7 h66
            refine runs_of ?_
            (go_simp; try go_bits)
            refine ⟨later_refl _, ?_⟩; refine fact_rfl
          refine stepsR_cons ?_ ?_
          · intro w1 hw1 ρ hcst hfn h9 h66
            refine runs_of ?_
            (go_simp; try go_bits)
            refine ⟨later_refl _, ?_⟩; refine fact_rfl
          refine stepsR_cons ?_ ?_
          · intro w1 hw1 ρ hcst hfn h67 h68 h66
            refine runs_of ?_
            (go_simp; try go_bits)
            refine ⟨later_refl _, ?_⟩; refine fact_rfl
          refine stepsR_cons ?_ ?_
          · intro w1 hw1 ρ hcst hfn h69 h66
            obtain ⟨hc, hf⟩ := bcell hw1
            refine runs_of ?_
            (go_simp; try go_bits)
            refine ⟨later_refl _, ?_⟩; refine fact_rfl
          refine stepsR_cons ?_ ?_
          · intro w1 hw1 ρ hcst hfn h7 h66
            refine runs_of ?_
            (go_simp; try go_bits)
            refine ⟨later_refl _, ?_⟩; refine fact_rfl
          refine stepsR_cons ?_ ?_
          · intro w1 hw1 ρ hcst hfn h9 h66
            refine runs_of ?_
            (go_simp; try go_bits)
            refine ⟨later_refl _, ?_⟩; refine fact_rfl
          refine stepsR_cons ?_ ?_
          · intro w1 hw1 ρ hcst hfn h72 h66
            refine runs_of ?_
            (go_simp; try go_bits)
            refine ⟨later_refl _, ?_⟩; refine fact_rfl
          refine stepsR_cons ?_ ?_
          · intro w1 hw1 ρ hcst hfn h71 h73 h66
            refine runs_of ?_
            (go_simp; try go_bits)
            refine ⟨later_refl _, ?_⟩; refine fact_rfl
          refine stepsR_cons ?_ ?_
          · intro w1 hw1 ρ hcst hfn h74 h66
            obtain ⟨hc, hf⟩ := bcell hw1
            refine runs_of ?_
            (go_simp; try go_bits)
            refine ⟨later_refl _, ?_⟩; refine fact_rfl
          refine stepsR_cons ?_ ?_
          · intro w1 hw1 ρ hcst hfn h75 h66
            refine runs_of ?_
            (go_simp; try go_bits)
            refine ⟨later_refl _, ?_⟩; refine fact_rfl
          refine stepsR_cons ?_ ?_
          · intro w1 hw1 ρ hcst hfn h6 h66
            refine runs_of ?_
            (go_simp; try go_bits)
            refine ⟨later_refl _, ?_⟩; refine fact_rfl
          refine stepsR_cons ?_ ?_
          · intro w1 hw1 ρ hcst hfn h76 h77 h66
            refine runs_of ?_
            (go_simp; try go_bits)
            refine ⟨later_refl _, ?_⟩; refine fact_rfl
          refine stepsR_cons ?_ ?_
          · intro w1 hw1 ρ hcst hfn h70 h78 h66
            refine runs_of ?_
            (go_simp; try go_bits)
            refine ⟨later_refl _, ?_⟩; refine fact_rfl
          refine stepsR_cons ?_ ?_
          · intro w1 hw1 ρ hcst hfn h66 h79 h63
            refine runs_of ?_
            (go_simp; try go_bits)
            refine ⟨later_refl _, ?_⟩; refine fact_rfl
          refine stepsR_cons ?_ ?_
          · intro w1 hw1 ρ hcst hfn h63 h80
            refine runs_of ?_
            (go_simp; try go_bits)
            refine ⟨later_refl _, ?_⟩; refine fact_rfl
          exact stepsR_nil
        intro w2 hw2 g g0 g1 g2 g3 g4 g5 g6 g7 g8 g9 g10 g11 g12 g13 g14 g15 g16 g17 g18 g19 g20 g21 g22 g23 g24 g25 g26 g27 g82 g83 g84 g85 g86 g87 g88 g89 g90 g91 g92 g93 g94 g95 g96 g97 g98 g99 g100 g101 g81
        simp only [withSrcG, g0, g1, g2, g3, g4, g5, g6, g7, g8, g9, g10, g11, g12, g13, g14, g15, g16, g17, g18, g19, g20, g21, g22, g23, g24, g25, g26, g27, g82, g83, g84, g85, g86, g87, g88, g89, g90, g91, g92, g93, g94, g95, g96, g97, g98, g99, g100, g101, g81]
        clear g0 g1 g2 g3 g4 g5 g6 g7 g8 g9 g10 g11 g12 g13 g14 g15 g16 g17 g18 g19 g20 g21 g22 g23 g24 g25 g26 g27 g82 g83 g84 g85 g86 g87 g88 g89 g90 g91 g92 g93 g94 g95 g96 g97 g98 g99 g100 g101 g81
        have hcj2 : w2.cell? ⟨B, j, none⟩ = some (.int .i64 0) := by rw [hw2.cell (p := ⟨B, j, none⟩) lB]; exact hcj
        have hf2 : w2.frozen? ⟨B, j, none⟩ = false := by rw [hw2.frozen (p := ⟨B, j, none⟩) lB]; exact hf
        have hR2 := row1_up hRr.out hw2
        have hx2 : w2.cell? ⟨b, off + k, none⟩ = some (.int .i64 j) := by rw [hw2.cell (p := ⟨b, off + k, none⟩) lb]; exact hx
        have HR2 := Lib.hid hR2
        clear hR2
        go_wp2
        go_roundw
        case rel =>
          refine ⟨k + 1, sn.set j 1, by go_num, by omega, ?_, ?_, ?_, ?_⟩
          · exact (hw.trans (hw2.mono (by omega))).setCell (Nat.le_refl B) _
          · have := hw2.size; simp; omega
          · have := row1_set HR2.out j (.int .i64 1)
            rw [← List.map_set] at this
            exact this
          · exact Hnx.out
        case measure => simp [intOf]; omega
    · obtain rfl : k = m + 1 := by omega
      have hx0 := cell hbB (hv3 0 (by omega))
      have ll : b < wr.heap.size := World.block_lt_of_cell? wr _ hx0
      have hq0 : ¬ (1 + (m : Int) = 0) := by omega
      have hm0 : (0 : Int) < 1 + (m : Int) := by omega
      simp only [Nat.add_zero, Int.natCast_zero, Int.add_zero] at hx0
      clear cell hv3
      go_wp2
      refine' wp_region_g (E := Later) (.eq _ :: .eq _ :: .eq _ :: .eq _ :: .eq _ :: .eq _ :: .eq _ :: .eq _ :: .eq _ :: .eq _ :: .eq _ :: .eq _ :: []) (by kernel_rfl) later_trans (later_drew _) rfl (by kernel_rfl) [5, 7, 2, 6] _ ?vals3 (⟨[(0, 5)], [], none⟩ :: ⟨[], [(0, 91)], none⟩ :: ⟨[(1, 7)], [(1, 92)], (some (some 92, true))⟩ :: ⟨[], [(2, 93), (1, 92)], (some (some 92, true))⟩ :: ⟨[], [(3, 94), (1, 92)], (some (some 92, true))⟩ :: ⟨[(2, 2)], [(1, 92)], (some (some 92, true))⟩ :: ⟨[], [(5, 96), (1, 92)], (some (some 92, true))⟩ :: ⟨[(3, 6)], [(1, 92)], (some (some 92, true))⟩ :: ⟨[], [(6, 97), (7, 98), (1, 92)], (some (some 92, true))⟩ :: ⟨[], [(4, 95), (8, 99), (1, 92)], (some (some 92, true))⟩ :: ⟨[], [(1, 92), (9, 100)], none⟩ :: ⟨[], [(10, 101)], none⟩ :: []) (by kernel_rfl) [0, 1, 2, 6, 7, 8, 9, 10, 11, 12, 13, 14, 15, 16, 17, 18, 19, 20, 21, 22, 23, 24, 25, 26, 27, 28, 29, 30, 31, 32, 33, 34, 35, 36, 37, 38, 39, 40, 41, 42, 43, 44, 45, 46, 47, 48, 49, 50, 51, 52, 53, 54, 55, 56, 57, 58, 59, 60, 61, 62, 63, 64, 65, 66, 67, 68, 69, 70, 71, 72, 73, 74, 75, 76, 77, 78, 79, 80, 81, 82, 83, 84, 85, 86, 87, 88, 89, 90] _ ?vlb3 [(11, 4)] (by kernel_rfl) (fun g => g 0 :: g 1 :: g 2 :: g 3 :: g 4 :: g 5 :: g 6 :: g 7 :: g 8 :: g 9 :: g 10 :: g 11 :: g 12 :: g 13 :: g 14 :: g 15 :: g 16 :: g 17 :: g 18 :: g 19 :: g 20 :: g 21 :: g 22 :: g 23 :: g 24 :: g 25 :: g 26 :: g 27 :: g 28 :: g 29 :: g 30 :: g 31 :: g 32 :: g 33 :: g 34 :: g 35 :: g 36 :: g 37 :: g 38 :: g 39 :: g 40 :: g 41 :: g 42 :: g 43 :: g 44 :: g 45 :: g 46 :: g 47 :: g 48 :: g 49 :: g 50 :: g 51 :: g 52 :: g 53 :: g 54 :: g 55 :: g 56 :: g 57 :: g 58 :: g 59 :: g 60 :: g 61 :: g 62 :: g 63 :: g 64 :: g 65 :: g 66 :: g 67 :: g 68 :: g 69 :: g 70 :: g 71 :: g 72 :: g 73 :: g 74 :: g 75 :: g 76 :: g 77 :: g 78 :: g 79 :: g 80 :: g 81 :: g 82 :: g 83 :: g 84 :: g 85 :: g 86 :: g 87 :: g 88 :: g 89 :: g 90 :: g 91 :: g 92 :: g 93 :: g 94 :: g 95 :: g 96 :: g 97 :: g 98 :: g 99 :: g 100 :: g 101 :: []) (fun _ => rfl) ?steps3 ?fin3
      case vlb3 => (simp only [List.map_cons, List.map_nil, Array.getD_eq_getD_getElem?, List.getElem?_toArray, List.getElem?_cons_zero, List.getElem?_cons_succ, Option.getD_some]; rfl)
      case vals3 => (simp only [List.map_cons, List.map_nil, Array.getD_eq_getD_getElem?, List.getElem?_toArray, List.getElem?_cons_zero, List.getElem?_cons_succ, Option.getD_some]; rfl)
      case steps3 =>
        refine stepsR_cons ?_ ?_
        · intro w1 hw1 ρ hcst hfn h5
          refine runs_of ?_
          (go_simp; try go_bits)
          refine ⟨later_refl _, ?_⟩; refine fact_rfl
        refine stepsR_cons ?_ ?_
        · intro w1 hw1 ρ hcst hfn h91
          refine runs_of ?_
          (go_simp; try go_bits)
          refine ⟨later_refl _, ?_⟩; refine fact_rfl
        refine stepsR_cons ?_ ?_
        · intro w1 hw1 ρ hcst hfn h7 h92
          refine runs_of ?_
          (go_simp; try go_bits)
          refine ⟨later_refl _, ?_⟩; refine fact_rfl
        refine stepsR_cons ?_ ?_
        · intro w1 hw1 ρ hcst hfn h93 h92
          refine runs_of ?_
          (go_simp; try go_bits)
          refine ⟨later_refl _, ?_⟩; refine fact_rfl
        refine stepsR_cons ?_ ?_
        · intro w1 hw1 ρ hcst hfn h94 h92
          obtain ⟨hc, hf⟩ := bcell hw1
          refine runs_of ?_
          (go_simp; try go_bits)
          refine ⟨later_refl _, ?_⟩; refine fact_rfl
        refine stepsR_cons ?_ ?_
        · intro w1 hw1 ρ hcst hfn h2 h92
          obtain ⟨hc, hf⟩ := bcell hw1
          refine runs_of ?_
          (go_simp; try go_bits)
          refine ⟨later_refl _, ?_⟩; refine fact_rfl
        refine stepsR_cons ?_ ?_
        · intro w1 hw1 ρ hcst hfn h96 h92
          obtain ⟨hc, hf⟩ := bcell hw1
          refine runs_of ?_
          (go_simp; try go_bits)
          refine (Ho.out _).mono ?_; rintro e w3 ⟨rfl, hl⟩; refine ⟨_, rfl, hl, ?_⟩; refine fact_rfl
        refine stepsR_cons ?_ ?_
        · intro w1 hw1 ρ hcst hfn h6 h92
          refine runs_of ?_
          (go_simp; try go_bits)
          refine ⟨later_refl _, ?_⟩; refine fact_rfl
        refine stepsR_cons ?_ ?_
        · intro w1 hw1 ρ hcst hfn h97 h98 h92
          refine runs_of ?_
          (go_simp; try go_bits)
          refine ⟨later_refl _, ?_⟩; refine fact_rfl
        refine stepsR_cons ?_ ?_
        · intro w1 hw1 ρ hcst hfn h95 h99 h92
          refine runs_of ?_
          (go_simp; try go_bits)
          refine ⟨later_refl _, ?_⟩; refine fact_rfl
        refine stepsR_cons ?_ ?_
        · intro w1 hw1 ρ hcst hfn h92 h100
          refine runs_of ?_
          (go_simp; try go_bits)
          refine ⟨later_refl _, ?_⟩; refine fact_rfl
        refine stepsR_cons ?_ ?_
        · intro w1 hw1 ρ hcst hfn h101
          refine runs_of ?_
          (go_simp; try go_bits)
          refine ⟨later_refl _, ?_⟩; refine fact_rfl
        exact stepsR_nil
      intro w2 hw2 g g0 g1 g2 g6 g7 g8 g9 g10 g11 g12 g13 g14 g15 g16 g17 g18 g19 g20 g21 g22 g23 g24 g25 g26 g27 g28 g29 g30 g31 g32 g33 g34 g35 g36 g37 g38 g39 g40 g41 g42 g43 g44 g45 g46 g47 g48 g49 g50 g51 g52 g53 g54 g55 g56 g57 g58 g59 g60 g61 g62 g63 g64 g65 g66 g67 g68 g69 g70 g71 g72 g73 g74 g75 g76 g77 g78 g79 g80 g81 g82 g83 g84 g85 g86 g87 g88 g89 g90 g4
      simp only [withSrcG, g0, g1, g2, g6, g7, g8, g9, g10, g11, g12, g13, g14, g15, g16, g17, g18, g19, g20, g21, g22, g23, g24, g25, g26, g27, g28, g29, g30, g31, g32, g33, g34, g35, g36, g37, g38, g39, g40, g41, g42, g43, g44, g45, g46, g47, g48, g49, g50, g51, g52, g53, g54, g55, g56, g57, g58, g59, g60, g61, g62, g63, g64, g65, g66, g67, g68, g69, g70, g71, g72, g73, g74, g75, g76, g77, g78, g79, g80, g81, g82, g83, g84, g85, g86, g87, g88, g89, g90, g4]
      clear g0 g1 g2 g6 g7 g8 g9 g10 g11 g12 g13 g14 g15 g16 g17 g18 g19 g20 g21 g22 g23 g24 g25 g26 g27 g28 g29 g30 g31 g32 g33 g34 g35 g36 g37 g38 g39 g40 g41 g42 g43 g44 g45 g46 g47 g48 g49 g50 g51 g52 g53 g54 g55 g56 g57 g58 g59 g60 g61 g62 g63 g64 g65 g66 g67 g68 g69 g70 g71 g72 g73 g74 g75 g76 g77 g78 g79 g80 g81 g82 g83 g84 g85 g86 g87 g88 g89 g90 g4
      go_wp2
      go_ret
      exact ⟨rfl, hl3.trans ((hw.mono (by omega)).trans (hw2.mono (by omega)))⟩

end Go.Proofs.Ytkflllendbgdaaa
