/- The laws' walks. -/
import Derived.Test.YtkflllendbgdaaaK
namespace Go.Proofs.Ytkflllendbgdaaa
open Go.RowKit

def I64 (x : Int) : Prop := -9223372036854775808 ≤ x ∧ x ≤ 9223372036854775807

set_option maxRecDepth 100000 in
set_option maxHeartbeats 4000000 in
theorem tells_any (k0 k1 k2 k3 h i s : Int) (w : World) (hs : I64 s) :
    Calls Try.prog 3 #[four k0 k1 k2 k3, .int .i64 h, .int .i64 i, .int .i64 s] w fun e w' => e = .returned (.bool true) ∧ Later w w' := by
  have hp := hpath_all k0 k1 k2 k3
  have hr := rpath_all k0 k1 k2 k3
  have ho := of_any k0 k1 k2 k3
  have hro := rof_any k0 k1 k2 k3
  have hb := pick_bd s 50 (by omega)
  have hpk := fun w => pick_any s 50 w hs.1 hs.2 (by omega) (by omega)
  obtain ⟨hs0, hs1⟩ := hs
  generalize pick s 50 = q at *
  generalize hashOf [k0, k1, k2, k3] = H at *
  have Hp := Lib.hid hp
  have Hr := Lib.hid hr
  have Ho := Lib.hid ho
  have Hro := Lib.hid hro
  have Hpk := Lib.hid hpk
  clear hp hr ho hro hpk
  go_enter Try.func3, Try.ntmps3
  go_wp2_with (first
    | (go_at_call 8; refine (awake_any _).mono ?_; rintro e w1 ⟨rfl, hw1⟩)
    | (go_at_call 9; refine (Hpk.out _).mono ?_; rintro e w2 ⟨rfl, rfl⟩))
  have hsz := hw1.size
  simp only [World.size_alloc] at hsz
  have c0 : w1.cell? ⟨w.heap.size, 0, none⟩ = some (.int .i64 k0) := by rw [hw1.cell (by simp)]; simp
  have c1 : w1.cell? ⟨w.heap.size, 1, none⟩ = some (.int .i64 k1) := by rw [hw1.cell (by simp)]; simp
  have c2 : w1.cell? ⟨w.heap.size, 2, none⟩ = some (.int .i64 k2) := by rw [hw1.cell (by simp)]; simp
  have c3 : w1.cell? ⟨w.heap.size, 3, none⟩ = some (.int .i64 k3) := by rw [hw1.cell (by simp)]; simp
  have d0 : ∃ f : Nat → Int, ∀ k, k < 2 → (w1.alloc (Obj.cells #[Value.int IntKind.i64 s, Value.int IntKind.i64 q] 3)).cell? ⟨w1.heap.size, k, none⟩ = some (.int .i64 (f k)) := by
    refine ⟨fun k => if k = 0 then s else q, fun k hk => ?_⟩
    obtain rfl | rfl : k = 0 ∨ k = 1 := by omega
    · simp
    · simp
  rw [← World.cell?_alloc_past (w := w1) (Obj.cells #[Value.int IntKind.i64 s, Value.int IntKind.i64 q] 3) _ _ (by omega)] at c0 c1 c2 c3
  have hW : Later w (w1.alloc (Obj.cells #[Value.int IntKind.i64 s, Value.int IntKind.i64 q] 3)) := ((later_alloc _ _).trans (hw1.mono (by simp))).alloc (by omega) _
  have hBl : w1.heap.size < (w1.alloc (Obj.cells #[Value.int IntKind.i64 s, Value.int IntKind.i64 q] 3)).heap.size := by simp
  generalize w1.alloc (Obj.cells #[Value.int IntKind.i64 s, Value.int IntKind.i64 q] 3) = W at *
  generalize w1.heap.size = B at *
  obtain ⟨f, d0⟩ := d0
  clear hw1
  go_loopw [18] (fun i wr => ∃ k : Nat, i = .int .i64 k ∧ k ≤ 2 ∧ Later W wr) (fun i _ => 2 - (intOf i).toNat)
  case atStart => exact ⟨0, rfl, by omega, later_refl _⟩
  case round =>
    obtain ⟨k, rfl, hk, hw⟩ := hrel
    have cell : ∀ {b o v}, W.cell? ⟨b, o, none⟩ = some v → wr.cell? ⟨b, o, none⟩ = some v := fun {b o v} h => by rw [hw.cell (p := ⟨b, o, none⟩) (World.block_lt_of_cell? W _ h)]; exact h
    by_cases hlt : k < 2
    · have hx := cell (d0 k hlt)
      generalize f k = x at *
      replace c0 := cell c0
      replace c1 := cell c1
      replace c2 := cell c2
      replace c3 := cell c3
      have l0 := World.block_lt_of_cell? wr _ c0
      clear cell d0
      go_wp2_with fail
      refine' wp_region_g (E := Later) (.eq _ :: .eq _ :: .eq _ :: .eq _ :: .eq _ :: .eq _ :: .eq _ :: .eq _ :: .eq _ :: .eq _ :: .eq _ :: .eq _ :: .is (fun v w => Ints w v (pathOf [k0, k1, k2, k3] x)) (ints_up _) :: .eq _ :: .eq _ :: .is (fun v w => Ints w v (pathOf [k0, k1, k2, k3] x)) (ints_up _) :: .eq _ :: .eq _ :: .eq _ :: []) (by kernel_rfl) later_trans (later_drew _) rfl (by kernel_rfl) [1, 2, 11, 4] _ ?vals (⟨[(0, 1)], [], none⟩ :: ⟨[(1, 2)], [], none⟩ :: ⟨[(2, 11)], [], none⟩ :: ⟨[], [(0, 22), (1, 23), (2, 24)], none⟩ :: ⟨[(0, 1)], [], none⟩ :: ⟨[(1, 2)], [], none⟩ :: ⟨[(2, 11)], [], none⟩ :: ⟨[], [(4, 26), (5, 27), (6, 28)], none⟩ :: ⟨[], [(3, 25), (7, 29)], none⟩ :: ⟨[], [(8, 30)], none⟩ :: ⟨[(3, 4)], [(9, 31)], (some (some 31, false))⟩ :: ⟨[(2, 11)], [(9, 31)], (some (some 31, false))⟩ :: ⟨[], [(10, 32), (11, 33), (9, 31)], (some (some 31, false))⟩ :: ⟨[(3, 4)], [(9, 31)], (some (some 31, false))⟩ :: ⟨[(2, 11)], [(9, 31)], (some (some 31, false))⟩ :: ⟨[], [(13, 35), (14, 36), (9, 31)], (some (some 31, false))⟩ :: ⟨[], [(12, 34), (15, 37), (9, 31)], (some (some 31, false))⟩ :: ⟨[], [(16, 38), (9, 31)], (some (some 31, false))⟩ :: ⟨[], [(9, 31), (17, 39)], none⟩ :: []) (by kernel_rfl) [0, 1, 2, 3, 4, 5, 6, 7, 8, 9, 10, 11, 12, 13, 14, 15, 16, 17, 18, 19, 20, 21, 41, 42, 43, 44, 45, 46, 47, 48, 49] _ ?vlb [(18, 40)] (by kernel_rfl) (fun g => g 0 :: g 1 :: g 2 :: g 3 :: g 4 :: g 5 :: g 6 :: g 7 :: g 8 :: g 9 :: g 10 :: g 11 :: g 12 :: g 13 :: g 14 :: g 15 :: g 16 :: g 17 :: g 18 :: g 19 :: g 20 :: g 21 :: g 22 :: g 23 :: g 24 :: g 25 :: g 26 :: g 27 :: g 28 :: g 29 :: g 30 :: g 31 :: g 32 :: g 33 :: g 34 :: g 35 :: g 36 :: g 37 :: g 38 :: g 39 :: g 40 :: g 41 :: g 42 :: g 43 :: g 44 :: g 45 :: g 46 :: g 47 :: g 48 :: g 49 :: []) (fun _ => rfl) ?steps ?fin
      case vlb => (simp only [List.map_cons, List.map_nil, Array.getD_eq_getD_getElem?, List.getElem?_toArray, List.getElem?_cons_zero, List.getElem?_cons_succ, Option.getD_some]; rfl)
      case vals => (simp only [List.map_cons, List.map_nil, Array.getD_eq_getD_getElem?, List.getElem?_toArray, List.getElem?_cons_zero, List.getElem?_cons_succ, Option.getD_some]; rfl)
      case steps =>
        refine stepsR_cons ?_ ?_
        · intro w1 hw1 ρ hcst hfn h1
          refine runs_of ?_
          (go_simp; try go_bits)
          refine ⟨later_refl _, ?_⟩; refine fact_rfl
        refine stepsR_cons ?_ ?_
        · intro w1 hw1 ρ hcst hfn h2
          refine runs_of ?_
          (go_simp; try go_bits)
          refine ⟨later_refl _, ?_⟩; refine fact_rfl
        refine stepsR_cons ?_ ?_
        · intro w1 hw1 ρ hcst hfn h11
          refine runs_of ?_
          (go_simp; try go_bits)
          refine ⟨later_refl _, ?_⟩; refine fact_rfl
        refine stepsR_cons ?_ ?_
        · intro w1 hw1 ρ hcst hfn h22 h23 h24
          obtain ⟨hc, hf⟩ := bcell hw1
          refine runs_of ?_
          (go_simp; try go_bits)
          refine (slot_any _ _ _ _).mono ?_; rintro e w3 ⟨rfl, rfl⟩; refine ⟨_, rfl, later_refl _, ?_⟩; refine fact_rfl
        refine stepsR_cons ?_ ?_
        · intro w1 hw1 ρ hcst hfn h1
          refine runs_of ?_
          (go_simp; try go_bits)
          refine ⟨later_refl _, ?_⟩; refine fact_rfl
        refine stepsR_cons ?_ ?_
        · intro w1 hw1 ρ hcst hfn h2
          refine runs_of ?_
          (go_simp; try go_bits)
          refine ⟨later_refl _, ?_⟩; refine fact_rfl
        refine stepsR_cons ?_ ?_
        · intro w1 hw1 ρ hcst hfn h11
          refine runs_of ?_
          (go_simp; try go_bits)
          refine ⟨later_refl _, ?_⟩; refine fact_rfl
        refine stepsR_cons ?_ ?_
        · intro w1 hw1 ρ hcst hfn h26 h27 h28
          obtain ⟨hc, hf⟩ := bcell hw1
          refine runs_of ?_
          (go_simp; try go_bits)
          refine (rslot_any _ _ _ _).mono ?_; rintro e w3 ⟨rfl, rfl⟩; refine ⟨_, rfl, later_refl _, ?_⟩; refine fact_rfl
        refine stepsR_cons ?_ ?_
        · intro w1 hw1 ρ hcst hfn h25 h29
          refine runs_of ?_
          (go_simp; try go_bits)
          refine ⟨later_refl _, ?_⟩; refine fact_rfl
        refine stepsR_cons ?_ ?_
        · intro w1 hw1 ρ hcst hfn h30
          refine runs_of ?_
          (go_simp; try go_bits)
          refine ⟨later_refl _, ?_⟩; refine fact_rfl
        refine stepsR_cons ?_ ?_
        · intro w1 hw1 ρ hcst hfn h4 h31
          obtain ⟨hc, hf⟩ := bcell hw1
          refine runs_of ?_
          (go_simp; try go_bits)
          refine ⟨later_refl _, ?_⟩; refine fact_rfl
        refine stepsR_cons ?_ ?_
        · intro w1 hw1 ρ hcst hfn h11 h31
          refine runs_of ?_
          (go_simp; try go_bits)
          refine ⟨later_refl _, ?_⟩; refine fact_rfl
        refine stepsR_cons ?_ ?_
        · intro w1 hw1 ρ hcst hfn h32 h33 h31
          obtain ⟨hc, hf⟩ := bcell hw1
          refine runs_of ?_
          (go_simp; try go_bits)
          refine (Hp.out _ _).mono ?_; rintro e w3 ⟨v, rfl, hv, hl⟩; exact ⟨_, rfl, hl, hv⟩
        refine stepsR_cons ?_ ?_
        · intro w1 hw1 ρ hcst hfn h4 h31
          obtain ⟨hc, hf⟩ := bcell hw1
          refine runs_of ?_
          (go_simp; try go_bits)
          refine ⟨later_refl _, ?_⟩; refine fact_rfl
        refine stepsR_cons ?_ ?_
        · intro w1 hw1 ρ hcst hfn h11 h31
          refine runs_of ?_
          (go_simp; try go_bits)
          refine ⟨later_refl _, ?_⟩; refine fact_rfl
        refine stepsR_cons ?_ ?_
        · intro w1 hw1 ρ hcst hfn h35 h36 h31
          obtain ⟨hc, hf⟩ := bcell hw1
          refine runs_of ?_
          (go_simp; try go_bits)
          refine (Hr.out _ _).mono ?_; rintro e w3 ⟨v, rfl, hv, hl⟩; exact ⟨_, rfl, hl, hv⟩
        refine stepsR_cons ?_ ?_
        · intro w1 hw1 ρ hcst hfn v12 hv12 h34 v15 hv15 h37 h31
          obtain ⟨hc, hf⟩ := bcell hw1
          refine runs_of ?_
          (go_simp; try go_bits)
          refine (ints_same _ _ _ _ hv12 hv15).mono ?_; rintro e w3 ⟨rfl, hl⟩; refine ⟨_, rfl, hl, ?_⟩; refine fact_rfl
        refine stepsR_cons ?_ ?_
        · intro w1 hw1 ρ hcst hfn h38 h31
          refine runs_of ?_
          (go_simp; try go_bits)
          refine ⟨later_refl _, ?_⟩; refine fact_rfl
        refine stepsR_cons ?_ ?_
        · intro w1 hw1 ρ hcst hfn h31 h39
          refine runs_of ?_
          (go_simp; try go_bits)
          refine ⟨later_refl _, ?_⟩; refine fact_rfl
        exact stepsR_nil
      case fin =>
        intro w2 hw2 g g0 g1 g2 g3 g4 g5 g6 g7 g8 g9 g10 g11 g12 g13 g14 g15 g16 g17 g18 g19 g20 g21 g41 g42 g43 g44 g45 g46 g47 g48 g49 g40
        simp only [withSrcG, g0, g1, g2, g3, g4, g5, g6, g7, g8, g9, g10, g11, g12, g13, g14, g15, g16, g17, g18, g19, g20, g21, g41, g42, g43, g44, g45, g46, g47, g48, g49, g40]
        clear g0 g1 g2 g3 g4 g5 g6 g7 g8 g9 g10 g11 g12 g13 g14 g15 g16 g17 g18 g19 g20 g21 g41 g42 g43 g44 g45 g46 g47 g48 g49 g40
        go_wp2
        go_roundw
        case rel => exact ⟨k + 1, by go_num, by omega, hw.trans (hw2.mono hw.size)⟩
        case measure => simp [intOf]; omega
    · obtain rfl : k = 2 := by omega
      replace c0 := cell c0
      replace c1 := cell c1
      replace c2 := cell c2
      replace c3 := cell c3
      have l0 := World.block_lt_of_cell? wr _ c0
      clear cell d0
      go_wp2
      refine' wp_region_gt (E := Later) (.eq _ :: .eq _ :: .eq _ :: .eq _ :: .eq _ :: .eq _ :: .eq _ :: .eq _ :: []) 8 _ (by kernel_rfl) later_trans (later_drew _) rfl (by kernel_rfl) (by kernel_rfl) rfl [9, 4] _ ?vals (⟨[(0, 9)], [], none⟩ :: ⟨[], [(0, 42)], none⟩ :: ⟨[(1, 4)], [(1, 43)], (some (some 43, true))⟩ :: ⟨[], [(2, 44), (1, 43)], (some (some 43, true))⟩ :: ⟨[(1, 4)], [(1, 43)], (some (some 43, true))⟩ :: ⟨[], [(4, 46), (1, 43)], (some (some 43, true))⟩ :: ⟨[], [(3, 45), (5, 47), (1, 43)], (some (some 43, true))⟩ :: ⟨[], [(1, 43), (6, 48)], none⟩ :: []) (by kernel_rfl) [0, 1, 2, 3, 4, 11, 12, 13, 14, 15, 16, 17, 18, 19, 20, 21, 22, 23, 24, 25, 26, 27, 28, 29, 30, 31, 32, 33, 34, 35, 36, 37, 38, 39, 40, 41] _ ?vlb [(7, 49)] (by kernel_rfl) (fun g => g 0 :: g 1 :: g 2 :: g 3 :: g 4 :: g 5 :: g 6 :: g 7 :: g 8 :: g 9 :: g 10 :: g 11 :: g 12 :: g 13 :: g 14 :: g 15 :: g 16 :: g 17 :: g 18 :: g 19 :: g 20 :: g 21 :: g 22 :: g 23 :: g 24 :: g 25 :: g 26 :: g 27 :: g 28 :: g 29 :: g 30 :: g 31 :: g 32 :: g 33 :: g 34 :: g 35 :: g 36 :: g 37 :: g 38 :: g 39 :: g 40 :: g 41 :: g 42 :: g 43 :: g 44 :: g 45 :: g 46 :: g 47 :: g 48 :: g 49 :: []) (fun _ => rfl) ?steps ?fin
      case vlb => (simp only [List.map_cons, List.map_nil, Array.getD_eq_getD_getElem?, List.getElem?_toArray, List.getElem?_cons_zero, List.getElem?_cons_succ, Option.getD_some]; rfl)
      case vals => (simp only [List.map_cons, List.map_nil, Array.getD_eq_getD_getElem?, List.getElem?_toArray, List.getElem?_cons_zero, List.getElem?_cons_succ, Option.getD_some]; rfl)
      case steps =>
        refine stepsR_cons ?_ ?_
        · intro w1 hw1 ρ hcst hfn h9
          refine runs_of ?_
          (go_simp; try go_bits)
          refine ⟨later_refl _, ?_⟩; refine fact_rfl
        refine stepsR_cons ?_ ?_
        · intro w1 hw1 ρ hcst hfn h42
          refine runs_of ?_
          (go_simp; try go_bits)
          refine ⟨later_refl _, ?_⟩; refine fact_rfl
        refine stepsR_cons ?_ ?_
        · intro w1 hw1 ρ hcst hfn h4 h43
          obtain ⟨hc, hf⟩ := bcell hw1
          refine runs_of ?_
          (go_simp; try go_bits)
          refine ⟨later_refl _, ?_⟩; refine fact_rfl
        refine stepsR_cons ?_ ?_
        · intro w1 hw1 ρ hcst hfn h44 h43
          obtain ⟨hc, hf⟩ := bcell hw1
          refine runs_of ?_
          (go_simp; try go_bits)
          refine (Ho.out _).mono ?_; rintro e w3 ⟨rfl, hl⟩; refine ⟨_, rfl, hl, ?_⟩; refine fact_rfl
        refine stepsR_cons ?_ ?_
        · intro w1 hw1 ρ hcst hfn h4 h43
          obtain ⟨hc, hf⟩ := bcell hw1
          refine runs_of ?_
          (go_simp; try go_bits)
          refine ⟨later_refl _, ?_⟩; refine fact_rfl
        refine stepsR_cons ?_ ?_
        · intro w1 hw1 ρ hcst hfn h46 h43
          obtain ⟨hc, hf⟩ := bcell hw1
          refine runs_of ?_
          (go_simp; try go_bits)
          refine (Hro.out _).mono ?_; rintro e w3 ⟨rfl, hl⟩; refine ⟨_, rfl, hl, ?_⟩; refine fact_rfl
        refine stepsR_cons ?_ ?_
        · intro w1 hw1 ρ hcst hfn h45 h47 h43
          refine runs_of ?_
          (go_simp; try go_bits)
          refine ⟨later_refl _, ?_⟩; refine fact_rfl
        refine stepsR_cons ?_ ?_
        · intro w1 hw1 ρ hcst hfn h43 h48
          refine runs_of ?_
          (go_simp; try go_bits)
          refine ⟨later_refl _, ?_⟩; refine fact_rfl
        exact stepsR_nil
      case fin =>
        intro w2 hw2 g g0 g1 g2 g3 g4 g11 g12 g13 g14 g15 g16 g17 g18 g19 g20 g21 g22 g23 g24 g25 g26 g27 g28 g29 g30 g31 g32 g33 g34 g35 g36 g37 g38 g39 g40 g41 g49
        simp only [withSrcG, g0, g1, g2, g3, g4, g11, g12, g13, g14, g15, g16, g17, g18, g19, g20, g21, g22, g23, g24, g25, g26, g27, g28, g29, g30, g31, g32, g33, g34, g35, g36, g37, g38, g39, g40, g41, g49]
        clear g0 g1 g2 g3 g4 g11 g12 g13 g14 g15 g16 g17 g18 g19 g20 g21 g22 g23 g24 g25 g26 g27 g28 g29 g30 g31 g32 g33 g34 g35 g36 g37 g38 g39 g40 g41 g49
        go_wp2
        refine NoPanic.normal ?_
        go_wp2
        go_ret
        exact ⟨rfl, hW.trans ((hw.trans (hw2.mono hw.size)).mono hW.size)⟩

theorem tells_row (k0 k1 k2 k3 h i s : Int) (w : World) (_ : I64 k0) (_ : I64 k1) (_ : I64 k2) (_ : I64 k3) (_ : I64 h) (_ : I64 i) (hs : I64 s) :
    Calls Try.prog 3 #[four k0 k1 k2 k3, .int .i64 h, .int .i64 i, .int .i64 s] w fun e w' => e = .returned (.bool true) ∧ Later w w' := tells_any k0 k1 k2 k3 h i s w hs

end Go.Proofs.Ytkflllendbgdaaa
