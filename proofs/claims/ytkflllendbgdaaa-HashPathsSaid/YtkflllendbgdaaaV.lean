/- The laws' walks: bits and paths. -/
import Derived.Test.YtkflllendbgdaaaU
import Derived.Test.YtkflllendbgdaaaD
namespace Go.Proofs.Ytkflllendbgdaaa
open Go.RowKit

theorem hash_mod (a0 a1 a2 a3 b0 b1 b2 b3 : Int) (h0 : a0 % 2147483648 = b0 % 2147483648) (h1 : a1 % 2147483648 = b1 % 2147483648) (h2 : a2 % 2147483648 = b2 % 2147483648) (h3 : a3 % 2147483648 = b3 % 2147483648) :
    hashOf [a0, a1, a2, a3] = hashOf [b0, b1, b2, b3] := by
  unfold hashOf
  simp only [List.foldl_cons, List.foldl_nil]
  rw [hstep_mod 17 _ _ h0, hstep_mod _ _ _ h1, hstep_mod _ _ _ h2, hstep_mod _ _ _ h3]

set_option maxRecDepth 100000 in
set_option maxHeartbeats 8000000 in
theorem bits_row (r0 r1 r2 r3 s0 s1 s2 s3 : Int) (w : World) (h0 : I64 r0) (h1 : I64 r1) (h2 : I64 r2) (h3 : I64 r3) (g0 : I64 s0) (g1 : I64 s1) (g2 : I64 s2) (g3 : I64 s3) :
    Calls Try.prog 7 #[four r0 r1 r2 r3, four s0 s1 s2 s3] w fun e w' => e = .returned (.bool true) ∧ Later w w' := by
  have p0 := fun w => pick_any r0 2147483648 w h0.1 h0.2 (by omega) (by omega)
  have q0 := fun w => pick_any s0 1073741824 w g0.1 g0.2 (by omega) (by omega)
  obtain ⟨a00, a01⟩ := pick_bd r0 2147483648 (by omega)
  obtain ⟨b00, b01⟩ := pick_bd s0 1073741824 (by omega)
  generalize pick r0 2147483648 = a0 at *
  generalize pick s0 1073741824 = b0 at *
  have P0 := Lib.hid p0
  have Q0 := Lib.hid q0
  clear p0 q0 h0 g0
  have p1 := fun w => pick_any r1 2147483648 w h1.1 h1.2 (by omega) (by omega)
  have q1 := fun w => pick_any s1 1073741824 w g1.1 g1.2 (by omega) (by omega)
  obtain ⟨a10, a11⟩ := pick_bd r1 2147483648 (by omega)
  obtain ⟨b10, b11⟩ := pick_bd s1 1073741824 (by omega)
  generalize pick r1 2147483648 = a1 at *
  generalize pick s1 1073741824 = b1 at *
  have P1 := Lib.hid p1
  have Q1 := Lib.hid q1
  clear p1 q1 h1 g1
  have p2 := fun w => pick_any r2 2147483648 w h2.1 h2.2 (by omega) (by omega)
  have q2 := fun w => pick_any s2 1073741824 w g2.1 g2.2 (by omega) (by omega)
  obtain ⟨a20, a21⟩ := pick_bd r2 2147483648 (by omega)
  obtain ⟨b20, b21⟩ := pick_bd s2 1073741824 (by omega)
  generalize pick r2 2147483648 = a2 at *
  generalize pick s2 1073741824 = b2 at *
  have P2 := Lib.hid p2
  have Q2 := Lib.hid q2
  clear p2 q2 h2 g2
  have p3 := fun w => pick_any r3 2147483648 w h3.1 h3.2 (by omega) (by omega)
  have q3 := fun w => pick_any s3 1073741824 w g3.1 g3.2 (by omega) (by omega)
  obtain ⟨a30, a31⟩ := pick_bd r3 2147483648 (by omega)
  obtain ⟨b30, b31⟩ := pick_bd s3 1073741824 (by omega)
  generalize pick r3 2147483648 = a3 at *
  generalize pick s3 1073741824 = b3 at *
  have P3 := Lib.hid p3
  have Q3 := Lib.hid q3
  clear p3 q3 h3 g3
  have e1 : hashOf [a0 + b0 * 2147483648, a1 + b1 * 2147483648, a2 + b2 * 2147483648, a3 + b3 * 2147483648] = hashOf [a0, a1, a2, a3] := hash_mod _ _ _ _ _ _ _ _ (by omega) (by omega) (by omega) (by omega)
  have e2 : hashOf [a0 + b0 * 2147483648 - 4611686018427387904, a1 + b1 * 2147483648 - 4611686018427387904, a2 + b2 * 2147483648 - 4611686018427387904, a3 + b3 * 2147483648 - 4611686018427387904] = hashOf [a0, a1, a2, a3] := hash_mod _ _ _ _ _ _ _ _ (by omega) (by omega) (by omega) (by omega)
  have o1 := of_any a0 a1 a2 a3
  have o2 := of_any (a0 + b0 * 2147483648) (a1 + b1 * 2147483648) (a2 + b2 * 2147483648) (a3 + b3 * 2147483648)
  have o3 := of_any (a0 + b0 * 2147483648 - 4611686018427387904) (a1 + b1 * 2147483648 - 4611686018427387904) (a2 + b2 * 2147483648 - 4611686018427387904) (a3 + b3 * 2147483648 - 4611686018427387904)
  rw [e1] at o2
  rw [e2] at o3
  generalize hashOf [a0, a1, a2, a3] = H at *
  have O1 := Lib.hid o1
  have O2 := Lib.hid o2
  have O3 := Lib.hid o3
  clear o1 o2 o3 e1 e2
  go_enter Try.func7, Try.ntmps7
  go_wp2_with fail
  refine (awake_any _).mono ?_
  rintro e w1 ⟨rfl, hw1⟩
  have k0 : w1.cell? ⟨w.heap.size, 0, none⟩ = some (.int .i64 r0) := by rw [hw1.cell (by simp; omega), World.cell?_alloc_past _ _ _ (by simp)]; simp
  have l0 : w1.cell? ⟨w.heap.size + 1, 0, none⟩ = some (.int .i64 s0) := by rw [hw1.cell (by simp), World.cell?_alloc_at _ _ _ _ (by simp)]; rfl
  have k1 : w1.cell? ⟨w.heap.size, 1, none⟩ = some (.int .i64 r1) := by rw [hw1.cell (by simp; omega), World.cell?_alloc_past _ _ _ (by simp)]; simp
  have l1 : w1.cell? ⟨w.heap.size + 1, 1, none⟩ = some (.int .i64 s1) := by rw [hw1.cell (by simp), World.cell?_alloc_at _ _ _ _ (by simp)]; rfl
  have k2 : w1.cell? ⟨w.heap.size, 2, none⟩ = some (.int .i64 r2) := by rw [hw1.cell (by simp; omega), World.cell?_alloc_past _ _ _ (by simp)]; simp
  have l2 : w1.cell? ⟨w.heap.size + 1, 2, none⟩ = some (.int .i64 s2) := by rw [hw1.cell (by simp), World.cell?_alloc_at _ _ _ _ (by simp)]; rfl
  have k3 : w1.cell? ⟨w.heap.size, 3, none⟩ = some (.int .i64 r3) := by rw [hw1.cell (by simp; omega), World.cell?_alloc_past _ _ _ (by simp)]; simp
  have l3 : w1.cell? ⟨w.heap.size + 1, 3, none⟩ = some (.int .i64 s3) := by rw [hw1.cell (by simp), World.cell?_alloc_at _ _ _ _ (by simp)]; rfl
  have hl : w.heap.size + 1 < w1.heap.size := by have := hw1.size; simp at this; omega
  have hl0 : w.heap.size < w1.heap.size := by omega
  have hl1 : w.heap.size < w1.heap.size + 1 := by omega
  have hl2 : w.heap.size + 1 < w1.heap.size + 1 := by omega
  go_wp2_with fail
  refine wp_loop_rounds 5 ?_
  simp only [rounds_succ]
  go_wp2_with fail
  refine (P0.out _).mono ?_
  rintro e w2 ⟨rfl, rfl⟩
  go_wp2_with fail
  refine' wp_region_gt (E := Drawn) (.eq _ :: .eq _ :: .eq _ :: .eq _ :: .eq _ :: .eq _ :: .eq _ :: .eq _ :: .eq _ :: .eq _ :: .eq _ :: []) 11 _ (by kernel_rfl) drawn_trans (drawn_drew _) rfl (by kernel_rfl) (by kernel_rfl) rfl [8, 6, 3, 7] _ ?vals1 (⟨[(0, 8)], [], none⟩ :: ⟨[(0, 8)], [], none⟩ :: ⟨[(1, 6)], [(1, 23)], none⟩ :: ⟨[], [(2, 24)], none⟩ :: ⟨[(0, 8)], [], none⟩ :: ⟨[(2, 3)], [(4, 26)], none⟩ :: ⟨[], [(5, 27)], none⟩ :: ⟨[], [(6, 28)], none⟩ :: ⟨[], [(7, 29)], none⟩ :: ⟨[], [(3, 25), (8, 30)], none⟩ :: ⟨[(3, 7)], [(0, 22)], none⟩ :: []) (by kernel_rfl) [0, 1, 2, 3, 4, 5, 6, 7, 8, 9, 10, 11, 12, 13, 14, 15, 16, 17, 18, 19, 20, 21, 33, 34, 35, 36, 37, 38, 39, 40, 41, 42, 43, 44, 45, 46, 47, 48, 49, 50, 51, 52, 53, 54, 55, 56, 57, 58] _ ?vlb1 [(9, 31), (10, 32)] (by kernel_rfl) (fun g => g 0 :: g 1 :: g 2 :: g 3 :: g 4 :: g 5 :: g 6 :: g 7 :: g 8 :: g 9 :: g 10 :: g 11 :: g 12 :: g 13 :: g 14 :: g 15 :: g 16 :: g 17 :: g 18 :: g 19 :: g 20 :: g 21 :: g 22 :: g 23 :: g 24 :: g 25 :: g 26 :: g 27 :: g 28 :: g 29 :: g 30 :: g 31 :: g 32 :: g 33 :: g 34 :: g 35 :: g 36 :: g 37 :: g 38 :: g 39 :: g 40 :: g 41 :: g 42 :: g 43 :: g 44 :: g 45 :: g 46 :: g 47 :: g 48 :: g 49 :: g 50 :: g 51 :: g 52 :: g 53 :: g 54 :: g 55 :: g 56 :: g 57 :: g 58 :: []) (fun _ => rfl) ?steps1 ?fin1
  case vlb1 => (simp only [List.map_cons, List.map_nil, Array.getD_eq_getD_getElem?, List.getElem?_toArray, List.getElem?_cons_zero, List.getElem?_cons_succ, Option.getD_some]; rfl)
  case vals1 => (simp only [List.map_cons, List.map_nil, Array.getD_eq_getD_getElem?, List.getElem?_toArray, List.getElem?_cons_zero, List.getElem?_cons_succ, Option.getD_some]; rfl)
  case steps1 =>
    refine stepsR_cons ?_ ?_
    · intro w1 hw1 ρ hcst hfn h8
      refine runs_of ?_
      (go_simp; try go_bits)
      refine ⟨drawn_refl _, ?_⟩; refine fact_rfl
    refine stepsR_cons ?_ ?_
    · intro w1 hw1 ρ hcst hfn h8
      refine runs_of ?_
      (go_simp; try go_bits)
      refine ⟨drawn_refl _, ?_⟩; refine fact_rfl
    refine stepsR_cons ?_ ?_
    · intro w1 hw1 ρ hcst hfn h6 h23
      refine runs_of ?_
      (go_simp; try go_bits)
      refine ⟨drawn_refl _, ?_⟩; refine fact_rfl
    refine stepsR_cons ?_ ?_
    · intro w1 hw1 ρ hcst hfn h24
      obtain ⟨n1, rfl⟩ := hw1
      refine runs_of ?_
      (go_simp; try go_bits)
      refine ⟨drawn_refl _, ?_⟩; refine fact_rfl
    refine stepsR_cons ?_ ?_
    · intro w1 hw1 ρ hcst hfn h8
      refine runs_of ?_
      (go_simp; try go_bits)
      refine ⟨drawn_refl _, ?_⟩; refine fact_rfl
    refine stepsR_cons ?_ ?_
    · intro w1 hw1 ρ hcst hfn h3 h26
      refine runs_of ?_
      (go_simp; try go_bits)
      refine ⟨drawn_refl _, ?_⟩; refine fact_rfl
    refine stepsR_cons ?_ ?_
    · intro w1 hw1 ρ hcst hfn h27
      obtain ⟨n1, rfl⟩ := hw1
      refine runs_of ?_
      (go_simp; try go_bits)
      refine ⟨drawn_refl _, ?_⟩; refine fact_rfl
    refine stepsR_cons ?_ ?_
    · intro w1 hw1 ρ hcst hfn h28
      obtain ⟨n1, rfl⟩ := hw1
      refine runs_of ?_
      (go_simp; try go_bits)
      refine (Q0.out _).mono ?_; rintro e w3 ⟨rfl, rfl⟩; refine ⟨_, rfl, drawn_refl _, ?_⟩; refine fact_rfl
    refine stepsR_cons ?_ ?_
    · intro w1 hw1 ρ hcst hfn h29
      refine runs_of ?_
      (go_simp; try go_bits)
      refine ⟨drawn_refl _, ?_⟩; refine fact_rfl
    refine stepsR_cons ?_ ?_
    · intro w1 hw1 ρ hcst hfn h25 h30
      refine runs_of ?_
      (go_simp; try go_bits)
      refine ⟨drawn_refl _, ?_⟩; refine fact_rfl
    refine stepsR_cons ?_ ?_
    · intro w1 hw1 ρ hcst hfn h7 h22
      refine runs_of ?_
      (go_simp; try go_bits)
      refine ⟨drawn_refl _, ?_⟩; refine fact_rfl
    exact stepsR_nil
  intro w2 hw2 g g0 g1 g2 g3 g4 g5 g6 g7 g8 g9 g10 g11 g12 g13 g14 g15 g16 g17 g18 g19 g20 g21 g33 g34 g35 g36 g37 g38 g39 g40 g41 g42 g43 g44 g45 g46 g47 g48 g49 g50 g51 g52 g53 g54 g55 g56 g57 g58 g31 g32
  simp only [withSrcG, g0, g1, g2, g3, g4, g5, g6, g7, g8, g9, g10, g11, g12, g13, g14, g15, g16, g17, g18, g19, g20, g21, g33, g34, g35, g36, g37, g38, g39, g40, g41, g42, g43, g44, g45, g46, g47, g48, g49, g50, g51, g52, g53, g54, g55, g56, g57, g58, g31, g32]
  clear g0 g1 g2 g3 g4 g5 g6 g7 g8 g9 g10 g11 g12 g13 g14 g15 g16 g17 g18 g19 g20 g21 g33 g34 g35 g36 g37 g38 g39 g40 g41 g42 g43 g44 g45 g46 g47 g48 g49 g50 g51 g52 g53 g54 g55 g56 g57 g58 g31 g32
  obtain ⟨m0, rfl⟩ := hw2
  go_wp2_with fail
  refine NoPanic.normal ?_
  go_wp2_with fail
  simp only [rounds_succ]
  go_wp2_with fail
  refine (P1.out _).mono ?_
  rintro e w2 ⟨rfl, rfl⟩
  go_wp2_with fail
  refine' wp_region_gt (E := Drawn) (.eq _ :: .eq _ :: .eq _ :: .eq _ :: .eq _ :: .eq _ :: .eq _ :: .eq _ :: .eq _ :: .eq _ :: .eq _ :: []) 11 _ (by kernel_rfl) drawn_trans (drawn_drew _) rfl (by kernel_rfl) (by kernel_rfl) rfl [8, 6, 3, 7] _ ?vals2 (⟨[(0, 8)], [], none⟩ :: ⟨[(0, 8)], [], none⟩ :: ⟨[(1, 6)], [(1, 23)], none⟩ :: ⟨[], [(2, 24)], none⟩ :: ⟨[(0, 8)], [], none⟩ :: ⟨[(2, 3)], [(4, 26)], none⟩ :: ⟨[], [(5, 27)], none⟩ :: ⟨[], [(6, 28)], none⟩ :: ⟨[], [(7, 29)], none⟩ :: ⟨[], [(3, 25), (8, 30)], none⟩ :: ⟨[(3, 7)], [(0, 22)], none⟩ :: []) (by kernel_rfl) [0, 1, 2, 3, 4, 5, 6, 7, 8, 9, 10, 11, 12, 13, 14, 15, 16, 17, 18, 19, 20, 21, 33, 34, 35, 36, 37, 38, 39, 40, 41, 42, 43, 44, 45, 46, 47, 48, 49, 50, 51, 52, 53, 54, 55, 56, 57, 58] _ ?vlb2 [(9, 31), (10, 32)] (by kernel_rfl) (fun g => g 0 :: g 1 :: g 2 :: g 3 :: g 4 :: g 5 :: g 6 :: g 7 :: g 8 :: g 9 :: g 10 :: g 11 :: g 12 :: g 13 :: g 14 :: g 15 :: g 16 :: g 17 :: g 18 :: g 19 :: g 20 :: g 21 :: g 22 :: g 23 :: g 24 :: g 25 :: g 26 :: g 27 :: g 28 :: g 29 :: g 30 :: g 31 :: g 32 :: g 33 :: g 34 :: g 35 :: g 36 :: g 37 :: g 38 :: g 39 :: g 40 :: g 41 :: g 42 :: g 43 :: g 44 :: g 45 :: g 46 :: g 47 :: g 48 :: g 49 :: g 50 :: g 51 :: g 52 :: g 53 :: g 54 :: g 55 :: g 56 :: g 57 :: g 58 :: []) (fun _ => rfl) ?steps2 ?fin2
  case vlb2 => (simp only [List.map_cons, List.map_nil, Array.getD_eq_getD_getElem?, List.getElem?_toArray, List.getElem?_cons_zero, List.getElem?_cons_succ, Option.getD_some]; rfl)
  case vals2 => (simp only [List.map_cons, List.map_nil, Array.getD_eq_getD_getElem?, List.getElem?_toArray, List.getElem?_cons_zero, List.getElem?_cons_succ, Option.getD_some]; rfl)
  case steps2 =>
    refine stepsR_cons ?_ ?_
    · intro w1 hw1 ρ hcst hfn h8
      refine runs_of ?_
      (go_simp; try go_bits)
      refine ⟨drawn_refl _, ?_⟩; refine fact_rfl
    refine stepsR_cons ?_ ?_
    · intro w1 hw1 ρ hcst hfn h8
      refine runs_of ?_
      (go_simp; try go_bits)
      refine ⟨drawn_refl _, ?_⟩; refine fact_rfl
    refine stepsR_cons ?_ ?_
    · intro w1 hw1 ρ hcst hfn h6 h23
      refine runs_of ?_
      (go_simp; try go_bits)
      refine ⟨drawn_refl _, ?_⟩; refine fact_rfl
    refine stepsR_cons ?_ ?_
    · intro w1 hw1 ρ hcst hfn h24
      obtain ⟨n1, rfl⟩ := hw1
      refine runs_of ?_
      (go_simp; try go_bits)
      refine ⟨drawn_refl _, ?_⟩; refine fact_rfl
    refine stepsR_cons ?_ ?_
    · intro w1 hw1 ρ hcst hfn h8
      refine runs_of ?_
      (go_simp; try go_bits)
      refine ⟨drawn_refl _, ?_⟩; refine fact_rfl
    refine stepsR_cons ?_ ?_
    · intro w1 hw1 ρ hcst hfn h3 h26
      refine runs_of ?_
      (go_simp; try go_bits)
      refine ⟨drawn_refl _, ?_⟩; refine fact_rfl
    refine stepsR_cons ?_ ?_
    · intro w1 hw1 ρ hcst hfn h27
      obtain ⟨n1, rfl⟩ := hw1
      refine runs_of ?_
      (go_simp; try go_bits)
      refine ⟨drawn_refl _, ?_⟩; refine fact_rfl
    refine stepsR_cons ?_ ?_
    · intro w1 hw1 ρ hcst hfn h28
      obtain ⟨n1, rfl⟩ := hw1
      refine runs_of ?_
      (go_simp; try go_bits)
      refine (Q1.out _).mono ?_; rintro e w3 ⟨rfl, rfl⟩; refine ⟨_, rfl, drawn_refl _, ?_⟩; refine fact_rfl
    refine stepsR_cons ?_ ?_
    · intro w1 hw1 ρ hcst hfn h29
      refine runs_of ?_
      (go_simp; try go_bits)
      refine ⟨drawn_refl _, ?_⟩; refine fact_rfl
    refine stepsR_cons ?_ ?_
    · intro w1 hw1 ρ hcst hfn h25 h30
      refine runs_of ?_
      (go_simp; try go_bits)
      refine ⟨drawn_refl _, ?_⟩; refine fact_rfl
    refine stepsR_cons ?_ ?_
    · intro w1 hw1 ρ hcst hfn h7 h22
      refine runs_of ?_
      (go_simp; try go_bits)
      refine ⟨drawn_refl _, ?_⟩; refine fact_rfl
    exact stepsR_nil
  intro w2 hw2 g g0 g1 g2 g3 g4 g5 g6 g7 g8 g9 g10 g11 g12 g13 g14 g15 g16 g17 g18 g19 g20 g21 g33 g34 g35 g36 g37 g38 g39 g40 g41 g42 g43 g44 g45 g46 g47 g48 g49 g50 g51 g52 g53 g54 g55 g56 g57 g58 g31 g32
  simp only [withSrcG, g0, g1, g2, g3, g4, g5, g6, g7, g8, g9, g10, g11, g12, g13, g14, g15, g16, g17, g18, g19, g20, g21, g33, g34, g35, g36, g37, g38, g39, g40, g41, g42, g43, g44, g45, g46, g47, g48, g49, g50, g51, g52, g53, g54, g55, g56, g57, g58, g31, g32]
  clear g0 g1 g2 g3 g4 g5 g6 g7 g8 g9 g10 g11 g12 g13 g14 g15 g16 g17 g18 g19 g20 g21 g33 g34 g35 g36 g37 g38 g39 g40 g41 g42 g43 g44 g45 g46 g47 g48 g49 g50 g51 g52 g53 g54 g55 g56 g57 g58 g31 g32
  obtain ⟨m1, rfl⟩ := hw2
  go_wp2_with fail
  refine NoPanic.normal ?_
  go_wp2_with fail
  simp only [rounds_succ]
  go_wp2_with fail
  refine (P2.out _).mono ?_
  rintro e w2 ⟨rfl, rfl⟩
  go_wp2_with fail
  refine' wp_region_gt (E := Drawn) (.eq _ :: .eq _ :: .eq _ :: .eq _ :: .eq _ :: .eq _ :: .eq _ :: .eq _ :: .eq _ :: .eq _ :: .eq _ :: []) 11 _ (by kernel_rfl) drawn_trans (drawn_drew _) rfl (by kernel_rfl) (by kernel_rfl) rfl [8, 6, 3, 7] _ ?vals3 (⟨[(0, 8)], [], none⟩ :: ⟨[(0, 8)], [], none⟩ :: ⟨[(1, 6)], [(1, 23)], none⟩ :: ⟨[], [(2, 24)], none⟩ :: ⟨[(0, 8)], [], none⟩ :: ⟨[(2, 3)], [(4, 26)], none⟩ :: ⟨[], [(5, 27)], none⟩ :: ⟨[], [(6, 28)], none⟩ :: ⟨[], [(7, 29)], none⟩ :: ⟨[], [(3, 25), (8, 30)], none⟩ :: ⟨[(3, 7)], [(0, 22)], none⟩ :: []) (by kernel_rfl) [0, 1, 2, 3, 4, 5, 6, 7, 8, 9, 10, 11, 12, 13, 14, 15, 16, 17, 18, 19, 20, 21, 33, 34, 35, 36, 37, 38, 39, 40, 41, 42, 43, 44, 45, 46, 47, 48, 49, 50, 51, 52, 53, 54, 55, 56, 57, 58] _ ?vlb3 [(9, 31), (10, 32)] (by kernel_rfl) (fun g => g 0 :: g 1 :: g 2 :: g 3 :: g 4 :: g 5 :: g 6 :: g 7 :: g 8 :: g 9 :: g 10 :: g 11 :: g 12 :: g 13 :: g 14 :: g 15 :: g 16 :: g 17 :: g 18 :: g 19 :: g 20 :: g 21 :: g 22 :: g 23 :: g 24 :: g 25 :: g 26 :: g 27 :: g 28 :: g 29 :: g 30 :: g 31 :: g 32 :: g 33 :: g 34 :: g 35 :: g 36 :: g 37 :: g 38 :: g 39 :: g 40 :: g 41 :: g 42 :: g 43 :: g 44 :: g 45 :: g 46 :: g 47 :: g 48 :: g 49 :: g 50 :: g 51 :: g 52 :: g 53 :: g 54 :: g 55 :: g 56 :: g 57 :: g 58 :: []) (fun _ => rfl) ?steps3 ?fin3
  case vlb3 => (simp only [List.map_cons, List.map_nil, Array.getD_eq_getD_getElem?, List.getElem?_toArray, List.getElem?_cons_zero, List.getElem?_cons_succ, Option.getD_some]; rfl)
  case vals3 => (simp only [List.map_cons, List.map_nil, Array.getD_eq_getD_getElem?, List.getElem?_toArray, List.getElem?_cons_zero, List.getElem?_cons_succ, Option.getD_some]; rfl)
  case steps3 =>
    refine stepsR_cons ?_ ?_
    · intro w1 hw1 ρ hcst hfn h8
      refine runs_of ?_
      (go_simp; try go_bits)
      refine ⟨drawn_refl _, ?_⟩; refine fact_rfl
    refine stepsR_cons ?_ ?_
    · intro w1 hw1 ρ hcst hfn h8
      refine runs_of ?_
      (go_simp; try go_bits)
      refine ⟨drawn_refl _, ?_⟩; refine fact_rfl
    refine stepsR_cons ?_ ?_
    · intro w1 hw1 ρ hcst hfn h6 h23
      refine runs_of ?_
      (go_simp; try go_bits)
      refine ⟨drawn_refl _, ?_⟩; refine fact_rfl
    refine stepsR_cons ?_ ?_
    · intro w1 hw1 ρ hcst hfn h24
      obtain ⟨n1, rfl⟩ := hw1
      refine runs_of ?_
      (go_simp; try go_bits)
      refine ⟨drawn_refl _, ?_⟩; refine fact_rfl
    refine stepsR_cons ?_ ?_
    · intro w1 hw1 ρ hcst hfn h8
      refine runs_of ?_
      (go_simp; try go_bits)
      refine ⟨drawn_refl _, ?_⟩; refine fact_rfl
    refine stepsR_cons ?_ ?_
    · intro w1 hw1 ρ hcst hfn h3 h26
      refine runs_of ?_
      (go_simp; try go_bits)
      refine ⟨drawn_refl _, ?_⟩; refine fact_rfl
    refine stepsR_cons ?_ ?_
    · intro w1 hw1 ρ hcst hfn h27
      obtain ⟨n1, rfl⟩ := hw1
      refine runs_of ?_
      (go_simp; try go_bits)
      refine ⟨drawn_refl _, ?_⟩; refine fact_rfl
    refine stepsR_cons ?_ ?_
    · intro w1 hw1 ρ hcst hfn h28
      obtain ⟨n1, rfl⟩ := hw1
      refine runs_of ?_
      (go_simp; try go_bits)
      refine (Q2.out _).mono ?_; rintro e w3 ⟨rfl, rfl⟩; refine ⟨_, rfl, drawn_refl _, ?_⟩; refine fact_rfl
    refine stepsR_cons ?_ ?_
    · intro w1 hw1 ρ hcst hfn h29
      refine runs_of ?_
      (go_simp; try go_bits)
      refine ⟨drawn_refl _, ?_⟩; refine fact_rfl
    refine stepsR_cons ?_ ?_
    · intro w1 hw1 ρ hcst hfn h25 h30
      refine runs_of ?_
      (go_simp; try go_bits)
      refine ⟨drawn_refl _, ?_⟩; refine fact_rfl
    refine stepsR_cons ?_ ?_
    · intro w1 hw1 ρ hcst hfn h7 h22
      refine runs_of ?_
      (go_simp; try go_bits)
      refine ⟨drawn_refl _, ?_⟩; refine fact_rfl
    exact stepsR_nil
  intro w2 hw2 g g0 g1 g2 g3 g4 g5 g6 g7 g8 g9 g10 g11 g12 g13 g14 g15 g16 g17 g18 g19 g20 g21 g33 g34 g35 g36 g37 g38 g39 g40 g41 g42 g43 g44 g45 g46 g47 g48 g49 g50 g51 g52 g53 g54 g55 g56 g57 g58 g31 g32
  simp only [withSrcG, g0, g1, g2, g3, g4, g5, g6, g7, g8, g9, g10, g11, g12, g13, g14, g15, g16, g17, g18, g19, g20, g21, g33, g34, g35, g36, g37, g38, g39, g40, g41, g42, g43, g44, g45, g46, g47, g48, g49, g50, g51, g52, g53, g54, g55, g56, g57, g58, g31, g32]
  clear g0 g1 g2 g3 g4 g5 g6 g7 g8 g9 g10 g11 g12 g13 g14 g15 g16 g17 g18 g19 g20 g21 g33 g34 g35 g36 g37 g38 g39 g40 g41 g42 g43 g44 g45 g46 g47 g48 g49 g50 g51 g52 g53 g54 g55 g56 g57 g58 g31 g32
  obtain ⟨m2, rfl⟩ := hw2
  go_wp2_with fail
  refine NoPanic.normal ?_
  go_wp2_with fail
  simp only [rounds_succ]
  go_wp2_with fail
  refine (P3.out _).mono ?_
  rintro e w2 ⟨rfl, rfl⟩
  go_wp2_with fail
  refine' wp_region_gt (E := Drawn) (.eq _ :: .eq _ :: .eq _ :: .eq _ :: .eq _ :: .eq _ :: .eq _ :: .eq _ :: .eq _ :: .eq _ :: .eq _ :: []) 11 _ (by kernel_rfl) drawn_trans (drawn_drew _) rfl (by kernel_rfl) (by kernel_rfl) rfl [8, 6, 3, 7] _ ?vals4 (⟨[(0, 8)], [], none⟩ :: ⟨[(0, 8)], [], none⟩ :: ⟨[(1, 6)], [(1, 23)], none⟩ :: ⟨[], [(2, 24)], none⟩ :: ⟨[(0, 8)], [], none⟩ :: ⟨[(2, 3)], [(4, 26)], none⟩ :: ⟨[], [(5, 27)], none⟩ :: ⟨[], [(6, 28)], none⟩ :: ⟨[], [(7, 29)], none⟩ :: ⟨[], [(3, 25), (8, 30)], none⟩ :: ⟨[(3, 7)], [(0, 22)], none⟩ :: []) (by kernel_rfl) [0, 1, 2, 3, 4, 5, 6, 7, 8, 9, 10, 11, 12, 13, 14, 15, 16, 17, 18, 19, 20, 21, 33, 34, 35, 36, 37, 38, 39, 40, 41, 42, 43, 44, 45, 46, 47, 48, 49, 50, 51, 52, 53, 54, 55, 56, 57, 58] _ ?vlb4 [(9, 31), (10, 32)] (by kernel_rfl) (fun g => g 0 :: g 1 :: g 2 :: g 3 :: g 4 :: g 5 :: g 6 :: g 7 :: g 8 :: g 9 :: g 10 :: g 11 :: g 12 :: g 13 :: g 14 :: g 15 :: g 16 :: g 17 :: g 18 :: g 19 :: g 20 :: g 21 :: g 22 :: g 23 :: g 24 :: g 25 :: g 26 :: g 27 :: g 28 :: g 29 :: g 30 :: g 31 :: g 32 :: g 33 :: g 34 :: g 35 :: g 36 :: g 37 :: g 38 :: g 39 :: g 40 :: g 41 :: g 42 :: g 43 :: g 44 :: g 45 :: g 46 :: g 47 :: g 48 :: g 49 :: g 50 :: g 51 :: g 52 :: g 53 :: g 54 :: g 55 :: g 56 :: g 57 :: g 58 :: []) (fun _ => rfl) ?steps4 ?fin4
  case vlb4 => (simp only [List.map_cons, List.map_nil, Array.getD_eq_getD_getElem?, List.getElem?_toArray, List.getElem?_cons_zero, List.getElem?_cons_succ, Option.getD_some]; rfl)
  case vals4 => (simp only [List.map_cons, List.map_nil, Array.getD_eq_getD_getElem?, List.getElem?_toArray, List.getElem?_cons_zero, List.getElem?_cons_succ, Option.getD_some]; rfl)
  case steps4 =>
    refine stepsR_cons ?_ ?_
    · intro w1 hw1 ρ hcst hfn h8
      refine runs_of ?_
      (go_simp; try go_bits)
      refine ⟨drawn_refl _, ?_⟩; refine fact_rfl
    refine stepsR_cons ?_ ?_
    · intro w1 hw1 ρ hcst hfn h8
      refine runs_of ?_
      (go_simp; try go_bits)
      refine ⟨drawn_refl _, ?_⟩; refine fact_rfl
    refine stepsR_cons ?_ ?_
    · intro w1 hw1 ρ hcst hfn h6 h23
      refine runs_of ?_
      (go_simp; try go_bits)
      refine ⟨drawn_refl _, ?_⟩; refine fact_rfl
    refine stepsR_cons ?_ ?_
    · intro w1 hw1 ρ hcst hfn h24
      obtain ⟨n1, rfl⟩ := hw1
      refine runs_of ?_
      (go_simp; try go_bits)
      refine ⟨drawn_refl _, ?_⟩; refine fact_rfl
    refine stepsR_cons ?_ ?_
    · intro w1 hw1 ρ hcst hfn h8
      refine runs_of ?_
      (go_simp; try go_bits)
      refine ⟨drawn_refl _, ?_⟩; refine fact_rfl
    refine stepsR_cons ?_ ?_
    · intro w1 hw1 ρ hcst hfn h3 h26
      refine runs_of ?_
      (go_simp; try go_bits)
      refine ⟨drawn_refl _, ?_⟩; refine fact_rfl
    refine stepsR_cons ?_ ?_
    · intro w1 hw1 ρ hcst hfn h27
      obtain ⟨n1, rfl⟩ := hw1
      refine runs_of ?_
      (go_simp; try go_bits)
      refine ⟨drawn_refl _, ?_⟩; refine fact_rfl
    refine stepsR_cons ?_ ?_
    · intro w1 hw1 ρ hcst hfn h28
      obtain ⟨n1, rfl⟩ := hw1
      refine runs_of ?_
      (go_simp; try go_bits)
      refine (Q3.out _).mono ?_; rintro e w3 ⟨rfl, rfl⟩; refine ⟨_, rfl, drawn_refl _, ?_⟩; refine fact_rfl
    refine stepsR_cons ?_ ?_
    · intro w1 hw1 ρ hcst hfn h29
      refine runs_of ?_
      (go_simp; try go_bits)
      refine ⟨drawn_refl _, ?_⟩; refine fact_rfl
    refine stepsR_cons ?_ ?_
    · intro w1 hw1 ρ hcst hfn h25 h30
      refine runs_of ?_
      (go_simp; try go_bits)
      refine ⟨drawn_refl _, ?_⟩; refine fact_rfl
    refine stepsR_cons ?_ ?_
    · intro w1 hw1 ρ hcst hfn h7 h22
      refine runs_of ?_
      (go_simp; try go_bits)
      refine ⟨drawn_refl _, ?_⟩; refine fact_rfl
    exact stepsR_nil
  intro w2 hw2 g g0 g1 g2 g3 g4 g5 g6 g7 g8 g9 g10 g11 g12 g13 g14 g15 g16 g17 g18 g19 g20 g21 g33 g34 g35 g36 g37 g38 g39 g40 g41 g42 g43 g44 g45 g46 g47 g48 g49 g50 g51 g52 g53 g54 g55 g56 g57 g58 g31 g32
  simp only [withSrcG, g0, g1, g2, g3, g4, g5, g6, g7, g8, g9, g10, g11, g12, g13, g14, g15, g16, g17, g18, g19, g20, g21, g33, g34, g35, g36, g37, g38, g39, g40, g41, g42, g43, g44, g45, g46, g47, g48, g49, g50, g51, g52, g53, g54, g55, g56, g57, g58, g31, g32]
  clear g0 g1 g2 g3 g4 g5 g6 g7 g8 g9 g10 g11 g12 g13 g14 g15 g16 g17 g18 g19 g20 g21 g33 g34 g35 g36 g37 g38 g39 g40 g41 g42 g43 g44 g45 g46 g47 g48 g49 g50 g51 g52 g53 g54 g55 g56 g57 g58 g31 g32
  obtain ⟨m3, rfl⟩ := hw2
  go_wp2_with fail
  refine NoPanic.normal ?_
  go_wp2_with fail
  simp only [rounds_succ]
  go_wp2
  refine wp_loop_rounds 5 ?_
  simp only [rounds_succ]
  go_wp2_with fail
  simp only [rounds_succ]
  go_wp2_with fail
  simp only [rounds_succ]
  go_wp2_with fail
  simp only [rounds_succ]
  go_wp2_with fail
  simp only [rounds_succ]
  go_wp2_with fail
  refine' wp_region_g (E := Later) (.eq _ :: .eq _ :: .eq _ :: .eq _ :: .eq _ :: .eq _ :: .eq _ :: .eq _ :: .eq _ :: .eq _ :: .eq _ :: .eq _ :: .eq _ :: .eq _ :: .eq _ :: .eq _ :: []) (by kernel_rfl) later_trans (later_drew _) rfl (by kernel_rfl) [5, 6, 7, 9] _ ?vals5 (⟨[(0, 5)], [], none⟩ :: ⟨[], [(0, 44)], none⟩ :: ⟨[(1, 6)], [(1, 45)], (some (some 45, true))⟩ :: ⟨[], [(2, 46), (1, 45)], (some (some 45, true))⟩ :: ⟨[(2, 7)], [(1, 45)], (some (some 45, true))⟩ :: ⟨[], [(4, 48), (1, 45)], (some (some 45, true))⟩ :: ⟨[], [(3, 47), (5, 49), (1, 45)], (some (some 45, true))⟩ :: ⟨[], [(1, 45), (6, 50)], none⟩ :: ⟨[], [(7, 51)], none⟩ :: ⟨[(1, 6)], [(8, 52)], (some (some 52, true))⟩ :: ⟨[], [(9, 53), (8, 52)], (some (some 52, true))⟩ :: ⟨[(3, 9)], [(8, 52)], (some (some 52, true))⟩ :: ⟨[], [(11, 55), (8, 52)], (some (some 52, true))⟩ :: ⟨[], [(10, 54), (12, 56), (8, 52)], (some (some 52, true))⟩ :: ⟨[], [(8, 52), (13, 57)], none⟩ :: ⟨[], [(14, 58)], none⟩ :: []) (by kernel_rfl) [0, 1, 2, 3, 6, 7, 8, 9, 10, 11, 12, 13, 14, 15, 16, 17, 18, 19, 20, 21, 22, 23, 24, 25, 26, 27, 28, 29, 30, 31, 32, 33, 34, 35, 36, 37, 38, 39, 40, 41, 42, 43] _ ?vlb5 [(15, 4)] (by kernel_rfl) (fun g => g 0 :: g 1 :: g 2 :: g 3 :: g 4 :: g 5 :: g 6 :: g 7 :: g 8 :: g 9 :: g 10 :: g 11 :: g 12 :: g 13 :: g 14 :: g 15 :: g 16 :: g 17 :: g 18 :: g 19 :: g 20 :: g 21 :: g 22 :: g 23 :: g 24 :: g 25 :: g 26 :: g 27 :: g 28 :: g 29 :: g 30 :: g 31 :: g 32 :: g 33 :: g 34 :: g 35 :: g 36 :: g 37 :: g 38 :: g 39 :: g 40 :: g 41 :: g 42 :: g 43 :: g 44 :: g 45 :: g 46 :: g 47 :: g 48 :: g 49 :: g 50 :: g 51 :: g 52 :: g 53 :: g 54 :: g 55 :: g 56 :: g 57 :: g 58 :: []) (fun _ => rfl) ?steps5 ?fin5
  case vlb5 => (simp only [List.map_cons, List.map_nil, Array.getD_eq_getD_getElem?, List.getElem?_toArray, List.getElem?_cons_zero, List.getElem?_cons_succ, Option.getD_some]; rfl)
  case vals5 => (simp only [List.map_cons, List.map_nil, Array.getD_eq_getD_getElem?, List.getElem?_toArray, List.getElem?_cons_zero, List.getElem?_cons_succ, Option.getD_some]; rfl)
  case steps5 =>
    refine stepsR_cons ?_ ?_
    · intro w1 hw1 ρ hcst hfn h5
      refine runs_of ?_
      (go_simp; try go_bits)
      refine ⟨later_refl _, ?_⟩; refine fact_rfl
    refine stepsR_cons ?_ ?_
    · intro w1 hw1 ρ hcst hfn h44
      refine runs_of ?_
      (go_simp; try go_bits)
      refine ⟨later_refl _, ?_⟩; refine fact_rfl
    refine stepsR_cons ?_ ?_
    · intro w1 hw1 ρ hcst hfn h6 h45
      obtain ⟨hc, hf⟩ := bcell hw1
      refine runs_of ?_
      (go_simp; try go_bits)
      refine ⟨later_refl _, ?_⟩; refine fact_rfl
    refine stepsR_cons ?_ ?_
    · intro w1 hw1 ρ hcst hfn h46 h45
      obtain ⟨hc, hf⟩ := bcell hw1
      refine runs_of ?_
      (go_simp; try go_bits)
      refine (O1.out _).mono ?_; rintro e w3 ⟨rfl, hl⟩; refine ⟨_, rfl, hl, ?_⟩; refine fact_rfl
    refine stepsR_cons ?_ ?_
    · intro w1 hw1 ρ hcst hfn h7 h45
      obtain ⟨hc, hf⟩ := bcell hw1
      refine runs_of ?_
      (go_simp; try go_bits)
      refine ⟨later_refl _, ?_⟩; refine fact_rfl
    refine stepsR_cons ?_ ?_
    · intro w1 hw1 ρ hcst hfn h48 h45
      obtain ⟨hc, hf⟩ := bcell hw1
      refine runs_of ?_
      (go_simp; try go_bits)
      refine (O2.out _).mono ?_; rintro e w3 ⟨rfl, hl⟩; refine ⟨_, rfl, hl, ?_⟩; refine fact_rfl
    refine stepsR_cons ?_ ?_
    · intro w1 hw1 ρ hcst hfn h47 h49 h45
      refine runs_of ?_
      (go_simp; try go_bits)
      refine ⟨later_refl _, ?_⟩; refine fact_rfl
    refine stepsR_cons ?_ ?_
    · intro w1 hw1 ρ hcst hfn h45 h50
      refine runs_of ?_
      (go_simp; try go_bits)
      refine ⟨later_refl _, ?_⟩; refine fact_rfl
    refine stepsR_cons ?_ ?_
    · intro w1 hw1 ρ hcst hfn h51
      refine runs_of ?_
      (go_simp; try go_bits)
      refine ⟨later_refl _, ?_⟩; refine fact_rfl
    refine stepsR_cons ?_ ?_
    · intro w1 hw1 ρ hcst hfn h6 h52
      obtain ⟨hc, hf⟩ := bcell hw1
      refine runs_of ?_
      (go_simp; try go_bits)
      refine ⟨later_refl _, ?_⟩; refine fact_rfl
    refine stepsR_cons ?_ ?_
    · intro w1 hw1 ρ hcst hfn h53 h52
      obtain ⟨hc, hf⟩ := bcell hw1
      refine runs_of ?_
      (go_simp; try go_bits)
      refine (O1.out _).mono ?_; rintro e w3 ⟨rfl, hl⟩; refine ⟨_, rfl, hl, ?_⟩; refine fact_rfl
    refine stepsR_cons ?_ ?_
    · intro w1 hw1 ρ hcst hfn h9 h52
      obtain ⟨hc, hf⟩ := bcell hw1
      refine runs_of ?_
      (go_simp; try go_bits)
      refine ⟨later_refl _, ?_⟩; refine fact_rfl
    refine stepsR_cons ?_ ?_
    · intro w1 hw1 ρ hcst hfn h55 h52
      obtain ⟨hc, hf⟩ := bcell hw1
      refine runs_of ?_
      (go_simp; try go_bits)
      refine (O3.out _).mono ?_; rintro e w3 ⟨rfl, hl⟩; refine ⟨_, rfl, hl, ?_⟩; refine fact_rfl
    refine stepsR_cons ?_ ?_
    · intro w1 hw1 ρ hcst hfn h54 h56 h52
      refine runs_of ?_
      (go_simp; try go_bits)
      refine ⟨later_refl _, ?_⟩; refine fact_rfl
    refine stepsR_cons ?_ ?_
    · intro w1 hw1 ρ hcst hfn h52 h57
      refine runs_of ?_
      (go_simp; try go_bits)
      refine ⟨later_refl _, ?_⟩; refine fact_rfl
    refine stepsR_cons ?_ ?_
    · intro w1 hw1 ρ hcst hfn h58
      refine runs_of ?_
      (go_simp; try go_bits)
      refine ⟨later_refl _, ?_⟩; refine fact_rfl
    exact stepsR_nil
  intro w2 hw2 g g0 g1 g2 g3 g6 g7 g8 g9 g10 g11 g12 g13 g14 g15 g16 g17 g18 g19 g20 g21 g22 g23 g24 g25 g26 g27 g28 g29 g30 g31 g32 g33 g34 g35 g36 g37 g38 g39 g40 g41 g42 g43 g4
  simp only [withSrcG, g0, g1, g2, g3, g6, g7, g8, g9, g10, g11, g12, g13, g14, g15, g16, g17, g18, g19, g20, g21, g22, g23, g24, g25, g26, g27, g28, g29, g30, g31, g32, g33, g34, g35, g36, g37, g38, g39, g40, g41, g42, g43, g4]
  clear g0 g1 g2 g3 g6 g7 g8 g9 g10 g11 g12 g13 g14 g15 g16 g17 g18 g19 g20 g21 g22 g23 g24 g25 g26 g27 g28 g29 g30 g31 g32 g33 g34 g35 g36 g37 g38 g39 g40 g41 g42 g43 g4
  go_wp2
  go_ret
  refine ⟨rfl, ?_⟩
  have b1 : Later w w1 := (((Below.refl _ _).alloc (Nat.le_refl _) _).alloc (by simp) _).trans (hw1.mono (by simp; omega))
  refine b1.trans (Below.trans ?_ (hw2.mono ?_))
  · repeat' (first | exact Below.refl _ _ | refine below_drewN ?_ _ | refine Below.alloc ?_ ?_ _)
    all_goals ((try simp); omega)
  · simp; omega

end Go.Proofs.Ytkflllendbgdaaa
