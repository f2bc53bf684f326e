/- The laws' walks: slots, one kid, bits. -/
import Derived.Test.YtkflllendbgdaaaO
namespace Go.Proofs.Ytkflllendbgdaaa
open Go.RowKit

section
variable {P : Program} (w : World)
theorem run_equalIn_arr4 (d : Nat) (t e : TypeId) (a0 a1 a2 a3 b0 b1 b2 b3 : Int) (ht : P.underlying t = some (.array 4 e)) (he : P.underlying e = some (.int .i64)) (hs : (P.info? e).map (·.size) = some 1) :
    (Op.equalIn (d + 2) t (.agg #[.int .i64 a0, .int .i64 a1, .int .i64 a2, .int .i64 a3]) (.agg #[.int .i64 b0, .int .i64 b1, .int .i64 b2, .int .i64 b3])).run P w = .ok (a0 == b0 && (a1 == b1 && (a2 == b2 && a3 == b3))) w := by
  obtain ⟨i, hi, hs⟩ := Option.map_eq_some_iff.1 hs
  have hsz : ∀ w : World, (sizeOf e).run P w = .ok 1 w := fun w => by simp [sizeOf, typeInfo, hi, hs]
  have h1 := fun (x y : Int) (w : World) => run_equalIn_int (P := P) w d e .i64 .i64 x y he
  unfold Op.equalIn
  simp only [Sem.run_bind, run_underlying ht, Result.andThen_ok, hsz, Nat.mul_one]
  have hag : ∀ w : World, (isAgg e).run P w = .ok false w := fun w => by simp [isAgg, run_underlying he]
  simp [List.range'_succ, Sem.run_bind, Sem.run_ite, part, h1, hag]
  by_cases e0 : a0 = b0 <;> by_cases e1 : a1 = b1 <;> by_cases e2 : a2 = b2 <;> by_cases e3 : a3 = b3 <;> simp [e0, e1, e2, e3]
end
@[go_sem] theorem Try.eq4 (w : World) (a0 a1 a2 a3 b0 b1 b2 b3 : Int) : (Op.equalIn 10000 22 (.agg #[.int .i64 a0, .int .i64 a1, .int .i64 a2, .int .i64 a3]) (.agg #[.int .i64 b0, .int .i64 b1, .int .i64 b2, .int .i64 b3])).run Try.prog w =
    .ok (a0 == b0 && (a1 == b1 && (a2 == b2 && a3 == b3))) w := run_equalIn_arr4 w 9998 22 3 a0 a1 a2 a3 b0 b1 b2 b3 Try.underlying22 Try.underlying3 (by kernel_rfl)
theorem bool_same {x y a b : Int} (h : x = y ↔ a = b) : ((x == y) == (a == b)) = true := by
  by_cases e : a = b
  · simp [e, h.2 e]
  · have : x ≠ y := fun e' => e (h.1 e')
    rw [beq_eq_false_iff_ne.2 e, beq_eq_false_iff_ne.2 this]; rfl
theorem ret_bool {a b : Bool} (h : a = b) : Ending.returned (.bool a) = .returned (.bool b) := by rw [h]
theorem slots_math (a b n : Int) (_ : 1 ≤ n) : ((a + b) % n + 1) % n = (a + (b + 1)) % n ∧ (a + b) % n = (a + (b + n)) % n := by
  constructor
  · rw [Int.emod_add_emod, ← Int.add_assoc]
  · rw [← Int.add_assoc, Int.add_emod_right]

set_option maxRecDepth 100000 in
set_option maxHeartbeats 4000000 in
theorem slots_row (h i s : Int) (w : World) (hh : I64 h) (hi : I64 i) (hs : I64 s) :
    Calls Try.prog 6 #[.int .i64 h, .int .i64 i, .int .i64 s] w fun e w' => e = .returned (.bool true) ∧ Later w w' := by
  have p0 := fun w => pick_any s 4000 w hs.1 hs.2 (by omega) (by omega)
  have p1 := fun w => pick_any h 2147483648 w hh.1 hh.2 (by omega) (by omega)
  have p2 := fun w => pick_any i 1073741824 w hi.1 hi.2 (by omega) (by omega)
  obtain ⟨n0, n1⟩ := pick_bd s 4000 (by omega)
  obtain ⟨a0, a1⟩ := pick_bd h 2147483648 (by omega)
  obtain ⟨b0, b1⟩ := pick_bd i 1073741824 (by omega)
  generalize pick s 4000 = q at *
  generalize pick h 2147483648 = a at *
  generalize pick i 1073741824 = b at *
  have hx : slotOf a b (1 + q) = (a + b) % (1 + q) := slotOf_in (by omega) a0 (by omega) b0 (by omega)
  have hx1 : slotOf a (b + 1) (1 + q) = ((a + b) % (1 + q) + 1) % (1 + q) := by
    rw [slotOf_in (by omega) a0 (by omega) (by omega) (by omega), (slots_math a b (1 + q) (by omega)).1]
  have hx2 : slotOf a (b + (1 + q)) (1 + q) = (a + b) % (1 + q) := by
    rw [slotOf_in (by omega) a0 (by omega) (by omega) (by omega)]; exact (slots_math a b (1 + q) (by omega)).2.symm
  have hx3 : slotOf a 0 (1 + q) = a % (1 + q) := by
    rw [slotOf_in (by omega) a0 (by omega) (by omega) (by omega), Int.add_zero]
  have s0 := slot_any a b (1 + q)
  have s1 := slot_any a (b + 1) (1 + q)
  have s2 := slot_any a (b + (1 + q)) (1 + q)
  have s3 := slot_any a 0 (1 + q)
  rw [hx] at s0
  rw [hx1] at s1
  rw [hx2] at s2
  rw [hx3] at s3
  have x0 := Int.emod_nonneg (a + b) (show 1 + q ≠ 0 by omega)
  have x1 := Int.emod_lt_of_pos (a + b) (show 0 < 1 + q by omega)
  generalize (a + b) % (1 + q) = x at *
  have hq0 : ¬ (1 + q = 0) := by omega
  have P0 := Lib.hid p0
  have P1 := Lib.hid p1
  have P2 := Lib.hid p2
  have S0' := Lib.hid s0
  have S1 := Lib.hid s1
  have S2 := Lib.hid s2
  have S3 := Lib.hid s3
  clear p0 p1 p2 s0 s1 s2 s3 hx hx1 hx2 hx3
  obtain ⟨hh0, hh1⟩ := hh
  obtain ⟨hi0, hi1⟩ := hi
  obtain ⟨hs0, hs1⟩ := hs
  go_enter Try.func6, Try.ntmps6
  go_wp2_with fail
  refine (awake_any _).mono ?_
  rintro e w1 ⟨rfl, hw1⟩
  go_wp2_with fail
  refine (P0.out _).mono ?_
  rintro e w2 ⟨rfl, rfl⟩
  go_wp2_with fail
  refine (P1.out _).mono ?_
  rintro e w2 ⟨rfl, rfl⟩
  go_wp2_with fail
  refine (P2.out _).mono ?_
  rintro e w2 ⟨rfl, rfl⟩
  go_wp2_with fail
  refine (S0'.out _).mono ?_
  rintro e w2 ⟨rfl, rfl⟩
  go_wp2_with fail
  refine' wp_region_g (E := Later) (.eq _ :: .eq _ :: .eq _ :: .eq _ :: .eq _ :: .eq _ :: .eq _ :: .eq _ :: .eq _ :: .eq _ :: .eq _ :: .eq _ :: .eq _ :: .eq _ :: .eq _ :: .eq _ :: .eq _ :: .eq _ :: .eq _ :: .eq _ :: .eq _ :: .eq _ :: .eq _ :: .eq _ :: .eq _ :: .eq _ :: .eq _ :: .eq _ :: .eq _ :: .eq _ :: .eq _ :: .eq _ :: .eq _ :: .eq _ :: .eq _ :: .eq _ :: .eq _ :: .eq _ :: .eq _ :: .eq _ :: .eq _ :: .eq _ :: []) (by kernel_rfl) later_trans (later_drew _) rfl (by kernel_rfl) [7, 11, 8, 9, 10] _ ?vals (⟨[(0, 7)], [], none⟩ :: ⟨[], [(0, 24)], none⟩ :: ⟨[(1, 11)], [(1, 25)], (some (some 25, true))⟩ :: ⟨[], [(2, 26), (1, 25)], (some (some 25, true))⟩ :: ⟨[], [(1, 25), (3, 27)], none⟩ :: ⟨[], [(4, 28)], none⟩ :: ⟨[(1, 11)], [(5, 29)], (some (some 29, true))⟩ :: ⟨[(2, 8)], [(5, 29)], (some (some 29, true))⟩ :: ⟨[], [(6, 30), (7, 31), (5, 29)], (some (some 29, true))⟩ :: ⟨[], [(5, 29), (8, 32)], none⟩ :: ⟨[], [(9, 33)], none⟩ :: ⟨[(3, 9)], [(10, 34)], (some (some 34, true))⟩ :: ⟨[(4, 10)], [(10, 34)], (some (some 34, true))⟩ :: ⟨[], [(12, 36), (10, 34)], (some (some 34, true))⟩ :: ⟨[(2, 8)], [(10, 34)], (some (some 34, true))⟩ :: ⟨[], [(11, 35), (13, 37), (14, 38), (10, 34)], (some (some 34, true))⟩ :: ⟨[(1, 11)], [(10, 34)], (some (some 34, true))⟩ :: ⟨[], [(16, 40), (10, 34)], (some (some 34, true))⟩ :: ⟨[(2, 8)], [(10, 34)], (some (some 34, true))⟩ :: ⟨[], [(17, 41), (18, 42), (10, 34)], (some (some 34, true))⟩ :: ⟨[], [(15, 39), (19, 43), (10, 34)], (some (some 34, true))⟩ :: ⟨[], [(10, 34), (20, 44)], none⟩ :: ⟨[], [(21, 45)], none⟩ :: ⟨[(3, 9)], [(22, 46)], (some (some 46, true))⟩ :: ⟨[(4, 10)], [(22, 46)], (some (some 46, true))⟩ :: ⟨[(2, 8)], [(22, 46)], (some (some 46, true))⟩ :: ⟨[], [(24, 48), (25, 49), (22, 46)], (some (some 46, true))⟩ :: ⟨[(2, 8)], [(22, 46)], (some (some 46, true))⟩ :: ⟨[], [(23, 47), (26, 50), (27, 51), (22, 46)], (some (some 46, true))⟩ :: ⟨[(1, 11)], [(22, 46)], (some (some 46, true))⟩ :: ⟨[], [(28, 52), (29, 53), (22, 46)], (some (some 46, true))⟩ :: ⟨[], [(22, 46), (30, 54)], none⟩ :: ⟨[], [(31, 55)], none⟩ :: ⟨[(3, 9)], [(32, 56)], (some (some 56, true))⟩ :: ⟨[(2, 8)], [(32, 56)], (some (some 56, true))⟩ :: ⟨[], [(33, 57), (34, 58), (32, 56)], (some (some 56, true))⟩ :: ⟨[(3, 9)], [(32, 56)], (some (some 56, true))⟩ :: ⟨[(2, 8)], [(32, 56)], (some (some 56, true))⟩ :: ⟨[], [(36, 60), (37, 61), (32, 56)], (some (some 56, true))⟩ :: ⟨[], [(35, 59), (38, 62), (32, 56)], (some (some 56, true))⟩ :: ⟨[], [(32, 56), (39, 63)], none⟩ :: ⟨[], [(40, 64)], none⟩ :: []) (by kernel_rfl) [0, 1, 2, 8, 9, 10, 12, 13, 14, 15, 16, 17, 18, 19, 20, 21, 22, 23] _ ?vlb [(41, 6)] (by kernel_rfl) (fun g => g 0 :: g 1 :: g 2 :: g 3 :: g 4 :: g 5 :: g 6 :: g 7 :: g 8 :: g 9 :: g 10 :: g 11 :: g 12 :: g 13 :: g 14 :: g 15 :: g 16 :: g 17 :: g 18 :: g 19 :: g 20 :: g 21 :: g 22 :: g 23 :: g 24 :: g 25 :: g 26 :: g 27 :: g 28 :: g 29 :: g 30 :: g 31 :: g 32 :: g 33 :: g 34 :: g 35 :: g 36 :: g 37 :: g 38 :: g 39 :: g 40 :: g 41 :: g 42 :: g 43 :: g 44 :: g 45 :: g 46 :: g 47 :: g 48 :: g 49 :: g 50 :: g 51 :: g 52 :: g 53 :: g 54 :: g 55 :: g 56 :: g 57 :: g 58 :: g 59 :: g 60 :: g 61 :: g 62 :: g 63 :: g 64 :: []) (fun _ => rfl) ?steps ?fin
  case vlb => (simp only [List.map_cons, List.map_nil, Array.getD_eq_getD_getElem?, List.getElem?_toArray, List.getElem?_cons_zero, List.getElem?_cons_succ, Option.getD_some]; rfl)
  case vals => (simp only [List.map_cons, List.map_nil, Array.getD_eq_getD_getElem?, List.getElem?_toArray, List.getElem?_cons_zero, List.getElem?_cons_succ, Option.getD_some]; rfl)
  case steps =>
    refine stepsR_cons ?_ ?_
    · intro w1 hw1 ρ hcst hfn h7
      refine runs_of ?_
      (go_simp; try go_bits)
      refine ⟨later_refl _, ?_⟩; refine fact_rfl
    refine stepsR_cons ?_ ?_
    · intro w1 hw1 ρ hcst hfn h24
      refine runs_of ?_
      (go_simp; try go_bits)
      refine ⟨later_refl _, ?_⟩; refine fact_rfl
    refine stepsR_cons ?_ ?_
    · intro w1 hw1 ρ hcst hfn h11 h25
      refine runs_of ?_
      (go_simp; try go_bits)
      refine ⟨later_refl _, ?_⟩; refine fact_rfl
    refine stepsR_cons ?_ ?_
    · intro w1 hw1 ρ hcst hfn h26 h25
      refine runs_of ?_
      (go_simp; try go_bits)
      refine ⟨later_refl _, ?_⟩; refine fact_rfl
    refine stepsR_cons ?_ ?_
    · intro w1 hw1 ρ hcst hfn h25 h27
      refine runs_of ?_
      (go_simp; try go_bits)
      refine ⟨later_refl _, ?_⟩; refine fact_rfl
    refine stepsR_cons ?_ ?_
    · intro w1 hw1 ρ hcst hfn h28
      refine runs_of ?_
      (go_simp; try go_bits)
      refine ⟨later_refl _, ?_⟩; refine fact_rfl
    refine stepsR_cons ?_ ?_
    · intro w1 hw1 ρ hcst hfn h11 h29
      refine runs_of ?_
      (go_simp; try go_bits)
      refine ⟨later_refl _, ?_⟩; refine fact_rfl
    refine stepsR_cons ?_ ?_
    · intro w1 hw1 ρ hcst hfn h8 h29
      refine runs_of ?_
      (go_simp; try go_bits)
      refine ⟨later_refl _, ?_⟩; refine fact_rfl
    refine stepsR_cons ?_ ?_
    · intro w1 hw1 ρ hcst hfn h30 h31 h29
      refine runs_of ?_
      (go_simp; try go_bits)
      refine ⟨later_refl _, ?_⟩; refine fact_rfl
    refine stepsR_cons ?_ ?_
    · intro w1 hw1 ρ hcst hfn h29 h32
      refine runs_of ?_
      (go_simp; try go_bits)
      refine ⟨later_refl _, ?_⟩; refine fact_rfl
    refine stepsR_cons ?_ ?_
    · intro w1 hw1 ρ hcst hfn h33
      refine runs_of ?_
      (go_simp; try go_bits)
      refine ⟨later_refl _, ?_⟩; refine fact_rfl
    refine stepsR_cons ?_ ?_
    · intro w1 hw1 ρ hcst hfn h9 h34
      refine runs_of ?_
      (go_simp; try go_bits)
      refine ⟨later_refl _, ?_⟩; refine fact_rfl
    refine stepsR_cons ?_ ?_
    · intro w1 hw1 ρ hcst hfn h10 h34
      refine runs_of ?_
      (go_simp; try go_bits)
      refine ⟨later_refl _, ?_⟩; refine fact_rfl
    refine stepsR_cons ?_ ?_
    · intro w1 hw1 ρ hcst hfn h36 h34
      refine runs_of ?_
      (go_simp; try go_bits)
      refine ⟨later_refl _, ?_⟩; refine fact_rfl
    refine stepsR_cons ?_ ?_
    · intro w1 hw1 ρ hcst hfn h8 h34
      refine runs_of ?_
      (go_simp; try go_bits)
      refine ⟨later_refl _, ?_⟩; refine fact_rfl
    refine stepsR_cons ?_ ?_
    · intro w1 hw1 ρ hcst hfn h35 h37 h38 h34
      obtain ⟨hc, hf⟩ := bcell hw1
      refine runs_of ?_
      (go_simp; try go_bits)
      refine (S1.out _).mono ?_; rintro e w3 ⟨rfl, rfl⟩; refine ⟨_, rfl, later_refl _, ?_⟩; refine fact_rfl
    refine stepsR_cons ?_ ?_
    · intro w1 hw1 ρ hcst hfn h11 h34
      refine runs_of ?_
      (go_simp; try go_bits)
      refine ⟨later_refl _, ?_⟩; refine fact_rfl
    refine stepsR_cons ?_ ?_
    · intro w1 hw1 ρ hcst hfn h40 h34
      refine runs_of ?_
      (go_simp; try go_bits)
      refine ⟨later_refl _, ?_⟩; refine fact_rfl
    refine stepsR_cons ?_ ?_
    · intro w1 hw1 ρ hcst hfn h8 h34
      refine runs_of ?_
      (go_simp; try go_bits)
      refine ⟨later_refl _, ?_⟩; refine fact_rfl
    refine stepsR_cons ?_ ?_
    · intro w1 hw1 ρ hcst hfn h41 h42 h34
      refine runs_of ?_
      (go_simp; try go_bits)
      refine ⟨later_refl _, ?_⟩; refine fact_rfl
    refine stepsR_cons ?_ ?_
    · intro w1 hw1 ρ hcst hfn h39 h43 h34
      refine runs_of ?_
      (go_simp; try go_bits)
      refine ⟨later_refl _, ?_⟩; refine fact_rfl
    refine stepsR_cons ?_ ?_
    · intro w1 hw1 ρ hcst hfn h34 h44
      refine runs_of ?_
      (go_simp; try go_bits)
      refine ⟨later_refl _, ?_⟩; refine fact_rfl
    refine stepsR_cons ?_ ?_
    · intro w1 hw1 ρ hcst hfn h45
      refine runs_of ?_
      (go_simp; try go_bits)
      refine ⟨later_refl _, ?_⟩; refine fact_rfl
    refine stepsR_cons ?_ ?_
    · intro w1 hw1 ρ hcst hfn h9 h46
      refine runs_of ?_
      (go_simp; try go_bits)
      refine ⟨later_refl _, ?_⟩; refine fact_rfl
    refine stepsR_cons ?_ ?_
    · intro w1 hw1 ρ hcst hfn h10 h46
      refine runs_of ?_
      (go_simp; try go_bits)
      refine ⟨later_refl _, ?_⟩; refine fact_rfl
    refine stepsR_cons ?_ ?_
    · intro w1 hw1 ρ hcst hfn h8 h46
      refine runs_of ?_
      (go_simp; try go_bits)
      refine ⟨later_refl _, ?_⟩; refine fact_rfl
    refine stepsR_cons ?_ ?_
    · intro w1 hw1 ρ hcst hfn h48 h49 h46
      refine runs_of ?_
      (go_simp; try go_bits)
      refine ⟨later_refl _, ?_⟩; refine fact_rfl
    refine stepsR_cons ?_ ?_
    · intro w1 hw1 ρ hcst hfn h8 h46
      refine runs_of ?_
      (go_simp; try go_bits)
      refine ⟨later_refl _, ?_⟩; refine fact_rfl
    refine stepsR_cons ?_ ?_
    · intro w1 hw1 ρ hcst hfn h47 h50 h51 h46
      obtain ⟨hc, hf⟩ := bcell hw1
      refine runs_of ?_
      (go_simp; try go_bits)
      refine (S2.out _).mono ?_; rintro e w3 ⟨rfl, rfl⟩; refine ⟨_, rfl, later_refl _, ?_⟩; refine fact_rfl
    refine stepsR_cons ?_ ?_
    · intro w1 hw1 ρ hcst hfn h11 h46
      refine runs_of ?_
      (go_simp; try go_bits)
      refine ⟨later_refl _, ?_⟩; refine fact_rfl
    refine stepsR_cons ?_ ?_
    · intro w1 hw1 ρ hcst hfn h52 h53 h46
      refine runs_of ?_
      (go_simp; try go_bits)
      refine ⟨later_refl _, ?_⟩; refine fact_rfl
    refine stepsR_cons ?_ ?_
    · intro w1 hw1 ρ hcst hfn h46 h54
      refine runs_of ?_
      (go_simp; try go_bits)
      refine ⟨later_refl _, ?_⟩; refine fact_rfl
    refine stepsR_cons ?_ ?_
    · intro w1 hw1 ρ hcst hfn h55
      refine runs_of ?_
      (go_simp; try go_bits)
      refine ⟨later_refl _, ?_⟩; refine fact_rfl
    refine stepsR_cons ?_ ?_
    · intro w1 hw1 ρ hcst hfn h9 h56
      refine runs_of ?_
      (go_simp; try go_bits)
      refine ⟨later_refl _, ?_⟩; refine fact_rfl
    refine stepsR_cons ?_ ?_
    · intro w1 hw1 ρ hcst hfn h8 h56
      refine runs_of ?_
      (go_simp; try go_bits)
      refine ⟨later_refl _, ?_⟩; refine fact_rfl
    refine stepsR_cons ?_ ?_
    · intro w1 hw1 ρ hcst hfn h57 h58 h56
      obtain ⟨hc, hf⟩ := bcell hw1
      refine runs_of ?_
      (go_simp; try go_bits)
      refine (S3.out _).mono ?_; rintro e w3 ⟨rfl, rfl⟩; refine ⟨_, rfl, later_refl _, ?_⟩; refine fact_rfl
    refine stepsR_cons ?_ ?_
    · intro w1 hw1 ρ hcst hfn h9 h56
      refine runs_of ?_
      (go_simp; try go_bits)
      refine ⟨later_refl _, ?_⟩; refine fact_rfl
    refine stepsR_cons ?_ ?_
    · intro w1 hw1 ρ hcst hfn h8 h56
      refine runs_of ?_
      (go_simp; try go_bits)
      refine ⟨later_refl _, ?_⟩; refine fact_rfl
    refine stepsR_cons ?_ ?_
    · intro w1 hw1 ρ hcst hfn h60 h61 h56
      refine runs_of ?_
      (go_simp; try go_bits)
      refine ⟨later_refl _, ?_⟩; refine fact_rfl
    refine stepsR_cons ?_ ?_
    · intro w1 hw1 ρ hcst hfn h59 h62 h56
      refine runs_of ?_
      (go_simp; try go_bits)
      refine ⟨later_refl _, ?_⟩; refine fact_rfl
    refine stepsR_cons ?_ ?_
    · intro w1 hw1 ρ hcst hfn h56 h63
      refine runs_of ?_
      (go_simp; try go_bits)
      refine ⟨later_refl _, ?_⟩; refine fact_rfl
    refine stepsR_cons ?_ ?_
    · intro w1 hw1 ρ hcst hfn h64
      refine runs_of ?_
      (go_simp; try go_bits)
      refine ⟨later_refl _, ?_⟩; refine fact_rfl
    exact stepsR_nil
  case fin =>
    intro w2 hw2 g g0 g1 g2 g8 g9 g10 g12 g13 g14 g15 g16 g17 g18 g19 g20 g21 g22 g23 g6
    simp only [withSrcG, g0, g1, g2, g8, g9, g10, g12, g13, g14, g15, g16, g17, g18, g19, g20, g21, g22, g23, g6]
    clear g0 g1 g2 g8 g9 g10 g12 g13 g14 g15 g16 g17 g18 g19 g20 g21 g22 g23 g6
    go_wp2
    go_ret
    exact ⟨rfl, hw1.trans (hw2.mono hw1.size)⟩

set_option maxRecDepth 100000 in
set_option maxHeartbeats 4000000 in
theorem one_row (r0 r1 r2 r3 at_ other : Int) (w : World) (h0 : I64 r0) (h1 : I64 r1) (h2 : I64 r2) (h3 : I64 r3) (ha : I64 at_) (ho : I64 other) :
    Calls Try.prog 5 #[four r0 r1 r2 r3, .int .i64 at_, .int .i64 other] w fun e w' => e = .returned (.bool true) ∧ Later w w' := by
  have p0 := fun w => pick_any r0 2147483648 w h0.1 h0.2 (by omega) (by omega)
  have p1 := fun w => pick_any r1 2147483648 w h1.1 h1.2 (by omega) (by omega)
  have p2 := fun w => pick_any r2 2147483648 w h2.1 h2.2 (by omega) (by omega)
  have p3 := fun w => pick_any r3 2147483648 w h3.1 h3.2 (by omega) (by omega)
  have pa := fun w => pick_any at_ 4 w ha.1 ha.2 (by omega) (by omega)
  have po := fun w => pick_any other 2147483648 w ho.1 ho.2 (by omega) (by omega)
  obtain ⟨a00, a01⟩ := pick_bd r0 2147483648 (by omega)
  obtain ⟨a10, a11⟩ := pick_bd r1 2147483648 (by omega)
  obtain ⟨a20, a21⟩ := pick_bd r2 2147483648 (by omega)
  obtain ⟨a30, a31⟩ := pick_bd r3 2147483648 (by omega)
  obtain ⟨b0, b1⟩ := pick_bd at_ 4 (by omega)
  obtain ⟨c0, c1⟩ := pick_bd other 2147483648 (by omega)
  generalize pick r0 2147483648 = a0 at *
  generalize pick r1 2147483648 = a1 at *
  generalize pick r2 2147483648 = a2 at *
  generalize pick r3 2147483648 = a3 at *
  generalize pick at_ 4 = p at *
  generalize pick other 2147483648 = o at *
  have P0 := Lib.hid p0
  have P1 := Lib.hid p1
  have P2 := Lib.hid p2
  have P3 := Lib.hid p3
  have PA := Lib.hid pa
  have PO := Lib.hid po
  clear p0 p1 p2 p3 pa po
  clear h0 h1 h2 h3 ha ho
  obtain rfl | rfl | rfl | rfl : p = 0 ∨ p = 1 ∨ p = 2 ∨ p = 3 := by omega
  · go_enter Try.func5, Try.ntmps5
    go_wp2_with fail
    refine (awake_any _).mono ?_
    rintro e w1 ⟨rfl, hw1⟩
    have k0 : w1.cell? ⟨w.heap.size, 0, none⟩ = some (.int .i64 r0) := by rw [hw1.cell (by simp)]; simp
    have k1 : w1.cell? ⟨w.heap.size, 1, none⟩ = some (.int .i64 r1) := by rw [hw1.cell (by simp)]; simp
    have k2 : w1.cell? ⟨w.heap.size, 2, none⟩ = some (.int .i64 r2) := by rw [hw1.cell (by simp)]; simp
    have k3 : w1.cell? ⟨w.heap.size, 3, none⟩ = some (.int .i64 r3) := by rw [hw1.cell (by simp)]; simp
    have hl : w.heap.size < w1.heap.size := by have := hw1.size; simp at this; omega
    go_wp2_with fail
    refine wp_loop_rounds 5 ?_
    simp only [rounds_succ]
    go_wp2_with fail
    refine (P0.out _).mono ?_
    rintro e w2 ⟨rfl, rfl⟩
    go_wp2_with fail
    simp only [rounds_succ]
    go_wp2_with fail
    refine (P1.out _).mono ?_
    rintro e w2 ⟨rfl, rfl⟩
    go_wp2_with fail
    simp only [rounds_succ]
    go_wp2_with fail
    refine (P2.out _).mono ?_
    rintro e w2 ⟨rfl, rfl⟩
    go_wp2_with fail
    simp only [rounds_succ]
    go_wp2_with fail
    refine (P3.out _).mono ?_
    rintro e w2 ⟨rfl, rfl⟩
    go_wp2_with fail
    simp only [rounds_succ]
    go_wp2_with fail
    refine (PA.out _).mono ?_
    rintro e w2 ⟨rfl, rfl⟩
    go_wp2_with fail
    refine (PO.out _).mono ?_
    rintro e w2 ⟨rfl, rfl⟩
    go_wp2_with fail
    refine (of_any _ _ _ _ _).mono ?_
    rintro e w2 ⟨rfl, hw2⟩
    obtain ⟨hc2, hf2⟩ := bcell hw2
    have hz2 := hw2.size
    simp only [World.size_alloc] at hz2
    go_wp2_with fail
    refine (of_any _ _ _ _ _).mono ?_
    rintro e w3 ⟨rfl, hw3⟩
    have hw4 := later_trans _ _ _ hw2 hw3
    clear hw2 hw3 hc2 hf2 hz2
    obtain ⟨hc2, hf2⟩ := bcell hw4
    have hz2 := hw4.size
    simp only [World.size_alloc] at hz2
    have x0 := hashOf_bd [a0, a1, a2, a3]
    have y0 := hashOf_bd [o, a1, a2, a3]
    have hone : hashOf [a0, a1, a2, a3] = hashOf [o, a1, a2, a3] ↔ a0 = o :=
      ⟨fun e => hash_one [] [a1, a2, a3] a0 o a00 a01 c0 c1 e, fun e => by rw [e]⟩
    have Hone := Lib.hid hone
    clear hone
    generalize hashOf [a0, a1, a2, a3] = x at *
    generalize hashOf [o, a1, a2, a3] = y at *
    obtain ⟨x0, x1⟩ := x0
    obtain ⟨y0, y1⟩ := y0
    go_wp2
    go_ret
    refine ⟨ret_bool (bool_same Hone.out), ?_⟩
    exact ((later_alloc _ _).trans (hw1.mono (by simp))).trans ((((Below.refl _ _).alloc (Nat.le_refl _) _).alloc (by simp) _).trans (hw4.mono (by simp; omega)) |>.mono (by omega))
  · go_enter Try.func5, Try.ntmps5
    go_wp2_with fail
    refine (awake_any _).mono ?_
    rintro e w1 ⟨rfl, hw1⟩
    have k0 : w1.cell? ⟨w.heap.size, 0, none⟩ = some (.int .i64 r0) := by rw [hw1.cell (by simp)]; simp
    have k1 : w1.cell? ⟨w.heap.size, 1, none⟩ = some (.int .i64 r1) := by rw [hw1.cell (by simp)]; simp
    have k2 : w1.cell? ⟨w.heap.size, 2, none⟩ = some (.int .i64 r2) := by rw [hw1.cell (by simp)]; simp
    have k3 : w1.cell? ⟨w.heap.size, 3, none⟩ = some (.int .i64 r3) := by rw [hw1.cell (by simp)]; simp
    have hl : w.heap.size < w1.heap.size := by have := hw1.size; simp at this; omega
    go_wp2_with fail
    refine wp_loop_rounds 5 ?_
    simp only [rounds_succ]
    go_wp2_with fail
    refine (P0.out _).mono ?_
    rintro e w2 ⟨rfl, rfl⟩
    go_wp2_with fail
    simp only [rounds_succ]
    go_wp2_with fail
    refine (P1.out _).mono ?_
    rintro e w2 ⟨rfl, rfl⟩
    go_wp2_with fail
    simp only [rounds_succ]
    go_wp2_with fail
    refine (P2.out _).mono ?_
    rintro e w2 ⟨rfl, rfl⟩
    go_wp2_with fail
    simp only [rounds_succ]
    go_wp2_with fail
    refine (P3.out _).mono ?_
    rintro e w2 ⟨rfl, rfl⟩
    go_wp2_with fail
    simp only [rounds_succ]
    go_wp2_with fail
    refine (PA.out _).mono ?_
    rintro e w2 ⟨rfl, rfl⟩
    go_wp2_with fail
    refine (PO.out _).mono ?_
    rintro e w2 ⟨rfl, rfl⟩
    go_wp2_with fail
    refine (of_any _ _ _ _ _).mono ?_
    rintro e w2 ⟨rfl, hw2⟩
    obtain ⟨hc2, hf2⟩ := bcell hw2
    have hz2 := hw2.size
    simp only [World.size_alloc] at hz2
    go_wp2_with fail
    refine (of_any _ _ _ _ _).mono ?_
    rintro e w3 ⟨rfl, hw3⟩
    have hw4 := later_trans _ _ _ hw2 hw3
    clear hw2 hw3 hc2 hf2 hz2
    obtain ⟨hc2, hf2⟩ := bcell hw4
    have hz2 := hw4.size
    simp only [World.size_alloc] at hz2
    have x0 := hashOf_bd [a0, a1, a2, a3]
    have y0 := hashOf_bd [a0, o, a2, a3]
    have hone : hashOf [a0, a1, a2, a3] = hashOf [a0, o, a2, a3] ↔ a1 = o :=
      ⟨fun e => hash_one [a0] [a2, a3] a1 o a10 a11 c0 c1 e, fun e => by rw [e]⟩
    have Hone := Lib.hid hone
    clear hone
    generalize hashOf [a0, a1, a2, a3] = x at *
    generalize hashOf [a0, o, a2, a3] = y at *
    obtain ⟨x0, x1⟩ := x0
    obtain ⟨y0, y1⟩ := y0
    go_wp2
    go_ret
    refine ⟨ret_bool (bool_same Hone.out), ?_⟩
    exact ((later_alloc _ _).trans (hw1.mono (by simp))).trans ((((Below.refl _ _).alloc (Nat.le_refl _) _).alloc (by simp) _).trans (hw4.mono (by simp; omega)) |>.mono (by omega))
  · go_enter Try.func5, Try.ntmps5
    go_wp2_with fail
    refine (awake_any _).mono ?_
    rintro e w1 ⟨rfl, hw1⟩
    have k0 : w1.cell? ⟨w.heap.size, 0, none⟩ = some (.int .i64 r0) := by rw [hw1.cell (by simp)]; simp
    have k1 : w1.cell? ⟨w.heap.size, 1, none⟩ = some (.int .i64 r1) := by rw [hw1.cell (by simp)]; simp
    have k2 : w1.cell? ⟨w.heap.size, 2, none⟩ = some (.int .i64 r2) := by rw [hw1.cell (by simp)]; simp
    have k3 : w1.cell? ⟨w.heap.size, 3, none⟩ = some (.int .i64 r3) := by rw [hw1.cell (by simp)]; simp
    have hl : w.heap.size < w1.heap.size := by have := hw1.size; simp at this; omega
    go_wp2_with fail
    refine wp_loop_rounds 5 ?_
    simp only [rounds_succ]
    go_wp2_with fail
    refine (P0.out _).mono ?_
    rintro e w2 ⟨rfl, rfl⟩
    go_wp2_with fail
    simp only [rounds_succ]
    go_wp2_with fail
    refine (P1.out _).mono ?_
    rintro e w2 ⟨rfl, rfl⟩
    go_wp2_with fail
    simp only [rounds_succ]
    go_wp2_with fail
    refine (P2.out _).mono ?_
    rintro e w2 ⟨rfl, rfl⟩
    go_wp2_with fail
    simp only [rounds_succ]
    go_wp2_with fail
    refine (P3.out _).mono ?_
    rintro e w2 ⟨rfl, rfl⟩
    go_wp2_with fail
    simp only [rounds_succ]
    go_wp2_with fail
    refine (PA.out _).mono ?_
    rintro e w2 ⟨rfl, rfl⟩
    go_wp2_with fail
    refine (PO.out _).mono ?_
    rintro e w2 ⟨rfl, rfl⟩
    go_wp2_with fail
    refine (of_any _ _ _ _ _).mono ?_
    rintro e w2 ⟨rfl, hw2⟩
    obtain ⟨hc2, hf2⟩ := bcell hw2
    have hz2 := hw2.size
    simp only [World.size_alloc] at hz2
    go_wp2_with fail
    refine (of_any _ _ _ _ _).mono ?_
    rintro e w3 ⟨rfl, hw3⟩
    have hw4 := later_trans _ _ _ hw2 hw3
    clear hw2 hw3 hc2 hf2 hz2
    obtain ⟨hc2, hf2⟩ := bcell hw4
    have hz2 := hw4.size
    simp only [World.size_alloc] at hz2
    have x0 := hashOf_bd [a0, a1, a2, a3]
    have y0 := hashOf_bd [a0, a1, o, a3]
    have hone : hashOf [a0, a1, a2, a3] = hashOf [a0, a1, o, a3] ↔ a2 = o :=
      ⟨fun e => hash_one [a0, a1] [a3] a2 o a20 a21 c0 c1 e, fun e => by rw [e]⟩
    have Hone := Lib.hid hone
    clear hone
    generalize hashOf [a0, a1, a2, a3] = x at *
    generalize hashOf [a0, a1, o, a3] = y at *
    obtain ⟨x0, x1⟩ := x0
    obtain ⟨y0, y1⟩ := y0
    go_wp2
    go_ret
    refine ⟨ret_bool (bool_same Hone.out), ?_⟩
    exact ((later_alloc _ _).trans (hw1.mono (by simp))).trans ((((Below.refl _ _).alloc (Nat.le_refl _) _).alloc (by simp) _).trans (hw4.mono (by simp; omega)) |>.mono (by omega))
  · go_enter Try.func5, Try.ntmps5
    go_wp2_with fail
    refine (awake_any _).mono ?_
    rintro e w1 ⟨rfl, hw1⟩
    have k0 : w1.cell? ⟨w.heap.size, 0, none⟩ = some (.int .i64 r0) := by rw [hw1.cell (by simp)]; simp
    have k1 : w1.cell? ⟨w.heap.size, 1, none⟩ = some (.int .i64 r1) := by rw [hw1.cell (by simp)]; simp
    have k2 : w1.cell? ⟨w.heap.size, 2, none⟩ = some (.int .i64 r2) := by rw [hw1.cell (by simp)]; simp
    have k3 : w1.cell? ⟨w.heap.size, 3, none⟩ = some (.int .i64 r3) := by rw [hw1.cell (by simp)]; simp
    have hl : w.heap.size < w1.heap.size := by have := hw1.size; simp at this; omega
    go_wp2_with fail
    refine wp_loop_rounds 5 ?_
    simp only [rounds_succ]
    go_wp2_with fail
    refine (P0.out _).mono ?_
    rintro e w2 ⟨rfl, rfl⟩
    go_wp2_with fail
    simp only [rounds_succ]
    go_wp2_with fail
    refine (P1.out _).mono ?_
    rintro e w2 ⟨rfl, rfl⟩
    go_wp2_with fail
    simp only [rounds_succ]
    go_wp2_with fail
    refine (P2.out _).mono ?_
    rintro e w2 ⟨rfl, rfl⟩
    go_wp2_with fail
    simp only [rounds_succ]
    go_wp2_with fail
    refine (P3.out _).mono ?_
    rintro e w2 ⟨rfl, rfl⟩
    go_wp2_with fail
    simp only [rounds_succ]
    go_wp2_with fail
    refine (PA.out _).mono ?_
    rintro e w2 ⟨rfl, rfl⟩
    go_wp2_with fail
    refine (PO.out _).mono ?_
    rintro e w2 ⟨rfl, rfl⟩
    go_wp2_with fail
    refine (of_any _ _ _ _ _).mono ?_
    rintro e w2 ⟨rfl, hw2⟩
    obtain ⟨hc2, hf2⟩ := bcell hw2
    have hz2 := hw2.size
    simp only [World.size_alloc] at hz2
    go_wp2_with fail
    refine (of_any _ _ _ _ _).mono ?_
    rintro e w3 ⟨rfl, hw3⟩
    have hw4 := later_trans _ _ _ hw2 hw3
    clear hw2 hw3 hc2 hf2 hz2
    obtain ⟨hc2, hf2⟩ := bcell hw4
    have hz2 := hw4.size
    simp only [World.size_alloc] at hz2
    have x0 := hashOf_bd [a0, a1, a2, a3]
    have y0 := hashOf_bd [a0, a1, a2, o]
    have hone : hashOf [a0, a1, a2, a3] = hashOf [a0, a1, a2, o] ↔ a3 = o :=
      ⟨fun e => hash_one [a0, a1, a2] [] a3 o a30 a31 c0 c1 e, fun e => by rw [e]⟩
    have Hone := Lib.hid hone
    clear hone
    generalize hashOf [a0, a1, a2, a3] = x at *
    generalize hashOf [a0, a1, a2, o] = y at *
    obtain ⟨x0, x1⟩ := x0
    obtain ⟨y0, y1⟩ := y0
    go_wp2
    go_ret
    refine ⟨ret_bool (bool_same Hone.out), ?_⟩
    exact ((later_alloc _ _).trans (hw1.mono (by simp))).trans ((((Below.refl _ _).alloc (Nat.le_refl _) _).alloc (by simp) _).trans (hw4.mono (by simp; omega)) |>.mono (by omega))

end Go.Proofs.Ytkflllendbgdaaa
