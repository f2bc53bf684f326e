/- The first calls. -/
import Derived.Test.YtkflllendbgdaaaP
namespace Go.Proofs.Ytkflllendbgdaaa
open Go.RowKit

theorem hs1234 : hashOf [1, 2, 3, 4] = 1452178412 := by decide
theorem hs0000 : hashOf [0, 0, 0, 0] = 1391498689 := by decide
theorem hs0001 : hashOf [0, 0, 0, 1] = 1374719342 := by decide
theorem path3 : pathL (hashOf [1, 2, 3, 4]) 3 3 = [2, 0, 1] := by decide

set_option maxRecDepth 100000 in
set_option maxHeartbeats 4000000 in
theorem awake_any (w : World) : Calls Try.prog 8 #[] w fun e w' => e = .returned (.bool true) ∧ Later w w' := by
  have hp := hpath_any 1 2 3 4 3
  have ho0 := of_any 0 0 0 0
  have ho1 := of_any 0 0 0 1
  have hr0 := rof_any 0 0 0 0
  have hs1 := slot_any 7 5 4
  have hs2 := slot_any 7 6 4
  have hs3 := slot_any 7 6 0
  have hpn := hpath_none 0 0 0 0 4001
  rw [show Int.toNat 3 = 3 from rfl, path3] at hp
  rw [hs0000] at ho0 hr0
  rw [hs0001] at ho1
  rw [show slotOf 7 5 4 = 0 from by decide] at hs1
  rw [show slotOf 7 6 4 = 1 from by decide] at hs2
  rw [show slotOf 7 6 0 = 0 from by decide] at hs3
  have Hp := Lib.hid hp
  have Ho0 := Lib.hid ho0
  have Ho1 := Lib.hid ho1
  have Hr0 := Lib.hid hr0
  have Hs1 := Lib.hid hs1
  have Hs2 := Lib.hid hs2
  have Hs3 := Lib.hid hs3
  have Hpn := Lib.hid hpn
  clear hp ho0 ho1 hr0 hs1 hs2 hs3 hpn
  go_enter Try.func8, Try.ntmps8
  go_wp2_with fail
  refine (Hp.out _ (by omega) (by omega)).mono ?_
  rintro e w1 ⟨v, rfl, ⟨a, c, rfl, hc1, hc2, hv⟩, hw1⟩
  rcases hv with hv | ⟨b, off, rfl, hv⟩
  · cases hv
  have h0 := hv 0 (by decide)
  have h1 := hv 1 (by decide)
  have h2 := hv 2 (by decide)
  have l0 := World.block_lt_of_cell? w1 _ h0
  clear hv
  simp only [List.getD_cons_zero, List.getD_cons_succ, Nat.add_zero] at h0 h1 h2 l0
  go_wp2_with fail
  refine' wp_region_g (E := Later) (.eq _ :: .eq _ :: .eq _ :: .eq _ :: .eq _ :: .eq _ :: .eq _ :: .eq _ :: .eq _ :: .eq _ :: .eq _ :: .eq _ :: .eq _ :: .eq _ :: .eq _ :: .eq _ :: .eq _ :: .eq _ :: .eq _ :: .eq _ :: .eq _ :: .eq _ :: .eq _ :: .eq _ :: .eq _ :: .eq _ :: .eq _ :: .eq _ :: .eq _ :: .eq _ :: .eq _ :: .eq _ :: .eq _ :: .eq _ :: .eq _ :: .eq _ :: .eq _ :: .eq _ :: .eq _ :: .eq _ :: .eq _ :: .eq _ :: .eq _ :: .eq _ :: .eq _ :: .eq _ :: .eq _ :: .eq _ :: .eq _ :: .eq _ :: []) (by kernel_rfl) later_trans (later_drew _) rfl (by kernel_rfl) [1] _ ?vals (⟨[(0, 1)], [], none⟩ :: ⟨[], [(0, 4)], none⟩ :: ⟨[], [(1, 5)], none⟩ :: ⟨[], [(2, 6)], none⟩ :: ⟨[(0, 1)], [(3, 7)], (some (some 7, true))⟩ :: ⟨[], [(4, 8), (3, 7)], (some (some 7, true))⟩ :: ⟨[], [(5, 9), (3, 7)], (some (some 7, true))⟩ :: ⟨[(0, 1)], [(3, 7)], (some (some 7, true))⟩ :: ⟨[], [(7, 11), (3, 7)], (some (some 7, true))⟩ :: ⟨[], [(8, 12), (3, 7)], (some (some 7, true))⟩ :: ⟨[], [(6, 10), (9, 13), (3, 7)], (some (some 7, true))⟩ :: ⟨[(0, 1)], [(3, 7)], (some (some 7, true))⟩ :: ⟨[], [(11, 15), (3, 7)], (some (some 7, true))⟩ :: ⟨[], [(12, 16), (3, 7)], (some (some 7, true))⟩ :: ⟨[], [(10, 14), (13, 17), (3, 7)], (some (some 7, true))⟩ :: ⟨[], [(14, 18), (3, 7)], (some (some 7, true))⟩ :: ⟨[], [(3, 7), (15, 19)], none⟩ :: ⟨[], [(16, 20)], none⟩ :: ⟨[], [(17, 21)], (some (some 21, true))⟩ :: ⟨[], [(18, 22), (17, 21)], (some (some 21, true))⟩ :: ⟨[], [(17, 21)], (some (some 21, true))⟩ :: ⟨[], [(20, 24), (17, 21)], (some (some 21, true))⟩ :: ⟨[], [(19, 23), (21, 25), (17, 21)], (some (some 21, true))⟩ :: ⟨[], [(17, 21), (22, 26)], none⟩ :: ⟨[], [(23, 27)], none⟩ :: ⟨[], [(24, 28)], (some (some 28, true))⟩ :: ⟨[], [(25, 29), (24, 28)], (some (some 28, true))⟩ :: ⟨[], [(24, 28)], (some (some 28, true))⟩ :: ⟨[], [(27, 31), (24, 28)], (some (some 28, true))⟩ :: ⟨[], [(26, 30), (28, 32), (24, 28)], (some (some 28, true))⟩ :: ⟨[], [(24, 28), (29, 33)], none⟩ :: ⟨[], [(30, 34)], none⟩ :: ⟨[], [(31, 35)], (some (some 35, true))⟩ :: ⟨[], [(32, 36), (31, 35)], (some (some 35, true))⟩ :: ⟨[], [(31, 35), (33, 37)], none⟩ :: ⟨[], [(34, 38)], none⟩ :: ⟨[], [(35, 39)], (some (some 39, true))⟩ :: ⟨[], [(36, 40), (35, 39)], (some (some 39, true))⟩ :: ⟨[], [(35, 39), (37, 41)], none⟩ :: ⟨[], [(38, 42)], none⟩ :: ⟨[], [(39, 43)], (some (some 43, true))⟩ :: ⟨[], [(40, 44), (39, 43)], (some (some 43, true))⟩ :: ⟨[], [(39, 43), (41, 45)], none⟩ :: ⟨[], [(42, 46)], none⟩ :: ⟨[], [(43, 47)], (some (some 47, true))⟩ :: ⟨[], [(44, 48), (43, 47)], (some (some 47, true))⟩ :: ⟨[], [(45, 49), (43, 47)], (some (some 47, true))⟩ :: ⟨[], [(46, 50), (43, 47)], (some (some 47, true))⟩ :: ⟨[], [(43, 47), (47, 51)], none⟩ :: ⟨[], [(48, 52)], none⟩ :: []) (by kernel_rfl) [2, 3] _ ?vlb [(49, 0)] (by kernel_rfl) (fun g => g 0 :: g 1 :: g 2 :: g 3 :: g 4 :: g 5 :: g 6 :: g 7 :: g 8 :: g 9 :: g 10 :: g 11 :: g 12 :: g 13 :: g 14 :: g 15 :: g 16 :: g 17 :: g 18 :: g 19 :: g 20 :: g 21 :: g 22 :: g 23 :: g 24 :: g 25 :: g 26 :: g 27 :: g 28 :: g 29 :: g 30 :: g 31 :: g 32 :: g 33 :: g 34 :: g 35 :: g 36 :: g 37 :: g 38 :: g 39 :: g 40 :: g 41 :: g 42 :: g 43 :: g 44 :: g 45 :: g 46 :: g 47 :: g 48 :: g 49 :: g 50 :: g 51 :: g 52 :: []) (fun _ => rfl) ?steps ?fin
  case vlb => (simp only [List.map_cons, List.map_nil, Array.getD_eq_getD_getElem?, List.getElem?_toArray, List.getElem?_cons_zero, List.getElem?_cons_succ, Option.getD_some]; rfl)
  case vals => (simp only [List.map_cons, List.map_nil, Array.getD_eq_getD_getElem?, List.getElem?_toArray, List.getElem?_cons_zero, List.getElem?_cons_succ, Option.getD_some]; rfl)
  case steps =>
    refine stepsR_cons ?_ ?_
    · intro w1 hw1 ρ hcst hfn h1
      refine runs_of ?_
      (go_simp; try go_bits)
      refine ⟨later_refl _, ?_⟩; refine fact_rfl
    refine stepsR_cons ?_ ?_
    · intro w1 hw1 ρ hcst hfn h4
      obtain ⟨hc, hf⟩ := bcell hw1
      refine runs_of ?_
      (go_simp; try go_bits)
      refine ⟨later_refl _, ?_⟩; refine fact_rfl
    refine stepsR_cons ?_ ?_
    · intro w1 hw1 ρ hcst hfn h5
      refine runs_of ?_
      (go_simp; try go_bits)
      refine ⟨later_refl _, ?_⟩; refine fact_rfl
    refine stepsR_cons ?_ ?_
    · intro w1 hw1 ρ hcst hfn h6
      refine runs_of ?_
      (go_simp; try go_bits)
      refine ⟨later_refl _, ?_⟩; refine fact_rfl
    refine stepsR_cons ?_ ?_
    · intro w1 hw1 ρ hcst hfn h1 h7
      refine runs_of ?_
      (go_simp; try go_bits)
      refine ⟨later_refl _, ?_⟩; refine fact_rfl
    refine stepsR_cons ?_ ?_
    · intro w1 hw1 ρ hcst hfn h8 h7
      refine runs_of ?_
      (go_simp; try go_bits)
      refine ⟨later_refl _, ?_⟩; refine fact_rfl
    refine stepsR_cons ?_ ?_
    · intro w1 hw1 ρ hcst hfn h9 h7
      obtain ⟨hc, hf⟩ := bcell hw1
      refine runs_of ?_
      (go_simp; try go_bits)
      refine ⟨later_refl _, ?_⟩; refine fact_rfl
    refine stepsR_cons ?_ ?_
    · intro w1 hw1 ρ hcst hfn h1 h7
      refine runs_of ?_
      (go_simp; try go_bits)
      refine ⟨later_refl _, ?_⟩; refine fact_rfl
    refine stepsR_cons ?_ ?_
    · intro w1 hw1 ρ hcst hfn h11 h7
      refine runs_of ?_
      (go_simp; try go_bits)
      refine ⟨later_refl _, ?_⟩; refine fact_rfl
    refine stepsR_cons ?_ ?_
    · intro w1 hw1 ρ hcst hfn h12 h7
      obtain ⟨hc, hf⟩ := bcell hw1
      refine runs_of ?_
      (go_simp; try go_bits)
      refine ⟨later_refl _, ?_⟩; refine fact_rfl
    refine stepsR_cons ?_ ?_
    · intro w1 hw1 ρ hcst hfn h10 h13 h7
      refine runs_of ?_
      (go_simp; try go_bits)
      refine ⟨later_refl _, ?_⟩; refine fact_rfl
    refine stepsR_cons ?_ ?_
    · intro w1 hw1 ρ hcst hfn h1 h7
      refine runs_of ?_
      (go_simp; try go_bits)
      refine ⟨later_refl _, ?_⟩; refine fact_rfl
    refine stepsR_cons ?_ ?_
    · intro w1 hw1 ρ hcst hfn h15 h7
      refine runs_of ?_
      (go_simp; try go_bits)
      refine ⟨later_refl _, ?_⟩; refine fact_rfl
    refine stepsR_cons ?_ ?_
    · intro w1 hw1 ρ hcst hfn h16 h7
      obtain ⟨hc, hf⟩ := bcell hw1
      refine runs_of ?_
      (go_simp; try go_bits)
      refine ⟨later_refl _, ?_⟩; refine fact_rfl
    refine stepsR_cons ?_ ?_
    · intro w1 hw1 ρ hcst hfn h14 h17 h7
      refine runs_of ?_
      (go_simp; try go_bits)
      refine ⟨later_refl _, ?_⟩; refine fact_rfl
    refine stepsR_cons ?_ ?_
    · intro w1 hw1 ρ hcst hfn h18 h7
      refine runs_of ?_
      (go_simp; try go_bits)
      refine ⟨later_refl _, ?_⟩; refine fact_rfl
    refine stepsR_cons ?_ ?_
    · intro w1 hw1 ρ hcst hfn h7 h19
      refine runs_of ?_
      (go_simp; try go_bits)
      refine ⟨later_refl _, ?_⟩; refine fact_rfl
    refine stepsR_cons ?_ ?_
    · intro w1 hw1 ρ hcst hfn h20
      refine runs_of ?_
      (go_simp; try go_bits)
      refine ⟨later_refl _, ?_⟩; refine fact_rfl
    refine stepsR_cons ?_ ?_
    · intro w1 hw1 ρ hcst hfn h21
      refine runs_of ?_
      (go_simp; try go_bits)
      refine ⟨later_refl _, ?_⟩; refine fact_rfl
    refine stepsR_cons ?_ ?_
    · intro w1 hw1 ρ hcst hfn h22 h21
      obtain ⟨hc, hf⟩ := bcell hw1
      refine runs_of ?_
      (go_simp; try go_bits)
      refine (Ho0.out _).mono ?_; rintro e w3 ⟨rfl, hb2⟩; refine ⟨_, rfl, hb2, ?_⟩; refine fact_rfl
    refine stepsR_cons ?_ ?_
    · intro w1 hw1 ρ hcst hfn h21
      refine runs_of ?_
      (go_simp; try go_bits)
      refine ⟨later_refl _, ?_⟩; refine fact_rfl
    refine stepsR_cons ?_ ?_
    · intro w1 hw1 ρ hcst hfn h24 h21
      obtain ⟨hc, hf⟩ := bcell hw1
      refine runs_of ?_
      (go_simp; try go_bits)
      refine (Hr0.out _).mono ?_; rintro e w3 ⟨rfl, hb2⟩; refine ⟨_, rfl, hb2, ?_⟩; refine fact_rfl
    refine stepsR_cons ?_ ?_
    · intro w1 hw1 ρ hcst hfn h23 h25 h21
      refine runs_of ?_
      (go_simp; try go_bits)
      refine ⟨later_refl _, ?_⟩; refine fact_rfl
    refine stepsR_cons ?_ ?_
    · intro w1 hw1 ρ hcst hfn h21 h26
      refine runs_of ?_
      (go_simp; try go_bits)
      refine ⟨later_refl _, ?_⟩; refine fact_rfl
    refine stepsR_cons ?_ ?_
    · intro w1 hw1 ρ hcst hfn h27
      refine runs_of ?_
      (go_simp; try go_bits)
      refine ⟨later_refl _, ?_⟩; refine fact_rfl
    refine stepsR_cons ?_ ?_
    · intro w1 hw1 ρ hcst hfn h28
      refine runs_of ?_
      (go_simp; try go_bits)
      refine ⟨later_refl _, ?_⟩; refine fact_rfl
    refine stepsR_cons ?_ ?_
    · intro w1 hw1 ρ hcst hfn h29 h28
      obtain ⟨hc, hf⟩ := bcell hw1
      refine runs_of ?_
      (go_simp; try go_bits)
      refine (Ho0.out _).mono ?_; rintro e w3 ⟨rfl, hb2⟩; refine ⟨_, rfl, hb2, ?_⟩; refine fact_rfl
    refine stepsR_cons ?_ ?_
    · intro w1 hw1 ρ hcst hfn h28
      refine runs_of ?_
      (go_simp; try go_bits)
      refine ⟨later_refl _, ?_⟩; refine fact_rfl
    refine stepsR_cons ?_ ?_
    · intro w1 hw1 ρ hcst hfn h31 h28
      obtain ⟨hc, hf⟩ := bcell hw1
      refine runs_of ?_
      (go_simp; try go_bits)
      refine (Ho1.out _).mono ?_; rintro e w3 ⟨rfl, hb2⟩; refine ⟨_, rfl, hb2, ?_⟩; refine fact_rfl
    refine stepsR_cons ?_ ?_
    · intro w1 hw1 ρ hcst hfn h30 h32 h28
      refine runs_of ?_
      (go_simp; try go_bits)
      refine ⟨later_refl _, ?_⟩; refine fact_rfl
    refine stepsR_cons ?_ ?_
    · intro w1 hw1 ρ hcst hfn h28 h33
      refine runs_of ?_
      (go_simp; try go_bits)
      refine ⟨later_refl _, ?_⟩; refine fact_rfl
    refine stepsR_cons ?_ ?_
    · intro w1 hw1 ρ hcst hfn h34
      refine runs_of ?_
      (go_simp; try go_bits)
      refine ⟨later_refl _, ?_⟩; refine fact_rfl
    refine stepsR_cons ?_ ?_
    · intro w1 hw1 ρ hcst hfn h35
      obtain ⟨hc, hf⟩ := bcell hw1
      refine runs_of ?_
      (go_simp; try go_bits)
      refine (Hs1.out _).mono ?_; rintro e w3 ⟨rfl, rfl⟩; refine ⟨_, rfl, later_refl _, ?_⟩; refine fact_rfl
    refine stepsR_cons ?_ ?_
    · intro w1 hw1 ρ hcst hfn h36 h35
      refine runs_of ?_
      (go_simp; try go_bits)
      refine ⟨later_refl _, ?_⟩; refine fact_rfl
    refine stepsR_cons ?_ ?_
    · intro w1 hw1 ρ hcst hfn h35 h37
      refine runs_of ?_
      (go_simp; try go_bits)
      refine ⟨later_refl _, ?_⟩; refine fact_rfl
    refine stepsR_cons ?_ ?_
    · intro w1 hw1 ρ hcst hfn h38
      refine runs_of ?_
      (go_simp; try go_bits)
      refine ⟨later_refl _, ?_⟩; refine fact_rfl
    refine stepsR_cons ?_ ?_
    · intro w1 hw1 ρ hcst hfn h39
      obtain ⟨hc, hf⟩ := bcell hw1
      refine runs_of ?_
      (go_simp; try go_bits)
      refine (Hs2.out _).mono ?_; rintro e w3 ⟨rfl, rfl⟩; refine ⟨_, rfl, later_refl _, ?_⟩; refine fact_rfl
    refine stepsR_cons ?_ ?_
    · intro w1 hw1 ρ hcst hfn h40 h39
      refine runs_of ?_
      (go_simp; try go_bits)
      refine ⟨later_refl _, ?_⟩; refine fact_rfl
    refine stepsR_cons ?_ ?_
    · intro w1 hw1 ρ hcst hfn h39 h41
      refine runs_of ?_
      (go_simp; try go_bits)
      refine ⟨later_refl _, ?_⟩; refine fact_rfl
    refine stepsR_cons ?_ ?_
    · intro w1 hw1 ρ hcst hfn h42
      refine runs_of ?_
      (go_simp; try go_bits)
      refine ⟨later_refl _, ?_⟩; refine fact_rfl
    refine stepsR_cons ?_ ?_
    · intro w1 hw1 ρ hcst hfn h43
      obtain ⟨hc, hf⟩ := bcell hw1
      refine runs_of ?_
      (go_simp; try go_bits)
      refine (Hs3.out _).mono ?_; rintro e w3 ⟨rfl, rfl⟩; refine ⟨_, rfl, later_refl _, ?_⟩; refine fact_rfl
    refine stepsR_cons ?_ ?_
    · intro w1 hw1 ρ hcst hfn h44 h43
      refine runs_of ?_
      (go_simp; try go_bits)
      refine ⟨later_refl _, ?_⟩; refine fact_rfl
    refine stepsR_cons ?_ ?_
    · intro w1 hw1 ρ hcst hfn h43 h45
      refine runs_of ?_
      (go_simp; try go_bits)
      refine ⟨later_refl _, ?_⟩; refine fact_rfl
    refine stepsR_cons ?_ ?_
    · intro w1 hw1 ρ hcst hfn h46
      refine runs_of ?_
      (go_simp; try go_bits)
      refine ⟨later_refl _, ?_⟩; refine fact_rfl
    refine stepsR_cons ?_ ?_
    · intro w1 hw1 ρ hcst hfn h47
      refine runs_of ?_
      (go_simp; try go_bits)
      refine ⟨later_refl _, ?_⟩; refine fact_rfl
    refine stepsR_cons ?_ ?_
    · intro w1 hw1 ρ hcst hfn h48 h47
      obtain ⟨hc, hf⟩ := bcell hw1
      refine runs_of ?_
      (go_simp; try go_bits)
      refine (Hpn.out _ (by omega)).mono ?_; rintro e w3 ⟨rfl, hb2⟩; refine ⟨_, rfl, hb2, ?_⟩; refine fact_rfl
    refine stepsR_cons ?_ ?_
    · intro w1 hw1 ρ hcst hfn h49 h47
      obtain ⟨hc, hf⟩ := bcell hw1
      refine runs_of ?_
      (go_simp; try go_bits)
      refine ⟨later_refl _, ?_⟩; refine fact_rfl
    refine stepsR_cons ?_ ?_
    · intro w1 hw1 ρ hcst hfn h50 h47
      refine runs_of ?_
      (go_simp; try go_bits)
      refine ⟨later_refl _, ?_⟩; refine fact_rfl
    refine stepsR_cons ?_ ?_
    · intro w1 hw1 ρ hcst hfn h47 h51
      refine runs_of ?_
      (go_simp; try go_bits)
      refine ⟨later_refl _, ?_⟩; refine fact_rfl
    refine stepsR_cons ?_ ?_
    · intro w1 hw1 ρ hcst hfn h52
      refine runs_of ?_
      (go_simp; try go_bits)
      refine ⟨later_refl _, ?_⟩; refine fact_rfl
    exact stepsR_nil
  case fin =>
    intro w2 hw2 g g2 g3 g0
    simp only [withSrcG, g2, g3, g0]
    clear g2 g3 g0
    go_wp2
    go_ret
    exact ⟨rfl, hw1.trans (hw2.mono hw1.size)⟩

/-- a path, whatever the number of slots -/
def pathOf (ks : List Int) (s : Int) : List Int := if 1 ≤ s ∧ s ≤ 4000 then pathL (hashOf ks) s s.toNat else []
theorem says_nil {w w' : World} (hl : Later w w') : PathSays [] w (.returned (.slice none 0 0)) w' := ⟨_, rfl, ⟨none, 0, rfl, by simp, by omega, .inl rfl⟩, hl⟩
theorem hpath_all (k0 k1 k2 k3 s : Int) (w : World) : Calls Try.prog 13 #[four k0 k1 k2 k3, .int .i64 s] w (PathSays (pathOf [k0, k1, k2, k3] s) w) := by
  unfold pathOf
  by_cases h : 1 ≤ s ∧ s ≤ 4000
  · rw [if_pos h]; exact hpath_any k0 k1 k2 k3 s w h.1 h.2
  · rw [if_neg h]; exact (hpath_none k0 k1 k2 k3 s w (by omega)).mono fun e w' ⟨he, hl⟩ => by rw [he]; exact says_nil hl
theorem rpath_all (k0 k1 k2 k3 s : Int) (w : World) : Calls Try.prog 14 #[four k0 k1 k2 k3, .int .i64 s] w (PathSays (pathOf [k0, k1, k2, k3] s) w) := by
  unfold pathOf
  by_cases h : 1 ≤ s ∧ s ≤ 4000
  · rw [if_pos h]; exact rpath_any k0 k1 k2 k3 s w h.1 h.2
  · rw [if_neg h]; exact rpath_none k0 k1 k2 k3 s w (by omega)
theorem ints_same (va vb : Value) (xs : List Int) (w : World) (ha : Ints w va xs) (hb : Ints w vb xs) :
    Calls Try.prog 12 #[va, vb] w fun e w' => e = .returned (.bool true) ∧ Later w w' :=
  (ints_any va vb xs xs w ha hb).mono fun e w' ⟨he, hl⟩ => ⟨by rw [he]; simp, hl⟩

end Go.Proofs.Ytkflllendbgdaaa
