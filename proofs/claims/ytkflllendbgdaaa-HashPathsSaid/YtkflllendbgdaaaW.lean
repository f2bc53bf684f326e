/- Walks of the hash functions. -/
import Derived.Test.YtkflllendbgdaaaRows
import Derived.Test.YtkflllendbgdaaaH
import Derived.Test.YtkflllendbgdaaaR
import Derived.WalkKit
import Derived.WalkSpells
import Derived.WalkLawsBesides
import Derived.Deep.RegionHeld3
import Derived.Deep.QuietTactic
import Derived.BigQuiet
import Derived.Lib.Hide
namespace Go.Proofs.Ytkflllendbgdaaa
open Go.RowKit

/-- which of n things a raw number speaks of -/
def pick (c n : Int) : Int := (if c < 0 then -(c + 1) else c) % n
theorem pick_bd (c n : Int) (hn : 0 < n) : 0 ≤ pick c n ∧ pick c n < n := by
  unfold pick; exact ⟨Int.emod_nonneg _ (by omega), Int.emod_lt_of_pos _ hn⟩
theorem ret_int {k : IntKind} {a b : Int} (h : a = b) : Ending.returned (.int k a) = .returned (.int k b) := by rw [h]
theorem tmod_pos (a n : Int) (h : 0 ≤ a) : a.tmod n = a % n := Int.tmod_eq_emod_of_nonneg h
abbrev Later (w w' : World) : Prop := Below w.heap.size w w'
theorem later_trans (a b c : World) (h : Later a b) (k : Later b c) : Later a c := h.trans (k.mono h.size)
theorem later_drew (w : World) : Later w w.drew := (Below.refl _ _).drew
theorem later_refl (w : World) : Later w w := Below.refl _ _
theorem later_alloc (w : World) (o : Obj) : Later w (w.alloc o) := (Below.refl _ _).alloc (Nat.le_refl _) _
/-- what was there in w0 is there still -/
abbrev S0 (w0 w' : World) : Prop := (∀ b o, b < w0.heap.size → w'.cell? ⟨b, o, none⟩ = w0.cell? ⟨b, o, none⟩) ∧ Below w0.heap.size w0 w'
theorem s0_of {w0 w' : World} (h : Below w0.heap.size w0 w') : S0 w0 w' := ⟨fun b o hb => h.cell (p := ⟨b, o, none⟩) hb, h⟩
theorem s0_drew (w : World) : S0 w w.drew := s0_of ((Below.refl _ _).drew)
theorem s0_after {w0 w' : World} (h : Below w0.drew.heap.size w0.drew w') (o : Obj) : S0 w0 (w'.alloc o) :=
  s0_of ((((Below.refl _ _).drew).trans h).alloc h.size o)
theorem keepS {w0 a b : World} (h : S0 w0 a) (hb : Below a.heap.size a b) : S0 w0 b := s0_of (h.2.trans (hb.mono h.2.size))
theorem bcell {w W1 : World} {B : Nat} (hb : Below B w W1) : (∀ b o, b < B → W1.cell? ⟨b, o, none⟩ = w.cell? ⟨b, o, none⟩) ∧ (∀ b o, b < B → W1.frozen? ⟨b, o, none⟩ = w.frozen? ⟨b, o, none⟩) :=
  ⟨fun b o h => hb.cell (p := ⟨b, o, none⟩) h, fun b o h => hb.frozen (p := ⟨b, o, none⟩) h⟩

set_option maxHeartbeats 400000 in
theorem pick_any (c n : Int) (w : World) (hc0 : -9223372036854775808 ≤ c) (hc1 : c ≤ 9223372036854775807) (hn0 : 0 < n) (hn1 : n ≤ 9223372036854775807) :
    Calls Try.prog 9 #[.int .i64 c, .int .i64 n] w fun e w' => e = .returned (.int .i64 (pick c n)) ∧ w = w' := by
  by_cases h : c < 0
  · go_enter Try.func9, Try.ntmps9
    go_wp2
    go_ret
    refine ⟨ret_int ?_, rfl⟩
    unfold pick; rw [if_pos h, ← tmod_pos _ _ (by omega), Int.neg_tmod]
  · go_enter Try.func9, Try.ntmps9
    go_wp2
    go_ret
    refine ⟨ret_int ?_, rfl⟩
    unfold pick; rw [if_neg (by omega)]

def inB (n : Int) : Bool := decide (0 ≤ n ∧ n ≤ 2147483647)
set_option maxHeartbeats 400000 in
theorem in_any (n : Int) (w : World) :
    Calls Try.prog 17 #[.int .i64 n] w fun e w' => e = .returned (.bool (inB n)) ∧ w = w' := by
  by_cases h : 0 ≤ n
  · go_enter Try.func17, Try.ntmps17
    go_wp2
    go_ret
    refine ⟨?_, rfl⟩
    simp [inB, h]
  · have h2 : ¬ (0 ≤ n ∧ n ≤ 2147483647) := by omega
    go_enter Try.func17, Try.ntmps17
    go_wp2
    go_ret
    refine ⟨?_, rfl⟩
    unfold inB; rw [decide_eq_false h2]; rfl

def slotOf (h i s : Int) : Int := if s < 1 ∨ ¬ (0 ≤ h ∧ h ≤ 2147483647) ∨ ¬ (0 ≤ i ∧ i ≤ 2147483647) then 0 else (h + i) % s
theorem slotOf_in {h i s : Int} (hs : 1 ≤ s) (h0 : 0 ≤ h) (h1 : h ≤ 2147483647) (i0 : 0 ≤ i) (i1 : i ≤ 2147483647) : slotOf h i s = (h + i) % s := by
  unfold slotOf; rw [if_neg (by omega)]
set_option maxHeartbeats 800000 in
theorem slot_any (h i s : Int) (w : World) :
    Calls Try.prog 10 #[.int .i64 h, .int .i64 i, .int .i64 s] w fun e w' => e = .returned (.int .i64 (slotOf h i s)) ∧ w = w' := by
  by_cases hs : s < 1
  · go_enter Try.func10, Try.ntmps10
    go_wp2
    go_ret
    exact ⟨ret_int (by unfold slotOf; rw [if_pos (by omega)]), rfl⟩
  · by_cases hh : 0 ≤ h ∧ h ≤ 2147483647
    · have hh' : inB h = true := by unfold inB; exact decide_eq_true hh
      by_cases hi : 0 ≤ i ∧ i ≤ 2147483647
      · have hi' : inB i = true := by unfold inB; exact decide_eq_true hi
        obtain ⟨h0, h1⟩ := hh
        obtain ⟨i0, i1⟩ := hi
        go_enter Try.func10, Try.ntmps10
        go_wp2_with (go_at_call 17; refine (in_any _ _).mono ?_; rintro e w' ⟨rfl, rfl⟩)
        go_ret
        refine ⟨ret_int ?_, rfl⟩
        rw [slotOf_in (by omega) h0 h1 i0 i1]
      · have hi' : inB i = false := by unfold inB; exact decide_eq_false hi
        have e : slotOf h i s = 0 := by unfold slotOf; rw [if_pos (by omega)]
        rw [e]
        clear hi hh hs e
        go_enter Try.func10, Try.ntmps10
        go_wp2_with (go_at_call 17; refine (in_any _ _).mono ?_; rintro e w' ⟨rfl, rfl⟩)
        all_goals (go_ret; exact ⟨rfl, rfl⟩)
    · have hh' : inB h = false := by unfold inB; exact decide_eq_false hh
      have e : slotOf h i s = 0 := by unfold slotOf; rw [if_pos (by omega)]
      rw [e]
      clear hh hs e
      go_enter Try.func10, Try.ntmps10
      go_wp2_with (go_at_call 17; refine (in_any _ _).mono ?_; rintro e w' ⟨rfl, rfl⟩)
      all_goals (go_ret; exact ⟨rfl, rfl⟩)

set_option maxHeartbeats 800000 in
theorem rslot_any (h i s : Int) (w : World) :
    Calls Try.prog 11 #[.int .i64 h, .int .i64 i, .int .i64 s] w fun e w' => e = .returned (.int .i64 (slotOf h i s)) ∧ w = w' := by
  by_cases hs : s < 1
  · go_enter Try.func11, Try.ntmps11
    go_wp2
    go_ret
    exact ⟨ret_int (by unfold slotOf; rw [if_pos (by omega)]), rfl⟩
  · by_cases hh : 0 ≤ h ∧ h < 2147483648 ∧ 0 ≤ i ∧ i < 2147483648
    · obtain ⟨h0, h1, i0, i1⟩ := hh
      have e : slotOf h i s = (h + i) % s := slotOf_in (by omega) (by omega) (by omega) (by omega) (by omega)
      rw [e]; clear e
      go_enter Try.func11, Try.ntmps11
      go_wp2
      go_ret
      exact ⟨rfl, rfl⟩
    · have e : slotOf h i s = 0 := by unfold slotOf; rw [if_pos (by omega)]
      rw [e]; clear e
      by_cases a : h < 0
      · clear hh
        go_enter Try.func11, Try.ntmps11
        go_wp2
        go_ret
        exact ⟨rfl, rfl⟩
      · by_cases b : 2147483648 ≤ h
        · clear hh
          go_enter Try.func11, Try.ntmps11
          go_wp2
          go_ret
          exact ⟨rfl, rfl⟩
        · by_cases c : i < 0
          · clear hh
            go_enter Try.func11, Try.ntmps11
            go_wp2
            go_ret
            exact ⟨rfl, rfl⟩
          · have d : 2147483648 ≤ i := by omega
            clear hh
            go_enter Try.func11, Try.ntmps11
            go_wp2
            go_ret
            exact ⟨rfl, rfl⟩

/-- four numbers as a value -/
abbrev four (k0 k1 k2 k3 : Int) : Value := .agg #[.int .i64 k0, .int .i64 k1, .int .i64 k2, .int .i64 k3]
abbrev fourCells (k0 k1 k2 k3 : Int) : Obj := .cells #[.int .i64 k0, .int .i64 k1, .int .i64 k2, .int .i64 k3] 22

theorem hs_and {h k : Int} (h0 : 0 ≤ h) (h1 : h < 2147483648) {v : Value} (hv : v = .int .i64 (bits .and .i64 (wrap64 (bits .xor .i64 h (bits .and .i64 k 2147483647) * 16777619)) 2147483647)) : v = .int .i64 (hstep h k) := by
  rw [hv, hstep_and h k h0 h1]
theorem hs_rem {h k : Int} (h0 : 0 ≤ h) (h1 : h < 2147483648) {v : Value} (hv : v = .int .i64 ((wrap64 (bits .xor .i64 h (bits .and .i64 k 2147483647) * 16777619)).tmod 2147483648)) : v = .int .i64 (hstep h k) := by
  rw [hv, hstep_rem h k h0 h1]
theorem fin_eq {h : Int} (h0 : 0 ≤ h) (h1 : h < 2147483648) {ks : List Int} (e : [].foldl hstep h = ks.foldl hstep 17) : bits .xor .i64 h (h / 32768) = hashOf ks := by
  rw [hfin_eq h h0 h1]; unfold hashOf; rw [← e]; rfl

theorem fold_step {ks : List Int} {k : Nat} {h x r : Int} (hf : Hid ((ks.drop k).foldl hstep h = r)) (hx : ks.drop k = x :: ks.drop (k + 1)) : Hid ((ks.drop (k + 1)).foldl hstep (hstep h x) = r) := by
  have e := hf.out
  rw [hx, List.foldl_cons] at e
  exact e

set_option maxHeartbeats 800000 in
theorem of_any (k0 k1 k2 k3 : Int) (w : World) :
    Calls Try.prog 15 #[four k0 k1 k2 k3] w fun e w' => e = .returned (.int .i64 (hashOf [k0, k1, k2, k3])) ∧ Below w.heap.size w w' := by
  have i0 : ∀ w : World, (Instr.index 22 (four k0 k1 k2 k3) (.int .i64 0)).run Try.prog w = .ok (.int .i64 k0) w := fun _ => by kernel_rfl
  have i1 : ∀ w : World, (Instr.index 22 (four k0 k1 k2 k3) (.int .i64 1)).run Try.prog w = .ok (.int .i64 k1) w := fun _ => by kernel_rfl
  have i2 : ∀ w : World, (Instr.index 22 (four k0 k1 k2 k3) (.int .i64 2)).run Try.prog w = .ok (.int .i64 k2) w := fun _ => by kernel_rfl
  have i3 : ∀ w : World, (Instr.index 22 (four k0 k1 k2 k3) (.int .i64 3)).run Try.prog w = .ok (.int .i64 k3) w := fun _ => by kernel_rfl
  go_enter Try.func15, Try.ntmps15
  go_wp2
  go_loop [3, 7] (fun t i => ∃ (k : Nat) (h : Int), k ≤ 4 ∧ i = .int .i64 k ∧ t = .int .i64 h ∧ 0 ≤ h ∧ h < 2147483648 ∧ Hid (([k0, k1, k2, k3].drop k).foldl hstep h = [k0, k1, k2, k3].foldl hstep 17)) (fun _ i => 4 - (intOf i).toNat)
  case atStart => exact ⟨0, 17, by omega, rfl, rfl, by omega, by omega, rfl⟩
  case round =>
    obtain ⟨k, h, hk, rfl, rfl, h0, h1, hf⟩ := hrel
    have hd := hstep_bd h
    obtain rfl | rfl | rfl | rfl | rfl : k = 0 ∨ k = 1 ∨ k = 2 ∨ k = 3 ∨ k = 4 := by omega
    · clear hd; go_wp2
      go_round
      case rel => exact ⟨1, hstep h k0, by omega, by go_num, hs_and h0 h1 rfl, (hstep_bd _ _).1, (hstep_bd _ _).2, fold_step hf rfl⟩
      case measure => simp [intOf]
    · clear hd; go_wp2
      go_round
      case rel => exact ⟨2, hstep h k1, by omega, by go_num, hs_and h0 h1 rfl, (hstep_bd _ _).1, (hstep_bd _ _).2, fold_step hf rfl⟩
      case measure => simp [intOf]
    · clear hd; go_wp2
      go_round
      case rel => exact ⟨3, hstep h k2, by omega, by go_num, hs_and h0 h1 rfl, (hstep_bd _ _).1, (hstep_bd _ _).2, fold_step hf rfl⟩
      case measure => simp [intOf]
    · clear hd; go_wp2
      go_round
      case rel => exact ⟨4, hstep h k3, by omega, by go_num, hs_and h0 h1 rfl, (hstep_bd _ _).1, (hstep_bd _ _).2, fold_step hf rfl⟩
      case measure => simp [intOf]
    · clear hd; go_wp2
      go_ret
      exact ⟨ret_int (fin_eq h0 h1 hf), (Below.refl _ _).alloc (Nat.le_refl _) _⟩

set_option maxHeartbeats 800000 in
theorem rof_any (k0 k1 k2 k3 : Int) (w : World) :
    Calls Try.prog 16 #[four k0 k1 k2 k3] w fun e w' => e = .returned (.int .i64 (hashOf [k0, k1, k2, k3])) ∧ Below w.heap.size w w' := by
  go_enter Try.func16, Try.ntmps16
  go_wp2
  go_loop [3, 4] (fun t i => ∃ (k : Nat) (h : Int), k ≤ 4 ∧ i = .int .i64 k ∧ t = .int .i64 h ∧ 0 ≤ h ∧ h < 2147483648 ∧ Hid (([k0, k1, k2, k3].drop k).foldl hstep h = [k0, k1, k2, k3].foldl hstep 17)) (fun _ i => 4 - (intOf i).toNat)
  case atStart => exact ⟨0, 17, by omega, rfl, rfl, by omega, by omega, rfl⟩
  case round =>
    obtain ⟨k, h, hk, rfl, rfl, h0, h1, hf⟩ := hrel
    obtain rfl | rfl | rfl | rfl | rfl : k = 0 ∨ k = 1 ∨ k = 2 ∨ k = 3 ∨ k = 4 := by omega
    · go_wp2
      go_round
      case rel => exact ⟨1, hstep h k0, by omega, by go_num, hs_rem h0 h1 rfl, (hstep_bd _ _).1, (hstep_bd _ _).2, fold_step hf rfl⟩
      case measure => simp [intOf]
    · go_wp2
      go_round
      case rel => exact ⟨2, hstep h k1, by omega, by go_num, hs_rem h0 h1 rfl, (hstep_bd _ _).1, (hstep_bd _ _).2, fold_step hf rfl⟩
      case measure => simp [intOf]
    · go_wp2
      go_round
      case rel => exact ⟨3, hstep h k2, by omega, by go_num, hs_rem h0 h1 rfl, (hstep_bd _ _).1, (hstep_bd _ _).2, fold_step hf rfl⟩
      case measure => simp [intOf]
    · go_wp2
      go_round
      case rel => exact ⟨4, hstep h k3, by omega, by go_num, hs_rem h0 h1 rfl, (hstep_bd _ _).1, (hstep_bd _ _).2, fold_step hf rfl⟩
      case measure => simp [intOf]
    · go_wp2
      go_ret
      exact ⟨ret_int (fin_eq h0 h1 hf), (Below.refl _ _).alloc (Nat.le_refl _) _⟩

/-- where the next one is -/
def turn (at_ s : Int) : Int := if at_ + 1 = s then 0 else at_ + 1

theorem setCell_twice (w : World) (b o : Nat) (v v' : Value) : (w.setCell ⟨b, o, none⟩ v).setCell ⟨b, o, none⟩ v' = w.setCell ⟨b, o, none⟩ v' := by
  simp only [World.setCell]
  congr 1
  apply Array.ext_getElem?
  intro i
  simp only [Array.getElem?_modify]
  split
  · cases w.heap[i]? with
    | none => rfl
    | some x => cases x <;> simp
  · rfl
theorem grown_setCell (w : World) (b o : Nat) (v : Value) : w.grownBy (w.setCell ⟨b, o, none⟩ v) (some b) :=
  ⟨rfl, rfl, rfl, by simp [World.setCell], fun k _ hk => Below.heap_setCell _ _ _ _ (by intro e; subst e; exact hk rfl)⟩
abbrev one (n : Int) : Obj := .cells #[.int .i64 n] 3 (0, 0)
set_option maxHeartbeats 800000 in
theorem next_any (bA bS : Nat) (at_ s : Int) (w : World) (hA : w.heap[bA]? = some (one at_)) (hS : w.heap[bS]? = some (one s))
    (hne : bA ≠ bS) (h0 : 0 ≤ at_) (h1 : at_ ≤ 4000) (s1 : s ≤ 4000) :
    Calls Try.prog 19 #[.pointer (some ⟨bA, 0, none⟩), .pointer (some ⟨bS, 0, none⟩)] w fun e w' => e = .returned (.int .i64 at_) ∧ w'.heap[bA]? = some (one (turn at_ s)) ∧ w.grownBy w' (some bA) := by
  suffices h : Calls Try.prog 19 #[.pointer (some ⟨bA, 0, none⟩), .pointer (some ⟨bS, 0, none⟩)] w fun e w' => e = .returned (.int .i64 at_) ∧ w' = w.setCell ⟨bA, 0, none⟩ (.int .i64 (turn at_ s)) by
    refine h.mono fun e w' ⟨he, hw⟩ => ⟨he, ?_, ?_⟩
    · rw [hw]; exact one_setCell hA
    · rw [hw]; exact grown_setCell _ _ _ _
  have hS' : ∀ v, (w.setCell ⟨bA, 0, none⟩ v).cell? ⟨bS, 0, none⟩ = some (.int .i64 s) := fun v => by
    rw [World.cell?_of_block (w := w) (Below.heap_setCell _ _ _ _ (by simpa using hne.symm))]; exact cell_of_one hS
  have hcA := cell_of_one hA
  have hcS := cell_of_one hS
  have hf := free_of_one hA
  clear hA hS
  by_cases ht : at_ + 1 = s
  · have e : turn at_ s = 0 := by unfold turn; rw [if_pos ht]
    have ht' : ((at_ + 1 : Int) == s) = true := by rw [beq_iff_eq]; exact ht
    rw [e]; clear e ht
    go_enter Try.func19, Try.ntmps19
    go_wp2
    go_ret
    exact ⟨rfl, setCell_twice _ _ _ _ _⟩
  · have e : turn at_ s = at_ + 1 := by unfold turn; rw [if_neg ht]
    have ht' : ((at_ + 1 : Int) == s) = false := by rw [beq_eq_false_iff_ne]; exact ht
    rw [e]; clear e ht
    go_enter Try.func19, Try.ntmps19
    go_wp2
    go_ret
    exact ⟨rfl, rfl⟩

/-- a function value that tells the next slot -/
def IsNext (s at_ : Int) (base : Nat) (v : Value) (w : World) : Prop :=
  ∃ bA bS, v = .func (.func 19) #[] #[.pointer (some ⟨bA, 0, none⟩), .pointer (some ⟨bS, 0, none⟩)] ∧ bA ≠ bS ∧ base ≤ bA ∧ base ≤ bS ∧ w.heap[bA]? = some (one at_) ∧ w.heap[bS]? = some (one s)

def IsNew (base : Nat) (c : Int) (v : Value) (w : World) : Prop := ∃ b, v = .pointer (some ⟨b, 0, none⟩) ∧ base ≤ b ∧ w.heap[b]? = some (one c)
theorem isNew_up (base : Nat) (c : Int) (v : Value) (w w' : World) (h : IsNew base c v w) (hl : Later w w') : IsNew base c v w' := by
  obtain ⟨b, hv, hb, hc⟩ := h
  exact ⟨b, hv, hb, by rw [hl.block b (lt_of_block hc)]; exact hc⟩
def PathPost (s at_ : Int) (w : World) (e : Ending) (w' : World) : Prop := ∃ v, e = .returned v ∧ IsNext s at_ w.heap.size v w' ∧ Below w.heap.size w w'
set_option maxHeartbeats 800000 in
theorem path_any (k0 k1 k2 k3 s : Int) (w : World) (s0 : 1 ≤ s) (s1 : s ≤ 4000) :
    Calls Try.prog 18 #[four k0 k1 k2 k3, .int .i64 s] w (PathPost s (hashOf [k0, k1, k2, k3] % s) w) := by
  have hb := hashOf_bd [k0, k1, k2, k3]
  have hsl : slotOf (hashOf [k0, k1, k2, k3]) 0 s = hashOf [k0, k1, k2, k3] % s := by
    rw [slotOf_in s0 hb.1 (by omega) (by omega) (by omega), Int.add_zero]
  have hof := fun w => of_any k0 k1 k2 k3 w
  generalize hashOf [k0, k1, k2, k3] = h at *
  have Hof := Lib.hid hof
  have Hsl := Lib.hid hsl
  clear hof hsl
  have hmf : ∀ (fn : Fn) (first cap : Array Value) (w : World), (Instr.makeFunc fn first cap).run Try.prog w = .ok (.func fn first cap) w := fun _ _ _ _ => rfl
  go_enter Try.func18, Try.ntmps18
  go_wp2_with fail
  refine' wp_region_gt (E := Later) (.eq _ :: .eq _ :: .eq _ :: .eq _ :: .is (IsNew (w.heap.size + 2) 0) (isNew_up _ _) :: []) 5 _ (by kernel_rfl) later_trans (later_drew _) rfl (by kernel_rfl) (by kernel_rfl) rfl [2, 3] _ ?vals (⟨[(0, 2)], [], none⟩ :: ⟨[], [(0, 6)], none⟩ :: ⟨[(1, 3)], [], none⟩ :: ⟨[], [(1, 7), (2, 8)], none⟩ :: ⟨[], [], none⟩ :: []) (by kernel_rfl) [0, 1, 3, 4, 10] _ ?vlb [(4, 5), (3, 9)] (by kernel_rfl) (fun g => g 0 :: g 1 :: g 2 :: g 3 :: g 4 :: g 5 :: g 6 :: g 7 :: g 8 :: g 9 :: g 10 :: []) (fun _ => rfl) ?steps ?fin
  case vlb => (simp only [List.map_cons, List.map_nil, Array.getD_eq_getD_getElem?, List.getElem?_toArray, List.getElem?_cons_zero, List.getElem?_cons_succ, Option.getD_some]; rfl)
  case vals => (simp only [List.map_cons, List.map_nil, Array.getD_eq_getD_getElem?, List.getElem?_toArray, List.getElem?_cons_zero, List.getElem?_cons_succ, Option.getD_some]; rfl)
  case steps =>
    refine stepsR_cons ?_ ?_
    · intro w1 hw1 ρ hcst hfn h2
      obtain ⟨hc, hf⟩ := bcell hw1
      refine runs_of ?_
      (go_simp; try go_bits)
      refine ⟨later_refl _, ?_⟩; refine fact_rfl
    refine stepsR_cons ?_ ?_
    · intro w1 hw1 ρ hcst hfn h6
      obtain ⟨hc, hf⟩ := bcell hw1
      refine runs_of ?_
      (go_simp; try go_bits)
      refine (Hof.out _).mono ?_; rintro e w2 ⟨rfl, hb2⟩; refine ⟨_, rfl, hb2, ?_⟩; refine fact_rfl
    refine stepsR_cons ?_ ?_
    · intro w1 hw1 ρ hcst hfn h3
      obtain ⟨hc, hf⟩ := bcell hw1
      refine runs_of ?_
      (go_simp; try go_bits)
      refine ⟨later_refl _, ?_⟩; refine fact_rfl
    refine stepsR_cons ?_ ?_
    · intro w1 hw1 ρ hcst hfn h7 h8
      obtain ⟨hc, hf⟩ := bcell hw1
      refine runs_of ?_
      (go_simp; try go_bits)
      refine (slot_any _ _ _ _).mono ?_; rintro e w2 ⟨rfl, rfl⟩; refine ⟨_, rfl, later_refl _, ?_⟩; refine fact_rfl
    refine stepsR_cons ?_ ?_
    · intro w1 hw1 ρ hcst hfn
      refine runs_of ?_
      (go_simp; try go_bits)
      exact ⟨later_alloc _ _, _, rfl, by have := hw1.size; simp at this; omega, heap_alloc_new _ _⟩
    exact stepsR_nil
  case fin =>
    intro w2 hw2 g g0 g1 g3 g4 g10 v4 hv4 g5 g9
    simp only [withSrcG, g0, g1, g3, g4, g10, g5, g9]
    clear g0 g1 g3 g4 g10 g5 g9
    obtain ⟨bA, rfl, hbA, hcA⟩ := hv4
    have hcA1 := cell_of_one hcA
    have hcA2 := free_of_one hcA
    have HcA := Lib.hid hcA
    have hlt := lt_of_block hcA
    clear hcA
    have hS : w2.heap[w.heap.size + 1]? = some (one s) := by
      rw [hw2.block _ (by simp)]
      have := heap_alloc_new (w.alloc (.cells #[.int .i64 k0, .int .i64 k1, .int .i64 k2, .int .i64 k3] 22)) (.cells #[.int .i64 s] 3)
      simpa using this
    have hne : w.heap.size + 1 ≠ bA := by
      omega
    have HS := Lib.hid hS
    clear hS
    go_wp2
    refine NoPanic.normal ?_
    go_wp2
    go_ret
    refine ⟨_, rfl, ⟨bA, w.heap.size + 1, rfl, hne.symm, by omega, by omega, ?_, ?_⟩, ?_⟩
    · rw [← Hsl.out]; exact one_setCell HcA.out
    · rw [Below.heap_setCell _ _ _ _ hne]; exact HS.out
    · exact (((((Below.refl _ _).alloc (Nat.le_refl _) _).alloc (by simp) _).trans (hw2.mono (by simp; omega))).setCell (by simp; omega) _)

/-- a slice that reads as a list of numbers -/
def Ints (w : World) (v : Value) (xs : List Int) : Prop :=
  ∃ a c, v = .slice a xs.length c ∧ xs.length ≤ c ∧ c ≤ 9223372036854775807 ∧
    (xs = [] ∨ ∃ b off, a = some ⟨b, off, none⟩ ∧ ∀ i, i < xs.length → w.cell? ⟨b, off + i, none⟩ = some (.int .i64 (xs.getD i 0)))
theorem ints_up (xs : List Int) (v : Value) (w w' : World) (h : Ints w v xs) (hl : Later w w') : Ints w' v xs := by
  obtain ⟨a, c, hv, hc, hm, h⟩ := h
  refine ⟨a, c, hv, hc, hm, ?_⟩
  rcases h with h | ⟨b, off, ha, h⟩
  · exact .inl h
  · refine .inr ⟨b, off, ha, fun i hi => ?_⟩
    have h1 := h i hi
    rw [hl.cell (p := ⟨b, off + i, none⟩) (World.block_lt_of_cell? w _ h1)]; exact h1

set_option maxHeartbeats 1000000 in
theorem ints_any (va vb : Value) (xs ys : List Int) (w : World) (ha : Ints w va xs) (hb : Ints w vb ys) :
    Calls Try.prog 12 #[va, vb] w fun e w' => e = .returned (.bool (decide (xs = ys))) ∧ Later w w' := by
  obtain ⟨a, c, rfl, hac, ham, ha⟩ := ha
  obtain ⟨b, d, rfl, hbd, hbm, hb⟩ := hb
  by_cases hl : xs.length = ys.length
  · rcases ha with rfl | ⟨ba, oa, rfl, ha⟩
    · have hy : ys = [] := List.eq_nil_of_length_eq_zero (by simpa using hl.symm)
      subst hy
      go_enter Try.func12, Try.ntmps12
      go_wp2
      go_loop [5] (fun i => i = .int .i64 0) (fun _ => 0)
      case atStart => rfl
      case round =>
        subst hrel
        go_wp2
        go_ret
        exact ⟨rfl, later_refl _⟩
    · rcases hb with rfl | ⟨bb, ob, rfl, hb⟩
      · have hx : xs = [] := List.eq_nil_of_length_eq_zero (by simpa using hl)
        subst hx
        go_enter Try.func12, Try.ntmps12
        go_wp2
        go_loop [5] (fun i => i = .int .i64 0) (fun _ => 0)
        case atStart => rfl
        case round =>
          subst hrel
          go_wp2
          go_ret
          exact ⟨rfl, later_refl _⟩
      · have hln : ((xs.length : Int) == (ys.length : Int)) = true := by rw [beq_iff_eq]; omega
        have Hl := Lib.hid hl
        have Ha := Lib.hid ha
        have Hb := Lib.hid hb
        clear hl ha hb
        go_enter Try.func12, Try.ntmps12
        go_wp2
        go_loopw [5] (fun i wr => ∃ k : Nat, i = .int .i64 k ∧ k ≤ xs.length ∧ Hid (xs.take k = ys.take k) ∧ Later w wr) (fun i _ => xs.length - (intOf i).toNat)
        case atStart => exact ⟨0, rfl, by omega, by simp [Hid], later_refl _⟩
        case round =>
          obtain ⟨k, rfl, hk, hx, hw⟩ := hrel
          by_cases hlt : k < xs.length
          · have hlt' : k < ys.length := by have := Hl.out; omega
            have hcx : wr.cell? ⟨ba, oa + k, none⟩ = some (.int .i64 (xs.getD k 0)) := by
              have h1 := Ha.out k hlt
              rw [hw.cell (p := ⟨ba, oa + k, none⟩) (World.block_lt_of_cell? w _ h1)]; exact h1
            have hcy : wr.cell? ⟨bb, ob + k, none⟩ = some (.int .i64 (ys.getD k 0)) := by
              have h1 := Hb.out k hlt'
              rw [hw.cell (p := ⟨bb, ob + k, none⟩) (World.block_lt_of_cell? w _ h1)]; exact h1
            by_cases hq : xs.getD k 0 = ys.getD k 0
            · have hnx : Hid (xs.take (k + 1) = ys.take (k + 1)) := by
                have e := hx.out
                unfold Hid
                rw [List.take_add_one, List.take_add_one, e]
                simp only [List.getD_eq_getElem?_getD] at hq
                rw [List.getElem?_eq_getElem hlt, List.getElem?_eq_getElem hlt'] at hq ⊢
                simp only [Option.getD_some] at hq
                rw [hq]
              generalize xs.getD k 0 = x at *
              generalize ys.getD k 0 = y at *
              have hq' : (x == y) = true := by rw [beq_iff_eq]; exact hq
              have hq2 : (x != y) = false := by rw [bne_eq_false_iff_eq]; exact hq
              clear hq hx
              go_wp2
              go_quiet (fail)
              go_wp2
              go_roundw
              case rel => exact ⟨k + 1, by go_num, by omega, hnx, hw.trans (below_drewN (Below.refl _ _) _)⟩
              case measure => simp [intOf]; omega
            · have hne : Hid (xs ≠ ys) := fun e => hq (by rw [e])
              generalize xs.getD k 0 = x at *
              generalize ys.getD k 0 = y at *
              have hq' : (x == y) = false := by rw [beq_eq_false_iff_ne]; exact hq
              have hq2 : (x != y) = true := by rw [bne_iff_ne]; exact hq
              clear hq hx
              go_wp2
              go_quiet (fail)
              go_wp2
              go_ret
              refine ⟨?_, hw.trans (below_drewN (Below.refl _ _) _)⟩
              rw [decide_eq_false hne.out]; rfl
          · have hke : k = xs.length := by omega
            have he : Hid (xs = ys) := by
              have e := hx.out
              rw [hke, List.take_length, Hl.out, List.take_length] at e
              exact e
            clear hx hke
            go_wp2
            go_ret
            refine ⟨?_, hw⟩
            rw [decide_eq_true he.out]; rfl
  · have hne : Hid (xs ≠ ys) := fun e => hl (by rw [e])
    have hln : ((xs.length : Int) == (ys.length : Int)) = false := by rw [beq_eq_false_iff_ne]; omega
    have hln2 : ((xs.length : Int) != (ys.length : Int)) = true := by rw [bne_iff_ne]; omega
    clear hl ha hb
    go_enter Try.func12, Try.ntmps12
    go_wp2
    go_ret
    refine ⟨?_, later_refl _⟩
    rw [decide_eq_false hne.out]; rfl

end Go.Proofs.Ytkflllendbgdaaa
