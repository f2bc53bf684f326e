/- The document's own answer: Text. -/
import Derived.Test.YtdddkoacolglkaaDoorMN
import Derived.Laws.BytesString
namespace Go.Proofs.YtdddkoacolglkaaDoor.Ab
open Go Go.RowKit
set_option maxRecDepth 100000 in
theorem conv_one (w : World) (d : Nat) (hd : d < 10) : (convert 40 9 (.slice (some ⟨w.heap.size, 0, none⟩) 1 1)).run Tryd.prog (w.alloc (.cells #[.int .u8 (48 + (d : Int))] 5)) = .ok (.string ⟨#[UInt8.ofNat (48 + d)]⟩) (w.alloc (.cells #[.int .u8 (48 + (d : Int))] 5)) := by
  rw [run_convert_bytes_string _ _ _ 5 _ _ _ Tryd.underlying40 Tryd.underlying5 Tryd.underlying9, run_bytesToString _ _ 1 1 [48 + (d : Int)]]
  · show Result.ok (Value.string (ByteArray.empty.push (UInt8.ofNat (48 + (d : Int)).toNat))) _ = _
    rw [show (48 + (d : Int)).toNat = 48 + d by omega]
    rfl
  · refine run_loadCells_list _ _ [.int .u8 (48 + (d : Int))] fun j v hj => ?_
    rcases j with _ | j
    · cases hj
      show (w.alloc _).cell? ⟨w.heap.size, 0 + 0, none⟩ = _
      rw [World.cell?_alloc_at _ _ _ _ rfl]
      rfl
    · simp at hj
theorem ba_app (a b : List UInt8) : (⟨a.toArray⟩ : ByteArray) ++ ⟨b.toArray⟩ = ⟨(a ++ b).toArray⟩ := by
  apply ByteArray.ext
  simp
set_option maxRecDepth 1000000 in
set_option maxHeartbeats 4000000 in
theorem reftext_walk (u : Nat) : u ≤ 4611686018427387903 → ∀ w : World, Calls Tryd.prog 11 #[.int .i64 u] w fun e w' => e = .returned (.string ⟨(Lib.decDigits u).toArray⟩) ∧ Below w.heap.size w w' := by
  induction u using Nat.strongRecOn with
  | _ u ih =>
    intro hu w
    have hcv := conv_one w (u % 10) (Nat.mod_lt _ (by decide))
    rw [show ((u % 10 : Nat) : Int) = (u : Int) % 10 by omega] at hcv
    obtain ⟨c, hc⟩ : ∃ c : UInt8, UInt8.ofNat (48 + u % 10) = c := ⟨_, rfl⟩
    have hc2 : Lib.decDigits (u % 10) = [c] := by rw [dd_small (Nat.mod_lt _ (by decide)), hc]
    rw [hc] at hcv
    clear hc
    have hb0 : Below w.heap.size w (w.alloc (.cells #[.int .u8 (48 + (u : Int) % 10)] 5)) := (Below.refl _ w).alloc (Nat.le_refl _) _
    by_cases h : u < 10
    · have hmm := Nat.mod_eq_of_lt h
      rw [hmm] at hc2
      have h1 : ¬ (u : Int) < 0 := by omega
      have h2 : (u : Int) ≤ 4611686018427387903 := by omega
      have h3 : (u : Int) < 10 := by omega
      go_enter Tryd.func11, Tryd.ntmps11
      go_wp2
      go_ret
      refine ⟨?_, hb0⟩
      first | rfl | (rw [hc2]; rfl)
    · have h1 : ¬ (u : Int) < 0 := by omega
      have h2 : (u : Int) ≤ 4611686018427387903 := by omega
      have h3 : ¬ (u : Int) < 10 := by omega
      have ih' := ih (u / 10) (by omega) (by omega)
      rw [show ((u / 10 : Nat) : Int) = (u : Int) / 10 by omega] at ih'
      have hlen := dd_short 18 (u / 10) (by omega)
      go_enter Tryd.func11, Tryd.ntmps11
      go_wp2_with (go_at_call 11; refine (ih' _).mono ?_; rintro e w' ⟨rfl, hb⟩)
      all_goals first
        | (exfalso; omega)
        | (go_ret
           refine ⟨?_, hb0.trans (hb.mono hb0.size)⟩
           rw [dd_big h, ← dd_small (Nat.mod_lt u (by decide)), hc2, ← ba_app]
           first | done | rfl)
end Go.Proofs.YtdddkoacolglkaaDoor.Ab
