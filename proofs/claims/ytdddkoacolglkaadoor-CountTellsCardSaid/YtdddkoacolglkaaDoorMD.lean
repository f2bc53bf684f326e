/- count.Parse. -/
import Derived.Test.YtdddkoacolglkaaDoorMC
import Derived.Laws.RangeString
import Derived.Laws.RangeAny
import Derived.LoopTactic
import Derived.Lib.Strings
namespace Go.Proofs.YtdddkoacolglkaaDoor.Ab
open Go Go.RowKit
/-- what Parse finds in the rest of a text -/
def parseL : List UInt8 → Nat → Int → Bool → Int × Int
  | [], i, n, big => if i = 0 then (0, 20) else if big = true then (0, 21) else (n, 0)
  | c :: cs, i, n, big => if c.toNat < 48 ∨ 57 < c.toNat ∨ (i = 1 ∧ n = 0) then (0, 20) else
      if (4611686018427387903 - ((c.toNat : Int) - 48)) / 10 < n then parseL cs (i + 1) n true else
      if big = true then parseL cs (i + 1) n true else parseL cs (i + 1) (10 * n + ((c.toNat : Int) - 48)) false
def parseV (s : ByteArray) : Int × Int := parseL s.data.toList 0 0 false
theorem drop_at (s : ByteArray) (pos : Nat) (h : pos < s.size) : s.data.toList.drop pos = (s[pos]'h) :: s.data.toList.drop (pos + 1) := by
  rw [List.drop_eq_getElem_cons (by rw [Array.length_toList]; exact h)]; rfl
theorem empty_size {s : ByteArray} (h : s.toList.isEmpty = true) : s.size = 0 := by
  rw [Lib.toList_data, List.isEmpty_iff] at h
  have := congrArg List.length h
  rw [Array.length_toList] at this
  exact this
theorem nonempty_size {s : ByteArray} (h : s.toList.isEmpty = false) : s.size ≠ 0 := by
  intro e
  rw [Lib.toList_data, List.isEmpty_eq_false_iff] at h
  exact h (List.eq_nil_of_length_eq_zero (by rw [Array.length_toList]; exact e))
set_option maxRecDepth 1000000 in
set_option maxHeartbeats 4000000 in
theorem parse_walk (s : ByteArray) (w : World) :
    Calls Tryd.prog 16 #[.string s] w fun e w' => e = .returned (.tuple #[.int .i64 (parseV s).1, .int .i64 (parseV s).2]) ∧ ∃ pos, w' = w.iter s pos := by
  go_enter Tryd.func16, Tryd.ntmps16
  go_wp2
  go_loopw [4, 5] (fun n b w' => ∃ (pos : Nat) (nn : Int) (big : Bool), w' = w.iter s pos ∧ n = .int .i64 nn ∧ b = .bool big ∧ pos ≤ s.size ∧ 0 ≤ nn ∧ nn ≤ 4611686018427387903 ∧ parseL (s.data.toList.drop pos) pos nn big = parseV s) (fun _ _ w' => s.size - w'.iterPos w.heap.size)
  case atStart => exact ⟨0, 0, false, rfl, rfl, rfl, Nat.zero_le _, by decide, by decide, rfl⟩
  case round =>
    obtain ⟨pos, nn, big, rfl, rfl, rfl, hp, h0, h1, hv⟩ := hrel
    by_cases hlt : pos < s.size
    · rw [drop_at s pos hlt, parseL] at hv
      by_cases ha : (s[pos]'hlt).toNat < 128
      · have hnx : ∀ ty, (Instr.next (.pointer (some ⟨w.heap.size, 0, none⟩)) true ty).run Tryd.prog (w.iter s pos) = _ := fun ty => run_next_ascii w s pos ty hlt ha
        generalize (s[pos]'hlt).toNat = c at *
        by_cases hc : c < 48 ∨ 57 < c
        · rw [if_pos (by omega)] at hv
          rcases hc with hc | hc
          · have hc' : (c : Int) < 48 := by omega
            go_wp2
            go_ret2
            exact ⟨(by rw [← hv]; first | done | rfl), _, rfl⟩
          · have hc' : 57 < (c : Int) := by omega
            have hc2 : 48 ≤ (c : Int) := by omega
            go_wp2
            go_ret2
            exact ⟨(by rw [← hv]; first | done | rfl), _, rfl⟩
        · have hc1 : 48 ≤ (c : Int) := by omega
          have hc2 : (c : Int) ≤ 57 := by omega
          by_cases hz : pos = 1 ∧ nn = 0
          · obtain ⟨rfl, rfl⟩ := hz
            rw [if_pos (by omega)] at hv
            go_wp2
            go_ret2
            exact ⟨(by rw [← hv]; first | done | rfl), _, rfl⟩
          · rw [if_neg (by omega)] at hv
            have hz2 : (pos : Int) = 1 → (nn == 0) = false := fun h => by
              rw [beq_eq_false_iff_ne]; intro e; exact hz ⟨by omega, e⟩
            cases big
            all_goals
              go_wp2
              all_goals
                try (exfalso; rename_i k1 k2; rcases k2 with k2 | k2; omega; rw [hz2 k1] at k2; cases k2)
              all_goals
                rename_i k
                first
                  | (rw [if_pos (by omega)] at hv; exact ⟨⟨pos + 1, nn, true, rfl, rfl, rfl, by omega, h0, h1, hv⟩, by simp; omega⟩)
                  | (rw [if_neg (by omega), if_neg (by decide)] at hv; exact ⟨⟨pos + 1, 10 * nn + (c - 48), false, rfl, rfl, rfl, by omega, by omega, by omega, hv⟩, by simp; omega⟩)
                  | (rw [if_neg (by omega), if_pos rfl] at hv; exact ⟨⟨pos + 1, nn, true, rfl, rfl, rfl, by omega, h0, h1, hv⟩, by simp; omega⟩)
      · have hnx : ∀ ty, (Instr.next (.pointer (some ⟨w.heap.size, 0, none⟩)) true ty).run Tryd.prog (w.iter s pos) = _ := fun ty => run_next_any w s pos ty hlt
        have hd := decode_high s pos hlt (by omega)
        rw [if_pos (by omega)] at hv
        generalize Utf8.decode s pos = dd at *
        have hd1 : 57 < (dd.1 : Int) := by omega
        have hd2 : 48 ≤ (dd.1 : Int) := by omega
        go_wp2
        go_ret2
        exact ⟨(by rw [← hv]; first | done | rfl), _, rfl⟩
    · have hnx : ∀ ty, (Instr.next (.pointer (some ⟨w.heap.size, 0, none⟩)) true ty).run Tryd.prog (w.iter s pos) = _ := fun ty => run_next_end w s pos ty hlt
      rw [List.drop_eq_nil_of_le (by rw [Array.length_toList]; exact Nat.le_of_not_lt hlt), parseL] at hv
      cases big
      all_goals
        go_wp2
        all_goals
          rename_i k
          go_ret2
          first
            | (have e := empty_size k; rw [if_pos (by omega)] at hv; exact ⟨(by rw [← hv]; first | done | rfl), _, rfl⟩)
            | (have e := nonempty_size k; rw [if_neg (by omega), if_pos (by first | exact rfl | trivial)] at hv; exact ⟨(by rw [← hv]; first | done | rfl), _, rfl⟩)
            | (have e := nonempty_size k; rw [if_neg (by omega), if_neg (by decide)] at hv; exact ⟨(by rw [← hv]; first | done | rfl), _, rfl⟩)
theorem parse_s (s : ByteArray) : PS Tryd.prog 16 [.p (.string s)] (.tup [.i (parseV s).1, .i (parseV s).2]) := by
  refine ps_lift1 (v := .tuple #[.int .i64 (parseV s).1, .int .i64 (parseV s).2]) (by kernel_rfl) (fun U φ V w => .tup _ [.int .i64 (parseV s).1, .int .i64 (parseV s).2] rfl fun i x u hx hu => ?_) fun w _ => (parse_walk s w).mono fun e w' ⟨he, pos, hw⟩ => ⟨he, ?_⟩
  · rcases i with _ | _ | i
    · cases hx; cases hu; exact .p _
    · cases hx; cases hu; exact .p _
    · simp at hx
  · subst hw
    refine ⟨rfl, rfl, rfl, ?_, fun j hj => ?_⟩
    · show w.heap.size ≤ (w.heap.push _).size
      simp
    · show (w.heap.push _)[j]? = _
      rw [Array.getElem?_push, if_neg (by omega)]
end Go.Proofs.YtdddkoacolglkaaDoor.Ab
