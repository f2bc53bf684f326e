/- Numbers and their texts: plain facts. -/
import Derived.Test.YtdddkoacolglkaaDoorMI
namespace Go.Proofs.YtdddkoacolglkaaDoor.Ab
open Go Go.RowKit
theorem dd_small {u : Nat} (h : u < 10) : Lib.decDigits u = [UInt8.ofNat (48 + u)] := by rw [Lib.decDigits, dif_pos h]
theorem dd_big {u : Nat} (h : ¬ u < 10) : Lib.decDigits u = Lib.decDigits (u / 10) ++ [UInt8.ofNat (48 + u % 10)] := by rw [Lib.decDigits, dif_neg h]
theorem dig_nat {d : Nat} (h : d < 10) : (UInt8.ofNat (48 + d)).toNat = 48 + d := by rw [UInt8.toNat_ofNat']; omega
theorem dd_pos (u : Nat) : 1 ≤ (Lib.decDigits u).length := by
  by_cases h : u < 10
  · rw [dd_small h]; simp
  · rw [dd_big h]; simp
/-- a digit that is read -/
theorem parse_digit (c : UInt8) (d : Nat) (hd : d < 10) (hc : c.toNat = 48 + d) (cs : List UInt8) (i : Nat) (n : Int) (hz : ¬ (i = 1 ∧ n = 0)) (hm : 10 * n + d ≤ 4611686018427387903) : parseL (c :: cs) i n false = parseL cs (i + 1) (10 * n + d) false := by
  rw [parseL, if_neg (by omega), hc, if_neg (by omega), if_neg (by decide)]
  congr 1
  omega
theorem parse_dd (u : Nat) : u ≤ 4611686018427387903 → ∀ rest, parseL (Lib.decDigits u ++ rest) 0 0 false = parseL rest (Lib.decDigits u).length u false := by
  induction u using Nat.strongRecOn with
  | _ u ih =>
    intro hu rest
    by_cases h : u < 10
    · rw [dd_small h]
      show parseL (UInt8.ofNat (48 + u) :: rest) 0 0 false = _
      rw [parse_digit _ u h (dig_nat h) rest 0 0 (by simp) (by omega)]
      simp
    · rw [dd_big h, List.append_assoc, ih (u / 10) (by omega) (by omega)]
      have hp := dd_pos (u / 10)
      show parseL (UInt8.ofNat (48 + u % 10) :: rest) _ _ false = _
      rw [parse_digit _ (u % 10) (by omega) (dig_nat (by omega)) rest _ _ (by omega) (by omega), List.length_append]
      congr 1
      omega
/-- as long as it is great -/
theorem dd_long (u k : Nat) (h : 10 ^ k ≤ u) : k + 1 ≤ (Lib.decDigits u).length := by
  induction k generalizing u with
  | zero => exact dd_pos u
  | succ k ih =>
    have h1 : 10 ^ k * 10 ≤ u := h
    have h2 : 1 ≤ 10 ^ k := Nat.pow_pos (by decide)
    rw [dd_big (by omega), List.length_append]
    have := ih (u / 10) (by omega)
    simp; omega
theorem itoa_nat (u : Nat) : Lib.itoa (u : Int) = Lib.decDigits u := by unfold Lib.itoa; rw [if_neg (by omega)]; simp
theorem parse_text (u : Nat) (hu : u ≤ 4611686018427387903) : parseV ⟨(Lib.itoa (u : Int)).toArray⟩ = ((u : Int), 0) := by
  unfold parseV
  have h := parse_dd u hu []
  rw [List.append_nil] at h
  have hp := dd_pos u
  show parseL (Lib.itoa (u : Int)).toArray.toList 0 0 false = _
  rw [List.toList_toArray, itoa_nat, h, parseL, if_neg (by omega), if_neg (by decide)]
/-- too big is too big -/
theorem parse_over : ∀ (cs : List UInt8) (i : Nat) (n : Int), 1 ≤ i → parseL cs i n true = (0, 20) ∨ parseL cs i n true = (0, 21)
  | [], i, n, hi => .inr (by rw [parseL, if_neg (by omega), if_pos rfl])
  | c :: cs, i, n, hi => by
    rw [parseL]
    split
    · exact .inl rfl
    · split
      · exact parse_over cs (i + 1) n (by omega)
      · rw [if_pos rfl]; exact parse_over cs (i + 1) n (by omega)
/-- what a text comes to: nothing, or its number -/
theorem parse_all : ∀ (cs pre : List UInt8) (n : Nat), n ≤ 4611686018427387903 → (pre = [] ∧ n = 0 ∨ pre = Lib.decDigits n) →
    (parseL cs pre.length n false = (0, 20)) ∨ (parseL cs pre.length n false = (0, 21) ∧ 19 ≤ (pre ++ cs).length) ∨ ∃ m : Nat, m ≤ 4611686018427387903 ∧ parseL cs pre.length n false = ((m : Int), 0) ∧ pre ++ cs = Lib.decDigits m
  | [], pre, n, hn, hp => by
    rcases hp with ⟨h1, h2⟩ | h1
    · subst h1 h2
      exact .inl (by rw [parseL]; rfl)
    · have := dd_pos n
      subst h1
      exact .inr (.inr ⟨n, hn, by rw [parseL, if_neg (by omega), if_neg (by decide)], by rw [List.append_nil]⟩)
  | c :: cs, pre, n, hn, hp => by
    by_cases hbad : c.toNat < 48 ∨ 57 < c.toNat ∨ (pre.length = 1 ∧ (n : Int) = 0)
    · exact .inl (by rw [parseL, if_pos hbad])
    · obtain ⟨d, hd, hc⟩ : ∃ d, d < 10 ∧ c.toNat = 48 + d := ⟨c.toNat - 48, by omega, by omega⟩
      have hcd : c = UInt8.ofNat (48 + d) := UInt8.toNat_inj.1 (by rw [dig_nat hd]; exact hc)
      by_cases hov : 10 * n + d ≤ 4611686018427387903
      · have hstep := parse_digit c d hd hc cs pre.length n (by omega) (by omega)
        have hnew : pre ++ [c] = Lib.decDigits (10 * n + d) := by
          rcases hp with ⟨h1, h2⟩ | h1
          · subst h1 h2
            rw [Nat.mul_zero, Nat.zero_add, dd_small hd, hcd]; rfl
          · have hn0 : n ≠ 0 := fun e => hbad (.inr (.inr ⟨by rw [h1, e, dd_small (by decide)]; rfl, by omega⟩))
            rw [dd_big (by omega : ¬ 10 * n + d < 10), show (10 * n + d) / 10 = n by omega, show (10 * n + d) % 10 = d by omega, ← h1, hcd]
        have ih := parse_all cs (pre ++ [c]) (10 * n + d) hov (.inr hnew)
        rw [List.length_append, List.append_assoc] at ih
        rw [hstep]
        have e : ((10 * n + d : Nat) : Int) = 10 * (n : Int) + d := by omega
        rw [e] at ih
        exact ih
      · have hl : 18 ≤ pre.length := by
          have h1 : 461168601842738790 ≤ n := by omega
          rcases hp with ⟨_, h2⟩ | h2
          · omega
          · rw [h2]; exact dd_long n 17 (by omega)
        have hp1 : 1 ≤ pre.length := by omega
        have : parseL (c :: cs) pre.length n false = parseL cs (pre.length + 1) n true := by
          rw [parseL, if_neg hbad, hc, if_pos (by omega)]
        rw [this]
        rcases parse_over cs (pre.length + 1) n (by omega) with h | h
        · exact .inl h
        · exact .inr (.inl ⟨h, by simp; omega⟩)
end Go.Proofs.YtdddkoacolglkaaDoor.Ab
