/- The hash, over numbers alone. -/
import Derived.WalkKit
namespace Go.Proofs.Ytphjglbbhanmpaa
open Go.RowKit

theorem wrap64_small {n : Int} (h0 : 0 ≤ n) (h1 : n < 9223372036854775808) : wrap64 n = n := by unfold wrap64; omega
theorem wrap_small {n : Int} (h0 : 0 ≤ n) (h1 : n < 9223372036854775808) : IntKind.i64.wrap n = n := by
  rw [IntKind.wrap_i64]; omega

theorem and_mask (k : Int) : bits .and .i64 k 2147483647 = k % 2147483648 := by
  have h64 : (2147483647 : Nat) % 2 ^ 64 = 2 ^ 31 - 1 := by decide
  simp only [bits]
  have e : (BitVec.ofInt IntKind.i64.bits k &&& BitVec.ofInt IntKind.i64.bits 2147483647).toNat = (k % 2147483648).toNat := by
    show (BitVec.ofInt 64 k &&& BitVec.ofInt 64 2147483647).toNat = _
    rw [BitVec.toNat_and]
    have e2 : (BitVec.ofInt 64 2147483647).toNat = 2 ^ 31 - 1 := by decide
    rw [e2, Nat.and_two_pow_sub_one_eq_mod, BitVec.toNat_ofInt]
    omega
  rw [e, wrap_small (by omega) (by omega)]
  omega

theorem xor_nat (a b : Int) (ha : 0 ≤ a) (ha' : a < 2147483648) (hb : 0 ≤ b) (hb' : b < 2147483648) :
    bits .xor .i64 a b = ((a.toNat ^^^ b.toNat : Nat) : Int) := by
  obtain ⟨x, rfl⟩ := Int.eq_ofNat_of_zero_le ha
  obtain ⟨y, rfl⟩ := Int.eq_ofNat_of_zero_le hb
  have hx : x < 2 ^ 31 := by omega
  have hy : y < 2 ^ 31 := by omega
  have hlt : x ^^^ y < 2 ^ 31 := Nat.xor_lt_two_pow hx hy
  simp only [bits]
  show IntKind.i64.wrap (((BitVec.ofInt 64 (x : Int) ^^^ BitVec.ofInt 64 (y : Int)).toNat : Nat) : Int) = _
  rw [BitVec.toNat_xor, BitVec.ofInt_natCast, BitVec.ofInt_natCast, BitVec.toNat_ofNat, BitVec.toNat_ofNat, Nat.mod_eq_of_lt (by omega), Nat.mod_eq_of_lt (by omega)]
  rw [wrap_small (by omega) (by omega)]
  simp

/-- one kid more -/
def hstep (h k : Int) : Int := ((h.toNat ^^^ (k % 2147483648).toNat : Nat) : Int) * 16777619 % 2147483648
/-- the hash of four -/
def hfin (h : Int) : Int := ((h.toNat ^^^ (h / 32768).toNat : Nat) : Int)
def hashOf (ks : List Int) : Int := hfin (ks.foldl hstep 17)

theorem hstep_bd (h k : Int) : 0 ≤ hstep h k ∧ hstep h k < 2147483648 := by unfold hstep; omega
theorem xor_bd (a b : Nat) (ha : a < 2147483648) (hb : b < 2147483648) : a ^^^ b < 2147483648 := Nat.xor_lt_two_pow (n := 31) ha hb
theorem hfin_bd (h : Int) (h0 : 0 ≤ h) (h1 : h < 2147483648) : 0 ≤ hfin h ∧ hfin h < 2147483648 := by
  unfold hfin
  have := xor_bd h.toNat (h / 32768).toNat (by omega) (by omega)
  omega
theorem hfold_bd (ks : List Int) : ∀ h, 0 ≤ h → h < 2147483648 → 0 ≤ ks.foldl hstep h ∧ ks.foldl hstep h < 2147483648 := by
  induction ks with
  | nil => intro h h0 h1; exact ⟨h0, h1⟩
  | cons k ks ih => intro h _ _; exact ih _ (hstep_bd h k).1 (hstep_bd h k).2
theorem hashOf_bd (ks : List Int) : 0 ≤ hashOf ks ∧ hashOf ks < 2147483648 :=
  hfin_bd _ (hfold_bd ks 17 (by omega) (by omega)).1 (hfold_bd ks 17 (by omega) (by omega)).2

/-- as the code writes it: & last -/
theorem hstep_and (h k : Int) (h0 : 0 ≤ h) (h1 : h < 2147483648) :
    bits .and .i64 (wrap64 (bits .xor .i64 h (bits .and .i64 k 2147483647) * 16777619)) 2147483647 = hstep h k := by
  rw [and_mask, and_mask, xor_nat _ _ h0 h1 (by omega) (by omega)]
  unfold hstep
  have := xor_bd h.toNat (k % 2147483648).toNat (by omega) (by omega)
  rw [wrap64_small (by omega) (by omega)]
theorem hfin_eq (h : Int) (h0 : 0 ≤ h) (h1 : h < 2147483648) : bits .xor .i64 h (h / 32768) = hfin h := by
  rw [xor_nat _ _ h0 h1 (by omega) (by omega)]; rfl

/- the stage's theorem: one kid more is another number -/
end Go.Proofs.Ytphjglbbhanmpaa
