/- The hash, over numbers alone. -/
import Derived.WalkKit
namespace Go.Proofs.Ytcehniefjelgeaa
open Go.RowKit

theorem wrap64_small {n : Int} (h0 : 0 ≤ n) (h1 : n < 9223372036854775808) : wrap64 n = n := by unfold wrap64; omega
theorem wrap_small {n : Int} (h0 : 0 ≤ n) (h1 : n < 9223372036854775808) : IntKind.i64.wrap n = n := by
  rw [IntKind.wrap_i64]; omega

theorem and_mask (k : Int) : bits .and .i64 k 2147483647 = k % 2147483648 := by
  have h64 : (2147483647 : Nat) % 2 ^ 64 = 2 ^ 31 - 1 := by decide
  simp only [bits]
  have e : (BitVec.ofInt IntKind.i64.bits k &&& BitVec.ofInt IntKind.i64.bits 2147483647).toNat = (k % 2147483648).toNat := by
    show (BitVec.ofInt 64 k &&& BitVec.ofInt 64 2147483647).toNat = _
    rw [BitVec.toNat_and]
    have e2 : (BitVec.ofInt 64 2147483647).toNat = 2 ^ 31 - 1 := by decide
    rw [e2, Nat.and_two_pow_sub_one_eq_mod, BitVec.toNat_ofInt]
    omega
  rw [e, wrap_small (by omega) (by omega)]
  omega

theorem xor_nat (a b : Int) (ha : 0 ≤ a) (ha' : a < 2147483648) (hb : 0 ≤ b) (hb' : b < 2147483648) :
    bits .xor .i64 a b = ((a.toNat ^^^ b.toNat : Nat) : Int) := by
  obtain ⟨x, rfl⟩ := Int.eq_ofNat_of_zero_le ha
  obtain ⟨y, rfl⟩ := Int.eq_ofNat_of_zero_le hb
  have hx : x < 2 ^ 31 := by omega
  have hy : y < 2 ^ 31 := by omega
  have hlt : x ^^^ y < 2 ^ 31 := Nat.xor_lt_two_pow hx hy
  simp only [bits]
  show IntKind.i64.wrap (((BitVec.ofInt 64 (x : Int) ^^^ BitVec.ofInt 64 (y : Int)).toNat : Nat) : Int) = _
  rw [BitVec.toNat_xor, BitVec.ofInt_natCast, BitVec.ofInt_natCast, BitVec.toNat_ofNat, BitVec.toNat_ofNat, Nat.mod_eq_of_lt (by omega), Nat.mod_eq_of_lt (by omega)]
  rw [wrap_small (by omega) (by omega)]
  simp

/-- one kid more -/
def hstep (h k : Int) : Int := ((h.toNat ^^^ (k % 2147483648).toNat : Nat) : Int) * 16777619 % 2147483648
/-- the hash of four -/
def hfin (h : Int) : Int := ((h.toNat ^^^ (h / 32768).toNat : Nat) : Int)
def hashOf (ks : List Int) : Int := hfin (ks.foldl hstep 17)

theorem hstep_bd (h k : Int) : 0 ≤ hstep h k ∧ hstep h k < 2147483648 := by unfold hstep; omega
theorem xor_bd (a b : Nat) (ha : a < 2147483648) (hb : b < 2147483648) : a ^^^ b < 2147483648 := Nat.xor_lt_two_pow (n := 31) ha hb
theorem hfin_bd (h : Int) (h0 : 0 ≤ h) (h1 : h < 2147483648) : 0 ≤ hfin h ∧ hfin h < 2147483648 := by
  unfold hfin
  have := xor_bd h.toNat (h / 32768).toNat (by omega) (by omega)
  omega
theorem hfold_bd (ks : List Int) : ∀ h, 0 ≤ h → h < 2147483648 → 0 ≤ ks.foldl hstep h ∧ ks.foldl hstep h < 2147483648 := by
  induction ks with
  | nil => intro h h0 h1; exact ⟨h0, h1⟩
  | cons k ks ih => intro h _ _; exact ih _ (hstep_bd h k).1 (hstep_bd h k).2
theorem hashOf_bd (ks : List Int) : 0 ≤ hashOf ks ∧ hashOf ks < 2147483648 :=
  hfin_bd _ (hfold_bd ks 17 (by omega) (by omega)).1 (hfold_bd ks 17 (by omega) (by omega)).2

/-- as the code writes it: & last -/
theorem hstep_and (h k : Int) (h0 : 0 ≤ h) (h1 : h < 2147483648) :
    bits .and .i64 (wrap64 (bits .xor .i64 h (bits .and .i64 k 2147483647) * 16777619)) 2147483647 = hstep h k := by
  rw [and_mask, and_mask, xor_nat _ _ h0 h1 (by omega) (by omega)]
  unfold hstep
  have := xor_bd h.toNat (k % 2147483648).toNat (by omega) (by omega)
  rw [wrap64_small (by omega) (by omega)]
/-- as the document writes it: % HashMod -/
theorem hstep_rem (h k : Int) (h0 : 0 ≤ h) (h1 : h < 2147483648) :
    (wrap64 (bits .xor .i64 h (bits .and .i64 k 2147483647) * 16777619)).tmod 2147483648 = hstep h k := by
  rw [and_mask, xor_nat _ _ h0 h1 (by omega) (by omega)]
  unfold hstep
  have := xor_bd h.toNat (k % 2147483648).toNat (by omega) (by omega)
  rw [wrap64_small (by omega) (by omega), Int.tmod_eq_emod_of_nonneg (by omega)]
theorem hfin_eq (h : Int) (h0 : 0 ≤ h) (h1 : h < 2147483648) : bits .xor .i64 h (h / 32768) = hfin h := by
  rw [xor_nat _ _ h0 h1 (by omega) (by omega)]; rfl

/- the stage's theorem: one kid more is another number -/
theorem xor_inj (a b c : Nat) (h : a ^^^ b = a ^^^ c) : b = c := by
  have := congrArg (a ^^^ ·) h
  simpa [← Nat.xor_assoc] using this
theorem xor_inj' (a b c : Nat) (h : b ^^^ a = c ^^^ a) : b = c := by
  rw [Nat.xor_comm b, Nat.xor_comm c] at h; exact xor_inj a b c h
theorem mul_back (a : Int) : a * 16777619 % 2147483648 * 899433627 % 2147483648 = a % 2147483648 := by
  rw [Int.mul_emod, Int.emod_emod, ← Int.mul_emod, Int.mul_assoc, Int.mul_emod, show (16777619 * 899433627 : Int) % 2147483648 = 1 from by decide, Int.mul_one, Int.emod_emod]
theorem mul_inj (a b : Int) (h : a * 16777619 % 2147483648 = b * 16777619 % 2147483648) : a % 2147483648 = b % 2147483648 := by
  rw [← mul_back a, ← mul_back b, h]
theorem hstep_kid {h k l : Int} (h1 : h < 2147483648) (e : hstep h k = hstep h l) : k % 2147483648 = l % 2147483648 := by
  unfold hstep at e
  replace e := mul_inj _ _ e
  have a1 := xor_bd h.toNat (k % 2147483648).toNat (by omega) (by omega)
  have a2 := xor_bd h.toNat (l % 2147483648).toNat (by omega) (by omega)
  have e3 : h.toNat ^^^ (k % 2147483648).toNat = h.toNat ^^^ (l % 2147483648).toNat := by omega
  have := xor_inj _ _ _ e3
  clear e e3 a1 a2; omega
theorem hstep_head {g h k : Int} (g0 : 0 ≤ g) (g1 : g < 2147483648) (h0 : 0 ≤ h) (h1 : h < 2147483648) (e : hstep g k = hstep h k) : g = h := by
  unfold hstep at e
  replace e := mul_inj _ _ e
  have a1 := xor_bd g.toNat (k % 2147483648).toNat (by omega) (by omega)
  have a2 := xor_bd h.toNat (k % 2147483648).toNat (by omega) (by omega)
  have e3 : g.toNat ^^^ (k % 2147483648).toNat = h.toNat ^^^ (k % 2147483648).toNat := by omega
  have := xor_inj' _ _ _ e3
  clear e e3 a1 a2; omega
theorem hfold_head (ks : List Int) : ∀ g h, 0 ≤ g → g < 2147483648 → 0 ≤ h → h < 2147483648 → ks.foldl hstep g = ks.foldl hstep h → g = h := by
  induction ks with
  | nil => intro g h _ _ _ _ e; exact e
  | cons k ks ih =>
    intro g h g0 g1 h0 h1 e
    exact hstep_head g0 g1 h0 h1 (ih _ _ (hstep_bd g k).1 (hstep_bd g k).2 (hstep_bd h k).1 (hstep_bd h k).2 e)
theorem nat_back (h : Nat) (h1 : h < 2147483648) : (h ^^^ h / 32768) ^^^ (h ^^^ h / 32768) / 32768 ^^^ (h ^^^ h / 32768) / 1073741824 = h := by
  have e1 : (h ^^^ h / 32768) / 32768 = h / 32768 ^^^ h / 1073741824 := by
    rw [show (32768 : Nat) = 2 ^ 15 from rfl, show (1073741824 : Nat) = 2 ^ 30 from rfl, ← Nat.shiftRight_eq_div_pow, ← Nat.shiftRight_eq_div_pow, ← Nat.shiftRight_eq_div_pow, Nat.shiftRight_xor_distrib, ← Nat.shiftRight_add]
  have e2 : (h ^^^ h / 32768) / 1073741824 = h / 1073741824 := by
    rw [show (32768 : Nat) = 2 ^ 15 from rfl, show (1073741824 : Nat) = 2 ^ 30 from rfl, ← Nat.shiftRight_eq_div_pow, ← Nat.shiftRight_eq_div_pow, ← Nat.shiftRight_eq_div_pow, Nat.shiftRight_xor_distrib, ← Nat.shiftRight_add]
    have z : h >>> (15 + 30) = 0 := by rw [Nat.shiftRight_eq_div_pow]; exact Nat.div_eq_of_lt (by omega)
    rw [z, Nat.xor_zero]
  rw [e1, e2]
  have : ∀ a b c : Nat, a ^^^ b ^^^ (b ^^^ c) ^^^ c = a := fun a b c => by
    rw [Nat.xor_assoc (a ^^^ b), Nat.xor_assoc b c c, Nat.xor_self, Nat.xor_zero, Nat.xor_assoc, Nat.xor_self, Nat.xor_zero]
  exact this _ _ _
theorem hfin_inj {g h : Int} (g0 : 0 ≤ g) (g1 : g < 2147483648) (h0 : 0 ≤ h) (h1 : h < 2147483648) (e : hfin g = hfin h) : g = h := by
  obtain ⟨x, rfl⟩ := Int.eq_ofNat_of_zero_le g0
  obtain ⟨y, rfl⟩ := Int.eq_ofNat_of_zero_le h0
  unfold hfin at e
  have ex : (((x : Nat) : Int) / 32768).toNat = x / 32768 := by omega
  have ey : (((y : Nat) : Int) / 32768).toNat = y / 32768 := by omega
  rw [ex, ey, Int.toNat_natCast, Int.toNat_natCast] at e
  have e : x ^^^ x / 32768 = y ^^^ y / 32768 := by omega
  have bx := nat_back x (by omega)
  have bny := nat_back y (by omega)
  rw [e, bny] at bx
  omega
/-- of kids of which one alone may be another, the hash is the same just where all are -/
theorem hash_one (l r : List Int) (k m : Int) (hk : 0 ≤ k) (hk' : k < 2147483648) (hm : 0 ≤ m) (hm' : m < 2147483648)
    (e : hashOf (l ++ k :: r) = hashOf (l ++ m :: r)) : k = m := by
  unfold hashOf at e
  have b := fun ks => hfold_bd ks 17 (by omega) (by omega)
  replace e := hfin_inj (b _).1 (b _).2 (b _).1 (b _).2 e
  rw [List.foldl_append, List.foldl_append, List.foldl_cons, List.foldl_cons] at e
  replace e := hfold_head r _ _ (hstep_bd _ _).1 (hstep_bd _ _).2 (hstep_bd _ _).1 (hstep_bd _ _).2 e
  have := hstep_kid (b l).2 e
  omega
theorem hstep_mod (h k l : Int) (e : k % 2147483648 = l % 2147483648) : hstep h k = hstep h l := by unfold hstep; rw [e]
end Go.Proofs.Ytcehniefjelgeaa
