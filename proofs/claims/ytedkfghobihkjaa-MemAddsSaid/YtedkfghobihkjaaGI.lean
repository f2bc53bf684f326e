/- Accesses played: what is said of it in plain words. -/
import Derived.Test.YtedkfghobihkjaaGH
namespace Go.Proofs.Ytedkfghobihkjaa.Ab
open Go Go.RowKit
attribute [local irreducible] SQ RG AW
def okA (m : Nat) (c : Int) (a : Four) : Prop := 1 ≤ a.1 ∧ a.1 ≤ 4 ∧ 0 ≤ a.2.1 ∧ a.2.1 < m ∧ -c ≤ a.2.2.2 ∧ a.2.2.2 ≤ c
def bdd (B : Int) (xs : List Int) : Prop := ∀ x ∈ xs, -B ≤ x ∧ x ≤ B
theorem bdd_getD {B : Int} {xs : List Int} (h : bdd B xs) (h0 : 0 ≤ B) (k : Nat) : -B ≤ xs.getD k 0 ∧ xs.getD k 0 ≤ B := by
  by_cases hk : k < xs.length
  · rw [List.getD_eq_getElem?_getD, List.getElem?_eq_getElem hk]; exact h _ (List.getElem_mem hk)
  · rw [List.getD_eq_getElem?_getD, List.getElem?_eq_none (by omega)]; simp; omega
theorem toW_val {xs : List Int} {k a n B c : Int} (hb : bdd B xs) (hn : -c ≤ n ∧ n ≤ c) (h0 : 0 ≤ B) (hc : B + c ≤ 1152921504606846975) : toW xs k a n = if k = 4 then xs.getD a.toNat 0 + n else n := by
  have := bdd_getD hb h0 a.toNat
  unfold toW
  split
  · rw [wrap_small (by omega), if_pos]
    by_cases h : 0 < n
    · rw [decide_eq_true h, decide_eq_true (by omega)]
    · rw [decide_eq_false h, decide_eq_false (by omega)]
  · rfl
theorem do_ok {xs : List Int} {a : Four} {B c : Int} (ha : okA xs.length c a) (hb : bdd B xs) (h0 : 0 ≤ c) (hcB : c ≤ B) (hc : B + c ≤ 1152921504606846975) (hl : xs.length ≤ 100000) :
    doF xs a = (if doneB xs a.1 a.2.1 a.2.2.1 && decide (a.1 ≠ 1) then xs.set a.2.1.toNat (if a.1 = 4 then xs.getD a.2.1.toNat 0 + a.2.2.2 else a.2.2.2) else xs, xs.getD a.2.1.toNat 0, doneB xs a.1 a.2.1 a.2.2.1, 0) := by
  obtain ⟨h1, h2, h3, h4, h5, h6⟩ := ha
  have hv := toW_val (k := a.1) (a := a.2.1) hb ⟨h5, h6⟩ (by omega) hc
  have hg := bdd_getD hb (by omega) a.2.1.toNat
  have hw : wrongE xs a.1 a.2.1 a.2.2.2 = 0 := by
    unfold wrongE
    rw [if_neg (by omega), if_neg (by omega), if_neg]
    rintro ⟨_, h⟩
    rw [hv, fits, decide_eq_false_iff_not] at h
    split at h <;> omega
  rw [doF, doW, if_pos hw, hv]
theorem bdd_set {B : Int} {xs : List Int} (h : bdd B xs) {v : Int} (hv : -B ≤ v ∧ v ≤ B) (k : Nat) : bdd B (xs.set k v) := by
  intro x hx
  rcases List.mem_or_eq_of_mem_set hx with h' | rfl
  · exact h x h'
  · exact hv
theorem bdd_mono {B B' : Int} {xs : List Int} (h : bdd B xs) (hb : B ≤ B') : bdd B' xs := fun x hx => by have := h x hx; omega
theorem do_bdd {xs : List Int} {a : Four} {B c : Int} (ha : okA xs.length c a) (hb : bdd B xs) (h0 : 0 ≤ c) (hcB : c ≤ B) (hc : B + c ≤ 1152921504606846975) (hl : xs.length ≤ 100000) : bdd (B + c) (doF xs a).1 ∧ (doF xs a).1.length = xs.length ∧ (doF xs a).2.1 = xs.getD a.2.1.toNat 0 ∧ (doF xs a).2.2.2 = 0 := by
  have h := do_ok ha hb h0 hcB hc hl
  obtain ⟨h1, h2, h3, h4, h5, h6⟩ := ha
  rw [h]
  refine ⟨?_, ?_, rfl, rfl⟩
  · simp only
    split
    · refine bdd_set (bdd_mono hb (by omega)) ?_ _
      have := bdd_getD hb (by omega) a.2.1.toNat
      split <;> omega
    · exact bdd_mono hb (by omega)
  · simp only
    split <;> simp
/-- accesses of which none is wrong -/
def run : List Int → List Four → List Int × List Int
  | xs, [] => (xs, [])
  | xs, a :: l => ((run (doF xs a).1 l).1, (doF xs a).2.1 :: (run (doF xs a).1 l).2)
theorem run_append (l1 l2 : List Four) : ∀ xs, run xs (l1 ++ l2) = ((run (run xs l1).1 l2).1, (run xs l1).2 ++ (run (run xs l1).1 l2).2) := by
  induction l1 with
  | nil => intro xs; rfl
  | cons a l ih => intro xs; simp only [List.cons_append, run, ih]
theorem run_len (l : List Four) : ∀ xs, (run xs l).2.length = l.length := by
  induction l with
  | nil => intro xs; rfl
  | cons a l ih => intro xs; simp [run, ih]
theorem play_run (c : Int) (h0 : 0 ≤ c) (xs0 : List Int) : ∀ (ls : List Four) (xs fs : List Int) (B : Int), (∀ a ∈ ls, okA xs.length c a) → bdd B xs → c ≤ B → B + c * ls.length ≤ 1152921504606846975 → xs.length ≤ 100000 →
    playL xs0 xs fs ls = ((run xs ls).1, fs ++ (run xs ls).2, 0) ∧ (run xs ls).1.length = xs.length ∧ bdd (B + c * ls.length) (run xs ls).1 := by
  intro ls
  induction ls with
  | nil => intro xs fs B _ hb _ _ _; exact ⟨by simp [playL, run], rfl, by simpa [run] using hb⟩
  | cons a l ih =>
    intro xs fs B ha hb hcB hc hl
    have e1 : c * ((a :: l).length : Int) = c * (l.length : Int) + c := by rw [List.length_cons, Int.natCast_add, Int.mul_add]; simp
    rw [e1] at hc
    have e2 : 0 ≤ c * (l.length : Int) := Int.mul_nonneg h0 (Int.natCast_nonneg _)
    obtain ⟨h1, h2, h3, h4⟩ := do_bdd (ha a (List.mem_cons_self ..)) hb h0 hcB (by omega) hl
    obtain ⟨h5, h6, h7⟩ := ih (doF xs a).1 (fs ++ [(doF xs a).2.1]) (B + c) (fun a' h => by rw [h2]; exact ha a' (List.mem_cons_of_mem _ h)) h1 (by omega) (by omega) (by omega)
    refine ⟨?_, by simp only [run]; omega, ?_⟩
    · rw [playL, if_pos h4, h5]; simp [run]
    · rw [e1]; simp only [run]; refine bdd_mono h7 (by omega)
theorem accL_ok (raw : List Four) (w : Int) (hw : 0 < w) (m : Nat) (hm : w ≤ m) : ∀ a ∈ accL raw w, okA m 3 a := by
  intro a ha
  obtain ⟨r, _, rfl⟩ := List.mem_map.1 ha
  have h0 := pick_bd r.1 4 (by omega)
  have h1 := pick_bd r.2.1 w hw
  have h3 := pick_bd r.2.2.2 4 (by omega)
  unfold okA accOf
  simp only
  omega
theorem accL_len (raw : List Four) (w : Int) : (accL raw w).length ≤ 40 := by unfold accL; simp; omega
theorem le_take (ls : List Four) (k : Nat) (n : Nat) (hn : n = (ls.take k).length) : Le (.lst false 4 n fun i => fours (ls.getD (Int.toNat 0 + i) (0, 0, 0, 0))) (accs (ls.take k)) :=
  le_lst' hn (fun h => h) fun i hi => by
    have : i < k := by rw [hn] at hi; simp at hi; omega
    rw [List.getD_eq_getElem?_getD, List.getD_eq_getElem?_getD, List.getElem?_take, if_pos this]; simp
theorem le_drop (ls : List Four) (k : Int) (n : Nat) (hn : n = (ls.drop k.toNat).length) : Le (.lst false 4 n fun i => fours (ls.getD (k.toNat + i) (0, 0, 0, 0))) (accs (ls.drop k.toNat)) :=
  le_lst' hn (fun h => h) fun i hi => by
    rw [List.getD_eq_getElem?_getD, List.getD_eq_getElem?_getD, List.getElem?_drop]
theorem le_app2 (y z : List Int) : Le (.lst false 1 (0 + y.length + z.length) (fun j => if j < 0 + y.length then (if j < 0 then [AV.i (y.getD j 0)] else [.i (y.getD (j - 0) 0)]) else [.i (z.getD (j - (0 + y.length)) 0)])) (ints (y ++ z)) :=
  le_lst' (by simp) (fun h => h) fun i hi => by
    rw [Nat.zero_add] at hi ⊢
    rw [if_neg (Nat.not_lt_zero i), Nat.sub_zero]
    by_cases h : i < y.length
    · rw [if_pos h, List.getD_eq_getElem?_getD, List.getD_eq_getElem?_getD, List.getElem?_append_left h]
    · rw [if_neg h, List.getD_eq_getElem?_getD, List.getD_eq_getElem?_getD, List.getElem?_append_right (by omega)]
end Go.Proofs.Ytedkfghobihkjaa.Ab
