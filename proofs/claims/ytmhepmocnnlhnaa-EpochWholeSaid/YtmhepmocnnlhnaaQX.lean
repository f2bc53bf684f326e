/- Epochs, in plain words: what waits, what is free. -/
import Derived.Test.YtmhepmocnnlhnaaQU
namespace Go.Proofs.Ytmhepmocnnlhnaa.Ab
open Go Go.RowKit
theorem retire_ok {e : Ep} (h : RightE e) {j : Nat} (hj : j < e.pins.length) (hp : e.pins.getD j 0 ≠ 0) {n : Int} (hn : nodeP n) (hne : n ∉ nodesL e) (hl : (nodesL e).length < 1000) : retireE e j n = (addL e (e.now % 3) n, 0) := by
  unfold retireE
  rw [if_pos ⟨h, by omega, by omega⟩, Int.toNat_natCast, if_pos (retErr_eq.2 ⟨hn, hp, hne, hl⟩)]
theorem retire_busy {e : Ep} (h : RightE e) {j : Nat} (hj : j < e.pins.length) (hp : e.pins.getD j 0 ≠ 0) {n : Int} (hn : nodeP n) (hne : n ∈ nodesL e) : retireE e j n = (e, 41) := by
  have : retErr e (e.pins.getD j 0) n = 41 := by unfold retErr; rw [if_neg (fun k => k hn), if_neg hp, if_pos hne]
  unfold retireE
  rw [if_pos ⟨h, by omega, by omega⟩, Int.toNat_natCast, this, if_neg (by decide)]
theorem pin_ok {e : Ep} (h : RightE e) {j : Nat} (hj : j < e.pins.length) (hp : e.pins.getD j 0 = 0) : pinE e j = ({ e with pins := e.pins.set j (e.now + 1) }, 0) := by
  unfold pinE pinop
  rw [if_pos ⟨h, by omega, by omega⟩, Int.toNat_natCast]
  simp only [hp, if_true]
theorem unpin_ok {e : Ep} (h : RightE e) {j : Nat} (hj : j < e.pins.length) (hp : e.pins.getD j 0 ≠ 0) : unpinE e j = ({ e with pins := e.pins.set j 0 }, 0) := by
  unfold unpinE pinop
  rw [if_pos ⟨h, by omega, by omega⟩, Int.toNat_natCast]
  simp only [hp, if_false, if_true]
theorem advance_ok {e : Ep} (h : RightE e) (hp : ∀ p ∈ e.pins, p = 0) (hn : e.now ≤ 1000) : advanceE e = (advT e, true, 0) := by
  have hb : blockedB e = false := by
    unfold blockedB behindB
    rw [Bool.or_eq_false_iff, List.any_eq_false]
    exact ⟨fun x hx => by simp [hp x hx], decide_eq_false (by omega)⟩
  unfold advanceE
  rw [if_pos h, hb, if_neg (by decide)]
theorem take_ok {e : Ep} (h : RightE e) (hf : e.free ≠ []) : takeE e = ({ e with free := e.free.drop 1 }, e.free.getD 0 0, true, 0) := by
  unfold takeE
  rw [if_pos h, if_neg hf]
theorem take_none {e : Ep} (h : RightE e) (hf : e.free = []) : takeE e = (e, 0, false, 0) := by
  unfold takeE
  rw [if_pos h, if_pos hf]
/-- one list of Limbo -/
def lim (e : Ep) (k : Int) : List Int := if k = 0 then e.l0 else if k = 1 then e.l1 else e.l2
theorem mod3 (n : Int) : n % 3 = 0 ∨ n % 3 = 1 ∨ n % 3 = 2 := by omega
theorem lim_addL (e : Ep) (a n : Int) (b : Int) (ha : a = 0 ∨ a = 1 ∨ a = 2) (hb : b = 0 ∨ b = 1 ∨ b = 2) : lim (addL e a n) b = if b = a then lim e b ++ [n] else lim e b := by
  rcases ha with rfl | rfl | rfl <;> rcases hb with rfl | rfl | rfl <;> rfl
theorem lim_advT (e : Ep) (b : Int) (hb : b = 0 ∨ b = 1 ∨ b = 2) : lim (advT e) b = if b = (e.now + 2) % 3 then [] else lim e b := by
  unfold advT
  rcases mod3 (e.now + 2) with h | h | h <;> rw [h] <;> rcases hb with rfl | rfl | rfl <;> rfl
theorem free_advT (e : Ep) : (advT e).free = e.free ++ lim e ((e.now + 2) % 3) := by
  unfold advT
  rcases mod3 (e.now + 2) with h | h | h <;> rw [h] <;> rfl
theorem mem_nodes (e : Ep) (n : Int) : n ∈ nodesL e ↔ n ∈ e.free ∨ n ∈ e.l0 ∨ n ∈ e.l1 ∨ n ∈ e.l2 := by
  simp only [nodesL, nodesK, List.mem_append, or_assoc]
theorem lim_mem {e : Ep} {k n : Int} (h : n ∈ lim e k) : n ∈ e.l0 ∨ n ∈ e.l1 ∨ n ∈ e.l2 := by
  unfold lim at h
  split at h
  · exact .inl h
  · split at h
    · exact .inr (.inl h)
    · exact .inr (.inr h)
theorem lim_nfree {e : Ep} (hr : RightE e) {k n : Int} (h : n ∈ lim e k) : n ∉ e.free := by
  have hd := hr.2.2.2.2.1
  have h' := lim_mem h
  intro hf
  simp only [nodesL, nodesK, List.append_assoc] at hd
  refine (List.nodup_append.1 hd).2.2 n hf n ?_ rfl
  simp only [List.mem_append]
  exact h'
theorem getD_set' (l : List Int) (j i : Nat) (v : Int) (hj : j < l.length) : (l.set j v).getD i 0 = if i = j then v else l.getD i 0 := by
  rw [List.getD_eq_getElem?_getD, List.getElem?_set]
  by_cases h : j = i
  · subst h; rw [if_pos rfl, if_pos hj, if_pos rfl]; rfl
  · rw [if_neg h, if_neg (Ne.symm h), List.getD_eq_getElem?_getD]
/-- a node that waits behind a worker's pin -/
structure SafeI (h : Nat) (p N n : Int) (e : Ep) : Prop where
  right : RightE e
  hl : h < e.pins.length
  pin : e.pins.getD h 0 = p
  p0 : p ≠ 0
  pN : p ≤ N + 1
  now : e.now = N ∨ e.now = N + 1
  mem : n ∈ lim e (N % 3)
section
variable {h : Nat} {p N n : Int} {e : Ep}
theorem SafeI.nfree (s : SafeI h p N n e) : n ∉ e.free := lim_nfree s.right s.mem
theorem SafeI.dopin (s : SafeI h p N n e) (i : Int) : SafeI h p N n (pinE e i).1 := by
  rcases pin_cases e i with ⟨h1, _⟩ | ⟨j, _, hj, hz, _, h1⟩
  · rw [h1]; exact s
  · rw [h1]
    have hjh : h ≠ j := fun k => s.p0 (by rw [← s.pin, k]; exact hz)
    exact ⟨right_set s.right j _ (.inr (.inr rfl)), by rw [List.length_set]; exact s.hl, by show (e.pins.set j _).getD h 0 = p; rw [getD_set' _ _ _ _ hj, if_neg hjh]; exact s.pin, s.p0, s.pN, s.now, s.mem⟩
theorem SafeI.dounpin (s : SafeI h p N n e) (i : Int) (hi : i ≠ h) : SafeI h p N n (unpinE e i).1 := by
  rcases unpin_cases e i with ⟨h1, _⟩ | ⟨j, hij, hj, hz, _, h1⟩
  · rw [h1]; exact s
  · rw [h1]
    have hjh : h ≠ j := fun k => hi (by rw [hij, k])
    exact ⟨right_set s.right j _ (.inl rfl), by rw [List.length_set]; exact s.hl, by show (e.pins.set j _).getD h 0 = p; rw [getD_set' _ _ _ _ hj, if_neg hjh]; exact s.pin, s.p0, s.pN, s.now, s.mem⟩
theorem SafeI.doretire (s : SafeI h p N n e) (i m : Int) : SafeI h p N n (retireE e i m).1 := by
  rcases retire_cases e i m with ⟨h1, _⟩ | ⟨j, _, _, _, _, hp, hne, hl, h1⟩
  · rw [h1]; exact s
  · rw [h1]
    obtain ⟨a1, a2, _⟩ := addL_now e (e.now % 3) m
    refine ⟨right_addL s.right _ m hp hne hl, by rw [a2]; exact s.hl, by rw [a2]; exact s.pin, s.p0, s.pN, by rw [a1]; exact s.now, ?_⟩
    rw [lim_addL e _ m _ (mod3 _) (mod3 _)]
    split
    · exact List.mem_append_left _ s.mem
    · exact s.mem
theorem SafeI.doadvance (s : SafeI h p N n e) : SafeI h p N n (advanceE e).1 := by
  rcases advance_cases e with ⟨h1, _⟩ | ⟨_, hb, h1⟩
  · rw [h1]; exact s
  · rw [h1]
    obtain ⟨a1, a2⟩ := advT_now e
    have hr := right_advT s.right hb
    unfold blockedB behindB at hb
    rw [Bool.or_eq_false_iff, List.any_eq_false] at hb
    have hpm : p ∈ e.pins := s.pin ▸ mem_getD e.pins 0 h s.hl
    have hb1 := hb.1 p hpm
    simp only [decide_eq_true_eq] at hb1
    have p0 := s.p0
    have pN := s.pN
    have hN : e.now = N := by have := s.now; omega
    refine ⟨hr, by rw [a2]; exact s.hl, by rw [a2]; exact s.pin, s.p0, s.pN, by rw [a1]; omega, ?_⟩
    rw [lim_advT e _ (mod3 _), if_neg (by omega)]
    exact s.mem
theorem SafeI.dotake (s : SafeI h p N n e) : SafeI h p N n (takeE e).1 := by
  rcases take_cases e with ⟨h1, _⟩ | ⟨_, hf, h1⟩
  · rw [h1]; exact s
  · rw [h1]; exact ⟨right_take s.right hf, s.hl, s.pin, s.p0, s.pN, s.now, s.mem⟩
theorem SafeI.taken (s : SafeI h p N n e) (hn : 0 < n) : (takeE e).2.1 ≠ n := by
  rcases take_cases e with ⟨_, _, h1⟩ | ⟨_, hf, h1⟩
  · rw [h1]; omega
  · rw [h1]
    intro k
    refine s.nfree (k ▸ mem_getD e.free 0 0 ?_)
    exact List.length_pos_iff.2 hf
theorem SafeI.start (hr : RightE e) {w : Nat} (hl : h < e.pins.length) (hp : e.pins.getD h 0 ≠ 0) (hw : w < e.pins.length) (hpw : e.pins.getD w 0 ≠ 0) (hn : nodeP n) (hne : n ∉ nodesL e) (hlen : (nodesL e).length < 1000) :
    retireE e w n = (addL e (e.now % 3) n, 0) ∧ SafeI h (e.pins.getD h 0) e.now n (addL e (e.now % 3) n) := by
  refine ⟨retire_ok hr hw hpw hn hne hlen, ?_⟩
  obtain ⟨a1, a2, _⟩ := addL_now e (e.now % 3) n
  have hpp := hr.2.2.1 _ (mem_getD e.pins 0 h hl)
  unfold pinP at hpp
  refine ⟨right_addL hr _ n hn hne hlen, by rw [a2]; exact hl, by rw [a2], hp, by omega, .inl (by rw [a1]), ?_⟩
  rw [lim_addL e _ n _ (mod3 _) (mod3 _), if_pos rfl]
  simp
end
/-- reachable epochs: one list of Limbo is empty -/
def Gap (e : Ep) : Prop := lim e ((e.now + 1) % 3) = []
theorem gap_addL {e : Ep} (h : Gap e) (n : Int) : Gap (addL e (e.now % 3) n) := by
  unfold Gap
  rw [(addL_now e _ n).1, lim_addL e _ n _ (mod3 _) (mod3 _), if_neg (by omega)]
  exact h
theorem gap_advT (e : Ep) : Gap (advT e) := by
  unfold Gap
  rw [(advT_now e).1, lim_advT e _ (mod3 _), if_pos (by omega)]
theorem gap_step {e : Ep} (h : Gap e) (x : Int × Int × Int) : Gap (stepE e x) := by
  unfold stepE
  split
  · rcases pin_cases e (pick x.2.1 5) with ⟨h1, _⟩ | ⟨j, _, _, _, _, h1⟩ <;> rw [h1] <;> exact h
  · split
    · rcases unpin_cases e (pick x.2.1 5) with ⟨h1, _⟩ | ⟨j, _, _, _, _, h1⟩ <;> rw [h1] <;> exact h
    · split
      · rcases retire_cases e (pick x.2.1 5) (pick x.2.2 20) with ⟨h1, _⟩ | ⟨j, _, _, _, _, _, _, _, h1⟩ <;> rw [h1]
        · exact h
        · exact gap_addL h _
      · split
        · rcases advance_cases e with ⟨h1, _⟩ | ⟨_, _, h1⟩ <;> rw [h1]
          · exact h
          · exact gap_advT e
        · rcases take_cases e with ⟨h1, _⟩ | ⟨_, _, h1⟩ <;> rw [h1] <;> exact h
theorem gap_new (w : Int) : Gap (newE w) := by
  unfold newE Gap
  split <;> rfl
theorem gap_epochs (w : Int) (L : List (Int × Int × Int)) : Gap (epochsE w L) := by
  unfold epochsE epAt
  generalize L.take (min L.length 40) = M
  have : ∀ (M : List (Int × Int × Int)) e, Gap e → Gap (M.foldl stepE e) := by
    intro M
    induction M with
    | nil => exact fun e h => h
    | cons x M ih => exact fun e h => ih _ (gap_step h x)
  exact this M _ (gap_new _)
/-- all workers' pins are taken back, one after the other -/
def unp (E : Ep) : Nat → Ep
  | 0 => E
  | k + 1 => if (unp E k).pins.getD k 0 ≠ 0 then (unpinE (unp E k) k).1 else unp E k
theorem unp_inv {w k : Nat} {m : Int} {E : Ep} (h : EI w k m E) (j : Nat) (hj : j ≤ w) : EI w k m (unp E j) ∧ (∀ i, i < j → (unp E j).pins.getD i 0 = 0) ∧ unp E j = { E with pins := (unp E j).pins } ∧ (j < w → (unp E j).pins.getD j 0 ≠ 0 → (unpinE (unp E j) j).2 = 0) := by
  have last : ∀ e, EI w k m e → (j < w → e.pins.getD j 0 ≠ 0 → (unpinE e j).2 = 0) := fun e h hj hp => by
    rw [unpin_ok h.right (by rw [h.wl]; exact hj) hp]
  induction j with
  | zero => exact ⟨h, fun i hi => by omega, rfl, last _ h⟩
  | succ j ih =>
    obtain ⟨h1, h2, h3, _⟩ := ih (by omega) fun e h hj hp => by rw [unpin_ok h.right (by rw [h.wl]; exact hj) hp]
    have hE : EI w k m (unp E (j + 1)) := by
      show EI w k m (if (unp E j).pins.getD j 0 ≠ 0 then (unpinE (unp E j) j).1 else unp E j)
      split
      · exact h1.unpin _
      · exact h1
    refine ⟨hE, fun i hi => ?_, ?_, last _ hE⟩
    · show (if (unp E j).pins.getD j 0 ≠ 0 then (unpinE (unp E j) j).1 else unp E j).pins.getD i 0 = 0
      have hjl : j < (unp E j).pins.length := by rw [h1.wl]; omega
      split
      · rename_i hp
        rw [unpin_ok h1.right hjl hp]
        show ((unp E j).pins.set j 0).getD i 0 = 0
        rw [getD_set' _ _ _ _ hjl]
        split
        · rfl
        · exact h2 i (by omega)
      · rename_i hp
        rcases Nat.lt_or_ge i j with h4 | h4
        · exact h2 i h4
        · have : i = j := by omega
          subst this
          exact Classical.byContradiction hp
    · show (if (unp E j).pins.getD j 0 ≠ 0 then (unpinE (unp E j) j).1 else unp E j) = { E with pins := (if (unp E j).pins.getD j 0 ≠ 0 then (unpinE (unp E j) j).1 else unp E j).pins }
      split
      · rename_i hp
        rw [unpin_ok h1.right (by rw [h1.wl]; omega) hp]
        rw [h3]
      · exact h3
theorem unp_all {w k : Nat} {m : Int} {E : Ep} (h : EI w k m E) : ∀ p ∈ (unp E w).pins, p = 0 := fun p hp => by
  obtain ⟨h1, h2, _⟩ := unp_inv h w (Nat.le_refl _)
  obtain ⟨i, hi, rfl⟩ := List.getElem_of_mem hp
  have := h2 i (by rw [← h1.wl]; exact hi)
  rw [List.getD_eq_getElem?_getD, List.getElem?_eq_getElem hi] at this
  exact this
end Go.Proofs.Ytmhepmocnnlhnaa.Ab
