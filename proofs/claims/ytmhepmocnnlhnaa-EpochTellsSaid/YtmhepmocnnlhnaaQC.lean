/- Sorting and compacting, told of values. -/
import Derived.Test.YtmhepmocnnlhnaaQB
import Derived.Test.YtmhepmocnnlhnaaFF
import Derived.Sort.OwnSortedInts
namespace Go.Proofs.Ytmhepmocnnlhnaa.Ab
open Go Go.RowKit
abbrev iblk (xs : List Int) : Blk := ⟨3, 1, xs.length, fun i => [.i (xs.getD i 0)]⟩
theorem vrels_one {U : Nat → Prop} {φ : Pl} {V : Nat → Prop} {w : World} {a : AV} {us : List Value} (h : VRels U φ V w [a] us) : ∃ u, us = [u] ∧ VRel U φ V w a u := by
  obtain ⟨h1, h2⟩ := h
  match us, h1 with
  | [u], _ => exact ⟨u, rfl, h2 0 _ u rfl rfl⟩
section
variable {k0 B : Nat} {U : Nat → Prop} {φ : Pl} {V : Nat → Prop} {w : World} {H : AH}
theorem good_in (hh : HRel U φ V w H) : Good H.length w.heap.size U φ V w H := ⟨hh, Nat.le_refl _, fun id hk hl => absurd hl.lt (by omega), Nat.le_refl _⟩
/-- a block's cells are written anew; others may come behind -/
theorem set_step' (g : Good k0 B U φ V w H) {id : Nat} {b b' : Blk} (hb : H[id]? = some (some b)) {w' : World} (hos : w'.os = w.os) (htape : w'.tape = w.tape) (hout : w'.output = w.output) (hsz : w.heap.size ≤ w'.heap.size)
    (hblk : ∀ k, k < w.heap.size → k ≠ (φ id).1 → w'.heap[k]? = w.heap[k]?) (hnew : (∀ x v, VRel U φ V w x v → VRel U φ V w' x v) → BlkRel U φ V w' (φ id) b') :
    Good k0 B U φ V w' (H.set id (some b')) ∧ Step B U φ V w H U φ V w' (H.set id (some b')) := by
  have hlive : Live H id := ⟨b, hb⟩
  have hlt := hlive.lt
  have hliv : ∀ j, Live (H.set id (some b')) j → Live H j := by
    rintro j ⟨x, hx⟩
    rw [List.getElem?_set] at hx
    split at hx
    · rename_i e; subst e; exact hlive
    · exact ⟨x, hx⟩
  have blt : ∀ j b, H[j]? = some (some b) → (φ j).1 < w.heap.size := fun j b hb => by
    obtain ⟨cur, hc, _⟩ := g.heap.blk j b hb
    exact (Array.getElem?_eq_some_iff.1 hc).1
  have vk : ∀ x, V x → w'.heap[x]? = w.heap[x]? := fun x hx => hblk x (g.heap.vlt x hx) (fun e => g.heap.apart id hlive (e ▸ hx))
  have vup : ∀ x v, VRel U φ V w x v → VRel U φ V w' x v := fun x v h => h.up (fun _ h => h) (fun _ _ => rfl) (fun _ h => h) vk
  have st : Step B U φ V w H U φ V w' (H.set id (some b')) := ⟨hos, htape, hout, hsz, fun x hx hl => hblk x hx (fun e => hl id hlive e.symm), fun _ h => h, fun _ _ h => h, fun _ _ => rfl, by simp, fun _ h => h, fun _ h => .inl h, fun j _ h => hliv j h, fun j h => .inl ⟨j, hliv j h, rfl⟩⟩
  refine ⟨⟨⟨fun j x hx => ?_, fun j j' h h' e => g.heap.inj j j' (hliv j h) (hliv j' h') e, fun j h => g.heap.apart j (hliv j h), fun x h => Nat.lt_of_lt_of_le (g.heap.vlt x h) hsz, fun j h => by simpa using g.heap.ult j h, g.heap.tabs st⟩, Nat.le_trans g.base hsz, fun j hk h => g.own j hk (hliv j h), by simpa using g.ownk⟩, st⟩
  rw [List.getElem?_set] at hx
  split at hx
  · rename_i e; subst e
    cases hx
    exact hnew vup
  · rename_i hne
    refine (g.heap.blk j x hx).up (hblk _ (blt j x hx) fun e => hne ?_) vup
    exact (g.heap.inj j id ⟨x, hx⟩ hlive e).symm
end
/-- a contract of the machine's that turns a row of numbers -/
theorem sc_row {f : FuncId} (hok : fnOK Try.prog f = true) {H : AH} {id : Nat} {zs zs' : List Int} (hb : H[id]? = some (some (iblk zs))) (hl : zs'.length = zs.length) {r : AV} {v : Nat → Nat → Value}
    (hC : ∀ (w : World) (blk cap : Nat), Sort.Holds (Value.int .i64) w blk 0 zs.toArray → blk < w.heap.size → zs.length ≤ cap → Calls Try.prog f #[.slice (some ⟨blk, 0, none⟩) zs.length cap] w fun e w' => e = .returned (v blk cap) ∧ ∃ n os, w' = Sort.grow (Sort.putRow (Value.int .i64) (Sort.ahead w n) blk 0 zs'.toArray) os)
    (hr : ∀ U φ V w, U id → zs.length ≤ (φ id).2 → VRel U φ V w r (v (φ id).1 (φ id).2)) :
    SC true Try.prog f [.arr id 1 0 zs.length] H (fun r' H' => r' = r ∧ H' = H.set id (some (iblk zs'))) := by
  refine ⟨hok, fun U φ V w ca hh ha => ?_⟩
  obtain ⟨u, rfl, hu⟩ := vrels_one ha
  obtain ⟨o, rfl, hid, hcap, ho⟩ := hu.inv_arr
  have ho0 : o = 0 := by rcases ho with h | h <;> omega
  subst ho0
  obtain ⟨cur, hc, hcs, hn, hm, hbl, hcell⟩ := hh.blk id _ hb
  have hcs' : cur.size = (φ id).2 := by rw [hcs]; exact Nat.mul_one _
  have hcap' : zs.length ≤ (φ id).2 := hn
  have htake : cur.toList.take zs.length = zs.map (Value.int .i64) := by
    apply List.ext_getElem?
    intro j
    by_cases hj : j < zs.length
    · obtain ⟨u, k1, _, k3⟩ := hcell j 0 (.i (zs.getD j 0)) hj rfl
      rw [k3.inv_p] at k1
      rw [List.getElem?_take_of_lt hj, Array.getElem?_toList, List.getElem?_map, List.getElem?_eq_getElem hj]
      have e : j * (iblk zs).sz + 0 = j := by show j * 1 + 0 = j; omega
      rw [e] at k1
      rw [k1, List.getD_eq_getElem?_getD, List.getElem?_eq_getElem hj]
      rfl
    · rw [List.getElem?_take_eq_none (by omega), List.getElem?_eq_none (by simp; omega)]
  have hH := holds_of_blockI (ss := zs) hc htake
  have hlt := (Array.getElem?_eq_some_iff.1 hc).1
  refine (hC w _ _ hH hlt (by omega)).mono ?_
  rintro e w' ⟨rfl, n, os, rfl⟩
  have hgr := grownBy_sortedI (w := w) (g := (φ id).1) (n := n) (os := os) zs'.toArray
  have hhs := heap_sortedI (n := n) (os := os) zs'.toArray hc
  obtain ⟨g2, s2⟩ := set_step' (b' := iblk zs') (good_in hh) hb (w' := Sort.grow (Sort.putRow (Value.int .i64) (Sort.ahead w n) (φ id).1 0 zs'.toArray) os) rfl rfl rfl (by simp) (fun k hk hne => hgr.block k hk (fun e => hne (Option.some.inj e))) (fun _ => by
    refine ⟨_, hhs, by show (Sort.putCells _ _ _ cur).size = (φ id).2 * 1; simp [Sort.putCells, hcs'], by show zs'.length ≤ _; omega, hm, fun i _ => rfl, fun i j x hi hx => ?_⟩
    have hi' : i < zs'.length := hi
    rcases j with _ | j
    · have hx : some (AV.i (zs'.getD i 0)) = some x := hx
      cases hx
      refine ⟨.int .i64 (zs'.getD i 0), ?_, rfl, .p _⟩
      have e : i * (iblk zs').sz + 0 = i := by show i * 1 + 0 = i; omega
      rw [e]
      have ht := take_putCellsI cur zs' (by omega)
      have h1 : ((Sort.putCells (Value.int .i64) 0 zs'.toArray cur).toList.take zs'.length)[i]? = (zs'.map (Value.int .i64))[i]? := by rw [ht]
      rw [List.getElem?_take_of_lt hi', Array.getElem?_toList] at h1
      rw [h1, List.getElem?_map, List.getD_eq_getElem?_getD, List.getElem?_eq_getElem hi']
      rfl
    · have hx : ([] : List AV)[j]? = some x := hx
      simp at hx)
  exact ⟨_, rfl, r, U, φ, V, _, ⟨rfl, rfl⟩, g2, hr _ _ _ _ hid hcap', s2⟩
/-- .. that leaves memory alone -/
theorem sc_still {f : FuncId} (hok : fnOK Try.prog f = true) {a r : AV} (hC : ∀ U φ V w u, VRel U φ V w a u → ∃ v, VRel U φ V w r v ∧ Calls Try.prog f #[u] w fun e w' => e = .returned v ∧ w' = w) : PS Try.prog f [a] r := by
  refine fun H => ⟨hok, fun U φ V w ca hh ha => ?_⟩
  obtain ⟨u, rfl, hu⟩ := vrels_one ha
  obtain ⟨v, hv, hc⟩ := hC U φ V w u hu
  refine hc.mono ?_
  rintro e w' ⟨rfl, rfl⟩
  exact ⟨v, rfl, r, U, φ, V, H, ⟨rfl, rfl⟩, good_in hh, hv, Step.refl ..⟩
abbrev sortL (zs : List Int) : List Int := zs.mergeSort fun x y => decide (x ≤ y)
theorem sort_s {H : AH} {id : Nat} {zs : List Int} (hb : H[id]? = some (some (iblk zs))) (hz : zs.length < 4611686018427387904) :
    SC true Try.prog 44 [.arr id 1 0 zs.length] H (fun r H' => r = .tup [] ∧ H' = H.set id (some (iblk (sortL zs)))) :=
  sc_row (v := fun _ _ => .tuple #[]) (by kernel_rfl) hb (by simp) (fun w blk cap hH hlt _ => Try.slices_Sort_int blk 0 cap zs w hH hlt hz) (fun U φ V w _ _ => .tup [] [] rfl fun i x u hx => by simp at hx)
theorem sort0_s (t : Bool) (g : Nat → List AV) : PS Try.prog 44 [.lst t 1 0 g] (.tup []) :=
  sc_still (by kernel_rfl) fun U φ V w u hu => by
    obtain ⟨a, c, rfl, _⟩ := hu.inv_lst
    exact ⟨_, .tup [] [] rfl fun i x u hx => by simp at hx, Try.slices_Sort_int_none a c w⟩
def compL (zs : List Int) : List Int := Lib.compact zs ++ List.replicate (zs.length - (Lib.compact zs).length) 0
theorem compact_le (zs : List Int) : (Lib.compact zs).length ≤ zs.length := by
  unfold Lib.compact Lib.compactUpTo
  rw [List.length_map]
  exact Nat.le_trans (List.length_filter_le _ _) (by simp)
theorem compL_len (zs : List Int) : (compL zs).length = zs.length := by
  have := compact_le zs
  unfold compL
  rw [List.length_append, List.length_replicate]
  omega
theorem compact_s {H : AH} {id : Nat} {zs : List Int} (hb : H[id]? = some (some (iblk zs))) (hz : zs.length ≤ 9223372036854775807) :
    SC true Try.prog 45 [.arr id 1 0 zs.length] H (fun r H' => r = .arr id 1 0 (Lib.compact zs).length ∧ H' = H.set id (some (iblk (compL zs)))) :=
  sc_row (v := fun b c => .slice (some ⟨b, 0, none⟩) (Lib.compact zs).length c) (by kernel_rfl) hb (compL_len zs) (fun w blk cap hH hlt hcap => (Try.slices_Compact_int blk 0 cap zs w hH hz hcap).mono fun e w' ⟨he, q, hw⟩ => ⟨he, q, #[], by rw [Sort.grow_empty]; exact hw⟩)
    (fun U φ V w hu hc => .arr id 1 0 _ 0 hu (by have := compact_le zs; omega) (.inl rfl))
theorem compact0_s (t : Bool) (g : Nat → List AV) : PS Try.prog 45 [.lst t 1 0 g] (.lst false 1 0 g) :=
  sc_still (by kernel_rfl) fun U φ V w u hu => by
    obtain ⟨a, c, rfl, _, h2, _⟩ := hu.inv_lst
    exact ⟨_, .lst0 _ _ _ _ _ h2 (fun h => by cases h), Try.slices_Compact_int_empty a c w⟩
end Go.Proofs.Ytmhepmocnnlhnaa.Ab
