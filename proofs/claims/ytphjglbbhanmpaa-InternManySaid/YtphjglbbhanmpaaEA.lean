/- An abstract view of memory: values that stand for Go's, lists that never change, and blocks that may. -/
import Derived.WalkKit
import Derived.Deep.RegionHeld3
import Derived.Deep.MidRow
--
namespace Go.Proofs.Ytphjglbbhanmpaa.Ab
open Go Go.RowKit

/-- abstract values -/
inductive AV where
  | p (v : Value)
  | agg (cs : List AV)
  | tup (vs : List AV)
  | lst (tight : Bool) (sz n : Nat) (g : Nat → List AV)
  | fref (cs : List AV)
  | ref (id sz i off : Nat)
  | arr (id sz i n : Nat)
  | sub (id sz i off n : Nat)
  | fn (f : Fn) (first captured : List AV)
  | mp (ks : List Value) (vs : List AV)
  | any
abbrev AV.i (n : Int) : AV := .p (.int .i64 n)
abbrev AV.b (b : Bool) : AV := .p (.bool b)

/-- the concrete place of a block that may change: which block, how many elements it has room for -/
abbrev Pl := Nat → Nat × Nat

/-- a value stands for another one; U: the names that are known; V: the blocks that never change -/
inductive VRel (U : Nat → Prop) (φ : Pl) (V : Nat → Prop) (w : World) : AV → Value → Prop
  | p (v : Value) : VRel U φ V w (.p v) v
  | agg (cs : List AV) (us : List Value) : us.length = cs.length → (∀ u ∈ us, u.oneCell' = true) →
      (∀ (i : Nat) x u, cs[i]? = some x → us[i]? = some u → VRel U φ V w x u) → VRel U φ V w (.agg cs) (.agg us.toArray)
  | tup (cs : List AV) (us : List Value) : us.length = cs.length →
      (∀ (i : Nat) x u, cs[i]? = some x → us[i]? = some u → VRel U φ V w x u) → VRel U φ V w (.tup cs) (.tuple us.toArray)
  | lst0 (tight : Bool) (sz : Nat) (g : Nat → List AV) (a : Option Addr) (c : Nat) : c ≤ maxLen → (tight = true → c = 0) → VRel U φ V w (.lst tight sz 0 g) (.slice a 0 c)
  | lst (tight : Bool) (sz n : Nat) (g : Nat → List AV) (b off c : Nat) (cur : Array Value) (e : TypeId) (fz : Nat × Nat) (us : Nat → Nat → Value) :
      n ≤ c → c ≤ maxLen → (tight = true → c = n) → V b → w.heap[b]? = some (.cells cur e fz) →
      (∀ i, i < n → (g i).length = sz) →
      (∀ (i j : Nat) x, i < n → (g i)[j]? = some x → cur[off + i * sz + j]? = some (us i j) ∧ (us i j).oneCell' = true) →
      (∀ (i j : Nat) x, i < n → (g i)[j]? = some x → VRel U φ V w x (us i j)) →
      VRel U φ V w (.lst tight sz n g) (.slice (some ⟨b, off, none⟩) n c)
  | fref (cs : List AV) (b off : Nat) (cur : Array Value) (e : TypeId) (fz : Nat × Nat) (us : Nat → Value) :
      V b → w.heap[b]? = some (.cells cur e fz) →
      (∀ (j : Nat) x, cs[j]? = some x → cur[off + j]? = some (us j) ∧ (us j).oneCell' = true) →
      (∀ (j : Nat) x, cs[j]? = some x → VRel U φ V w x (us j)) →
      VRel U φ V w (.fref cs) (.pointer (some ⟨b, off, none⟩))
  | ref (id sz i off : Nat) : U id → VRel U φ V w (.ref id sz i off) (.pointer (some ⟨(φ id).1, i * sz + off, none⟩))
  | arr (id sz i n o : Nat) : U id → i + n ≤ (φ id).2 → (o = i * sz ∨ ((φ id).2 = i ∧ 0 < i)) → VRel U φ V w (.arr id sz i n) (.slice (some ⟨(φ id).1, o, none⟩) n ((φ id).2 - i))
  | sub (id sz i off n c : Nat) : U id → n ≤ c → VRel U φ V w (.sub id sz i off n) (.slice (some ⟨(φ id).1, i * sz + off, none⟩) n c)
  | fn (f : Fn) (fs cs : List AV) (us vs : List Value) : us.length = fs.length → vs.length = cs.length →
      (∀ (i : Nat) x u, fs[i]? = some x → us[i]? = some u → VRel U φ V w x u) → (∀ (i : Nat) x u, cs[i]? = some x → vs[i]? = some u → VRel U φ V w x u) →
      VRel U φ V w (.fn f fs cs) (.func f us.toArray vs.toArray)
  | mp (ks : List Value) (vs : List AV) (b : Nat) (es : Array MapEntry) (clock : Nat) (us : List Value) : V b → w.heap[b]? = some (.map es clock) → us.length = vs.length →
      (∀ e ∈ es.toList, ∃ i : Nat, ks[i]? = some e.key ∧ us[i]? = some e.val) → (∀ k ∈ ks, ∃ e ∈ es.toList, e.key = k) →
      (∀ (i : Nat) x u, vs[i]? = some x → us[i]? = some u → VRel U φ V w x u) → VRel U φ V w (.mp ks vs) (.map (some b))
  | any (v : Value) : VRel U φ V w .any v

/-- lists of values, one by one -/
def VRels (U : Nat → Prop) (φ : Pl) (V : Nat → Prop) (w : World) (cs : List AV) (us : List Value) : Prop :=
  us.length = cs.length ∧ ∀ (i : Nat) x u, cs[i]? = some x → us[i]? = some u → VRel U φ V w x u

/-- a block that may change: n elements, g tells each one's cells -/
structure Blk where
  ety : TypeId
  sz : Nat
  n : Nat
  g : Nat → List AV
abbrev AH := List (Option Blk)
def Live (H : AH) (id : Nat) : Prop := ∃ b, H[id]? = some (some b)
theorem Live.lt {H : AH} {id : Nat} (h : Live H id) : id < H.length := by
  obtain ⟨b, h⟩ := h; exact (List.getElem?_eq_some_iff.1 h).1

def BlkRel (U : Nat → Prop) (φ : Pl) (V : Nat → Prop) (w : World) (pl : Nat × Nat) (b : Blk) : Prop :=
  ∃ cur : Array Value, w.heap[pl.1]? = some (.cells cur b.ety (0, 0)) ∧ cur.size = pl.2 * b.sz ∧ b.n ≤ pl.2 ∧ pl.2 ≤ maxLen ∧
    (∀ i, i < b.n → (b.g i).length = b.sz) ∧
    ∀ (i j : Nat) x, i < b.n → (b.g i)[j]? = some x → ∃ u, cur[i * b.sz + j]? = some u ∧ u.oneCell' = true ∧ VRel U φ V w x u
def TabV (_ : Nat → Prop) (_ : World) : Prop := True
theorem TabV.up {V V' : Nat → Prop} {w w' : World} (_ : TabV V w) (_ : ∀ b, V b → V' b) (_ : ∀ b, V b → w'.heap[b]? = w.heap[b]?) : TabV V' w' := True.intro
structure HRel (U : Nat → Prop) (φ : Pl) (V : Nat → Prop) (w : World) (H : AH) : Prop where
  blk : ∀ (id : Nat) b, H[id]? = some (some b) → BlkRel U φ V w (φ id) b
  inj : ∀ id id', Live H id → Live H id' → (φ id).1 = (φ id').1 → id = id'
  apart : ∀ id, Live H id → ¬ V (φ id).1
  vlt : ∀ b, V b → b < w.heap.size
  ult : ∀ id, U id → id < H.length
  tab : TabV V w

/-- how a world may go on; B: the blocks of those who called -/
structure Step (B : Nat) (U : Nat → Prop) (φ : Pl) (V : Nat → Prop) (w : World) (H : AH) (U' : Nat → Prop) (φ' : Pl) (V' : Nat → Prop) (w' : World) (H' : AH) : Prop where
  os : w'.os = w.os
  tape : w'.tape = w.tape
  output : w'.output = w.output
  size : w.heap.size ≤ w'.heap.size
  block : ∀ b, b < w.heap.size → (∀ id, Live H id → (φ id).1 ≠ b) → w'.heap[b]? = w.heap[b]?
  keep : ∀ b, V b → V' b
  old : ∀ b, b < B → V' b → V b
  name : ∀ id, id < H.length → φ' id = φ id
  len : H.length ≤ H'.length
  know : ∀ id, U id → U' id
  unew : ∀ id, U' id → U id ∨ H.length ≤ id
  dead : ∀ id, id < H.length → Live H' id → Live H id
  live : ∀ id, Live H' id → (∃ id', Live H id' ∧ (φ id').1 = (φ' id).1) ∨ w.heap.size ≤ (φ' id).1

theorem Step.refl (B : Nat) (U : Nat → Prop) (φ : Pl) (V : Nat → Prop) (w : World) (H : AH) : Step B U φ V w H U φ V w H :=
  ⟨rfl, rfl, rfl, Nat.le_refl _, fun _ _ _ => rfl, fun _ h => h, fun _ _ h => h, fun _ _ => rfl, Nat.le_refl _, fun _ h => h, fun _ h => .inl h, fun _ _ h => h, fun id h => .inl ⟨id, h, rfl⟩⟩
theorem Step.trans {B : Nat} {φ φ1 φ2 : Pl} {U U1 U2 V V1 V2 : Nat → Prop} {w w1 w2 : World} {H H1 H2 : AH} (a : Step B U φ V w H U1 φ1 V1 w1 H1) (b : Step B U1 φ1 V1 w1 H1 U2 φ2 V2 w2 H2) : Step B U φ V w H U2 φ2 V2 w2 H2 := by
  refine ⟨b.os.trans a.os, b.tape.trans a.tape, b.output.trans a.output, Nat.le_trans a.size b.size, ?_, fun x h => b.keep x (a.keep x h), fun x hx h => a.old x hx (b.old x hx h), fun id h => (b.name id (Nat.lt_of_lt_of_le h a.len)).trans (a.name id h), Nat.le_trans a.len b.len, fun id h => b.know id (a.know id h), fun id h => (b.unew id h).elim (fun h => a.unew id h) (fun h => .inr (Nat.le_trans a.len h)), fun id h hl => a.dead id h (b.dead id (Nat.lt_of_lt_of_le h a.len) hl), ?_⟩
  · intro x hx hl
    refine (b.block x (Nat.lt_of_lt_of_le hx a.size) ?_).trans (a.block x hx hl)
    intro id hid he
    rcases a.live id hid with ⟨id', hl', e⟩ | h
    · exact hl id' hl' (e.trans he)
    · omega
  · intro id hid
    rcases b.live id hid with ⟨id', hl', e⟩ | h
    · rcases a.live id' hl' with ⟨id2, hl2, e2⟩ | h
      · exact .inl ⟨id2, hl2, e2.trans e⟩
      · exact .inr (e ▸ h)
    · exact .inr (Nat.le_trans a.size h)
theorem Step.mono {B B' : Nat} {φ φ' : Pl} {U U' V V' : Nat → Prop} {w w' : World} {H H' : AH} (a : Step B U φ V w H U' φ' V' w' H') (h : B' ≤ B) : Step B' U φ V w H U' φ' V' w' H' :=
  ⟨a.os, a.tape, a.output, a.size, a.block, a.keep, fun b hb => a.old b (Nat.lt_of_lt_of_le hb h), a.name, a.len, a.know, a.unew, a.dead, a.live⟩

/-- what stands for a value goes on to do so -/
theorem VRel.up {φ φ' : Pl} {U U' V V' : Nat → Prop} {w w' : World} {x : AV} {v : Value} (h : VRel U φ V w x v)
    (hk : ∀ id, U id → U' id) (hname : ∀ id, U id → φ' id = φ id) (hkeep : ∀ b, V b → V' b) (hblock : ∀ b, V b → w'.heap[b]? = w.heap[b]?) : VRel U' φ' V' w' x v := by
  induction h with
  | p v => exact .p v
  | agg cs us hl h1 h ih => exact .agg cs us hl h1 ih
  | tup cs us hl h ih => exact .tup cs us hl ih
  | lst0 t sz g a c h0 h1 => exact .lst0 t sz g a c h0 h1
  | lst t sz n g b off c cur e fz us h1 h2 h3 hV hb hg hc h ih => exact .lst t sz n g b off c cur e fz us h1 h2 h3 (hkeep b hV) ((hblock b hV).trans hb) hg hc ih
  | fref cs b off cur e fz us hV hb hc h ih => exact .fref cs b off cur e fz us (hkeep b hV) ((hblock b hV).trans hb) hc ih
  | ref id sz i off hid => rw [← hname id hid]; exact .ref id sz i off (hk id hid)
  | arr id sz i n o hid h1 h2 => rw [← hname id hid] at h1 h2 ⊢; exact .arr id sz i n o (hk id hid) h1 h2
  | sub id sz i off n c hid h1 => rw [← hname id hid]; exact .sub id sz i off n c (hk id hid) h1
  | fn f fs cs us vs h1 h2 _ _ ih1 ih2 => exact .fn f fs cs us vs h1 h2 ih1 ih2
  | mp ks vs b es clock us hV hb hl h1 h2 _ ih => exact .mp ks vs b es clock us (hkeep b hV) ((hblock b hV).trans hb) hl h1 h2 ih
  | any v => exact .any v
theorem VRel.step {B : Nat} {φ φ' : Pl} {U U' V V' : Nat → Prop} {w w' : World} {H H' : AH} {x : AV} {v : Value} (hh : HRel U φ V w H) (s : Step B U φ V w H U' φ' V' w' H') (h : VRel U φ V w x v) : VRel U' φ' V' w' x v :=
  h.up s.know (fun id h => s.name id (hh.ult id h)) s.keep fun b hb => s.block b (hh.vlt b hb) fun id hl e => hh.apart id hl (e ▸ hb)
theorem HRel.tabs {B : Nat} {φ φ' : Pl} {U U' V V' : Nat → Prop} {w w' : World} {H H' : AH} (hh : HRel U φ V w H) (s : Step B U φ V w H U' φ' V' w' H') : TabV V' w' :=
  hh.tab.up s.keep fun b hb => s.block b (hh.vlt b hb) fun id hl e => hh.apart id hl (e ▸ hb)
theorem VRels.step {B : Nat} {φ φ' : Pl} {U U' V V' : Nat → Prop} {w w' : World} {H H' : AH} {cs : List AV} {us : List Value} (hh : HRel U φ V w H) (s : Step B U φ V w H U' φ' V' w' H') (h : VRels U φ V w cs us) : VRels U' φ' V' w' cs us :=
  ⟨h.1, fun i x u hx hu => (h.2 i x u hx hu).step hh s⟩

/-- frames: what is known of the slots -/
abbrev AF := List (Nat × AV)
def aget : AF → Nat → AV
  | [], _ => .any
  | (k, v) :: r, t => bif Nat.beq k t then v else aget r t
def avConst : Value → AV
  | .agg vs => if vs.all (·.oneCell') then .agg (vs.toList.map .p) else .any
  | v => .p v
def aev (F : AF) : Operand → AV
  | .tmp t => aget F t
  | .const v => avConst v
  | .func f => .fn (.func f) [] []
  | .global _ => .any
structure Rel (n k0 B : Nat) (U : Nat → Prop) (φ : Pl) (V : Nat → Prop) (w : World) (F : AF) (H : AH) (a : Act) : Prop where
  size : a.tmps.size = n
  defers : a.defers = []
  frame : ∀ t, VRel U φ V w (aget F t) (a.tmps.getD t undef)
  heap : HRel U φ V w H
  base : B ≤ w.heap.size
  own : ∀ id, k0 ≤ id → Live H id → B ≤ (φ id).1
  ownk : k0 ≤ H.length

theorem avConst_rel (U : Nat → Prop) (φ : Pl) (V : Nat → Prop) (w : World) (v : Value) : VRel U φ V w (avConst v) v := by
  cases v <;> try exact .p _
  case agg vs =>
    by_cases h : vs.all (·.oneCell') = true
    · rw [show avConst (.agg vs) = .agg (vs.toList.map .p) by simp only [avConst, h, if_true]]
      have h' := Array.all_eq_true_iff_forall_mem.1 h
      have := VRel.agg (U := U) (φ := φ) (V := V) (w := w) (vs.toList.map .p) vs.toList (by simp) (fun u hu => h' u (by simpa using hu)) (fun i x u hx hu => by
        rw [List.getElem?_map, hu] at hx
        cases hx; exact .p _)
      simpa using this
    · rw [show avConst (.agg vs) = .any by simp only [avConst, h]; rfl]
      exact .any _
theorem aev_rel {U : Nat → Prop} {φ : Pl} {V : Nat → Prop} {w : World} {F : AF} {a : Act} (h : ∀ t, VRel U φ V w (aget F t) (a.tmps.getD t undef)) (x : Operand) : VRel U φ V w (aev F x) (a.eval x) := by
  cases x with
  | tmp t => exact h t
  | const v => exact avConst_rel _ _ _ _ v
  | global g => exact .any _
  | func f => exact .fn (.func f) [] [] [] [] rfl rfl (fun i x u hx => by simp at hx) (fun i x u hx => by simp at hx)
theorem aget_put {U : Nat → Prop} {φ : Pl} {V : Nat → Prop} {w : World} {F : AF} {a : Act} {n d : Nat} {x : AV} {v : Value} (hn : a.tmps.size = n) (hd : d < n) (h : ∀ t, VRel U φ V w (aget F t) (a.tmps.getD t undef)) (hv : VRel U φ V w x v) :
    ∀ t, VRel U φ V w (aget ((d, x) :: F) t) ((a.put (some d) v).tmps.getD t undef) := by
  intro t
  simp only [aget, Act.put, Array.getD_eq_getD_getElem?, Array.getElem?_setIfInBounds]
  by_cases e : d = t
  · subst e
    simp [hn, hd]; exact hv
  · have : Nat.beq d t = false := by rw [← Bool.not_eq_true]; simpa using e
    simp only [this, cond_false, if_neg e, ← Array.getD_eq_getD_getElem?]
    exact h t
end Go.Proofs.Ytphjglbbhanmpaa.Ab
