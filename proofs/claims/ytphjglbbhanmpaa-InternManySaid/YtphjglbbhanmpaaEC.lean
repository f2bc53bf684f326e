/- Single operations that can be reckoned, on abstract values. -/
import Derived.Test.YtphjglbbhanmpaaEB
namespace Go.Proofs.Ytphjglbbhanmpaa.Ab
open Go Go.RowKit

def fv {β : Type} (v : AV) (k : AV → β) : β := match v with
  | .p x => k (.p x)
  | .agg cs => k (.agg cs)
  | .tup cs => k (.tup cs)
  | .lst t sz n g => k (.lst t sz n g)
  | .fref cs => k (.fref cs)
  | .ref id sz i o => k (.ref id sz i o)
  | .arr id sz i n => k (.arr id sz i n)
  | .sub id sz i o n => k (.sub id sz i o n)
  | .fn f a b => k (.fn f a b)
  | .mp a b => k (.mp a b)
  | .any => k .any
theorem fv_eq {β : Type} (v : AV) (k : AV → β) : fv v k = k v := by cases v <;> rfl
def fl {β : Type} (l : List AV) (k : List AV → β) : β := match l with
  | [] => k []
  | a :: r => fv a fun a => fl r fun r => k (a :: r)
theorem fl_eq {β : Type} (l : List AV) : ∀ (k : List AV → β), fl l k = k l := by
  induction l with
  | nil => intro k; rfl
  | cons a r ih => intro k; simp only [fl, fv_eq, ih]

/-- an int's range -/
def isBoolT (T : TT) (t : Nat) : Bool := match tget T t with
  | some i => match i.kind with
    | .bool => true
    | _ => false
  | none => false
def abin (T : TT) (ov : Bool) (op : BinOp) (t : Nat) (a b : AV) : Option (Prop × AV) :=
  match a, b with
  | .p (.int .i64 x), .p (.int .i64 y) =>
    match op with
    | .add => bif ov then some (True, .p (.int .i64 (IntKind.i64.wrap (x + y)))) else some (-9223372036854775808 ≤ x + y ∧ x + y ≤ 9223372036854775807, .p (.int .i64 (x + y)))
    | .sub => bif ov then some (True, .p (.int .i64 (IntKind.i64.wrap (x - y)))) else some (-9223372036854775808 ≤ x - y ∧ x - y ≤ 9223372036854775807, .p (.int .i64 (x - y)))
    | .mul => bif ov then some (True, .p (.int .i64 (IntKind.i64.wrap (x * y)))) else some (-9223372036854775808 ≤ x * y ∧ x * y ≤ 9223372036854775807, .p (.int .i64 (x * y)))
    | .quo => bif ov then some (y ≠ 0, .p (.int .i64 (IntKind.i64.wrap (x.tdiv y)))) else some (0 ≤ x ∧ x ≤ 9223372036854775807 ∧ 0 < y, .p (.int .i64 (x / y)))
    | .rem => bif ov then some (y ≠ 0, .p (.int .i64 (x.tmod y))) else some (0 ≤ x ∧ 0 < y, .p (.int .i64 (x % y)))
    | .eql => some (True, .p (.bool (decide (x = y))))
    | .neq => some (True, .p (.bool (decide (x ≠ y))))
    | .lss => some (True, .p (.bool (decide (x < y))))
    | .leq => some (True, .p (.bool (decide (x ≤ y))))
    | .gtr => some (True, .p (.bool (decide (y < x))))
    | .geq => some (True, .p (.bool (decide (y ≤ x))))
    | .shl => bif ov then none else some (0 ≤ y ∧ y < 63 ∧ -9223372036854775808 ≤ x * 2 ^ y.toNat ∧ x * 2 ^ y.toNat ≤ 9223372036854775807, .p (.int .i64 (x * 2 ^ y.toNat)))
    | .shr => bif ov then none else some (0 ≤ y ∧ y < 64, .p (.int .i64 (x / 2 ^ y.toNat)))
    | _ => none
  | .p (.bool x), .p (.bool y) =>
    match op with
    | .eql => bif isBoolT T t then some (True, .p (.bool (x == y))) else none
    | .neq => bif isBoolT T t then some (True, .p (.bool (x != y))) else none
    | _ => none
  | .p (.int .u8 x), .p (.int .u8 y) =>
    match op with
    | .eql => some (True, .p (.bool (decide (x = y))))
    | .neq => some (True, .p (.bool (decide (x ≠ y))))
    | .lss => some (True, .p (.bool (decide (x < y))))
    | .leq => some (True, .p (.bool (decide (x ≤ y))))
    | .gtr => some (True, .p (.bool (decide (y < x))))
    | .geq => some (True, .p (.bool (decide (y ≤ x))))
    | _ => none
  | .p (.int .i32 x), .p (.int .i32 y) =>
    match op with
    | .sub => bif ov then none else some (-2147483648 ≤ x - y ∧ x - y ≤ 2147483647, .p (.int .i32 (x - y)))
    | .eql => some (True, .p (.bool (decide (x = y))))
    | .neq => some (True, .p (.bool (decide (x ≠ y))))
    | .lss => some (True, .p (.bool (decide (x < y))))
    | .leq => some (True, .p (.bool (decide (x ≤ y))))
    | .gtr => some (True, .p (.bool (decide (y < x))))
    | .geq => some (True, .p (.bool (decide (y ≤ x))))
    | _ => none
  | .p (.string x), .p (.string y) =>
    match op with
    | .eql => some (True, .p (.bool (x.toList == y.toList)))
    | .neq => some (True, .p (.bool (!(x.toList == y.toList))))
    | .lss => some (True, .p (.bool (Op.bytesLess x.toList y.toList)))
    | .add => some (x.size + y.size ≤ 9223372036854775807, .p (.string (x ++ y)))
    | _ => none
  | _, _ => none

theorem wrap_small {n : Int} (h : -9223372036854775808 ≤ n ∧ n ≤ 9223372036854775807) : IntKind.i64.wrap n = n := by
  rw [IntKind.wrap_i64]; omega
theorem wrap_small32 {n : Int} (h : -2147483648 ≤ n ∧ n ≤ 2147483647) : IntKind.i32.wrap n = n := by
  simp [IntKind.wrap, IntKind.signed, IntKind.bits]; omega
theorem isBoolT_ok {P : Program} {T : TT} (hT : TTok P T) {t : Nat} (h : isBoolT T t = true) : P.underlying t = some .bool := by
  unfold isBoolT at h
  split at h
  · rename_i i hi
    obtain ⟨info, d, z, h1, h2, h3, h4, _⟩ := hT t i hi
    split at h
    · rename_i hk
      rw [hk] at h4
      cases d <;> simp [kindOf] at h4
      exact h2
    · cases h
  · cases h
theorem abin_ok {P : Program} {T : TT} (hT : TTok P T) {ov : Bool} {op : BinOp} {t : TypeId} {a b v : AV} {c : Prop} (h : abin T ov op t a b = some (c, v)) (hc : c) (w : World) (xo yo : Operand) :
    ∃ u ub uv : Value, a = .p u ∧ b = .p ub ∧ v = .p uv ∧ (do eqGuard op t xo yo u ub; binOp op t u ub : Sem Value).run P w = .ok uv w := by
  unfold abin at h
  split at h
  · rename_i x y
    refine ⟨.int .i64 x, .int .i64 y, ?_⟩
    cases op <;> try (cases h; done)
    case add => 
      cases ov <;> cases h
      · exact ⟨_, rfl, rfl, rfl, by simp [eqGuard, binOp, Op.intArith, wrap_small hc]⟩
      · exact ⟨_, rfl, rfl, rfl, by simp [eqGuard, binOp, Op.intArith]⟩
    case sub => 
      cases ov <;> cases h
      · exact ⟨_, rfl, rfl, rfl, by simp [eqGuard, binOp, Op.intArith, wrap_small hc]⟩
      · exact ⟨_, rfl, rfl, rfl, by simp [eqGuard, binOp, Op.intArith]⟩
    case mul => 
      cases ov <;> cases h
      · exact ⟨_, rfl, rfl, rfl, by simp [eqGuard, binOp, Op.intArith, wrap_small hc]⟩
      · exact ⟨_, rfl, rfl, rfl, by simp [eqGuard, binOp, Op.intArith]⟩
    case quo =>
      cases ov <;> cases h
      · obtain ⟨h0, h1, h2⟩ := hc
        have hy : ¬ y = 0 := by omega
        have hb : x / y ≤ x := Int.ediv_le_self _ h0
        have hb0 : 0 ≤ x / y := Int.ediv_nonneg h0 (by omega)
        exact ⟨_, rfl, rfl, rfl, by simp [eqGuard, binOp, Op.intDiv, hy, Int.tdiv_eq_ediv_of_nonneg h0, wrap_small (n := x / y) ⟨by omega, by omega⟩]⟩
      · exact ⟨_, rfl, rfl, rfl, by simp [eqGuard, binOp, Op.intDiv, hc]⟩
    case rem =>
      cases ov <;> cases h
      · have hy : ¬ y = 0 := by omega
        exact ⟨_, rfl, rfl, rfl, by simp [eqGuard, binOp, Op.intDiv, hy, Int.tmod_eq_emod_of_nonneg hc.1]⟩
      · exact ⟨_, rfl, rfl, rfl, by simp [eqGuard, binOp, Op.intDiv, hc]⟩
    case shl =>
      cases ov <;> cases h
      obtain ⟨h0, h1, h2⟩ := hc
      have hm : min y.toNat 64 = y.toNat := by omega
      exact ⟨_, rfl, rfl, rfl, by simp [eqGuard, binOp, wrap_small h2]⟩
    case shr =>
      cases ov <;> cases h
      have hm : min y.toNat 64 = y.toNat := by omega
      exact ⟨_, rfl, rfl, rfl, by simp [eqGuard, binOp]⟩
    all_goals
      cases h
      exact ⟨_, rfl, rfl, rfl, by first | rfl | (simp [eqGuard, binOp, Op.intCmp, bne]; done) | (simp [eqGuard, binOp, Op.intCmp, bne]; rfl)⟩
  · rename_i x y
    refine ⟨.bool x, .bool y, ?_⟩
    cases op <;> try (cases h; done)
    all_goals
      cases hb : isBoolT T t with
      | true =>
        rw [hb] at h; cases h
        exact ⟨_, rfl, rfl, rfl, by simp [eqGuard, run_eql_bool (h := isBoolT_ok hT hb), run_neq_bool (h := isBoolT_ok hT hb), bne]⟩
      | false => rw [hb] at h; cases h
  · rename_i x y
    refine ⟨.int .u8 x, .int .u8 y, ?_⟩
    cases op <;> try (cases h; done)
    all_goals
      cases h
      exact ⟨_, rfl, rfl, rfl, by first | rfl | (simp [eqGuard, binOp, Op.intCmp, bne]; done) | (simp [eqGuard, binOp, Op.intCmp, bne]; rfl)⟩
  · rename_i x y
    refine ⟨.int .i32 x, .int .i32 y, ?_⟩
    cases op <;> try (cases h; done)
    case sub =>
      cases ov <;> cases h
      exact ⟨_, rfl, rfl, rfl, by simp [eqGuard, binOp, Op.intArith, wrap_small32 hc]⟩
    all_goals
      cases h
      exact ⟨_, rfl, rfl, rfl, by first | rfl | (simp [eqGuard, binOp, Op.intCmp, bne]; done) | (simp [eqGuard, binOp, Op.intCmp, bne]; rfl)⟩
  · rename_i x y
    refine ⟨.string x, .string y, ?_⟩
    cases op <;> try (cases h; done)
    case add =>
      cases h
      have h2 : ¬ ((x.size : Int) + (y.size : Int) > IntKind.i64.max) := by simp only [IntKind.max, IntKind.signed, IntKind.bits]; simp; omega
      exact ⟨_, rfl, rfl, rfl, by simp [eqGuard, binOp, Op.stringOp]; omega⟩
    all_goals
      cases h
      exact ⟨_, rfl, rfl, rfl, by simp [eqGuard, binOp, Op.stringOp]⟩
  · cases h

def ahead : List AV → Option AV
  | [] => none
  | a :: _ => fv a some
/-- a part of a struct or an array, by value -/
def apart (T : TT) (t : Nat) (cs : List AV) : Option AV :=
  match tget T t with
  | none => none
  | some i => match i.kind with
    | .array _ _ | .struct _ => bif Nat.ble i.size cs.length then fl (cs.take i.size) fun l => some (.agg l) else none
    | _ => ahead cs
def acells : AV → Option (List AV)
  | .agg cs => some cs
  | .tup _ => none
  | .any => none
  | .p v => bif v.oneCell' then some [.p v] else none
  | v => fv v fun v => some [v]
def afill : List AV → Nat → List AV → List AV
  | cs, _, [] => cs
  | cs, o, x :: xs => afill (cs.set o x) (o + 1) xs
/-- the parts of a struct or an array that is built -/
def abuild (place : Nat → Option (Nat × Nat)) (ρ : Operand → AV) : List AV → List (Nat × Operand) → Option (List AV)
  | cs, [] => some cs
  | cs, (i, x) :: r => match place i, acells (ρ x) with
    | some (off, sz), some new => bif Nat.beq new.length sz && Nat.ble (off + new.length) cs.length then fl (afill cs off new) fun cs => abuild place ρ cs r else none
    | _, _ => none
def aplaces (T : TT) : List (Nat × Nat) → Option (List (Nat × Nat))
  | [] => some []
  | (off, ft) :: r => match tget T ft, aplaces T r with
    | some i, some l => some ((off, i.size) :: l)
    | _, _ => none
/-- an index: the number, and as a natural one where it is spelled so -/
def aix (ov : Bool) (i : Int) (k : Nat → Option (Prop × AV × Option Blk)) : Option (Prop × AV × Option Blk) :=
  bif ov then k i.toNat else match i with
    | .ofNat n => k n
    | .negSucc _ => none
theorem aix_eq {ov : Bool} {i : Int} {k : Nat → Option (Prop × AV × Option Blk)} {r : Prop × AV × Option Blk} (h : aix ov i k = some r) : k i.toNat = some r := by
  cases ov
  · cases i with
    | ofNat n => exact h
    | negSucc n => cases h
  · exact h
/-- b + j, bare where b is 0 -/
def badd (b j : Nat) : Nat := match b with
  | 0 => j
  | b + 1 => b + 1 + j
theorem badd_eq (b j : Nat) : badd b j = b + j := by cases b <;> simp [badd]
def aslot (T : TT) (t : Nat) : Option (TK × Nat) := match tget T t with
  | some i => some (i.kind, i.size)
  | none => none
def alenT : AV → Option Int
  | .p (.string s) => some (s.size : Int)
  | _ => none
def alen : AV → Option Int
  | .p (.slice none n _) => some (n : Int)
  | .lst _ _ n _ => some (n : Int)
  | .arr _ _ _ n => some (n : Int)
  | _ => none
def amin : AV → List AV → Option AV
  | a, [] => some a
  | .p (.int k x), .p (.int _ y) :: r => amin (.p (.int k (if y < x then y else x))) r
  | _, _ => none
def amax : AV → List AV → Option AV
  | a, [] => some a
  | .p (.int k x), .p (.int _ y) :: r => amax (.p (.int k (if x < y then y else x))) r
  | _, _ => none
def keep (v : AV) : Option (Prop × AV × Option Blk) := some (True, v, none)
def keepv (v : AV) : Option (Prop × AV × Option Blk) := fv v fun v => some (True, v, none)
/-- what an operation gives: under which condition, which value, which new block -/
def aop (T : TT) (ov : Bool) (o : Oper) (ρ : Operand → AV) (m : Nat) : Option (Prop × AV × Option Blk) :=
  match o.op with
  | .move x | .assign x => keepv (ρ x)
  | .pick c a b => match ρ c with
    | .p (.bool t) => match t with
      | true => keepv (ρ a)
      | false => keepv (ρ b)
    | _ => none
  | .alloc t => match tget T t with
    | some i => bif Nat.beq i.size 0 then none else some (True, .ref m i.size 0 0, some ⟨t, i.size, 1, fun _ => i.zs.map .p⟩)
    | none => none
  | .box t x => match tget T t, acells (ρ x) with
    | some i, some cs => bif Nat.beq i.size cs.length && !(Nat.beq i.size 0) then some (True, .ref m i.size 0 0, some ⟨t, i.size, 1, fun _ => cs⟩) else none
    | _, _ => none
  | .build t parts => match tget T t with
    | some i => match i.kind with
      | .struct fs => match aplaces T fs with
        | some places => (abuild (fun j => places[j]?) ρ (i.zs.map .p) parts.toList).bind fun cs => keep (.agg cs)
        | none => none
      | .array _ e => match tget T e with
        | some ei => (abuild (fun j => some (j * ei.size, ei.size)) ρ (i.zs.map .p) parts.toList).bind fun cs => keep (.agg cs)
        | none => none
      | _ => none
    | none => none
  | .load t x => match ρ x with
    | .fref cs => (apart T t cs).bind keep
    | _ => none
  | .nilCheck x => match ρ x with
    | .fref cs => keep (.fref cs)
    | .ref id sz i off => keep (.ref id sz i off)
    | .fn (.func f) a b => keep (.fn (.func f) a b)
    | _ => none
  | .binOp op t x y _ => match abin T ov op t (ρ x) (ρ y) with
    | some (c, v) => some (c, v, none)
    | none => none
  | .unOp op _ x => match op, ρ x with
    | .not, .p (.bool b) => keep (.p (.bool (!b)))
    | .neg, .p (.int .i64 n) => bif ov then some (True, .p (.int .i64 (IntKind.i64.wrap (-n))), none) else some (-9223372036854775808 ≤ -n ∧ -n ≤ 9223372036854775807, .p (.int .i64 (-n)), none)
    | _, _ => none
  | .convert src dst x => match tget T src, tget T dst, ρ x with
    | some si, some i, .p (.int _ n) => match si.kind, i.kind with
      | .int _, .int .i64 => some (-9223372036854775808 ≤ n ∧ n ≤ 9223372036854775807, .p (.int .i64 n), none)
      | .int _, .int .u8 => some (0 ≤ n ∧ n ≤ 255, .p (.int .u8 n), none)
      | _, _ => none
    | _, _, _ => none
  | .makeFunc f a b => fl (a.toList.map ρ) fun a => fl (b.toList.map ρ) fun b => keep (.fn f a b)
  | .extract x i => match ρ x with
    | .tup vs => match vs[i]? with
      | some v => keepv v
      | none => none
    | _ => none
  | .field t x f => match tget T t, ρ x with
    | some i, .agg cs => match i.kind with
      | .struct fs => match fs[f]? with
        | some (off, ft) => bif Nat.ble i.size cs.length then (apart T ft (cs.drop off)).bind keep else none
        | none => none
      | _ => none
    | _, _ => none
  | .fieldAddr t x f => match tget T t, ρ x with
    | some i, a => match i.kind with
      | .struct fs => match fs[f]? with
        | some (off, ft) => match tget T ft with
          | some fi => bif Nat.beq fi.size 0 then none else match a with
            | .fref cs => fl (cs.drop off) fun cs => keep (.fref cs)
            | .ref id sz j o => keep (.ref id sz j (o + off))
            | _ => none
          | none => none
        | none => none
      | _ => none
    | _, _ => none
  | .index t x ix => match tget T t, ρ x, ρ ix with
    | some i, .agg cs, .p (.int _ n) => match i.kind with
      | .array len e => match aslot T e with
        | some (_, es) => aix false n fun j => bif Nat.ble ((j + 1) * es) cs.length && Nat.blt j len then (apart T e (cs.drop (j * es))).bind keep else none
        | none => none
      | _ => none
    | some i, .p (.string s), .p (.int _ n) => match i.kind with
      | .str => aix ov n fun j => some (0 ≤ n ∧ n < s.size, .p (.int .u8 (s.get! j).toNat), none)
      | _ => none
    | _, _, _ => none
  | .indexAddr t x ix => match tget T t, ρ x, ρ ix with
    | some i, .lst _ sz n g, .p (.int _ k) => match i.kind with
      | .slice e => match aslot T e with
        | some (_, es) => bif Nat.beq es sz then aix ov k fun j => some (0 ≤ k ∧ k < n, .fref (g j), none) else none
        | none => none
      | _ => none
    | some i, .arr id sz b n, .p (.int _ k) => match i.kind with
      | .slice e => match aslot T e with
        | some (_, es) => bif Nat.beq es sz then aix ov k fun j => some (0 ≤ k ∧ k < n, .ref id sz (badd b j) 0, none) else none
        | none => none
      | _ => none
    | _, _, _ => none
  | .makeSlice t l c => match tget T t, ρ l, ρ c with
    | some i, .p (.int _ n), .p (.int _ n') => match i.kind with
      | .slice e => match tget T e with
        | some ei => bif Nat.beq ei.size 0 then none else aix ov n fun j => some (0 ≤ n ∧ n' = n ∧ n * ei.bytes ≤ 140737488355328 ∧ n ≤ 140737488355328, .arr m ei.size 0 j, some ⟨e, ei.size, j, fun _ => ei.zs.map .p⟩)
        | none => none
      | _ => none
    | _, _, _ => none
  | .call c => match c.callee with
    | .builtin .len => match c.args[0]?, c.argTypes[0]? with
      | some x, some t => match tget T t, ρ x with
        | some i, v => match i.kind with
          | .slice _ => (alen v).bind fun n => keep (.p (.int .i64 n))
          | .str => (alenT v).bind fun n => keep (.p (.int .i64 n))
          | _ => none
        | _, _ => none
      | _, _ => none
    | .builtin .min => match c.args.toList.map ρ with
      | a :: r => (amin a r).bind keep
      | [] => none
    | .builtin .max => match c.args.toList.map ρ with
      | a :: r => (amax a r).bind keep
      | [] => none
    | _ => none
  | _ => none
end Go.Proofs.Ytphjglbbhanmpaa.Ab
