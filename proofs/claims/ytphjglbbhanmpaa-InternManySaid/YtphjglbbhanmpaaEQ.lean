/- Entering and leaving a function; the table of types. -/
import Derived.Test.YtphjglbbhanmpaaER
import Derived.Test.YtphjglbbhanmpaaRows
namespace Go.Proofs.Ytphjglbbhanmpaa.Ab
open Go Go.RowKit

/-- how a function ends -/
def Fin (T : TT) (rs : List ResultVar) (Q : AV → AH → Prop) : AQ := fun x F' H' => (match x with | .exit _ => False | _ => True) ∧ ∃ vs, Rsl T F' H' rs vs ∧ Q (pack vs) H'
section
variable {P : Program} {T : TT} {q : Bool} {f : FuncId} {fn : Func} {c : Code} {args : List AV} {H : AH} {Q : AV → AH → Prop} {n : Nat} {rs : List ResultVar} {F : AF}
theorem sc_in (hT : TTok P T) (hf : P.funcs[f]? = some fn) (hok : fnOK P f = true) (hn : fn.ntmps = n) (hc : fn.body = some c) (hr : fn.results.toList = rs) (hl : Nat.ble args.length n = true) (h : AW P q n H.length c (Fin T rs Q) (args0 0 args) H) : SC q P f args H Q := by
  subst hn hr
  exact sc_enter hT hf hok hc (Nat.le_of_ble_eq_true hl) h
theorem rsl_tmps : ∀ (ts : List Tmp), Rsl T F H (ts.map .tmp) (ts.map (aget F))
  | [] => .nil
  | t :: ts => .tmp t _ _ (rsl_tmps ts)
theorem fin_tmps {x : AX} (ts : List Tmp) (hx : (match x with | .exit _ => False | _ => True)) (hr : rs = ts.map .tmp) {vs : List AV} (hv : fl (ts.map (aget F)) some = some vs) (h : Q (pack vs) H) : Fin T rs Q x F H := by
  subst hr
  rw [fl_eq] at hv; cases hv
  exact ⟨hx, _, rsl_tmps ts, h⟩
def tmpsOf : List ResultVar → Option (List Tmp)
  | [] => some []
  | .tmp t :: r => match tmpsOf r with
    | some ts => some (t :: ts)
    | none => none
  | .cell _ _ :: _ => none
theorem tmpsOf_eq : ∀ (rs : List ResultVar) (ts : List Tmp), tmpsOf rs = some ts → rs = ts.map .tmp
  | [], ts, h => by cases h; rfl
  | .tmp t :: r, ts, h => by
    simp only [tmpsOf] at h
    split at h
    · rename_i ts' h'
      cases h; rw [tmpsOf_eq r ts' h']; rfl
    · cases h
  | .cell _ _ :: _, ts, h => by cases h
theorem fin_t {x : AX} {ts : List Tmp} (hx : (match x with | .exit _ => False | _ => True)) (hr : tmpsOf rs = some ts) {vs : List AV} (hv : fl (ts.map (aget F)) some = some vs) (h : Q (pack vs) H) : Fin T rs Q x F H :=
  fin_tmps ts hx (tmpsOf_eq rs ts hr) hv h
theorem ps_in (hT : TTok P T) {r : AV} (hf : P.funcs[f]? = some fn) (hok : fnOK P f = true) (hn : fn.ntmps = n) (hc : fn.body = some c) (hr : fn.results.toList = rs) (hl : Nat.ble args.length n = true) (hcl : Cl r) (h : ∀ H, AW P true n H.length c (Fin T rs fun r' H' => Ext H H' ∧ r' = r) (args0 0 args) H) : PS P f args r := by
  intro H
  refine sc_pure (K := fun r' => r' = r) ((sc_in hT hf hok hn hc hr hl (h H)).mono fun r' H' ⟨h1, h2⟩ => ⟨h1, by rw [h2]; exact hcl, h2⟩)
end
/-- the slots that are still wanted -/
def rstf (F : AF) : List Nat → Option AF
  | [] => some []
  | t :: ts => fv (aget F t) fun v => match rstf F ts with
    | some r => some ((t, v) :: r)
    | none => none
theorem rstf_eq (F : AF) : ∀ (ts : List Nat), rstf F ts = some (restrict F ts)
  | [] => rfl
  | t :: ts => by simp only [rstf, fv_eq, rstf_eq F ts, restrict]
section
variable {P : Program} {q : Bool} {n k0 : Nat} {Q : AQ} {F : AF} {H : AH} {c : Code} {K : AF → AH → Prop}
theorem aw_rst (ts : List Nat) {F' : AF} (hF : rstf F ts = some F') (h : AW P q n k0 c Q F' H) : AW P q n k0 c Q F H := by
  rw [rstf_eq] at hF; cases hF; exact aw_restrict ts h
/-- A LOOP: St: the slots at each round's head -/
theorem aw_for {α : Type} (slots : List Nat) (St : α → AF) (Inv : α → AH → Prop) (μ : α → Nat) (a0 : α) (hF : rstf F slots = some (St a0)) (h0 : Inv a0 H)
    (hr : ∀ a H, Inv a H → AW P q n k0 c (AX.then (fun F' H' => ∃ a', rstf F' slots = some (St a') ∧ Inv a' H' ∧ μ a' < μ a) Q) (St a) H) : AW P q n k0 (.loop c) Q F H := by
  refine aw_rst slots hF ?_
  intro B U φ V w a hb r
  have key : ∀ (m : Nat) (x : α) (H1 : AH), Inv x H1 → μ x < m → ∀ U1 φ1 V1 w1 a1, Rel n k0 B U1 φ1 V1 w1 (St x) H1 a1 → Step B U φ V w H U1 φ1 V1 w1 H1 → Code.rounds P c (Lift n k0 B U φ V w H Q) m a1 w1 := by
    intro m
    induction m with
    | zero => intro x H1 _ h; omega
    | succ m ih =>
      intro x H1 hI hm U1 φ1 V1 w1 a1 r1 s1
      rw [rounds_succ]
      refine wp_mono (hr x H1 hI B U1 φ1 V1 w1 a1 hb r1) fun e a' w' hl => ?_
      obtain ⟨y, F', H', U', φ', V', h1, h2, h3, h4⟩ := hl
      cases y <;> cases e <;> first | (exact h1.elim) | skip
      · obtain ⟨x', hx, hI', hlt⟩ := h2
        rw [rstf_eq] at hx
        have hx := Option.some.inj hx
        have r3 : Rel n k0 B U' φ' V' w' (St x') H' a' := ⟨h3.size, h3.defers, fun t => by rw [← hx]; exact restrict_get F' slots t _ _ _ _ _ (h3.frame t), h3.heap, h3.base, h3.own, h3.ownk⟩
        exact ih x' H' hI' (by omega) U' φ' V' w' a' r3 (s1.trans h4)
      · exact ⟨_, F', H', U', φ', V', h1, h2, h3, s1.trans h4⟩
      · exact ⟨_, F', H', U', φ', V', h1, h2, h3, s1.trans h4⟩
  exact wp_loop_rounds _ (key (μ a0 + 1) a0 H h0 (by omega) U φ V w a r (Step.refl ..))
theorem then_ret (h : Q .ret F H) : AX.then K Q .ret F H := h
theorem then_exit {i : Nat} (h : Q (.exit i) F H) : AX.then K Q (.exit i) F H := h
theorem then_normal (h : K F H) : AX.then K Q .normal F H := h
theorem blk_ret {id : Nat} (h : Q .ret F H) : AX.inBlock id Q .ret F H := h
theorem blk_normal {id : Nat} (h : Q .normal F H) : AX.inBlock id Q .normal F H := h
theorem blk_exit {id : Nat} (h : Q .normal F H) : AX.inBlock id Q (.exit id) F H := by simp only [AX.inBlock, if_true]; exact h
theorem blk_pass {id i : Nat} (hne : Nat.beq i id = false) (h : Q (.exit i) F H) : AX.inBlock id Q (.exit i) F H := by
  have : ¬ i = id := fun e => by subst e; simp at hne
  simp only [AX.inBlock, if_neg this]; exact h
end
abbrev ints (xs : List Int) : AV := .lst false 1 xs.length fun i => [.i (xs.getD i 0)]
theorem cl_ints (xs : List Int) : Cl (ints xs) := .lst _ _ _ _ fun i x _ hx => by simp at hx; subst hx; exact .p _
theorem cl_i (n : Int) : Cl (.i n) := .p _
theorem cl_b (b : Bool) : Cl (.b b) := .p _
def TY : TT := [
  (3, ⟨.int .i64, 1, 8, [.int .i64 0]⟩),
  (4, ⟨.bool, 1, 1, [.bool false]⟩),
  (22, ⟨.slice 33, 1, 24, [.slice none 0 0]⟩),
  (23, ⟨.slice 3, 1, 24, [.slice none 0 0]⟩),
  (26, ⟨.struct [(0, 3), (1, 3)], 2, 16, [.int .i64 0, .int .i64 0]⟩),
  (27, ⟨.slice 40, 1, 24, [.slice none 0 0]⟩),
  (29, ⟨.int .i64, 1, 8, [.int .i64 0]⟩),
  (33, ⟨.array 4 3, 4, 32, [.int .i64 0, .int .i64 0, .int .i64 0, .int .i64 0]⟩),
  (38, ⟨.array 8 3, 8, 64, [.int .i64 0, .int .i64 0, .int .i64 0, .int .i64 0, .int .i64 0, .int .i64 0, .int .i64 0, .int .i64 0]⟩),
  (40, ⟨.struct [(0, 3), (1, 3), (2, 38), (10, 4), (11, 3)], 12, 96, [.int .i64 0, .int .i64 0, .int .i64 0, .int .i64 0, .int .i64 0, .int .i64 0, .int .i64 0, .int .i64 0, .int .i64 0, .int .i64 0, .bool false, .int .i64 0]⟩),
  (49, ⟨.other, 1, 8, [.nilFunc]⟩),
  (51, ⟨.struct [(0, 26), (2, 23)], 3, 40, [.int .i64 0, .int .i64 0, .slice none 0 0]⟩),
  (57, ⟨.other, 1, 8, [.nilFunc]⟩),
  (60, ⟨.other, 1, 8, [.nilFunc]⟩),
  (72, ⟨.other, 1, 8, [.pointer none]⟩),
  (74, ⟨.struct [(0, 40), (12, 26), (14, 23), (15, 29)], 16, 144, [.int .i64 0, .int .i64 0, .int .i64 0, .int .i64 0, .int .i64 0, .int .i64 0, .int .i64 0, .int .i64 0, .int .i64 0, .int .i64 0, .bool false, .int .i64 0, .int .i64 0, .int .i64 0, .slice none 0 0, .int .i64 0]⟩),
  (84, ⟨.int .u64, 1, 8, [.int .u64 0]⟩),
  (90, ⟨.int .i64, 1, 8, [.int .i64 0]⟩),
  (104, ⟨.struct [(0, 3), (1, 3), (2, 3), (3, 3)], 4, 32, [.int .i64 0, .int .i64 0, .int .i64 0, .int .i64 0]⟩),
  (105, ⟨.int .u64, 1, 8, [.int .u64 0]⟩),
  (109, ⟨.other, 1, 8, [.pointer none]⟩),
  (111, ⟨.other, 1, 8, [.pointer none]⟩),
  (113, ⟨.struct [(0, 104), (4, 23)], 5, 56, [.int .i64 0, .int .i64 0, .int .i64 0, .int .i64 0, .slice none 0 0]⟩)]
theorem TYok : TTok Try.prog TY := ttok_of (by kernel_rfl)
theorem TYz : TTz TY := ttz_of (by kernel_rfl)

end Go.Proofs.Ytphjglbbhanmpaa.Ab
