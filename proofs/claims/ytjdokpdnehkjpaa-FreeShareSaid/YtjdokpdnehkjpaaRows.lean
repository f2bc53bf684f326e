/-
  No cell of these rows narrows 'for every input' (looked for: loops, veiled, ifaces, maps, wideKeys, modest, calm, conditions, laid).
  DERIVED. THE GIVEN ROWS OF THIS SEAT. 5 by the template 'for every input the law returns true; each argument reads behind the call as it read before'; 0 by the template 'total and deterministic' (their statements: YtjdokpdnehkjpaaTotals.lean).
  GIVEN WITH THE SEED: the statements are not yours to turn. If you find one false, say at which input.
  Laid BY PROGRAM, IN A SANDBOX (cutbox-rows.mjs): the forced cells as the released guide's own fill.sh prints them over the translation 7d252c4668fc3ca8… (all of the seat's roots in one cut). By AI agents, Wed Nov 11 2026. No macro, syntax, notation, axiom, sorry.
-/
import Derived.Test.YtjdokpdnehkjpaaChecked
import GoSem.Claim
import GoSem.ClaimJoined
import GoSem.ClaimMapViews
import Derived.JoinedTies
import Derived.KernelRfl
namespace Go.Proofs.Ytjdokpdnehkjpaa
/- THE CELL 'sum', in the pinned program and in every row, IS THE sha256 OF THE DUMP (.gsa) THAT YtjdokpdnehkjpaaProg.lean LOADS. Nothing in Lean hashes anything: it is a label: what it is worth is what the hold of that sum in a sandbox is worth. -/
noncomputable def Try.pinned : Pinned := { name := "ytjdokpdnehkjpaa", sum := "7d252c4668fc3ca804fefd7455b6757554a86042ef969cfbe1281228d444e4d5", checked := Try.checked }
namespace Rows
def none {H : Type} : Left H := { results := [], args := [] }

/-- 'gosperlaw12.FreeRuns': WHATEVER THE INPUT: true; the input reads as it did. -/
def freeRunsSpec : ChangeSpec := { name := "freeRuns", fn := fun _ => fun
  | [d1, d2, d3] => { results := [.lit (.bool true)], args := [d1, d2, d3] }
  | _ => none }
def freeRunsRow : OpenClaim := { program := "ytjdokpdnehkjpaa", sum := "7d252c4668fc3ca804fefd7455b6757554a86042ef969cfbe1281228d444e4d5", func := "gosper/gosperlaw12.FreeRuns", spec := "freeRuns", unfollowed := true, recurses := true, plainKeys := false, apart := false }
def FreeRunsSaid : Prop := freeRunsRow.holds Try.pinned (OpenSpec.ofChange freeRunsSpec)

/-- ITS FALSE NEIGHBOUR: 'it returns false'. Refute it at one input. -/
def freeRunsWrong : ChangeSpec := { name := "freeRuns", fn := fun _ => fun
  | [d1, d2, d3] => { results := [.lit (.bool false)], args := [d1, d2, d3] }
  | _ => none }
def FreeRunsWrongFalsely : Prop := freeRunsRow.holds Try.pinned (OpenSpec.ofChange freeRunsWrong)

/-- 'gosperlaw12.FreeOnce': WHATEVER THE INPUT: true; the input reads as it did. -/
def freeOnceSpec : ChangeSpec := { name := "freeOnce", fn := fun _ => fun
  | [d1, d2, d3] => { results := [.lit (.bool true)], args := [d1, d2, d3] }
  | _ => none }
def freeOnceRow : OpenClaim := { program := "ytjdokpdnehkjpaa", sum := "7d252c4668fc3ca804fefd7455b6757554a86042ef969cfbe1281228d444e4d5", func := "gosper/gosperlaw12.FreeOnce", spec := "freeOnce", unfollowed := true, recurses := true, plainKeys := false, apart := false }
def FreeOnceSaid : Prop := freeOnceRow.holds Try.pinned (OpenSpec.ofChange freeOnceSpec)

/-- ITS FALSE NEIGHBOUR: 'it returns false'. Refute it at one input. -/
def freeOnceWrong : ChangeSpec := { name := "freeOnce", fn := fun _ => fun
  | [d1, d2, d3] => { results := [.lit (.bool false)], args := [d1, d2, d3] }
  | _ => none }
def FreeOnceWrongFalsely : Prop := freeOnceRow.holds Try.pinned (OpenSpec.ofChange freeOnceWrong)

/-- 'gosperlaw12.FreeAlone': WHATEVER THE INPUT: true; the input reads as it did. -/
def freeAloneSpec : ChangeSpec := { name := "freeAlone", fn := fun _ => fun
  | [d1, d2] => { results := [.lit (.bool true)], args := [d1, d2] }
  | _ => none }
def freeAloneRow : OpenClaim := { program := "ytjdokpdnehkjpaa", sum := "7d252c4668fc3ca804fefd7455b6757554a86042ef969cfbe1281228d444e4d5", func := "gosper/gosperlaw12.FreeAlone", spec := "freeAlone", unfollowed := true, recurses := true, plainKeys := false, apart := false }
def FreeAloneSaid : Prop := freeAloneRow.holds Try.pinned (OpenSpec.ofChange freeAloneSpec)

/-- ITS FALSE NEIGHBOUR: 'it returns false'. Refute it at one input. -/
def freeAloneWrong : ChangeSpec := { name := "freeAlone", fn := fun _ => fun
  | [d1, d2] => { results := [.lit (.bool false)], args := [d1, d2] }
  | _ => none }
def FreeAloneWrongFalsely : Prop := freeAloneRow.holds Try.pinned (OpenSpec.ofChange freeAloneWrong)

/-- 'gosperlaw12.FreeCounts': WHATEVER THE INPUT: true; the input reads as it did. -/
def freeCountsSpec : ChangeSpec := { name := "freeCounts", fn := fun _ => fun
  | [d1, d2, d3] => { results := [.lit (.bool true)], args := [d1, d2, d3] }
  | _ => none }
def freeCountsRow : OpenClaim := { program := "ytjdokpdnehkjpaa", sum := "7d252c4668fc3ca804fefd7455b6757554a86042ef969cfbe1281228d444e4d5", func := "gosper/gosperlaw12.FreeCounts", spec := "freeCounts", unfollowed := true, recurses := true, plainKeys := false, apart := false }
def FreeCountsSaid : Prop := freeCountsRow.holds Try.pinned (OpenSpec.ofChange freeCountsSpec)

/-- ITS FALSE NEIGHBOUR: 'it returns false'. Refute it at one input. -/
def freeCountsWrong : ChangeSpec := { name := "freeCounts", fn := fun _ => fun
  | [d1, d2, d3] => { results := [.lit (.bool false)], args := [d1, d2, d3] }
  | _ => none }
def FreeCountsWrongFalsely : Prop := freeCountsRow.holds Try.pinned (OpenSpec.ofChange freeCountsWrong)

/-- 'gosperlaw12.FreeShare': WHATEVER THE INPUT: true; the input reads as it did. -/
def freeShareSpec : ChangeSpec := { name := "freeShare", fn := fun _ => fun
  | [d1, d2, d3] => { results := [.lit (.bool true)], args := [d1, d2, d3] }
  | _ => none }
def freeShareRow : OpenClaim := { program := "ytjdokpdnehkjpaa", sum := "7d252c4668fc3ca804fefd7455b6757554a86042ef969cfbe1281228d444e4d5", func := "gosper/gosperlaw12.FreeShare", spec := "freeShare", unfollowed := true, recurses := true, plainKeys := false, apart := false }
def FreeShareSaid : Prop := freeShareRow.holds Try.pinned (OpenSpec.ofChange freeShareSpec)

/-- ITS FALSE NEIGHBOUR: 'it returns false'. Refute it at one input. -/
def freeShareWrong : ChangeSpec := { name := "freeShare", fn := fun _ => fun
  | [d1, d2, d3] => { results := [.lit (.bool false)], args := [d1, d2, d3] }
  | _ => none }
def FreeShareWrongFalsely : Prop := freeShareRow.holds Try.pinned (OpenSpec.ofChange freeShareWrong)

/- THE SECOND FORM. 'bulk': how many values and letters a reading holds, each counted each time it is reached (what is shared counts as often as it is met; a slice's spare places count too). A statement '..UptoSaid' is the law's where the arguments, and the package variables that the reading takes, are together of bulk at most 1048576: NARROWER than '..Said'. Prove '..Said' where nothing that the law and all that it calls make is longer than what came in: it says more and counts as full. Else prove '..UptoSaid'. A law counts once. -/
mutual
def uptoBulk {H : Type} : DataW H → Nat
  | .lit (.string bytes) => bytes.length + 1
  | .lit _ => 1
  | .nil => 1
  | .ptr d => uptoBulk d + 1
  | .slice elems spare => uptoBulkAll elems + uptoBulkAll spare + 1
  | .agg parts => uptoBulkAll parts + 1
  | .iface _ d => uptoBulk d + 1
  | .map entries => uptoBulkEntries entries + 1
  | .held _ => 1
def uptoBulkAll {H : Type} : List (DataW H) → Nat
  | [] => 0
  | d :: r => uptoBulk d + uptoBulkAll r
def uptoBulkEntries {H : Type} : List (Lit × DataW H) → Nat
  | [] => 0
  | x :: r => uptoBulkEntry x + uptoBulkEntries r
def uptoBulkEntry {H : Type} : Lit × DataW H → Nat
  | (.string bytes, d) => bytes.length + uptoBulk d + 1
  | (_, d) => uptoBulk d + 1
 end
def uptoSmall : (H : Type) → List (DataW H) → Bool := fun _ ds => decide (uptoBulkAll ds ≤ 1048576)
def OpenSpec.upto (s : _root_.Go.ChangeSpec) : _root_.Go.OpenSpec := { _root_.Go.OpenSpec.ofChange s with cond := some uptoSmall }

/-- 'gosperlaw12.FreeRuns', WHERE WHAT IT READS IS OF BULK AT MOST 1048576: true; the input reads as it did. -/
def freeRunsUptoRow : OpenClaim := { program := "ytjdokpdnehkjpaa", sum := "7d252c4668fc3ca804fefd7455b6757554a86042ef969cfbe1281228d444e4d5", func := "gosper/gosperlaw12.FreeRuns", spec := "freeRuns", unfollowed := true, recurses := true, plainKeys := false, apart := false, narrowed := true }
def FreeRunsUptoSaid : Prop := freeRunsUptoRow.holds Try.pinned (OpenSpec.upto freeRunsSpec)

/-- 'gosperlaw12.FreeOnce', WHERE WHAT IT READS IS OF BULK AT MOST 1048576: true; the input reads as it did. -/
def freeOnceUptoRow : OpenClaim := { program := "ytjdokpdnehkjpaa", sum := "7d252c4668fc3ca804fefd7455b6757554a86042ef969cfbe1281228d444e4d5", func := "gosper/gosperlaw12.FreeOnce", spec := "freeOnce", unfollowed := true, recurses := true, plainKeys := false, apart := false, narrowed := true }
def FreeOnceUptoSaid : Prop := freeOnceUptoRow.holds Try.pinned (OpenSpec.upto freeOnceSpec)

/-- 'gosperlaw12.FreeAlone', WHERE WHAT IT READS IS OF BULK AT MOST 1048576: true; the input reads as it did. -/
def freeAloneUptoRow : OpenClaim := { program := "ytjdokpdnehkjpaa", sum := "7d252c4668fc3ca804fefd7455b6757554a86042ef969cfbe1281228d444e4d5", func := "gosper/gosperlaw12.FreeAlone", spec := "freeAlone", unfollowed := true, recurses := true, plainKeys := false, apart := false, narrowed := true }
def FreeAloneUptoSaid : Prop := freeAloneUptoRow.holds Try.pinned (OpenSpec.upto freeAloneSpec)

/-- 'gosperlaw12.FreeCounts', WHERE WHAT IT READS IS OF BULK AT MOST 1048576: true; the input reads as it did. -/
def freeCountsUptoRow : OpenClaim := { program := "ytjdokpdnehkjpaa", sum := "7d252c4668fc3ca804fefd7455b6757554a86042ef969cfbe1281228d444e4d5", func := "gosper/gosperlaw12.FreeCounts", spec := "freeCounts", unfollowed := true, recurses := true, plainKeys := false, apart := false, narrowed := true }
def FreeCountsUptoSaid : Prop := freeCountsUptoRow.holds Try.pinned (OpenSpec.upto freeCountsSpec)

/-- 'gosperlaw12.FreeShare', WHERE WHAT IT READS IS OF BULK AT MOST 1048576: true; the input reads as it did. -/
def freeShareUptoRow : OpenClaim := { program := "ytjdokpdnehkjpaa", sum := "7d252c4668fc3ca804fefd7455b6757554a86042ef969cfbe1281228d444e4d5", func := "gosper/gosperlaw12.FreeShare", spec := "freeShare", unfollowed := true, recurses := true, plainKeys := false, apart := false, narrowed := true }
def FreeShareUptoSaid : Prop := freeShareUptoRow.holds Try.pinned (OpenSpec.upto freeShareSpec)

end Rows
end Go.Proofs.Ytjdokpdnehkjpaa
