/-
  No cell of these rows narrows 'for every input' (looked for: loops, veiled, ifaces, maps, wideKeys, modest, calm, conditions, laid).
  DERIVED. THE GIVEN ROWS OF THIS SEAT. 5 by the template 'for every input the law returns true; each argument reads behind the call as it read before'; 0 by the template 'total and deterministic' (their statements: YtmhepmocnnlhnaaTotals.lean).
  GIVEN WITH THE SEED: the statements are not yours to turn. If you find one false, say at which input.
  Laid BY PROGRAM, IN A SANDBOX (cutbox-rows.mjs): the forced cells as the released guide's own fill.sh prints them over the translation 3cf6a5b92c922707… (all of the seat's roots in one cut). By AI agents, Wed Nov 11 2026. No macro, syntax, notation, axiom, sorry.
-/
import Derived.Test.YtmhepmocnnlhnaaChecked
import GoSem.Claim
import GoSem.ClaimJoined
import GoSem.ClaimMapViews
import Derived.JoinedTies
import Derived.KernelRfl
namespace Go.Proofs.Ytmhepmocnnlhnaa
/- THE CELL 'sum', in the pinned program and in every row, IS THE sha256 OF THE DUMP (.gsa) THAT YtmhepmocnnlhnaaProg.lean LOADS. Nothing in Lean hashes anything: it is a label: what it is worth is what the hold of that sum in a sandbox is worth. -/
noncomputable def Try.pinned : Pinned := { name := "ytmhepmocnnlhnaa", sum := "3cf6a5b92c92270748789461325b9f36cd512caa1a04753486df5baf8a5e7fa6", checked := Try.checked }
namespace Rows
def none {H : Type} : Left H := { results := [], args := [] }

/-- 'gosperlaw17.EpochTells': WHATEVER THE INPUT: true; the input reads as it did. -/
def epochTellsSpec : ChangeSpec := { name := "epochTells", fn := fun _ => fun
  | [d1, d2, d3, d4, d5] => { results := [.lit (.bool true)], args := [d1, d2, d3, d4, d5] }
  | _ => none }
def epochTellsRow : OpenClaim := { program := "ytmhepmocnnlhnaa", sum := "3cf6a5b92c92270748789461325b9f36cd512caa1a04753486df5baf8a5e7fa6", func := "gosper/gosperlaw17.EpochTells", spec := "epochTells", unfollowed := true, recurses := true, apart := false }
def EpochTellsSaid : Prop := epochTellsRow.holds Try.pinned (OpenSpec.ofChange epochTellsSpec)

/-- ITS FALSE NEIGHBOUR: 'it returns false'. Refute it at one input. -/
def epochTellsWrong : ChangeSpec := { name := "epochTells", fn := fun _ => fun
  | [d1, d2, d3, d4, d5] => { results := [.lit (.bool false)], args := [d1, d2, d3, d4, d5] }
  | _ => none }
def EpochTellsWrongFalsely : Prop := epochTellsRow.holds Try.pinned (OpenSpec.ofChange epochTellsWrong)

/-- 'gosperlaw17.EpochSafe': WHATEVER THE INPUT: true; the input reads as it did. -/
def epochSafeSpec : ChangeSpec := { name := "epochSafe", fn := fun _ => fun
  | [d1, d2, d3, d4, d5] => { results := [.lit (.bool true)], args := [d1, d2, d3, d4, d5] }
  | _ => none }
def epochSafeRow : OpenClaim := { program := "ytmhepmocnnlhnaa", sum := "3cf6a5b92c92270748789461325b9f36cd512caa1a04753486df5baf8a5e7fa6", func := "gosper/gosperlaw17.EpochSafe", spec := "epochSafe", unfollowed := true, recurses := true, apart := false }
def EpochSafeSaid : Prop := epochSafeRow.holds Try.pinned (OpenSpec.ofChange epochSafeSpec)

/-- ITS FALSE NEIGHBOUR: 'it returns false'. Refute it at one input. -/
def epochSafeWrong : ChangeSpec := { name := "epochSafe", fn := fun _ => fun
  | [d1, d2, d3, d4, d5] => { results := [.lit (.bool false)], args := [d1, d2, d3, d4, d5] }
  | _ => none }
def EpochSafeWrongFalsely : Prop := epochSafeRow.holds Try.pinned (OpenSpec.ofChange epochSafeWrong)

/-- 'gosperlaw17.EpochFrees': WHATEVER THE INPUT: true; the input reads as it did. -/
def epochFreesSpec : ChangeSpec := { name := "epochFrees", fn := fun _ => fun
  | [d1, d2] => { results := [.lit (.bool true)], args := [d1, d2] }
  | _ => none }
def epochFreesRow : OpenClaim := { program := "ytmhepmocnnlhnaa", sum := "3cf6a5b92c92270748789461325b9f36cd512caa1a04753486df5baf8a5e7fa6", func := "gosper/gosperlaw17.EpochFrees", spec := "epochFrees", unfollowed := true, recurses := true, apart := false }
def EpochFreesSaid : Prop := epochFreesRow.holds Try.pinned (OpenSpec.ofChange epochFreesSpec)

/-- ITS FALSE NEIGHBOUR: 'it returns false'. Refute it at one input. -/
def epochFreesWrong : ChangeSpec := { name := "epochFrees", fn := fun _ => fun
  | [d1, d2] => { results := [.lit (.bool false)], args := [d1, d2] }
  | _ => none }
def EpochFreesWrongFalsely : Prop := epochFreesRow.holds Try.pinned (OpenSpec.ofChange epochFreesWrong)

/-- 'gosperlaw17.EpochNodes': WHATEVER THE INPUT: true; the input reads as it did. -/
def epochNodesSpec : ChangeSpec := { name := "epochNodes", fn := fun _ => fun
  | [d1, d2, d3] => { results := [.lit (.bool true)], args := [d1, d2, d3] }
  | _ => none }
def epochNodesRow : OpenClaim := { program := "ytmhepmocnnlhnaa", sum := "3cf6a5b92c92270748789461325b9f36cd512caa1a04753486df5baf8a5e7fa6", func := "gosper/gosperlaw17.EpochNodes", spec := "epochNodes", unfollowed := true, recurses := true, apart := false }
def EpochNodesSaid : Prop := epochNodesRow.holds Try.pinned (OpenSpec.ofChange epochNodesSpec)

/-- ITS FALSE NEIGHBOUR: 'it returns false'. Refute it at one input. -/
def epochNodesWrong : ChangeSpec := { name := "epochNodes", fn := fun _ => fun
  | [d1, d2, d3] => { results := [.lit (.bool false)], args := [d1, d2, d3] }
  | _ => none }
def EpochNodesWrongFalsely : Prop := epochNodesRow.holds Try.pinned (OpenSpec.ofChange epochNodesWrong)

/-- 'gosperlaw17.EpochWhole': WHATEVER THE INPUT: true; the input reads as it did. -/
def epochWholeSpec : ChangeSpec := { name := "epochWhole", fn := fun _ => fun
  | [d1, d2] => { results := [.lit (.bool true)], args := [d1, d2] }
  | _ => none }
def epochWholeRow : OpenClaim := { program := "ytmhepmocnnlhnaa", sum := "3cf6a5b92c92270748789461325b9f36cd512caa1a04753486df5baf8a5e7fa6", func := "gosper/gosperlaw17.EpochWhole", spec := "epochWhole", unfollowed := true, recurses := true, apart := false }
def EpochWholeSaid : Prop := epochWholeRow.holds Try.pinned (OpenSpec.ofChange epochWholeSpec)

/-- ITS FALSE NEIGHBOUR: 'it returns false'. Refute it at one input. -/
def epochWholeWrong : ChangeSpec := { name := "epochWhole", fn := fun _ => fun
  | [d1, d2] => { results := [.lit (.bool false)], args := [d1, d2] }
  | _ => none }
def EpochWholeWrongFalsely : Prop := epochWholeRow.holds Try.pinned (OpenSpec.ofChange epochWholeWrong)

/- THE SECOND FORM. 'bulk': how many values and letters a reading holds, each counted each time it is reached (what is shared counts as often as it is met; a slice's spare places count too). A statement '..UptoSaid' is the law's where the arguments, and the package variables that the reading takes, are together of bulk at most 1048576: NARROWER than '..Said'. Prove '..Said' where nothing that the law and all that it calls make is longer than what came in: it says more and counts as full. Else prove '..UptoSaid'. A law counts once. -/
mutual
def uptoBulk {H : Type} : DataW H → Nat
  | .lit (.string bytes) => bytes.length + 1
  | .lit _ => 1
  | .nil => 1
  | .ptr d => uptoBulk d + 1
  | .slice elems spare => uptoBulkAll elems + uptoBulkAll spare + 1
  | .agg parts => uptoBulkAll parts + 1
  | .iface _ d => uptoBulk d + 1
  | .map entries => uptoBulkEntries entries + 1
  | .held _ => 1
def uptoBulkAll {H : Type} : List (DataW H) → Nat
  | [] => 0
  | d :: r => uptoBulk d + uptoBulkAll r
def uptoBulkEntries {H : Type} : List (Lit × DataW H) → Nat
  | [] => 0
  | x :: r => uptoBulkEntry x + uptoBulkEntries r
def uptoBulkEntry {H : Type} : Lit × DataW H → Nat
  | (.string bytes, d) => bytes.length + uptoBulk d + 1
  | (_, d) => uptoBulk d + 1
 end
def uptoSmall : (H : Type) → List (DataW H) → Bool := fun _ ds => decide (uptoBulkAll ds ≤ 1048576)
def OpenSpec.upto (s : _root_.Go.ChangeSpec) : _root_.Go.OpenSpec := { _root_.Go.OpenSpec.ofChange s with cond := some uptoSmall }

/-- 'gosperlaw17.EpochTells', WHERE WHAT IT READS IS OF BULK AT MOST 1048576: true; the input reads as it did. -/
def epochTellsUptoRow : OpenClaim := { program := "ytmhepmocnnlhnaa", sum := "3cf6a5b92c92270748789461325b9f36cd512caa1a04753486df5baf8a5e7fa6", func := "gosper/gosperlaw17.EpochTells", spec := "epochTells", unfollowed := true, recurses := true, apart := false, narrowed := true }
def EpochTellsUptoSaid : Prop := epochTellsUptoRow.holds Try.pinned (OpenSpec.upto epochTellsSpec)

/-- 'gosperlaw17.EpochSafe', WHERE WHAT IT READS IS OF BULK AT MOST 1048576: true; the input reads as it did. -/
def epochSafeUptoRow : OpenClaim := { program := "ytmhepmocnnlhnaa", sum := "3cf6a5b92c92270748789461325b9f36cd512caa1a04753486df5baf8a5e7fa6", func := "gosper/gosperlaw17.EpochSafe", spec := "epochSafe", unfollowed := true, recurses := true, apart := false, narrowed := true }
def EpochSafeUptoSaid : Prop := epochSafeUptoRow.holds Try.pinned (OpenSpec.upto epochSafeSpec)

/-- 'gosperlaw17.EpochFrees', WHERE WHAT IT READS IS OF BULK AT MOST 1048576: true; the input reads as it did. -/
def epochFreesUptoRow : OpenClaim := { program := "ytmhepmocnnlhnaa", sum := "3cf6a5b92c92270748789461325b9f36cd512caa1a04753486df5baf8a5e7fa6", func := "gosper/gosperlaw17.EpochFrees", spec := "epochFrees", unfollowed := true, recurses := true, apart := false, narrowed := true }
def EpochFreesUptoSaid : Prop := epochFreesUptoRow.holds Try.pinned (OpenSpec.upto epochFreesSpec)

/-- 'gosperlaw17.EpochNodes', WHERE WHAT IT READS IS OF BULK AT MOST 1048576: true; the input reads as it did. -/
def epochNodesUptoRow : OpenClaim := { program := "ytmhepmocnnlhnaa", sum := "3cf6a5b92c92270748789461325b9f36cd512caa1a04753486df5baf8a5e7fa6", func := "gosper/gosperlaw17.EpochNodes", spec := "epochNodes", unfollowed := true, recurses := true, apart := false, narrowed := true }
def EpochNodesUptoSaid : Prop := epochNodesUptoRow.holds Try.pinned (OpenSpec.upto epochNodesSpec)

/-- 'gosperlaw17.EpochWhole', WHERE WHAT IT READS IS OF BULK AT MOST 1048576: true; the input reads as it did. -/
def epochWholeUptoRow : OpenClaim := { program := "ytmhepmocnnlhnaa", sum := "3cf6a5b92c92270748789461325b9f36cd512caa1a04753486df5baf8a5e7fa6", func := "gosper/gosperlaw17.EpochWhole", spec := "epochWhole", unfollowed := true, recurses := true, apart := false, narrowed := true }
def EpochWholeUptoSaid : Prop := epochWholeUptoRow.holds Try.pinned (OpenSpec.upto epochWholeSpec)

end Rows
end Go.Proofs.Ytmhepmocnnlhnaa
