/-
  No cell of these rows narrows 'for every input' (looked for: loops, veiled, ifaces, maps, wideKeys, modest, calm, conditions, laid).
  DERIVED. THE GIVEN ROWS OF THIS SEAT. 6 by the template 'for every input the law returns true; each argument reads behind the call as it read before'; 0 by the template 'total and deterministic' (their statements: YtaiimhkhgglllaaTotals.lean).
  GIVEN WITH THE SEED: the statements are not yours to turn. If you find one false, say at which input.
  Laid BY PROGRAM, IN A SANDBOX (cutbox-rows.mjs): the forced cells as the released guide's own fill.sh prints them over the translation 6f19324bf9b1d727… (all of the seat's roots in one cut). By AI agents, Wed Nov 11 2026. No macro, syntax, notation, axiom, sorry.
-/
import Derived.Test.YtaiimhkhgglllaaChecked
import GoSem.Claim
import GoSem.ClaimJoined
import GoSem.ClaimMapViews
import Derived.JoinedTies
import Derived.KernelRfl
namespace Go.Proofs.Ytaiimhkhgglllaa
/- THE CELL 'sum', in the pinned program and in every row, IS THE sha256 OF THE DUMP (.gsa) THAT YtaiimhkhgglllaaProg.lean LOADS. Nothing in Lean hashes anything: it is a label: what it is worth is what the hold of that sum in a sandbox is worth. -/
noncomputable def Try.pinned : Pinned := { name := "ytaiimhkhgglllaa", sum := "6f19324bf9b1d727a09907170a2168f2f6344f9030bec8b39747677fe409ad2d", checked := Try.checked }
namespace Rows
def none {H : Type} : Left H := { results := [], args := [] }

/-- 'gosperlaw16.MemoTells': WHATEVER THE INPUT: true; the input reads as it did. -/
def memoTellsSpec : ChangeSpec := { name := "memoTells", fn := fun _ => fun
  | [d1, d2, d3, d4, d5] => { results := [.lit (.bool true)], args := [d1, d2, d3, d4, d5] }
  | _ => none }
def memoTellsRow : OpenClaim := { program := "ytaiimhkhgglllaa", sum := "6f19324bf9b1d727a09907170a2168f2f6344f9030bec8b39747677fe409ad2d", func := "gosper/gosperlaw16.MemoTells", spec := "memoTells", unfollowed := true, recurses := true, apart := false }
def MemoTellsSaid : Prop := memoTellsRow.holds Try.pinned (OpenSpec.ofChange memoTellsSpec)

/-- ITS FALSE NEIGHBOUR: 'it returns false'. Refute it at one input. -/
def memoTellsWrong : ChangeSpec := { name := "memoTells", fn := fun _ => fun
  | [d1, d2, d3, d4, d5] => { results := [.lit (.bool false)], args := [d1, d2, d3, d4, d5] }
  | _ => none }
def MemoTellsWrongFalsely : Prop := memoTellsRow.holds Try.pinned (OpenSpec.ofChange memoTellsWrong)

/-- 'gosperlaw16.MemoRuns': WHATEVER THE INPUT: true; the input reads as it did. -/
def memoRunsSpec : ChangeSpec := { name := "memoRuns", fn := fun _ => fun
  | [d1, d2, d3, d4] => { results := [.lit (.bool true)], args := [d1, d2, d3, d4] }
  | _ => none }
def memoRunsRow : OpenClaim := { program := "ytaiimhkhgglllaa", sum := "6f19324bf9b1d727a09907170a2168f2f6344f9030bec8b39747677fe409ad2d", func := "gosper/gosperlaw16.MemoRuns", spec := "memoRuns", unfollowed := true, recurses := true, apart := false }
def MemoRunsSaid : Prop := memoRunsRow.holds Try.pinned (OpenSpec.ofChange memoRunsSpec)

/-- ITS FALSE NEIGHBOUR: 'it returns false'. Refute it at one input. -/
def memoRunsWrong : ChangeSpec := { name := "memoRuns", fn := fun _ => fun
  | [d1, d2, d3, d4] => { results := [.lit (.bool false)], args := [d1, d2, d3, d4] }
  | _ => none }
def MemoRunsWrongFalsely : Prop := memoRunsRow.holds Try.pinned (OpenSpec.ofChange memoRunsWrong)

/-- 'gosperlaw16.MemoOnce': WHATEVER THE INPUT: true; the input reads as it did. -/
def memoOnceSpec : ChangeSpec := { name := "memoOnce", fn := fun _ => fun
  | [d1, d2, d3] => { results := [.lit (.bool true)], args := [d1, d2, d3] }
  | _ => none }
def memoOnceRow : OpenClaim := { program := "ytaiimhkhgglllaa", sum := "6f19324bf9b1d727a09907170a2168f2f6344f9030bec8b39747677fe409ad2d", func := "gosper/gosperlaw16.MemoOnce", spec := "memoOnce", unfollowed := true, recurses := true, apart := false }
def MemoOnceSaid : Prop := memoOnceRow.holds Try.pinned (OpenSpec.ofChange memoOnceSpec)

/-- ITS FALSE NEIGHBOUR: 'it returns false'. Refute it at one input. -/
def memoOnceWrong : ChangeSpec := { name := "memoOnce", fn := fun _ => fun
  | [d1, d2, d3] => { results := [.lit (.bool false)], args := [d1, d2, d3] }
  | _ => none }
def MemoOnceWrongFalsely : Prop := memoOnceRow.holds Try.pinned (OpenSpec.ofChange memoOnceWrong)

/-- 'gosperlaw16.MemoGets': WHATEVER THE INPUT: true; the input reads as it did. -/
def memoGetsSpec : ChangeSpec := { name := "memoGets", fn := fun _ => fun
  | [d1, d2, d3, d4] => { results := [.lit (.bool true)], args := [d1, d2, d3, d4] }
  | _ => none }
def memoGetsRow : OpenClaim := { program := "ytaiimhkhgglllaa", sum := "6f19324bf9b1d727a09907170a2168f2f6344f9030bec8b39747677fe409ad2d", func := "gosper/gosperlaw16.MemoGets", spec := "memoGets", unfollowed := true, recurses := true, apart := false }
def MemoGetsSaid : Prop := memoGetsRow.holds Try.pinned (OpenSpec.ofChange memoGetsSpec)

/-- ITS FALSE NEIGHBOUR: 'it returns false'. Refute it at one input. -/
def memoGetsWrong : ChangeSpec := { name := "memoGets", fn := fun _ => fun
  | [d1, d2, d3, d4] => { results := [.lit (.bool false)], args := [d1, d2, d3, d4] }
  | _ => none }
def MemoGetsWrongFalsely : Prop := memoGetsRow.holds Try.pinned (OpenSpec.ofChange memoGetsWrong)

/-- 'gosperlaw16.MemoFirst': WHATEVER THE INPUT: true; the input reads as it did. -/
def memoFirstSpec : ChangeSpec := { name := "memoFirst", fn := fun _ => fun
  | [d1, d2] => { results := [.lit (.bool true)], args := [d1, d2] }
  | _ => none }
def memoFirstRow : OpenClaim := { program := "ytaiimhkhgglllaa", sum := "6f19324bf9b1d727a09907170a2168f2f6344f9030bec8b39747677fe409ad2d", func := "gosper/gosperlaw16.MemoFirst", spec := "memoFirst", unfollowed := true, recurses := true, apart := false }
def MemoFirstSaid : Prop := memoFirstRow.holds Try.pinned (OpenSpec.ofChange memoFirstSpec)

/-- ITS FALSE NEIGHBOUR: 'it returns false'. Refute it at one input. -/
def memoFirstWrong : ChangeSpec := { name := "memoFirst", fn := fun _ => fun
  | [d1, d2] => { results := [.lit (.bool false)], args := [d1, d2] }
  | _ => none }
def MemoFirstWrongFalsely : Prop := memoFirstRow.holds Try.pinned (OpenSpec.ofChange memoFirstWrong)

/-- 'gosperlaw16.MemoApart': WHATEVER THE INPUT: true; the input reads as it did. -/
def memoApartSpec : ChangeSpec := { name := "memoApart", fn := fun _ => fun
  | [d1, d2, d3] => { results := [.lit (.bool true)], args := [d1, d2, d3] }
  | _ => none }
def memoApartRow : OpenClaim := { program := "ytaiimhkhgglllaa", sum := "6f19324bf9b1d727a09907170a2168f2f6344f9030bec8b39747677fe409ad2d", func := "gosper/gosperlaw16.MemoApart", spec := "memoApart", unfollowed := true, recurses := true, apart := false }
def MemoApartSaid : Prop := memoApartRow.holds Try.pinned (OpenSpec.ofChange memoApartSpec)

/-- ITS FALSE NEIGHBOUR: 'it returns false'. Refute it at one input. -/
def memoApartWrong : ChangeSpec := { name := "memoApart", fn := fun _ => fun
  | [d1, d2, d3] => { results := [.lit (.bool false)], args := [d1, d2, d3] }
  | _ => none }
def MemoApartWrongFalsely : Prop := memoApartRow.holds Try.pinned (OpenSpec.ofChange memoApartWrong)

/- THE SECOND FORM. 'bulk': how many values and letters a reading holds, each counted each time it is reached (what is shared counts as often as it is met; a slice's spare places count too). A statement '..UptoSaid' is the law's where the arguments, and the package variables that the reading takes, are together of bulk at most 1048576: NARROWER than '..Said'. Prove '..Said' where nothing that the law and all that it calls make is longer than what came in: it says more and counts as full. Else prove '..UptoSaid'. A law counts once. -/
mutual
def uptoBulk {H : Type} : DataW H → Nat
  | .lit (.string bytes) => bytes.length + 1
  | .lit _ => 1
  | .nil => 1
  | .ptr d => uptoBulk d + 1
  | .slice elems spare => uptoBulkAll elems + uptoBulkAll spare + 1
  | .agg parts => uptoBulkAll parts + 1
  | .iface _ d => uptoBulk d + 1
  | .map entries => uptoBulkEntries entries + 1
  | .held _ => 1
def uptoBulkAll {H : Type} : List (DataW H) → Nat
  | [] => 0
  | d :: r => uptoBulk d + uptoBulkAll r
def uptoBulkEntries {H : Type} : List (Lit × DataW H) → Nat
  | [] => 0
  | x :: r => uptoBulkEntry x + uptoBulkEntries r
def uptoBulkEntry {H : Type} : Lit × DataW H → Nat
  | (.string bytes, d) => bytes.length + uptoBulk d + 1
  | (_, d) => uptoBulk d + 1
 end
def uptoSmall : (H : Type) → List (DataW H) → Bool := fun _ ds => decide (uptoBulkAll ds ≤ 1048576)
def OpenSpec.upto (s : _root_.Go.ChangeSpec) : _root_.Go.OpenSpec := { _root_.Go.OpenSpec.ofChange s with cond := some uptoSmall }

/-- 'gosperlaw16.MemoTells', WHERE WHAT IT READS IS OF BULK AT MOST 1048576: true; the input reads as it did. -/
def memoTellsUptoRow : OpenClaim := { program := "ytaiimhkhgglllaa", sum := "6f19324bf9b1d727a09907170a2168f2f6344f9030bec8b39747677fe409ad2d", func := "gosper/gosperlaw16.MemoTells", spec := "memoTells", unfollowed := true, recurses := true, apart := false, narrowed := true }
def MemoTellsUptoSaid : Prop := memoTellsUptoRow.holds Try.pinned (OpenSpec.upto memoTellsSpec)

/-- 'gosperlaw16.MemoRuns', WHERE WHAT IT READS IS OF BULK AT MOST 1048576: true; the input reads as it did. -/
def memoRunsUptoRow : OpenClaim := { program := "ytaiimhkhgglllaa", sum := "6f19324bf9b1d727a09907170a2168f2f6344f9030bec8b39747677fe409ad2d", func := "gosper/gosperlaw16.MemoRuns", spec := "memoRuns", unfollowed := true, recurses := true, apart := false, narrowed := true }
def MemoRunsUptoSaid : Prop := memoRunsUptoRow.holds Try.pinned (OpenSpec.upto memoRunsSpec)

/-- 'gosperlaw16.MemoOnce', WHERE WHAT IT READS IS OF BULK AT MOST 1048576: true; the input reads as it did. -/
def memoOnceUptoRow : OpenClaim := { program := "ytaiimhkhgglllaa", sum := "6f19324bf9b1d727a09907170a2168f2f6344f9030bec8b39747677fe409ad2d", func := "gosper/gosperlaw16.MemoOnce", spec := "memoOnce", unfollowed := true, recurses := true, apart := false, narrowed := true }
def MemoOnceUptoSaid : Prop := memoOnceUptoRow.holds Try.pinned (OpenSpec.upto memoOnceSpec)

/-- 'gosperlaw16.MemoGets', WHERE WHAT IT READS IS OF BULK AT MOST 1048576: true; the input reads as it did. -/
def memoGetsUptoRow : OpenClaim := { program := "ytaiimhkhgglllaa", sum := "6f19324bf9b1d727a09907170a2168f2f6344f9030bec8b39747677fe409ad2d", func := "gosper/gosperlaw16.MemoGets", spec := "memoGets", unfollowed := true, recurses := true, apart := false, narrowed := true }
def MemoGetsUptoSaid : Prop := memoGetsUptoRow.holds Try.pinned (OpenSpec.upto memoGetsSpec)

/-- 'gosperlaw16.MemoFirst', WHERE WHAT IT READS IS OF BULK AT MOST 1048576: true; the input reads as it did. -/
def memoFirstUptoRow : OpenClaim := { program := "ytaiimhkhgglllaa", sum := "6f19324bf9b1d727a09907170a2168f2f6344f9030bec8b39747677fe409ad2d", func := "gosper/gosperlaw16.MemoFirst", spec := "memoFirst", unfollowed := true, recurses := true, apart := false, narrowed := true }
def MemoFirstUptoSaid : Prop := memoFirstUptoRow.holds Try.pinned (OpenSpec.upto memoFirstSpec)

/-- 'gosperlaw16.MemoApart', WHERE WHAT IT READS IS OF BULK AT MOST 1048576: true; the input reads as it did. -/
def memoApartUptoRow : OpenClaim := { program := "ytaiimhkhgglllaa", sum := "6f19324bf9b1d727a09907170a2168f2f6344f9030bec8b39747677fe409ad2d", func := "gosper/gosperlaw16.MemoApart", spec := "memoApart", unfollowed := true, recurses := true, apart := false, narrowed := true }
def MemoApartUptoSaid : Prop := memoApartUptoRow.holds Try.pinned (OpenSpec.upto memoApartSpec)

end Rows
end Go.Proofs.Ytaiimhkhgglllaa
