/-
  No cell of these rows narrows 'for every input' (looked for: loops, veiled, ifaces, maps, wideKeys, modest, calm, conditions, laid).
  DERIVED. THE GIVEN ROWS OF THIS SEAT. 5 by the template 'for every input the law returns true; each argument reads behind the call as it read before'; 0 by the template 'total and deterministic' (their statements: YtkflllendbgdaaaTotals.lean).
  GIVEN WITH THE SEED: the statements are not yours to turn. If you find one false, say at which input.
  Laid BY PROGRAM, IN A SANDBOX (cutbox-rows.mjs): the forced cells as the released guide's own fill.sh prints them over the translation 31d6ca05d6636281… (all of the seat's roots in one cut). By AI agents, Wed Nov 11 2026. No macro, syntax, notation, axiom, sorry.
-/
import Derived.Test.YtkflllendbgdaaaChecked
import GoSem.Claim
import GoSem.ClaimJoined
import GoSem.ClaimMapViews
import Derived.JoinedTies
import Derived.KernelRfl
namespace Go.Proofs.Ytkflllendbgdaaa
/- THE CELL 'sum', in the pinned program and in every row, IS THE sha256 OF THE DUMP (.gsa) THAT YtkflllendbgdaaaProg.lean LOADS. Nothing in Lean hashes anything: it is a label: what it is worth is what the hold of that sum in a sandbox is worth. -/
noncomputable def Try.pinned : Pinned := { name := "ytkflllendbgdaaa", sum := "31d6ca05d66362810e63b73fa2dc0f59fe856edc7818c957428880c9dda2d4a5", checked := Try.checked }
namespace Rows
def none {H : Type} : Left H := { results := [], args := [] }

/-- 'gosperlaw13.HashTells': WHATEVER THE INPUT: true; the input reads as it did. -/
def hashTellsSpec : ChangeSpec := { name := "hashTells", fn := fun _ => fun
  | [d1, d2, d3, d4] => { results := [.lit (.bool true)], args := [d1, d2, d3, d4] }
  | _ => none }
def hashTellsRow : OpenClaim := { program := "ytkflllendbgdaaa", sum := "31d6ca05d66362810e63b73fa2dc0f59fe856edc7818c957428880c9dda2d4a5", func := "gosper/gosperlaw13.HashTells", spec := "hashTells", unfollowed := true, recurses := true, apart := false }
def HashTellsSaid : Prop := hashTellsRow.holds Try.pinned (OpenSpec.ofChange hashTellsSpec)

/-- ITS FALSE NEIGHBOUR: 'it returns false'. Refute it at one input. -/
def hashTellsWrong : ChangeSpec := { name := "hashTells", fn := fun _ => fun
  | [d1, d2, d3, d4] => { results := [.lit (.bool false)], args := [d1, d2, d3, d4] }
  | _ => none }
def HashTellsWrongFalsely : Prop := hashTellsRow.holds Try.pinned (OpenSpec.ofChange hashTellsWrong)

/-- 'gosperlaw13.HashPaths': WHATEVER THE INPUT: true; the input reads as it did. -/
def hashPathsSpec : ChangeSpec := { name := "hashPaths", fn := fun _ => fun
  | [d1, d2] => { results := [.lit (.bool true)], args := [d1, d2] }
  | _ => none }
def hashPathsRow : OpenClaim := { program := "ytkflllendbgdaaa", sum := "31d6ca05d66362810e63b73fa2dc0f59fe856edc7818c957428880c9dda2d4a5", func := "gosper/gosperlaw13.HashPaths", spec := "hashPaths", unfollowed := true, recurses := true, apart := false }
def HashPathsSaid : Prop := hashPathsRow.holds Try.pinned (OpenSpec.ofChange hashPathsSpec)

/-- ITS FALSE NEIGHBOUR: 'it returns false'. Refute it at one input. -/
def hashPathsWrong : ChangeSpec := { name := "hashPaths", fn := fun _ => fun
  | [d1, d2] => { results := [.lit (.bool false)], args := [d1, d2] }
  | _ => none }
def HashPathsWrongFalsely : Prop := hashPathsRow.holds Try.pinned (OpenSpec.ofChange hashPathsWrong)

/-- 'gosperlaw13.HashOne': WHATEVER THE INPUT: true; the input reads as it did. -/
def hashOneSpec : ChangeSpec := { name := "hashOne", fn := fun _ => fun
  | [d1, d2, d3] => { results := [.lit (.bool true)], args := [d1, d2, d3] }
  | _ => none }
def hashOneRow : OpenClaim := { program := "ytkflllendbgdaaa", sum := "31d6ca05d66362810e63b73fa2dc0f59fe856edc7818c957428880c9dda2d4a5", func := "gosper/gosperlaw13.HashOne", spec := "hashOne", unfollowed := true, recurses := true, apart := false }
def HashOneSaid : Prop := hashOneRow.holds Try.pinned (OpenSpec.ofChange hashOneSpec)

/-- ITS FALSE NEIGHBOUR: 'it returns false'. Refute it at one input. -/
def hashOneWrong : ChangeSpec := { name := "hashOne", fn := fun _ => fun
  | [d1, d2, d3] => { results := [.lit (.bool false)], args := [d1, d2, d3] }
  | _ => none }
def HashOneWrongFalsely : Prop := hashOneRow.holds Try.pinned (OpenSpec.ofChange hashOneWrong)

/-- 'gosperlaw13.HashSlots': WHATEVER THE INPUT: true; the input reads as it did. -/
def hashSlotsSpec : ChangeSpec := { name := "hashSlots", fn := fun _ => fun
  | [d1, d2, d3] => { results := [.lit (.bool true)], args := [d1, d2, d3] }
  | _ => none }
def hashSlotsRow : OpenClaim := { program := "ytkflllendbgdaaa", sum := "31d6ca05d66362810e63b73fa2dc0f59fe856edc7818c957428880c9dda2d4a5", func := "gosper/gosperlaw13.HashSlots", spec := "hashSlots", unfollowed := true, recurses := true, apart := false }
def HashSlotsSaid : Prop := hashSlotsRow.holds Try.pinned (OpenSpec.ofChange hashSlotsSpec)

/-- ITS FALSE NEIGHBOUR: 'it returns false'. Refute it at one input. -/
def hashSlotsWrong : ChangeSpec := { name := "hashSlots", fn := fun _ => fun
  | [d1, d2, d3] => { results := [.lit (.bool false)], args := [d1, d2, d3] }
  | _ => none }
def HashSlotsWrongFalsely : Prop := hashSlotsRow.holds Try.pinned (OpenSpec.ofChange hashSlotsWrong)

/-- 'gosperlaw13.HashBits': WHATEVER THE INPUT: true; the input reads as it did. -/
def hashBitsSpec : ChangeSpec := { name := "hashBits", fn := fun _ => fun
  | [d1, d2] => { results := [.lit (.bool true)], args := [d1, d2] }
  | _ => none }
def hashBitsRow : OpenClaim := { program := "ytkflllendbgdaaa", sum := "31d6ca05d66362810e63b73fa2dc0f59fe856edc7818c957428880c9dda2d4a5", func := "gosper/gosperlaw13.HashBits", spec := "hashBits", unfollowed := true, recurses := true, apart := false }
def HashBitsSaid : Prop := hashBitsRow.holds Try.pinned (OpenSpec.ofChange hashBitsSpec)

/-- ITS FALSE NEIGHBOUR: 'it returns false'. Refute it at one input. -/
def hashBitsWrong : ChangeSpec := { name := "hashBits", fn := fun _ => fun
  | [d1, d2] => { results := [.lit (.bool false)], args := [d1, d2] }
  | _ => none }
def HashBitsWrongFalsely : Prop := hashBitsRow.holds Try.pinned (OpenSpec.ofChange hashBitsWrong)

/- THE SECOND FORM. 'bulk': how many values and letters a reading holds, each counted each time it is reached (what is shared counts as often as it is met; a slice's spare places count too). A statement '..UptoSaid' is the law's where the arguments, and the package variables that the reading takes, are together of bulk at most 1048576: NARROWER than '..Said'. Prove '..Said' where nothing that the law and all that it calls make is longer than what came in: it says more and counts as full. Else prove '..UptoSaid'. A law counts once. -/
mutual
def uptoBulk {H : Type} : DataW H → Nat
  | .lit (.string bytes) => bytes.length + 1
  | .lit _ => 1
  | .nil => 1
  | .ptr d => uptoBulk d + 1
  | .slice elems spare => uptoBulkAll elems + uptoBulkAll spare + 1
  | .agg parts => uptoBulkAll parts + 1
  | .iface _ d => uptoBulk d + 1
  | .map entries => uptoBulkEntries entries + 1
  | .held _ => 1
def uptoBulkAll {H : Type} : List (DataW H) → Nat
  | [] => 0
  | d :: r => uptoBulk d + uptoBulkAll r
def uptoBulkEntries {H : Type} : List (Lit × DataW H) → Nat
  | [] => 0
  | x :: r => uptoBulkEntry x + uptoBulkEntries r
def uptoBulkEntry {H : Type} : Lit × DataW H → Nat
  | (.string bytes, d) => bytes.length + uptoBulk d + 1
  | (_, d) => uptoBulk d + 1
 end
def uptoSmall : (H : Type) → List (DataW H) → Bool := fun _ ds => decide (uptoBulkAll ds ≤ 1048576)
def OpenSpec.upto (s : _root_.Go.ChangeSpec) : _root_.Go.OpenSpec := { _root_.Go.OpenSpec.ofChange s with cond := some uptoSmall }

/-- 'gosperlaw13.HashTells', WHERE WHAT IT READS IS OF BULK AT MOST 1048576: true; the input reads as it did. -/
def hashTellsUptoRow : OpenClaim := { program := "ytkflllendbgdaaa", sum := "31d6ca05d66362810e63b73fa2dc0f59fe856edc7818c957428880c9dda2d4a5", func := "gosper/gosperlaw13.HashTells", spec := "hashTells", unfollowed := true, recurses := true, apart := false, narrowed := true }
def HashTellsUptoSaid : Prop := hashTellsUptoRow.holds Try.pinned (OpenSpec.upto hashTellsSpec)

/-- 'gosperlaw13.HashPaths', WHERE WHAT IT READS IS OF BULK AT MOST 1048576: true; the input reads as it did. -/
def hashPathsUptoRow : OpenClaim := { program := "ytkflllendbgdaaa", sum := "31d6ca05d66362810e63b73fa2dc0f59fe856edc7818c957428880c9dda2d4a5", func := "gosper/gosperlaw13.HashPaths", spec := "hashPaths", unfollowed := true, recurses := true, apart := false, narrowed := true }
def HashPathsUptoSaid : Prop := hashPathsUptoRow.holds Try.pinned (OpenSpec.upto hashPathsSpec)

/-- 'gosperlaw13.HashOne', WHERE WHAT IT READS IS OF BULK AT MOST 1048576: true; the input reads as it did. -/
def hashOneUptoRow : OpenClaim := { program := "ytkflllendbgdaaa", sum := "31d6ca05d66362810e63b73fa2dc0f59fe856edc7818c957428880c9dda2d4a5", func := "gosper/gosperlaw13.HashOne", spec := "hashOne", unfollowed := true, recurses := true, apart := false, narrowed := true }
def HashOneUptoSaid : Prop := hashOneUptoRow.holds Try.pinned (OpenSpec.upto hashOneSpec)

/-- 'gosperlaw13.HashSlots', WHERE WHAT IT READS IS OF BULK AT MOST 1048576: true; the input reads as it did. -/
def hashSlotsUptoRow : OpenClaim := { program := "ytkflllendbgdaaa", sum := "31d6ca05d66362810e63b73fa2dc0f59fe856edc7818c957428880c9dda2d4a5", func := "gosper/gosperlaw13.HashSlots", spec := "hashSlots", unfollowed := true, recurses := true, apart := false, narrowed := true }
def HashSlotsUptoSaid : Prop := hashSlotsUptoRow.holds Try.pinned (OpenSpec.upto hashSlotsSpec)

/-- 'gosperlaw13.HashBits', WHERE WHAT IT READS IS OF BULK AT MOST 1048576: true; the input reads as it did. -/
def hashBitsUptoRow : OpenClaim := { program := "ytkflllendbgdaaa", sum := "31d6ca05d66362810e63b73fa2dc0f59fe856edc7818c957428880c9dda2d4a5", func := "gosper/gosperlaw13.HashBits", spec := "hashBits", unfollowed := true, recurses := true, apart := false, narrowed := true }
def HashBitsUptoSaid : Prop := hashBitsUptoRow.holds Try.pinned (OpenSpec.upto hashBitsSpec)

end Rows
end Go.Proofs.Ytkflllendbgdaaa
