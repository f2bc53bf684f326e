/-
  No cell of these rows narrows 'for every input' (looked for: loops, veiled, ifaces, maps, wideKeys, modest, calm, conditions, laid).
  DERIVED. THE GIVEN ROWS OF THIS SEAT. 4 by the template 'for every input the law returns true; each argument reads behind the call as it read before'; 0 by the template 'total and deterministic' (their statements: YtphjglbbhanmpaaTotals.lean).
  GIVEN WITH THE SEED: the statements are not yours to turn. If you find one false, say at which input.
  Laid BY PROGRAM, IN A SANDBOX (cutbox-rows.mjs): the forced cells as the released guide's own fill.sh prints them over the translation 2adb9efcc52e4440… (all of the seat's roots in one cut). By AI agents, Wed Nov 11 2026. No macro, syntax, notation, axiom, sorry.
-/
import Derived.Test.YtphjglbbhanmpaaChecked
import GoSem.Claim
import GoSem.ClaimJoined
import GoSem.ClaimMapViews
import Derived.JoinedTies
import Derived.KernelRfl
namespace Go.Proofs.Ytphjglbbhanmpaa
/- THE CELL 'sum', in the pinned program and in every row, IS THE sha256 OF THE DUMP (.gsa) THAT YtphjglbbhanmpaaProg.lean LOADS. Nothing in Lean hashes anything: it is a label: what it is worth is what the hold of that sum in a sandbox is worth. -/
noncomputable def Try.pinned : Pinned := { name := "ytphjglbbhanmpaa", sum := "2adb9efcc52e4440bdaa851ce342d1231e15ee27dacc4afc0cfb3539f29b3144", checked := Try.checked }
namespace Rows
def none {H : Type} : Left H := { results := [], args := [] }

/-- 'gosperlaw15.InternMany': WHATEVER THE INPUT: true; the input reads as it did. -/
def internManySpec : ChangeSpec := { name := "internMany", fn := fun _ => fun
  | [d1, d2] => { results := [.lit (.bool true)], args := [d1, d2] }
  | _ => none }
def internManyRow : OpenClaim := { program := "ytphjglbbhanmpaa", sum := "2adb9efcc52e4440bdaa851ce342d1231e15ee27dacc4afc0cfb3539f29b3144", func := "gosper/gosperlaw15.InternMany", spec := "internMany", unfollowed := true, recurses := true, apart := false }
def InternManySaid : Prop := internManyRow.holds Try.pinned (OpenSpec.ofChange internManySpec)

/-- ITS FALSE NEIGHBOUR: 'it returns false'. Refute it at one input. -/
def internManyWrong : ChangeSpec := { name := "internMany", fn := fun _ => fun
  | [d1, d2] => { results := [.lit (.bool false)], args := [d1, d2] }
  | _ => none }
def InternManyWrongFalsely : Prop := internManyRow.holds Try.pinned (OpenSpec.ofChange internManyWrong)

/-- 'gosperlaw15.InternFull': WHATEVER THE INPUT: true; the input reads as it did. -/
def internFullSpec : ChangeSpec := { name := "internFull", fn := fun _ => fun
  | [d1, d2] => { results := [.lit (.bool true)], args := [d1, d2] }
  | _ => none }
def internFullRow : OpenClaim := { program := "ytphjglbbhanmpaa", sum := "2adb9efcc52e4440bdaa851ce342d1231e15ee27dacc4afc0cfb3539f29b3144", func := "gosper/gosperlaw15.InternFull", spec := "internFull", unfollowed := true, recurses := true, apart := false }
def InternFullSaid : Prop := internFullRow.holds Try.pinned (OpenSpec.ofChange internFullSpec)

/-- ITS FALSE NEIGHBOUR: 'it returns false'. Refute it at one input. -/
def internFullWrong : ChangeSpec := { name := "internFull", fn := fun _ => fun
  | [d1, d2] => { results := [.lit (.bool false)], args := [d1, d2] }
  | _ => none }
def InternFullWrongFalsely : Prop := internFullRow.holds Try.pinned (OpenSpec.ofChange internFullWrong)

/-- 'gosperlaw15.InternRoom': WHATEVER THE INPUT: true; the input reads as it did. -/
def internRoomSpec : ChangeSpec := { name := "internRoom", fn := fun _ => fun
  | [d1, d2, d3, d4] => { results := [.lit (.bool true)], args := [d1, d2, d3, d4] }
  | _ => none }
def internRoomRow : OpenClaim := { program := "ytphjglbbhanmpaa", sum := "2adb9efcc52e4440bdaa851ce342d1231e15ee27dacc4afc0cfb3539f29b3144", func := "gosper/gosperlaw15.InternRoom", spec := "internRoom", unfollowed := true, recurses := true, apart := false }
def InternRoomSaid : Prop := internRoomRow.holds Try.pinned (OpenSpec.ofChange internRoomSpec)

/-- ITS FALSE NEIGHBOUR: 'it returns false'. Refute it at one input. -/
def internRoomWrong : ChangeSpec := { name := "internRoom", fn := fun _ => fun
  | [d1, d2, d3, d4] => { results := [.lit (.bool false)], args := [d1, d2, d3, d4] }
  | _ => none }
def InternRoomWrongFalsely : Prop := internRoomRow.holds Try.pinned (OpenSpec.ofChange internRoomWrong)

/-- 'gosperlaw15.InternTwice': WHATEVER THE INPUT: true; the input reads as it did. -/
def internTwiceSpec : ChangeSpec := { name := "internTwice", fn := fun _ => fun
  | [d1, d2, d3] => { results := [.lit (.bool true)], args := [d1, d2, d3] }
  | _ => none }
def internTwiceRow : OpenClaim := { program := "ytphjglbbhanmpaa", sum := "2adb9efcc52e4440bdaa851ce342d1231e15ee27dacc4afc0cfb3539f29b3144", func := "gosper/gosperlaw15.InternTwice", spec := "internTwice", unfollowed := true, recurses := true, apart := false }
def InternTwiceSaid : Prop := internTwiceRow.holds Try.pinned (OpenSpec.ofChange internTwiceSpec)

/-- ITS FALSE NEIGHBOUR: 'it returns false'. Refute it at one input. -/
def internTwiceWrong : ChangeSpec := { name := "internTwice", fn := fun _ => fun
  | [d1, d2, d3] => { results := [.lit (.bool false)], args := [d1, d2, d3] }
  | _ => none }
def InternTwiceWrongFalsely : Prop := internTwiceRow.holds Try.pinned (OpenSpec.ofChange internTwiceWrong)

/- THE SECOND FORM. 'bulk': how many values and letters a reading holds, each counted each time it is reached (what is shared counts as often as it is met; a slice's spare places count too). A statement '..UptoSaid' is the law's where the arguments, and the package variables that the reading takes, are together of bulk at most 1048576: NARROWER than '..Said'. Prove '..Said' where nothing that the law and all that it calls make is longer than what came in: it says more and counts as full. Else prove '..UptoSaid'. A law counts once. -/
mutual
def uptoBulk {H : Type} : DataW H → Nat
  | .lit (.string bytes) => bytes.length + 1
  | .lit _ => 1
  | .nil => 1
  | .ptr d => uptoBulk d + 1
  | .slice elems spare => uptoBulkAll elems + uptoBulkAll spare + 1
  | .agg parts => uptoBulkAll parts + 1
  | .iface _ d => uptoBulk d + 1
  | .map entries => uptoBulkEntries entries + 1
  | .held _ => 1
def uptoBulkAll {H : Type} : List (DataW H) → Nat
  | [] => 0
  | d :: r => uptoBulk d + uptoBulkAll r
def uptoBulkEntries {H : Type} : List (Lit × DataW H) → Nat
  | [] => 0
  | x :: r => uptoBulkEntry x + uptoBulkEntries r
def uptoBulkEntry {H : Type} : Lit × DataW H → Nat
  | (.string bytes, d) => bytes.length + uptoBulk d + 1
  | (_, d) => uptoBulk d + 1
 end
def uptoSmall : (H : Type) → List (DataW H) → Bool := fun _ ds => decide (uptoBulkAll ds ≤ 1048576)
def OpenSpec.upto (s : _root_.Go.ChangeSpec) : _root_.Go.OpenSpec := { _root_.Go.OpenSpec.ofChange s with cond := some uptoSmall }

/-- 'gosperlaw15.InternMany', WHERE WHAT IT READS IS OF BULK AT MOST 1048576: true; the input reads as it did. -/
def internManyUptoRow : OpenClaim := { program := "ytphjglbbhanmpaa", sum := "2adb9efcc52e4440bdaa851ce342d1231e15ee27dacc4afc0cfb3539f29b3144", func := "gosper/gosperlaw15.InternMany", spec := "internMany", unfollowed := true, recurses := true, apart := false, narrowed := true }
def InternManyUptoSaid : Prop := internManyUptoRow.holds Try.pinned (OpenSpec.upto internManySpec)

/-- 'gosperlaw15.InternFull', WHERE WHAT IT READS IS OF BULK AT MOST 1048576: true; the input reads as it did. -/
def internFullUptoRow : OpenClaim := { program := "ytphjglbbhanmpaa", sum := "2adb9efcc52e4440bdaa851ce342d1231e15ee27dacc4afc0cfb3539f29b3144", func := "gosper/gosperlaw15.InternFull", spec := "internFull", unfollowed := true, recurses := true, apart := false, narrowed := true }
def InternFullUptoSaid : Prop := internFullUptoRow.holds Try.pinned (OpenSpec.upto internFullSpec)

/-- 'gosperlaw15.InternRoom', WHERE WHAT IT READS IS OF BULK AT MOST 1048576: true; the input reads as it did. -/
def internRoomUptoRow : OpenClaim := { program := "ytphjglbbhanmpaa", sum := "2adb9efcc52e4440bdaa851ce342d1231e15ee27dacc4afc0cfb3539f29b3144", func := "gosper/gosperlaw15.InternRoom", spec := "internRoom", unfollowed := true, recurses := true, apart := false, narrowed := true }
def InternRoomUptoSaid : Prop := internRoomUptoRow.holds Try.pinned (OpenSpec.upto internRoomSpec)

/-- 'gosperlaw15.InternTwice', WHERE WHAT IT READS IS OF BULK AT MOST 1048576: true; the input reads as it did. -/
def internTwiceUptoRow : OpenClaim := { program := "ytphjglbbhanmpaa", sum := "2adb9efcc52e4440bdaa851ce342d1231e15ee27dacc4afc0cfb3539f29b3144", func := "gosper/gosperlaw15.InternTwice", spec := "internTwice", unfollowed := true, recurses := true, apart := false, narrowed := true }
def InternTwiceUptoSaid : Prop := internTwiceUptoRow.holds Try.pinned (OpenSpec.upto internTwiceSpec)

end Rows
end Go.Proofs.Ytphjglbbhanmpaa
