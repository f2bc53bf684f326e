/-
  No cell of these rows narrows 'for every input' (looked for: loops, veiled, ifaces, maps, wideKeys, modest, calm, conditions, laid).
  DERIVED. THE GIVEN ROWS OF THIS SEAT. 4 by the template 'for every input the law returns true; each argument reads behind the call as it read before'; 0 by the template 'total and deterministic' (their statements: YtcehniefjelgeaaTotals.lean).
  GIVEN WITH THE SEED: the statements are not yours to turn. If you find one false, say at which input.
  Laid BY PROGRAM, IN A SANDBOX (cutbox-rows.mjs): the forced cells as the released guide's own fill.sh prints them over the translation 10aceb36ead1d952… (all of the seat's roots in one cut). By AI agents, Wed Nov 11 2026. No macro, syntax, notation, axiom, sorry.
-/
import Derived.Test.YtcehniefjelgeaaChecked
import GoSem.Claim
import GoSem.ClaimJoined
import GoSem.ClaimMapViews
import Derived.JoinedTies
import Derived.KernelRfl
namespace Go.Proofs.Ytcehniefjelgeaa
/- THE CELL 'sum', in the pinned program and in every row, IS THE sha256 OF THE DUMP (.gsa) THAT YtcehniefjelgeaaProg.lean LOADS. Nothing in Lean hashes anything: it is a label: what it is worth is what the hold of that sum in a sandbox is worth. -/
noncomputable def Try.pinned : Pinned := { name := "ytcehniefjelgeaa", sum := "10aceb36ead1d9524c1733c8191e249651ed482ef5ef6b5a8b5bc3ffc10214e6", checked := Try.checked }
namespace Rows
def none {H : Type} : Left H := { results := [], args := [] }

/-- 'gosperlaw14.ProbeAlone': WHATEVER THE INPUT: true; the input reads as it did. -/
def probeAloneSpec : ChangeSpec := { name := "probeAlone", fn := fun _ => fun
  | [d1, d2, d3] => { results := [.lit (.bool true)], args := [d1, d2, d3] }
  | _ => none }
def probeAloneRow : OpenClaim := { program := "ytcehniefjelgeaa", sum := "10aceb36ead1d9524c1733c8191e249651ed482ef5ef6b5a8b5bc3ffc10214e6", func := "gosper/gosperlaw14.ProbeAlone", spec := "probeAlone", unfollowed := true, recurses := true, apart := false }
def ProbeAloneSaid : Prop := probeAloneRow.holds Try.pinned (OpenSpec.ofChange probeAloneSpec)

/-- ITS FALSE NEIGHBOUR: 'it returns false'. Refute it at one input. -/
def probeAloneWrong : ChangeSpec := { name := "probeAlone", fn := fun _ => fun
  | [d1, d2, d3] => { results := [.lit (.bool false)], args := [d1, d2, d3] }
  | _ => none }
def ProbeAloneWrongFalsely : Prop := probeAloneRow.holds Try.pinned (OpenSpec.ofChange probeAloneWrong)

/-- 'gosperlaw14.ProbeSteps': WHATEVER THE INPUT: true; the input reads as it did. -/
def probeStepsSpec : ChangeSpec := { name := "probeSteps", fn := fun _ => fun
  | [d1, d2, d3, d4] => { results := [.lit (.bool true)], args := [d1, d2, d3, d4] }
  | _ => none }
def probeStepsRow : OpenClaim := { program := "ytcehniefjelgeaa", sum := "10aceb36ead1d9524c1733c8191e249651ed482ef5ef6b5a8b5bc3ffc10214e6", func := "gosper/gosperlaw14.ProbeSteps", spec := "probeSteps", unfollowed := true, recurses := true, apart := false }
def ProbeStepsSaid : Prop := probeStepsRow.holds Try.pinned (OpenSpec.ofChange probeStepsSpec)

/-- ITS FALSE NEIGHBOUR: 'it returns false'. Refute it at one input. -/
def probeStepsWrong : ChangeSpec := { name := "probeSteps", fn := fun _ => fun
  | [d1, d2, d3, d4] => { results := [.lit (.bool false)], args := [d1, d2, d3, d4] }
  | _ => none }
def ProbeStepsWrongFalsely : Prop := probeStepsRow.holds Try.pinned (OpenSpec.ofChange probeStepsWrong)

/-- 'gosperlaw14.ProbeWord': WHATEVER THE INPUT: true; the input reads as it did. -/
def probeWordSpec : ChangeSpec := { name := "probeWord", fn := fun _ => fun
  | [d1, d2, d3, d4] => { results := [.lit (.bool true)], args := [d1, d2, d3, d4] }
  | _ => none }
def probeWordRow : OpenClaim := { program := "ytcehniefjelgeaa", sum := "10aceb36ead1d9524c1733c8191e249651ed482ef5ef6b5a8b5bc3ffc10214e6", func := "gosper/gosperlaw14.ProbeWord", spec := "probeWord", unfollowed := true, recurses := true, apart := false }
def ProbeWordSaid : Prop := probeWordRow.holds Try.pinned (OpenSpec.ofChange probeWordSpec)

/-- ITS FALSE NEIGHBOUR: 'it returns false'. Refute it at one input. -/
def probeWordWrong : ChangeSpec := { name := "probeWord", fn := fun _ => fun
  | [d1, d2, d3, d4] => { results := [.lit (.bool false)], args := [d1, d2, d3, d4] }
  | _ => none }
def ProbeWordWrongFalsely : Prop := probeWordRow.holds Try.pinned (OpenSpec.ofChange probeWordWrong)

/-- 'gosperlaw14.ProbeKids': WHATEVER THE INPUT: true; the input reads as it did. -/
def probeKidsSpec : ChangeSpec := { name := "probeKids", fn := fun _ => fun
  | [d] => { results := [.lit (.bool true)], args := [d] }
  | _ => none }
def probeKidsRow : OpenClaim := { program := "ytcehniefjelgeaa", sum := "10aceb36ead1d9524c1733c8191e249651ed482ef5ef6b5a8b5bc3ffc10214e6", func := "gosper/gosperlaw14.ProbeKids", spec := "probeKids", unfollowed := true, recurses := true, apart := false }
def ProbeKidsSaid : Prop := probeKidsRow.holds Try.pinned (OpenSpec.ofChange probeKidsSpec)

/-- ITS FALSE NEIGHBOUR: 'it returns false'. Refute it at one input. -/
def probeKidsWrong : ChangeSpec := { name := "probeKids", fn := fun _ => fun
  | [d] => { results := [.lit (.bool false)], args := [d] }
  | _ => none }
def ProbeKidsWrongFalsely : Prop := probeKidsRow.holds Try.pinned (OpenSpec.ofChange probeKidsWrong)

/- THE SECOND FORM. 'bulk': how many values and letters a reading holds, each counted each time it is reached (what is shared counts as often as it is met; a slice's spare places count too). A statement '..UptoSaid' is the law's where the arguments, and the package variables that the reading takes, are together of bulk at most 1048576: NARROWER than '..Said'. Prove '..Said' where nothing that the law and all that it calls make is longer than what came in: it says more and counts as full. Else prove '..UptoSaid'. A law counts once. -/
mutual
def uptoBulk {H : Type} : DataW H → Nat
  | .lit (.string bytes) => bytes.length + 1
  | .lit _ => 1
  | .nil => 1
  | .ptr d => uptoBulk d + 1
  | .slice elems spare => uptoBulkAll elems + uptoBulkAll spare + 1
  | .agg parts => uptoBulkAll parts + 1
  | .iface _ d => uptoBulk d + 1
  | .map entries => uptoBulkEntries entries + 1
  | .held _ => 1
def uptoBulkAll {H : Type} : List (DataW H) → Nat
  | [] => 0
  | d :: r => uptoBulk d + uptoBulkAll r
def uptoBulkEntries {H : Type} : List (Lit × DataW H) → Nat
  | [] => 0
  | x :: r => uptoBulkEntry x + uptoBulkEntries r
def uptoBulkEntry {H : Type} : Lit × DataW H → Nat
  | (.string bytes, d) => bytes.length + uptoBulk d + 1
  | (_, d) => uptoBulk d + 1
 end
def uptoSmall : (H : Type) → List (DataW H) → Bool := fun _ ds => decide (uptoBulkAll ds ≤ 1048576)
def OpenSpec.upto (s : _root_.Go.ChangeSpec) : _root_.Go.OpenSpec := { _root_.Go.OpenSpec.ofChange s with cond := some uptoSmall }

/-- 'gosperlaw14.ProbeAlone', WHERE WHAT IT READS IS OF BULK AT MOST 1048576: true; the input reads as it did. -/
def probeAloneUptoRow : OpenClaim := { program := "ytcehniefjelgeaa", sum := "10aceb36ead1d9524c1733c8191e249651ed482ef5ef6b5a8b5bc3ffc10214e6", func := "gosper/gosperlaw14.ProbeAlone", spec := "probeAlone", unfollowed := true, recurses := true, apart := false, narrowed := true }
def ProbeAloneUptoSaid : Prop := probeAloneUptoRow.holds Try.pinned (OpenSpec.upto probeAloneSpec)

/-- 'gosperlaw14.ProbeSteps', WHERE WHAT IT READS IS OF BULK AT MOST 1048576: true; the input reads as it did. -/
def probeStepsUptoRow : OpenClaim := { program := "ytcehniefjelgeaa", sum := "10aceb36ead1d9524c1733c8191e249651ed482ef5ef6b5a8b5bc3ffc10214e6", func := "gosper/gosperlaw14.ProbeSteps", spec := "probeSteps", unfollowed := true, recurses := true, apart := false, narrowed := true }
def ProbeStepsUptoSaid : Prop := probeStepsUptoRow.holds Try.pinned (OpenSpec.upto probeStepsSpec)

/-- 'gosperlaw14.ProbeWord', WHERE WHAT IT READS IS OF BULK AT MOST 1048576: true; the input reads as it did. -/
def probeWordUptoRow : OpenClaim := { program := "ytcehniefjelgeaa", sum := "10aceb36ead1d9524c1733c8191e249651ed482ef5ef6b5a8b5bc3ffc10214e6", func := "gosper/gosperlaw14.ProbeWord", spec := "probeWord", unfollowed := true, recurses := true, apart := false, narrowed := true }
def ProbeWordUptoSaid : Prop := probeWordUptoRow.holds Try.pinned (OpenSpec.upto probeWordSpec)

/-- 'gosperlaw14.ProbeKids', WHERE WHAT IT READS IS OF BULK AT MOST 1048576: true; the input reads as it did. -/
def probeKidsUptoRow : OpenClaim := { program := "ytcehniefjelgeaa", sum := "10aceb36ead1d9524c1733c8191e249651ed482ef5ef6b5a8b5bc3ffc10214e6", func := "gosper/gosperlaw14.ProbeKids", spec := "probeKids", unfollowed := true, recurses := true, apart := false, narrowed := true }
def ProbeKidsUptoSaid : Prop := probeKidsUptoRow.holds Try.pinned (OpenSpec.upto probeKidsSpec)

end Rows
end Go.Proofs.Ytcehniefjelgeaa
