/-
  DERIVED. GIVEN WITH THE SEED: THE CARDS: each row of YtdddkoacolglkaaDoorRows.lean that lists a variable, with what it lists TIED to the program's text (the seventh form; the later family's looks); each row that meets fmt, with fmt's text TOLD by the authors' own Lean function (tested against real Go, not proved from fmt's source: count such statements apart). THE CARD IS WHAT COUNTS. Prove the row's statement (the work); the ties are given (YtdddkoacolglkaaDoorTie.lean); close each card by the builder's one call (the guide's Derived/Test/ToyasCard.lean, 'card_holds'). Laid BY PROGRAM, IN A SANDBOX (cutbox-door.mjs). By AI agents, Wed Nov 11 2026. No macro, syntax, notation, axiom, sorry.
-/
import Derived.Test.YtdddkoacolglkaaDoorRows
import GoSem.ClaimSeven
namespace Go.Proofs.YtdddkoacolglkaaDoor
namespace Rows

/-- THE TIED CARD OF 'gosperlaw03.CountTells'. -/
def countTellsCard : Claim7 := { stood := { row := countTellsRow, standIns := [], harness := (true, "766b72460be20bff4fd339abae0dd02bcac8fac03e1eef6444bab2a996c0a68d"), looks := false }, kinds := [], alts := [], laidByText := true, laidKinds := [.data, .data, .data], laidTests := true, laidLooks := .later }
def CountTellsCardSaid : Prop := Claim7.holds Tryd.pinned (.plain (OpenSpec.ofChange countTellsSpec)) countTellsCard

/-- THE TIED CARD OF 'gosperlaw03.CountBack'. -/
def countBackCard : Claim7 := { stood := { row := countBackRow, standIns := [], harness := (true, "766b72460be20bff4fd339abae0dd02bcac8fac03e1eef6444bab2a996c0a68d"), looks := false }, kinds := [], alts := [], laidByText := true, laidKinds := [.data, .data, .data], laidTests := true, laidLooks := .later }
def CountBackCardSaid : Prop := Claim7.holds Tryd.pinned (.plain (OpenSpec.ofChange countBackSpec)) countBackCard

/-- THE TIED CARD OF 'gosperlaw03.CountForth'. -/
def countForthCard : Claim7 := { stood := { row := countForthRow, standIns := [], harness := (true, "766b72460be20bff4fd339abae0dd02bcac8fac03e1eef6444bab2a996c0a68d"), looks := false }, kinds := [], alts := [], laidByText := true, laidKinds := [.data, .data, .data], laidTests := true, laidLooks := .later }
def CountForthCardSaid : Prop := Claim7.holds Tryd.pinned (.plain (OpenSpec.ofChange countForthSpec)) countForthCard

/-- THE TIED CARD OF 'gosperlaw03.CountSums'. -/
def countSumsCard : Claim7 := { stood := { row := countSumsRow, standIns := [], harness := (true, "766b72460be20bff4fd339abae0dd02bcac8fac03e1eef6444bab2a996c0a68d"), looks := false }, kinds := [], alts := [], laidByText := true, laidKinds := [.data, .data, .data], laidTests := true, laidLooks := .later }
def CountSumsCardSaid : Prop := Claim7.holds Tryd.pinned (.plain (OpenSpec.ofChange countSumsSpec)) countSumsCard

/-- THE TIED CARD OF 'gosperlaw03.CountOrder'. -/
def countOrderCard : Claim7 := { stood := { row := countOrderRow, standIns := [], harness := (true, "766b72460be20bff4fd339abae0dd02bcac8fac03e1eef6444bab2a996c0a68d"), looks := false }, kinds := [], alts := [], laidByText := true, laidKinds := [.data, .data, .data], laidTests := true, laidLooks := .later }
def CountOrderCardSaid : Prop := Claim7.holds Tryd.pinned (.plain (OpenSpec.ofChange countOrderSpec)) countOrderCard

/-- THE TIED CARD OF 'gosperlaw03.CountTwice'. -/
def countTwiceCard : Claim7 := { stood := { row := countTwiceRow, standIns := [], harness := (true, "766b72460be20bff4fd339abae0dd02bcac8fac03e1eef6444bab2a996c0a68d"), looks := false }, kinds := [], alts := [], laidByText := true, laidKinds := [.data, .data, .data], laidTests := true, laidLooks := .later }
def CountTwiceCardSaid : Prop := Claim7.holds Tryd.pinned (.plain (OpenSpec.ofChange countTwiceSpec)) countTwiceCard

/-- THE SECOND FORM's CARD OF 'gosperlaw03.CountTells'. -/
def countTellsUptoCard : Claim7 := { stood := { row := countTellsUptoRow, standIns := [], harness := (true, "766b72460be20bff4fd339abae0dd02bcac8fac03e1eef6444bab2a996c0a68d"), looks := false }, kinds := [], alts := [], laidByText := true, laidKinds := [.data, .data, .data], laidTests := true, laidLooks := .later }
def CountTellsUptoCardSaid : Prop := Claim7.holds Tryd.pinned (.plain (OpenSpec.upto countTellsSpec)) countTellsUptoCard

/-- THE SECOND FORM's CARD OF 'gosperlaw03.CountBack'. -/
def countBackUptoCard : Claim7 := { stood := { row := countBackUptoRow, standIns := [], harness := (true, "766b72460be20bff4fd339abae0dd02bcac8fac03e1eef6444bab2a996c0a68d"), looks := false }, kinds := [], alts := [], laidByText := true, laidKinds := [.data, .data, .data], laidTests := true, laidLooks := .later }
def CountBackUptoCardSaid : Prop := Claim7.holds Tryd.pinned (.plain (OpenSpec.upto countBackSpec)) countBackUptoCard

/-- THE SECOND FORM's CARD OF 'gosperlaw03.CountForth'. -/
def countForthUptoCard : Claim7 := { stood := { row := countForthUptoRow, standIns := [], harness := (true, "766b72460be20bff4fd339abae0dd02bcac8fac03e1eef6444bab2a996c0a68d"), looks := false }, kinds := [], alts := [], laidByText := true, laidKinds := [.data, .data, .data], laidTests := true, laidLooks := .later }
def CountForthUptoCardSaid : Prop := Claim7.holds Tryd.pinned (.plain (OpenSpec.upto countForthSpec)) countForthUptoCard

/-- THE SECOND FORM's CARD OF 'gosperlaw03.CountSums'. -/
def countSumsUptoCard : Claim7 := { stood := { row := countSumsUptoRow, standIns := [], harness := (true, "766b72460be20bff4fd339abae0dd02bcac8fac03e1eef6444bab2a996c0a68d"), looks := false }, kinds := [], alts := [], laidByText := true, laidKinds := [.data, .data, .data], laidTests := true, laidLooks := .later }
def CountSumsUptoCardSaid : Prop := Claim7.holds Tryd.pinned (.plain (OpenSpec.upto countSumsSpec)) countSumsUptoCard

/-- THE SECOND FORM's CARD OF 'gosperlaw03.CountOrder'. -/
def countOrderUptoCard : Claim7 := { stood := { row := countOrderUptoRow, standIns := [], harness := (true, "766b72460be20bff4fd339abae0dd02bcac8fac03e1eef6444bab2a996c0a68d"), looks := false }, kinds := [], alts := [], laidByText := true, laidKinds := [.data, .data, .data], laidTests := true, laidLooks := .later }
def CountOrderUptoCardSaid : Prop := Claim7.holds Tryd.pinned (.plain (OpenSpec.upto countOrderSpec)) countOrderUptoCard

/-- THE SECOND FORM's CARD OF 'gosperlaw03.CountTwice'. -/
def countTwiceUptoCard : Claim7 := { stood := { row := countTwiceUptoRow, standIns := [], harness := (true, "766b72460be20bff4fd339abae0dd02bcac8fac03e1eef6444bab2a996c0a68d"), looks := false }, kinds := [], alts := [], laidByText := true, laidKinds := [.data, .data, .data], laidTests := true, laidLooks := .later }
def CountTwiceUptoCardSaid : Prop := Claim7.holds Tryd.pinned (.plain (OpenSpec.upto countTwiceSpec)) countTwiceUptoCard
end Rows
end Go.Proofs.YtdddkoacolglkaaDoor
