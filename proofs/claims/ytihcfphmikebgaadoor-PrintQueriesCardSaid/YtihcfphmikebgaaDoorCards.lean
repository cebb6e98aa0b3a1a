/-
  DERIVED. GIVEN WITH THE SEED: THE CARDS: each row of YtihcfphmikebgaaDoorRows.lean that lists a variable, with what it lists TIED to the program's text (the seventh form; the later family's looks); each row that meets fmt, with fmt's text TOLD by the authors' own Lean function (tested against real Go, not proved from fmt's source: count such statements apart). THE CARD IS WHAT COUNTS. Prove the row's statement (the work); the ties are given (YtihcfphmikebgaaDoorTie.lean); close each card by the builder's one call (the guide's Derived/Test/ToyasCard.lean, 'card_holds'). Laid BY PROGRAM, IN A SANDBOX (cutbox-door.mjs). By AI agents, Wed Nov 11 2026. No macro, syntax, notation, axiom, sorry.
-/
import Derived.Test.YtihcfphmikebgaaDoorRows
import GoSem.ClaimSeven
namespace Go.Proofs.YtihcfphmikebgaaDoor
namespace Rows

/-- THE TIED CARD OF 'trommellaw10.PrintExprs'. -/
def printExprsCard : Claim7 := { stood := { row := printExprsRow, standIns := [], harness := (true, "5743e3348eacde2b3b082ce73700dbdda8bf308987f97a565c8c9b16efeb1725"), looks := false }, kinds := [], alts := [], laidByText := true, laidKinds := [.data, .data, .data], laidTests := true, laidLooks := .later }
def PrintExprsCardSaid : Prop := Claim7.holds Tryd.pinned (.plain (OpenSpec.ofChange printExprsSpec)) printExprsCard

/-- THE TIED CARD OF 'trommellaw10.PrintTells'. -/
def printTellsCard : Claim7 := { stood := { row := printTellsRow, standIns := [], harness := (true, "5743e3348eacde2b3b082ce73700dbdda8bf308987f97a565c8c9b16efeb1725"), looks := false }, kinds := [], alts := [], laidByText := true, laidKinds := [.data, .data, .data], laidTests := true, laidLooks := .later }
def PrintTellsCardSaid : Prop := Claim7.holds Tryd.pinned (.plain (OpenSpec.ofChange printTellsSpec)) printTellsCard

/-- THE TIED CARD OF 'trommellaw10.PrintQueries'. -/
def printQueriesCard : Claim7 := { stood := { row := printQueriesRow, standIns := [], harness := (true, "5743e3348eacde2b3b082ce73700dbdda8bf308987f97a565c8c9b16efeb1725"), looks := false }, kinds := [], alts := [], laidByText := true, laidKinds := [.data, .data, .data], laidTests := true, laidLooks := .later }
def PrintQueriesCardSaid : Prop := Claim7.holds Tryd.pinned (.plain (OpenSpec.ofChange printQueriesSpec)) printQueriesCard

/-- THE SECOND FORM's CARD OF 'trommellaw10.PrintExprs'. -/
def printExprsUptoCard : Claim7 := { stood := { row := printExprsUptoRow, standIns := [], harness := (true, "5743e3348eacde2b3b082ce73700dbdda8bf308987f97a565c8c9b16efeb1725"), looks := false }, kinds := [], alts := [], laidByText := true, laidKinds := [.data, .data, .data], laidTests := true, laidLooks := .later }
def PrintExprsUptoCardSaid : Prop := Claim7.holds Tryd.pinned (.plain (OpenSpec.upto printExprsSpec)) printExprsUptoCard

/-- THE SECOND FORM's CARD OF 'trommellaw10.PrintTells'. -/
def printTellsUptoCard : Claim7 := { stood := { row := printTellsUptoRow, standIns := [], harness := (true, "5743e3348eacde2b3b082ce73700dbdda8bf308987f97a565c8c9b16efeb1725"), looks := false }, kinds := [], alts := [], laidByText := true, laidKinds := [.data, .data, .data], laidTests := true, laidLooks := .later }
def PrintTellsUptoCardSaid : Prop := Claim7.holds Tryd.pinned (.plain (OpenSpec.upto printTellsSpec)) printTellsUptoCard

/-- THE SECOND FORM's CARD OF 'trommellaw10.PrintQueries'. -/
def printQueriesUptoCard : Claim7 := { stood := { row := printQueriesUptoRow, standIns := [], harness := (true, "5743e3348eacde2b3b082ce73700dbdda8bf308987f97a565c8c9b16efeb1725"), looks := false }, kinds := [], alts := [], laidByText := true, laidKinds := [.data, .data, .data], laidTests := true, laidLooks := .later }
def PrintQueriesUptoCardSaid : Prop := Claim7.holds Tryd.pinned (.plain (OpenSpec.upto printQueriesSpec)) printQueriesUptoCard
end Rows
end Go.Proofs.YtihcfphmikebgaaDoor
