/-
  DERIVED. GIVEN WITH THE SEED: THE CARDS: each row of YtgfljokamgbcaaaDoorRows.lean that lists a variable, with what it lists TIED to the program's text (the seventh form; the later family's looks); each row that meets fmt, with fmt's text TOLD by the authors' own Lean function (tested against real Go, not proved from fmt's source: count such statements apart). THE CARD IS WHAT COUNTS. Prove the row's statement (the work); the ties are given (YtgfljokamgbcaaaDoorTie.lean); close each card by the builder's one call (the guide's Derived/Test/ToyasCard.lean, 'card_holds'). Laid BY PROGRAM, IN A SANDBOX (cutbox-door.mjs). By AI agents, Wed Nov 11 2026. No macro, syntax, notation, axiom, sorry.
-/
import Derived.Test.YtgfljokamgbcaaaDoorRows
import GoSem.ClaimSeven
namespace Go.Proofs.YtgfljokamgbcaaaDoor
namespace Rows

/-- THE TIED CARD OF 'mummerlaw31.AsmShown'. -/
def asmShownCard : Claim7 := { stood := { row := asmShownRow, standIns := [], harness := (true, "8f5480551481980ee3e50eec1850195fbcdc53f47f76d9a9c02f222b28475745"), looks := true }, kinds := [], alts := [], laidByText := true, laidKinds := [.data, .data, .data, .data, .pinned], laidTests := true, laidLooks := .later }
def AsmShownCardSaid : Prop := Claim7.holds Tryd.pinned (.plain (OpenSpec.ofChange asmShownSpec)) asmShownCard

/-- THE TIED CARD OF 'mummerlaw31.AsmPlaces'. -/
def asmPlacesCard : Claim7 := { stood := { row := asmPlacesRow, standIns := [], harness := (true, "8f5480551481980ee3e50eec1850195fbcdc53f47f76d9a9c02f222b28475745"), looks := true }, kinds := [], alts := [], laidByText := true, laidKinds := [.data, .data, .data, .data, .pinned], laidTests := true, laidLooks := .later }
def AsmPlacesCardSaid : Prop := Claim7.holds Tryd.pinned (.plain (OpenSpec.ofChange asmPlacesSpec)) asmPlacesCard

/-- THE TIED CARD OF 'mummerlaw31.AsmJumps'. -/
def asmJumpsCard : Claim7 := { stood := { row := asmJumpsRow, standIns := [], harness := (true, "8f5480551481980ee3e50eec1850195fbcdc53f47f76d9a9c02f222b28475745"), looks := true }, kinds := [], alts := [], laidByText := true, laidKinds := [.data, .data, .data, .data, .pinned], laidTests := true, laidLooks := .later }
def AsmJumpsCardSaid : Prop := Claim7.holds Tryd.pinned (.plain (OpenSpec.ofChange asmJumpsSpec)) asmJumpsCard

/-- THE SECOND FORM's CARD OF 'mummerlaw31.AsmShown'. -/
def asmShownUptoCard : Claim7 := { stood := { row := asmShownUptoRow, standIns := [], harness := (true, "8f5480551481980ee3e50eec1850195fbcdc53f47f76d9a9c02f222b28475745"), looks := true }, kinds := [], alts := [], laidByText := true, laidKinds := [.data, .data, .data, .data, .pinned], laidTests := true, laidLooks := .later }
def AsmShownUptoCardSaid : Prop := Claim7.holds Tryd.pinned (.plain (OpenSpec.upto asmShownSpec)) asmShownUptoCard

/-- THE SECOND FORM's CARD OF 'mummerlaw31.AsmPlaces'. -/
def asmPlacesUptoCard : Claim7 := { stood := { row := asmPlacesUptoRow, standIns := [], harness := (true, "8f5480551481980ee3e50eec1850195fbcdc53f47f76d9a9c02f222b28475745"), looks := true }, kinds := [], alts := [], laidByText := true, laidKinds := [.data, .data, .data, .data, .pinned], laidTests := true, laidLooks := .later }
def AsmPlacesUptoCardSaid : Prop := Claim7.holds Tryd.pinned (.plain (OpenSpec.upto asmPlacesSpec)) asmPlacesUptoCard

/-- THE SECOND FORM's CARD OF 'mummerlaw31.AsmJumps'. -/
def asmJumpsUptoCard : Claim7 := { stood := { row := asmJumpsUptoRow, standIns := [], harness := (true, "8f5480551481980ee3e50eec1850195fbcdc53f47f76d9a9c02f222b28475745"), looks := true }, kinds := [], alts := [], laidByText := true, laidKinds := [.data, .data, .data, .data, .pinned], laidTests := true, laidLooks := .later }
def AsmJumpsUptoCardSaid : Prop := Claim7.holds Tryd.pinned (.plain (OpenSpec.upto asmJumpsSpec)) asmJumpsUptoCard
end Rows
end Go.Proofs.YtgfljokamgbcaaaDoor
