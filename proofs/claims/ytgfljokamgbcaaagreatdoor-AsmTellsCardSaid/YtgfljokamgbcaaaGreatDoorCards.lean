/-
  DERIVED. GIVEN WITH THE SEED: THE CARDS: each row of YtgfljokamgbcaaaGreatDoorRows.lean that lists a variable, with what it lists TIED to the program's text (the seventh form; the later family's looks); each row that meets fmt, with fmt's text TOLD by the authors' own Lean function (tested against real Go, not proved from fmt's source: count such statements apart). THE CARD IS WHAT COUNTS. Prove the row's statement (the work); the ties are given (YtgfljokamgbcaaaGreatDoorTie.lean); close each card by the builder's one call (the guide's Derived/Test/ToyasCard.lean, 'card_holds'). Laid BY PROGRAM, IN A SANDBOX (cutbox-door.mjs). By AI agents, Wed Nov 11 2026. No macro, syntax, notation, axiom, sorry.
-/
import Derived.Test.YtgfljokamgbcaaaGreatDoorRows
import GoSem.ClaimSeven
namespace Go.Proofs.YtgfljokamgbcaaaGreatDoor
namespace Rows

/-- THE TIED CARD OF 'mummerlaw31.AsmTells'. -/
def asmTellsCard : Claim7 := { stood := { row := asmTellsRow, standIns := [], harness := (true, "17d7ddb0113873b46605a40a9dd28c306944f9fdb37c59883e724531d369c07d"), looks := true }, kinds := [], alts := [], laidByText := true, laidKinds := [.data, .data, .data, .data, .pinned], laidTests := true, laidLooks := .later }
def AsmTellsCardSaid : Prop := Claim7.holds Tryz.pinned (.plain (OpenSpec.ofChange asmTellsSpec)) asmTellsCard

/-- THE SECOND FORM's CARD OF 'mummerlaw31.AsmTells'. -/
def asmTellsUptoCard : Claim7 := { stood := { row := asmTellsUptoRow, standIns := [], harness := (true, "17d7ddb0113873b46605a40a9dd28c306944f9fdb37c59883e724531d369c07d"), looks := true }, kinds := [], alts := [], laidByText := true, laidKinds := [.data, .data, .data, .data, .pinned], laidTests := true, laidLooks := .later }
def AsmTellsUptoCardSaid : Prop := Claim7.holds Tryz.pinned (.plain (OpenSpec.upto asmTellsSpec)) asmTellsUptoCard
end Rows
end Go.Proofs.YtgfljokamgbcaaaGreatDoor
