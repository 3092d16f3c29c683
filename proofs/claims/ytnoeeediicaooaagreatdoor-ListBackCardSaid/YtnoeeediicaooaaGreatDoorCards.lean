/-
  DERIVED. GIVEN WITH THE SEED: THE CARDS: each row of YtnoeeediicaooaaGreatDoorRows.lean that lists a variable, with what it lists TIED to the program's text (the seventh form; the later family's looks); each row that meets fmt, with fmt's text TOLD by the authors' own Lean function (tested against real Go, not proved from fmt's source: count such statements apart). THE CARD IS WHAT COUNTS. Prove the row's statement (the work); the ties are given (YtnoeeediicaooaaGreatDoorTie.lean); close each card by the builder's one call (the guide's Derived/Test/ToyasCard.lean, 'card_holds'). Laid BY PROGRAM, IN A SANDBOX (cutbox-door.mjs). By AI agents, Wed Nov 11 2026. No macro, syntax, notation, axiom, sorry.
-/
import Derived.Test.YtnoeeediicaooaaGreatDoorRows
import GoSem.ClaimSeven
namespace Go.Proofs.YtnoeeediicaooaaGreatDoor
namespace Rows

/-- THE TIED CARD OF 'mummerlaw32.ListNamed'. -/
def listNamedCard : Claim7 := { stood := { row := listNamedRow, standIns := [], harness := (true, "ebc50d6aefddc9236cf33d0dea7b05798d5ae4533dbe5859daba495481bd2aa4"), looks := true }, kinds := [], alts := [], laidByText := true, laidKinds := [.data, .data, .data, .data, .pinned], laidTests := true, laidLooks := .later }
def ListNamedCardSaid : Prop := Claim7.holds Tryz.pinned (.plain (OpenSpec.ofChange listNamedSpec)) listNamedCard

/-- THE TIED CARD OF 'mummerlaw32.ListBack'. -/
def listBackCard : Claim7 := { stood := { row := listBackRow, standIns := [], harness := (true, "ebc50d6aefddc9236cf33d0dea7b05798d5ae4533dbe5859daba495481bd2aa4"), looks := true }, kinds := [], alts := [], laidByText := true, laidKinds := [.data, .data, .data, .data, .pinned], laidTests := true, laidLooks := .later }
def ListBackCardSaid : Prop := Claim7.holds Tryz.pinned (.plain (OpenSpec.ofChange listBackSpec)) listBackCard

/-- THE SECOND FORM's CARD OF 'mummerlaw32.ListNamed'. -/
def listNamedUptoCard : Claim7 := { stood := { row := listNamedUptoRow, standIns := [], harness := (true, "ebc50d6aefddc9236cf33d0dea7b05798d5ae4533dbe5859daba495481bd2aa4"), looks := true }, kinds := [], alts := [], laidByText := true, laidKinds := [.data, .data, .data, .data, .pinned], laidTests := true, laidLooks := .later }
def ListNamedUptoCardSaid : Prop := Claim7.holds Tryz.pinned (.plain (OpenSpec.upto listNamedSpec)) listNamedUptoCard

/-- THE SECOND FORM's CARD OF 'mummerlaw32.ListBack'. -/
def listBackUptoCard : Claim7 := { stood := { row := listBackUptoRow, standIns := [], harness := (true, "ebc50d6aefddc9236cf33d0dea7b05798d5ae4533dbe5859daba495481bd2aa4"), looks := true }, kinds := [], alts := [], laidByText := true, laidKinds := [.data, .data, .data, .data, .pinned], laidTests := true, laidLooks := .later }
def ListBackUptoCardSaid : Prop := Claim7.holds Tryz.pinned (.plain (OpenSpec.upto listBackSpec)) listBackUptoCard
end Rows
end Go.Proofs.YtnoeeediicaooaaGreatDoor
