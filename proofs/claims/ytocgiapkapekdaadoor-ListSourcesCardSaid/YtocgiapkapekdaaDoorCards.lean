/-
  DERIVED. GIVEN WITH THE SEED: THE CARDS: each row of YtocgiapkapekdaaDoorRows.lean that lists a variable, with what it lists TIED to the program's text (the seventh form; the later family's looks); each row that meets fmt, with fmt's text TOLD by the authors' own Lean function (tested against real Go, not proved from fmt's source: count such statements apart). THE CARD IS WHAT COUNTS. Prove the row's statement (the work); the ties are given (YtocgiapkapekdaaDoorTie.lean); close each card by the builder's one call (the guide's Derived/Test/ToyasCard.lean, 'card_holds'). Laid BY PROGRAM, IN A SANDBOX (cutbox-door.mjs). By AI agents, Wed Nov 11 2026. No macro, syntax, notation, axiom, sorry.
-/
import Derived.Test.YtocgiapkapekdaaDoorRows
import GoSem.ClaimSeven
namespace Go.Proofs.YtocgiapkapekdaaDoor
namespace Rows

/-- THE TIED CARD OF 'mummerlaw32.ListOnes'. -/
def listOnesCard : Claim7 := { stood := { row := listOnesRow, standIns := [], harness := (true, "1b46f53e3e89f76d846b0a5282916833818fc1126392f0986092df0f81a6f12c"), looks := false }, kinds := [], alts := [], laidByText := true, laidKinds := [.data, .data, .data], laidTests := true, laidLooks := .later }
def ListOnesCardSaid : Prop := Claim7.holds Tryd.pinned (.plain (OpenSpec.ofChange listOnesSpec)) listOnesCard

/-- THE TIED CARD OF 'mummerlaw32.ListSources'. -/
def listSourcesCard : Claim7 := { stood := { row := listSourcesRow, standIns := [], harness := (true, "1b46f53e3e89f76d846b0a5282916833818fc1126392f0986092df0f81a6f12c"), looks := false }, kinds := [], alts := [], laidByText := true, laidKinds := [.data, .data, .data], laidTests := true, laidLooks := .later }
def ListSourcesCardSaid : Prop := Claim7.holds Tryd.pinned (.plain (OpenSpec.ofChange listSourcesSpec)) listSourcesCard

/-- THE TIED CARD OF 'mummerlaw32.ListDumps'. -/
def listDumpsCard : Claim7 := { stood := { row := listDumpsRow, standIns := [], harness := (true, "1b46f53e3e89f76d846b0a5282916833818fc1126392f0986092df0f81a6f12c"), looks := false }, kinds := [], alts := [], laidByText := true, laidKinds := [.data, .data, .data], laidTests := true, laidLooks := .later }
def ListDumpsCardSaid : Prop := Claim7.holds Tryd.pinned (.plain (OpenSpec.ofChange listDumpsSpec)) listDumpsCard

/-- THE SECOND FORM's CARD OF 'mummerlaw32.ListOnes'. -/
def listOnesUptoCard : Claim7 := { stood := { row := listOnesUptoRow, standIns := [], harness := (true, "1b46f53e3e89f76d846b0a5282916833818fc1126392f0986092df0f81a6f12c"), looks := false }, kinds := [], alts := [], laidByText := true, laidKinds := [.data, .data, .data], laidTests := true, laidLooks := .later }
def ListOnesUptoCardSaid : Prop := Claim7.holds Tryd.pinned (.plain (OpenSpec.upto listOnesSpec)) listOnesUptoCard

/-- THE SECOND FORM's CARD OF 'mummerlaw32.ListSources'. -/
def listSourcesUptoCard : Claim7 := { stood := { row := listSourcesUptoRow, standIns := [], harness := (true, "1b46f53e3e89f76d846b0a5282916833818fc1126392f0986092df0f81a6f12c"), looks := false }, kinds := [], alts := [], laidByText := true, laidKinds := [.data, .data, .data], laidTests := true, laidLooks := .later }
def ListSourcesUptoCardSaid : Prop := Claim7.holds Tryd.pinned (.plain (OpenSpec.upto listSourcesSpec)) listSourcesUptoCard

/-- THE SECOND FORM's CARD OF 'mummerlaw32.ListDumps'. -/
def listDumpsUptoCard : Claim7 := { stood := { row := listDumpsUptoRow, standIns := [], harness := (true, "1b46f53e3e89f76d846b0a5282916833818fc1126392f0986092df0f81a6f12c"), looks := false }, kinds := [], alts := [], laidByText := true, laidKinds := [.data, .data, .data], laidTests := true, laidLooks := .later }
def ListDumpsUptoCardSaid : Prop := Claim7.holds Tryd.pinned (.plain (OpenSpec.upto listDumpsSpec)) listDumpsUptoCard
end Rows
end Go.Proofs.YtocgiapkapekdaaDoor
