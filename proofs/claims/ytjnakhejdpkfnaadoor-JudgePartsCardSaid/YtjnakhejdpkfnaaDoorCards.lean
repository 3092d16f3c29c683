/-
  DERIVED. GIVEN WITH THE SEED: THE CARDS: each row of YtjnakhejdpkfnaaDoorRows.lean that lists a variable, with what it lists TIED to the program's text (the seventh form; the later family's looks); each row that meets fmt, with fmt's text TOLD by the authors' own Lean function (tested against real Go, not proved from fmt's source: count such statements apart). THE CARD IS WHAT COUNTS. Prove the row's statement (the work); the ties are given (YtjnakhejdpkfnaaDoorTie.lean); close each card by the builder's one call (the guide's Derived/Test/ToyasCard.lean, 'card_holds'). Laid BY PROGRAM, IN A SANDBOX (cutbox-door.mjs). By AI agents, Wed Nov 11 2026. No macro, syntax, notation, axiom, sorry.
-/
import Derived.Test.YtjnakhejdpkfnaaDoorRows
import GoSem.ClaimSeven
namespace Go.Proofs.YtjnakhejdpkfnaaDoor
namespace Rows

/-- THE TIED CARD OF 'mummerlaw27.JudgeLists'. -/
def judgeListsCard : Claim7 := { stood := { row := judgeListsRow, standIns := [], harness := (true, "cdd06f1c598d10c06fcb9b791fcdf79db0d9c528cc40ab9fc47e43fbbdd5cdf7"), looks := false }, kinds := [], alts := [], laidByText := true, laidKinds := [.data, .data, .data], laidTests := true, laidLooks := .later }
def JudgeListsCardSaid : Prop := Claim7.holds Tryd.pinned (.plain (OpenSpec.ofChange judgeListsSpec)) judgeListsCard

/-- THE TIED CARD OF 'mummerlaw27.JudgeRows'. -/
def judgeRowsCard : Claim7 := { stood := { row := judgeRowsRow, standIns := [], harness := (true, "cdd06f1c598d10c06fcb9b791fcdf79db0d9c528cc40ab9fc47e43fbbdd5cdf7"), looks := false }, kinds := [], alts := [], laidByText := true, laidKinds := [.data, .data, .data], laidTests := true, laidLooks := .later }
def JudgeRowsCardSaid : Prop := Claim7.holds Tryd.pinned (.plain (OpenSpec.ofChange judgeRowsSpec)) judgeRowsCard

/-- THE TIED CARD OF 'mummerlaw27.JudgeJoins'. -/
def judgeJoinsCard : Claim7 := { stood := { row := judgeJoinsRow, standIns := [], harness := (true, "cdd06f1c598d10c06fcb9b791fcdf79db0d9c528cc40ab9fc47e43fbbdd5cdf7"), looks := false }, kinds := [], alts := [], laidByText := true, laidKinds := [.data, .data, .data], laidTests := true, laidLooks := .later }
def JudgeJoinsCardSaid : Prop := Claim7.holds Tryd.pinned (.plain (OpenSpec.ofChange judgeJoinsSpec)) judgeJoinsCard

/-- THE TIED CARD OF 'mummerlaw27.JudgeStates'. -/
def judgeStatesCard : Claim7 := { stood := { row := judgeStatesRow, standIns := [], harness := (true, "cdd06f1c598d10c06fcb9b791fcdf79db0d9c528cc40ab9fc47e43fbbdd5cdf7"), looks := false }, kinds := [], alts := [], laidByText := true, laidKinds := [.data, .data, .data], laidTests := true, laidLooks := .later }
def JudgeStatesCardSaid : Prop := Claim7.holds Tryd.pinned (.plain (OpenSpec.ofChange judgeStatesSpec)) judgeStatesCard

/-- THE TIED CARD OF 'mummerlaw27.JudgeParts'. -/
def judgePartsCard : Claim7 := { stood := { row := judgePartsRow, standIns := [], harness := (true, "cdd06f1c598d10c06fcb9b791fcdf79db0d9c528cc40ab9fc47e43fbbdd5cdf7"), looks := false }, kinds := [], alts := [], laidByText := true, laidKinds := [.data, .data, .data], laidTests := true, laidLooks := .later }
def JudgePartsCardSaid : Prop := Claim7.holds Tryd.pinned (.plain (OpenSpec.ofChange judgePartsSpec)) judgePartsCard

/-- THE TIED CARD OF 'mummerlaw27.JudgeSelf'. -/
def judgeSelfCard : Claim7 := { stood := { row := judgeSelfRow, standIns := [], harness := (true, "cdd06f1c598d10c06fcb9b791fcdf79db0d9c528cc40ab9fc47e43fbbdd5cdf7"), looks := false }, kinds := [], alts := [], laidByText := true, laidKinds := [.data, .data, .data], laidTests := true, laidLooks := .later }
def JudgeSelfCardSaid : Prop := Claim7.holds Tryd.pinned (.plain (OpenSpec.ofChange judgeSelfSpec)) judgeSelfCard

/-- THE SECOND FORM's CARD OF 'mummerlaw27.JudgeLists'. -/
def judgeListsUptoCard : Claim7 := { stood := { row := judgeListsUptoRow, standIns := [], harness := (true, "cdd06f1c598d10c06fcb9b791fcdf79db0d9c528cc40ab9fc47e43fbbdd5cdf7"), looks := false }, kinds := [], alts := [], laidByText := true, laidKinds := [.data, .data, .data], laidTests := true, laidLooks := .later }
def JudgeListsUptoCardSaid : Prop := Claim7.holds Tryd.pinned (.plain (OpenSpec.upto judgeListsSpec)) judgeListsUptoCard

/-- THE SECOND FORM's CARD OF 'mummerlaw27.JudgeRows'. -/
def judgeRowsUptoCard : Claim7 := { stood := { row := judgeRowsUptoRow, standIns := [], harness := (true, "cdd06f1c598d10c06fcb9b791fcdf79db0d9c528cc40ab9fc47e43fbbdd5cdf7"), looks := false }, kinds := [], alts := [], laidByText := true, laidKinds := [.data, .data, .data], laidTests := true, laidLooks := .later }
def JudgeRowsUptoCardSaid : Prop := Claim7.holds Tryd.pinned (.plain (OpenSpec.upto judgeRowsSpec)) judgeRowsUptoCard

/-- THE SECOND FORM's CARD OF 'mummerlaw27.JudgeJoins'. -/
def judgeJoinsUptoCard : Claim7 := { stood := { row := judgeJoinsUptoRow, standIns := [], harness := (true, "cdd06f1c598d10c06fcb9b791fcdf79db0d9c528cc40ab9fc47e43fbbdd5cdf7"), looks := false }, kinds := [], alts := [], laidByText := true, laidKinds := [.data, .data, .data], laidTests := true, laidLooks := .later }
def JudgeJoinsUptoCardSaid : Prop := Claim7.holds Tryd.pinned (.plain (OpenSpec.upto judgeJoinsSpec)) judgeJoinsUptoCard

/-- THE SECOND FORM's CARD OF 'mummerlaw27.JudgeStates'. -/
def judgeStatesUptoCard : Claim7 := { stood := { row := judgeStatesUptoRow, standIns := [], harness := (true, "cdd06f1c598d10c06fcb9b791fcdf79db0d9c528cc40ab9fc47e43fbbdd5cdf7"), looks := false }, kinds := [], alts := [], laidByText := true, laidKinds := [.data, .data, .data], laidTests := true, laidLooks := .later }
def JudgeStatesUptoCardSaid : Prop := Claim7.holds Tryd.pinned (.plain (OpenSpec.upto judgeStatesSpec)) judgeStatesUptoCard

/-- THE SECOND FORM's CARD OF 'mummerlaw27.JudgeParts'. -/
def judgePartsUptoCard : Claim7 := { stood := { row := judgePartsUptoRow, standIns := [], harness := (true, "cdd06f1c598d10c06fcb9b791fcdf79db0d9c528cc40ab9fc47e43fbbdd5cdf7"), looks := false }, kinds := [], alts := [], laidByText := true, laidKinds := [.data, .data, .data], laidTests := true, laidLooks := .later }
def JudgePartsUptoCardSaid : Prop := Claim7.holds Tryd.pinned (.plain (OpenSpec.upto judgePartsSpec)) judgePartsUptoCard

/-- THE SECOND FORM's CARD OF 'mummerlaw27.JudgeSelf'. -/
def judgeSelfUptoCard : Claim7 := { stood := { row := judgeSelfUptoRow, standIns := [], harness := (true, "cdd06f1c598d10c06fcb9b791fcdf79db0d9c528cc40ab9fc47e43fbbdd5cdf7"), looks := false }, kinds := [], alts := [], laidByText := true, laidKinds := [.data, .data, .data], laidTests := true, laidLooks := .later }
def JudgeSelfUptoCardSaid : Prop := Claim7.holds Tryd.pinned (.plain (OpenSpec.upto judgeSelfSpec)) judgeSelfUptoCard
end Rows
end Go.Proofs.YtjnakhejdpkfnaaDoor
