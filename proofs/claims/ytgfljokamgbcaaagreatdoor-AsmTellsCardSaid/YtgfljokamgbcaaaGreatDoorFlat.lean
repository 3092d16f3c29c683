/- A struct or an array of whole numbers and bools, arrays and structs in it included, that came in as an argument: its value is a row of cells, each of its kind. Whatever the program. -/
import Derived.WalkKit
import Derived.ProofKit
import Derived.OpenShut
namespace Go.Proofs.YtgfljokamgbcaaaGreatDoor
open Go.ChangeShapes Go.WideShapes Go.RowKit

/-- The kind of a cell. -/
inductive CK where
  | i (k : IntKind)
  | b

def CK.ok : CK → Value → Prop
  | .i k, v => ∃ n, v = .int k n ∧ (Lit.int k n).wf = true
  | .b, v => ∃ x, v = .bool x

section
variable {H : Type} {enc : TypeId × Value → H} {P : Program} {w : World} {base : Nat} {spare : Nat → Bool} {held : Bool}

end

end Go.Proofs.YtgfljokamgbcaaaGreatDoor
