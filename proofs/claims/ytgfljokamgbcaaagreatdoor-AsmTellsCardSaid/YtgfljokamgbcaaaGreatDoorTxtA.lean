/- The names of operations: the table, and the walk of text.names. (Written by mkTX.py.) -/
import Derived.Test.YtgfljokamgbcaaaGreatDoorRows
import Derived.WalkKit
import Derived.WalkLawsBesides
import Derived.Lib.Hide
import Derived.Below
import Derived.Great.Walk
namespace Go.Proofs.YtgfljokamgbcaaaGreatDoor
open Go.RowKit
set_option linter.unusedSimpArgs false
set_option linter.unusedVariables false
set_option maxRecDepth 100000

/-- A name: the word, the operation, the letters of A and B (0: none), and whether there is a number. -/
structure Nm where
  word : List UInt8
  op : Int
  a : Int
  b : Int
  imm : Bool
  deriving DecidableEq
def nmTab : List Nm := [
  ⟨[110, 111, 112], 0, 0, 0, false⟩,
  ⟨[104, 108, 116], 1, 0, 0, false⟩,
  ⟨[105, 114, 101, 116], 2, 0, 0, false⟩,
  ⟨[102, 108, 117, 115, 104], 3, 0, 0, false⟩,
  ⟨[109, 111, 118], 16, 114, 114, false⟩,
  ⟨[97, 100, 100], 17, 114, 114, false⟩,
  ⟨[115, 117, 98], 18, 114, 114, false⟩,
  ⟨[97, 110, 100], 19, 114, 114, false⟩,
  ⟨[111, 114], 20, 114, 114, false⟩,
  ⟨[120, 111, 114], 21, 114, 114, false⟩,
  ⟨[115, 104, 108], 22, 114, 114, false⟩,
  ⟨[115, 104, 114], 23, 114, 114, false⟩,
  ⟨[109, 117, 108], 24, 114, 114, false⟩,
  ⟨[100, 105, 118], 25, 114, 114, false⟩,
  ⟨[99, 109, 112], 26, 114, 114, false⟩,
  ⟨[114, 111, 114], 27, 114, 114, false⟩,
  ⟨[115, 97, 114], 28, 114, 114, false⟩,
  ⟨[109, 117, 108, 104], 29, 114, 114, false⟩,
  ⟨[114, 101, 109], 30, 114, 114, false⟩,
  ⟨[116, 115, 116], 31, 114, 114, false⟩,
  ⟨[108, 100, 105], 32, 114, 0, true⟩,
  ⟨[97, 100, 100, 105], 33, 114, 0, true⟩,
  ⟨[108, 100], 48, 114, 114, true⟩,
  ⟨[115, 116], 49, 114, 114, true⟩,
  ⟨[108, 100, 98], 50, 114, 114, true⟩,
  ⟨[115, 116, 98], 51, 114, 114, true⟩,
  ⟨[108, 100, 104], 52, 114, 114, true⟩,
  ⟨[115, 116, 104], 53, 114, 114, true⟩,
  ⟨[108, 100, 115, 98], 54, 114, 114, true⟩,
  ⟨[108, 100, 115, 104], 55, 114, 114, true⟩,
  ⟨[112, 117, 115, 104], 56, 114, 0, false⟩,
  ⟨[112, 111, 112], 57, 114, 0, false⟩,
  ⟨[120, 99, 104, 103], 58, 114, 114, false⟩,
  ⟨[106, 109, 112], 64, 0, 0, true⟩,
  ⟨[98, 101, 113], 65, 0, 0, true⟩,
  ⟨[98, 110, 101], 66, 0, 0, true⟩,
  ⟨[98, 108, 116], 67, 0, 0, true⟩,
  ⟨[98, 103, 101], 68, 0, 0, true⟩,
  ⟨[98, 108, 111], 69, 0, 0, true⟩,
  ⟨[98, 104, 115], 70, 0, 0, true⟩,
  ⟨[98, 118, 115], 71, 0, 0, true⟩,
  ⟨[99, 97, 108, 108], 72, 0, 0, true⟩,
  ⟨[106, 114], 73, 114, 0, false⟩,
  ⟨[99, 97, 108, 108, 114], 74, 114, 0, false⟩,
  ⟨[116, 114, 97, 112], 80, 0, 0, true⟩,
  ⟨[114, 100, 112, 115], 96, 114, 0, false⟩,
  ⟨[119, 114, 112, 115], 97, 114, 0, false⟩,
  ⟨[114, 100, 99, 114], 98, 114, 99, false⟩,
  ⟨[119, 114, 99, 114], 99, 114, 99, false⟩,
  ⟨[105, 110], 100, 114, 112, false⟩,
  ⟨[111, 117, 116], 101, 114, 112, false⟩,
  ⟨[116, 97, 108, 108, 121], 112, 0, 0, true⟩,
  ⟨[108, 101, 97, 118, 101], 113, 0, 0, true⟩]
def Nm.cells (n : Nm) : List Value := [.string ⟨n.word.toArray⟩, .int .u8 n.op, .int .u8 n.a, .int .u8 n.b, .bool n.imm]
def nmCells : Array Value := (nmTab.flatMap Nm.cells).toArray

set_option maxHeartbeats 4000000 in
theorem names_c (w : World) : Calls Tryz.prog 41 #[] w fun e w' => e = .returned (.slice (some ⟨w.heap.size, 0, none⟩) 53 53) ∧ w' = w.alloc (.cells nmCells 104) := by
  go_enter Tryz.func41, Tryz.ntmps41
  go_wp2_with (first
    | ((with_reducible show wpList _ _ _ (Oper.mk _ (.buildSlice 101 _ _) _ _ _ _ :: _) _ _); refine Great.wpList_buildSliceTo rfl 101 104 53 _ rfl _ rfl _ rfl Tryz.underlying101 nmCells (by kernel_rfl) ?_))
  go_ret
  exact ⟨rfl, rfl⟩
end Go.Proofs.YtgfljokamgbcaaaGreatDoor
