/-
  No cell of these rows narrows 'for every input' (looked for: loops, veiled, ifaces, maps, wideKeys, modest, calm, conditions, laid).
  DERIVED. THE GIVEN ROWS OF THIS SEAT. 4 by the template 'for every input the law returns true; each argument reads behind the call as it read before'; 0 by the template 'total and deterministic' (their statements: YtnmgfckefofcpaaTotals.lean).
  GIVEN WITH THE SEED: the statements are not yours to turn. If you find one false, say at which input.
  Laid BY PROGRAM, IN A SANDBOX (cutbox-rows.mjs): the forced cells as the released guide's own fill.sh prints them over the translation 508cb86071d2198b… (all of the seat's roots in one cut). By AI agents, Wed Nov 11 2026. No macro, syntax, notation, axiom, sorry.
-/
import Derived.Test.YtnmgfckefofcpaaChecked
import GoSem.Claim
import GoSem.ClaimJoined
import GoSem.ClaimMapViews
import Derived.JoinedTies
import Derived.KernelRfl
namespace Go.Proofs.Ytnmgfckefofcpaa
/- THE CELL 'sum', in the pinned program and in every row, IS THE sha256 OF THE DUMP (.gsa) THAT YtnmgfckefofcpaaProg.lean LOADS. Nothing in Lean hashes anything: it is a label: what it is worth is what the hold of that sum in a sandbox is worth. -/
noncomputable def Try.pinned : Pinned := { name := "ytnmgfckefofcpaa", sum := "508cb86071d2198b036ced6166f700b36b3d1b1451480c077a9164290dca03ea", checked := Try.checked }
namespace Rows
def none {H : Type} : Left H := { results := [], args := [] }

/-- 'mummerlaw21.RowsFind': WHATEVER THE INPUT: true; the input reads as it did. -/
def rowsFindSpec : ChangeSpec := { name := "rowsFind", fn := fun _ => fun
  | [d1, d2, d3] => { results := [.lit (.bool true)], args := [d1, d2, d3] }
  | _ => none }
def rowsFindRow : OpenClaim := { program := "ytnmgfckefofcpaa", sum := "508cb86071d2198b036ced6166f700b36b3d1b1451480c077a9164290dca03ea", func := "mummer/mummerlaw21.RowsFind", spec := "rowsFind", unfollowed := true, recurses := true, apart := false }
def RowsFindSaid : Prop := rowsFindRow.holds Try.pinned (OpenSpec.ofChange rowsFindSpec)

/-- ITS FALSE NEIGHBOUR: 'it returns false'. Refute it at one input. -/
def rowsFindWrong : ChangeSpec := { name := "rowsFind", fn := fun _ => fun
  | [d1, d2, d3] => { results := [.lit (.bool false)], args := [d1, d2, d3] }
  | _ => none }
def RowsFindWrongFalsely : Prop := rowsFindRow.holds Try.pinned (OpenSpec.ofChange rowsFindWrong)

/-- 'mummerlaw21.RowsExits': WHATEVER THE INPUT: true; the input reads as it did. -/
def rowsExitsSpec : ChangeSpec := { name := "rowsExits", fn := fun _ => fun
  | [d] => { results := [.lit (.bool true)], args := [d] }
  | _ => none }
def rowsExitsRow : OpenClaim := { program := "ytnmgfckefofcpaa", sum := "508cb86071d2198b036ced6166f700b36b3d1b1451480c077a9164290dca03ea", func := "mummer/mummerlaw21.RowsExits", spec := "rowsExits", unfollowed := true, recurses := true, apart := false }
def RowsExitsSaid : Prop := rowsExitsRow.holds Try.pinned (OpenSpec.ofChange rowsExitsSpec)

/-- ITS FALSE NEIGHBOUR: 'it returns false'. Refute it at one input. -/
def rowsExitsWrong : ChangeSpec := { name := "rowsExits", fn := fun _ => fun
  | [d] => { results := [.lit (.bool false)], args := [d] }
  | _ => none }
def RowsExitsWrongFalsely : Prop := rowsExitsRow.holds Try.pinned (OpenSpec.ofChange rowsExitsWrong)

/-- 'mummerlaw21.RowsRight': WHATEVER THE INPUT: true; the input reads as it did. -/
def rowsRightSpec : ChangeSpec := { name := "rowsRight", fn := fun _ => fun
  | [d] => { results := [.lit (.bool true)], args := [d] }
  | _ => none }
def rowsRightRow : OpenClaim := { program := "ytnmgfckefofcpaa", sum := "508cb86071d2198b036ced6166f700b36b3d1b1451480c077a9164290dca03ea", func := "mummer/mummerlaw21.RowsRight", spec := "rowsRight", unfollowed := true, recurses := true, apart := false }
def RowsRightSaid : Prop := rowsRightRow.holds Try.pinned (OpenSpec.ofChange rowsRightSpec)

/-- ITS FALSE NEIGHBOUR: 'it returns false'. Refute it at one input. -/
def rowsRightWrong : ChangeSpec := { name := "rowsRight", fn := fun _ => fun
  | [d] => { results := [.lit (.bool false)], args := [d] }
  | _ => none }
def RowsRightWrongFalsely : Prop := rowsRightRow.holds Try.pinned (OpenSpec.ofChange rowsRightWrong)

/-- 'mummerlaw21.RowsMade': WHATEVER THE INPUT: true; the input reads as it did. -/
def rowsMadeSpec : ChangeSpec := { name := "rowsMade", fn := fun _ => fun
  | [d1, d2] => { results := [.lit (.bool true)], args := [d1, d2] }
  | _ => none }
def rowsMadeRow : OpenClaim := { program := "ytnmgfckefofcpaa", sum := "508cb86071d2198b036ced6166f700b36b3d1b1451480c077a9164290dca03ea", func := "mummer/mummerlaw21.RowsMade", spec := "rowsMade", inPlace := ["sync/atomic.LoadUint32", "(*internal/sync.Mutex).Lock", "internal/race.Disable", "sync/atomic.CompareAndSwapInt32", "internal/race.Enable", "internal/race.Acquire", "(*internal/sync.Mutex).lockSlow", "internal/sync.runtime_canSpin", "internal/sync.runtime_doSpin", "internal/sync.throw", "internal/sync.runtime_nanotime", "internal/sync.runtime_SemacquireMutex", "sync/atomic.AddInt32", "(*internal/sync.Mutex).Unlock", "internal/race.ReleaseMerge", "(*internal/sync.Mutex).unlockSlow", "internal/sync.fatal", "internal/sync.runtime_Semrelease", "sync/atomic.StoreUint32"], unfollowed := true, recurses := true, apart := false }
def RowsMadeSaid : Prop := rowsMadeRow.holds Try.pinned (OpenSpec.ofChange rowsMadeSpec)

/-- ITS FALSE NEIGHBOUR: 'it returns false'. Refute it at one input. -/
def rowsMadeWrong : ChangeSpec := { name := "rowsMade", fn := fun _ => fun
  | [d1, d2] => { results := [.lit (.bool false)], args := [d1, d2] }
  | _ => none }
def RowsMadeWrongFalsely : Prop := rowsMadeRow.holds Try.pinned (OpenSpec.ofChange rowsMadeWrong)

/- THE SECOND FORM. 'bulk': how many values and letters a reading holds, each counted each time it is reached (what is shared counts as often as it is met; a slice's spare places count too). A statement '..UptoSaid' is the law's where the arguments, and the package variables that the reading takes, are together of bulk at most 1048576: NARROWER than '..Said'. Prove '..Said' where nothing that the law and all that it calls make is longer than what came in: it says more and counts as full. Else prove '..UptoSaid'. A law counts once. -/
mutual
def uptoBulk {H : Type} : DataW H → Nat
  | .lit (.string bytes) => bytes.length + 1
  | .lit _ => 1
  | .nil => 1
  | .ptr d => uptoBulk d + 1
  | .slice elems spare => uptoBulkAll elems + uptoBulkAll spare + 1
  | .agg parts => uptoBulkAll parts + 1
  | .iface _ d => uptoBulk d + 1
  | .map entries => uptoBulkEntries entries + 1
  | .held _ => 1
def uptoBulkAll {H : Type} : List (DataW H) → Nat
  | [] => 0
  | d :: r => uptoBulk d + uptoBulkAll r
def uptoBulkEntries {H : Type} : List (Lit × DataW H) → Nat
  | [] => 0
  | x :: r => uptoBulkEntry x + uptoBulkEntries r
def uptoBulkEntry {H : Type} : Lit × DataW H → Nat
  | (.string bytes, d) => bytes.length + uptoBulk d + 1
  | (_, d) => uptoBulk d + 1
 end
def uptoSmall : (H : Type) → List (DataW H) → Bool := fun _ ds => decide (uptoBulkAll ds ≤ 1048576)
def OpenSpec.upto (s : _root_.Go.ChangeSpec) : _root_.Go.OpenSpec := { _root_.Go.OpenSpec.ofChange s with cond := some uptoSmall }

/-- 'mummerlaw21.RowsFind', WHERE WHAT IT READS IS OF BULK AT MOST 1048576: true; the input reads as it did. -/
def rowsFindUptoRow : OpenClaim := { program := "ytnmgfckefofcpaa", sum := "508cb86071d2198b036ced6166f700b36b3d1b1451480c077a9164290dca03ea", func := "mummer/mummerlaw21.RowsFind", spec := "rowsFind", unfollowed := true, recurses := true, apart := false, narrowed := true }
def RowsFindUptoSaid : Prop := rowsFindUptoRow.holds Try.pinned (OpenSpec.upto rowsFindSpec)

/-- 'mummerlaw21.RowsExits', WHERE WHAT IT READS IS OF BULK AT MOST 1048576: true; the input reads as it did. -/
def rowsExitsUptoRow : OpenClaim := { program := "ytnmgfckefofcpaa", sum := "508cb86071d2198b036ced6166f700b36b3d1b1451480c077a9164290dca03ea", func := "mummer/mummerlaw21.RowsExits", spec := "rowsExits", unfollowed := true, recurses := true, apart := false, narrowed := true }
def RowsExitsUptoSaid : Prop := rowsExitsUptoRow.holds Try.pinned (OpenSpec.upto rowsExitsSpec)

/-- 'mummerlaw21.RowsRight', WHERE WHAT IT READS IS OF BULK AT MOST 1048576: true; the input reads as it did. -/
def rowsRightUptoRow : OpenClaim := { program := "ytnmgfckefofcpaa", sum := "508cb86071d2198b036ced6166f700b36b3d1b1451480c077a9164290dca03ea", func := "mummer/mummerlaw21.RowsRight", spec := "rowsRight", unfollowed := true, recurses := true, apart := false, narrowed := true }
def RowsRightUptoSaid : Prop := rowsRightUptoRow.holds Try.pinned (OpenSpec.upto rowsRightSpec)

/-- 'mummerlaw21.RowsMade', WHERE WHAT IT READS IS OF BULK AT MOST 1048576: true; the input reads as it did. -/
def rowsMadeUptoRow : OpenClaim := { program := "ytnmgfckefofcpaa", sum := "508cb86071d2198b036ced6166f700b36b3d1b1451480c077a9164290dca03ea", func := "mummer/mummerlaw21.RowsMade", spec := "rowsMade", inPlace := ["sync/atomic.LoadUint32", "(*internal/sync.Mutex).Lock", "internal/race.Disable", "sync/atomic.CompareAndSwapInt32", "internal/race.Enable", "internal/race.Acquire", "(*internal/sync.Mutex).lockSlow", "internal/sync.runtime_canSpin", "internal/sync.runtime_doSpin", "internal/sync.throw", "internal/sync.runtime_nanotime", "internal/sync.runtime_SemacquireMutex", "sync/atomic.AddInt32", "(*internal/sync.Mutex).Unlock", "internal/race.ReleaseMerge", "(*internal/sync.Mutex).unlockSlow", "internal/sync.fatal", "internal/sync.runtime_Semrelease", "sync/atomic.StoreUint32"], unfollowed := true, recurses := true, apart := false, narrowed := true }
def RowsMadeUptoSaid : Prop := rowsMadeUptoRow.holds Try.pinned (OpenSpec.upto rowsMadeSpec)

end Rows
end Go.Proofs.Ytnmgfckefofcpaa
