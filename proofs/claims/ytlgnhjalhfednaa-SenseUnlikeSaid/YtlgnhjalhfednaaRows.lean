/-
  No cell of these rows narrows 'for every input' (looked for: loops, veiled, ifaces, maps, wideKeys, modest, calm, conditions, laid).
  DERIVED. THE GIVEN ROWS OF THIS SEAT. 6 by the template 'for every input the law returns true; each argument reads behind the call as it read before'; 0 by the template 'total and deterministic' (their statements: YtlgnhjalhfednaaTotals.lean).
  GIVEN WITH THE SEED: the statements are not yours to turn. If you find one false, say at which input.
  Laid BY PROGRAM, IN A SANDBOX (cutbox-rows.mjs): the forced cells as the released guide's own fill.sh prints them over the translation e0c929ee4acc4aad… (all of the seat's roots in one cut). By AI agents, Wed Nov 11 2026. No macro, syntax, notation, axiom, sorry.
-/
import Derived.Test.YtlgnhjalhfednaaChecked
import GoSem.Claim
import GoSem.ClaimJoined
import GoSem.ClaimMapViews
import Derived.JoinedTies
import Derived.KernelRfl
namespace Go.Proofs.Ytlgnhjalhfednaa
/- THE CELL 'sum', in the pinned program and in every row, IS THE sha256 OF THE DUMP (.gsa) THAT YtlgnhjalhfednaaProg.lean LOADS. Nothing in Lean hashes anything: it is a label: what it is worth is what the hold of that sum in a sandbox is worth. -/
noncomputable def Try.pinned : Pinned := { name := "ytlgnhjalhfednaa", sum := "e0c929ee4acc4aad92ef857710445226ee50c8f8dc3df8a1416ba70e12b827d7", checked := Try.checked }
namespace Rows
def none {H : Type} : Left H := { results := [], args := [] }

/-- 'mummerlaw09.SenseDoes': WHATEVER THE INPUT: true; the input reads as it did. -/
def senseDoesSpec : ChangeSpec := { name := "senseDoes", fn := fun _ => fun
  | [d1, d2, d3] => { results := [.lit (.bool true)], args := [d1, d2, d3] }
  | _ => none }
def senseDoesRow : OpenClaim := { program := "ytlgnhjalhfednaa", sum := "e0c929ee4acc4aad92ef857710445226ee50c8f8dc3df8a1416ba70e12b827d7", func := "mummer/mummerlaw09.SenseDoes", spec := "senseDoes", unfollowed := true, recurses := true, apart := false }
def SenseDoesSaid : Prop := senseDoesRow.holds Try.pinned (OpenSpec.ofChange senseDoesSpec)

/-- ITS FALSE NEIGHBOUR: 'it returns false'. Refute it at one input. -/
def senseDoesWrong : ChangeSpec := { name := "senseDoes", fn := fun _ => fun
  | [d1, d2, d3] => { results := [.lit (.bool false)], args := [d1, d2, d3] }
  | _ => none }
def SenseDoesWrongFalsely : Prop := senseDoesRow.holds Try.pinned (OpenSpec.ofChange senseDoesWrong)

/-- 'mummerlaw09.SenseKept': WHATEVER THE INPUT: true; the input reads as it did. -/
def senseKeptSpec : ChangeSpec := { name := "senseKept", fn := fun _ => fun
  | [d1, d2, d3] => { results := [.lit (.bool true)], args := [d1, d2, d3] }
  | _ => none }
def senseKeptRow : OpenClaim := { program := "ytlgnhjalhfednaa", sum := "e0c929ee4acc4aad92ef857710445226ee50c8f8dc3df8a1416ba70e12b827d7", func := "mummer/mummerlaw09.SenseKept", spec := "senseKept", unfollowed := true, recurses := true, apart := false }
def SenseKeptSaid : Prop := senseKeptRow.holds Try.pinned (OpenSpec.ofChange senseKeptSpec)

/-- ITS FALSE NEIGHBOUR: 'it returns false'. Refute it at one input. -/
def senseKeptWrong : ChangeSpec := { name := "senseKept", fn := fun _ => fun
  | [d1, d2, d3] => { results := [.lit (.bool false)], args := [d1, d2, d3] }
  | _ => none }
def SenseKeptWrongFalsely : Prop := senseKeptRow.holds Try.pinned (OpenSpec.ofChange senseKeptWrong)

/-- 'mummerlaw09.SenseUnlike': WHATEVER THE INPUT: true; the input reads as it did. -/
def senseUnlikeSpec : ChangeSpec := { name := "senseUnlike", fn := fun _ => fun
  | [d1, d2] => { results := [.lit (.bool true)], args := [d1, d2] }
  | _ => none }
def senseUnlikeRow : OpenClaim := { program := "ytlgnhjalhfednaa", sum := "e0c929ee4acc4aad92ef857710445226ee50c8f8dc3df8a1416ba70e12b827d7", func := "mummer/mummerlaw09.SenseUnlike", spec := "senseUnlike", unfollowed := true, recurses := true, apart := false }
def SenseUnlikeSaid : Prop := senseUnlikeRow.holds Try.pinned (OpenSpec.ofChange senseUnlikeSpec)

/-- ITS FALSE NEIGHBOUR: 'it returns false'. Refute it at one input. -/
def senseUnlikeWrong : ChangeSpec := { name := "senseUnlike", fn := fun _ => fun
  | [d1, d2] => { results := [.lit (.bool false)], args := [d1, d2] }
  | _ => none }
def SenseUnlikeWrongFalsely : Prop := senseUnlikeRow.holds Try.pinned (OpenSpec.ofChange senseUnlikeWrong)

/-- 'mummerlaw09.SenseThere': WHATEVER THE INPUT: true; the input reads as it did. -/
def senseThereSpec : ChangeSpec := { name := "senseThere", fn := fun _ => fun
  | [d1, d2, d3] => { results := [.lit (.bool true)], args := [d1, d2, d3] }
  | _ => none }
def senseThereRow : OpenClaim := { program := "ytlgnhjalhfednaa", sum := "e0c929ee4acc4aad92ef857710445226ee50c8f8dc3df8a1416ba70e12b827d7", func := "mummer/mummerlaw09.SenseThere", spec := "senseThere", unfollowed := true, recurses := true, apart := false }
def SenseThereSaid : Prop := senseThereRow.holds Try.pinned (OpenSpec.ofChange senseThereSpec)

/-- ITS FALSE NEIGHBOUR: 'it returns false'. Refute it at one input. -/
def senseThereWrong : ChangeSpec := { name := "senseThere", fn := fun _ => fun
  | [d1, d2, d3] => { results := [.lit (.bool false)], args := [d1, d2, d3] }
  | _ => none }
def SenseThereWrongFalsely : Prop := senseThereRow.holds Try.pinned (OpenSpec.ofChange senseThereWrong)

/-- 'mummerlaw09.SenseSilent': WHATEVER THE INPUT: true; the input reads as it did. -/
def senseSilentSpec : ChangeSpec := { name := "senseSilent", fn := fun _ => fun
  | [d1, d2, d3] => { results := [.lit (.bool true)], args := [d1, d2, d3] }
  | _ => none }
def senseSilentRow : OpenClaim := { program := "ytlgnhjalhfednaa", sum := "e0c929ee4acc4aad92ef857710445226ee50c8f8dc3df8a1416ba70e12b827d7", func := "mummer/mummerlaw09.SenseSilent", spec := "senseSilent", inPlace := ["sync/atomic.LoadUint32", "(*internal/sync.Mutex).Lock", "internal/race.Disable", "sync/atomic.CompareAndSwapInt32", "internal/race.Enable", "internal/race.Acquire", "(*internal/sync.Mutex).lockSlow", "internal/sync.runtime_canSpin", "internal/sync.runtime_doSpin", "internal/sync.throw", "internal/sync.runtime_nanotime", "internal/sync.runtime_SemacquireMutex", "sync/atomic.AddInt32", "(*internal/sync.Mutex).Unlock", "internal/race.ReleaseMerge", "(*internal/sync.Mutex).unlockSlow", "internal/sync.fatal", "internal/sync.runtime_Semrelease", "sync/atomic.StoreUint32"], unfollowed := true, recurses := true, apart := false }
def SenseSilentSaid : Prop := senseSilentRow.holds Try.pinned (OpenSpec.ofChange senseSilentSpec)

/-- ITS FALSE NEIGHBOUR: 'it returns false'. Refute it at one input. -/
def senseSilentWrong : ChangeSpec := { name := "senseSilent", fn := fun _ => fun
  | [d1, d2, d3] => { results := [.lit (.bool false)], args := [d1, d2, d3] }
  | _ => none }
def SenseSilentWrongFalsely : Prop := senseSilentRow.holds Try.pinned (OpenSpec.ofChange senseSilentWrong)

/-- 'mummerlaw09.SenseWrites': WHATEVER THE INPUT: true; the input reads as it did. -/
def senseWritesSpec : ChangeSpec := { name := "senseWrites", fn := fun _ => fun
  | [d1, d2, d3] => { results := [.lit (.bool true)], args := [d1, d2, d3] }
  | _ => none }
def senseWritesRow : OpenClaim := { program := "ytlgnhjalhfednaa", sum := "e0c929ee4acc4aad92ef857710445226ee50c8f8dc3df8a1416ba70e12b827d7", func := "mummer/mummerlaw09.SenseWrites", spec := "senseWrites", inPlace := ["sync/atomic.LoadUint32", "(*internal/sync.Mutex).Lock", "internal/race.Disable", "sync/atomic.CompareAndSwapInt32", "internal/race.Enable", "internal/race.Acquire", "(*internal/sync.Mutex).lockSlow", "internal/sync.runtime_canSpin", "internal/sync.runtime_doSpin", "internal/sync.throw", "internal/sync.runtime_nanotime", "internal/sync.runtime_SemacquireMutex", "sync/atomic.AddInt32", "(*internal/sync.Mutex).Unlock", "internal/race.ReleaseMerge", "(*internal/sync.Mutex).unlockSlow", "internal/sync.fatal", "internal/sync.runtime_Semrelease", "sync/atomic.StoreUint32"], unfollowed := true, recurses := true, apart := false }
def SenseWritesSaid : Prop := senseWritesRow.holds Try.pinned (OpenSpec.ofChange senseWritesSpec)

/-- ITS FALSE NEIGHBOUR: 'it returns false'. Refute it at one input. -/
def senseWritesWrong : ChangeSpec := { name := "senseWrites", fn := fun _ => fun
  | [d1, d2, d3] => { results := [.lit (.bool false)], args := [d1, d2, d3] }
  | _ => none }
def SenseWritesWrongFalsely : Prop := senseWritesRow.holds Try.pinned (OpenSpec.ofChange senseWritesWrong)

/- THE SECOND FORM. 'bulk': how many values and letters a reading holds, each counted each time it is reached (what is shared counts as often as it is met; a slice's spare places count too). A statement '..UptoSaid' is the law's where the arguments, and the package variables that the reading takes, are together of bulk at most 1048576: NARROWER than '..Said'. Prove '..Said' where nothing that the law and all that it calls make is longer than what came in: it says more and counts as full. Else prove '..UptoSaid'. A law counts once. -/
mutual
def uptoBulk {H : Type} : DataW H → Nat
  | .lit (.string bytes) => bytes.length + 1
  | .lit _ => 1
  | .nil => 1
  | .ptr d => uptoBulk d + 1
  | .slice elems spare => uptoBulkAll elems + uptoBulkAll spare + 1
  | .agg parts => uptoBulkAll parts + 1
  | .iface _ d => uptoBulk d + 1
  | .map entries => uptoBulkEntries entries + 1
  | .held _ => 1
def uptoBulkAll {H : Type} : List (DataW H) → Nat
  | [] => 0
  | d :: r => uptoBulk d + uptoBulkAll r
def uptoBulkEntries {H : Type} : List (Lit × DataW H) → Nat
  | [] => 0
  | x :: r => uptoBulkEntry x + uptoBulkEntries r
def uptoBulkEntry {H : Type} : Lit × DataW H → Nat
  | (.string bytes, d) => bytes.length + uptoBulk d + 1
  | (_, d) => uptoBulk d + 1
 end
def uptoSmall : (H : Type) → List (DataW H) → Bool := fun _ ds => decide (uptoBulkAll ds ≤ 1048576)
def OpenSpec.upto (s : _root_.Go.ChangeSpec) : _root_.Go.OpenSpec := { _root_.Go.OpenSpec.ofChange s with cond := some uptoSmall }

/-- 'mummerlaw09.SenseDoes', WHERE WHAT IT READS IS OF BULK AT MOST 1048576: true; the input reads as it did. -/
def senseDoesUptoRow : OpenClaim := { program := "ytlgnhjalhfednaa", sum := "e0c929ee4acc4aad92ef857710445226ee50c8f8dc3df8a1416ba70e12b827d7", func := "mummer/mummerlaw09.SenseDoes", spec := "senseDoes", unfollowed := true, recurses := true, apart := false, narrowed := true }
def SenseDoesUptoSaid : Prop := senseDoesUptoRow.holds Try.pinned (OpenSpec.upto senseDoesSpec)

/-- 'mummerlaw09.SenseKept', WHERE WHAT IT READS IS OF BULK AT MOST 1048576: true; the input reads as it did. -/
def senseKeptUptoRow : OpenClaim := { program := "ytlgnhjalhfednaa", sum := "e0c929ee4acc4aad92ef857710445226ee50c8f8dc3df8a1416ba70e12b827d7", func := "mummer/mummerlaw09.SenseKept", spec := "senseKept", unfollowed := true, recurses := true, apart := false, narrowed := true }
def SenseKeptUptoSaid : Prop := senseKeptUptoRow.holds Try.pinned (OpenSpec.upto senseKeptSpec)

/-- 'mummerlaw09.SenseUnlike', WHERE WHAT IT READS IS OF BULK AT MOST 1048576: true; the input reads as it did. -/
def senseUnlikeUptoRow : OpenClaim := { program := "ytlgnhjalhfednaa", sum := "e0c929ee4acc4aad92ef857710445226ee50c8f8dc3df8a1416ba70e12b827d7", func := "mummer/mummerlaw09.SenseUnlike", spec := "senseUnlike", unfollowed := true, recurses := true, apart := false, narrowed := true }
def SenseUnlikeUptoSaid : Prop := senseUnlikeUptoRow.holds Try.pinned (OpenSpec.upto senseUnlikeSpec)

/-- 'mummerlaw09.SenseThere', WHERE WHAT IT READS IS OF BULK AT MOST 1048576: true; the input reads as it did. -/
def senseThereUptoRow : OpenClaim := { program := "ytlgnhjalhfednaa", sum := "e0c929ee4acc4aad92ef857710445226ee50c8f8dc3df8a1416ba70e12b827d7", func := "mummer/mummerlaw09.SenseThere", spec := "senseThere", unfollowed := true, recurses := true, apart := false, narrowed := true }
def SenseThereUptoSaid : Prop := senseThereUptoRow.holds Try.pinned (OpenSpec.upto senseThereSpec)

/-- 'mummerlaw09.SenseSilent', WHERE WHAT IT READS IS OF BULK AT MOST 1048576: true; the input reads as it did. -/
def senseSilentUptoRow : OpenClaim := { program := "ytlgnhjalhfednaa", sum := "e0c929ee4acc4aad92ef857710445226ee50c8f8dc3df8a1416ba70e12b827d7", func := "mummer/mummerlaw09.SenseSilent", spec := "senseSilent", inPlace := ["sync/atomic.LoadUint32", "(*internal/sync.Mutex).Lock", "internal/race.Disable", "sync/atomic.CompareAndSwapInt32", "internal/race.Enable", "internal/race.Acquire", "(*internal/sync.Mutex).lockSlow", "internal/sync.runtime_canSpin", "internal/sync.runtime_doSpin", "internal/sync.throw", "internal/sync.runtime_nanotime", "internal/sync.runtime_SemacquireMutex", "sync/atomic.AddInt32", "(*internal/sync.Mutex).Unlock", "internal/race.ReleaseMerge", "(*internal/sync.Mutex).unlockSlow", "internal/sync.fatal", "internal/sync.runtime_Semrelease", "sync/atomic.StoreUint32"], unfollowed := true, recurses := true, apart := false, narrowed := true }
def SenseSilentUptoSaid : Prop := senseSilentUptoRow.holds Try.pinned (OpenSpec.upto senseSilentSpec)

/-- 'mummerlaw09.SenseWrites', WHERE WHAT IT READS IS OF BULK AT MOST 1048576: true; the input reads as it did. -/
def senseWritesUptoRow : OpenClaim := { program := "ytlgnhjalhfednaa", sum := "e0c929ee4acc4aad92ef857710445226ee50c8f8dc3df8a1416ba70e12b827d7", func := "mummer/mummerlaw09.SenseWrites", spec := "senseWrites", inPlace := ["sync/atomic.LoadUint32", "(*internal/sync.Mutex).Lock", "internal/race.Disable", "sync/atomic.CompareAndSwapInt32", "internal/race.Enable", "internal/race.Acquire", "(*internal/sync.Mutex).lockSlow", "internal/sync.runtime_canSpin", "internal/sync.runtime_doSpin", "internal/sync.throw", "internal/sync.runtime_nanotime", "internal/sync.runtime_SemacquireMutex", "sync/atomic.AddInt32", "(*internal/sync.Mutex).Unlock", "internal/race.ReleaseMerge", "(*internal/sync.Mutex).unlockSlow", "internal/sync.fatal", "internal/sync.runtime_Semrelease", "sync/atomic.StoreUint32"], unfollowed := true, recurses := true, apart := false, narrowed := true }
def SenseWritesUptoSaid : Prop := senseWritesUptoRow.holds Try.pinned (OpenSpec.upto senseWritesSpec)

end Rows
end Go.Proofs.Ytlgnhjalhfednaa
