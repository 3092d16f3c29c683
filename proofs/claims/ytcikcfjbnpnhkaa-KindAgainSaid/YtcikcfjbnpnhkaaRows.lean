/-
  No cell of these rows narrows 'for every input' (looked for: loops, veiled, ifaces, maps, wideKeys, modest, calm, conditions, laid).
  DERIVED. THE GIVEN ROWS OF THIS SEAT. 6 by the template 'for every input the law returns true; each argument reads behind the call as it read before'; 0 by the template 'total and deterministic' (their statements: YtcikcfjbnpnhkaaTotals.lean).
  GIVEN WITH THE SEED: the statements are not yours to turn. If you find one false, say at which input.
  Laid BY PROGRAM, IN A SANDBOX (cutbox-rows.mjs): the forced cells as the released guide's own fill.sh prints them over the translation 2186a99e6f8d8390… (all of the seat's roots in one cut). By AI agents, Wed Nov 11 2026. No macro, syntax, notation, axiom, sorry.
-/
import Derived.Test.YtcikcfjbnpnhkaaChecked
import GoSem.Claim
import GoSem.ClaimJoined
import GoSem.ClaimMapViews
import Derived.JoinedTies
import Derived.KernelRfl
namespace Go.Proofs.Ytcikcfjbnpnhkaa
/- THE CELL 'sum', in the pinned program and in every row, IS THE sha256 OF THE DUMP (.gsa) THAT YtcikcfjbnpnhkaaProg.lean LOADS. Nothing in Lean hashes anything: it is a label: what it is worth is what the hold of that sum in a sandbox is worth. -/
noncomputable def Try.pinned : Pinned := { name := "ytcikcfjbnpnhkaa", sum := "2186a99e6f8d8390cff9f0f8a55f0a1f7ad5a6a9c9f1fa7dda4caccb404ad312", checked := Try.checked }
namespace Rows
def none {H : Type} : Left H := { results := [], args := [] }

/-- 'mummerlaw03.KindClasses': WHATEVER THE INPUT: true; the input reads as it did. -/
def kindClassesSpec : ChangeSpec := { name := "kindClasses", fn := fun _ => fun
  | [d] => { results := [.lit (.bool true)], args := [d] }
  | _ => none }
def kindClassesRow : OpenClaim := { program := "ytcikcfjbnpnhkaa", sum := "2186a99e6f8d8390cff9f0f8a55f0a1f7ad5a6a9c9f1fa7dda4caccb404ad312", func := "mummer/mummerlaw03.KindClasses", spec := "kindClasses", inPlace := ["sync/atomic.LoadUint32", "(*internal/sync.Mutex).Lock", "internal/race.Disable", "sync/atomic.CompareAndSwapInt32", "internal/race.Enable", "internal/race.Acquire", "(*internal/sync.Mutex).lockSlow", "internal/sync.runtime_canSpin", "internal/sync.runtime_doSpin", "internal/sync.throw", "internal/sync.runtime_nanotime", "internal/sync.runtime_SemacquireMutex", "sync/atomic.AddInt32", "(*internal/sync.Mutex).Unlock", "internal/race.ReleaseMerge", "(*internal/sync.Mutex).unlockSlow", "internal/sync.fatal", "internal/sync.runtime_Semrelease", "sync/atomic.StoreUint32"], unfollowed := true, recurses := true, apart := false }
def KindClassesSaid : Prop := kindClassesRow.holds Try.pinned (OpenSpec.ofChange kindClassesSpec)

/-- ITS FALSE NEIGHBOUR: 'it returns false'. Refute it at one input. -/
def kindClassesWrong : ChangeSpec := { name := "kindClasses", fn := fun _ => fun
  | [d] => { results := [.lit (.bool false)], args := [d] }
  | _ => none }
def KindClassesWrongFalsely : Prop := kindClassesRow.holds Try.pinned (OpenSpec.ofChange kindClassesWrong)

/-- 'mummerlaw03.KindAsks': WHATEVER THE INPUT: true; the input reads as it did. -/
def kindAsksSpec : ChangeSpec := { name := "kindAsks", fn := fun _ => fun
  | [d] => { results := [.lit (.bool true)], args := [d] }
  | _ => none }
def kindAsksRow : OpenClaim := { program := "ytcikcfjbnpnhkaa", sum := "2186a99e6f8d8390cff9f0f8a55f0a1f7ad5a6a9c9f1fa7dda4caccb404ad312", func := "mummer/mummerlaw03.KindAsks", spec := "kindAsks", inPlace := ["sync/atomic.LoadUint32", "(*internal/sync.Mutex).Lock", "internal/race.Disable", "sync/atomic.CompareAndSwapInt32", "internal/race.Enable", "internal/race.Acquire", "(*internal/sync.Mutex).lockSlow", "internal/sync.runtime_canSpin", "internal/sync.runtime_doSpin", "internal/sync.throw", "internal/sync.runtime_nanotime", "internal/sync.runtime_SemacquireMutex", "sync/atomic.AddInt32", "(*internal/sync.Mutex).Unlock", "internal/race.ReleaseMerge", "(*internal/sync.Mutex).unlockSlow", "internal/sync.fatal", "internal/sync.runtime_Semrelease", "sync/atomic.StoreUint32"], unfollowed := true, recurses := true, apart := false }
def KindAsksSaid : Prop := kindAsksRow.holds Try.pinned (OpenSpec.ofChange kindAsksSpec)

/-- ITS FALSE NEIGHBOUR: 'it returns false'. Refute it at one input. -/
def kindAsksWrong : ChangeSpec := { name := "kindAsks", fn := fun _ => fun
  | [d] => { results := [.lit (.bool false)], args := [d] }
  | _ => none }
def KindAsksWrongFalsely : Prop := kindAsksRow.holds Try.pinned (OpenSpec.ofChange kindAsksWrong)

/-- 'mummerlaw03.KindSilent': WHATEVER THE INPUT: true; the input reads as it did. -/
def kindSilentSpec : ChangeSpec := { name := "kindSilent", fn := fun _ => fun
  | [d] => { results := [.lit (.bool true)], args := [d] }
  | _ => none }
def kindSilentRow : OpenClaim := { program := "ytcikcfjbnpnhkaa", sum := "2186a99e6f8d8390cff9f0f8a55f0a1f7ad5a6a9c9f1fa7dda4caccb404ad312", func := "mummer/mummerlaw03.KindSilent", spec := "kindSilent", inPlace := ["sync/atomic.LoadUint32", "(*internal/sync.Mutex).Lock", "internal/race.Disable", "sync/atomic.CompareAndSwapInt32", "internal/race.Enable", "internal/race.Acquire", "(*internal/sync.Mutex).lockSlow", "internal/sync.runtime_canSpin", "internal/sync.runtime_doSpin", "internal/sync.throw", "internal/sync.runtime_nanotime", "internal/sync.runtime_SemacquireMutex", "sync/atomic.AddInt32", "(*internal/sync.Mutex).Unlock", "internal/race.ReleaseMerge", "(*internal/sync.Mutex).unlockSlow", "internal/sync.fatal", "internal/sync.runtime_Semrelease", "sync/atomic.StoreUint32"], unfollowed := true, recurses := true, apart := false }
def KindSilentSaid : Prop := kindSilentRow.holds Try.pinned (OpenSpec.ofChange kindSilentSpec)

/-- ITS FALSE NEIGHBOUR: 'it returns false'. Refute it at one input. -/
def kindSilentWrong : ChangeSpec := { name := "kindSilent", fn := fun _ => fun
  | [d] => { results := [.lit (.bool false)], args := [d] }
  | _ => none }
def KindSilentWrongFalsely : Prop := kindSilentRow.holds Try.pinned (OpenSpec.ofChange kindSilentWrong)

/-- 'mummerlaw03.KindSets': WHATEVER THE INPUT: true; the input reads as it did. -/
def kindSetsSpec : ChangeSpec := { name := "kindSets", fn := fun _ => fun
  | [d] => { results := [.lit (.bool true)], args := [d] }
  | _ => none }
def kindSetsRow : OpenClaim := { program := "ytcikcfjbnpnhkaa", sum := "2186a99e6f8d8390cff9f0f8a55f0a1f7ad5a6a9c9f1fa7dda4caccb404ad312", func := "mummer/mummerlaw03.KindSets", spec := "kindSets", inPlace := ["sync/atomic.LoadUint32", "(*internal/sync.Mutex).Lock", "internal/race.Disable", "sync/atomic.CompareAndSwapInt32", "internal/race.Enable", "internal/race.Acquire", "(*internal/sync.Mutex).lockSlow", "internal/sync.runtime_canSpin", "internal/sync.runtime_doSpin", "internal/sync.throw", "internal/sync.runtime_nanotime", "internal/sync.runtime_SemacquireMutex", "sync/atomic.AddInt32", "(*internal/sync.Mutex).Unlock", "internal/race.ReleaseMerge", "(*internal/sync.Mutex).unlockSlow", "internal/sync.fatal", "internal/sync.runtime_Semrelease", "sync/atomic.StoreUint32"], unfollowed := true, recurses := true, apart := false }
def KindSetsSaid : Prop := kindSetsRow.holds Try.pinned (OpenSpec.ofChange kindSetsSpec)

/-- ITS FALSE NEIGHBOUR: 'it returns false'. Refute it at one input. -/
def kindSetsWrong : ChangeSpec := { name := "kindSets", fn := fun _ => fun
  | [d] => { results := [.lit (.bool false)], args := [d] }
  | _ => none }
def KindSetsWrongFalsely : Prop := kindSetsRow.holds Try.pinned (OpenSpec.ofChange kindSetsWrong)

/-- 'mummerlaw03.KindAgain': WHATEVER THE INPUT: true; the input reads as it did. -/
def kindAgainSpec : ChangeSpec := { name := "kindAgain", fn := fun _ => fun
  | [d] => { results := [.lit (.bool true)], args := [d] }
  | _ => none }
def kindAgainRow : OpenClaim := { program := "ytcikcfjbnpnhkaa", sum := "2186a99e6f8d8390cff9f0f8a55f0a1f7ad5a6a9c9f1fa7dda4caccb404ad312", func := "mummer/mummerlaw03.KindAgain", spec := "kindAgain", inPlace := ["sync/atomic.LoadUint32", "(*internal/sync.Mutex).Lock", "internal/race.Disable", "sync/atomic.CompareAndSwapInt32", "internal/race.Enable", "internal/race.Acquire", "(*internal/sync.Mutex).lockSlow", "internal/sync.runtime_canSpin", "internal/sync.runtime_doSpin", "internal/sync.throw", "internal/sync.runtime_nanotime", "internal/sync.runtime_SemacquireMutex", "sync/atomic.AddInt32", "(*internal/sync.Mutex).Unlock", "internal/race.ReleaseMerge", "(*internal/sync.Mutex).unlockSlow", "internal/sync.fatal", "internal/sync.runtime_Semrelease", "sync/atomic.StoreUint32"], unfollowed := true, recurses := true, apart := false }
def KindAgainSaid : Prop := kindAgainRow.holds Try.pinned (OpenSpec.ofChange kindAgainSpec)

/-- ITS FALSE NEIGHBOUR: 'it returns false'. Refute it at one input. -/
def kindAgainWrong : ChangeSpec := { name := "kindAgain", fn := fun _ => fun
  | [d] => { results := [.lit (.bool false)], args := [d] }
  | _ => none }
def KindAgainWrongFalsely : Prop := kindAgainRow.holds Try.pinned (OpenSpec.ofChange kindAgainWrong)

/-- 'mummerlaw03.KindNone': WHATEVER THE INPUT: true; the input reads as it did. -/
def kindNoneSpec : ChangeSpec := { name := "kindNone", fn := fun _ => fun
  | [d] => { results := [.lit (.bool true)], args := [d] }
  | _ => none }
def kindNoneRow : OpenClaim := { program := "ytcikcfjbnpnhkaa", sum := "2186a99e6f8d8390cff9f0f8a55f0a1f7ad5a6a9c9f1fa7dda4caccb404ad312", func := "mummer/mummerlaw03.KindNone", spec := "kindNone", inPlace := ["sync/atomic.LoadUint32", "(*internal/sync.Mutex).Lock", "internal/race.Disable", "sync/atomic.CompareAndSwapInt32", "internal/race.Enable", "internal/race.Acquire", "(*internal/sync.Mutex).lockSlow", "internal/sync.runtime_canSpin", "internal/sync.runtime_doSpin", "internal/sync.throw", "internal/sync.runtime_nanotime", "internal/sync.runtime_SemacquireMutex", "sync/atomic.AddInt32", "(*internal/sync.Mutex).Unlock", "internal/race.ReleaseMerge", "(*internal/sync.Mutex).unlockSlow", "internal/sync.fatal", "internal/sync.runtime_Semrelease", "sync/atomic.StoreUint32"], unfollowed := true, recurses := true, apart := false }
def KindNoneSaid : Prop := kindNoneRow.holds Try.pinned (OpenSpec.ofChange kindNoneSpec)

/-- ITS FALSE NEIGHBOUR: 'it returns false'. Refute it at one input. -/
def kindNoneWrong : ChangeSpec := { name := "kindNone", fn := fun _ => fun
  | [d] => { results := [.lit (.bool false)], args := [d] }
  | _ => none }
def KindNoneWrongFalsely : Prop := kindNoneRow.holds Try.pinned (OpenSpec.ofChange kindNoneWrong)

/- THE SECOND FORM. 'bulk': how many values and letters a reading holds, each counted each time it is reached (what is shared counts as often as it is met; a slice's spare places count too). A statement '..UptoSaid' is the law's where the arguments, and the package variables that the reading takes, are together of bulk at most 1048576: NARROWER than '..Said'. Prove '..Said' where nothing that the law and all that it calls make is longer than what came in: it says more and counts as full. Else prove '..UptoSaid'. A law counts once. -/
mutual
def uptoBulk {H : Type} : DataW H → Nat
  | .lit (.string bytes) => bytes.length + 1
  | .lit _ => 1
  | .nil => 1
  | .ptr d => uptoBulk d + 1
  | .slice elems spare => uptoBulkAll elems + uptoBulkAll spare + 1
  | .agg parts => uptoBulkAll parts + 1
  | .iface _ d => uptoBulk d + 1
  | .map entries => uptoBulkEntries entries + 1
  | .held _ => 1
def uptoBulkAll {H : Type} : List (DataW H) → Nat
  | [] => 0
  | d :: r => uptoBulk d + uptoBulkAll r
def uptoBulkEntries {H : Type} : List (Lit × DataW H) → Nat
  | [] => 0
  | x :: r => uptoBulkEntry x + uptoBulkEntries r
def uptoBulkEntry {H : Type} : Lit × DataW H → Nat
  | (.string bytes, d) => bytes.length + uptoBulk d + 1
  | (_, d) => uptoBulk d + 1
 end
def uptoSmall : (H : Type) → List (DataW H) → Bool := fun _ ds => decide (uptoBulkAll ds ≤ 1048576)
def OpenSpec.upto (s : _root_.Go.ChangeSpec) : _root_.Go.OpenSpec := { _root_.Go.OpenSpec.ofChange s with cond := some uptoSmall }

/-- 'mummerlaw03.KindClasses', WHERE WHAT IT READS IS OF BULK AT MOST 1048576: true; the input reads as it did. -/
def kindClassesUptoRow : OpenClaim := { program := "ytcikcfjbnpnhkaa", sum := "2186a99e6f8d8390cff9f0f8a55f0a1f7ad5a6a9c9f1fa7dda4caccb404ad312", func := "mummer/mummerlaw03.KindClasses", spec := "kindClasses", inPlace := ["sync/atomic.LoadUint32", "(*internal/sync.Mutex).Lock", "internal/race.Disable", "sync/atomic.CompareAndSwapInt32", "internal/race.Enable", "internal/race.Acquire", "(*internal/sync.Mutex).lockSlow", "internal/sync.runtime_canSpin", "internal/sync.runtime_doSpin", "internal/sync.throw", "internal/sync.runtime_nanotime", "internal/sync.runtime_SemacquireMutex", "sync/atomic.AddInt32", "(*internal/sync.Mutex).Unlock", "internal/race.ReleaseMerge", "(*internal/sync.Mutex).unlockSlow", "internal/sync.fatal", "internal/sync.runtime_Semrelease", "sync/atomic.StoreUint32"], unfollowed := true, recurses := true, apart := false, narrowed := true }
def KindClassesUptoSaid : Prop := kindClassesUptoRow.holds Try.pinned (OpenSpec.upto kindClassesSpec)

/-- 'mummerlaw03.KindAsks', WHERE WHAT IT READS IS OF BULK AT MOST 1048576: true; the input reads as it did. -/
def kindAsksUptoRow : OpenClaim := { program := "ytcikcfjbnpnhkaa", sum := "2186a99e6f8d8390cff9f0f8a55f0a1f7ad5a6a9c9f1fa7dda4caccb404ad312", func := "mummer/mummerlaw03.KindAsks", spec := "kindAsks", inPlace := ["sync/atomic.LoadUint32", "(*internal/sync.Mutex).Lock", "internal/race.Disable", "sync/atomic.CompareAndSwapInt32", "internal/race.Enable", "internal/race.Acquire", "(*internal/sync.Mutex).lockSlow", "internal/sync.runtime_canSpin", "internal/sync.runtime_doSpin", "internal/sync.throw", "internal/sync.runtime_nanotime", "internal/sync.runtime_SemacquireMutex", "sync/atomic.AddInt32", "(*internal/sync.Mutex).Unlock", "internal/race.ReleaseMerge", "(*internal/sync.Mutex).unlockSlow", "internal/sync.fatal", "internal/sync.runtime_Semrelease", "sync/atomic.StoreUint32"], unfollowed := true, recurses := true, apart := false, narrowed := true }
def KindAsksUptoSaid : Prop := kindAsksUptoRow.holds Try.pinned (OpenSpec.upto kindAsksSpec)

/-- 'mummerlaw03.KindSilent', WHERE WHAT IT READS IS OF BULK AT MOST 1048576: true; the input reads as it did. -/
def kindSilentUptoRow : OpenClaim := { program := "ytcikcfjbnpnhkaa", sum := "2186a99e6f8d8390cff9f0f8a55f0a1f7ad5a6a9c9f1fa7dda4caccb404ad312", func := "mummer/mummerlaw03.KindSilent", spec := "kindSilent", inPlace := ["sync/atomic.LoadUint32", "(*internal/sync.Mutex).Lock", "internal/race.Disable", "sync/atomic.CompareAndSwapInt32", "internal/race.Enable", "internal/race.Acquire", "(*internal/sync.Mutex).lockSlow", "internal/sync.runtime_canSpin", "internal/sync.runtime_doSpin", "internal/sync.throw", "internal/sync.runtime_nanotime", "internal/sync.runtime_SemacquireMutex", "sync/atomic.AddInt32", "(*internal/sync.Mutex).Unlock", "internal/race.ReleaseMerge", "(*internal/sync.Mutex).unlockSlow", "internal/sync.fatal", "internal/sync.runtime_Semrelease", "sync/atomic.StoreUint32"], unfollowed := true, recurses := true, apart := false, narrowed := true }
def KindSilentUptoSaid : Prop := kindSilentUptoRow.holds Try.pinned (OpenSpec.upto kindSilentSpec)

/-- 'mummerlaw03.KindSets', WHERE WHAT IT READS IS OF BULK AT MOST 1048576: true; the input reads as it did. -/
def kindSetsUptoRow : OpenClaim := { program := "ytcikcfjbnpnhkaa", sum := "2186a99e6f8d8390cff9f0f8a55f0a1f7ad5a6a9c9f1fa7dda4caccb404ad312", func := "mummer/mummerlaw03.KindSets", spec := "kindSets", inPlace := ["sync/atomic.LoadUint32", "(*internal/sync.Mutex).Lock", "internal/race.Disable", "sync/atomic.CompareAndSwapInt32", "internal/race.Enable", "internal/race.Acquire", "(*internal/sync.Mutex).lockSlow", "internal/sync.runtime_canSpin", "internal/sync.runtime_doSpin", "internal/sync.throw", "internal/sync.runtime_nanotime", "internal/sync.runtime_SemacquireMutex", "sync/atomic.AddInt32", "(*internal/sync.Mutex).Unlock", "internal/race.ReleaseMerge", "(*internal/sync.Mutex).unlockSlow", "internal/sync.fatal", "internal/sync.runtime_Semrelease", "sync/atomic.StoreUint32"], unfollowed := true, recurses := true, apart := false, narrowed := true }
def KindSetsUptoSaid : Prop := kindSetsUptoRow.holds Try.pinned (OpenSpec.upto kindSetsSpec)

/-- 'mummerlaw03.KindAgain', WHERE WHAT IT READS IS OF BULK AT MOST 1048576: true; the input reads as it did. -/
def kindAgainUptoRow : OpenClaim := { program := "ytcikcfjbnpnhkaa", sum := "2186a99e6f8d8390cff9f0f8a55f0a1f7ad5a6a9c9f1fa7dda4caccb404ad312", func := "mummer/mummerlaw03.KindAgain", spec := "kindAgain", inPlace := ["sync/atomic.LoadUint32", "(*internal/sync.Mutex).Lock", "internal/race.Disable", "sync/atomic.CompareAndSwapInt32", "internal/race.Enable", "internal/race.Acquire", "(*internal/sync.Mutex).lockSlow", "internal/sync.runtime_canSpin", "internal/sync.runtime_doSpin", "internal/sync.throw", "internal/sync.runtime_nanotime", "internal/sync.runtime_SemacquireMutex", "sync/atomic.AddInt32", "(*internal/sync.Mutex).Unlock", "internal/race.ReleaseMerge", "(*internal/sync.Mutex).unlockSlow", "internal/sync.fatal", "internal/sync.runtime_Semrelease", "sync/atomic.StoreUint32"], unfollowed := true, recurses := true, apart := false, narrowed := true }
def KindAgainUptoSaid : Prop := kindAgainUptoRow.holds Try.pinned (OpenSpec.upto kindAgainSpec)

/-- 'mummerlaw03.KindNone', WHERE WHAT IT READS IS OF BULK AT MOST 1048576: true; the input reads as it did. -/
def kindNoneUptoRow : OpenClaim := { program := "ytcikcfjbnpnhkaa", sum := "2186a99e6f8d8390cff9f0f8a55f0a1f7ad5a6a9c9f1fa7dda4caccb404ad312", func := "mummer/mummerlaw03.KindNone", spec := "kindNone", inPlace := ["sync/atomic.LoadUint32", "(*internal/sync.Mutex).Lock", "internal/race.Disable", "sync/atomic.CompareAndSwapInt32", "internal/race.Enable", "internal/race.Acquire", "(*internal/sync.Mutex).lockSlow", "internal/sync.runtime_canSpin", "internal/sync.runtime_doSpin", "internal/sync.throw", "internal/sync.runtime_nanotime", "internal/sync.runtime_SemacquireMutex", "sync/atomic.AddInt32", "(*internal/sync.Mutex).Unlock", "internal/race.ReleaseMerge", "(*internal/sync.Mutex).unlockSlow", "internal/sync.fatal", "internal/sync.runtime_Semrelease", "sync/atomic.StoreUint32"], unfollowed := true, recurses := true, apart := false, narrowed := true }
def KindNoneUptoSaid : Prop := kindNoneUptoRow.holds Try.pinned (OpenSpec.upto kindNoneSpec)

end Rows
end Go.Proofs.Ytcikcfjbnpnhkaa
