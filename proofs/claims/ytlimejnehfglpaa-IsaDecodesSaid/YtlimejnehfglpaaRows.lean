/-
  No cell of these rows narrows 'for every input' (looked for: loops, veiled, ifaces, maps, wideKeys, modest, calm, conditions, laid).
  DERIVED. THE GIVEN ROWS OF THIS SEAT. 8 by the template 'for every input the law returns true; each argument reads behind the call as it read before'; 0 by the template 'total and deterministic' (their statements: YtlimejnehfglpaaTotals.lean).
  GIVEN WITH THE SEED: the statements are not yours to turn. If you find one false, say at which input.
  Laid BY PROGRAM, IN A SANDBOX (cutbox-rows.mjs): the forced cells as the released guide's own fill.sh prints them over the translation e646e22e8b55669b… (all of the seat's roots in one cut). By AI agents, Wed Nov 11 2026. No macro, syntax, notation, axiom, sorry.
-/
import Derived.Test.YtlimejnehfglpaaChecked
import GoSem.Claim
import GoSem.ClaimJoined
import GoSem.ClaimMapViews
import Derived.JoinedTies
import Derived.KernelRfl
namespace Go.Proofs.Ytlimejnehfglpaa
/- THE CELL 'sum', in the pinned program and in every row, IS THE sha256 OF THE DUMP (.gsa) THAT YtlimejnehfglpaaProg.lean LOADS. Nothing in Lean hashes anything: it is a label: what it is worth is what the hold of that sum in a sandbox is worth. -/
noncomputable def Try.pinned : Pinned := { name := "ytlimejnehfglpaa", sum := "e646e22e8b55669b5fd4a9f58ba745042c467e1f60e343a5dcf87527871a1c51", checked := Try.checked }
namespace Rows
def none {H : Type} : Left H := { results := [], args := [] }

/-- 'mummerlaw02.IsaMays': WHATEVER THE INPUT: true; the input reads as it did. -/
def isaMaysSpec : ChangeSpec := { name := "isaMays", fn := fun _ => fun
  | [d1, d2] => { results := [.lit (.bool true)], args := [d1, d2] }
  | _ => none }
def isaMaysRow : OpenClaim := { program := "ytlimejnehfglpaa", sum := "e646e22e8b55669b5fd4a9f58ba745042c467e1f60e343a5dcf87527871a1c51", func := "mummer/mummerlaw02.IsaMays", spec := "isaMays", apart := false }
def IsaMaysSaid : Prop := isaMaysRow.holds Try.pinned (OpenSpec.ofChange isaMaysSpec)

/-- ITS FALSE NEIGHBOUR: 'it returns false'. Refute it at one input. -/
def isaMaysWrong : ChangeSpec := { name := "isaMays", fn := fun _ => fun
  | [d1, d2] => { results := [.lit (.bool false)], args := [d1, d2] }
  | _ => none }
def IsaMaysWrongFalsely : Prop := isaMaysRow.holds Try.pinned (OpenSpec.ofChange isaMaysWrong)

/-- 'mummerlaw02.IsaEncodes': WHATEVER THE INPUT: true; the input reads as it did. -/
def isaEncodesSpec : ChangeSpec := { name := "isaEncodes", fn := fun _ => fun
  | [d1, d2] => { results := [.lit (.bool true)], args := [d1, d2] }
  | _ => none }
def isaEncodesRow : OpenClaim := { program := "ytlimejnehfglpaa", sum := "e646e22e8b55669b5fd4a9f58ba745042c467e1f60e343a5dcf87527871a1c51", func := "mummer/mummerlaw02.IsaEncodes", spec := "isaEncodes", apart := false }
def IsaEncodesSaid : Prop := isaEncodesRow.holds Try.pinned (OpenSpec.ofChange isaEncodesSpec)

/-- ITS FALSE NEIGHBOUR: 'it returns false'. Refute it at one input. -/
def isaEncodesWrong : ChangeSpec := { name := "isaEncodes", fn := fun _ => fun
  | [d1, d2] => { results := [.lit (.bool false)], args := [d1, d2] }
  | _ => none }
def IsaEncodesWrongFalsely : Prop := isaEncodesRow.holds Try.pinned (OpenSpec.ofChange isaEncodesWrong)

/-- 'mummerlaw02.IsaSizes': WHATEVER THE INPUT: true; the input reads as it did. -/
def isaSizesSpec : ChangeSpec := { name := "isaSizes", fn := fun _ => fun
  | [d1, d2] => { results := [.lit (.bool true)], args := [d1, d2] }
  | _ => none }
def isaSizesRow : OpenClaim := { program := "ytlimejnehfglpaa", sum := "e646e22e8b55669b5fd4a9f58ba745042c467e1f60e343a5dcf87527871a1c51", func := "mummer/mummerlaw02.IsaSizes", spec := "isaSizes", apart := false }
def IsaSizesSaid : Prop := isaSizesRow.holds Try.pinned (OpenSpec.ofChange isaSizesSpec)

/-- ITS FALSE NEIGHBOUR: 'it returns false'. Refute it at one input. -/
def isaSizesWrong : ChangeSpec := { name := "isaSizes", fn := fun _ => fun
  | [d1, d2] => { results := [.lit (.bool false)], args := [d1, d2] }
  | _ => none }
def IsaSizesWrongFalsely : Prop := isaSizesRow.holds Try.pinned (OpenSpec.ofChange isaSizesWrong)

/-- 'mummerlaw02.IsaDecodes': WHATEVER THE INPUT: true; the input reads as it did. -/
def isaDecodesSpec : ChangeSpec := { name := "isaDecodes", fn := fun _ => fun
  | [d1, d2] => { results := [.lit (.bool true)], args := [d1, d2] }
  | _ => none }
def isaDecodesRow : OpenClaim := { program := "ytlimejnehfglpaa", sum := "e646e22e8b55669b5fd4a9f58ba745042c467e1f60e343a5dcf87527871a1c51", func := "mummer/mummerlaw02.IsaDecodes", spec := "isaDecodes", unfollowed := true, recurses := true, apart := false }
def IsaDecodesSaid : Prop := isaDecodesRow.holds Try.pinned (OpenSpec.ofChange isaDecodesSpec)

/-- ITS FALSE NEIGHBOUR: 'it returns false'. Refute it at one input. -/
def isaDecodesWrong : ChangeSpec := { name := "isaDecodes", fn := fun _ => fun
  | [d1, d2] => { results := [.lit (.bool false)], args := [d1, d2] }
  | _ => none }
def IsaDecodesWrongFalsely : Prop := isaDecodesRow.holds Try.pinned (OpenSpec.ofChange isaDecodesWrong)

/-- 'mummerlaw02.IsaOnce': WHATEVER THE INPUT: true; the input reads as it did. -/
def isaOnceSpec : ChangeSpec := { name := "isaOnce", fn := fun _ => fun
  | [d1, d2] => { results := [.lit (.bool true)], args := [d1, d2] }
  | _ => none }
def isaOnceRow : OpenClaim := { program := "ytlimejnehfglpaa", sum := "e646e22e8b55669b5fd4a9f58ba745042c467e1f60e343a5dcf87527871a1c51", func := "mummer/mummerlaw02.IsaOnce", spec := "isaOnce", unfollowed := true, recurses := true, apart := false }
def IsaOnceSaid : Prop := isaOnceRow.holds Try.pinned (OpenSpec.ofChange isaOnceSpec)

/-- ITS FALSE NEIGHBOUR: 'it returns false'. Refute it at one input. -/
def isaOnceWrong : ChangeSpec := { name := "isaOnce", fn := fun _ => fun
  | [d1, d2] => { results := [.lit (.bool false)], args := [d1, d2] }
  | _ => none }
def IsaOnceWrongFalsely : Prop := isaOnceRow.holds Try.pinned (OpenSpec.ofChange isaOnceWrong)

/-- 'mummerlaw02.IsaTorn': WHATEVER THE INPUT: true; the input reads as it did. -/
def isaTornSpec : ChangeSpec := { name := "isaTorn", fn := fun _ => fun
  | [d1, d2, d3] => { results := [.lit (.bool true)], args := [d1, d2, d3] }
  | _ => none }
def isaTornRow : OpenClaim := { program := "ytlimejnehfglpaa", sum := "e646e22e8b55669b5fd4a9f58ba745042c467e1f60e343a5dcf87527871a1c51", func := "mummer/mummerlaw02.IsaTorn", spec := "isaTorn", unfollowed := true, recurses := true, apart := false }
def IsaTornSaid : Prop := isaTornRow.holds Try.pinned (OpenSpec.ofChange isaTornSpec)

/-- ITS FALSE NEIGHBOUR: 'it returns false'. Refute it at one input. -/
def isaTornWrong : ChangeSpec := { name := "isaTorn", fn := fun _ => fun
  | [d1, d2, d3] => { results := [.lit (.bool false)], args := [d1, d2, d3] }
  | _ => none }
def IsaTornWrongFalsely : Prop := isaTornRow.holds Try.pinned (OpenSpec.ofChange isaTornWrong)

/-- 'mummerlaw02.IsaGuests': WHATEVER THE INPUT: true; the input reads as it did. -/
def isaGuestsSpec : ChangeSpec := { name := "isaGuests", fn := fun _ => fun
  | [d] => { results := [.lit (.bool true)], args := [d] }
  | _ => none }
def isaGuestsRow : OpenClaim := { program := "ytlimejnehfglpaa", sum := "e646e22e8b55669b5fd4a9f58ba745042c467e1f60e343a5dcf87527871a1c51", func := "mummer/mummerlaw02.IsaGuests", spec := "isaGuests", unfollowed := true, recurses := true, apart := false }
def IsaGuestsSaid : Prop := isaGuestsRow.holds Try.pinned (OpenSpec.ofChange isaGuestsSpec)

/-- ITS FALSE NEIGHBOUR: 'it returns false'. Refute it at one input. -/
def isaGuestsWrong : ChangeSpec := { name := "isaGuests", fn := fun _ => fun
  | [d] => { results := [.lit (.bool false)], args := [d] }
  | _ => none }
def IsaGuestsWrongFalsely : Prop := isaGuestsRow.holds Try.pinned (OpenSpec.ofChange isaGuestsWrong)

/-- 'mummerlaw02.IsaBack': WHATEVER THE INPUT: true; the input reads as it did. -/
def isaBackSpec : ChangeSpec := { name := "isaBack", fn := fun _ => fun
  | [d1, d2, d3] => { results := [.lit (.bool true)], args := [d1, d2, d3] }
  | _ => none }
def isaBackRow : OpenClaim := { program := "ytlimejnehfglpaa", sum := "e646e22e8b55669b5fd4a9f58ba745042c467e1f60e343a5dcf87527871a1c51", func := "mummer/mummerlaw02.IsaBack", spec := "isaBack", unfollowed := true, recurses := true, apart := false }
def IsaBackSaid : Prop := isaBackRow.holds Try.pinned (OpenSpec.ofChange isaBackSpec)

/-- ITS FALSE NEIGHBOUR: 'it returns false'. Refute it at one input. -/
def isaBackWrong : ChangeSpec := { name := "isaBack", fn := fun _ => fun
  | [d1, d2, d3] => { results := [.lit (.bool false)], args := [d1, d2, d3] }
  | _ => none }
def IsaBackWrongFalsely : Prop := isaBackRow.holds Try.pinned (OpenSpec.ofChange isaBackWrong)

/- THE SECOND FORM. 'bulk': how many values and letters a reading holds, each counted each time it is reached (what is shared counts as often as it is met; a slice's spare places count too). A statement '..UptoSaid' is the law's where the arguments, and the package variables that the reading takes, are together of bulk at most 1048576: NARROWER than '..Said'. Prove '..Said' where nothing that the law and all that it calls make is longer than what came in: it says more and counts as full. Else prove '..UptoSaid'. A law counts once. -/
mutual
def uptoBulk {H : Type} : DataW H → Nat
  | .lit (.string bytes) => bytes.length + 1
  | .lit _ => 1
  | .nil => 1
  | .ptr d => uptoBulk d + 1
  | .slice elems spare => uptoBulkAll elems + uptoBulkAll spare + 1
  | .agg parts => uptoBulkAll parts + 1
  | .iface _ d => uptoBulk d + 1
  | .map entries => uptoBulkEntries entries + 1
  | .held _ => 1
def uptoBulkAll {H : Type} : List (DataW H) → Nat
  | [] => 0
  | d :: r => uptoBulk d + uptoBulkAll r
def uptoBulkEntries {H : Type} : List (Lit × DataW H) → Nat
  | [] => 0
  | x :: r => uptoBulkEntry x + uptoBulkEntries r
def uptoBulkEntry {H : Type} : Lit × DataW H → Nat
  | (.string bytes, d) => bytes.length + uptoBulk d + 1
  | (_, d) => uptoBulk d + 1
 end
def uptoSmall : (H : Type) → List (DataW H) → Bool := fun _ ds => decide (uptoBulkAll ds ≤ 1048576)
def OpenSpec.upto (s : _root_.Go.ChangeSpec) : _root_.Go.OpenSpec := { _root_.Go.OpenSpec.ofChange s with cond := some uptoSmall }

/-- 'mummerlaw02.IsaMays', WHERE WHAT IT READS IS OF BULK AT MOST 1048576: true; the input reads as it did. -/
def isaMaysUptoRow : OpenClaim := { program := "ytlimejnehfglpaa", sum := "e646e22e8b55669b5fd4a9f58ba745042c467e1f60e343a5dcf87527871a1c51", func := "mummer/mummerlaw02.IsaMays", spec := "isaMays", apart := false, narrowed := true }
def IsaMaysUptoSaid : Prop := isaMaysUptoRow.holds Try.pinned (OpenSpec.upto isaMaysSpec)

/-- 'mummerlaw02.IsaEncodes', WHERE WHAT IT READS IS OF BULK AT MOST 1048576: true; the input reads as it did. -/
def isaEncodesUptoRow : OpenClaim := { program := "ytlimejnehfglpaa", sum := "e646e22e8b55669b5fd4a9f58ba745042c467e1f60e343a5dcf87527871a1c51", func := "mummer/mummerlaw02.IsaEncodes", spec := "isaEncodes", apart := false, narrowed := true }
def IsaEncodesUptoSaid : Prop := isaEncodesUptoRow.holds Try.pinned (OpenSpec.upto isaEncodesSpec)

/-- 'mummerlaw02.IsaSizes', WHERE WHAT IT READS IS OF BULK AT MOST 1048576: true; the input reads as it did. -/
def isaSizesUptoRow : OpenClaim := { program := "ytlimejnehfglpaa", sum := "e646e22e8b55669b5fd4a9f58ba745042c467e1f60e343a5dcf87527871a1c51", func := "mummer/mummerlaw02.IsaSizes", spec := "isaSizes", apart := false, narrowed := true }
def IsaSizesUptoSaid : Prop := isaSizesUptoRow.holds Try.pinned (OpenSpec.upto isaSizesSpec)

/-- 'mummerlaw02.IsaDecodes', WHERE WHAT IT READS IS OF BULK AT MOST 1048576: true; the input reads as it did. -/
def isaDecodesUptoRow : OpenClaim := { program := "ytlimejnehfglpaa", sum := "e646e22e8b55669b5fd4a9f58ba745042c467e1f60e343a5dcf87527871a1c51", func := "mummer/mummerlaw02.IsaDecodes", spec := "isaDecodes", unfollowed := true, recurses := true, apart := false, narrowed := true }
def IsaDecodesUptoSaid : Prop := isaDecodesUptoRow.holds Try.pinned (OpenSpec.upto isaDecodesSpec)

/-- 'mummerlaw02.IsaOnce', WHERE WHAT IT READS IS OF BULK AT MOST 1048576: true; the input reads as it did. -/
def isaOnceUptoRow : OpenClaim := { program := "ytlimejnehfglpaa", sum := "e646e22e8b55669b5fd4a9f58ba745042c467e1f60e343a5dcf87527871a1c51", func := "mummer/mummerlaw02.IsaOnce", spec := "isaOnce", unfollowed := true, recurses := true, apart := false, narrowed := true }
def IsaOnceUptoSaid : Prop := isaOnceUptoRow.holds Try.pinned (OpenSpec.upto isaOnceSpec)

/-- 'mummerlaw02.IsaTorn', WHERE WHAT IT READS IS OF BULK AT MOST 1048576: true; the input reads as it did. -/
def isaTornUptoRow : OpenClaim := { program := "ytlimejnehfglpaa", sum := "e646e22e8b55669b5fd4a9f58ba745042c467e1f60e343a5dcf87527871a1c51", func := "mummer/mummerlaw02.IsaTorn", spec := "isaTorn", unfollowed := true, recurses := true, apart := false, narrowed := true }
def IsaTornUptoSaid : Prop := isaTornUptoRow.holds Try.pinned (OpenSpec.upto isaTornSpec)

/-- 'mummerlaw02.IsaGuests', WHERE WHAT IT READS IS OF BULK AT MOST 1048576: true; the input reads as it did. -/
def isaGuestsUptoRow : OpenClaim := { program := "ytlimejnehfglpaa", sum := "e646e22e8b55669b5fd4a9f58ba745042c467e1f60e343a5dcf87527871a1c51", func := "mummer/mummerlaw02.IsaGuests", spec := "isaGuests", unfollowed := true, recurses := true, apart := false, narrowed := true }
def IsaGuestsUptoSaid : Prop := isaGuestsUptoRow.holds Try.pinned (OpenSpec.upto isaGuestsSpec)

/-- 'mummerlaw02.IsaBack', WHERE WHAT IT READS IS OF BULK AT MOST 1048576: true; the input reads as it did. -/
def isaBackUptoRow : OpenClaim := { program := "ytlimejnehfglpaa", sum := "e646e22e8b55669b5fd4a9f58ba745042c467e1f60e343a5dcf87527871a1c51", func := "mummer/mummerlaw02.IsaBack", spec := "isaBack", unfollowed := true, recurses := true, apart := false, narrowed := true }
def IsaBackUptoSaid : Prop := isaBackUptoRow.holds Try.pinned (OpenSpec.upto isaBackSpec)

end Rows
end Go.Proofs.Ytlimejnehfglpaa
