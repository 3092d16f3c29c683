/-
  No cell of these rows narrows 'for every input' (looked for: loops, veiled, ifaces, maps, wideKeys, modest, calm, conditions, laid).
  DERIVED. THE GIVEN ROWS OF THIS SEAT. 6 by the template 'for every input the law returns true; each argument reads behind the call as it read before'; 0 by the template 'total and deterministic' (their statements: YtgaffakhmghbdaaTotals.lean).
  GIVEN WITH THE SEED: the statements are not yours to turn. If you find one false, say at which input.
  Laid BY PROGRAM, IN A SANDBOX (cutbox-rows.mjs): the forced cells as the released guide's own fill.sh prints them over the translation 674c0f2966312509… (all of the seat's roots in one cut). By AI agents, Wed Nov 11 2026. No macro, syntax, notation, axiom, sorry.
-/
import Derived.Test.YtgaffakhmghbdaaChecked
import GoSem.Claim
import GoSem.ClaimJoined
import GoSem.ClaimMapViews
import Derived.JoinedTies
import Derived.KernelRfl
namespace Go.Proofs.Ytgaffakhmghbdaa
/- THE CELL 'sum', in the pinned program and in every row, IS THE sha256 OF THE DUMP (.gsa) THAT YtgaffakhmghbdaaProg.lean LOADS. Nothing in Lean hashes anything: it is a label: what it is worth is what the hold of that sum in a sandbox is worth. -/
noncomputable def Try.pinned : Pinned := { name := "ytgaffakhmghbdaa", sum := "674c0f29663125091c0324bc0e93d7dbb063301dc34727965097485eb6b2de1e", checked := Try.checked }
namespace Rows
def none {H : Type} : Left H := { results := [], args := [] }

/-- 'mummerlaw10.TrapTakes': WHATEVER THE INPUT: true; the input reads as it did. -/
def trapTakesSpec : ChangeSpec := { name := "trapTakes", fn := fun _ => fun
  | [d1, d2] => { results := [.lit (.bool true)], args := [d1, d2] }
  | _ => none }
def trapTakesRow : OpenClaim := { program := "ytgaffakhmghbdaa", sum := "674c0f29663125091c0324bc0e93d7dbb063301dc34727965097485eb6b2de1e", func := "mummer/mummerlaw10.TrapTakes", spec := "trapTakes", apart := false }
def TrapTakesSaid : Prop := trapTakesRow.holds Try.pinned (OpenSpec.ofChange trapTakesSpec)

/-- ITS FALSE NEIGHBOUR: 'it returns false'. Refute it at one input. -/
def trapTakesWrong : ChangeSpec := { name := "trapTakes", fn := fun _ => fun
  | [d1, d2] => { results := [.lit (.bool false)], args := [d1, d2] }
  | _ => none }
def TrapTakesWrongFalsely : Prop := trapTakesRow.holds Try.pinned (OpenSpec.ofChange trapTakesWrong)

/-- 'mummerlaw10.TrapEnters': WHATEVER THE INPUT: true; the input reads as it did. -/
def trapEntersSpec : ChangeSpec := { name := "trapEnters", fn := fun _ => fun
  | [d1, d2, d3] => { results := [.lit (.bool true)], args := [d1, d2, d3] }
  | _ => none }
def trapEntersRow : OpenClaim := { program := "ytgaffakhmghbdaa", sum := "674c0f29663125091c0324bc0e93d7dbb063301dc34727965097485eb6b2de1e", func := "mummer/mummerlaw10.TrapEnters", spec := "trapEnters", apart := false }
def TrapEntersSaid : Prop := trapEntersRow.holds Try.pinned (OpenSpec.ofChange trapEntersSpec)

/-- ITS FALSE NEIGHBOUR: 'it returns false'. Refute it at one input. -/
def trapEntersWrong : ChangeSpec := { name := "trapEnters", fn := fun _ => fun
  | [d1, d2, d3] => { results := [.lit (.bool false)], args := [d1, d2, d3] }
  | _ => none }
def TrapEntersWrongFalsely : Prop := trapEntersRow.holds Try.pinned (OpenSpec.ofChange trapEntersWrong)

/-- 'mummerlaw10.TrapQuiet': WHATEVER THE INPUT: true; the input reads as it did. -/
def trapQuietSpec : ChangeSpec := { name := "trapQuiet", fn := fun _ => fun
  | [d1, d2, d3] => { results := [.lit (.bool true)], args := [d1, d2, d3] }
  | _ => none }
def trapQuietRow : OpenClaim := { program := "ytgaffakhmghbdaa", sum := "674c0f29663125091c0324bc0e93d7dbb063301dc34727965097485eb6b2de1e", func := "mummer/mummerlaw10.TrapQuiet", spec := "trapQuiet", apart := false }
def TrapQuietSaid : Prop := trapQuietRow.holds Try.pinned (OpenSpec.ofChange trapQuietSpec)

/-- ITS FALSE NEIGHBOUR: 'it returns false'. Refute it at one input. -/
def trapQuietWrong : ChangeSpec := { name := "trapQuiet", fn := fun _ => fun
  | [d1, d2, d3] => { results := [.lit (.bool false)], args := [d1, d2, d3] }
  | _ => none }
def TrapQuietWrongFalsely : Prop := trapQuietRow.holds Try.pinned (OpenSpec.ofChange trapQuietWrong)

/-- 'mummerlaw10.TrapBacks': WHATEVER THE INPUT: true; the input reads as it did. -/
def trapBacksSpec : ChangeSpec := { name := "trapBacks", fn := fun _ => fun
  | [d1, d2] => { results := [.lit (.bool true)], args := [d1, d2] }
  | _ => none }
def trapBacksRow : OpenClaim := { program := "ytgaffakhmghbdaa", sum := "674c0f29663125091c0324bc0e93d7dbb063301dc34727965097485eb6b2de1e", func := "mummer/mummerlaw10.TrapBacks", spec := "trapBacks", apart := false }
def TrapBacksSaid : Prop := trapBacksRow.holds Try.pinned (OpenSpec.ofChange trapBacksSpec)

/-- ITS FALSE NEIGHBOUR: 'it returns false'. Refute it at one input. -/
def trapBacksWrong : ChangeSpec := { name := "trapBacks", fn := fun _ => fun
  | [d1, d2] => { results := [.lit (.bool false)], args := [d1, d2] }
  | _ => none }
def TrapBacksWrongFalsely : Prop := trapBacksRow.holds Try.pinned (OpenSpec.ofChange trapBacksWrong)

/-- 'mummerlaw10.TrapReturns': WHATEVER THE INPUT: true; the input reads as it did. -/
def trapReturnsSpec : ChangeSpec := { name := "trapReturns", fn := fun _ => fun
  | [d1, d2, d3] => { results := [.lit (.bool true)], args := [d1, d2, d3] }
  | _ => none }
def trapReturnsRow : OpenClaim := { program := "ytgaffakhmghbdaa", sum := "674c0f29663125091c0324bc0e93d7dbb063301dc34727965097485eb6b2de1e", func := "mummer/mummerlaw10.TrapReturns", spec := "trapReturns", unfollowed := true, recurses := true, apart := false }
def TrapReturnsSaid : Prop := trapReturnsRow.holds Try.pinned (OpenSpec.ofChange trapReturnsSpec)

/-- ITS FALSE NEIGHBOUR: 'it returns false'. Refute it at one input. -/
def trapReturnsWrong : ChangeSpec := { name := "trapReturns", fn := fun _ => fun
  | [d1, d2, d3] => { results := [.lit (.bool false)], args := [d1, d2, d3] }
  | _ => none }
def TrapReturnsWrongFalsely : Prop := trapReturnsRow.holds Try.pinned (OpenSpec.ofChange trapReturnsWrong)

/-- 'mummerlaw10.TrapAsked': WHATEVER THE INPUT: true; the input reads as it did. -/
def trapAskedSpec : ChangeSpec := { name := "trapAsked", fn := fun _ => fun
  | [d1, d2] => { results := [.lit (.bool true)], args := [d1, d2] }
  | _ => none }
def trapAskedRow : OpenClaim := { program := "ytgaffakhmghbdaa", sum := "674c0f29663125091c0324bc0e93d7dbb063301dc34727965097485eb6b2de1e", func := "mummer/mummerlaw10.TrapAsked", spec := "trapAsked", unfollowed := true, recurses := true, apart := false }
def TrapAskedSaid : Prop := trapAskedRow.holds Try.pinned (OpenSpec.ofChange trapAskedSpec)

/-- ITS FALSE NEIGHBOUR: 'it returns false'. Refute it at one input. -/
def trapAskedWrong : ChangeSpec := { name := "trapAsked", fn := fun _ => fun
  | [d1, d2] => { results := [.lit (.bool false)], args := [d1, d2] }
  | _ => none }
def TrapAskedWrongFalsely : Prop := trapAskedRow.holds Try.pinned (OpenSpec.ofChange trapAskedWrong)

/- THE SECOND FORM. 'bulk': how many values and letters a reading holds, each counted each time it is reached (what is shared counts as often as it is met; a slice's spare places count too). A statement '..UptoSaid' is the law's where the arguments, and the package variables that the reading takes, are together of bulk at most 1048576: NARROWER than '..Said'. Prove '..Said' where nothing that the law and all that it calls make is longer than what came in: it says more and counts as full. Else prove '..UptoSaid'. A law counts once. -/
mutual
def uptoBulk {H : Type} : DataW H → Nat
  | .lit (.string bytes) => bytes.length + 1
  | .lit _ => 1
  | .nil => 1
  | .ptr d => uptoBulk d + 1
  | .slice elems spare => uptoBulkAll elems + uptoBulkAll spare + 1
  | .agg parts => uptoBulkAll parts + 1
  | .iface _ d => uptoBulk d + 1
  | .map entries => uptoBulkEntries entries + 1
  | .held _ => 1
def uptoBulkAll {H : Type} : List (DataW H) → Nat
  | [] => 0
  | d :: r => uptoBulk d + uptoBulkAll r
def uptoBulkEntries {H : Type} : List (Lit × DataW H) → Nat
  | [] => 0
  | x :: r => uptoBulkEntry x + uptoBulkEntries r
def uptoBulkEntry {H : Type} : Lit × DataW H → Nat
  | (.string bytes, d) => bytes.length + uptoBulk d + 1
  | (_, d) => uptoBulk d + 1
 end
def uptoSmall : (H : Type) → List (DataW H) → Bool := fun _ ds => decide (uptoBulkAll ds ≤ 1048576)
def OpenSpec.upto (s : _root_.Go.ChangeSpec) : _root_.Go.OpenSpec := { _root_.Go.OpenSpec.ofChange s with cond := some uptoSmall }

/-- 'mummerlaw10.TrapTakes', WHERE WHAT IT READS IS OF BULK AT MOST 1048576: true; the input reads as it did. -/
def trapTakesUptoRow : OpenClaim := { program := "ytgaffakhmghbdaa", sum := "674c0f29663125091c0324bc0e93d7dbb063301dc34727965097485eb6b2de1e", func := "mummer/mummerlaw10.TrapTakes", spec := "trapTakes", apart := false, narrowed := true }
def TrapTakesUptoSaid : Prop := trapTakesUptoRow.holds Try.pinned (OpenSpec.upto trapTakesSpec)

/-- 'mummerlaw10.TrapEnters', WHERE WHAT IT READS IS OF BULK AT MOST 1048576: true; the input reads as it did. -/
def trapEntersUptoRow : OpenClaim := { program := "ytgaffakhmghbdaa", sum := "674c0f29663125091c0324bc0e93d7dbb063301dc34727965097485eb6b2de1e", func := "mummer/mummerlaw10.TrapEnters", spec := "trapEnters", apart := false, narrowed := true }
def TrapEntersUptoSaid : Prop := trapEntersUptoRow.holds Try.pinned (OpenSpec.upto trapEntersSpec)

/-- 'mummerlaw10.TrapQuiet', WHERE WHAT IT READS IS OF BULK AT MOST 1048576: true; the input reads as it did. -/
def trapQuietUptoRow : OpenClaim := { program := "ytgaffakhmghbdaa", sum := "674c0f29663125091c0324bc0e93d7dbb063301dc34727965097485eb6b2de1e", func := "mummer/mummerlaw10.TrapQuiet", spec := "trapQuiet", apart := false, narrowed := true }
def TrapQuietUptoSaid : Prop := trapQuietUptoRow.holds Try.pinned (OpenSpec.upto trapQuietSpec)

/-- 'mummerlaw10.TrapBacks', WHERE WHAT IT READS IS OF BULK AT MOST 1048576: true; the input reads as it did. -/
def trapBacksUptoRow : OpenClaim := { program := "ytgaffakhmghbdaa", sum := "674c0f29663125091c0324bc0e93d7dbb063301dc34727965097485eb6b2de1e", func := "mummer/mummerlaw10.TrapBacks", spec := "trapBacks", apart := false, narrowed := true }
def TrapBacksUptoSaid : Prop := trapBacksUptoRow.holds Try.pinned (OpenSpec.upto trapBacksSpec)

/-- 'mummerlaw10.TrapReturns', WHERE WHAT IT READS IS OF BULK AT MOST 1048576: true; the input reads as it did. -/
def trapReturnsUptoRow : OpenClaim := { program := "ytgaffakhmghbdaa", sum := "674c0f29663125091c0324bc0e93d7dbb063301dc34727965097485eb6b2de1e", func := "mummer/mummerlaw10.TrapReturns", spec := "trapReturns", unfollowed := true, recurses := true, apart := false, narrowed := true }
def TrapReturnsUptoSaid : Prop := trapReturnsUptoRow.holds Try.pinned (OpenSpec.upto trapReturnsSpec)

/-- 'mummerlaw10.TrapAsked', WHERE WHAT IT READS IS OF BULK AT MOST 1048576: true; the input reads as it did. -/
def trapAskedUptoRow : OpenClaim := { program := "ytgaffakhmghbdaa", sum := "674c0f29663125091c0324bc0e93d7dbb063301dc34727965097485eb6b2de1e", func := "mummer/mummerlaw10.TrapAsked", spec := "trapAsked", unfollowed := true, recurses := true, apart := false, narrowed := true }
def TrapAskedUptoSaid : Prop := trapAskedUptoRow.holds Try.pinned (OpenSpec.upto trapAskedSpec)

end Rows
end Go.Proofs.Ytgaffakhmghbdaa
