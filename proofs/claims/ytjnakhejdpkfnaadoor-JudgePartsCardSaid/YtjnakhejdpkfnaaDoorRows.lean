/-
  NARROWER THAN 'FOR EVERY INPUT', by the rows' own cells (each row's printed sentence says how): JudgeLists: laid · JudgeRows: laid · JudgeJoins: laid · JudgeStates: laid · JudgeParts: laid · JudgeSelf: laid.
  DERIVED. THE GIVEN ROWS OF THIS SEAT. 6 by the template 'for every input the law returns true; each argument reads behind the call as it read before'; 0 by the template 'total and deterministic' (their statements: YtjnakhejdpkfnaaDoorTotals.lean).
  GIVEN WITH THE SEED: the statements are not yours to turn. If you find one false, say at which input.
  Laid BY PROGRAM, IN A SANDBOX (cutbox-rows.mjs): the forced cells as the released guide's own fill.sh prints them over the translation d944ad20d2cf62d2… (all of the seat's roots in one cut). By AI agents, Wed Nov 11 2026. No macro, syntax, notation, axiom, sorry.
-/
import Derived.Test.YtjnakhejdpkfnaaDoorChecked
import GoSem.Claim
import GoSem.ClaimJoined
import GoSem.ClaimMapViews
import Derived.JoinedTies
import Derived.KernelRfl
namespace Go.Proofs.YtjnakhejdpkfnaaDoor
/- THE CELL 'sum', in the pinned program and in every row, IS THE sha256 OF THE DUMP (.gsa) THAT YtjnakhejdpkfnaaDoorProg.lean LOADS. Nothing in Lean hashes anything: it is a label: what it is worth is what the hold of that sum in a sandbox is worth. -/
noncomputable def Tryd.pinned : Pinned := { name := "ytjnakhejdpkfnaadoor", sum := "d944ad20d2cf62d2e7e707742ffbb1b0d1c5e2fa882e5ef04a9bda0e3818101a", checked := Tryd.checked }
namespace Rows
def none {H : Type} : Left H := { results := [], args := [] }

/- WHAT THE LISTED PACKAGE-LEVEL VARIABLES READ AS WHEN THE CALL BEGINS. Each datum BY PROGRAM (the guide's laid-datum.mjs) off the statement by which the dump's own 'gosem.cut.vars' lays the variable. In a bare row this is a premise. The card (YtjnakhejdpkfnaaDoorCards.lean) ties it to the program's text. -/
def laid_math_bits_deBruijn32tab {H : Type} : DataW H := .agg [.lit (.int .u8 0), .lit (.int .u8 1), .lit (.int .u8 28), .lit (.int .u8 2), .lit (.int .u8 29), .lit (.int .u8 14), .lit (.int .u8 24), .lit (.int .u8 3), .lit (.int .u8 30), .lit (.int .u8 22), .lit (.int .u8 20), .lit (.int .u8 15), .lit (.int .u8 25), .lit (.int .u8 17), .lit (.int .u8 4), .lit (.int .u8 8), .lit (.int .u8 31), .lit (.int .u8 27), .lit (.int .u8 13), .lit (.int .u8 23), .lit (.int .u8 21), .lit (.int .u8 19), .lit (.int .u8 16), .lit (.int .u8 7), .lit (.int .u8 26), .lit (.int .u8 12), .lit (.int .u8 18), .lit (.int .u8 6), .lit (.int .u8 11), .lit (.int .u8 5), .lit (.int .u8 10), .lit (.int .u8 9)]
def laid_math_bits_deBruijn64tab {H : Type} : DataW H := .agg [.lit (.int .u8 0), .lit (.int .u8 1), .lit (.int .u8 56), .lit (.int .u8 2), .lit (.int .u8 57), .lit (.int .u8 49), .lit (.int .u8 28), .lit (.int .u8 3), .lit (.int .u8 61), .lit (.int .u8 58), .lit (.int .u8 42), .lit (.int .u8 50), .lit (.int .u8 38), .lit (.int .u8 29), .lit (.int .u8 17), .lit (.int .u8 4), .lit (.int .u8 62), .lit (.int .u8 47), .lit (.int .u8 59), .lit (.int .u8 36), .lit (.int .u8 45), .lit (.int .u8 43), .lit (.int .u8 51), .lit (.int .u8 22), .lit (.int .u8 53), .lit (.int .u8 39), .lit (.int .u8 33), .lit (.int .u8 30), .lit (.int .u8 24), .lit (.int .u8 18), .lit (.int .u8 12), .lit (.int .u8 5), .lit (.int .u8 63), .lit (.int .u8 55), .lit (.int .u8 48), .lit (.int .u8 27), .lit (.int .u8 60), .lit (.int .u8 41), .lit (.int .u8 37), .lit (.int .u8 16), .lit (.int .u8 46), .lit (.int .u8 35), .lit (.int .u8 44), .lit (.int .u8 21), .lit (.int .u8 52), .lit (.int .u8 32), .lit (.int .u8 23), .lit (.int .u8 11), .lit (.int .u8 54), .lit (.int .u8 26), .lit (.int .u8 40), .lit (.int .u8 15), .lit (.int .u8 34), .lit (.int .u8 20), .lit (.int .u8 31), .lit (.int .u8 10), .lit (.int .u8 25), .lit (.int .u8 14), .lit (.int .u8 19), .lit (.int .u8 9), .lit (.int .u8 13), .lit (.int .u8 8), .lit (.int .u8 7), .lit (.int .u8 6)]
def laid_internal_strconv_uint64pow10 {H : Type} : DataW H := .agg [.lit (.int .u64 1), .lit (.int .u64 10), .lit (.int .u64 100), .lit (.int .u64 1000), .lit (.int .u64 10000), .lit (.int .u64 100000), .lit (.int .u64 1000000), .lit (.int .u64 10000000), .lit (.int .u64 100000000), .lit (.int .u64 1000000000), .lit (.int .u64 10000000000), .lit (.int .u64 100000000000), .lit (.int .u64 1000000000000), .lit (.int .u64 10000000000000), .lit (.int .u64 100000000000000), .lit (.int .u64 1000000000000000), .lit (.int .u64 10000000000000000), .lit (.int .u64 100000000000000000), .lit (.int .u64 1000000000000000000), .lit (.int .u64 10000000000000000000)]

/-- 'mummerlaw27.JudgeLists': WHATEVER THE INPUT: true; the input reads as it did. -/
def judgeListsSpec : ChangeSpec := { name := "judgeLists", fn := fun _ => fun
  | [d1, d2] => { results := [.lit (.bool true)], args := [d1, d2] }
  | _ => none }
def judgeListsRow : OpenClaim := { program := "ytjnakhejdpkfnaadoor", sum := "d944ad20d2cf62d2e7e707742ffbb1b0d1c5e2fa882e5ef04a9bda0e3818101a", func := "mummer/mummerlaw27.JudgeLists", spec := "judgeLists", unfollowed := true, recurses := true, named := ["internal/strconv.uint64pow10", "math/bits.deBruijn32tab", "math/bits.deBruijn64tab"], apart := false, laid := [("math/bits.deBruijn32tab", laid_math_bits_deBruijn32tab), ("math/bits.deBruijn64tab", laid_math_bits_deBruijn64tab), ("internal/strconv.uint64pow10", laid_internal_strconv_uint64pow10)] }
def JudgeListsSaid : Prop := judgeListsRow.holds Tryd.pinned (OpenSpec.ofChange judgeListsSpec)

/-- ITS FALSE NEIGHBOUR: 'it returns false'. Refute it at one input. -/
def judgeListsWrong : ChangeSpec := { name := "judgeLists", fn := fun _ => fun
  | [d1, d2] => { results := [.lit (.bool false)], args := [d1, d2] }
  | _ => none }
def JudgeListsWrongFalsely : Prop := judgeListsRow.holds Tryd.pinned (OpenSpec.ofChange judgeListsWrong)

/-- 'mummerlaw27.JudgeRows': WHATEVER THE INPUT: true; the input reads as it did. -/
def judgeRowsSpec : ChangeSpec := { name := "judgeRows", fn := fun _ => fun
  | [d1, d2] => { results := [.lit (.bool true)], args := [d1, d2] }
  | _ => none }
def judgeRowsRow : OpenClaim := { program := "ytjnakhejdpkfnaadoor", sum := "d944ad20d2cf62d2e7e707742ffbb1b0d1c5e2fa882e5ef04a9bda0e3818101a", func := "mummer/mummerlaw27.JudgeRows", spec := "judgeRows", unfollowed := true, recurses := true, named := ["internal/strconv.uint64pow10", "math/bits.deBruijn32tab", "math/bits.deBruijn64tab"], apart := false, laid := [("math/bits.deBruijn32tab", laid_math_bits_deBruijn32tab), ("math/bits.deBruijn64tab", laid_math_bits_deBruijn64tab), ("internal/strconv.uint64pow10", laid_internal_strconv_uint64pow10)] }
def JudgeRowsSaid : Prop := judgeRowsRow.holds Tryd.pinned (OpenSpec.ofChange judgeRowsSpec)

/-- ITS FALSE NEIGHBOUR: 'it returns false'. Refute it at one input. -/
def judgeRowsWrong : ChangeSpec := { name := "judgeRows", fn := fun _ => fun
  | [d1, d2] => { results := [.lit (.bool false)], args := [d1, d2] }
  | _ => none }
def JudgeRowsWrongFalsely : Prop := judgeRowsRow.holds Tryd.pinned (OpenSpec.ofChange judgeRowsWrong)

/-- 'mummerlaw27.JudgeJoins': WHATEVER THE INPUT: true; the input reads as it did. -/
def judgeJoinsSpec : ChangeSpec := { name := "judgeJoins", fn := fun _ => fun
  | [d1, d2, d3] => { results := [.lit (.bool true)], args := [d1, d2, d3] }
  | _ => none }
def judgeJoinsRow : OpenClaim := { program := "ytjnakhejdpkfnaadoor", sum := "d944ad20d2cf62d2e7e707742ffbb1b0d1c5e2fa882e5ef04a9bda0e3818101a", func := "mummer/mummerlaw27.JudgeJoins", spec := "judgeJoins", unfollowed := true, recurses := true, named := ["internal/strconv.uint64pow10", "math/bits.deBruijn32tab", "math/bits.deBruijn64tab"], apart := false, laid := [("math/bits.deBruijn32tab", laid_math_bits_deBruijn32tab), ("math/bits.deBruijn64tab", laid_math_bits_deBruijn64tab), ("internal/strconv.uint64pow10", laid_internal_strconv_uint64pow10)] }
def JudgeJoinsSaid : Prop := judgeJoinsRow.holds Tryd.pinned (OpenSpec.ofChange judgeJoinsSpec)

/-- ITS FALSE NEIGHBOUR: 'it returns false'. Refute it at one input. -/
def judgeJoinsWrong : ChangeSpec := { name := "judgeJoins", fn := fun _ => fun
  | [d1, d2, d3] => { results := [.lit (.bool false)], args := [d1, d2, d3] }
  | _ => none }
def JudgeJoinsWrongFalsely : Prop := judgeJoinsRow.holds Tryd.pinned (OpenSpec.ofChange judgeJoinsWrong)

/-- 'mummerlaw27.JudgeStates': WHATEVER THE INPUT: true; the input reads as it did. -/
def judgeStatesSpec : ChangeSpec := { name := "judgeStates", fn := fun _ => fun
  | [d1, d2] => { results := [.lit (.bool true)], args := [d1, d2] }
  | _ => none }
def judgeStatesRow : OpenClaim := { program := "ytjnakhejdpkfnaadoor", sum := "d944ad20d2cf62d2e7e707742ffbb1b0d1c5e2fa882e5ef04a9bda0e3818101a", func := "mummer/mummerlaw27.JudgeStates", spec := "judgeStates", unfollowed := true, recurses := true, named := ["internal/strconv.uint64pow10", "math/bits.deBruijn32tab", "math/bits.deBruijn64tab"], apart := false, laid := [("math/bits.deBruijn32tab", laid_math_bits_deBruijn32tab), ("math/bits.deBruijn64tab", laid_math_bits_deBruijn64tab), ("internal/strconv.uint64pow10", laid_internal_strconv_uint64pow10)] }
def JudgeStatesSaid : Prop := judgeStatesRow.holds Tryd.pinned (OpenSpec.ofChange judgeStatesSpec)

/-- ITS FALSE NEIGHBOUR: 'it returns false'. Refute it at one input. -/
def judgeStatesWrong : ChangeSpec := { name := "judgeStates", fn := fun _ => fun
  | [d1, d2] => { results := [.lit (.bool false)], args := [d1, d2] }
  | _ => none }
def JudgeStatesWrongFalsely : Prop := judgeStatesRow.holds Tryd.pinned (OpenSpec.ofChange judgeStatesWrong)

/-- 'mummerlaw27.JudgeParts': WHATEVER THE INPUT: true; the input reads as it did. -/
def judgePartsSpec : ChangeSpec := { name := "judgeParts", fn := fun _ => fun
  | [d1, d2] => { results := [.lit (.bool true)], args := [d1, d2] }
  | _ => none }
def judgePartsRow : OpenClaim := { program := "ytjnakhejdpkfnaadoor", sum := "d944ad20d2cf62d2e7e707742ffbb1b0d1c5e2fa882e5ef04a9bda0e3818101a", func := "mummer/mummerlaw27.JudgeParts", spec := "judgeParts", unfollowed := true, recurses := true, named := ["internal/strconv.uint64pow10", "math/bits.deBruijn32tab", "math/bits.deBruijn64tab"], apart := false, laid := [("math/bits.deBruijn32tab", laid_math_bits_deBruijn32tab), ("math/bits.deBruijn64tab", laid_math_bits_deBruijn64tab), ("internal/strconv.uint64pow10", laid_internal_strconv_uint64pow10)] }
def JudgePartsSaid : Prop := judgePartsRow.holds Tryd.pinned (OpenSpec.ofChange judgePartsSpec)

/-- ITS FALSE NEIGHBOUR: 'it returns false'. Refute it at one input. -/
def judgePartsWrong : ChangeSpec := { name := "judgeParts", fn := fun _ => fun
  | [d1, d2] => { results := [.lit (.bool false)], args := [d1, d2] }
  | _ => none }
def JudgePartsWrongFalsely : Prop := judgePartsRow.holds Tryd.pinned (OpenSpec.ofChange judgePartsWrong)

/-- 'mummerlaw27.JudgeSelf': WHATEVER THE INPUT: true; the input reads as it did. -/
def judgeSelfSpec : ChangeSpec := { name := "judgeSelf", fn := fun _ => fun
  | [d1, d2] => { results := [.lit (.bool true)], args := [d1, d2] }
  | _ => none }
def judgeSelfRow : OpenClaim := { program := "ytjnakhejdpkfnaadoor", sum := "d944ad20d2cf62d2e7e707742ffbb1b0d1c5e2fa882e5ef04a9bda0e3818101a", func := "mummer/mummerlaw27.JudgeSelf", spec := "judgeSelf", unfollowed := true, recurses := true, named := ["internal/strconv.uint64pow10", "math/bits.deBruijn32tab", "math/bits.deBruijn64tab"], apart := false, laid := [("math/bits.deBruijn32tab", laid_math_bits_deBruijn32tab), ("math/bits.deBruijn64tab", laid_math_bits_deBruijn64tab), ("internal/strconv.uint64pow10", laid_internal_strconv_uint64pow10)] }
def JudgeSelfSaid : Prop := judgeSelfRow.holds Tryd.pinned (OpenSpec.ofChange judgeSelfSpec)

/-- ITS FALSE NEIGHBOUR: 'it returns false'. Refute it at one input. -/
def judgeSelfWrong : ChangeSpec := { name := "judgeSelf", fn := fun _ => fun
  | [d1, d2] => { results := [.lit (.bool false)], args := [d1, d2] }
  | _ => none }
def JudgeSelfWrongFalsely : Prop := judgeSelfRow.holds Tryd.pinned (OpenSpec.ofChange judgeSelfWrong)

/- THE SECOND FORM. 'bulk': how many values and letters a reading holds, each counted each time it is reached (what is shared counts as often as it is met; a slice's spare places count too). A statement '..UptoSaid' is the law's where the arguments, and the package variables that the reading takes, are together of bulk at most 1048576: NARROWER than '..Said'. Prove '..Said' where nothing that the law and all that it calls make is longer than what came in: it says more and counts as full. Else prove '..UptoSaid'. A law counts once. -/
mutual
def uptoBulk {H : Type} : DataW H → Nat
  | .lit (.string bytes) => bytes.length + 1
  | .lit _ => 1
  | .nil => 1
  | .ptr d => uptoBulk d + 1
  | .slice elems spare => uptoBulkAll elems + uptoBulkAll spare + 1
  | .agg parts => uptoBulkAll parts + 1
  | .iface _ d => uptoBulk d + 1
  | .map entries => uptoBulkEntries entries + 1
  | .held _ => 1
def uptoBulkAll {H : Type} : List (DataW H) → Nat
  | [] => 0
  | d :: r => uptoBulk d + uptoBulkAll r
def uptoBulkEntries {H : Type} : List (Lit × DataW H) → Nat
  | [] => 0
  | x :: r => uptoBulkEntry x + uptoBulkEntries r
def uptoBulkEntry {H : Type} : Lit × DataW H → Nat
  | (.string bytes, d) => bytes.length + uptoBulk d + 1
  | (_, d) => uptoBulk d + 1
 end
def uptoSmall : (H : Type) → List (DataW H) → Bool := fun _ ds => decide (uptoBulkAll ds ≤ 1048576)
def OpenSpec.upto (s : _root_.Go.ChangeSpec) : _root_.Go.OpenSpec := { _root_.Go.OpenSpec.ofChange s with cond := some uptoSmall }

/-- 'mummerlaw27.JudgeLists', WHERE WHAT IT READS IS OF BULK AT MOST 1048576: true; the input reads as it did. -/
def judgeListsUptoRow : OpenClaim := { program := "ytjnakhejdpkfnaadoor", sum := "d944ad20d2cf62d2e7e707742ffbb1b0d1c5e2fa882e5ef04a9bda0e3818101a", func := "mummer/mummerlaw27.JudgeLists", spec := "judgeLists", unfollowed := true, recurses := true, named := ["internal/strconv.uint64pow10", "math/bits.deBruijn32tab", "math/bits.deBruijn64tab"], apart := false, laid := [("math/bits.deBruijn32tab", laid_math_bits_deBruijn32tab), ("math/bits.deBruijn64tab", laid_math_bits_deBruijn64tab), ("internal/strconv.uint64pow10", laid_internal_strconv_uint64pow10)], narrowed := true }
def JudgeListsUptoSaid : Prop := judgeListsUptoRow.holds Tryd.pinned (OpenSpec.upto judgeListsSpec)

/-- 'mummerlaw27.JudgeRows', WHERE WHAT IT READS IS OF BULK AT MOST 1048576: true; the input reads as it did. -/
def judgeRowsUptoRow : OpenClaim := { program := "ytjnakhejdpkfnaadoor", sum := "d944ad20d2cf62d2e7e707742ffbb1b0d1c5e2fa882e5ef04a9bda0e3818101a", func := "mummer/mummerlaw27.JudgeRows", spec := "judgeRows", unfollowed := true, recurses := true, named := ["internal/strconv.uint64pow10", "math/bits.deBruijn32tab", "math/bits.deBruijn64tab"], apart := false, laid := [("math/bits.deBruijn32tab", laid_math_bits_deBruijn32tab), ("math/bits.deBruijn64tab", laid_math_bits_deBruijn64tab), ("internal/strconv.uint64pow10", laid_internal_strconv_uint64pow10)], narrowed := true }
def JudgeRowsUptoSaid : Prop := judgeRowsUptoRow.holds Tryd.pinned (OpenSpec.upto judgeRowsSpec)

/-- 'mummerlaw27.JudgeJoins', WHERE WHAT IT READS IS OF BULK AT MOST 1048576: true; the input reads as it did. -/
def judgeJoinsUptoRow : OpenClaim := { program := "ytjnakhejdpkfnaadoor", sum := "d944ad20d2cf62d2e7e707742ffbb1b0d1c5e2fa882e5ef04a9bda0e3818101a", func := "mummer/mummerlaw27.JudgeJoins", spec := "judgeJoins", unfollowed := true, recurses := true, named := ["internal/strconv.uint64pow10", "math/bits.deBruijn32tab", "math/bits.deBruijn64tab"], apart := false, laid := [("math/bits.deBruijn32tab", laid_math_bits_deBruijn32tab), ("math/bits.deBruijn64tab", laid_math_bits_deBruijn64tab), ("internal/strconv.uint64pow10", laid_internal_strconv_uint64pow10)], narrowed := true }
def JudgeJoinsUptoSaid : Prop := judgeJoinsUptoRow.holds Tryd.pinned (OpenSpec.upto judgeJoinsSpec)

/-- 'mummerlaw27.JudgeStates', WHERE WHAT IT READS IS OF BULK AT MOST 1048576: true; the input reads as it did. -/
def judgeStatesUptoRow : OpenClaim := { program := "ytjnakhejdpkfnaadoor", sum := "d944ad20d2cf62d2e7e707742ffbb1b0d1c5e2fa882e5ef04a9bda0e3818101a", func := "mummer/mummerlaw27.JudgeStates", spec := "judgeStates", unfollowed := true, recurses := true, named := ["internal/strconv.uint64pow10", "math/bits.deBruijn32tab", "math/bits.deBruijn64tab"], apart := false, laid := [("math/bits.deBruijn32tab", laid_math_bits_deBruijn32tab), ("math/bits.deBruijn64tab", laid_math_bits_deBruijn64tab), ("internal/strconv.uint64pow10", laid_internal_strconv_uint64pow10)], narrowed := true }
def JudgeStatesUptoSaid : Prop := judgeStatesUptoRow.holds Tryd.pinned (OpenSpec.upto judgeStatesSpec)

/-- 'mummerlaw27.JudgeParts', WHERE WHAT IT READS IS OF BULK AT MOST 1048576: true; the input reads as it did. -/
def judgePartsUptoRow : OpenClaim := { program := "ytjnakhejdpkfnaadoor", sum := "d944ad20d2cf62d2e7e707742ffbb1b0d1c5e2fa882e5ef04a9bda0e3818101a", func := "mummer/mummerlaw27.JudgeParts", spec := "judgeParts", unfollowed := true, recurses := true, named := ["internal/strconv.uint64pow10", "math/bits.deBruijn32tab", "math/bits.deBruijn64tab"], apart := false, laid := [("math/bits.deBruijn32tab", laid_math_bits_deBruijn32tab), ("math/bits.deBruijn64tab", laid_math_bits_deBruijn64tab), ("internal/strconv.uint64pow10", laid_internal_strconv_uint64pow10)], narrowed := true }
def JudgePartsUptoSaid : Prop := judgePartsUptoRow.holds Tryd.pinned (OpenSpec.upto judgePartsSpec)

/-- 'mummerlaw27.JudgeSelf', WHERE WHAT IT READS IS OF BULK AT MOST 1048576: true; the input reads as it did. -/
def judgeSelfUptoRow : OpenClaim := { program := "ytjnakhejdpkfnaadoor", sum := "d944ad20d2cf62d2e7e707742ffbb1b0d1c5e2fa882e5ef04a9bda0e3818101a", func := "mummer/mummerlaw27.JudgeSelf", spec := "judgeSelf", unfollowed := true, recurses := true, named := ["internal/strconv.uint64pow10", "math/bits.deBruijn32tab", "math/bits.deBruijn64tab"], apart := false, laid := [("math/bits.deBruijn32tab", laid_math_bits_deBruijn32tab), ("math/bits.deBruijn64tab", laid_math_bits_deBruijn64tab), ("internal/strconv.uint64pow10", laid_internal_strconv_uint64pow10)], narrowed := true }
def JudgeSelfUptoSaid : Prop := judgeSelfUptoRow.holds Tryd.pinned (OpenSpec.upto judgeSelfSpec)

end Rows
end Go.Proofs.YtjnakhejdpkfnaaDoor
