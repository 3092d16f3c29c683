/- The walk of JudgeRows. -/
import Derived.Test.YtjnakhejdpkfnaaDoorJudJ
namespace Go.Proofs.YtjnakhejdpkfnaaDoor
open Go.RowKit
set_option linter.unusedSimpArgs false
set_option linter.unusedVariables false
set_option maxRecDepth 100000

set_option maxHeartbeats 4000000 in
theorem rows_walk (ao : Option Addr) (la ca : Nat) (L : List Int) (bo : Option Addr) (lb cb : Nat) (M : List Int) (w : World) (HT : Hid (pTab w)) (hA : ByteArg w ao la ca L) (hB : ByteArg w bo lb cb M) :
    Calls Tryd.prog 4 #[.slice ao la ca, .slice bo lb cb] w fun e w' => e = .returned (.bool true) ∧ Below w.heap.size w w' := by
  have H1 := Lib.hid (bytes_c ao bo la ca lb cb L M w hA hB)
  have H2 := Lib.hid fun (W : World) (hb : Below w.heap.size w W) => refBytes_c ao bo la ca lb cb L M W (hA.below hb) (hB.below hb)
  have HW := Lib.hid fun (W : World) (hb : Below w.heap.size w W) => works_c W (pTab_on HT hb)
  generalize firstL L M = n at H1 H2
  clear hA hB
  go_enter Tryd.func4, Tryd.ntmps4
  go_wp2_with fail
  refine H1.out.mono ?_
  rintro e w1 ⟨rfl, hb1⟩
  go_wp2_with fail
  refine (H2.out _ hb1).mono ?_
  rintro e w2 ⟨rfl, q, rfl⟩
  have B2 := below_drewN hb1 q
  go_wp2_with fail
  refine (HW.out _ B2).mono ?_
  rintro e w3 ⟨rfl, hb3⟩
  go_wp2_with fail
  go_ret
  exact ⟨rfl, below_nextJ B2 hb3⟩
end Go.Proofs.YtjnakhejdpkfnaaDoor
