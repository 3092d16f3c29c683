/- The statements' own call 'works'. -/
import Derived.Test.YtenbjnogeanglaaDoorTxtB
namespace Go.Proofs.YtenbjnogeanglaaDoor
open Go.RowKit
set_option linter.unusedSimpArgs false
set_option linter.unusedVariables false
set_option maxRecDepth 100000

theorem show_add : showL 17 1 2 0 = [97, 100, 100, 32, 114, 49, 32, 114, 50] := by decide +kernel

set_option maxHeartbeats 1000000 in
theorem works_c (w : World) (HT : Hid (pTab w)) : Calls Tryd.prog 9 #[] w fun e w' => e = .returned (.bool true) ∧ Below w.heap.size w w' := by
  have hS := show_c 17 1 2 0 w (by decide) (by decide) (by decide) (by decide) (by decide) (by decide) (by decide) (by decide) HT
  rw [show_add] at hS
  unfold Isa.insV at hS
  have HS := Lib.hid hS
  clear hS
  go_enter Tryd.func9, Tryd.ntmps9
  go_wp2_with fail
  refine (HS.out).mono ?_
  rintro e w1 ⟨rfl, hb⟩
  go_wp2_with fail
  go_ret
  exact ⟨rfl, hb⟩

end Go.Proofs.YtenbjnogeanglaaDoor
