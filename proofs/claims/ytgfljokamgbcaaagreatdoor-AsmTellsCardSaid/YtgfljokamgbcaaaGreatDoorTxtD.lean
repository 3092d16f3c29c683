/- The document's names (mummerref04.Name). -/
import Derived.Test.YtgfljokamgbcaaaGreatDoorTxtA
import Derived.Deep.LoopGhost
namespace Go.Proofs.YtgfljokamgbcaaaGreatDoor
open Go.RowKit
set_option linter.unusedSimpArgs false
set_option linter.unusedVariables false
set_option maxRecDepth 100000

set_option maxHeartbeats 8000000 in
theorem name_c (n : Nm) (hn : n ∈ nmTab) (w : World) :
    Calls Tryz.prog 61 #[.int .u8 n.op] w fun e w' => e = .returned (.string ⟨n.word.toArray⟩) ∧ Below w.heap.size w w' := by
  simp only [nmTab, List.mem_cons, List.not_mem_nil, or_false] at hn
  rcases hn with rfl | rfl | rfl | rfl | rfl | rfl | rfl | rfl | rfl | rfl | rfl | rfl | rfl | rfl | rfl | rfl | rfl | rfl | rfl | rfl | rfl | rfl | rfl | rfl | rfl | rfl | rfl | rfl | rfl | rfl | rfl | rfl | rfl | rfl | rfl | rfl | rfl | rfl | rfl | rfl | rfl | rfl | rfl | rfl | rfl | rfl | rfl | rfl | rfl | rfl | rfl | rfl | rfl
  all_goals
    simp only
    go_enter Tryz.func61, Tryz.ntmps61
    go_wp2
    go_ret
    first | exact ⟨by rfl, (Below.refl _ _).alloc (Nat.le_refl _) _⟩ | exact ⟨by rfl, Below.refl _ _⟩
end Go.Proofs.YtgfljokamgbcaaaGreatDoor
