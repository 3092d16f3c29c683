/- The walks of the statements' own call 'works', and of TrapTakes. -/
import Derived.Test.YtgaffakhmghbdaaTrapA
import Derived.Test.YtgaffakhmghbdaaFlat
import Derived.BigQuiet
namespace Go.Proofs.Ytgaffakhmghbdaa
open Go.RowKit

set_option maxHeartbeats 400000 in
theorem works_c (w : World) : Calls Try.prog 11 #[] w fun e w' => e = .returned (.bool true) ∧ w = w' := by
  have h := fun w => trapWants 2 7 w (by decide) (by decide) (by decide) (by decide)
  have hv : wants 2 7 = 9 := by decide
  rw [hv] at h
  have H := Lib.hid h
  clear h hv
  go_enter Try.func11, Try.ntmps11
  go_wp2_with fail
  refine (H.out _).mono ?_
  rintro e w1 ⟨rfl, rfl⟩
  go_wp2_with fail
  go_ret
  exact ⟨rfl, rfl⟩

set_option maxHeartbeats 400000 in
theorem takes_walk (ps : Int) (wp : (Lit.int .u32 ps).wf = true) (wt : Int) (ww : (Lit.int .u32 wt).wf = true) (w : World) :
    Calls Try.prog 3 #[.int .u32 ps, .int .u32 wt] w fun e w' => e = .returned (.bool true) ∧ Below w.heap.size w w' := by
  obtain ⟨h0, h1⟩ := bd_u32 wp
  obtain ⟨h2, h3⟩ := bd_u32 ww
  have HA := Lib.hid fun w => trapWants ps wt w h0 h1 h2 h3
  have HB := Lib.hid fun w => refWants ps wt w h0 h1 h2 h3
  have HW := Lib.hid works_c
  generalize wants ps wt = v at HA HB
  go_enter Try.func3, Try.ntmps3
  go_wp2_with fail
  refine (HA.out _).mono ?_
  rintro e w1 ⟨rfl, rfl⟩
  go_wp2_with fail
  refine (HB.out _).mono ?_
  rintro e w1 ⟨rfl, rfl⟩
  go_wp2_with fail
  refine (HW.out _).mono ?_
  rintro e w1 ⟨rfl, rfl⟩
  go_wp2_with fail
  go_ret
  exact ⟨rfl, Below.refl _ _⟩
end Go.Proofs.Ytgaffakhmghbdaa
