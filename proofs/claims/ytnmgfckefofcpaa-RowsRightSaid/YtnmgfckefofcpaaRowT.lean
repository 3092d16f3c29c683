/- The walk of RowsRight. -/
import Derived.Test.YtnmgfckefofcpaaRowR
import Derived.Test.YtnmgfckefofcpaaRowS
import Derived.Deep.RegionHeld3
namespace Go.Proofs.Ytnmgfckefofcpaa
open Go.RowKit
set_option linter.unusedSimpArgs false
set_option linter.unusedVariables false

theorem arg_below {W w1 : World} {ao : Option Addr} {len cap : Nat} {B : List Int} (hb : Below W.heap.size W w1) (h : ByteArg W ao len cap B) : ByteArg w1 ao len cap B :=
  ⟨h.1, h.2.1, h.2.2.1, h.2.2.2.1, bytes_below' hb h.2.2.2.2⟩

theorem rs2 {w w1 w' : World} {b : Nat} {v0 v1 : Value} (hS : w1.cell? ⟨b, 0, none⟩ = some v0 ∧ w1.cell? ⟨b, 1, none⟩ = some v1 ∧ Below w.heap.size w w1) (hb : Below w1.heap.size w1 w') :
    w'.cell? ⟨b, 0, none⟩ = some v0 ∧ w'.cell? ⟨b, 1, none⟩ = some v1 ∧ Below w.heap.size w w' := ⟨keep hb hS.1, keep hb hS.2.1, below_next hS.2.2 hb⟩

set_option maxHeartbeats 8000000 in
theorem rowsRight_in (ao : Option Addr) (len cap : Nat) (B : List Int) (a2 : Option Addr) (len2 cap2 : Nat) (L : List RowR) (w : World) (hy : ByteArg w ao len cap B) (hL : L.length = len2) (hl2 : len2 ≤ 9223372036854775807) (hR : RowsIn w a2 L) :
    Calls Try.prog 5 #[.agg #[.slice ao len cap, .slice a2 len2 cap2]] w fun e w' => e = .returned (.bool true) ∧ Below w.heap.size w w' := by
  have HA := Lib.hid fun (w1 : World) (hb : Below w.heap.size w w1) => right_c ao len cap B a2 len2 cap2 L w1 (arg_below hb hy) hL hl2 (rows_below hb hR)
  have HB := Lib.hid fun (w1 : World) (hb : Below w.heap.size w w1) => refRight_c ao len cap B a2 len2 cap2 L w1 (arg_below hb hy) hL hl2 (rows_below hb hR)
  have HW := Lib.hid works_c
  generalize rightF B L 0 = R at HA HB
  clear hy hR hL
  go_enter Try.func5, Try.ntmps5
  go_wp2_with fail
  have hB0 := below_alloc1 w (.cells #[.slice ao len cap, .slice a2 len2 cap2] 36)
  go_region_held3 (fun w' => w'.cell? ⟨w.heap.size, 0, none⟩ = some (.slice ao len cap) ∧ w'.cell? ⟨w.heap.size, 1, none⟩ = some (.slice a2 len2 cap2) ∧ Below w.heap.size w w')
    (first | exact ⟨by go_simp, by go_simp, hB0.drew⟩ | exact rs2 ‹_› ‹_›)
    (first | (go_at_call 16; ((with_reducible refine (HA.out _ (And.right (And.right ‹_›))).mono ?_); rintro e w4 ⟨rfl, hb4⟩)) | (go_at_call 17; ((with_reducible refine (HB.out _ (And.right (And.right ‹_›))).mono ?_); rintro e w4 ⟨rfl, hb4⟩)) | (go_at_call 8; ((with_reducible refine (HW.out _).mono ?_); rintro e w4 ⟨rfl, hb4⟩)))
  all_goals
    go_wp2_with fail
    go_ret
    exact ⟨rfl, And.right (And.right ‹_›)⟩
end Go.Proofs.Ytnmgfckefofcpaa
