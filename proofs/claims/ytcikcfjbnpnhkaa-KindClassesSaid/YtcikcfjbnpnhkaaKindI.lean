/- The walks of KindClasses and KindAsks. -/
import Derived.Test.YtcikcfjbnpnhkaaKindH
namespace Go.Proofs.Ytcikcfjbnpnhkaa
open Go.RowKit
set_option linter.unusedSimpArgs false
set_option linter.unusedVariables false

theorem tab_drew {w : World} {tb : Nat} (h : TabIs w tb) : TabIs w.drew tb := tab_kept h ⟨rfl, rfl, rfl, Nat.le_refl _, fun _ _ _ => rfl⟩

theorem ks2 {w w1 w' : World} {b : Nat} {v0 v1 : Value} (hS : TabIs w1 w.heap.size ∧ w1.cell? ⟨b, 0, none⟩ = some v0 ∧ w1.cell? ⟨b, 10, none⟩ = some v1 ∧ Below w.heap.size w w1) (hT : TabIs w' w.heap.size) (hG : w1.grownBy w' (some w.heap.size)) (hne : b ≠ w.heap.size) :
    TabIs w' w.heap.size ∧ w'.cell? ⟨b, 0, none⟩ = some v0 ∧ w'.cell? ⟨b, 10, none⟩ = some v1 ∧ Below w.heap.size w w' :=
  ⟨hT, grown_cell hG hS.2.1 hne, grown_cell hG hS.2.2.1 hne, grown_base hS.2.2.2 (Nat.le_refl _) hG⟩

set_option maxRecDepth 100000 in
set_option maxHeartbeats 4000000 in
theorem kindClasses_walk (op : Int) (wo : (Lit.int .u8 op).wf = true) (w : World) :
    Calls Try.prog 3 #[.int .u8 op] w fun e w' => e = .returned (.bool true) ∧ Below w.heap.size w w' := by
  obtain ⟨h0, h1⟩ := bd_u8 wo
  have hN := Lib.hid (new_c w)
  obtain ⟨k1, k2, -, -, -⟩ := known_row op h0 h1
  have hO := fun w => refOf3_c op h0 h1 w
  have HC := Lib.hid fun (tb : Nat) (op : Int) (w : World) (h : TabIs w tb) (h0 : 0 ≤ op) (h1 : op < 256) => class_c tb op w h h0 h1
  have HE := Lib.hid fun (tb : Nat) (w : World) (h : TabIs w tb) => ends_c tb op w h h0 h1
  have HC0 := Lib.hid fun (tb : Nat) (w : World) (h : TabIs w tb) => class_c tb 0 w h (by decide) (by decide)
  have e0 : (knownF 0).cls = 1 := by decide +kernel
  have HC1 := Lib.hid fun (tb : Nat) (w : World) (h : TabIs w tb) => class_c tb op w h h0 h1
  rw [k1, k2] at hO
  unfold RK.val at hO
  rw [e0] at HC0
  have HO := Lib.hid hO
  clear hO e0
  generalize rowF op = x at HO k1
  obtain ⟨x1, x2, x3, x4, x5, x6, x7, x8, x9, x10⟩ := x
  simp only at HO k1
  subst k1
  generalize (knownF op).cls = c at HO HE HC1 k2
  clear k2 HC
  generalize decide (3 ≤ c) = en at HO HE
  go_enter Try.func3, Try.ntmps3
  go_wp2_with fail
  refine hN.out.mono ?_
  rintro e w1 ⟨rfl, hT1, hs1, hb1⟩
  have HT1 := Lib.hid hT1
  clear hT1
  go_wp2_with fail
  refine (HO.out _).mono ?_
  rintro e w2 ⟨rfl, hb2⟩
  have HT2 := Lib.hid (tab_below HT1.out hb2)
  have hB2 := kbelow_next hb1 hb2
  have hs2 : w.heap.size < w2.heap.size := by have := hb2.size; omega
  clear hb1 hb2
  go_wp2_with fail
  have HT3 := Lib.hid (tab_kept HT2.out (World.grownBy_alloc w2 (.cells #[.int .i64 c, .bool x2, .bool x3, .bool x4, .bool x5, .bool x6, .bool x7, .bool x8, .bool x9, .bool x10, .bool en] 25) none))
  have hB3 := hB2.alloc hB2.size (.cells #[.int .i64 c, .bool x2, .bool x3, .bool x4, .bool x5, .bool x6, .bool x7, .bool x8, .bool x9, .bool x10, .bool en] 25)
  have hne : w2.heap.size ≠ w.heap.size := by omega
  go_region_held3 (fun w' => TabIs w' w.heap.size ∧ w'.cell? ⟨w2.heap.size, 0, none⟩ = some (.int .i64 c) ∧ w'.cell? ⟨w2.heap.size, 10, none⟩ = some (.bool en) ∧ Below w.heap.size w w')
    (first | exact ⟨tab_drew HT3.out, by go_simp, by go_simp, hB3.drew⟩ | exact ks2 ‹_› ‹_› ‹_› hne)
    (first | (go_at_call 11; ((with_reducible refine (HC1.out _ _ (And.left ‹_›)).mono ?_); rintro e w' ⟨rfl, hT, hG⟩)) | (go_at_call 11; ((with_reducible refine (HC0.out _ _ (And.left ‹_›)).mono ?_); rintro e w' ⟨rfl, hT, hG⟩)) | (go_at_call 12; ((with_reducible refine (HE.out _ _ (And.left ‹_›)).mono ?_); rintro e w' ⟨rfl, hT, hG⟩)))
  all_goals
    go_wp2_with fail
    go_ret
    exact ⟨rfl, And.right (And.right (And.right ‹_›))⟩

theorem ks3 {w w1 w' : World} {b : Nat} {v0 v1 v2 : Value} (hS : TabIs w1 w.heap.size ∧ w1.cell? ⟨b, 7, none⟩ = some v0 ∧ w1.cell? ⟨b, 8, none⟩ = some v1 ∧ w1.cell? ⟨b, 9, none⟩ = some v2 ∧ Below w.heap.size w w1) (hT : TabIs w' w.heap.size) (hG : w1.grownBy w' (some w.heap.size)) (hne : b ≠ w.heap.size) :
    TabIs w' w.heap.size ∧ w'.cell? ⟨b, 7, none⟩ = some v0 ∧ w'.cell? ⟨b, 8, none⟩ = some v1 ∧ w'.cell? ⟨b, 9, none⟩ = some v2 ∧ Below w.heap.size w w' :=
  ⟨hT, grown_cell hG hS.2.1 hne, grown_cell hG hS.2.2.1 hne, grown_cell hG hS.2.2.2.1 hne, grown_base hS.2.2.2.2 (Nat.le_refl _) hG⟩

set_option maxRecDepth 100000 in
set_option maxHeartbeats 4000000 in
theorem kindAsks_walk (op : Int) (wo : (Lit.int .u8 op).wf = true) (w : World) :
    Calls Try.prog 4 #[.int .u8 op] w fun e w' => e = .returned (.bool true) ∧ Below w.heap.size w w' := by
  obtain ⟨h0, h1⟩ := bd_u8 wo
  have hN := Lib.hid (new_c w)
  obtain ⟨-, -, k1, k2, k3⟩ := known_row op h0 h1
  have hO := fun w => refOf3_c op h0 h1 w
  have HC0 := Lib.hid fun (tb : Nat) (w : World) (h : TabIs w tb) => class_c tb 0 w h (by decide) (by decide)
  have HA := Lib.hid fun (tb : Nat) (w : World) (h : TabIs w tb) => turns_c tb op w h h0 h1
  have HB := Lib.hid fun (tb : Nat) (w : World) (h : TabIs w tb) => fails_c tb op w h h0 h1
  have HC := Lib.hid fun (tb : Nat) (w : World) (h : TabIs w tb) => silent_c tb op w h h0 h1
  have e0 : (knownF 0).cls = 1 := by decide +kernel
  unfold RK.val at hO
  rw [k1, k2, k3] at hO
  rw [e0] at HC0
  generalize endB (rowF op).cls = en at hO
  have HO := Lib.hid hO
  clear hO e0 k1 k2 k3
  generalize rowF op = x at HO
  obtain ⟨c, x2, x3, x4, x5, x6, x7, x8, x9, x10⟩ := x
  simp only at HO
  clear x8 x9 x10
  generalize hasB (knownF op) 102 = x8 at HO HA
  generalize hasB (knownF op) 120 = x9 at HO HB
  generalize hasB (knownF op) 115 = x10 at HO HC
  go_enter Try.func4, Try.ntmps4
  go_wp2_with fail
  refine hN.out.mono ?_
  rintro e w1 ⟨rfl, hT1, hs1, hb1⟩
  have HT1 := Lib.hid hT1
  clear hT1
  go_wp2_with fail
  refine (HO.out _).mono ?_
  rintro e w2 ⟨rfl, hb2⟩
  have HT2 := Lib.hid (tab_below HT1.out hb2)
  have hB2 := kbelow_next hb1 hb2
  have hs2 : w.heap.size < w2.heap.size := by have := hb2.size; omega
  clear hb1 hb2
  go_wp2_with fail
  have HT3 := Lib.hid (tab_kept HT2.out (World.grownBy_alloc w2 (.cells #[.int .i64 c, .bool x2, .bool x3, .bool x4, .bool x5, .bool x6, .bool x7, .bool x8, .bool x9, .bool x10, .bool en] 25) none))
  have hB3 := hB2.alloc hB2.size (.cells #[.int .i64 c, .bool x2, .bool x3, .bool x4, .bool x5, .bool x6, .bool x7, .bool x8, .bool x9, .bool x10, .bool en] 25)
  have hne : w2.heap.size ≠ w.heap.size := by omega
  go_region_held3 (fun w' => TabIs w' w.heap.size ∧ w'.cell? ⟨w2.heap.size, 7, none⟩ = some (.bool x8) ∧ w'.cell? ⟨w2.heap.size, 8, none⟩ = some (.bool x9) ∧ w'.cell? ⟨w2.heap.size, 9, none⟩ = some (.bool x10) ∧ Below w.heap.size w w')
    (first | exact ⟨tab_drew HT3.out, by go_simp, by go_simp, by go_simp, hB3.drew⟩ | exact ks3 ‹_› ‹_› ‹_› hne)
    (first | (go_at_call 13; ((with_reducible refine (HA.out _ _ (And.left ‹_›)).mono ?_); rintro e w' ⟨rfl, hT, hG⟩)) | (go_at_call 14; ((with_reducible refine (HB.out _ _ (And.left ‹_›)).mono ?_); rintro e w' ⟨rfl, hT, hG⟩)) | (go_at_call 15; ((with_reducible refine (HC.out _ _ (And.left ‹_›)).mono ?_); rintro e w' ⟨rfl, hT, hG⟩)) | (go_at_call 11; ((with_reducible refine (HC0.out _ _ (And.left ‹_›)).mono ?_); rintro e w' ⟨rfl, hT, hG⟩)))
  all_goals
    go_wp2_with fail
    go_ret
    exact ⟨rfl, And.right (And.right (And.right (And.right ‹_›)))⟩
end Go.Proofs.Ytcikcfjbnpnhkaa
