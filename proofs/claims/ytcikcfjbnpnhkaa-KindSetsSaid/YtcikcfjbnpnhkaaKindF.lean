/- The document's table of operations (mummerref03): row. (Written by mkKE.py.) -/
import Derived.Test.YtcikcfjbnpnhkaaKindE
namespace Go.Proofs.Ytcikcfjbnpnhkaa
open Go.RowKit
set_option linter.unusedSimpArgs false
set_option linter.unusedVariables false

/-- The operations that its tests name. -/
def rowLits : List Int := [0, 16, 25, 30, 26, 31, 32, 33, 48, 50, 52, 54, 55, 56, 57, 58, 49, 51, 53, 72, 73, 74, 80]

set_option maxRecDepth 100000 in
set_option maxHeartbeats 4000000 in
theorem row_c_lit (op : Int) (h : op ∈ rowLits) (w : World) :
    Calls Try.prog 19 #[.int .u8 op] w fun e w' => e = .returned ((rowF op).val false) ∧ Below w.heap.size w w' := by
  simp only [rowLits, List.mem_cons, List.mem_nil_iff, or_false] at h
  rcases h with rfl | rfl | rfl | rfl | rfl | rfl | rfl | rfl | rfl | rfl | rfl | rfl | rfl | rfl | rfl | rfl | rfl | rfl | rfl | rfl | rfl | rfl | rfl
  all_goals
    go_enter Try.func19, Try.ntmps19
    go_wp2
    refine bodyPost_ret (v := (rowF _).val false) ?_ rfl ⟨rfl, kbelow_alloc1 _ _⟩
    simp [results, Try.results19, go_sem, RK.val, rowF, senseF]

set_option maxRecDepth 100000 in
set_option maxHeartbeats 4000000 in
theorem row_c_r0 (op : Int) (g0 : 17 ≤ op) (g1 : op ≤ 24) (w : World) :
    Calls Try.prog 19 #[.int .u8 op] w fun e w' => e = .returned ((rowF op).val false) ∧ Below w.heap.size w w' := by
  have e0 : (op == 0) = false := beq_eq_false_iff_ne.2 (by omega)
  have n0 : (op != 0) = true := bne_iff_ne.2 (by omega)
  have e16 : (op == 16) = false := beq_eq_false_iff_ne.2 (by omega)
  have n16 : (op != 16) = true := bne_iff_ne.2 (by omega)
  have e25 : (op == 25) = false := beq_eq_false_iff_ne.2 (by omega)
  have n25 : (op != 25) = true := bne_iff_ne.2 (by omega)
  have e30 : (op == 30) = false := beq_eq_false_iff_ne.2 (by omega)
  have n30 : (op != 30) = true := bne_iff_ne.2 (by omega)
  have e26 : (op == 26) = false := beq_eq_false_iff_ne.2 (by omega)
  have n26 : (op != 26) = true := bne_iff_ne.2 (by omega)
  have e31 : (op == 31) = false := beq_eq_false_iff_ne.2 (by omega)
  have n31 : (op != 31) = true := bne_iff_ne.2 (by omega)
  have e32 : (op == 32) = false := beq_eq_false_iff_ne.2 (by omega)
  have n32 : (op != 32) = true := bne_iff_ne.2 (by omega)
  have e33 : (op == 33) = false := beq_eq_false_iff_ne.2 (by omega)
  have n33 : (op != 33) = true := bne_iff_ne.2 (by omega)
  have e48 : (op == 48) = false := beq_eq_false_iff_ne.2 (by omega)
  have n48 : (op != 48) = true := bne_iff_ne.2 (by omega)
  have e50 : (op == 50) = false := beq_eq_false_iff_ne.2 (by omega)
  have n50 : (op != 50) = true := bne_iff_ne.2 (by omega)
  have e52 : (op == 52) = false := beq_eq_false_iff_ne.2 (by omega)
  have n52 : (op != 52) = true := bne_iff_ne.2 (by omega)
  have e54 : (op == 54) = false := beq_eq_false_iff_ne.2 (by omega)
  have n54 : (op != 54) = true := bne_iff_ne.2 (by omega)
  have e55 : (op == 55) = false := beq_eq_false_iff_ne.2 (by omega)
  have n55 : (op != 55) = true := bne_iff_ne.2 (by omega)
  have e56 : (op == 56) = false := beq_eq_false_iff_ne.2 (by omega)
  have n56 : (op != 56) = true := bne_iff_ne.2 (by omega)
  have e57 : (op == 57) = false := beq_eq_false_iff_ne.2 (by omega)
  have n57 : (op != 57) = true := bne_iff_ne.2 (by omega)
  have e58 : (op == 58) = false := beq_eq_false_iff_ne.2 (by omega)
  have n58 : (op != 58) = true := bne_iff_ne.2 (by omega)
  have e49 : (op == 49) = false := beq_eq_false_iff_ne.2 (by omega)
  have n49 : (op != 49) = true := bne_iff_ne.2 (by omega)
  have e51 : (op == 51) = false := beq_eq_false_iff_ne.2 (by omega)
  have n51 : (op != 51) = true := bne_iff_ne.2 (by omega)
  have e53 : (op == 53) = false := beq_eq_false_iff_ne.2 (by omega)
  have n53 : (op != 53) = true := bne_iff_ne.2 (by omega)
  have e72 : (op == 72) = false := beq_eq_false_iff_ne.2 (by omega)
  have n72 : (op != 72) = true := bne_iff_ne.2 (by omega)
  have e73 : (op == 73) = false := beq_eq_false_iff_ne.2 (by omega)
  have n73 : (op != 73) = true := bne_iff_ne.2 (by omega)
  have e74 : (op == 74) = false := beq_eq_false_iff_ne.2 (by omega)
  have n74 : (op != 74) = true := bne_iff_ne.2 (by omega)
  have e80 : (op == 80) = false := beq_eq_false_iff_ne.2 (by omega)
  have n80 : (op != 80) = true := bne_iff_ne.2 (by omega)
  have hF : rowF op = rowF 17 := by unfold rowF; repeat (first | rw [if_pos (by omega)] | rw [if_neg (by omega)])
  rw [hF]
  clear hF
  go_enter Try.func19, Try.ntmps19
  go_wp2
  refine bodyPost_ret (v := (rowF _).val false) ?_ rfl ⟨rfl, kbelow_alloc1 _ _⟩
  simp [results, Try.results19, go_sem, RK.val, rowF, senseF]

set_option maxRecDepth 100000 in
set_option maxHeartbeats 4000000 in
theorem row_c_r1 (op : Int) (g0 : 27 ≤ op) (g1 : op ≤ 29) (w : World) :
    Calls Try.prog 19 #[.int .u8 op] w fun e w' => e = .returned ((rowF op).val false) ∧ Below w.heap.size w w' := by
  have e0 : (op == 0) = false := beq_eq_false_iff_ne.2 (by omega)
  have n0 : (op != 0) = true := bne_iff_ne.2 (by omega)
  have e16 : (op == 16) = false := beq_eq_false_iff_ne.2 (by omega)
  have n16 : (op != 16) = true := bne_iff_ne.2 (by omega)
  have e25 : (op == 25) = false := beq_eq_false_iff_ne.2 (by omega)
  have n25 : (op != 25) = true := bne_iff_ne.2 (by omega)
  have e30 : (op == 30) = false := beq_eq_false_iff_ne.2 (by omega)
  have n30 : (op != 30) = true := bne_iff_ne.2 (by omega)
  have e26 : (op == 26) = false := beq_eq_false_iff_ne.2 (by omega)
  have n26 : (op != 26) = true := bne_iff_ne.2 (by omega)
  have e31 : (op == 31) = false := beq_eq_false_iff_ne.2 (by omega)
  have n31 : (op != 31) = true := bne_iff_ne.2 (by omega)
  have e32 : (op == 32) = false := beq_eq_false_iff_ne.2 (by omega)
  have n32 : (op != 32) = true := bne_iff_ne.2 (by omega)
  have e33 : (op == 33) = false := beq_eq_false_iff_ne.2 (by omega)
  have n33 : (op != 33) = true := bne_iff_ne.2 (by omega)
  have e48 : (op == 48) = false := beq_eq_false_iff_ne.2 (by omega)
  have n48 : (op != 48) = true := bne_iff_ne.2 (by omega)
  have e50 : (op == 50) = false := beq_eq_false_iff_ne.2 (by omega)
  have n50 : (op != 50) = true := bne_iff_ne.2 (by omega)
  have e52 : (op == 52) = false := beq_eq_false_iff_ne.2 (by omega)
  have n52 : (op != 52) = true := bne_iff_ne.2 (by omega)
  have e54 : (op == 54) = false := beq_eq_false_iff_ne.2 (by omega)
  have n54 : (op != 54) = true := bne_iff_ne.2 (by omega)
  have e55 : (op == 55) = false := beq_eq_false_iff_ne.2 (by omega)
  have n55 : (op != 55) = true := bne_iff_ne.2 (by omega)
  have e56 : (op == 56) = false := beq_eq_false_iff_ne.2 (by omega)
  have n56 : (op != 56) = true := bne_iff_ne.2 (by omega)
  have e57 : (op == 57) = false := beq_eq_false_iff_ne.2 (by omega)
  have n57 : (op != 57) = true := bne_iff_ne.2 (by omega)
  have e58 : (op == 58) = false := beq_eq_false_iff_ne.2 (by omega)
  have n58 : (op != 58) = true := bne_iff_ne.2 (by omega)
  have e49 : (op == 49) = false := beq_eq_false_iff_ne.2 (by omega)
  have n49 : (op != 49) = true := bne_iff_ne.2 (by omega)
  have e51 : (op == 51) = false := beq_eq_false_iff_ne.2 (by omega)
  have n51 : (op != 51) = true := bne_iff_ne.2 (by omega)
  have e53 : (op == 53) = false := beq_eq_false_iff_ne.2 (by omega)
  have n53 : (op != 53) = true := bne_iff_ne.2 (by omega)
  have e72 : (op == 72) = false := beq_eq_false_iff_ne.2 (by omega)
  have n72 : (op != 72) = true := bne_iff_ne.2 (by omega)
  have e73 : (op == 73) = false := beq_eq_false_iff_ne.2 (by omega)
  have n73 : (op != 73) = true := bne_iff_ne.2 (by omega)
  have e74 : (op == 74) = false := beq_eq_false_iff_ne.2 (by omega)
  have n74 : (op != 74) = true := bne_iff_ne.2 (by omega)
  have e80 : (op == 80) = false := beq_eq_false_iff_ne.2 (by omega)
  have n80 : (op != 80) = true := bne_iff_ne.2 (by omega)
  have hF : rowF op = rowF 27 := by unfold rowF; repeat (first | rw [if_pos (by omega)] | rw [if_neg (by omega)])
  rw [hF]
  clear hF
  go_enter Try.func19, Try.ntmps19
  go_wp2
  refine bodyPost_ret (v := (rowF _).val false) ?_ rfl ⟨rfl, kbelow_alloc1 _ _⟩
  simp [results, Try.results19, go_sem, RK.val, rowF, senseF]

set_option maxRecDepth 100000 in
set_option maxHeartbeats 4000000 in
theorem row_c_r2 (op : Int) (g0 : 64 ≤ op) (g1 : op ≤ 71) (w : World) :
    Calls Try.prog 19 #[.int .u8 op] w fun e w' => e = .returned ((rowF op).val false) ∧ Below w.heap.size w w' := by
  have e0 : (op == 0) = false := beq_eq_false_iff_ne.2 (by omega)
  have n0 : (op != 0) = true := bne_iff_ne.2 (by omega)
  have e16 : (op == 16) = false := beq_eq_false_iff_ne.2 (by omega)
  have n16 : (op != 16) = true := bne_iff_ne.2 (by omega)
  have e25 : (op == 25) = false := beq_eq_false_iff_ne.2 (by omega)
  have n25 : (op != 25) = true := bne_iff_ne.2 (by omega)
  have e30 : (op == 30) = false := beq_eq_false_iff_ne.2 (by omega)
  have n30 : (op != 30) = true := bne_iff_ne.2 (by omega)
  have e26 : (op == 26) = false := beq_eq_false_iff_ne.2 (by omega)
  have n26 : (op != 26) = true := bne_iff_ne.2 (by omega)
  have e31 : (op == 31) = false := beq_eq_false_iff_ne.2 (by omega)
  have n31 : (op != 31) = true := bne_iff_ne.2 (by omega)
  have e32 : (op == 32) = false := beq_eq_false_iff_ne.2 (by omega)
  have n32 : (op != 32) = true := bne_iff_ne.2 (by omega)
  have e33 : (op == 33) = false := beq_eq_false_iff_ne.2 (by omega)
  have n33 : (op != 33) = true := bne_iff_ne.2 (by omega)
  have e48 : (op == 48) = false := beq_eq_false_iff_ne.2 (by omega)
  have n48 : (op != 48) = true := bne_iff_ne.2 (by omega)
  have e50 : (op == 50) = false := beq_eq_false_iff_ne.2 (by omega)
  have n50 : (op != 50) = true := bne_iff_ne.2 (by omega)
  have e52 : (op == 52) = false := beq_eq_false_iff_ne.2 (by omega)
  have n52 : (op != 52) = true := bne_iff_ne.2 (by omega)
  have e54 : (op == 54) = false := beq_eq_false_iff_ne.2 (by omega)
  have n54 : (op != 54) = true := bne_iff_ne.2 (by omega)
  have e55 : (op == 55) = false := beq_eq_false_iff_ne.2 (by omega)
  have n55 : (op != 55) = true := bne_iff_ne.2 (by omega)
  have e56 : (op == 56) = false := beq_eq_false_iff_ne.2 (by omega)
  have n56 : (op != 56) = true := bne_iff_ne.2 (by omega)
  have e57 : (op == 57) = false := beq_eq_false_iff_ne.2 (by omega)
  have n57 : (op != 57) = true := bne_iff_ne.2 (by omega)
  have e58 : (op == 58) = false := beq_eq_false_iff_ne.2 (by omega)
  have n58 : (op != 58) = true := bne_iff_ne.2 (by omega)
  have e49 : (op == 49) = false := beq_eq_false_iff_ne.2 (by omega)
  have n49 : (op != 49) = true := bne_iff_ne.2 (by omega)
  have e51 : (op == 51) = false := beq_eq_false_iff_ne.2 (by omega)
  have n51 : (op != 51) = true := bne_iff_ne.2 (by omega)
  have e53 : (op == 53) = false := beq_eq_false_iff_ne.2 (by omega)
  have n53 : (op != 53) = true := bne_iff_ne.2 (by omega)
  have e72 : (op == 72) = false := beq_eq_false_iff_ne.2 (by omega)
  have n72 : (op != 72) = true := bne_iff_ne.2 (by omega)
  have e73 : (op == 73) = false := beq_eq_false_iff_ne.2 (by omega)
  have n73 : (op != 73) = true := bne_iff_ne.2 (by omega)
  have e74 : (op == 74) = false := beq_eq_false_iff_ne.2 (by omega)
  have n74 : (op != 74) = true := bne_iff_ne.2 (by omega)
  have e80 : (op == 80) = false := beq_eq_false_iff_ne.2 (by omega)
  have n80 : (op != 80) = true := bne_iff_ne.2 (by omega)
  have hF : rowF op = rowF 64 := by unfold rowF; repeat (first | rw [if_pos (by omega)] | rw [if_neg (by omega)])
  rw [hF]
  clear hF
  go_enter Try.func19, Try.ntmps19
  go_wp2
  refine bodyPost_ret (v := (rowF _).val false) ?_ rfl ⟨rfl, kbelow_alloc1 _ _⟩
  simp [results, Try.results19, go_sem, RK.val, rowF, senseF]

set_option maxRecDepth 100000 in
set_option maxHeartbeats 4000000 in
theorem row_c_no (op : Int) (h0 : 0 ≤ op) (h1 : op < 256) (hn : op ∉ rowLits) (g0 : ¬ (17 ≤ op ∧ op ≤ 24)) (g1 : ¬ (27 ≤ op ∧ op ≤ 29)) (g2 : ¬ (64 ≤ op ∧ op ≤ 71)) (w : World) :
    Calls Try.prog 19 #[.int .u8 op] w fun e w' => e = .returned ((rowF op).val false) ∧ Below w.heap.size w w' := by
  simp only [rowLits, List.mem_cons, List.mem_nil_iff, or_false, not_or] at hn
  have e0 : (op == 0) = false := beq_eq_false_iff_ne.2 (by omega)
  have n0 : (op != 0) = true := bne_iff_ne.2 (by omega)
  have e16 : (op == 16) = false := beq_eq_false_iff_ne.2 (by omega)
  have n16 : (op != 16) = true := bne_iff_ne.2 (by omega)
  have e25 : (op == 25) = false := beq_eq_false_iff_ne.2 (by omega)
  have n25 : (op != 25) = true := bne_iff_ne.2 (by omega)
  have e30 : (op == 30) = false := beq_eq_false_iff_ne.2 (by omega)
  have n30 : (op != 30) = true := bne_iff_ne.2 (by omega)
  have e26 : (op == 26) = false := beq_eq_false_iff_ne.2 (by omega)
  have n26 : (op != 26) = true := bne_iff_ne.2 (by omega)
  have e31 : (op == 31) = false := beq_eq_false_iff_ne.2 (by omega)
  have n31 : (op != 31) = true := bne_iff_ne.2 (by omega)
  have e32 : (op == 32) = false := beq_eq_false_iff_ne.2 (by omega)
  have n32 : (op != 32) = true := bne_iff_ne.2 (by omega)
  have e33 : (op == 33) = false := beq_eq_false_iff_ne.2 (by omega)
  have n33 : (op != 33) = true := bne_iff_ne.2 (by omega)
  have e48 : (op == 48) = false := beq_eq_false_iff_ne.2 (by omega)
  have n48 : (op != 48) = true := bne_iff_ne.2 (by omega)
  have e50 : (op == 50) = false := beq_eq_false_iff_ne.2 (by omega)
  have n50 : (op != 50) = true := bne_iff_ne.2 (by omega)
  have e52 : (op == 52) = false := beq_eq_false_iff_ne.2 (by omega)
  have n52 : (op != 52) = true := bne_iff_ne.2 (by omega)
  have e54 : (op == 54) = false := beq_eq_false_iff_ne.2 (by omega)
  have n54 : (op != 54) = true := bne_iff_ne.2 (by omega)
  have e55 : (op == 55) = false := beq_eq_false_iff_ne.2 (by omega)
  have n55 : (op != 55) = true := bne_iff_ne.2 (by omega)
  have e56 : (op == 56) = false := beq_eq_false_iff_ne.2 (by omega)
  have n56 : (op != 56) = true := bne_iff_ne.2 (by omega)
  have e57 : (op == 57) = false := beq_eq_false_iff_ne.2 (by omega)
  have n57 : (op != 57) = true := bne_iff_ne.2 (by omega)
  have e58 : (op == 58) = false := beq_eq_false_iff_ne.2 (by omega)
  have n58 : (op != 58) = true := bne_iff_ne.2 (by omega)
  have e49 : (op == 49) = false := beq_eq_false_iff_ne.2 (by omega)
  have n49 : (op != 49) = true := bne_iff_ne.2 (by omega)
  have e51 : (op == 51) = false := beq_eq_false_iff_ne.2 (by omega)
  have n51 : (op != 51) = true := bne_iff_ne.2 (by omega)
  have e53 : (op == 53) = false := beq_eq_false_iff_ne.2 (by omega)
  have n53 : (op != 53) = true := bne_iff_ne.2 (by omega)
  have e72 : (op == 72) = false := beq_eq_false_iff_ne.2 (by omega)
  have n72 : (op != 72) = true := bne_iff_ne.2 (by omega)
  have e73 : (op == 73) = false := beq_eq_false_iff_ne.2 (by omega)
  have n73 : (op != 73) = true := bne_iff_ne.2 (by omega)
  have e74 : (op == 74) = false := beq_eq_false_iff_ne.2 (by omega)
  have n74 : (op != 74) = true := bne_iff_ne.2 (by omega)
  have e80 : (op == 80) = false := beq_eq_false_iff_ne.2 (by omega)
  have n80 : (op != 80) = true := bne_iff_ne.2 (by omega)
  have hF : rowF op = senseF op := by unfold rowF; repeat (first | rw [if_pos (by omega)] | rw [if_neg (by omega)])
  rw [hF]
  clear hF
  have HS := Lib.hid fun w => sense_c op h0 h1 w
  have hr : op < 17 ∨ 30 < op := by omega
  have hq : op < 64 ∨ 71 < op := by omega
  clear hn
  generalize senseF op = x at HS
  obtain ⟨x1, x2, x3, x4, x5, x6, x7, x8, x9, x10⟩ := x
  unfold RK.val at HS ⊢
  rcases hr with hr | hr <;> rcases hq with hq | hq
  all_goals
    go_enter Try.func19, Try.ntmps19
    go_wp2_with fail
    all_goals try omega
    all_goals
      refine (HS.out _).mono ?_
      rintro e w1 ⟨rfl, hb⟩
      obtain ⟨hcl, hfz⟩ := kbcell hb
      have hz : w.heap.size < w1.heap.size := by have := hb.size; simp at this; omega
      have hB := kbelow_box hb
      go_wp2_with fail
      refine bodyPost_ret (v := RK.val ⟨x1, x2, x3, x4, x5, x6, x7, x8, x9, x10⟩ false) ?_ rfl ⟨rfl, ?_⟩
      · unfold RK.val
        simp [results, Try.results19, go_sem, hcl, hz]
      · exact ((((((((((hB.setCell (by simp) _).setCell (by simp) _).setCell (by simp) _).setCell (by simp) _).setCell (by simp) _).setCell (by simp) _).setCell (by simp) _).setCell (by simp) _).setCell (by simp) _).setCell (by simp) _).setCell (by simp) _

theorem row_c (op : Int) (h0 : 0 ≤ op) (h1 : op < 256) (w : World) :
    Calls Try.prog 19 #[.int .u8 op] w fun e w' => e = .returned ((rowF op).val false) ∧ Below w.heap.size w w' := by
  by_cases h : op ∈ rowLits
  · exact row_c_lit op h w
  by_cases g0 : 17 ≤ op ∧ op ≤ 24
  · exact row_c_r0 op g0.1 g0.2 w
  by_cases g1 : 27 ≤ op ∧ op ≤ 29
  · exact row_c_r1 op g1.1 g1.2 w
  by_cases g2 : 64 ≤ op ∧ op ≤ 71
  · exact row_c_r2 op g2.1 g2.2 w
  exact row_c_no op h0 h1 h g0 g1 g2 w

end Go.Proofs.Ytcikcfjbnpnhkaa
