/- Rows of translated code: the walk of the statements' own call 'works', whole. -/
import Derived.Test.YtnmgfckefofcpaaRowC
namespace Go.Proofs.Ytnmgfckefofcpaa
open Go.RowKit
set_option linter.unusedSimpArgs false
set_option linter.unusedVariables false

set_option maxHeartbeats 2000000 in
theorem last2_c (blk : Nat) (w : World) (h4 : w.cell? ⟨blk, 4, none⟩ = some (.int .i64 2)) (h5 : w.cell? ⟨blk, 5, none⟩ = some (.int .u32 7)) (h6 : w.cell? ⟨blk, 6, none⟩ = some (.int .i64 0)) (h7 : w.cell? ⟨blk, 7, none⟩ = some (.int .i64 0)) :
    Calls Try.prog 11 #[.slice (some ⟨blk, 0, none⟩) 2 2, .int .i64 2] w fun e w' => e = .returned (.tuple #[.agg #[.int .i64 2, .int .u32 7, .int .i64 0, .int .i64 0], .bool true]) ∧ Below w.heap.size w w' := by
  have hbw := World.block_lt_of_cell? w _ h4
  simp only at hbw
  have HS := Lib.hid fun (w : World) => behind2_c blk w
  go_enter Try.func11, Try.ntmps11
  go_wp2_with fail
  refine (HS.out _ (by rw [World.cell?_of_block (Below.heap_alloc w _ blk hbw)]; exact h4)).mono ?_
  rintro e w1 ⟨rfl, hb⟩
  have hB := below_box hb
  have k4 := (hB.cell (p := ⟨blk, 4, none⟩) hbw).trans h4
  have k5 := (hB.cell (p := ⟨blk, 5, none⟩) hbw).trans h5
  have k6 := (hB.cell (p := ⟨blk, 6, none⟩) hbw).trans h6
  have k7 := (hB.cell (p := ⟨blk, 7, none⟩) hbw).trans h7
  obtain ⟨hcl, hfz⟩ := bcell hb
  have s1 : w.heap.size < w1.heap.size := by have := hb.size; simp at this; omega
  clear h4 h5 h6 h7
  go_wp2_with fail
  refine bodyPost_ret (v := .tuple #[.agg #[.int .i64 2, .int .u32 7, .int .i64 0, .int .i64 0], .bool true]) ?_ rfl ⟨rfl, ?_⟩
  · simp [results, Try.results11, go_sem, hcl, s1]
  · exact (((hB.setCell (by simp) _).setCell (by simp) _).setCell (by simp) _).setCell (by simp) _

set_option maxHeartbeats 2000000 in
theorem find2_c (blk : Nat) (w : World) (h4 : w.cell? ⟨blk, 4, none⟩ = some (.int .i64 2)) (h5 : w.cell? ⟨blk, 5, none⟩ = some (.int .u32 7)) (h6 : w.cell? ⟨blk, 6, none⟩ = some (.int .i64 0)) (h7 : w.cell? ⟨blk, 7, none⟩ = some (.int .i64 0)) :
    Calls Try.prog 9 #[.slice (some ⟨blk, 0, none⟩) 2 2, .int .i64 2] w fun e w' => e = .returned (.tuple #[.agg #[.int .i64 2, .int .u32 7, .int .i64 0, .int .i64 0], .bool true]) ∧ Below w.heap.size w w' := by
  have hbw := World.block_lt_of_cell? w _ h4
  simp only at hbw
  have hp : ∀ o j, (w.alloc o).cell? ⟨blk, j, none⟩ = w.cell? ⟨blk, j, none⟩ := fun o j => World.cell?_of_block (Below.heap_alloc w o blk hbw)
  have HS := Lib.hid fun o => last2_c blk (w.alloc o) ((hp o 4).trans h4) ((hp o 5).trans h5) ((hp o 6).trans h6) ((hp o 7).trans h7)
  clear h4 h5 h6 h7 hp
  go_enter Try.func9, Try.ntmps9
  go_wp2_with fail
  refine (HS.out _).mono ?_
  rintro e w1 ⟨rfl, hb⟩
  have hB := below_box hb
  obtain ⟨hcl, hfz⟩ := bcell hb
  have s1 : w.heap.size < w1.heap.size := by have := hb.size; simp at this; omega
  go_wp2_with fail
  refine bodyPost_ret (v := .tuple #[.agg #[.int .i64 2, .int .u32 7, .int .i64 0, .int .i64 0], .bool true]) ?_ rfl ⟨rfl, ?_⟩
  · simp [results, Try.results9, go_sem, hcl, s1]
  · first
      | exact ((((hB.setCell (by simp) _).setCell (by simp) _).setCell (by simp) _).setCell (by simp) _).alloc (by simp; omega) _
      | exact ((((hB.alloc hB.size _).setCell (by simp) _).setCell (by simp) _).setCell (by simp) _).setCell (by simp) _

set_option maxHeartbeats 2000000 in
theorem works_c (w : World) : Calls Try.prog 8 #[] w fun e w' => e = .returned (.bool true) ∧ Below w.heap.size w w' := by
  have HS := Lib.hid fun (blk : Nat) (w : World) => find2_c blk w
  go_enter Try.func8, Try.ntmps8
  go_wp2_with fail
  refine (HS.out _ _ (by go_simp) (by go_simp) (by go_simp) (by go_simp)).mono ?_
  rintro e w1 ⟨rfl, hb⟩
  have hB := below_box hb
  go_wp2_with fail
  go_ret
  exact ⟨rfl, hB.alloc hB.size _⟩
end Go.Proofs.Ytnmgfckefofcpaa
