/- Rows of translated code: the walk of the statements' own call 'works' (a row is found). -/
import Derived.Test.YtnmgfckefofcpaaRowB
import Derived.RegionTactic
import Derived.BigRegion
namespace Go.Proofs.Ytnmgfckefofcpaa
open Go.RowKit
set_option linter.unusedSimpArgs false
set_option linter.unusedVariables false

set_option maxHeartbeats 1000000 in
theorem gtr_c (b2 b3 blk : Nat) (w : World) (h2 : w.cell? ⟨b2, 0, none⟩ = some (.slice (some ⟨blk, 0, none⟩) 2 2)) (h3 : w.cell? ⟨b3, 0, none⟩ = some (.int .i64 2)) (h4 : w.cell? ⟨blk, 4, none⟩ = some (.int .i64 2)) :
    Calls Try.prog 29 #[.int .i64 1, .pointer (some ⟨b2, 0, none⟩), .pointer (some ⟨b3, 0, none⟩)] w fun e w' => e = .returned (.bool false) ∧ Below w.heap.size w w' := by
  go_enter Try.func29, Try.ntmps29
  go_wp2_with fail
  go_region
  all_goals
    go_wp2_with fail
    go_ret
    exact ⟨rfl, (Below.refl _ _).drew⟩

theorem keep {W w1 : World} (hb : Below W.heap.size W w1) {p : Addr} {v : Value} (h : W.cell? p = some v) : w1.cell? p = some v := (hb.cell (World.block_lt_of_cell? W p h)).trans h

set_option maxHeartbeats 2000000 in
theorem search2_c (b2 b3 blk : Nat) (w : World) (h2 : w.cell? ⟨b2, 0, none⟩ = some (.slice (some ⟨blk, 0, none⟩) 2 2)) (h3 : w.cell? ⟨b3, 0, none⟩ = some (.int .i64 2)) (h4 : w.cell? ⟨blk, 4, none⟩ = some (.int .i64 2)) :
    Calls Try.prog 28 #[.int .i64 2, .func (.func 29) #[] #[.pointer (some ⟨b2, 0, none⟩), .pointer (some ⟨b3, 0, none⟩)]] w fun e w' => e = .returned (.int .i64 2) ∧ Below w.heap.size w w' := by
  have HG := Lib.hid (gtr_c b2 b3 blk w h2 h3 h4)
  clear h2 h3 h4
  go_enter Try.func28, Try.ntmps28
  go_wp2_with fail
  refine wp_loop_rounds 4 ?_
  rw [rounds_succ]
  go_wp2_with fail
  refine HG.out.mono ?_
  rintro e w1 ⟨rfl, hb⟩
  go_wp2_with fail
  rw [rounds_succ]
  go_wp2_with fail
  go_ret
  exact ⟨rfl, hb⟩

set_option maxHeartbeats 2000000 in
theorem behind2_c (blk : Nat) (w : World) (h4 : w.cell? ⟨blk, 4, none⟩ = some (.int .i64 2)) :
    Calls Try.prog 19 #[.slice (some ⟨blk, 0, none⟩) 2 2, .int .i64 2] w fun e w' => e = .returned (.int .i64 2) ∧ Below w.heap.size w w' := by
  have hbw := World.block_lt_of_cell? w _ h4
  have HS := Lib.hid fun (b2 b3 : Nat) (w : World) => search2_c b2 b3 blk w
  have h4' : ∀ a b, ((w.alloc a).alloc b).cell? ⟨blk, 4, none⟩ = some (.int .i64 2) := fun a b => by
    rw [World.cell?_of_block (Below.heap_alloc (w.alloc a) b blk (by simp; exact Nat.lt_succ_of_lt hbw)), World.cell?_of_block (Below.heap_alloc w a blk hbw)]; exact h4
  have H4 := Lib.hid h4'
  clear h4 h4'
  go_enter Try.func19, Try.ntmps19
  go_wp2_with fail
  refine (HS.out _ _ _ (by go_simp) (by go_simp) (H4.out _ _)).mono ?_
  rintro e w1 ⟨rfl, hb⟩
  go_wp2_with fail
  go_ret
  exact ⟨rfl, below_next ((below_alloc1 _ _).alloc (by simp) _) hb⟩
end Go.Proofs.Ytnmgfckefofcpaa
