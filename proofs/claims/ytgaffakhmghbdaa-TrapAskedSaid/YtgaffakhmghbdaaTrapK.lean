/- The walks of TrapBacks: the place that a fault saves. -/
import Derived.Test.YtgaffakhmghbdaaTrapE
import Derived.Deep.RegionHeld3
namespace Go.Proofs.Ytgaffakhmghbdaa
open Go.RowKit

/-- The form of the instruction trap. -/
theorem form80_c (w : World) : Calls Try.prog 22 #[.int .u8 80, .bool false] w fun e w' => e = .returned (.agg #[.int .i64 2, .int .i64 0, .int .i64 0, .int .i64 1, .int .i64 0]) ∧ Below w.heap.size w w' := by
  go_enter Try.func22, Try.ntmps22
  go_wp2
  refine bodyPost_ret ?_ rfl ⟨rfl, ?_⟩
  · simp [results, Try.results22, go_sem]
  · exact below_alloc1 _ _
theorem size80_c (w : World) : Calls Try.prog 18 #[.int .u8 80, .bool false] w fun e w' => e = .returned (.int .i64 2) ∧ Below w.heap.size w w' := by
  have hi : ∀ (a b c d e : Int) (w : World), (Instr.index 55 (.agg #[.int .i64 a, .int .i64 b, .int .i64 c, .int .i64 d, .int .i64 e]) (.int .i64 0)).run Try.prog w = .ok (.int .i64 a) w := fun _ _ _ _ _ _ => by kernel_rfl
  go_enter Try.func18, Try.ntmps18
  go_wp2_with (go_at_call 22; refine (form80_c _).mono ?_; rintro e w1 ⟨rfl, hb⟩)
  go_ret
  exact ⟨rfl, hb⟩

/-- Where the execution goes on behind a fault. -/
def backN (pc fc : Int) : Int := if fc = 8 then (pc + 2) % 4294967296 else pc

set_option maxHeartbeats 2000000 in
theorem refBack_c (r0 r1 r2 r3 r4 r5 r6 r7 pc ps c0 c1 c2 c3 c4 c5 c6 c7 : Int) (h : Bool) (fc fa : Int) (w : World) :
    Calls Try.prog 15 #[stV r0 r1 r2 r3 r4 r5 r6 r7 pc ps c0 c1 c2 c3 c4 c5 c6 c7 h, faV fc fa] w fun e w' => e = .returned (.int .u32 (backN pc fc)) ∧ Below w.heap.size w w' := by
  unfold stV faV backN
  by_cases hf : fc = 8
  · subst hf
    go_enter Try.func15, Try.ntmps15
    go_wp2_with fail
    go_ret
    exact ⟨rfl, (below_alloc1 _ _).alloc (by simp) _⟩
  · have e8 : (fc == 8) = false := by simpa using hf
    rw [if_neg hf]
    go_enter Try.func15, Try.ntmps15
    go_wp2_with fail
    go_ret
    exact ⟨rfl, (below_alloc1 _ _).alloc (by simp) _⟩

set_option maxHeartbeats 2000000 in
theorem back_c (r0 r1 r2 r3 r4 r5 r6 r7 pc ps c0 c1 c2 c3 c4 c5 c6 c7 : Int) (h : Bool) (fc fa : Int) (w : World) :
    Calls Try.prog 14 #[stV r0 r1 r2 r3 r4 r5 r6 r7 pc ps c0 c1 c2 c3 c4 c5 c6 c7 h, faV fc fa] w fun e w' => e = .returned (.int .u32 (backN pc fc)) ∧ Below w.heap.size w w' := by
  unfold stV faV backN
  have HS := Lib.hid size80_c
  by_cases hf : fc = 8
  · subst hf
    go_enter Try.func14, Try.ntmps14
    go_wp2_with fail
    go_region_with (go_at_call 18; refine (HS.out _).mono ?_; rintro e w1 ⟨rfl, hb⟩; have hB : Below w.heap.size w w1 := below_next (((below_alloc1 _ _).alloc (by simp) _).drew) hb; obtain ⟨hcl, hfz⟩ := bcell hb; have hz : w.heap.size < w1.heap.size := by have := hb.size; simp at this; omega)
    all_goals
      go_wp2_with fail
      go_ret
      exact ⟨rfl, hB⟩
  · have e8 : (fc == 8) = false := by simpa using hf
    rw [if_neg hf]
    go_enter Try.func14, Try.ntmps14
    go_wp2_with fail
    go_ret
    exact ⟨rfl, (below_alloc1 _ _).alloc (by simp) _⟩
end Go.Proofs.Ytgaffakhmghbdaa
