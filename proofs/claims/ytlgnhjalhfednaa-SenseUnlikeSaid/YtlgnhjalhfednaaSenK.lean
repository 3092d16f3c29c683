/- The statements' own call 'works' (a status is read); the walk of SenseKept. -/
import Derived.Test.YtlgnhjalhfednaaSenI
import Derived.Test.YtlgnhjalhfednaaFlat
namespace Go.Proofs.Ytlgnhjalhfednaa
open Go.RowKit
set_option linter.unusedSimpArgs false
set_option linter.unusedVariables false

/-- The instruction of 'works'. -/
def x0 : DX := ⟨fun _ => 0, 0, 3, fun _ => 0, false, 96, 3, 0, 0, 0, 0, false, false, 0, 0, true⟩

theorem x0_okay : x0.okay := ⟨⟨rfl, rfl, rfl, rfl, rfl⟩, by decide, by decide, by decide, by decide, by decide, by decide, by decide, by decide, by decide, by decide, by decide, fun _ => by simp [x0]⟩

theorem x0_val : doV x0 = .tuple #[.agg #[.int .u32 0, .int .u32 0, .int .u32 0, .int .u32 3, .int .u32 0, .int .u32 0, .int .u32 0, .int .u32 0, .int .u32 2, .int .u32 3, .int .u32 0, .int .u32 0, .int .u32 0, .int .u32 0, .int .u32 0, .int .u32 0, .int .u32 0, .int .u32 0, .bool false], .agg #[.int .i64 0, .bool false, .bool false, .int .i64 0, .int .u32 0]] := by kernel_rfl

theorem x0_ex : ∃ T : Array Value, doV x0 = .tuple #[.agg T, .agg #[.int .i64 0, .bool false, .bool false, .int .i64 0, .int .u32 0]] ∧ T.size = 19 ∧ T.all (·.oneCell') = true ∧ T[3]? = some (.int .u32 3) ∧ T[8]? = some (.int .u32 2) :=
  ⟨_, x0_val, rfl, by simp [Value.oneCell'], rfl, rfl⟩

set_option maxRecDepth 100000 in
set_option maxHeartbeats 4000000 in
theorem works_c (w : World) : Calls Try.prog 11 #[] w fun e w' => e = .returned (.bool true) ∧ Below w.heap.size w w' := by
  obtain ⟨T, hT, hsz, hone, t3, t8⟩ := x0_ex
  have hD := fun w => do_c x0 x0_okay w
  rw [hT] at hD
  have HD : Hid (∀ w, Calls Try.prog 9 #[.agg #[.int .u32 0, .int .u32 0, .int .u32 0, .int .u32 0, .int .u32 0, .int .u32 0, .int .u32 0, .int .u32 0, .int .u32 0, .int .u32 3, .int .u32 0, .int .u32 0, .int .u32 0, .int .u32 0, .int .u32 0, .int .u32 0, .int .u32 0, .int .u32 0, .bool false], .agg #[.int .u8 96, .int .u8 3, .int .u8 0, .int .i32 0], .int .u32 0] w _) := Lib.hid hD
  have HSZ := Lib.hid hsz
  have HON := Lib.hid hone
  clear hD hT hsz hone
  go_enter Try.func11, Try.ntmps11
  go_wp2_with fail
  refine (HD.out _).mono ?_
  rintro e w1 ⟨rfl, hb⟩
  go_wp2_with (first
    | ((with_reducible show wpList _ _ _ (Oper.mk _ (.store 25 _ _) _ _ _ _ :: _) _ _); refine wpList_store_at rfl 25 _ _ rfl rfl _ T rfl rfl 25 _ (by refine heap_old' (heap_new' ?_); simp; done) (by rw [HSZ.out]; kernel_rfl) (by rw [HSZ.out]; rfl) HON.out _ (by refine setRow_past _ (setRow_new' _ _ _ _ _ ?_) ?_ <;> simp; done) ?_))
  go_ret
  exact ⟨rfl, (hb.alloc hb.size _).alloc (by have := hb.size; simp; omega) _⟩
end Go.Proofs.Ytlgnhjalhfednaa
