/- The walks of trap.Wants and of the document's Wants: both give the one plain function 'wants'. -/
import Derived.Test.YtgaffakhmghbdaaRows
import Derived.WalkKit
import Derived.WalkLawsBesides
import Derived.Laws.BitsAllLaws
import Derived.Deep.LoopGhost
import Derived.Lib.Hide
namespace Go.Proofs.Ytgaffakhmghbdaa
open Go.RowKit

theorem ret_int {k : IntKind} {a b : Int} (h : a = b) : Ending.returned (.int k a) = .returned (.int k b) := by rw [h]
theorem ret_bool {a b : Bool} (h : a = b) : Ending.returned (.bool a) = .returned (.bool b) := by rw [h]

/-- What is taken: by the two numbers. -/
def wants (ps wt : Int) : Int := if ps / 2 % 2 = 0 then 0 else if wt % 2 = 1 then 9 else if wt / 2 % 2 = 1 then 10 else if wt / 4 % 2 = 1 then 11 else 0

set_option maxHeartbeats 400000 in
theorem refWants (ps wt : Int) (w : World) (h0 : 0 ≤ ps) (h1 : ps < 4294967296) (h2 : 0 ≤ wt) (h3 : wt < 4294967296) :
    Calls Try.prog 10 #[.int .u32 ps, .int .u32 wt] w fun e w' => e = .returned (.int .i64 (wants ps wt)) ∧ w = w' := by
  go_enter Try.func10, Try.ntmps10
  go_wp2
  all_goals
    go_ret
    exact ⟨ret_int (by simp_all [wants]), rfl⟩

set_option maxHeartbeats 400000 in
theorem trapWants (ps wt : Int) (w : World) (h0 : 0 ≤ ps) (h1 : ps < 4294967296) (h2 : 0 ≤ wt) (h3 : wt < 4294967296) :
    Calls Try.prog 9 #[.int .u32 ps, .int .u32 wt] w fun e w' => e = .returned (.int .i64 (wants ps wt)) ∧ w = w' := by
  have hz : bits .and .u32 ps 2 = ps / 2 % 2 * 2 := by
    rw [u32_and _ _ h0 h1 (by omega) (by omega), show (2 : Int).toNat = 2 ^ 1 from rfl, nat_bit]; omega
  have ha : ∀ x : Int, 0 ≤ x → x < 4294967296 → bits .and .u32 x 1 = x % 2 := fun x k0 k1 => by
    rw [u32_and _ _ k0 k1 (by omega) (by omega), show (1 : Int).toNat = 1 from rfl, nat_mask1]; omega
  have HZ := Lib.hid hz
  have H0 := Lib.hid (ha wt h2 h3)
  have H1 := Lib.hid (ha (wt / 2) (by omega) (by omega))
  have H2 := Lib.hid (ha (wt / 4) (by omega) (by omega))
  clear hz ha
  go_enter Try.func9, Try.ntmps9
  go_wp2
  go_step3
  go_wp2
  · rw [Exit.noGoto_ret]
    go_ret
    refine ⟨ret_int ?_, rfl⟩
    have hp : (bits .and .u32 ps 2 == 0) = true := by assumption
    rw [HZ.out] at hp
    simp at hp
    simp [wants]
    omega
  · have hp : (bits .and .u32 ps 2 == 0) = false := by assumption
    rw [HZ.out] at hp
    simp at hp
    have HP := Lib.hid hp
    clear hp
    go_step3
    go_wp2
    refine wp_loop_rounds 4 ?_
    rw [rounds_succ]
    go_wp2
    all_goals try (rw [rounds_succ]; go_wp2)
    all_goals try (rw [rounds_succ]; go_wp2)
    all_goals try (rw [rounds_succ]; go_wp2)
    all_goals
      rw [Exit.noGoto_ret]
      go_ret
      refine ⟨ret_int ?_, rfl⟩
      try simp only [H0.out, H1.out, H2.out] at *
      have hp := HP.out
      simp_all [wants]
end Go.Proofs.Ytgaffakhmghbdaa
