/- The walk of TrapQuiet. -/
import Derived.Test.YtgaffakhmghbdaaTrapE
namespace Go.Proofs.Ytgaffakhmghbdaa
open Go.RowKit

theorem and3 {x : Int} (h0 : 0 ≤ x) (h1 : x < 4294967296) : bits .and .u32 x 3 = x % 4 := by
  rw [u32_and _ _ h0 h1 (by omega) (by omega), show (3 : Int).toNat = 3 from rfl, nat_mask2]; omega
theorem and4 {x : Int} (h0 : 0 ≤ x) (h1 : x < 4294967296) : bits .and .u32 x 4 = x / 4 % 2 * 4 := by
  rw [u32_and _ _ h0 h1 (by omega) (by omega), show (4 : Int).toNat = 2 ^ 2 from rfl, nat_bit]; omega

set_option maxHeartbeats 4000000 in
theorem quiet_walk (r0 : Int) (q0 : (Lit.int .u32 r0).wf = true) (r1 : Int) (q1 : (Lit.int .u32 r1).wf = true) (r2 : Int) (q2 : (Lit.int .u32 r2).wf = true) (r3 : Int) (q3 : (Lit.int .u32 r3).wf = true) (r4 : Int) (q4 : (Lit.int .u32 r4).wf = true) (r5 : Int) (q5 : (Lit.int .u32 r5).wf = true) (r6 : Int) (q6 : (Lit.int .u32 r6).wf = true) (r7 : Int) (q7 : (Lit.int .u32 r7).wf = true) (pc : Int) (_ : (Lit.int .u32 pc).wf = true) (ps : Int) (wp : (Lit.int .u32 ps).wf = true) (c0 : Int) (_ : (Lit.int .u32 c0).wf = true) (c1 : Int) (_ : (Lit.int .u32 c1).wf = true) (c2 : Int) (w2 : (Lit.int .u32 c2).wf = true) (c3 : Int) (w3 : (Lit.int .u32 c3).wf = true) (c4 : Int) (w4 : (Lit.int .u32 c4).wf = true) (c5 : Int) (w5 : (Lit.int .u32 c5).wf = true) (c6 : Int) (_ : (Lit.int .u32 c6).wf = true) (c7 : Int) (_ : (Lit.int .u32 c7).wf = true) (h : Bool) (fc : Int) (_ : (Lit.int .i64 fc).wf = true) (fa : Int) (wa : (Lit.int .u32 fa).wf = true) (back : Int) (wb : (Lit.int .u32 back).wf = true) (w : World) :
    Calls Try.prog 5 #[stV r0 r1 r2 r3 r4 r5 r6 r7 pc ps c0 c1 c2 c3 c4 c5 c6 c7 h, faV fc fa, .int .u32 back] w fun e w' => e = .returned (.bool true) ∧ Below w.heap.size w w' := by
  obtain ⟨p0, p1⟩ := bd_u32 wp
  have HA0 := fun w => enter_c r0 r1 r2 r3 r4 r5 r6 r7 pc ps c0 c1 c2 c3 c4 c5 c6 c7 h fc fa back w p0 p1 wp wb wa w2 w3 w4 w5
  obtain ⟨P, hP⟩ : ∃ P : Int, ps - ps % 2 - ps / 2 % 2 * 2 = P := ⟨_, rfl⟩
  rw [hP] at HA0
  have HA := Lib.hid HA0
  have b0 : 0 ≤ P := by omega
  have b1 : P < 4294967296 := by omega
  have e3 : bits .and .u32 P 3 = 0 := by rw [and3 b0 b1]; omega
  have e4 : bits .and .u32 P 4 = ps / 4 % 2 * 4 := by rw [and4 b0 b1]; omega
  have e5 : bits .and .u32 ps 4 = ps / 4 % 2 * 4 := and4 p0 p1
  have hw0 : wants P 7 = 0 := by unfold wants; rw [if_pos (by omega)]
  have HB0 := fun w => trapWants P 7 w b0 b1 (by omega) (by omega)
  rw [hw0] at HB0
  have HB := Lib.hid HB0
  have HW := Lib.hid works_c
  have heq : ∀ w, (binOp .eql 26 (.agg #[.int .u32 r0, .int .u32 r1, .int .u32 r2, .int .u32 r3, .int .u32 r4, .int .u32 r5, .int .u32 r6, .int .u32 r7]) (.agg #[.int .u32 r0, .int .u32 r1, .int .u32 r2, .int .u32 r3, .int .u32 r4, .int .u32 r5, .int .u32 r6, .int .u32 r7])).run Try.prog w = .ok (.bool true) w := by
    have hok : okAll [.i .u32, .i .u32, .i .u32, .i .u32, .i .u32, .i .u32, .i .u32, .i .u32] [.int .u32 r0, .int .u32 r1, .int .u32 r2, .int .u32 r3, .int .u32 r4, .int .u32 r5, .int .u32 r6, .int .u32 r7] := ⟨⟨_, rfl, q0⟩, ⟨_, rfl, q1⟩, ⟨_, rfl, q2⟩, ⟨_, rfl, q3⟩, ⟨_, rfl, q4⟩, ⟨_, rfl, q5⟩, ⟨_, rfl, q6⟩, ⟨_, rfl, q7⟩, trivial⟩
    obtain ⟨r, k1, _, k2⟩ := run_eql_flat (P := Try.prog) (n := 3) (t := 26) (ks := [.i .u32, .i .u32, .i .u32, .i .u32, .i .u32, .i .u32, .i .u32, .i .u32]) (by decide) (by kernel_rfl) (by kernel_rfl) (by kernel_rfl) (by kernel_rfl) hok hok
    rw [k2.2 rfl] at k1
    simpa using k1
  generalize ps / 4 % 2 * 4 = z4 at e4 e5
  clear HA0 HB0 hP hw0 p0 p1 b0 b1
  unfold stV faV at HA ⊢
  go_enter Try.func5, Try.ntmps5
  go_wp2_with ((with_reducible show wpList _ _ _ (Oper.mk _ (.load 28 _) _ _ _ _ :: _) _ _); refine wpList_load_row rfl 28 _ rfl _ rfl 28 _ (0, 0) _ (by first | (refine heap_old' (heap_new' ?_); simp; done) | (refine heap_new' ?_; simp; done)) Try.underlying28 rfl (by kernel_rfl) ?_)
  refine (HA.out _).mono ?_
  rintro e w1 ⟨rfl, hb⟩
  have hB1 : Below w.heap.size w w1 := below_next ((below_alloc1 _ _).alloc (by simp) _) hb
  obtain ⟨hcl, hfz⟩ := bcell hb
  have hz : w.heap.size < w1.heap.size := by have := hb.size; simp at this; omega
  have hz2 : w.heap.size + 1 < w1.heap.size := by have := hb.size; simp at this; omega
  clear hb
  go_wp2_with ((with_reducible show wpList _ _ _ (Oper.mk _ (.store 28 _ _) _ _ _ _ :: _) _ _); refine wpList_store_at rfl 28 _ _ rfl rfl _ _ rfl rfl 28 _ (by first | (refine heap_new' ?_; simp; done)) (by kernel_rfl) (by rfl) (by simp [Value.oneCell']) _ (by first | (refine setRow_new' _ _ _ _ _ ?_; simp; done)) ?_)
  refine (HB.out _).mono ?_
  rintro e w2 ⟨rfl, rfl⟩
  go_wp2_with fail
  refine (HW.out _).mono ?_
  rintro e w2 ⟨rfl, rfl⟩
  go_wp2_with fail
  go_ret
  exact ⟨rfl, hB1.alloc hB1.size _⟩
end Go.Proofs.Ytgaffakhmghbdaa
