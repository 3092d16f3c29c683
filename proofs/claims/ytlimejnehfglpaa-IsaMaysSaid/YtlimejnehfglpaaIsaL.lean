/- The walks of IsaSizes and IsaMays. -/
import Derived.Test.YtlimejnehfglpaaIsaK
import Derived.Deep.RegionHeld3
import Derived.BigQuiet
namespace Go.Proofs.Ytlimejnehfglpaa
open Go.RowKit

set_option maxHeartbeats 1000000 in
theorem sizes_walk (op : Int) (wo : (Lit.int .u8 op).wf = true) (host : Bool) (w : World) : Calls Try.prog 5 #[.int .u8 op, .bool host] w fun e w' => e = .returned (.bool true) ∧ Below w.heap.size w w' := by
  obtain ⟨h0, h1⟩ := bd_u8 wo
  have HA := Lib.hid fun w => size_c op host w h0 h1
  have HB := Lib.hid fun w => refOf_c op host w h0 h1
  have HW := Lib.hid works_c
  have hfd : ∀ (n k : Int) (x y z : Bool) (w : World), (Instr.field 33 (.agg #[.int .i64 n, .bool x, .bool y, .int .i64 k, .bool z]) 0).run Try.prog w = .ok (.int .i64 n) w := fun _ _ _ _ _ _ => by kernel_rfl
  generalize fm op host = f at HA HB
  obtain ⟨n, a, b, k, s⟩ := f
  go_enter Try.func5, Try.ntmps5
  go_wp2_with fail
  refine (HA.out _).mono ?_
  rintro e w1 ⟨rfl, hb⟩
  go_wp2_with fail
  refine (HB.out _).mono ?_
  rintro e w2 ⟨rfl, hb2⟩
  unfold Fm.rval
  go_wp2_with fail
  refine (HW.out _).mono ?_
  rintro e w3 ⟨rfl, hb3⟩
  go_wp2_with fail
  go_ret
  exact ⟨rfl, below_next (below_next hb hb2) hb3⟩

set_option maxHeartbeats 1000000 in
theorem mays_walk (op : Int) (wo : (Lit.int .u8 op).wf = true) (a : Int) (wa : (Lit.int .u8 a).wf = true) (b : Int) (wb : (Lit.int .u8 b).wf = true) (imm : Int) (wi : (Lit.int .i32 imm).wf = true) (host : Bool) (w : World) :
    Calls Try.prog 3 #[insV op a b imm, .bool host] w fun e w' => e = .returned (.bool true) ∧ Below w.heap.size w w' := by
  obtain ⟨h0, h1⟩ := bd_u8 wo
  obtain ⟨h2, h3⟩ := bd_u8 wa
  obtain ⟨h4, h5⟩ := bd_u8 wb
  obtain ⟨h6, h7⟩ := bd_i32 wi
  have HA := Lib.hid fun w => may_c op a b imm host w h0 h1 h2 h3 h4 h5 h6 h7
  have HB := Lib.hid fun w => refMay_c op a b imm host w h0 h1 h2 h3 h4 h5 h6 h7
  have HW := Lib.hid works_c
  generalize mayB (fm op host) a b imm = m at HA HB
  unfold insV at HA HB ⊢
  go_enter Try.func3, Try.ntmps3
  go_wp2_with fail
  go_region_held3 (fun w' => w'.cell? ⟨w.heap.size, 0, none⟩ = some (.int .u8 op) ∧ w'.cell? ⟨w.heap.size, 1, none⟩ = some (.int .u8 a) ∧ w'.cell? ⟨w.heap.size, 2, none⟩ = some (.int .u8 b) ∧ w'.cell? ⟨w.heap.size, 3, none⟩ = some (.int .i32 imm) ∧ Below w.heap.size w w' ∧ w.heap.size < w'.heap.size)
    ((refine ⟨?_, ?_, ?_, ?_, ?_, ?_⟩) <;> (first | assumption | (simp [*]; done) | exact (below_alloc1 _ _).drew | exact hB | (simp; omega) | omega))
    (first | (go_at_call 11; refine (HA.out _).mono ?_; rintro e w1 ⟨rfl, hb⟩; have hB : Below w.heap.size w w1 := (by first | exact below_next hB hb | exact below_next (below_alloc1 _ _).drew hb); have hz1 := hb.size; obtain ⟨hcl, hfz⟩ := bcell hb) | (go_at_call 12; refine (HB.out _).mono ?_; rintro e w1 ⟨rfl, hb⟩; have hB : Below w.heap.size w w1 := (by first | exact below_next hB hb | exact below_next (below_alloc1 _ _).drew hb); have hz1 := hb.size; obtain ⟨hcl, hfz⟩ := bcell hb) | (go_at_call 13; refine (HW.out _).mono ?_; rintro e w1 ⟨rfl, hb⟩; have hB : Below w.heap.size w w1 := (by first | exact below_next hB hb | exact below_next (below_alloc1 _ _).drew hb); have hz1 := hb.size; obtain ⟨hcl, hfz⟩ := bcell hb))
  go_wp2_with fail
  go_ret
  exact ⟨rfl, hB⟩
end Go.Proofs.Ytlimejnehfglpaa
