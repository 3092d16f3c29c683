/- SenseDoes: for every input the law returns true, and its arguments read as they did: the row, from the walk in YtlgnhjalhfednaaSenU. No condition. -/
import Derived.Test.YtlgnhjalhfednaaSenU
import Derived.Test.YtlgnhjalhfednaaFlat
import Derived.ProofKit
import Derived.OpenShut
import Derived.ShutString
import Derived.ChangeOld
import Derived.Below
namespace Go.Proofs.Ytlgnhjalhfednaa.senseDoes
open Go.ChangeShapes Go.WideShapes Go.ChangeAt Go.RowKit
open Go.ChangeMaps (open_string shut_string)
set_option linter.unusedVariables false

theorem own : ownKnob Try.prog.godebug = none := by kernel_rfl
theorem laidOut : laidOutB Try.prog = true := by kernel_rfl

set_option maxRecDepth 100000 in
theorem lifted (os : Os) (started : os.Started) (H : Type) (enc : TypeId × Value → H) :
    ReturnsInHanded {} Try.checked os 3 .any (Rows.senseDoesSpec.pre6 enc Try.prog Try.f3 Rows.senseDoesRow.domain false) (Rows.senseDoesSpec.post enc Try.prog Try.f3 false true false false) := by
  refine returnsInHanded_of_change (C := Try.checked) own started (by kernel_rfl) Try.func3
    (ChangeSpec.witness6 (enc := enc) (C := Try.checked) false ⟨#[], #[.agg #[.int .u32 0, .int .u32 0, .int .u32 0, .int .u32 0, .int .u32 0, .int .u32 0, .int .u32 0, .int .u32 0, .int .u32 0, .int .u32 0, .int .u32 0, .int .u32 0, .int .u32 0, .int .u32 0, .int .u32 0, .int .u32 0, .int .u32 0, .int .u32 0, .bool false], .agg #[.int .u8 0, .int .u8 0, .int .u8 0, .int .i32 0], .int .u32 0], []⟩ 8 (by kernel_rfl) (by kernel_rfl) (by kernel_rfl) (by kernel_rfl)) ?_
  intro W base args ds gs before hval0 hW hcnd _
  have hval : ∀ (j : Nat) t v, Try.f3.params[j]? = some t → args[j]? = some v → Value.okWide Try.prog W .any base t v := hval0
  have hW' := hW
  obtain ⟨p, q, hA0, hV, rfl, hfz, hnd⟩ := hW
  have hA : DataW.TrodAll enc Try.prog W 0 (fun _ => true) true Try.f3.params.toList args.toList ds p := hA0
  rw [Try.params3] at hA hval
  obtain ⟨v0, vs0, d0, ds0, p0, q0, hargs, rfl, rfl, h0, r_0⟩ := trodAll_cons hA
  obtain ⟨v1, vs1, d1, ds1, p1, q1, rfl, rfl, rfl, h1, r_1⟩ := trodAll_cons r_0
  obtain ⟨v2, vs2, d2, ds2, p2, q2, rfl, rfl, rfl, h2, r_2⟩ := trodAll_cons r_1
  obtain ⟨rfl, rfl, rfl⟩ := trodAll_nil r_2
  obtain rfl : args = #[v0, v1, v2] := by cases args; simp_all
  obtain ⟨rfl, rfl⟩ := trodVars_none hV
  have k0 := h0
  have lt0 : ∀ x ∈ p0, x.block < W.heap.size := by obtain ⟨m, hm⟩ := k0; exact DataW.trod_lt m _ _ _ hm
  obtain ⟨cs0, rfl, o0⟩ := open_flat (n := 8) (ks := [.i .u32, .i .u32, .i .u32, .i .u32, .i .u32, .i .u32, .i .u32, .i .u32, .i .u32, .i .u32, .i .u32, .i .u32, .i .u32, .i .u32, .i .u32, .i .u32, .i .u32, .i .u32, .b]) (by kernel_rfl) (by kernel_rfl) (hval 0 25 v0 rfl rfl) k0
  obtain ⟨a0_0, cs0, rfl, w0_0, q0_0⟩ := okAll_i o0
  obtain ⟨a0_1, cs0, rfl, w0_1, q0_1⟩ := okAll_i q0_0
  obtain ⟨a0_2, cs0, rfl, w0_2, q0_2⟩ := okAll_i q0_1
  obtain ⟨a0_3, cs0, rfl, w0_3, q0_3⟩ := okAll_i q0_2
  obtain ⟨a0_4, cs0, rfl, w0_4, q0_4⟩ := okAll_i q0_3
  obtain ⟨a0_5, cs0, rfl, w0_5, q0_5⟩ := okAll_i q0_4
  obtain ⟨a0_6, cs0, rfl, w0_6, q0_6⟩ := okAll_i q0_5
  obtain ⟨a0_7, cs0, rfl, w0_7, q0_7⟩ := okAll_i q0_6
  obtain ⟨a0_8, cs0, rfl, w0_8, q0_8⟩ := okAll_i q0_7
  obtain ⟨a0_9, cs0, rfl, w0_9, q0_9⟩ := okAll_i q0_8
  obtain ⟨a0_10, cs0, rfl, w0_10, q0_10⟩ := okAll_i q0_9
  obtain ⟨a0_11, cs0, rfl, w0_11, q0_11⟩ := okAll_i q0_10
  obtain ⟨a0_12, cs0, rfl, w0_12, q0_12⟩ := okAll_i q0_11
  obtain ⟨a0_13, cs0, rfl, w0_13, q0_13⟩ := okAll_i q0_12
  obtain ⟨a0_14, cs0, rfl, w0_14, q0_14⟩ := okAll_i q0_13
  obtain ⟨a0_15, cs0, rfl, w0_15, q0_15⟩ := okAll_i q0_14
  obtain ⟨a0_16, cs0, rfl, w0_16, q0_16⟩ := okAll_i q0_15
  obtain ⟨a0_17, cs0, rfl, w0_17, q0_17⟩ := okAll_i q0_16
  obtain ⟨a0_18, cs0, rfl, q0_18⟩ := okAll_b q0_17
  obtain rfl := okAll_nil q0_18
  have k1 := h1
  have lt1 : ∀ x ∈ p1, x.block < W.heap.size := by obtain ⟨m, hm⟩ := k1; exact DataW.trod_lt m _ _ _ hm
  obtain ⟨cs1, rfl, o1⟩ := open_flat (n := 8) (ks := [.i .u8, .i .u8, .i .u8, .i .i32]) (by kernel_rfl) (by kernel_rfl) (hval 1 27 v1 rfl rfl) k1
  obtain ⟨a1_0, cs1, rfl, w1_0, q1_0⟩ := okAll_i o1
  obtain ⟨a1_1, cs1, rfl, w1_1, q1_1⟩ := okAll_i q1_0
  obtain ⟨a1_2, cs1, rfl, w1_2, q1_2⟩ := okAll_i q1_1
  obtain ⟨a1_3, cs1, rfl, w1_3, q1_3⟩ := okAll_i q1_2
  obtain rfl := okAll_nil q1_3
  have k2 := h2
  have lt2 : ∀ x ∈ p2, x.block < W.heap.size := by obtain ⟨m, hm⟩ := k2; exact DataW.trod_lt m _ _ _ hm
  obtain ⟨a2, rfl, rfl, rfl, w2⟩ := open_int Try.underlying22 (hval 2 22 v2 rfl rfl) h2
  clear hA0 hval0
  refine (does_walk a0_0 w0_0 a0_1 w0_1 a0_2 w0_2 a0_3 w0_3 a0_4 w0_4 a0_5 w0_5 a0_6 w0_6 a0_7 w0_7 a0_8 w0_8 a0_9 w0_9 a0_10 w0_10 a0_11 w0_11 a0_12 w0_12 a0_13 w0_13 a0_14 w0_14 a0_15 w0_15 a0_16 w0_16 a0_17 w0_17 a0_18 a1_0 w1_0 a1_1 w1_1 a1_2 w1_2 a1_3 w1_3 a2 w2 W).mono fun e W' ⟨he, bel⟩ => ?_
  subst he
  exact ⟨_, rfl, _, _, _, [], _, [], hW', trodAll_mk1 (shut_bool Try.underlying4 _), (trodAll_cons_mk (Below.trod laidOut (by kernel_rfl) (of_decide_eq_true (by kernel_rfl)) k0 bel lt0) (trodAll_cons_mk (Below.trod laidOut (by kernel_rfl) (of_decide_eq_true (by kernel_rfl)) k1 bel lt1) (trodAll_cons_mk (Below.trod laidOut (by kernel_rfl) (of_decide_eq_true (by kernel_rfl)) k2 bel lt2) trodAll_mk0))), rfl, bel.frame _, fun h => by cases h⟩

theorem over : Rows.senseDoesRow.holds Try.pinned (OpenSpec.ofChange Rows.senseDoesSpec) :=
  OpenClaim.holds_of_wide 3 Try.f3 rfl rfl rfl rfl rfl rfl rfl ⟨rfl, rfl, rfl, rfl, rfl⟩ rfl rfl rfl rfl rfl (by kernel_rfl) Try.func3 (by kernel_rfl)
    (of_decide_eq_true (by kernel_rfl)) (by unfold Func.isWrapper; first | (rw [if_pos (by decide +kernel)]; kernel_rfl) | (rw [if_neg (by decide +kernel)]; exact ⟨rfl, rfl⟩))
    (fun os started H enc _ => lifted os started H enc)

/-- The statement. -/
theorem proved : Rows.SenseDoesSaid := over
#print axioms proved
end Go.Proofs.Ytlgnhjalhfednaa.senseDoes
