/- JudgeStates: for every input the law returns true, and its arguments read as they did: the row, from the walk in YtjnakhejdpkfnaaDoorJudU. No condition. -/
import Derived.Test.YtjnakhejdpkfnaaDoorJudU
import Derived.Test.YtjnakhejdpkfnaaDoorFlat
import Derived.ProofKit
import Derived.LaidMore
import Derived.Stop.Joined
import Derived.Lib.LaidTab
import Derived.Stop.LaidErr
import Derived.Lib.AppendIntMem
import Derived.SevenTiedAt
import Derived.Test.YtjnakhejdpkfnaaDoorTie
import Derived.Test.YtjnakhejdpkfnaaDoorCards
import Derived.OpenShut
import Derived.ShutString
import Derived.ChangeOld
import Derived.Below
namespace Go.Proofs.YtjnakhejdpkfnaaDoor.judgeStates
open Go.ChangeShapes Go.WideShapes Go.ChangeAt Go.RowKit
open Go.ChangeMaps (open_string shut_string)
set_option linter.unusedVariables false

theorem own : ownKnob Tryd.prog.godebug = none := by kernel_rfl
theorem laidOut : laidOutB Tryd.prog = true := by kernel_rfl

theorem door_met (os : Os) (args : Array Value) : laidMetH Tryd.prog Rows.judgeStatesRow.laid ((World.doorLaid Tryd.prog 400 os).forCall (fun _ _ => 0) ⟨#[], args, []⟩).memory :=
  laidMetH_of_parts3 (fuel := 8) (laidMet_of_run' 8 (by kernel_rfl) (by kernel_rfl)) (by kernel_rfl) (by kernel_rfl)
theorem tab_of_laid {W : World} (h : laidMetH Tryd.prog Rows.judgeStatesRow.laid W) : Lib.TabIs Tryd.prog W "internal/strconv.uint64pow10" .u64 Lib.pow10Tab := by
  rw [MakeChecks.laidMetH_plain _ _ _ (by kernel_rfl)] at h
  exact Lib.tabIs_of_head (rest := []) (g := 0) (t := 88) (e := 81) (n := 20) (by kernel_rfl) (by kernel_rfl) Tryd.underlying88 Tryd.underlying81 (by kernel_rfl) (by kernel_rfl) (laidMet.tail (laidMet.tail h))

set_option maxRecDepth 100000 in
theorem lifted (os : Os) (started : os.Started) (H : Type) (enc : TypeId × Value → H) :
    ReturnsInHanded {} Tryd.checked os 6 .any (fun w args => (Rows.judgeStatesSpec.pre enc Tryd.prog Tryd.f6 [] false w args ∧ laidMetH Tryd.prog Rows.judgeStatesRow.laid w) ∧ sizedMet enc Tryd.prog Tryd.f6 (OpenSpec.ofChange Rows.judgeStatesSpec) false w args) (Rows.judgeStatesSpec.post enc Tryd.prog Tryd.f6 false true false false) := by
  refine returnsInHanded_of_change_and (C := Tryd.checked) (X := fun w _ => laidMetH Tryd.prog Rows.judgeStatesRow.laid w) (fun _ _ _ hh h => h.of_heap hh) own started (by kernel_rfl) Tryd.func6
    (ChangeSpec.witness_shaped (enc := enc) (C := Tryd.checked) (os := os) (X := fun w _ => laidMetH Tryd.prog Rows.judgeStatesRow.laid w) false (World.doorLaid Tryd.prog 400 os) #[.agg #[.int .u32 0, .int .u32 0, .int .u32 0, .int .u32 0, .int .u32 0, .int .u32 0, .int .u32 0, .int .u32 0, .int .u32 0, .int .u32 0, .int .u32 0, .int .u32 0, .int .u32 0, .int .u32 0, .int .u32 0, .int .u32 0, .int .u32 0, .int .u32 0, .bool false], .agg #[.int .u32 0, .int .u32 0, .int .u32 0, .int .u32 0, .int .u32 0, .int .u32 0, .int .u32 0, .int .u32 0, .int .u32 0, .int .u32 0, .int .u32 0, .int .u32 0, .int .u32 0, .int .u32 0, .int .u32 0, .int .u32 0, .int .u32 0, .int .u32 0, .bool false]] 8 rfl (World.shaped_of_RefB (by kernel_rfl) (by kernel_rfl)) (by kernel_rfl) (by kernel_rfl) (by kernel_rfl) (door_met os _)) ?_
  intro W base args ds gs before hval0 hW _ hsz0 hL _
  have hval : ∀ (j : Nat) t v, Tryd.f6.params[j]? = some t → args[j]? = some v → Value.okWide Tryd.prog W .any base t v := hval0
  have hW' := hW
  obtain ⟨p, q, hA0, hV, rfl, hfz, hnd⟩ := hW
  have hA : DataW.TrodAll enc Tryd.prog W 0 (fun _ => true) true Tryd.f6.params.toList args.toList ds p := hA0
  rw [Tryd.params6] at hA hval
  obtain ⟨v0, vs0, d0, ds0, p0, q0, hargs, rfl, rfl, h0, r_0⟩ := trodAll_cons hA
  obtain ⟨v1, vs1, d1, ds1, p1, q1, rfl, rfl, rfl, h1, r_1⟩ := trodAll_cons r_0
  obtain ⟨rfl, rfl, rfl⟩ := trodAll_nil r_1
  obtain rfl : args = #[v0, v1] := by cases args; simp_all
  obtain ⟨rfl, rfl⟩ := trodVars_none hV
  have k0 := h0
  have lt0 : ∀ x ∈ p0, x.block < W.heap.size := by obtain ⟨m, hm⟩ := k0; exact DataW.trod_lt m _ _ _ hm
  obtain ⟨cs0, rfl, o0⟩ := open_flat (n := 8) (ks := [.i .u32, .i .u32, .i .u32, .i .u32, .i .u32, .i .u32, .i .u32, .i .u32, .i .u32, .i .u32, .i .u32, .i .u32, .i .u32, .i .u32, .i .u32, .i .u32, .i .u32, .i .u32, .b]) (by kernel_rfl) (by kernel_rfl) (hval 0 26 v0 rfl rfl) k0
  obtain ⟨a0_0, cs0, rfl, w0_0, q0_0⟩ := okAll_i o0
  obtain ⟨a0_1, cs0, rfl, w0_1, q0_1⟩ := okAll_i q0_0
  obtain ⟨a0_2, cs0, rfl, w0_2, q0_2⟩ := okAll_i q0_1
  obtain ⟨a0_3, cs0, rfl, w0_3, q0_3⟩ := okAll_i q0_2
  obtain ⟨a0_4, cs0, rfl, w0_4, q0_4⟩ := okAll_i q0_3
  obtain ⟨a0_5, cs0, rfl, w0_5, q0_5⟩ := okAll_i q0_4
  obtain ⟨a0_6, cs0, rfl, w0_6, q0_6⟩ := okAll_i q0_5
  obtain ⟨a0_7, cs0, rfl, w0_7, q0_7⟩ := okAll_i q0_6
  obtain ⟨a0_8, cs0, rfl, w0_8, q0_8⟩ := okAll_i q0_7
  obtain ⟨a0_9, cs0, rfl, w0_9, q0_9⟩ := okAll_i q0_8
  obtain ⟨a0_10, cs0, rfl, w0_10, q0_10⟩ := okAll_i q0_9
  obtain ⟨a0_11, cs0, rfl, w0_11, q0_11⟩ := okAll_i q0_10
  obtain ⟨a0_12, cs0, rfl, w0_12, q0_12⟩ := okAll_i q0_11
  obtain ⟨a0_13, cs0, rfl, w0_13, q0_13⟩ := okAll_i q0_12
  obtain ⟨a0_14, cs0, rfl, w0_14, q0_14⟩ := okAll_i q0_13
  obtain ⟨a0_15, cs0, rfl, w0_15, q0_15⟩ := okAll_i q0_14
  obtain ⟨a0_16, cs0, rfl, w0_16, q0_16⟩ := okAll_i q0_15
  obtain ⟨a0_17, cs0, rfl, w0_17, q0_17⟩ := okAll_i q0_16
  obtain ⟨a0_18, cs0, rfl, q0_18⟩ := okAll_b q0_17
  obtain rfl := okAll_nil q0_18
  have k1 := h1
  have lt1 : ∀ x ∈ p1, x.block < W.heap.size := by obtain ⟨m, hm⟩ := k1; exact DataW.trod_lt m _ _ _ hm
  obtain ⟨cs1, rfl, o1⟩ := open_flat (n := 8) (ks := [.i .u32, .i .u32, .i .u32, .i .u32, .i .u32, .i .u32, .i .u32, .i .u32, .i .u32, .i .u32, .i .u32, .i .u32, .i .u32, .i .u32, .i .u32, .i .u32, .i .u32, .i .u32, .b]) (by kernel_rfl) (by kernel_rfl) (hval 1 26 v1 rfl rfl) k1
  obtain ⟨a1_0, cs1, rfl, w1_0, q1_0⟩ := okAll_i o1
  obtain ⟨a1_1, cs1, rfl, w1_1, q1_1⟩ := okAll_i q1_0
  obtain ⟨a1_2, cs1, rfl, w1_2, q1_2⟩ := okAll_i q1_1
  obtain ⟨a1_3, cs1, rfl, w1_3, q1_3⟩ := okAll_i q1_2
  obtain ⟨a1_4, cs1, rfl, w1_4, q1_4⟩ := okAll_i q1_3
  obtain ⟨a1_5, cs1, rfl, w1_5, q1_5⟩ := okAll_i q1_4
  obtain ⟨a1_6, cs1, rfl, w1_6, q1_6⟩ := okAll_i q1_5
  obtain ⟨a1_7, cs1, rfl, w1_7, q1_7⟩ := okAll_i q1_6
  obtain ⟨a1_8, cs1, rfl, w1_8, q1_8⟩ := okAll_i q1_7
  obtain ⟨a1_9, cs1, rfl, w1_9, q1_9⟩ := okAll_i q1_8
  obtain ⟨a1_10, cs1, rfl, w1_10, q1_10⟩ := okAll_i q1_9
  obtain ⟨a1_11, cs1, rfl, w1_11, q1_11⟩ := okAll_i q1_10
  obtain ⟨a1_12, cs1, rfl, w1_12, q1_12⟩ := okAll_i q1_11
  obtain ⟨a1_13, cs1, rfl, w1_13, q1_13⟩ := okAll_i q1_12
  obtain ⟨a1_14, cs1, rfl, w1_14, q1_14⟩ := okAll_i q1_13
  obtain ⟨a1_15, cs1, rfl, w1_15, q1_15⟩ := okAll_i q1_14
  obtain ⟨a1_16, cs1, rfl, w1_16, q1_16⟩ := okAll_i q1_15
  obtain ⟨a1_17, cs1, rfl, w1_17, q1_17⟩ := okAll_i q1_16
  obtain ⟨a1_18, cs1, rfl, q1_18⟩ := okAll_b q1_17
  obtain rfl := okAll_nil q1_18
  have HT : Hid (Lib.TabBelow Tryd.prog W.heap.size W "internal/strconv.uint64pow10" .u64 Lib.pow10Tab) := Lib.hid (Lib.tabBelow_of_tabIs (tab_of_laid hL))
  clear hA0 hval0
  refine (states_walk a0_0 w0_0 a0_1 w0_1 a0_2 w0_2 a0_3 w0_3 a0_4 w0_4 a0_5 w0_5 a0_6 w0_6 a0_7 w0_7 a0_8 w0_8 a0_9 w0_9 a0_10 w0_10 a0_11 w0_11 a0_12 w0_12 a0_13 w0_13 a0_14 w0_14 a0_15 w0_15 a0_16 w0_16 a0_17 w0_17 a0_18 a1_0 w1_0 a1_1 w1_1 a1_2 w1_2 a1_3 w1_3 a1_4 w1_4 a1_5 w1_5 a1_6 w1_6 a1_7 w1_7 a1_8 w1_8 a1_9 w1_9 a1_10 w1_10 a1_11 w1_11 a1_12 w1_12 a1_13 w1_13 a1_14 w1_14 a1_15 w1_15 a1_16 w1_16 a1_17 w1_17 a1_18 W HT).mono fun e W' ⟨he, bel⟩ => ?_
  subst he
  exact ⟨_, rfl, _, _, _, [], _, [], hW', trodAll_mk1 (shut_bool Tryd.underlying4 _), (trodAll_cons_mk (Below.trod laidOut (by kernel_rfl) (of_decide_eq_true (by kernel_rfl)) k0 bel lt0) (trodAll_cons_mk (Below.trod laidOut (by kernel_rfl) (of_decide_eq_true (by kernel_rfl)) k1 bel lt1) trodAll_mk0)), rfl, bel.frame _, fun h => by cases h⟩

theorem over : Rows.judgeStatesRow.holds Tryd.pinned (OpenSpec.ofChange Rows.judgeStatesSpec) :=
  OpenClaim.holds_of_wide 6 Tryd.f6 rfl rfl rfl rfl rfl rfl rfl ⟨rfl, rfl, rfl, rfl, rfl⟩ rfl rfl rfl rfl rfl (by kernel_rfl) Tryd.func6 (by kernel_rfl)
    (of_decide_eq_true (by kernel_rfl)) (by unfold Func.isWrapper; first | (rw [if_pos (by decide +kernel)]; kernel_rfl) | (rw [if_neg (by decide +kernel)]; exact ⟨rfl, rfl⟩))
    (fun os started H enc _ => lifted os started H enc)

/-- The statement: the card, by the given tie. -/
theorem proved : Rows.JudgeStatesCardSaid :=
  Claim7.holds_tied_plain_at .later [] [.data, .data, .data] true (true, "cdd06f1c598d10c06fcb9b791fcdf79db0d9c528cc40ab9fc47e43fbbdd5cdf7") false
    over (fun _ h => by cases h) (by kernel_rfl) (fun _ h => by cases h) judgeStates_row_tie rfl ⟨rfl, rfl⟩ (by kernel_rfl) rfl
    (fun f fn hf hfn => by
      obtain rfl : f = 6 := Option.some.inj ((show Tryd.prog.funcNamed Rows.judgeStatesRow.func = some 6 by kernel_rfl).symm.trans hf) |>.symm
      obtain rfl : fn = Tryd.f6 := (Option.some.inj (Tryd.func6.symm.trans hfn)).symm
      exact ⟨by kernel_rfl, fun j t ht => by
        rw [Tryd.params6] at ht
        have hm : t ∈ [26, 26] := by simpa using Array.mem_of_getElem? ht
        have hall : ([26, 26].all fun u => !Tryd.prog.wantsStandIn u) = true := by kernel_rfl
        exact (show Tryd.prog.wantsStandIn t = false by simpa using List.all_eq_true.1 hall t hm)⟩)
    (by kernel_rfl)
#print axioms proved
end Go.Proofs.YtjnakhejdpkfnaaDoor.judgeStates
