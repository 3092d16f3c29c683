/- The walk of TrapEnters. -/
import Derived.Test.YtgaffakhmghbdaaTrapM
namespace Go.Proofs.Ytgaffakhmghbdaa
open Go.RowKit

/-- The kinds of a state's cells. -/
def stKs : List CK := [.i .u32, .i .u32, .i .u32, .i .u32, .i .u32, .i .u32, .i .u32, .i .u32, .i .u32, .i .u32, .i .u32, .i .u32, .i .u32, .i .u32, .i .u32, .i .u32, .i .u32, .i .u32, .b]
theorem wf_u32 {n : Int} (h0 : 0 ≤ n) (h1 : n < 4294967296) : (Lit.int .u32 n).wf = true := by
  have hmin : IntKind.u32.min = 0 := rfl
  have hmax : IntKind.u32.max = 4294967295 := rfl
  simp only [Lit.wf, Bool.and_eq_true, decide_eq_true_eq]; omega

set_option maxHeartbeats 4000000 in
theorem enters_walk (r0 : Int) (q0 : (Lit.int .u32 r0).wf = true) (r1 : Int) (q1 : (Lit.int .u32 r1).wf = true) (r2 : Int) (q2 : (Lit.int .u32 r2).wf = true) (r3 : Int) (q3 : (Lit.int .u32 r3).wf = true) (r4 : Int) (q4 : (Lit.int .u32 r4).wf = true) (r5 : Int) (q5 : (Lit.int .u32 r5).wf = true) (r6 : Int) (q6 : (Lit.int .u32 r6).wf = true) (r7 : Int) (q7 : (Lit.int .u32 r7).wf = true) (pc : Int) (_ : (Lit.int .u32 pc).wf = true) (ps : Int) (wp : (Lit.int .u32 ps).wf = true) (c0 : Int) (w0 : (Lit.int .u32 c0).wf = true) (c1 : Int) (w1 : (Lit.int .u32 c1).wf = true) (c2 : Int) (w2 : (Lit.int .u32 c2).wf = true) (c3 : Int) (w3 : (Lit.int .u32 c3).wf = true) (c4 : Int) (w4 : (Lit.int .u32 c4).wf = true) (c5 : Int) (w5 : (Lit.int .u32 c5).wf = true) (c6 : Int) (w6 : (Lit.int .u32 c6).wf = true) (c7 : Int) (w7 : (Lit.int .u32 c7).wf = true) (h : Bool) (fc : Int) (_ : (Lit.int .i64 fc).wf = true) (fa : Int) (wa : (Lit.int .u32 fa).wf = true) (back : Int) (wb : (Lit.int .u32 back).wf = true) (w : World) :
    Calls Try.prog 4 #[stV r0 r1 r2 r3 r4 r5 r6 r7 pc ps c0 c1 c2 c3 c4 c5 c6 c7 h, faV fc fa, .int .u32 back] w fun e w' => e = .returned (.bool true) ∧ Below w.heap.size w w' := by
  obtain ⟨p0, p1⟩ := bd_u32 wp
  have HA := Lib.hid fun w => enter_c r0 r1 r2 r3 r4 r5 r6 r7 pc ps c0 c1 c2 c3 c4 c5 c6 c7 h fc fa back w p0 p1 wp wb wa w2 w3 w4 w5
  have HB := Lib.hid fun w => refEnter_c r0 r1 r2 r3 r4 r5 r6 r7 pc ps c0 c1 c2 c3 c4 c5 c6 c7 h fc fa back w p0 p1
  have HW := Lib.hid works_c
  obtain ⟨X, hX, hxx⟩ : ∃ X : Array Value, stV r0 r1 r2 r3 r4 r5 r6 r7 c1 (ps - ps % 2 - ps / 2 % 2 * 2) c0 c1 back ps (fc % 4294967296) fa c6 c7 h = .agg X ∧ okAll stKs X.toList :=
    ⟨_, rfl, ⟨_, rfl, q0⟩, ⟨_, rfl, q1⟩, ⟨_, rfl, q2⟩, ⟨_, rfl, q3⟩, ⟨_, rfl, q4⟩, ⟨_, rfl, q5⟩, ⟨_, rfl, q6⟩, ⟨_, rfl, q7⟩, ⟨_, rfl, w1⟩, ⟨_, rfl, wf_u32 (by omega) (by omega)⟩, ⟨_, rfl, w0⟩, ⟨_, rfl, w1⟩, ⟨_, rfl, wb⟩, ⟨_, rfl, wp⟩, ⟨_, rfl, wrapM_wf fc⟩, ⟨_, rfl, wa⟩, ⟨_, rfl, w6⟩, ⟨_, rfl, w7⟩, ⟨_, rfl⟩, trivial⟩
  rw [hX] at HA HB
  have heq : ∀ w, (binOp .eql 28 (.agg X) (.agg X)).run Try.prog w = .ok (.bool true) w := by
    obtain ⟨r, h1, _, h2⟩ := run_eql_flat (P := Try.prog) (n := 4) (t := 28) (ks := stKs) (by decide) (by kernel_rfl) (by kernel_rfl) (by kernel_rfl) (by kernel_rfl) hxx hxx
    rw [h2.2 rfl] at h1
    simpa using h1
  clear hX hxx
  unfold stV faV at HA HB ⊢
  have hB0 : ∀ o1 o2, Below w.heap.size w ((w.alloc o1).alloc o2).drew := fun o1 o2 => ((below_alloc1 _ _).alloc (by simp) _).drew
  obtain ⟨S, hS⟩ : ∃ S : Array Value, #[.int .u32 r0, .int .u32 r1, .int .u32 r2, .int .u32 r3, .int .u32 r4, .int .u32 r5, .int .u32 r6, .int .u32 r7, .int .u32 pc, .int .u32 ps, .int .u32 c0, .int .u32 c1, .int .u32 c2, .int .u32 c3, .int .u32 c4, .int .u32 c5, .int .u32 c6, .int .u32 c7, .bool h] = S := ⟨_, rfl⟩
  have hsz : S.size = 19 := by rw [← hS]; rfl
  rw [hS] at HA HB ⊢
  clear hS
  go_enter Try.func4, Try.ntmps4
  go_wp2_with fail
  refine wp_region_held_drew (S := fun w' => w'.heap[w.heap.size]? = some (.cells S 28 (0, 0)) ∧ w'.cell? ⟨w.heap.size + 1, 0, none⟩ = some (.int .i64 fc) ∧ w'.cell? ⟨w.heap.size + 1, 1, none⟩ = some (.int .u32 fa) ∧ Below w.heap.size w w' ∧ w.heap.size < w'.heap.size ∧ w.heap.size + 1 < w'.heap.size) (by kernel_rfl) ?_ (fun hHeld => ?_)
  · refine ⟨heap_drew' (heap_old' (heap_new' rfl)), ?_, ?_, hB0 _ _, ?_, ?_⟩
    · go_simp
    · go_simp
    · simp; omega
    · simp
  refine wpAnyH_take (i := 0) (oi := { dst := some 7, op := Op.load 28 (Operand.tmp 3), type := 28, pos := "law.go:21", after := #[], guard := none }) (v := .agg S) rfl (by kernel_rfl) (by kernel_rfl) (by kernel_rfl) (fun _ _ _ h => h) (yields_state (by rfl) _ rfl w.heap.size rfl S hsz (fun w' h => h.1)) hHeld ?_
  try simp only [Act.put, List.setIfInBounds_toArray, List.set_cons_zero, List.set_cons_succ]
  refine wpAnyH_take (i := 4) (oi := { dst := some 11, op := Op.load 28 (Operand.tmp 3), type := 28, pos := "law.go:21", after := #[], guard := none }) (v := .agg S) rfl (by kernel_rfl) (by kernel_rfl) (by kernel_rfl) (fun _ _ _ h => h) (yields_state (by rfl) _ rfl w.heap.size rfl S hsz (fun w' h => h.1)) hHeld ?_
  try simp only [Act.put, List.setIfInBounds_toArray, List.set_cons_zero, List.set_cons_succ]
  refine wpAnyH_take (i := 1) (oi := { dst := some 8, op := Op.load 30 (Operand.tmp 4), type := 30, pos := "law.go:21", after := #[], guard := none }) (v := .agg #[.int .i64 fc, .int .u32 fa]) rfl (by kernel_rfl) (by kernel_rfl) (by kernel_rfl) (fun _ _ _ h => h) (Or.inl ⟨by rfl, ?_⟩) hHeld ?_
  · intro w' hSw
    obtain ⟨-, k1, k2, -, -, -⟩ := hSw
    go_simp
  try simp only [Act.put, List.setIfInBounds_toArray, List.set_cons_zero, List.set_cons_succ]
  refine wpAnyH_take (i := 5) (oi := { dst := some 12, op := Op.load 30 (Operand.tmp 4), type := 30, pos := "law.go:21", after := #[], guard := none }) (v := .agg #[.int .i64 fc, .int .u32 fa]) rfl (by kernel_rfl) (by kernel_rfl) (by kernel_rfl) (fun _ _ _ h => h) (Or.inl ⟨by rfl, ?_⟩) hHeld ?_
  · intro w' hSw
    obtain ⟨-, k1, k2, -, -, -⟩ := hSw
    go_simp
  try simp only [Act.put, List.setIfInBounds_toArray, List.set_cons_zero, List.set_cons_succ]
  refine wpAnyH_take (i := 2) (oi := { dst := some 9, op := Op.move (Operand.tmp 2), type := 22, pos := "law.go:21", after := #[], guard := none }) (v := .int .u32 back) rfl (by kernel_rfl) (by kernel_rfl) (by kernel_rfl) (fun _ _ _ h => h) (Or.inl ⟨by rfl, ?_⟩) hHeld ?_
  · intro w' hSw
    obtain ⟨-, k1, k2, -, -, -⟩ := hSw
    go_simp
  try simp only [Act.put, List.setIfInBounds_toArray, List.set_cons_zero, List.set_cons_succ]
  refine wpAnyH_take (i := 6) (oi := { dst := some 13, op := Op.move (Operand.tmp 2), type := 22, pos := "law.go:21", after := #[], guard := none }) (v := .int .u32 back) rfl (by kernel_rfl) (by kernel_rfl) (by kernel_rfl) (fun _ _ _ h => h) (Or.inl ⟨by rfl, ?_⟩) hHeld ?_
  · intro w' hSw
    obtain ⟨-, k1, k2, -, -, -⟩ := hSw
    go_simp
  try simp only [Act.put, List.setIfInBounds_toArray, List.set_cons_zero, List.set_cons_succ]
  refine wpAnyH_ready (rs := [3]) (by kernel_rfl) (by simp) ?_
  refine AllReadyH.cons (o := { dst := some 10, op := Op.call { callee := Callee.value (Operand.func 12), args := #[Operand.tmp 7, Operand.tmp 8, Operand.tmp 9], argTypes := #[28, 30, 22] }, type := 28, pos := "law.go:21", after := #[{ on := 0, ground := Ground.data }, { on := 1, ground := Ground.data }, { on := 2, ground := Ground.data }], guard := none }) rfl (fun K hK => ?_) AllReadyH.nil
  go_simp
  go_at_call 12
  refine (HA.out _).mono ?_
  rintro e w3 ⟨rfl, hb⟩
  obtain ⟨m1, m2, m3, m4, m5, m6⟩ := hHeld
  refine hK.out _ _ ⟨heap_below hb m1, ?_, ?_, below_next m4 hb, Nat.lt_of_lt_of_le m5 hb.size, Nat.lt_of_lt_of_le m6 hb.size⟩ (fun hHeld => ?_)
  · rw [hb.cell (p := ⟨w.heap.size + 1, 0, none⟩) m6]; exact m2
  · rw [hb.cell (p := ⟨w.heap.size + 1, 1, none⟩) m6]; exact m3
  clear hK K hb m1 m2 m3 m4 m5 m6
  try simp only [Act.put, List.setIfInBounds_toArray, List.set_cons_zero, List.set_cons_succ]
  refine wpAnyH_ready (rs := [7]) (by kernel_rfl) (by simp) ?_
  refine AllReadyH.cons (o := { dst := some 14, op := Op.call { callee := Callee.value (Operand.func 13), args := #[Operand.tmp 11, Operand.tmp 12, Operand.tmp 13], argTypes := #[28, 30, 22] }, type := 28, pos := "law.go:21", after := #[{ on := 4, ground := Ground.data }, { on := 5, ground := Ground.data }, { on := 6, ground := Ground.data }, { on := 3, ground := Ground.chain }], guard := none }) rfl (fun K hK => ?_) AllReadyH.nil
  go_simp
  go_at_call 13
  refine (HB.out _).mono ?_
  rintro e w7 ⟨rfl, hb⟩
  obtain ⟨m1, m2, m3, m4, m5, m6⟩ := hHeld
  refine hK.out _ _ ⟨heap_below hb m1, ?_, ?_, below_next m4 hb, Nat.lt_of_lt_of_le m5 hb.size, Nat.lt_of_lt_of_le m6 hb.size⟩ (fun hHeld => ?_)
  · rw [hb.cell (p := ⟨w.heap.size + 1, 0, none⟩) m6]; exact m2
  · rw [hb.cell (p := ⟨w.heap.size + 1, 1, none⟩) m6]; exact m3
  clear hK K hb m1 m2 m3 m4 m5 m6
  try simp only [Act.put, List.setIfInBounds_toArray, List.set_cons_zero, List.set_cons_succ]
  refine wpAnyH_take (i := 8) (oi := { dst := some 15, op := Op.binOp BinOp.eql 28 (Operand.tmp 10) (Operand.tmp 14) 28, type := 4, pos := "law.go:21", after := #[{ on := 3, ground := Ground.data }, { on := 7, ground := Ground.data }], guard := none }) (v := .bool true) rfl (by kernel_rfl) (by kernel_rfl) (by kernel_rfl) (fun _ _ _ h => h) (Or.inl ⟨by rfl, ?_⟩) hHeld ?_
  · intro w' hSw
    obtain ⟨-, k1, k2, -, -, -⟩ := hSw
    go_simp
  try simp only [Act.put, List.setIfInBounds_toArray, List.set_cons_zero, List.set_cons_succ]
  refine wpAnyH_take (i := 9) (oi := { dst := some 16, op := Op.move (Operand.tmp 15), type := 4, pos := "law.go:21", after := #[{ on := 8, ground := Ground.data }, { on := 7, ground := Ground.chain }], guard := none }) (v := .bool true) rfl (by kernel_rfl) (by kernel_rfl) (by kernel_rfl) (fun _ _ _ h => h) (Or.inl ⟨by rfl, ?_⟩) hHeld ?_
  · intro w' hSw
    obtain ⟨-, k1, k2, -, -, -⟩ := hSw
    go_simp
  try simp only [Act.put, List.setIfInBounds_toArray, List.set_cons_zero, List.set_cons_succ]
  refine wpAnyH_ready (rs := [10]) (by kernel_rfl) (by simp) ?_
  refine AllReadyH.cons (o := { dst := some 17, op := Op.call { callee := Callee.value (Operand.func 11), args := #[], argTypes := #[] }, type := 4, pos := "law.go:21", after := #[{ on := 9, ground := Ground.chain }, { on := 9, ground := Ground.guard }], guard := some (9, true) }) rfl (fun K hK => ?_) AllReadyH.nil
  go_simp
  go_at_call 11
  refine (HW.out _).mono ?_
  rintro e w10 ⟨rfl, hb⟩
  subst hb
  refine hK.out _ _ hHeld (fun hHeld => ?_)
  clear hK K
  try simp only [Act.put, List.setIfInBounds_toArray, List.set_cons_zero, List.set_cons_succ]
  refine wpAnyH_take (i := 11) (oi := { dst := some 18, op := Op.pick (Operand.tmp 16) (Operand.tmp 17) (Operand.const (Value.bool false)), type := 4, pos := "law.go:21", after := #[{ on := 9, ground := Ground.data }, { on := 10, ground := Ground.data }], guard := none }) (v := .bool true) rfl (by kernel_rfl) (by kernel_rfl) (by kernel_rfl) (fun _ _ _ h => h) (Or.inl ⟨by rfl, ?_⟩) hHeld ?_
  · intro w' hSw
    obtain ⟨-, k1, k2, -, -, -⟩ := hSw
    go_simp
  try simp only [Act.put, List.setIfInBounds_toArray, List.set_cons_zero, List.set_cons_succ]
  refine wpAnyH_take (i := 12) (oi := { dst := some 6, op := Op.assign (Operand.tmp 18), type := 4, pos := "law.go:21", after := #[{ on := 11, ground := Ground.data }, { on := 10, ground := Ground.chain }, { on := 0, ground := Ground.phase }, { on := 1, ground := Ground.phase }, { on := 2, ground := Ground.phase }, { on := 3, ground := Ground.phase }, { on := 4, ground := Ground.phase }, { on := 5, ground := Ground.phase }, { on := 6, ground := Ground.phase }, { on := 7, ground := Ground.phase }, { on := 8, ground := Ground.phase }, { on := 9, ground := Ground.phase }, { on := 10, ground := Ground.phase }, { on := 11, ground := Ground.phase }], guard := none }) (v := .bool true) rfl (by kernel_rfl) (by kernel_rfl) (by kernel_rfl) (fun _ _ _ h => h) (Or.inl ⟨by rfl, ?_⟩) hHeld ?_
  · intro w' hSw
    obtain ⟨-, k1, k2, -, -, -⟩ := hSw
    go_simp
  try simp only [Act.put, List.setIfInBounds_toArray, List.set_cons_zero, List.set_cons_succ]
  refine wpAnyH_done (by kernel_rfl) ?_ _
  go_wp2_with fail
  go_ret
  exact ⟨rfl, hHeld.2.2.2.1⟩
end Go.Proofs.Ytgaffakhmghbdaa
