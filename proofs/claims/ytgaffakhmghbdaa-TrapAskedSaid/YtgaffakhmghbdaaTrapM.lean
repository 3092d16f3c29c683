/- The walk of TrapBacks. -/
import Derived.Test.YtgaffakhmghbdaaTrapK
namespace Go.Proofs.Ytgaffakhmghbdaa
open Go.RowKit

/-- A whole state out of a variable, in whatever world in which the variable holds it. -/
theorem load_state (w : World) (b : Nat) (cs : Array Value) (p : Value) (hp : p = .pointer (some ⟨b, 0, none⟩)) (hg : w.heap[b]? = some (.cells cs 28 (0, 0))) (hs : cs.size = 19) :
    (Instr.loadAt 28 p).run Try.prog w = .ok (.agg cs) w := by
  subst hp
  simp only [Instr.loadAt, Instr.sureAddr, Sem.run_bind, Sem.run_pure, Result.andThen_ok, run_loadVar_row w b 28 28 cs (0, 0) _ hg Try.underlying28 rfl (by rw [hs]; kernel_rfl)]

theorem heap_below {W w1 : World} {k : Nat} {x : Obj} (hb : Below W.heap.size W w1) (h : W.heap[k]? = some x) : w1.heap[k]? = some x := by
  rw [hb.block k (Array.getElem?_eq_some_iff.1 h).1]; exact h

theorem yields_state {ops : Array Oper} {Sp : World → Prop} {op : Oper} {a : Act} (hw : Region.wanted op (yielded ops a.tmps) = true) (x : Operand) (ho : op.op = .load 28 x)
    (b : Nat) (hx : a.eval x = .pointer (some ⟨b, 0, none⟩)) (cs : Array Value) (hs : cs.size = 19) (hS : ∀ w, Sp w → w.heap[b]? = some (.cells cs 28 (0, 0))) : YieldsIf Try.prog ops Sp op (.agg cs) a :=
  .inl ⟨hw, fun w hw' => by
    unfold execOp
    simp only [ho, load_state w b cs _ hx (hS w hw') hs, Sem.run_bind, Sem.run_pure, Result.andThen_ok]⟩

set_option maxHeartbeats 4000000 in
theorem backs_walk (r0 : Int) (_ : (Lit.int .u32 r0).wf = true) (r1 : Int) (_ : (Lit.int .u32 r1).wf = true) (r2 : Int) (_ : (Lit.int .u32 r2).wf = true) (r3 : Int) (_ : (Lit.int .u32 r3).wf = true) (r4 : Int) (_ : (Lit.int .u32 r4).wf = true) (r5 : Int) (_ : (Lit.int .u32 r5).wf = true) (r6 : Int) (_ : (Lit.int .u32 r6).wf = true) (r7 : Int) (_ : (Lit.int .u32 r7).wf = true) (pc : Int) (_ : (Lit.int .u32 pc).wf = true) (ps : Int) (_ : (Lit.int .u32 ps).wf = true) (c0 : Int) (_ : (Lit.int .u32 c0).wf = true) (c1 : Int) (_ : (Lit.int .u32 c1).wf = true) (c2 : Int) (_ : (Lit.int .u32 c2).wf = true) (c3 : Int) (_ : (Lit.int .u32 c3).wf = true) (c4 : Int) (_ : (Lit.int .u32 c4).wf = true) (c5 : Int) (_ : (Lit.int .u32 c5).wf = true) (c6 : Int) (_ : (Lit.int .u32 c6).wf = true) (c7 : Int) (_ : (Lit.int .u32 c7).wf = true) (h : Bool) (fc : Int) (_ : (Lit.int .i64 fc).wf = true) (fa : Int) (_ : (Lit.int .u32 fa).wf = true) (w : World) :
    Calls Try.prog 6 #[stV r0 r1 r2 r3 r4 r5 r6 r7 pc ps c0 c1 c2 c3 c4 c5 c6 c7 h, faV fc fa] w fun e w' => e = .returned (.bool true) ∧ Below w.heap.size w w' := by
  have HA := Lib.hid fun w => back_c r0 r1 r2 r3 r4 r5 r6 r7 pc ps c0 c1 c2 c3 c4 c5 c6 c7 h fc fa w
  have HB := Lib.hid fun w => refBack_c r0 r1 r2 r3 r4 r5 r6 r7 pc ps c0 c1 c2 c3 c4 c5 c6 c7 h fc fa w
  have HW := Lib.hid works_c
  generalize backN pc fc = z at HA HB
  unfold stV faV at HA HB ⊢
  obtain ⟨S, hS⟩ : ∃ S : Array Value, #[.int .u32 r0, .int .u32 r1, .int .u32 r2, .int .u32 r3, .int .u32 r4, .int .u32 r5, .int .u32 r6, .int .u32 r7, .int .u32 pc, .int .u32 ps, .int .u32 c0, .int .u32 c1, .int .u32 c2, .int .u32 c3, .int .u32 c4, .int .u32 c5, .int .u32 c6, .int .u32 c7, .bool h] = S := ⟨_, rfl⟩
  have hsz : S.size = 19 := by rw [← hS]; rfl
  rw [hS] at HA HB ⊢
  clear hS
  have hB0 : ∀ o1 o2, Below w.heap.size w ((w.alloc o1).alloc o2).drew := fun o1 o2 => ((below_alloc1 _ _).alloc (by simp) _).drew
  go_enter Try.func6, Try.ntmps6
  go_wp2_with fail
  refine wp_region_held_drew (S := fun w' => w'.heap[w.heap.size]? = some (.cells S 28 (0, 0)) ∧ w'.cell? ⟨w.heap.size + 1, 0, none⟩ = some (.int .i64 fc) ∧ w'.cell? ⟨w.heap.size + 1, 1, none⟩ = some (.int .u32 fa) ∧ Below w.heap.size w w' ∧ w.heap.size < w'.heap.size ∧ w.heap.size + 1 < w'.heap.size) (by kernel_rfl) ?_ (fun hHeld => ?_)
  · refine ⟨heap_drew' (heap_old' (heap_new' rfl)), ?_, ?_, hB0 _ _, ?_, ?_⟩
    · go_simp
    · go_simp
    · simp; omega
    · simp
  refine wpAnyH_take (i := 0) (oi := { dst := some 5, op := Op.load 28 (Operand.tmp 2), type := 28, pos := "law.go:16", after := #[], guard := none }) (v := .agg S) rfl (by kernel_rfl) (by kernel_rfl) (by kernel_rfl) (fun _ _ _ h => h) (yields_state (by rfl) _ rfl w.heap.size rfl S hsz (fun w' h => h.1)) hHeld ?_
  try simp only [Act.put, List.setIfInBounds_toArray, List.set_cons_zero, List.set_cons_succ]
  refine wpAnyH_take (i := 3) (oi := { dst := some 8, op := Op.load 28 (Operand.tmp 2), type := 28, pos := "law.go:16", after := #[], guard := none }) (v := .agg S) rfl (by kernel_rfl) (by kernel_rfl) (by kernel_rfl) (fun _ _ _ h => h) (yields_state (by rfl) _ rfl w.heap.size rfl S hsz (fun w' h => h.1)) hHeld ?_
  try simp only [Act.put, List.setIfInBounds_toArray, List.set_cons_zero, List.set_cons_succ]
  refine wpAnyH_take (i := 1) (oi := { dst := some 6, op := Op.load 30 (Operand.tmp 3), type := 30, pos := "law.go:16", after := #[], guard := none }) (v := .agg #[.int .i64 fc, .int .u32 fa]) rfl (by kernel_rfl) (by kernel_rfl) (by kernel_rfl) (fun _ _ _ h => h) (Or.inl ⟨by rfl, ?_⟩) hHeld ?_
  · intro w' hSw
    obtain ⟨-, k1, k2, -, -, -⟩ := hSw
    go_simp
  try simp only [Act.put, List.setIfInBounds_toArray, List.set_cons_zero, List.set_cons_succ]
  refine wpAnyH_take (i := 4) (oi := { dst := some 9, op := Op.load 30 (Operand.tmp 3), type := 30, pos := "law.go:16", after := #[], guard := none }) (v := .agg #[.int .i64 fc, .int .u32 fa]) rfl (by kernel_rfl) (by kernel_rfl) (by kernel_rfl) (fun _ _ _ h => h) (Or.inl ⟨by rfl, ?_⟩) hHeld ?_
  · intro w' hSw
    obtain ⟨-, k1, k2, -, -, -⟩ := hSw
    go_simp
  try simp only [Act.put, List.setIfInBounds_toArray, List.set_cons_zero, List.set_cons_succ]
  refine wpAnyH_ready (rs := [2]) (by kernel_rfl) (by simp) ?_
  refine AllReadyH.cons (o := { dst := some 7, op := Op.call { callee := Callee.value (Operand.func 14), args := #[Operand.tmp 5, Operand.tmp 6], argTypes := #[28, 30] }, type := 22, pos := "law.go:16", after := #[{ on := 0, ground := Ground.data }, { on := 1, ground := Ground.data }], guard := none }) rfl (fun K hK => ?_) AllReadyH.nil
  go_simp
  go_at_call 14
  refine (HA.out _).mono ?_
  rintro e w2 ⟨rfl, hb⟩
  obtain ⟨m1, m2, m3, m4, m5, m6⟩ := hHeld
  refine hK.out _ _ ⟨heap_below hb m1, ?_, ?_, below_next m4 hb, Nat.lt_of_lt_of_le m5 hb.size, Nat.lt_of_lt_of_le m6 hb.size⟩ (fun hHeld => ?_)
  · rw [hb.cell (p := ⟨w.heap.size + 1, 0, none⟩) m6]; exact m2
  · rw [hb.cell (p := ⟨w.heap.size + 1, 1, none⟩) m6]; exact m3
  clear hK K hb m1 m2 m3 m4 m5 m6
  try simp only [Act.put, List.setIfInBounds_toArray, List.set_cons_zero, List.set_cons_succ]
  refine wpAnyH_ready (rs := [5]) (by kernel_rfl) (by simp) ?_
  refine AllReadyH.cons (o := { dst := some 10, op := Op.call { callee := Callee.value (Operand.func 15), args := #[Operand.tmp 8, Operand.tmp 9], argTypes := #[28, 30] }, type := 22, pos := "law.go:16", after := #[{ on := 3, ground := Ground.data }, { on := 4, ground := Ground.data }, { on := 2, ground := Ground.chain }], guard := none }) rfl (fun K hK => ?_) AllReadyH.nil
  go_simp
  go_at_call 15
  refine (HB.out _).mono ?_
  rintro e w5 ⟨rfl, hb⟩
  obtain ⟨m1, m2, m3, m4, m5, m6⟩ := hHeld
  refine hK.out _ _ ⟨heap_below hb m1, ?_, ?_, below_next m4 hb, Nat.lt_of_lt_of_le m5 hb.size, Nat.lt_of_lt_of_le m6 hb.size⟩ (fun hHeld => ?_)
  · rw [hb.cell (p := ⟨w.heap.size + 1, 0, none⟩) m6]; exact m2
  · rw [hb.cell (p := ⟨w.heap.size + 1, 1, none⟩) m6]; exact m3
  clear hK K hb m1 m2 m3 m4 m5 m6
  try simp only [Act.put, List.setIfInBounds_toArray, List.set_cons_zero, List.set_cons_succ]
  refine wpAnyH_take (i := 6) (oi := { dst := some 11, op := Op.binOp BinOp.eql 22 (Operand.tmp 7) (Operand.tmp 10) 22, type := 4, pos := "law.go:16", after := #[{ on := 2, ground := Ground.data }, { on := 5, ground := Ground.data }], guard := none }) (v := .bool true) rfl (by kernel_rfl) (by kernel_rfl) (by kernel_rfl) (fun _ _ _ h => h) (Or.inl ⟨by rfl, ?_⟩) hHeld ?_
  · intro w' hSw
    obtain ⟨-, k1, k2, -, -, -⟩ := hSw
    go_simp
  try simp only [Act.put, List.setIfInBounds_toArray, List.set_cons_zero, List.set_cons_succ]
  refine wpAnyH_take (i := 7) (oi := { dst := some 12, op := Op.move (Operand.tmp 11), type := 4, pos := "law.go:16", after := #[{ on := 6, ground := Ground.data }, { on := 5, ground := Ground.chain }], guard := none }) (v := .bool true) rfl (by kernel_rfl) (by kernel_rfl) (by kernel_rfl) (fun _ _ _ h => h) (Or.inl ⟨by rfl, ?_⟩) hHeld ?_
  · intro w' hSw
    obtain ⟨-, k1, k2, -, -, -⟩ := hSw
    go_simp
  try simp only [Act.put, List.setIfInBounds_toArray, List.set_cons_zero, List.set_cons_succ]
  refine wpAnyH_ready (rs := [8]) (by kernel_rfl) (by simp) ?_
  refine AllReadyH.cons (o := { dst := some 13, op := Op.call { callee := Callee.value (Operand.func 11), args := #[], argTypes := #[] }, type := 4, pos := "law.go:16", after := #[{ on := 7, ground := Ground.chain }, { on := 7, ground := Ground.guard }], guard := some (7, true) }) rfl (fun K hK => ?_) AllReadyH.nil
  go_simp
  go_at_call 11
  refine (HW.out _).mono ?_
  rintro e w8 ⟨rfl, hb⟩
  subst hb
  refine hK.out _ _ hHeld (fun hHeld => ?_)
  clear hK K
  try simp only [Act.put, List.setIfInBounds_toArray, List.set_cons_zero, List.set_cons_succ]
  refine wpAnyH_take (i := 9) (oi := { dst := some 14, op := Op.pick (Operand.tmp 12) (Operand.tmp 13) (Operand.const (Value.bool false)), type := 4, pos := "law.go:16", after := #[{ on := 7, ground := Ground.data }, { on := 8, ground := Ground.data }], guard := none }) (v := .bool true) rfl (by kernel_rfl) (by kernel_rfl) (by kernel_rfl) (fun _ _ _ h => h) (Or.inl ⟨by rfl, ?_⟩) hHeld ?_
  · intro w' hSw
    obtain ⟨-, k1, k2, -, -, -⟩ := hSw
    go_simp
  try simp only [Act.put, List.setIfInBounds_toArray, List.set_cons_zero, List.set_cons_succ]
  refine wpAnyH_take (i := 10) (oi := { dst := some 4, op := Op.assign (Operand.tmp 14), type := 4, pos := "law.go:16", after := #[{ on := 9, ground := Ground.data }, { on := 8, ground := Ground.chain }, { on := 0, ground := Ground.phase }, { on := 1, ground := Ground.phase }, { on := 2, ground := Ground.phase }, { on := 3, ground := Ground.phase }, { on := 4, ground := Ground.phase }, { on := 5, ground := Ground.phase }, { on := 6, ground := Ground.phase }, { on := 7, ground := Ground.phase }, { on := 8, ground := Ground.phase }, { on := 9, ground := Ground.phase }], guard := none }) (v := .bool true) rfl (by kernel_rfl) (by kernel_rfl) (by kernel_rfl) (fun _ _ _ h => h) (Or.inl ⟨by rfl, ?_⟩) hHeld ?_
  · intro w' hSw
    obtain ⟨-, k1, k2, -, -, -⟩ := hSw
    go_simp
  try simp only [Act.put, List.setIfInBounds_toArray, List.set_cons_zero, List.set_cons_succ]
  refine wpAnyH_done (by kernel_rfl) ?_ _
  go_wp2_with fail
  go_ret
  exact ⟨rfl, hHeld.2.2.2.1⟩
end Go.Proofs.Ytgaffakhmghbdaa
