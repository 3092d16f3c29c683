/- The walk of (*work).end: a block's end is laid. (Written by mkMF.py.) -/
import Derived.Test.YtnmgfckefofcpaaMadE
namespace Go.Proofs.Ytnmgfckefofcpaa
open Go.RowKit
set_option linter.unusedSimpArgs false
set_option linter.unusedVariables false
set_option maxRecDepth 100000

/-- The work's bytes and rows are those of instructions. -/
def WkIs (base wk : Nat) (b : BlkR) (its : List It) (nx : Int) (w : World) : Prop := WkAt base wk b (encAll its) (rowsAt its 0) nx w

theorem stub_enc (m to x : Int) : encAll (stubIt m to x) = encAll (stubIt m 0 x) := rfl
theorem stub_rows (m to x : Int) (a : Nat) : rowsAt (stubIt m to x) a = stubRows a to m x := by
  simp [rowsAt, stubIt, stubRows, It.row, It.enc, Isa.fm, Isa.encL]
theorem WkIs.low {base wk b its nx w} (h : WkIs base wk b its nx w) (hl : its.length ≤ 100) : (encAll its).length ≤ 1000 ∧ (rowsAt its 0).length ≤ 1000 := by
  have := encAll_len its
  rw [rowsAt_len]
  omega

theorem lay_is (base wk : Nat) (b : BlkR) (its : List It) (nx op a c imm pc d : Int) (w : World) (h0 : 0 ≤ op) (h1 : op < 256) (h2 : 0 ≤ a) (h3 : a < 256) (h4 : 0 ≤ c) (h5 : c < 256) (h6 : -2147483648 ≤ imm) (h7 : imm < 2147483648)
    (hm : Isa.mayB (Isa.fm op false) a c imm = true) (hw : WkIs base wk b its nx w) (hbs : base ≤ w.heap.size) (hl : its.length ≤ 100) :
    Calls Try.prog 26 #[.pointer (some ⟨wk, 0, none⟩), Isa.insV op a c imm, .int .u32 pc, .int .i64 d] w fun e w' => e = .returned (.tuple #[]) ∧ WkIs base wk b (its ++ [⟨op, a, c, imm, pc, d, -1⟩]) nx w' ∧ Below base w w' := by
  refine (lay_c base wk b (encAll its) (rowsAt its 0) nx op a c imm pc d w h0 h1 h2 h3 h4 h5 h6 h7 hm hw hbs (hw.low hl).1 (hw.low hl).2).mono ?_
  rintro e w' ⟨h1, h2, h3⟩
  refine ⟨h1, ?_, h3⟩
  have hf := (fm_guest hm).1
  unfold WkIs
  rw [encAll_app, rowsAt_app, Nat.zero_add]
  have e1 : encAll [⟨op, a, c, imm, pc, d, -1⟩] = Isa.encL (Isa.fm op false) op a c imm := by simp [encAll, It.enc, hf]
  have e2 : rowsAt [⟨op, a, c, imm, pc, d, -1⟩] (encAll its).length = [⟨((encAll its).length : Int), pc, d, -1⟩] := by simp [rowsAt, It.row]
  rw [e1, e2]
  exact h2

theorem stubOn_is (base wk : Nat) (b : BlkR) (its : List It) (nx to : Int) (w : World) (hw : WkIs base wk b its nx w) (hbs : base ≤ w.heap.size) (hl : its.length ≤ 100) (x0 : 0 ≤ nx) (x1 : nx < 65536) (n0 : 1 ≤ b.ins.length) (n1 : b.ins.length ≤ 32) :
    Calls Try.prog 40 #[.pointer (some ⟨wk, 0, none⟩), .iface 88 (.agg #[.int .u32 to])] w fun e w' => e = .returned (.tuple #[]) ∧ WkIs base wk b (its ++ stubIt (b.ins.length : Int) to nx) (nx + 1) w' ∧ Below base w w' := by
  refine (stubOn_c base wk b (encAll its) (rowsAt its 0) nx to w hw hbs (hw.low hl).1 (hw.low hl).2 x0 x1 n0 n1).mono ?_
  rintro e w' ⟨h1, h2, h3⟩
  refine ⟨h1, ?_, h3⟩
  unfold WkIs
  rw [encAll_app, rowsAt_app, Nat.zero_add, stub_enc, stub_rows]
  exact h2

theorem stubAsk_is (base wk : Nat) (b : BlkR) (its : List It) (nx to : Int) (w : World) (hw : WkIs base wk b its nx w) (hbs : base ≤ w.heap.size) (hl : its.length ≤ 100) (x0 : 0 ≤ nx) (x1 : nx < 65536) (n0 : 1 ≤ b.ins.length) (n1 : b.ins.length ≤ 32) :
    Calls Try.prog 40 #[.pointer (some ⟨wk, 0, none⟩), .iface 90 (.agg #[.int .u32 to])] w fun e w' => e = .returned (.tuple #[]) ∧ WkIs base wk b (its ++ stubIt ((b.ins.length : Int) - 1) to nx) (nx + 1) w' ∧ Below base w w' := by
  refine (stubAsk_c base wk b (encAll its) (rowsAt its 0) nx to w hw hbs (hw.low hl).1 (hw.low hl).2 x0 x1 n0 n1).mono ?_
  rintro e w' ⟨h1, h2, h3⟩
  refine ⟨h1, ?_, h3⟩
  unfold WkIs
  rw [encAll_app, rowsAt_app, Nat.zero_add, stub_enc, stub_rows]
  exact h2

theorem end_cases {op en : Int} {ends : Bool} (h : fitsEnd op en ends = true) : (en = 1 ∨ (en = 2 ∧ jumpB op = true) ∨ (en = 3 ∧ branchB op = true) ∨ en = 4) := by
  unfold fitsEnd at h
  split at h
  · left; assumption
  · split at h
    · right; left; exact ⟨by assumption, h⟩
    · split at h
      · right; right; left; exact ⟨by assumption, h⟩
      · split at h
        · right; right; right; assumption
        · cases h
theorem branch_may {op : Int} (h : branchB op = true) : 65 ≤ op ∧ op ≤ 71 ∧ Isa.mayB (Isa.fm op false) 0 0 5 = true := by
  simp only [branchB, Bool.and_eq_true, decide_eq_true_eq] at h
  have hf : Isa.fm op false = ⟨3, 0, 0, 2, 1⟩ := by
    unfold Isa.fm
    rw [if_neg (by omega), if_neg (by omega), if_neg (by omega), if_neg (by omega), if_neg (by omega), if_neg (by omega), if_pos (by omega)]
  exact ⟨h.1, h.2, by rw [hf]; decide⟩
theorem wrap_asI32 {x : Int} (h0 : 0 ≤ x) (h1 : x < 4294967296) : IntKind.i32.wrap x = asI32 x := by
  unfold asI32
  simp [IntKind.wrap, IntKind.bits, IntKind.signed]
  split <;> omega

/-- What the last instruction's box holds, of the worlds in which the block's end is read. -/
structure EnS (w : World) (w' : World) : Prop where
  below : Below w.heap.size w w'

set_option maxHeartbeats 8000000 in
theorem end_c (base wk : Nat) (b : BlkR) (its : List It) (nx : Int) (w : World) (hw : WkIs base wk b its nx w) (hbs : base ≤ w.heap.size) (hl : its.length ≤ 40) (x0 : 0 ≤ nx) (x1 : nx < 65535) (hM : mayBlk b = true) (hI : InssIn w b.ai b.ins) (hA : AtsIn w b.aa b.ats) (n0 : 0 ≤ b.nx) (n1 : b.nx < 4294967296) :
    Calls Try.prog 27 #[.pointer (some ⟨wk, 0, none⟩)] w fun e w' => e = .returned (.tuple #[]) ∧ (∃ nx', WkIs base wk b (its ++ endIt b b.ins.length (b.ins.getD (b.ins.length - 1) zI) (b.ats.getD (b.ins.length - 1) 0) nx) nx' w') ∧ Below base w w' := by
  obtain ⟨m1, m2, m3, -⟩ := mayBlk_n hM
  have hlf := last_fits hM
  obtain ⟨k, hk⟩ : ∃ k, b.ins.length = k + 1 := ⟨b.ins.length - 1, by omega⟩
  obtain ⟨r, hr⟩ : ∃ r, b.ins[k]? = some r := ⟨_, List.getElem?_eq_getElem (by omega)⟩
  obtain ⟨at1, ha⟩ : ∃ r, b.ats[k]? = some r := ⟨_, List.getElem?_eq_getElem (by omega)⟩
  have e1 : b.ins.getD (b.ins.length - 1) zI = r := by rw [hk, Nat.add_sub_cancel, List.getD, hr]; rfl
  have e2 : b.ats.getD (b.ins.length - 1) 0 = at1 := by rw [hk, Nat.add_sub_cancel, List.getD, ha]; rfl
  rw [e1] at hlf
  rw [e1, e2]
  obtain ⟨bi, oi, hai, y0, y1, y2, y3⟩ : ∃ blk off, b.ai = some ⟨blk, off, none⟩ ∧ w.cell? ⟨blk, off + k * 4, none⟩ = some (.int .u8 r.op) ∧ w.cell? ⟨blk, off + k * 4 + 1, none⟩ = some (.int .u8 r.a) ∧ w.cell? ⟨blk, off + k * 4 + 2, none⟩ = some (.int .u8 r.b) ∧ w.cell? ⟨blk, off + k * 4 + 3, none⟩ = some (.int .i32 r.imm) := by
    rcases hI with h | ⟨blk, off, h1, h2⟩
    · rw [h] at hr; cases hr
    · exact ⟨blk, off, h1, h2 k r hr⟩
  obtain ⟨ba, oa, haa, z0⟩ : ∃ blk off, b.aa = some ⟨blk, off, none⟩ ∧ w.cell? ⟨blk, off + k, none⟩ = some (.int .u32 at1) := by
    rcases hA with h | ⟨blk, off, h1, h2⟩
    · rw [h] at ha; cases ha
    · exact ⟨blk, off, h1, h2 k at1 ha⟩
  have lbi : bi < w.heap.size := World.block_lt_of_cell? w _ y0
  have lba : ba < w.heap.size := World.block_lt_of_cell? w _ z0
  have HW := Lib.hid hw
  obtain ⟨vB, vR, hF⟩ := hw
  have k2 : w.cell? ⟨wk, 2, none⟩ = some (.slice (some ⟨bi, oi, none⟩) (k + 1) b.ci) := (hF.cell 2).trans (by simp [WkCells, hai, hk])
  have k3 : w.cell? ⟨wk, 3, none⟩ = some (.slice (some ⟨ba, oa, none⟩) (k + 1) b.ca) := (hF.cell 3).trans (by simp [WkCells, haa, m3, hk])
  have k4 : w.cell? ⟨wk, 4, none⟩ = some (.int .u32 b.nx) := hF.cell 4
  have k5 : w.cell? ⟨wk, 5, none⟩ = some (.int .u32 b.to) := hF.cell 5
  have k6 : w.cell? ⟨wk, 6, none⟩ = some (.int .i64 b.en) := hF.cell 6
  have hlt := hF.lt
  have hwb := hF.le
  obtain ⟨ro, ra, rb, ri, q0, q1, q2, q3, q4, q5, q6, q7⟩ := r
  simp only at y0 y1 y2 y3 hlf
  have hwr : IntKind.i64.wrap (k : Int) = (k : Int) := IntWalk.i64_in _ ⟨by omega, by omega⟩
  have i1 : (k : Int) < (k : Int) + 1 := by omega
  have HLF := Lib.hid (end_cases hlf)
  have HN := Lib.hid hk
  have HB := Lib.hid (show 1 ≤ b.ins.length ∧ b.ins.length ≤ 32 from ⟨m1, m2⟩)
  clear hF hr ha e1 e2 hM hI hA hai haa m1 m2 m3 hlf hk
  go_enter Try.func27, Try.ntmps27
  go_wp2_with fail
  refine wp_region_held_drew (S := fun w' => Below w.heap.size w w') (by kernel_rfl) (Below.refl _ _).drew (fun hHeld => ?_)
  refine wpAnyH_take (i := 0) (oi := { dst := some 11, op := Op.move (Operand.tmp 0), type := _, pos := "translate.go:93", after := #[], guard := none }) (v := .pointer (some ⟨wk, 0, none⟩)) rfl (by kernel_rfl) (by kernel_rfl) (by kernel_rfl) (fun _ _ _ h => h) (Or.inl ⟨by rfl, ?_⟩) hHeld ?_
  · intro w' hSw
    have y0 := (hSw.cell (p := ⟨bi, oi + k * 4, none⟩) lbi).trans y0
    have y1 := (hSw.cell (p := ⟨bi, oi + k * 4 + 1, none⟩) lbi).trans y1
    have y2 := (hSw.cell (p := ⟨bi, oi + k * 4 + 2, none⟩) lbi).trans y2
    have y3 := (hSw.cell (p := ⟨bi, oi + k * 4 + 3, none⟩) lbi).trans y3
    have z0 := (hSw.cell (p := ⟨ba, oa + k, none⟩) lba).trans z0
    have k2 := (hSw.cell (p := ⟨wk, 2, none⟩) hlt).trans k2
    have k3 := (hSw.cell (p := ⟨wk, 3, none⟩) hlt).trans k3
    go_simp
  try simp only [Act.put, List.setIfInBounds_toArray, List.set_cons_zero, List.set_cons_succ]
  refine wpAnyH_take (i := 1) (oi := { dst := some 12, op := Op.nilCheck (Operand.tmp 11), type := _, pos := "translate.go:93", after := #[{ on := 0, ground := Ground.data }], guard := none }) (v := .pointer (some ⟨wk, 0, none⟩)) rfl (by kernel_rfl) (by kernel_rfl) (by kernel_rfl) (fun _ _ _ h => h) (Or.inl ⟨by rfl, ?_⟩) hHeld ?_
  · intro w' hSw
    have y0 := (hSw.cell (p := ⟨bi, oi + k * 4, none⟩) lbi).trans y0
    have y1 := (hSw.cell (p := ⟨bi, oi + k * 4 + 1, none⟩) lbi).trans y1
    have y2 := (hSw.cell (p := ⟨bi, oi + k * 4 + 2, none⟩) lbi).trans y2
    have y3 := (hSw.cell (p := ⟨bi, oi + k * 4 + 3, none⟩) lbi).trans y3
    have z0 := (hSw.cell (p := ⟨ba, oa + k, none⟩) lba).trans z0
    have k2 := (hSw.cell (p := ⟨wk, 2, none⟩) hlt).trans k2
    have k3 := (hSw.cell (p := ⟨wk, 3, none⟩) hlt).trans k3
    go_simp
  try simp only [Act.put, List.setIfInBounds_toArray, List.set_cons_zero, List.set_cons_succ]
  refine wpAnyH_take (i := 2) (oi := { dst := some 13, op := Op.fieldAddr _ (Operand.tmp 12) 1, type := _, pos := "translate.go:93", after := #[{ on := 1, ground := Ground.data }], guard := none }) (v := .pointer (some ⟨wk, 2, none⟩)) rfl (by kernel_rfl) (by kernel_rfl) (by kernel_rfl) (fun _ _ _ h => h) (Or.inl ⟨by rfl, ?_⟩) hHeld ?_
  · intro w' hSw
    have y0 := (hSw.cell (p := ⟨bi, oi + k * 4, none⟩) lbi).trans y0
    have y1 := (hSw.cell (p := ⟨bi, oi + k * 4 + 1, none⟩) lbi).trans y1
    have y2 := (hSw.cell (p := ⟨bi, oi + k * 4 + 2, none⟩) lbi).trans y2
    have y3 := (hSw.cell (p := ⟨bi, oi + k * 4 + 3, none⟩) lbi).trans y3
    have z0 := (hSw.cell (p := ⟨ba, oa + k, none⟩) lba).trans z0
    have k2 := (hSw.cell (p := ⟨wk, 2, none⟩) hlt).trans k2
    have k3 := (hSw.cell (p := ⟨wk, 3, none⟩) hlt).trans k3
    go_simp
  try simp only [Act.put, List.setIfInBounds_toArray, List.set_cons_zero, List.set_cons_succ]
  refine wpAnyH_take (i := 3) (oi := { dst := some 14, op := Op.fieldAddr _ (Operand.tmp 13) 0, type := _, pos := "translate.go:93", after := #[{ on := 2, ground := Ground.data }], guard := none }) (v := .pointer (some ⟨wk, 2, none⟩)) rfl (by kernel_rfl) (by kernel_rfl) (by kernel_rfl) (fun _ _ _ h => h) (Or.inl ⟨by rfl, ?_⟩) hHeld ?_
  · intro w' hSw
    have y0 := (hSw.cell (p := ⟨bi, oi + k * 4, none⟩) lbi).trans y0
    have y1 := (hSw.cell (p := ⟨bi, oi + k * 4 + 1, none⟩) lbi).trans y1
    have y2 := (hSw.cell (p := ⟨bi, oi + k * 4 + 2, none⟩) lbi).trans y2
    have y3 := (hSw.cell (p := ⟨bi, oi + k * 4 + 3, none⟩) lbi).trans y3
    have z0 := (hSw.cell (p := ⟨ba, oa + k, none⟩) lba).trans z0
    have k2 := (hSw.cell (p := ⟨wk, 2, none⟩) hlt).trans k2
    have k3 := (hSw.cell (p := ⟨wk, 3, none⟩) hlt).trans k3
    go_simp
  try simp only [Act.put, List.setIfInBounds_toArray, List.set_cons_zero, List.set_cons_succ]
  refine wpAnyH_take (i := 4) (oi := { dst := some 15, op := Op.load _ (Operand.tmp 14), type := _, pos := "translate.go:93", after := #[{ on := 3, ground := Ground.data }], guard := none }) (v := .slice (some ⟨bi, oi, none⟩) (k + 1) b.ci) rfl (by kernel_rfl) (by kernel_rfl) (by kernel_rfl) (fun _ _ _ h => h) (Or.inl ⟨by rfl, ?_⟩) hHeld ?_
  · intro w' hSw
    have y0 := (hSw.cell (p := ⟨bi, oi + k * 4, none⟩) lbi).trans y0
    have y1 := (hSw.cell (p := ⟨bi, oi + k * 4 + 1, none⟩) lbi).trans y1
    have y2 := (hSw.cell (p := ⟨bi, oi + k * 4 + 2, none⟩) lbi).trans y2
    have y3 := (hSw.cell (p := ⟨bi, oi + k * 4 + 3, none⟩) lbi).trans y3
    have z0 := (hSw.cell (p := ⟨ba, oa + k, none⟩) lba).trans z0
    have k2 := (hSw.cell (p := ⟨wk, 2, none⟩) hlt).trans k2
    have k3 := (hSw.cell (p := ⟨wk, 3, none⟩) hlt).trans k3
    go_simp
  try simp only [Act.put, List.setIfInBounds_toArray, List.set_cons_zero, List.set_cons_succ]
  refine wpAnyH_take (i := 5) (oi := { dst := some 16, op := Op.move (Operand.tmp 2), type := _, pos := "translate.go:93", after := #[], guard := none }) (v := .int .i64 ((k : Int) + 1)) rfl (by kernel_rfl) (by kernel_rfl) (by kernel_rfl) (fun _ _ _ h => h) (Or.inl ⟨by rfl, ?_⟩) hHeld ?_
  · intro w' hSw
    have y0 := (hSw.cell (p := ⟨bi, oi + k * 4, none⟩) lbi).trans y0
    have y1 := (hSw.cell (p := ⟨bi, oi + k * 4 + 1, none⟩) lbi).trans y1
    have y2 := (hSw.cell (p := ⟨bi, oi + k * 4 + 2, none⟩) lbi).trans y2
    have y3 := (hSw.cell (p := ⟨bi, oi + k * 4 + 3, none⟩) lbi).trans y3
    have z0 := (hSw.cell (p := ⟨ba, oa + k, none⟩) lba).trans z0
    have k2 := (hSw.cell (p := ⟨wk, 2, none⟩) hlt).trans k2
    have k3 := (hSw.cell (p := ⟨wk, 3, none⟩) hlt).trans k3
    go_simp
  try simp only [Act.put, List.setIfInBounds_toArray, List.set_cons_zero, List.set_cons_succ]
  refine wpAnyH_take (i := 6) (oi := { dst := some 17, op := Op.binOp BinOp.sub _ (Operand.tmp 16) (Operand.const (Value.int IntKind.i64 1)) _, type := _, pos := "translate.go:93", after := #[{ on := 5, ground := Ground.data }], guard := none }) (v := .int .i64 (k : Int)) rfl (by kernel_rfl) (by kernel_rfl) (by kernel_rfl) (fun _ _ _ h => h) (Or.inl ⟨by rfl, ?_⟩) hHeld ?_
  · intro w' hSw
    have y0 := (hSw.cell (p := ⟨bi, oi + k * 4, none⟩) lbi).trans y0
    have y1 := (hSw.cell (p := ⟨bi, oi + k * 4 + 1, none⟩) lbi).trans y1
    have y2 := (hSw.cell (p := ⟨bi, oi + k * 4 + 2, none⟩) lbi).trans y2
    have y3 := (hSw.cell (p := ⟨bi, oi + k * 4 + 3, none⟩) lbi).trans y3
    have z0 := (hSw.cell (p := ⟨ba, oa + k, none⟩) lba).trans z0
    have k2 := (hSw.cell (p := ⟨wk, 2, none⟩) hlt).trans k2
    have k3 := (hSw.cell (p := ⟨wk, 3, none⟩) hlt).trans k3
    go_simp
  try simp only [Act.put, List.setIfInBounds_toArray, List.set_cons_zero, List.set_cons_succ]
  refine wpAnyH_take (i := 7) (oi := { dst := some 18, op := Op.indexAddr _ (Operand.tmp 15) (Operand.tmp 17), type := _, pos := "translate.go:93", after := #[{ on := 4, ground := Ground.data }, { on := 6, ground := Ground.data }], guard := none }) (v := .pointer (some ⟨bi, oi + k * 4, none⟩)) rfl (by kernel_rfl) (by kernel_rfl) (by kernel_rfl) (fun _ _ _ h => h) (Or.inl ⟨by rfl, ?_⟩) hHeld ?_
  · intro w' hSw
    have y0 := (hSw.cell (p := ⟨bi, oi + k * 4, none⟩) lbi).trans y0
    have y1 := (hSw.cell (p := ⟨bi, oi + k * 4 + 1, none⟩) lbi).trans y1
    have y2 := (hSw.cell (p := ⟨bi, oi + k * 4 + 2, none⟩) lbi).trans y2
    have y3 := (hSw.cell (p := ⟨bi, oi + k * 4 + 3, none⟩) lbi).trans y3
    have z0 := (hSw.cell (p := ⟨ba, oa + k, none⟩) lba).trans z0
    have k2 := (hSw.cell (p := ⟨wk, 2, none⟩) hlt).trans k2
    have k3 := (hSw.cell (p := ⟨wk, 3, none⟩) hlt).trans k3
    go_simp
  try simp only [Act.put, List.setIfInBounds_toArray, List.set_cons_zero, List.set_cons_succ]
  refine wpAnyH_take (i := 8) (oi := { dst := some 19, op := Op.load _ (Operand.tmp 18), type := _, pos := "translate.go:93", after := #[{ on := 7, ground := Ground.data }], guard := none }) (v := .agg #[.int .u8 ro, .int .u8 ra, .int .u8 rb, .int .i32 ri]) rfl (by kernel_rfl) (by kernel_rfl) (by kernel_rfl) (fun _ _ _ h => h) (Or.inl ⟨by rfl, ?_⟩) hHeld ?_
  · intro w' hSw
    have y0 := (hSw.cell (p := ⟨bi, oi + k * 4, none⟩) lbi).trans y0
    have y1 := (hSw.cell (p := ⟨bi, oi + k * 4 + 1, none⟩) lbi).trans y1
    have y2 := (hSw.cell (p := ⟨bi, oi + k * 4 + 2, none⟩) lbi).trans y2
    have y3 := (hSw.cell (p := ⟨bi, oi + k * 4 + 3, none⟩) lbi).trans y3
    have z0 := (hSw.cell (p := ⟨ba, oa + k, none⟩) lba).trans z0
    have k2 := (hSw.cell (p := ⟨wk, 2, none⟩) hlt).trans k2
    have k3 := (hSw.cell (p := ⟨wk, 3, none⟩) hlt).trans k3
    go_simp
  try simp only [Act.put, List.setIfInBounds_toArray, List.set_cons_zero, List.set_cons_succ]
  refine wpAnyH_take (i := 9) (oi := { dst := some 20, op := Op.move (Operand.tmp 0), type := _, pos := "translate.go:93", after := #[{ on := 19, ground := Ground.gcOnly Departure.lateStores }], guard := none }) (v := .pointer (some ⟨wk, 0, none⟩)) rfl (by kernel_rfl) (by kernel_rfl) (by kernel_rfl) (fun _ _ _ h => h) (Or.inl ⟨by rfl, ?_⟩) hHeld ?_
  · intro w' hSw
    have y0 := (hSw.cell (p := ⟨bi, oi + k * 4, none⟩) lbi).trans y0
    have y1 := (hSw.cell (p := ⟨bi, oi + k * 4 + 1, none⟩) lbi).trans y1
    have y2 := (hSw.cell (p := ⟨bi, oi + k * 4 + 2, none⟩) lbi).trans y2
    have y3 := (hSw.cell (p := ⟨bi, oi + k * 4 + 3, none⟩) lbi).trans y3
    have z0 := (hSw.cell (p := ⟨ba, oa + k, none⟩) lba).trans z0
    have k2 := (hSw.cell (p := ⟨wk, 2, none⟩) hlt).trans k2
    have k3 := (hSw.cell (p := ⟨wk, 3, none⟩) hlt).trans k3
    go_simp
  try simp only [Act.put, List.setIfInBounds_toArray, List.set_cons_zero, List.set_cons_succ]
  refine wpAnyH_take (i := 10) (oi := { dst := some 21, op := Op.nilCheck (Operand.tmp 20), type := _, pos := "translate.go:93", after := #[{ on := 9, ground := Ground.data }, { on := 19, ground := Ground.gcOnly Departure.lateStores }], guard := none }) (v := .pointer (some ⟨wk, 0, none⟩)) rfl (by kernel_rfl) (by kernel_rfl) (by kernel_rfl) (fun _ _ _ h => h) (Or.inl ⟨by rfl, ?_⟩) hHeld ?_
  · intro w' hSw
    have y0 := (hSw.cell (p := ⟨bi, oi + k * 4, none⟩) lbi).trans y0
    have y1 := (hSw.cell (p := ⟨bi, oi + k * 4 + 1, none⟩) lbi).trans y1
    have y2 := (hSw.cell (p := ⟨bi, oi + k * 4 + 2, none⟩) lbi).trans y2
    have y3 := (hSw.cell (p := ⟨bi, oi + k * 4 + 3, none⟩) lbi).trans y3
    have z0 := (hSw.cell (p := ⟨ba, oa + k, none⟩) lba).trans z0
    have k2 := (hSw.cell (p := ⟨wk, 2, none⟩) hlt).trans k2
    have k3 := (hSw.cell (p := ⟨wk, 3, none⟩) hlt).trans k3
    go_simp
  try simp only [Act.put, List.setIfInBounds_toArray, List.set_cons_zero, List.set_cons_succ]
  refine wpAnyH_take (i := 11) (oi := { dst := some 22, op := Op.fieldAddr _ (Operand.tmp 21) 1, type := _, pos := "translate.go:93", after := #[{ on := 10, ground := Ground.data }, { on := 19, ground := Ground.gcOnly Departure.lateStores }], guard := none }) (v := .pointer (some ⟨wk, 2, none⟩)) rfl (by kernel_rfl) (by kernel_rfl) (by kernel_rfl) (fun _ _ _ h => h) (Or.inl ⟨by rfl, ?_⟩) hHeld ?_
  · intro w' hSw
    have y0 := (hSw.cell (p := ⟨bi, oi + k * 4, none⟩) lbi).trans y0
    have y1 := (hSw.cell (p := ⟨bi, oi + k * 4 + 1, none⟩) lbi).trans y1
    have y2 := (hSw.cell (p := ⟨bi, oi + k * 4 + 2, none⟩) lbi).trans y2
    have y3 := (hSw.cell (p := ⟨bi, oi + k * 4 + 3, none⟩) lbi).trans y3
    have z0 := (hSw.cell (p := ⟨ba, oa + k, none⟩) lba).trans z0
    have k2 := (hSw.cell (p := ⟨wk, 2, none⟩) hlt).trans k2
    have k3 := (hSw.cell (p := ⟨wk, 3, none⟩) hlt).trans k3
    go_simp
  try simp only [Act.put, List.setIfInBounds_toArray, List.set_cons_zero, List.set_cons_succ]
  refine wpAnyH_take (i := 12) (oi := { dst := some 23, op := Op.fieldAddr _ (Operand.tmp 22) 1, type := _, pos := "translate.go:93", after := #[{ on := 11, ground := Ground.data }, { on := 19, ground := Ground.gcOnly Departure.lateStores }], guard := none }) (v := .pointer (some ⟨wk, 3, none⟩)) rfl (by kernel_rfl) (by kernel_rfl) (by kernel_rfl) (fun _ _ _ h => h) (Or.inl ⟨by rfl, ?_⟩) hHeld ?_
  · intro w' hSw
    have y0 := (hSw.cell (p := ⟨bi, oi + k * 4, none⟩) lbi).trans y0
    have y1 := (hSw.cell (p := ⟨bi, oi + k * 4 + 1, none⟩) lbi).trans y1
    have y2 := (hSw.cell (p := ⟨bi, oi + k * 4 + 2, none⟩) lbi).trans y2
    have y3 := (hSw.cell (p := ⟨bi, oi + k * 4 + 3, none⟩) lbi).trans y3
    have z0 := (hSw.cell (p := ⟨ba, oa + k, none⟩) lba).trans z0
    have k2 := (hSw.cell (p := ⟨wk, 2, none⟩) hlt).trans k2
    have k3 := (hSw.cell (p := ⟨wk, 3, none⟩) hlt).trans k3
    go_simp
  try simp only [Act.put, List.setIfInBounds_toArray, List.set_cons_zero, List.set_cons_succ]
  refine wpAnyH_take (i := 13) (oi := { dst := some 24, op := Op.load _ (Operand.tmp 23), type := _, pos := "translate.go:93", after := #[{ on := 12, ground := Ground.data }, { on := 19, ground := Ground.gcOnly Departure.lateStores }], guard := none }) (v := .slice (some ⟨ba, oa, none⟩) (k + 1) b.ca) rfl (by kernel_rfl) (by kernel_rfl) (by kernel_rfl) (fun _ _ _ h => h) (Or.inl ⟨by rfl, ?_⟩) hHeld ?_
  · intro w' hSw
    have y0 := (hSw.cell (p := ⟨bi, oi + k * 4, none⟩) lbi).trans y0
    have y1 := (hSw.cell (p := ⟨bi, oi + k * 4 + 1, none⟩) lbi).trans y1
    have y2 := (hSw.cell (p := ⟨bi, oi + k * 4 + 2, none⟩) lbi).trans y2
    have y3 := (hSw.cell (p := ⟨bi, oi + k * 4 + 3, none⟩) lbi).trans y3
    have z0 := (hSw.cell (p := ⟨ba, oa + k, none⟩) lba).trans z0
    have k2 := (hSw.cell (p := ⟨wk, 2, none⟩) hlt).trans k2
    have k3 := (hSw.cell (p := ⟨wk, 3, none⟩) hlt).trans k3
    go_simp
  try simp only [Act.put, List.setIfInBounds_toArray, List.set_cons_zero, List.set_cons_succ]
  refine wpAnyH_take (i := 14) (oi := { dst := some 25, op := Op.move (Operand.tmp 2), type := _, pos := "translate.go:93", after := #[{ on := 19, ground := Ground.gcOnly Departure.lateStores }], guard := none }) (v := .int .i64 ((k : Int) + 1)) rfl (by kernel_rfl) (by kernel_rfl) (by kernel_rfl) (fun _ _ _ h => h) (Or.inl ⟨by rfl, ?_⟩) hHeld ?_
  · intro w' hSw
    have y0 := (hSw.cell (p := ⟨bi, oi + k * 4, none⟩) lbi).trans y0
    have y1 := (hSw.cell (p := ⟨bi, oi + k * 4 + 1, none⟩) lbi).trans y1
    have y2 := (hSw.cell (p := ⟨bi, oi + k * 4 + 2, none⟩) lbi).trans y2
    have y3 := (hSw.cell (p := ⟨bi, oi + k * 4 + 3, none⟩) lbi).trans y3
    have z0 := (hSw.cell (p := ⟨ba, oa + k, none⟩) lba).trans z0
    have k2 := (hSw.cell (p := ⟨wk, 2, none⟩) hlt).trans k2
    have k3 := (hSw.cell (p := ⟨wk, 3, none⟩) hlt).trans k3
    go_simp
  try simp only [Act.put, List.setIfInBounds_toArray, List.set_cons_zero, List.set_cons_succ]
  refine wpAnyH_take (i := 15) (oi := { dst := some 26, op := Op.binOp BinOp.sub _ (Operand.tmp 25) (Operand.const (Value.int IntKind.i64 1)) _, type := _, pos := "translate.go:93", after := #[{ on := 14, ground := Ground.data }, { on := 19, ground := Ground.gcOnly Departure.lateStores }], guard := none }) (v := .int .i64 (k : Int)) rfl (by kernel_rfl) (by kernel_rfl) (by kernel_rfl) (fun _ _ _ h => h) (Or.inl ⟨by rfl, ?_⟩) hHeld ?_
  · intro w' hSw
    have y0 := (hSw.cell (p := ⟨bi, oi + k * 4, none⟩) lbi).trans y0
    have y1 := (hSw.cell (p := ⟨bi, oi + k * 4 + 1, none⟩) lbi).trans y1
    have y2 := (hSw.cell (p := ⟨bi, oi + k * 4 + 2, none⟩) lbi).trans y2
    have y3 := (hSw.cell (p := ⟨bi, oi + k * 4 + 3, none⟩) lbi).trans y3
    have z0 := (hSw.cell (p := ⟨ba, oa + k, none⟩) lba).trans z0
    have k2 := (hSw.cell (p := ⟨wk, 2, none⟩) hlt).trans k2
    have k3 := (hSw.cell (p := ⟨wk, 3, none⟩) hlt).trans k3
    go_simp
  try simp only [Act.put, List.setIfInBounds_toArray, List.set_cons_zero, List.set_cons_succ]
  refine wpAnyH_take (i := 16) (oi := { dst := some 27, op := Op.indexAddr _ (Operand.tmp 24) (Operand.tmp 26), type := _, pos := "translate.go:93", after := #[{ on := 13, ground := Ground.data }, { on := 15, ground := Ground.data }, { on := 19, ground := Ground.gcOnly Departure.lateStores }], guard := none }) (v := .pointer (some ⟨ba, oa + k, none⟩)) rfl (by kernel_rfl) (by kernel_rfl) (by kernel_rfl) (fun _ _ _ h => h) (Or.inl ⟨by rfl, ?_⟩) hHeld ?_
  · intro w' hSw
    have y0 := (hSw.cell (p := ⟨bi, oi + k * 4, none⟩) lbi).trans y0
    have y1 := (hSw.cell (p := ⟨bi, oi + k * 4 + 1, none⟩) lbi).trans y1
    have y2 := (hSw.cell (p := ⟨bi, oi + k * 4 + 2, none⟩) lbi).trans y2
    have y3 := (hSw.cell (p := ⟨bi, oi + k * 4 + 3, none⟩) lbi).trans y3
    have z0 := (hSw.cell (p := ⟨ba, oa + k, none⟩) lba).trans z0
    have k2 := (hSw.cell (p := ⟨wk, 2, none⟩) hlt).trans k2
    have k3 := (hSw.cell (p := ⟨wk, 3, none⟩) hlt).trans k3
    go_simp
  try simp only [Act.put, List.setIfInBounds_toArray, List.set_cons_zero, List.set_cons_succ]
  refine wpAnyH_take (i := 17) (oi := { dst := some 28, op := Op.load _ (Operand.tmp 27), type := _, pos := "translate.go:93", after := #[{ on := 16, ground := Ground.data }, { on := 19, ground := Ground.gcOnly Departure.lateStores }], guard := none }) (v := .int .u32 at1) rfl (by kernel_rfl) (by kernel_rfl) (by kernel_rfl) (fun _ _ _ h => h) (Or.inl ⟨by rfl, ?_⟩) hHeld ?_
  · intro w' hSw
    have y0 := (hSw.cell (p := ⟨bi, oi + k * 4, none⟩) lbi).trans y0
    have y1 := (hSw.cell (p := ⟨bi, oi + k * 4 + 1, none⟩) lbi).trans y1
    have y2 := (hSw.cell (p := ⟨bi, oi + k * 4 + 2, none⟩) lbi).trans y2
    have y3 := (hSw.cell (p := ⟨bi, oi + k * 4 + 3, none⟩) lbi).trans y3
    have z0 := (hSw.cell (p := ⟨ba, oa + k, none⟩) lba).trans z0
    have k2 := (hSw.cell (p := ⟨wk, 2, none⟩) hlt).trans k2
    have k3 := (hSw.cell (p := ⟨wk, 3, none⟩) hlt).trans k3
    go_simp
  try simp only [Act.put, List.setIfInBounds_toArray, List.set_cons_zero, List.set_cons_succ]
  refine wpAnyH_ready (rs := [18]) (by kernel_rfl) (by simp) ?_
  refine AllReadyH.cons (o := { dst := some 3, op := Op.alloc 51, type := _, pos := "translate.go:93", after := #[], guard := none }) rfl (fun K hK => ?_) AllReadyH.nil
  go_simp
  refine hK.out _ _ (hHeld.alloc (by simp) _) (fun hHeld => ?_)
  clear hK K
  try simp only [Act.put, List.setIfInBounds_toArray, List.set_cons_zero, List.set_cons_succ]
  refine wpAnyH_ready (rs := [19]) (by kernel_rfl) (by simp) ?_
  refine AllReadyH.cons (o := { dst := none, op := Op.store _ (Operand.tmp 3) (Operand.tmp 19), type := _, pos := "translate.go:93", after := #[{ on := 18, ground := Ground.data }, { on := 8, ground := Ground.data }, { on := 0, ground := Ground.phase }, { on := 1, ground := Ground.phase }, { on := 2, ground := Ground.phase }, { on := 3, ground := Ground.phase }, { on := 4, ground := Ground.phase }, { on := 5, ground := Ground.phase }, { on := 6, ground := Ground.phase }, { on := 7, ground := Ground.phase }, { on := 8, ground := Ground.phase }, { on := 9, ground := Ground.textOnly Departure.lateStores }, { on := 10, ground := Ground.textOnly Departure.lateStores }, { on := 11, ground := Ground.textOnly Departure.lateStores }, { on := 12, ground := Ground.textOnly Departure.lateStores }, { on := 13, ground := Ground.textOnly Departure.lateStores }, { on := 14, ground := Ground.textOnly Departure.lateStores }, { on := 15, ground := Ground.textOnly Departure.lateStores }, { on := 16, ground := Ground.textOnly Departure.lateStores }, { on := 17, ground := Ground.textOnly Departure.lateStores }, { on := 18, ground := Ground.phase }], guard := none }) rfl (fun K hK => ?_) AllReadyH.nil
  go_simp
  refine hK.out _ _ ((Below.refl _ _).alloc (by simp) _).drew (fun hHeld => ?_)
  clear hK K
  try simp only [Act.put, List.setIfInBounds_toArray, List.set_cons_zero, List.set_cons_succ]
  refine wpAnyH_take (i := 20) (oi := { dst := some 4, op := Op.assign (Operand.tmp 28), type := _, pos := "translate.go:93", after := #[{ on := 17, ground := Ground.data }, { on := 19, ground := Ground.chain }, { on := 0, ground := Ground.phase }, { on := 1, ground := Ground.phase }, { on := 2, ground := Ground.phase }, { on := 3, ground := Ground.phase }, { on := 4, ground := Ground.phase }, { on := 5, ground := Ground.phase }, { on := 6, ground := Ground.phase }, { on := 7, ground := Ground.phase }, { on := 8, ground := Ground.phase }, { on := 9, ground := Ground.phase }, { on := 10, ground := Ground.phase }, { on := 11, ground := Ground.phase }, { on := 12, ground := Ground.phase }, { on := 13, ground := Ground.phase }, { on := 14, ground := Ground.phase }, { on := 15, ground := Ground.phase }, { on := 16, ground := Ground.phase }, { on := 17, ground := Ground.phase }, { on := 18, ground := Ground.phase }, { on := 19, ground := Ground.phase }], guard := none }) (v := .int .u32 at1) rfl (by kernel_rfl) (by kernel_rfl) (by kernel_rfl) (fun _ _ _ h => h) (Or.inl ⟨by rfl, ?_⟩) hHeld ?_
  · intro w' hSw
    have y0 := (hSw.cell (p := ⟨bi, oi + k * 4, none⟩) lbi).trans y0
    have y1 := (hSw.cell (p := ⟨bi, oi + k * 4 + 1, none⟩) lbi).trans y1
    have y2 := (hSw.cell (p := ⟨bi, oi + k * 4 + 2, none⟩) lbi).trans y2
    have y3 := (hSw.cell (p := ⟨bi, oi + k * 4 + 3, none⟩) lbi).trans y3
    have z0 := (hSw.cell (p := ⟨ba, oa + k, none⟩) lba).trans z0
    have k2 := (hSw.cell (p := ⟨wk, 2, none⟩) hlt).trans k2
    have k3 := (hSw.cell (p := ⟨wk, 3, none⟩) hlt).trans k3
    go_simp
  try simp only [Act.put, List.setIfInBounds_toArray, List.set_cons_zero, List.set_cons_succ]
  refine wpAnyH_done (by kernel_rfl) ?_ _
  have hwn : IntKind.i32.wrap b.nx = asI32 b.nx := wrap_asI32 n0 n1
  have hnb : -2147483648 ≤ asI32 b.nx ∧ asI32 b.nx < 2147483648 := by unfold asI32; split <;> omega
  have hd : (b.ins.length : Int) - 1 = (k : Int) := by have := HN.out; omega
  have HD := Lib.hid hd
  obtain ⟨w0, hw0⟩ : ∃ x, x = (w.alloc (.cells #[.int .u8 ro, .int .u8 ra, .int .u8 rb, .int .i32 ri] 51)).drew := ⟨_, rfl⟩
  rw [← hw0]
  have hF0 : ∃ vB vR, WkFix base wk b (encAll its) (rowsAt its 0) nx vB vR w0 := by
    obtain ⟨vB, vR, h⟩ := HW.out
    rw [hw0]
    exact ⟨vB, vR, (h.alloc _).drew⟩
  have hB0 : Below base w w0 := by rw [hw0]; exact ((Below.refl base w).alloc hbs _).drew
  have s0 : base ≤ w0.heap.size := by rw [hw0]; simp; omega
  have hbox : w0.heap[w.heap.size]? = some (.cells #[.int .u8 ro, .int .u8 ra, .int .u8 rb, .int .i32 ri] 51 (0, 0)) := by rw [hw0]; exact heap_new' rfl
  have l0 : w0.cell? ⟨w.heap.size, 0, none⟩ = some (.int .u8 ro) := cell_of_row _ _ 0 _ _ _ hbox
  have l0d : w0.drew.cell? ⟨w.heap.size, 0, none⟩ = some (.int .u8 ro) := cell_of_row w0.drew _ 0 _ _ _ hbox
  obtain ⟨vB, vR, hF⟩ := hF0
  have p4 : w0.cell? ⟨wk, 4, none⟩ = some (.int .u32 b.nx) := hF.cell 4
  have p4d : w0.drew.cell? ⟨wk, 4, none⟩ = some (.int .u32 b.nx) := hF.cell 4
  have p5 : w0.cell? ⟨wk, 5, none⟩ = some (.int .u32 b.to) := hF.cell 5
  have p6 : w0.cell? ⟨wk, 6, none⟩ = some (.int .i64 b.en) := hF.cell 6
  have HI := Lib.hid (show WkIs base wk b its nx w0 from ⟨vB, vR, hF⟩)
  have HId := Lib.hid (show WkIs base wk b its nx w0.drew from ⟨vB, vR, hF.drew⟩)
  have HB0 := Lib.hid hB0
  clear hF hw0 hbox hHeld HW hB0 hd k2 k3 k4 k5 k6 y0 y1 y2 y3 z0
  rcases HLF.out with he | ⟨he, -⟩ | ⟨he, hj⟩ | he
  · rw [he] at p6
    go_wp2_with fail
    refine (stubOn_is base wk b its nx b.nx _ HI.out s0 (by omega) x0 (by omega) HB.out.1 HB.out.2).mono ?_
    rintro e w1 ⟨rfl, h1, hb1⟩
    go_wp2_with fail
    go_end0
    refine ⟨rfl, ⟨nx + 1, ?_⟩, HB0.out.trans hb1⟩
    rw [show endIt b b.ins.length ⟨ro, ra, rb, ri, q0, q1, q2, q3, q4, q5, q6, q7⟩ at1 nx = stubIt (b.ins.length : Int) b.nx nx by simp [endIt, he]]
    exact h1
  · rw [he] at p6
    by_cases c72 : ro = 72
    · subst c72
      go_wp2_with fail
      refine wp_region_held_drew (S := fun _ => True) (by kernel_rfl) trivial (fun hHeld => ?_)
      refine wpAnyH_take (i := 0) (oi := { dst := some 50, op := Op.move (Operand.tmp 0), type := _, pos := "translate.go:99", after := #[], guard := none }) (v := .pointer (some ⟨wk, 0, none⟩)) rfl (by kernel_rfl) (by kernel_rfl) (by kernel_rfl) (fun _ _ _ h => h) (Or.inl ⟨by rfl, ?_⟩) hHeld ?_
      · intro w' hSw
        skip
        go_simp
      try simp only [Act.put, List.setIfInBounds_toArray, List.set_cons_zero, List.set_cons_succ]
      refine wpAnyH_take (i := 1) (oi := { dst := some 51, op := Op.nilCheck (Operand.tmp 50), type := _, pos := "translate.go:99", after := #[{ on := 0, ground := Ground.data }], guard := none }) (v := .pointer (some ⟨wk, 0, none⟩)) rfl (by kernel_rfl) (by kernel_rfl) (by kernel_rfl) (fun _ _ _ h => h) (Or.inl ⟨by rfl, ?_⟩) hHeld ?_
      · intro w' hSw
        skip
        go_simp
      try simp only [Act.put, List.setIfInBounds_toArray, List.set_cons_zero, List.set_cons_succ]
      refine wpAnyH_take (i := 2) (oi := { dst := some 52, op := Op.fieldAddr _ (Operand.tmp 51) 0, type := _, pos := "translate.go:99", after := #[{ on := 1, ground := Ground.data }], guard := none }) (v := .pointer (some ⟨wk, 0, none⟩)) rfl (by kernel_rfl) (by kernel_rfl) (by kernel_rfl) (fun _ _ _ h => h) (Or.inl ⟨by rfl, ?_⟩) hHeld ?_
      · intro w' hSw
        skip
        go_simp
      try simp only [Act.put, List.setIfInBounds_toArray, List.set_cons_zero, List.set_cons_succ]
      refine wpAnyH_take (i := 3) (oi := { dst := some 53, op := Op.move (Operand.tmp 0), type := _, pos := "translate.go:99", after := #[], guard := none }) (v := .pointer (some ⟨wk, 0, none⟩)) rfl (by kernel_rfl) (by kernel_rfl) (by kernel_rfl) (fun _ _ _ h => h) (Or.inl ⟨by rfl, ?_⟩) hHeld ?_
      · intro w' hSw
        skip
        go_simp
      try simp only [Act.put, List.setIfInBounds_toArray, List.set_cons_zero, List.set_cons_succ]
      refine wpAnyH_take (i := 4) (oi := { dst := some 54, op := Op.nilCheck (Operand.tmp 53), type := _, pos := "translate.go:99", after := #[{ on := 3, ground := Ground.data }], guard := none }) (v := .pointer (some ⟨wk, 0, none⟩)) rfl (by kernel_rfl) (by kernel_rfl) (by kernel_rfl) (fun _ _ _ h => h) (Or.inl ⟨by rfl, ?_⟩) hHeld ?_
      · intro w' hSw
        skip
        go_simp
      try simp only [Act.put, List.setIfInBounds_toArray, List.set_cons_zero, List.set_cons_succ]
      refine wpAnyH_take (i := 5) (oi := { dst := some 55, op := Op.fieldAddr _ (Operand.tmp 54) 1, type := _, pos := "translate.go:99", after := #[{ on := 4, ground := Ground.data }], guard := none }) (v := .pointer (some ⟨wk, 2, none⟩)) rfl (by kernel_rfl) (by kernel_rfl) (by kernel_rfl) (fun _ _ _ h => h) (Or.inl ⟨by rfl, ?_⟩) hHeld ?_
      · intro w' hSw
        skip
        go_simp
      try simp only [Act.put, List.setIfInBounds_toArray, List.set_cons_zero, List.set_cons_succ]
      refine wpAnyH_take (i := 6) (oi := { dst := some 56, op := Op.fieldAddr _ (Operand.tmp 55) 2, type := _, pos := "translate.go:99", after := #[{ on := 5, ground := Ground.data }], guard := none }) (v := .pointer (some ⟨wk, 4, none⟩)) rfl (by kernel_rfl) (by kernel_rfl) (by kernel_rfl) (fun _ _ _ h => h) (Or.inl ⟨by rfl, ?_⟩) hHeld ?_
      · intro w' hSw
        skip
        go_simp
      try simp only [Act.put, List.setIfInBounds_toArray, List.set_cons_zero, List.set_cons_succ]
      refine wpAnyH_take (i := 10) (oi := { dst := some 60, op := Op.move (Operand.tmp 4), type := _, pos := "translate.go:99", after := #[], guard := none }) (v := .int .u32 at1) rfl (by kernel_rfl) (by kernel_rfl) (by kernel_rfl) (fun _ _ _ h => h) (Or.inl ⟨by rfl, ?_⟩) hHeld ?_
      · intro w' hSw
        skip
        go_simp
      try simp only [Act.put, List.setIfInBounds_toArray, List.set_cons_zero, List.set_cons_succ]
      refine wpAnyH_take (i := 11) (oi := { dst := some 61, op := Op.move (Operand.tmp 2), type := _, pos := "translate.go:99", after := #[], guard := none }) (v := .int .i64 ((k : Int) + 1)) rfl (by kernel_rfl) (by kernel_rfl) (by kernel_rfl) (fun _ _ _ h => h) (Or.inl ⟨by rfl, ?_⟩) hHeld ?_
      · intro w' hSw
        skip
        go_simp
      try simp only [Act.put, List.setIfInBounds_toArray, List.set_cons_zero, List.set_cons_succ]
      refine wpAnyH_take (i := 12) (oi := { dst := some 62, op := Op.binOp BinOp.sub _ (Operand.tmp 61) (Operand.const (Value.int IntKind.i64 1)) _, type := _, pos := "translate.go:99", after := #[{ on := 11, ground := Ground.data }], guard := none }) (v := .int .i64 (k : Int)) rfl (by kernel_rfl) (by kernel_rfl) (by kernel_rfl) (fun _ _ _ h => h) (Or.inl ⟨by rfl, ?_⟩) hHeld ?_
      · intro w' hSw
        skip
        go_simp
      try simp only [Act.put, List.setIfInBounds_toArray, List.set_cons_zero, List.set_cons_succ]
      refine wpAnyH_ready (rs := [7]) (by kernel_rfl) (by simp) ?_
      refine AllReadyH.cons (o := { dst := some 57, op := Op.load _ (Operand.tmp 56), type := _, pos := "translate.go:99", after := #[{ on := 6, ground := Ground.data }], guard := none }) rfl (fun K hK => ?_) AllReadyH.nil
      go_simp
      refine hK.out _ _ trivial (fun _ => ?_)
      clear hK K
      try simp only [Act.put, List.setIfInBounds_toArray, List.set_cons_zero, List.set_cons_succ]
      refine wpAnyH_take (i := 8) (oi := { dst := some 58, op := Op.convert _ _ (Operand.tmp 57), type := _, pos := "translate.go:99", after := #[{ on := 7, ground := Ground.data }], guard := none }) (v := .int .i32 (asI32 b.nx)) rfl (by kernel_rfl) (by kernel_rfl) (by kernel_rfl) (fun _ _ _ h => h) (Or.inl ⟨by rfl, ?_⟩) hHeld ?_
      · intro w' hSw
        skip
        go_simp
      try simp only [Act.put, List.setIfInBounds_toArray, List.set_cons_zero, List.set_cons_succ]
      refine wpAnyH_take (i := 9) (oi := { dst := some 59, op := Op.build _ #[(0, Operand.const (Value.int IntKind.u8 32)), (1, Operand.const (Value.int IntKind.u8 6)), (3, Operand.tmp 58)], type := _, pos := "translate.go:99", after := #[{ on := 8, ground := Ground.data }], guard := none }) (v := .agg #[.int .u8 32, .int .u8 6, .int .u8 0, .int .i32 (asI32 b.nx)]) rfl (by kernel_rfl) (by kernel_rfl) (by kernel_rfl) (fun _ _ _ h => h) (Or.inl ⟨by rfl, ?_⟩) hHeld ?_
      · intro w' hSw
        skip
        go_simp
      try simp only [Act.put, List.setIfInBounds_toArray, List.set_cons_zero, List.set_cons_succ]
      refine wpAnyH_ready (rs := [13]) (by kernel_rfl) (by simp) ?_
      refine AllReadyH.cons (o := { dst := some 63, op := Op.call { callee := Callee.value (Operand.func _), args := #[Operand.tmp 52, Operand.tmp 59, Operand.tmp 60, Operand.tmp 62], argTypes := _ }, type := _, pos := "translate.go:99", after := #[{ on := 2, ground := Ground.data }, { on := 9, ground := Ground.data }, { on := 10, ground := Ground.data }, { on := 12, ground := Ground.data }], guard := none }) rfl (fun K hK => ?_) AllReadyH.nil
      go_simp
      go_at_call 26
      refine (lay_is base wk b its nx 32 6 0 (asI32 b.nx) at1 (k : Int) _ (by decide) (by decide) (by decide) (by decide) (by decide) (by decide) hnb.1 hnb.2 (by simp [Isa.mayB, Isa.fm, Isa.fitsB]) HId.out s0 (by omega)).mono ?_
      rintro e w1 ⟨rfl, h1, hb1⟩
      refine hK.out _ _ trivial (fun _ => ?_)
      clear hK K
      try simp only [Act.put, List.setIfInBounds_toArray, List.set_cons_zero, List.set_cons_succ]
      refine wpAnyH_done (by kernel_rfl) ?_ _
      have p5 : w1.cell? ⟨wk, 5, none⟩ = some (.int .u32 b.to) := by obtain ⟨_, _, h⟩ := h1; exact h.cell 5
      have s1 : base ≤ w1.heap.size := Nat.le_trans s0 hb1.size
      have H1 := Lib.hid h1
      have HB1 := Lib.hid (HB0.out.drew.trans hb1)
      clear h1 hb1
      go_wp2_with fail
      refine (stubOn_is base wk b _ nx b.to _ H1.out s1 (by simp; omega) x0 (by omega) HB.out.1 HB.out.2).mono ?_
      rintro e w2 ⟨rfl, h2, hb2⟩
      go_wp2_with fail
      go_end0
      refine ⟨rfl, ⟨nx + 1, ?_⟩, HB1.out.trans hb2⟩
      rw [show endIt b b.ins.length ⟨72, ra, rb, ri, q0, q1, q2, q3, q4, q5, q6, q7⟩ at1 nx = [⟨32, 6, 0, asI32 b.nx, at1, (k : Int), -1⟩] ++ stubIt (b.ins.length : Int) b.to nx by simp [endIt, he, HD.out], ← List.append_assoc]
      exact h2
    · have d72 : (ro == 72) = false := by simpa using c72
      have C72 := Lib.hid c72
      clear c72
      go_wp2_with fail
      refine (stubOn_is base wk b its nx b.to _ HI.out s0 (by omega) x0 (by omega) HB.out.1 HB.out.2).mono ?_
      rintro e w1 ⟨rfl, h1, hb1⟩
      go_wp2_with fail
      go_end0
      refine ⟨rfl, ⟨nx + 1, ?_⟩, HB0.out.trans hb1⟩
      rw [show endIt b b.ins.length ⟨ro, ra, rb, ri, q0, q1, q2, q3, q4, q5, q6, q7⟩ at1 nx = stubIt (b.ins.length : Int) b.to nx by simp [endIt, he, C72.out]]
      exact h1
  · rw [he] at p6
    obtain ⟨b0, b1, hbm⟩ := branch_may hj
    go_wp2_with fail
    refine wp_region_held_drew (S := fun _ => True) (by kernel_rfl) trivial (fun hHeld => ?_)
    refine wpAnyH_take (i := 0) (oi := { dst := some 75, op := Op.move (Operand.tmp 0), type := _, pos := "translate.go:103", after := #[], guard := none }) (v := .pointer (some ⟨wk, 0, none⟩)) rfl (by kernel_rfl) (by kernel_rfl) (by kernel_rfl) (fun _ _ _ h => h) (Or.inl ⟨by rfl, ?_⟩) hHeld ?_
    · intro w' hSw
      skip
      go_simp
    try simp only [Act.put, List.setIfInBounds_toArray, List.set_cons_zero, List.set_cons_succ]
    refine wpAnyH_take (i := 1) (oi := { dst := some 76, op := Op.nilCheck (Operand.tmp 75), type := _, pos := "translate.go:103", after := #[{ on := 0, ground := Ground.data }], guard := none }) (v := .pointer (some ⟨wk, 0, none⟩)) rfl (by kernel_rfl) (by kernel_rfl) (by kernel_rfl) (fun _ _ _ h => h) (Or.inl ⟨by rfl, ?_⟩) hHeld ?_
    · intro w' hSw
      skip
      go_simp
    try simp only [Act.put, List.setIfInBounds_toArray, List.set_cons_zero, List.set_cons_succ]
    refine wpAnyH_take (i := 2) (oi := { dst := some 77, op := Op.fieldAddr _ (Operand.tmp 76) 0, type := _, pos := "translate.go:103", after := #[{ on := 1, ground := Ground.data }], guard := none }) (v := .pointer (some ⟨wk, 0, none⟩)) rfl (by kernel_rfl) (by kernel_rfl) (by kernel_rfl) (fun _ _ _ h => h) (Or.inl ⟨by rfl, ?_⟩) hHeld ?_
    · intro w' hSw
      skip
      go_simp
    try simp only [Act.put, List.setIfInBounds_toArray, List.set_cons_zero, List.set_cons_succ]
    refine wpAnyH_take (i := 3) (oi := { dst := some 78, op := Op.fieldAddr _ (Operand.tmp 3) 0, type := _, pos := "translate.go:103", after := #[], guard := none }) (v := .pointer (some ⟨w.heap.size, 0, none⟩)) rfl (by kernel_rfl) (by kernel_rfl) (by kernel_rfl) (fun _ _ _ h => h) (Or.inl ⟨by rfl, ?_⟩) hHeld ?_
    · intro w' hSw
      skip
      go_simp
    try simp only [Act.put, List.setIfInBounds_toArray, List.set_cons_zero, List.set_cons_succ]
    refine wpAnyH_take (i := 6) (oi := { dst := some 81, op := Op.move (Operand.tmp 4), type := _, pos := "translate.go:103", after := #[], guard := none }) (v := .int .u32 at1) rfl (by kernel_rfl) (by kernel_rfl) (by kernel_rfl) (fun _ _ _ h => h) (Or.inl ⟨by rfl, ?_⟩) hHeld ?_
    · intro w' hSw
      skip
      go_simp
    try simp only [Act.put, List.setIfInBounds_toArray, List.set_cons_zero, List.set_cons_succ]
    refine wpAnyH_take (i := 7) (oi := { dst := some 82, op := Op.move (Operand.tmp 2), type := _, pos := "translate.go:103", after := #[], guard := none }) (v := .int .i64 ((k : Int) + 1)) rfl (by kernel_rfl) (by kernel_rfl) (by kernel_rfl) (fun _ _ _ h => h) (Or.inl ⟨by rfl, ?_⟩) hHeld ?_
    · intro w' hSw
      skip
      go_simp
    try simp only [Act.put, List.setIfInBounds_toArray, List.set_cons_zero, List.set_cons_succ]
    refine wpAnyH_take (i := 8) (oi := { dst := some 83, op := Op.binOp BinOp.sub _ (Operand.tmp 82) (Operand.const (Value.int IntKind.i64 1)) _, type := _, pos := "translate.go:103", after := #[{ on := 7, ground := Ground.data }], guard := none }) (v := .int .i64 (k : Int)) rfl (by kernel_rfl) (by kernel_rfl) (by kernel_rfl) (fun _ _ _ h => h) (Or.inl ⟨by rfl, ?_⟩) hHeld ?_
    · intro w' hSw
      skip
      go_simp
    try simp only [Act.put, List.setIfInBounds_toArray, List.set_cons_zero, List.set_cons_succ]
    refine wpAnyH_ready (rs := [4]) (by kernel_rfl) (by simp) ?_
    refine AllReadyH.cons (o := { dst := some 79, op := Op.load _ (Operand.tmp 78), type := _, pos := "translate.go:103", after := #[{ on := 3, ground := Ground.data }], guard := none }) rfl (fun K hK => ?_) AllReadyH.nil
    go_simp
    refine hK.out _ _ trivial (fun _ => ?_)
    clear hK K
    try simp only [Act.put, List.setIfInBounds_toArray, List.set_cons_zero, List.set_cons_succ]
    refine wpAnyH_take (i := 5) (oi := { dst := some 80, op := Op.build _ #[(0, Operand.tmp 79), (3, Operand.const (Value.int IntKind.i32 5))], type := _, pos := "translate.go:103", after := #[{ on := 4, ground := Ground.data }], guard := none }) (v := .agg #[.int .u8 ro, .int .u8 0, .int .u8 0, .int .i32 5]) rfl (by kernel_rfl) (by kernel_rfl) (by kernel_rfl) (fun _ _ _ h => h) (Or.inl ⟨by rfl, ?_⟩) hHeld ?_
    · intro w' hSw
      skip
      go_simp
    try simp only [Act.put, List.setIfInBounds_toArray, List.set_cons_zero, List.set_cons_succ]
    refine wpAnyH_ready (rs := [9]) (by kernel_rfl) (by simp) ?_
    refine AllReadyH.cons (o := { dst := some 84, op := Op.call { callee := Callee.value (Operand.func _), args := #[Operand.tmp 77, Operand.tmp 80, Operand.tmp 81, Operand.tmp 83], argTypes := _ }, type := _, pos := "translate.go:103", after := #[{ on := 2, ground := Ground.data }, { on := 5, ground := Ground.data }, { on := 6, ground := Ground.data }, { on := 8, ground := Ground.data }], guard := none }) rfl (fun K hK => ?_) AllReadyH.nil
    go_simp
    go_at_call 26
    refine (lay_is base wk b its nx ro 0 0 5 at1 (k : Int) _ (by omega) (by omega) (by decide) (by decide) (by decide) (by decide) (by decide) (by decide) hbm HId.out s0 (by omega)).mono ?_
    rintro e w1 ⟨rfl, h1, hb1⟩
    refine hK.out _ _ trivial (fun _ => ?_)
    clear hK K
    try simp only [Act.put, List.setIfInBounds_toArray, List.set_cons_zero, List.set_cons_succ]
    refine wpAnyH_done (by kernel_rfl) ?_ _
    have p4' : w1.cell? ⟨wk, 4, none⟩ = some (.int .u32 b.nx) := by obtain ⟨_, _, h⟩ := h1; exact h.cell 4
    have s1 : base ≤ w1.heap.size := Nat.le_trans s0 hb1.size
    have H1 := Lib.hid h1
    have HB1 := Lib.hid (HB0.out.drew.trans hb1)
    clear h1 hb1
    go_wp2_with fail
    refine (stubOn_is base wk b _ nx b.nx _ H1.out s1 (by simp; omega) x0 (by omega) HB.out.1 HB.out.2).mono ?_
    rintro e w2 ⟨rfl, h2, hb2⟩
    have p5' : w2.cell? ⟨wk, 5, none⟩ = some (.int .u32 b.to) := by obtain ⟨_, _, h⟩ := h2; exact h.cell 5
    have s2 : base ≤ w2.heap.size := Nat.le_trans s1 hb2.size
    have H2 := Lib.hid h2
    have HB2 := Lib.hid (HB1.out.trans hb2)
    clear h2 hb2
    go_wp2_with fail
    refine (stubOn_is base wk b _ (nx + 1) b.to _ H2.out s2 (by simp [stubIt]; omega) (by omega) (by omega) HB.out.1 HB.out.2).mono ?_
    rintro e w3 ⟨rfl, h3, hb3⟩
    go_wp2_with fail
    go_end0
    refine ⟨rfl, ⟨nx + 1 + 1, ?_⟩, HB2.out.trans hb3⟩
    rw [show endIt b b.ins.length ⟨ro, ra, rb, ri, q0, q1, q2, q3, q4, q5, q6, q7⟩ at1 nx = ([⟨ro, 0, 0, 5, at1, (k : Int), -1⟩] ++ stubIt (b.ins.length : Int) b.nx nx) ++ stubIt (b.ins.length : Int) b.to (nx + 1) by simp [endIt, he, HD.out], ← List.append_assoc, ← List.append_assoc]
    exact h3
  · rw [he] at p6
    go_wp2_with fail
    refine (stubAsk_is base wk b its nx at1 _ HI.out s0 (by omega) x0 (by omega) HB.out.1 HB.out.2).mono ?_
    rintro e w1 ⟨rfl, h1, hb1⟩
    go_wp2_with fail
    go_end0
    refine ⟨rfl, ⟨nx + 1, ?_⟩, HB0.out.trans hb1⟩
    rw [show endIt b b.ins.length ⟨ro, ra, rb, ri, q0, q1, q2, q3, q4, q5, q6, q7⟩ at1 nx = stubIt ((b.ins.length : Int) - 1) at1 nx by simp [endIt, he]]
    exact h1
end Go.Proofs.Ytnmgfckefofcpaa
