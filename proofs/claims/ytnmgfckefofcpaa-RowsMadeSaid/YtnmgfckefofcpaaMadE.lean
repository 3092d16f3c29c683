/- The walk of (*work).stub. (Written by mkME.py.) -/
import Derived.Test.YtnmgfckefofcpaaMadD
namespace Go.Proofs.Ytnmgfckefofcpaa
open Go.RowKit
set_option linter.unusedSimpArgs false
set_option linter.unusedVariables false
set_option maxRecDepth 100000

theorem own_rowsM {base wk b L R nx vB vR w} {w' : World} (h : WkFix base wk b L R nx vB vR w) (hg : w.grownBy w' vR.ownBlock) (x : Value) {bb n : Nat} {v : Value} {xs : List Value} (ho : w.ownsRow bb 5 1 v n xs) : (w'.setCell ⟨wk, 1, none⟩ x).ownsRow bb 5 1 v n xs := by
  have h1 : w'.heap[wk]? = some (.cells (WkCells b vB vR nx) 62) := (blk_grown h.rs (by decide) h.h hg).trans h.h
  have h2 : w'.ownsRow bb 5 1 v n xs := own_keep ho (fun g cur hc => blk_grown h.rs (by decide) hc hg)
  refine own_keep h2 (fun g cur hc => Below.heap_setCell _ _ _ _ (fun hgk => ?_))
  have h3 : w'.heap[g]? = some (Obj.cells cur 5 (0, 0)) := hc
  rw [show g = wk from hgk, h1] at h3
  simp at h3

def stubRows (l : Nat) (to m x : Int) : List RowR := [⟨(l : Int), to, m, -1⟩, ⟨(l : Int) + 2, to, 0, x⟩]

set_option maxHeartbeats 8000000 in
theorem stubOn_c (base wk : Nat) (b : BlkR) (L : List Int) (R : List RowR) (nx to : Int) (w : World) (hw : WkAt base wk b L R nx w) (hbs : base ≤ w.heap.size) (hL : L.length ≤ 1000) (hR : R.length ≤ 1000) (x0 : 0 ≤ nx) (x1 : nx < 65536) (n0 : 1 ≤ b.ins.length) (n1 : b.ins.length ≤ 32) :
    Calls Try.prog 40 #[.pointer (some ⟨wk, 0, none⟩), .iface 88 (.agg #[.int .u32 to])] w fun e w' => e = .returned (.tuple #[]) ∧ WkAt base wk b (L ++ encAll (stubIt (b.ins.length : Int) 0 nx)) (R ++ stubRows L.length to (b.ins.length : Int) nx) (nx + 1) w' ∧ Below base w w' := by
  obtain ⟨i0, hi, hz0, hz1, hz2⟩ := info_parts Isa.Try.infoB
  obtain ⟨r0, hr, hy0, hy1, hy2⟩ := info_parts Try.infoR
  have hta : ∀ (c : Int) (w : World), (Instr.typeAssert (.iface 88 (.agg #[.int .u32 c])) 110 88 true).run Try.prog w = .ok (.tuple #[.agg #[.int .u32 c], .bool true]) w := fun _ _ => by kernel_rfl
  have htb : ∀ (c : Int) (w : World), (Instr.typeAssert (.iface 90 (.agg #[.int .u32 c])) 110 88 true).run Try.prog w = .ok (.tuple #[.agg #[.int .u32 0], .bool false]) w := fun _ _ => by kernel_rfl
  have htc : ∀ (c : Int) (w : World), (Instr.typeAssert (.iface 90 (.agg #[.int .u32 c])) 110 90 true).run Try.prog w = .ok (.tuple #[.agg #[.int .u32 c], .bool true]) w := fun _ _ => by kernel_rfl
  obtain ⟨m, hm⟩ : ∃ m : Int, m = (b.ins.length : Int) := ⟨_, rfl⟩
  rw [← hm]
  have hS := fun w => stub_c m nx w (by omega) (by omega) x0 x1
  have hel : (encAll (stubIt m 0 nx)).length = 5 := by simp [encAll, stubIt, It.enc, Isa.fm, Isa.encL]
  generalize encAll (stubIt m 0 nx) = E at hS hel ⊢
  have HS := Lib.hid hS
  have HE := Lib.hid hel
  have HM := Lib.hid hm
  obtain ⟨vB, vR, hF⟩ := hw
  obtain ⟨aB, cB, rfl⟩ := own_slice hF.bs
  obtain ⟨aR, cR, rfl⟩ := own_slice hF.rs
  have hlt := hF.lt
  have hwb := hF.le
  have j2 : w.cell? ⟨wk, 2, none⟩ = some (.slice b.ai b.ins.length b.ci) := hF.cell 2
  have p1 : (0:Int) ≤ (b.ins.length : Int) - 1 := by omega
  have p2 : (b.ins.length : Int) - 1 ≤ 9223372036854775807 := by omega
  clear hS hel hm
  go_enter Try.func40, Try.ntmps40
  go_wp2_with fail
  refine (on_c to _).mono ?_
  rintro e w1 ⟨rfl, hb1⟩
  have hF1 := (hF.alloc _).below hb1
  have hB1 : Below base w w1 := ((Below.refl base w).alloc hbs _).trans (hb1.mono (by simp; omega))
  have hs1 : w.heap.size < w1.heap.size := by have := hb1.size; simp at this; omega
  have k9 : w1.cell? ⟨wk, 9, none⟩ = some (.int .i64 nx) := hF1.cell 9
  have HF1 := Lib.hid hF1
  clear hF hb1 hF1 j2
  go_wp2_with fail
  rw [← HM.out]
  refine (HS.out _).mono ?_
  rintro e w2 ⟨vS, rfl, hownS, hb2⟩
  have hF2 := HF1.out.below hb2
  have hB2 : Below base w w2 := hB1.trans (hb2.mono (by omega))
  have hs2 : w.heap.size < w2.heap.size := by have := hb2.size; omega
  obtain ⟨aS, cS, rfl⟩ := own_slice hownS
  have k2 : w2.cell? ⟨wk, 0, none⟩ = some (.slice aB L.length cB) := hF2.cell 0
  have HF2 := Lib.hid hF2
  have HB2 := Lib.hid hB2
  have HOS := Lib.hid hownS
  clear hF2 hB2 hownS hb2 HF1 hB1 k9 hs1
  go_wp2_with fail
  have k0 : w2.drew.cell? ⟨wk, 0, none⟩ = some (.slice aB L.length cB) := HF2.out.cell 0
  have k1 : w2.drew.cell? ⟨wk, 1, none⟩ = some (.slice aR R.length cR) := HF2.out.cell 1
  have k9 : w2.drew.cell? ⟨wk, 9, none⟩ = some (.int .i64 nx) := HF2.out.cell 9
  have k1' : w2.cell? ⟨wk, 1, none⟩ = some (.slice aR R.length cR) := HF2.out.cell 1
  have k9' : w2.cell? ⟨wk, 9, none⟩ = some (.int .i64 nx) := HF2.out.cell 9
  have hlt0 : wk < w2.heap.size := HF2.out.lt
  have hwr : IntKind.i64.wrap ((L.length : Int) + 2) = (L.length : Int) + 2 := IntWalk.i64_in _ ⟨by omega, by omega⟩
  have HR0 := Lib.hid (HF2.out.drew.alloc (.cells #[.int .i64 (L.length : Int), .int .u32 to, .int .i64 m, .int .i64 (-1), .int .i64 ((L.length : Int) + 2), .int .u32 to, .int .i64 0, .int .i64 nx] 27))
  refine wp_region_held_drew (S := fun _ => True) (by kernel_rfl) trivial (fun hHeld => ?_)
  refine wpAnyH_take (i := 0) (oi := { dst := some 46, op := Op.move (Operand.tmp 0), type := _, pos := "translate.go:85", after := #[], guard := none }) (v := .pointer (some ⟨wk, 0, none⟩)) rfl (by kernel_rfl) (by kernel_rfl) (by kernel_rfl) (fun _ _ _ h => h) (Or.inl ⟨by rfl, ?_⟩) hHeld ?_
  · intro w' hSw
    skip
    go_simp
  try simp only [Act.put, List.setIfInBounds_toArray, List.set_cons_zero, List.set_cons_succ]
  refine wpAnyH_take (i := 1) (oi := { dst := some 47, op := Op.move (Operand.tmp 0), type := _, pos := "translate.go:85", after := #[], guard := none }) (v := .pointer (some ⟨wk, 0, none⟩)) rfl (by kernel_rfl) (by kernel_rfl) (by kernel_rfl) (fun _ _ _ h => h) (Or.inl ⟨by rfl, ?_⟩) hHeld ?_
  · intro w' hSw
    skip
    go_simp
  try simp only [Act.put, List.setIfInBounds_toArray, List.set_cons_zero, List.set_cons_succ]
  refine wpAnyH_take (i := 2) (oi := { dst := some 48, op := Op.nilCheck (Operand.tmp 47), type := _, pos := "translate.go:85", after := #[{ on := 1, ground := Ground.data }], guard := none }) (v := .pointer (some ⟨wk, 0, none⟩)) rfl (by kernel_rfl) (by kernel_rfl) (by kernel_rfl) (fun _ _ _ h => h) (Or.inl ⟨by rfl, ?_⟩) hHeld ?_
  · intro w' hSw
    skip
    go_simp
  try simp only [Act.put, List.setIfInBounds_toArray, List.set_cons_zero, List.set_cons_succ]
  refine wpAnyH_take (i := 3) (oi := { dst := some 49, op := Op.fieldAddr _ (Operand.tmp 48) 0, type := _, pos := "translate.go:85", after := #[{ on := 2, ground := Ground.data }], guard := none }) (v := .pointer (some ⟨wk, 0, none⟩)) rfl (by kernel_rfl) (by kernel_rfl) (by kernel_rfl) (fun _ _ _ h => h) (Or.inl ⟨by rfl, ?_⟩) hHeld ?_
  · intro w' hSw
    skip
    go_simp
  try simp only [Act.put, List.setIfInBounds_toArray, List.set_cons_zero, List.set_cons_succ]
  refine wpAnyH_take (i := 4) (oi := { dst := some 50, op := Op.fieldAddr _ (Operand.tmp 49) 0, type := _, pos := "translate.go:85", after := #[{ on := 3, ground := Ground.data }], guard := none }) (v := .pointer (some ⟨wk, 0, none⟩)) rfl (by kernel_rfl) (by kernel_rfl) (by kernel_rfl) (fun _ _ _ h => h) (Or.inl ⟨by rfl, ?_⟩) hHeld ?_
  · intro w' hSw
    skip
    go_simp
  try simp only [Act.put, List.setIfInBounds_toArray, List.set_cons_zero, List.set_cons_succ]
  refine wpAnyH_take (i := 5) (oi := { dst := some 51, op := Op.fieldAddr _ (Operand.tmp 50) 1, type := _, pos := "translate.go:85", after := #[{ on := 4, ground := Ground.data }], guard := none }) (v := .pointer (some ⟨wk, 1, none⟩)) rfl (by kernel_rfl) (by kernel_rfl) (by kernel_rfl) (fun _ _ _ h => h) (Or.inl ⟨by rfl, ?_⟩) hHeld ?_
  · intro w' hSw
    skip
    go_simp
  try simp only [Act.put, List.setIfInBounds_toArray, List.set_cons_zero, List.set_cons_succ]
  refine wpAnyH_take (i := 7) (oi := { dst := some 53, op := Op.move (Operand.tmp 10), type := _, pos := "translate.go:85", after := #[], guard := none }) (v := .int .i64 (L.length : Int)) rfl (by kernel_rfl) (by kernel_rfl) (by kernel_rfl) (fun _ _ _ h => h) (Or.inl ⟨by rfl, ?_⟩) hHeld ?_
  · intro w' hSw
    skip
    go_simp
  try simp only [Act.put, List.setIfInBounds_toArray, List.set_cons_zero, List.set_cons_succ]
  refine wpAnyH_take (i := 8) (oi := { dst := some 54, op := Op.move (Operand.tmp 5), type := _, pos := "translate.go:85", after := #[], guard := none }) (v := .int .u32 to) rfl (by kernel_rfl) (by kernel_rfl) (by kernel_rfl) (fun _ _ _ h => h) (Or.inl ⟨by rfl, ?_⟩) hHeld ?_
  · intro w' hSw
    skip
    go_simp
  try simp only [Act.put, List.setIfInBounds_toArray, List.set_cons_zero, List.set_cons_succ]
  refine wpAnyH_take (i := 9) (oi := { dst := some 55, op := Op.move (Operand.tmp 4), type := _, pos := "translate.go:85", after := #[], guard := none }) (v := .int .i64 m) rfl (by kernel_rfl) (by kernel_rfl) (by kernel_rfl) (fun _ _ _ h => h) (Or.inl ⟨by rfl, ?_⟩) hHeld ?_
  · intro w' hSw
    skip
    go_simp
  try simp only [Act.put, List.setIfInBounds_toArray, List.set_cons_zero, List.set_cons_succ]
  refine wpAnyH_take (i := 10) (oi := { dst := some 56, op := Op.build _ #[(0, Operand.tmp 53), (1, Operand.tmp 54), (2, Operand.tmp 55), (3, Operand.const (Value.int IntKind.i64 (-1)))], type := _, pos := "translate.go:85", after := #[{ on := 7, ground := Ground.data }, { on := 8, ground := Ground.data }, { on := 9, ground := Ground.data }], guard := none }) (v := .agg #[.int .i64 (L.length : Int), .int .u32 to, .int .i64 m, .int .i64 (-1)]) rfl (by kernel_rfl) (by kernel_rfl) (by kernel_rfl) (fun _ _ _ h => h) (Or.inl ⟨by rfl, ?_⟩) hHeld ?_
  · intro w' hSw
    skip
    go_simp
  try simp only [Act.put, List.setIfInBounds_toArray, List.set_cons_zero, List.set_cons_succ]
  refine wpAnyH_take (i := 11) (oi := { dst := some 57, op := Op.move (Operand.tmp 10), type := _, pos := "translate.go:85", after := #[], guard := none }) (v := .int .i64 (L.length : Int)) rfl (by kernel_rfl) (by kernel_rfl) (by kernel_rfl) (fun _ _ _ h => h) (Or.inl ⟨by rfl, ?_⟩) hHeld ?_
  · intro w' hSw
    skip
    go_simp
  try simp only [Act.put, List.setIfInBounds_toArray, List.set_cons_zero, List.set_cons_succ]
  refine wpAnyH_take (i := 12) (oi := { dst := some 58, op := Op.binOp BinOp.add _ (Operand.tmp 57) (Operand.const (Value.int IntKind.i64 2)) _, type := _, pos := "translate.go:85", after := #[{ on := 11, ground := Ground.data }], guard := none }) (v := .int .i64 ((L.length : Int) + 2)) rfl (by kernel_rfl) (by kernel_rfl) (by kernel_rfl) (fun _ _ _ h => h) (Or.inl ⟨by rfl, ?_⟩) hHeld ?_
  · intro w' hSw
    skip
    go_simp
  try simp only [Act.put, List.setIfInBounds_toArray, List.set_cons_zero, List.set_cons_succ]
  refine wpAnyH_take (i := 13) (oi := { dst := some 59, op := Op.move (Operand.tmp 5), type := _, pos := "translate.go:85", after := #[], guard := none }) (v := .int .u32 to) rfl (by kernel_rfl) (by kernel_rfl) (by kernel_rfl) (fun _ _ _ h => h) (Or.inl ⟨by rfl, ?_⟩) hHeld ?_
  · intro w' hSw
    skip
    go_simp
  try simp only [Act.put, List.setIfInBounds_toArray, List.set_cons_zero, List.set_cons_succ]
  refine wpAnyH_take (i := 14) (oi := { dst := some 60, op := Op.move (Operand.tmp 0), type := _, pos := "translate.go:85", after := #[], guard := none }) (v := .pointer (some ⟨wk, 0, none⟩)) rfl (by kernel_rfl) (by kernel_rfl) (by kernel_rfl) (fun _ _ _ h => h) (Or.inl ⟨by rfl, ?_⟩) hHeld ?_
  · intro w' hSw
    skip
    go_simp
  try simp only [Act.put, List.setIfInBounds_toArray, List.set_cons_zero, List.set_cons_succ]
  refine wpAnyH_take (i := 15) (oi := { dst := some 61, op := Op.nilCheck (Operand.tmp 60), type := _, pos := "translate.go:85", after := #[{ on := 14, ground := Ground.data }], guard := none }) (v := .pointer (some ⟨wk, 0, none⟩)) rfl (by kernel_rfl) (by kernel_rfl) (by kernel_rfl) (fun _ _ _ h => h) (Or.inl ⟨by rfl, ?_⟩) hHeld ?_
  · intro w' hSw
    skip
    go_simp
  try simp only [Act.put, List.setIfInBounds_toArray, List.set_cons_zero, List.set_cons_succ]
  refine wpAnyH_take (i := 16) (oi := { dst := some 62, op := Op.fieldAddr _ (Operand.tmp 61) 2, type := _, pos := "translate.go:85", after := #[{ on := 15, ground := Ground.data }], guard := none }) (v := .pointer (some ⟨wk, 9, none⟩)) rfl (by kernel_rfl) (by kernel_rfl) (by kernel_rfl) (fun _ _ _ h => h) (Or.inl ⟨by rfl, ?_⟩) hHeld ?_
  · intro w' hSw
    skip
    go_simp
  try simp only [Act.put, List.setIfInBounds_toArray, List.set_cons_zero, List.set_cons_succ]
  refine wpAnyH_ready (rs := [6, 17]) (by kernel_rfl) (by simp) ?_
  refine (AllReadyH.cons (o := { dst := some 52, op := Op.load _ (Operand.tmp 51), type := _, pos := "translate.go:85", after := #[{ on := 5, ground := Ground.data }], guard := none }) rfl (fun K hK => ?_) (AllReadyH.cons (o := { dst := some 63, op := Op.load _ (Operand.tmp 62), type := _, pos := "translate.go:85", after := #[{ on := 16, ground := Ground.data }], guard := none }) rfl (fun K hK => ?_) AllReadyH.nil))
  · go_simp
    refine hK.out _ _ trivial (fun _ => ?_)
    clear hK K
    try simp only [Act.put, List.setIfInBounds_toArray, List.set_cons_zero, List.set_cons_succ]
    refine wpAnyH_ready (rs := [17]) (by kernel_rfl) (by simp) ?_
    refine (AllReadyH.cons (o := { dst := some 63, op := Op.load _ (Operand.tmp 62), type := _, pos := "translate.go:85", after := #[{ on := 16, ground := Ground.data }], guard := none }) rfl (fun K hK => ?_) AllReadyH.nil)
    · go_simp
      refine hK.out _ _ trivial (fun _ => ?_)
      clear hK K
      try simp only [Act.put, List.setIfInBounds_toArray, List.set_cons_zero, List.set_cons_succ]
      refine wpAnyH_take (i := 18) (oi := { dst := some 64, op := Op.build _ #[(0, Operand.tmp 58), (1, Operand.tmp 59), (3, Operand.tmp 63)], type := _, pos := "translate.go:85", after := #[{ on := 12, ground := Ground.data }, { on := 13, ground := Ground.data }, { on := 17, ground := Ground.data }], guard := none }) (v := .agg #[.int .i64 ((L.length : Int) + 2), .int .u32 to, .int .i64 0, .int .i64 nx]) rfl (by kernel_rfl) (by kernel_rfl) (by kernel_rfl) (fun _ _ _ h => h) (Or.inl ⟨by rfl, ?_⟩) hHeld ?_
      · intro w' hSw
        skip
        go_simp
      try simp only [Act.put, List.setIfInBounds_toArray, List.set_cons_zero, List.set_cons_succ]
      refine wpAnyH_ready (rs := [19]) (by kernel_rfl) (by simp) ?_
      refine (AllReadyH.cons (o := { dst := some 65, op := Op.buildSlice 22 2 #[(0, Operand.tmp 56), (1, Operand.tmp 64)], type := _, pos := "translate.go:85", after := #[{ on := 10, ground := Ground.data }, { on := 18, ground := Ground.data }], guard := none }) rfl (fun K hK => ?_) AllReadyH.nil)
      · go_simp
        refine hK.out _ _ trivial (fun _ => ?_)
        clear hK K
        try simp only [Act.put, List.setIfInBounds_toArray, List.set_cons_zero, List.set_cons_succ]
        refine wpAnyH_ready (rs := [20]) (by kernel_rfl) (by simp) ?_
        refine (AllReadyH.cons (o := { dst := some 66, op := Op.call { callee := Callee.builtin Builtin.append, args := #[Operand.tmp 52, Operand.tmp 65], argTypes := _ }, type := _, pos := "translate.go:85", after := #[{ on := 6, ground := Ground.data }, { on := 19, ground := Ground.data }], guard := none }) rfl (fun K hK => ?_) AllReadyH.nil)
        · refine (if_pos (by rfl)).mpr ?_
          refine wp_append_own _ _ _ 22 rfl base 27 r0 _ 4 32 Try.underlying22 hr hy0 hy1 hy2 rfl (by decide) _ _ _ rfl HR0.out.rs ⟨w2.heap.size, 0, none⟩ 2 2 (RowR.cells ⟨(L.length : Int), to, m, -1⟩ ++ RowR.cells ⟨(L.length : Int) + 2, to, 0, nx⟩) rfl rfl (cells_new _ _ _ _ rfl) (by simp [RowR.cells, Value.oneCell']) (by unfold maxLen; omega) (by omega) (by simp; omega) ?_
          intro v4 w4 hown4 hgrow4 _
          obtain ⟨a4, q4, rfl⟩ := own_slice hown4
          refine hK.out _ _ trivial (fun _ => ?_)
          clear hK K
          have h4 := blk_grown HR0.out.rs (by decide) HR0.out.h hgrow4
          have c4 : w4.cell? ⟨wk, 1, none⟩ = some (.slice aR R.length cR) := (World.cell?_of_block h4).trans (HR0.out.cell 1)
          have f4 : w4.frozen? ⟨wk, 1, none⟩ = false := (World.frozen?_of_block h4).trans (HR0.out.frozen 1)
          have HG4 := Lib.hid hgrow4
          have HO4 := Lib.hid hown4
          clear h4 hown4 hgrow4
          try simp only [Act.put, List.setIfInBounds_toArray, List.set_cons_zero, List.set_cons_succ]
          refine wpAnyH_take (i := 21) (oi := { dst := some 67, op := Op.nilCheck (Operand.tmp 46), type := _, pos := "translate.go:85", after := #[{ on := 0, ground := Ground.data }, { on := 0, ground := Ground.phase }, { on := 1, ground := Ground.phase }, { on := 2, ground := Ground.phase }, { on := 3, ground := Ground.phase }, { on := 4, ground := Ground.phase }, { on := 5, ground := Ground.phase }, { on := 6, ground := Ground.phase }, { on := 7, ground := Ground.phase }, { on := 8, ground := Ground.phase }, { on := 9, ground := Ground.phase }, { on := 10, ground := Ground.phase }, { on := 11, ground := Ground.phase }, { on := 12, ground := Ground.phase }, { on := 13, ground := Ground.phase }, { on := 14, ground := Ground.phase }, { on := 15, ground := Ground.phase }, { on := 16, ground := Ground.phase }, { on := 17, ground := Ground.phase }, { on := 18, ground := Ground.phase }, { on := 19, ground := Ground.phase }, { on := 20, ground := Ground.phase }], guard := none }) (v := .pointer (some ⟨wk, 0, none⟩)) rfl (by kernel_rfl) (by kernel_rfl) (by kernel_rfl) (fun _ _ _ h => h) (Or.inl ⟨by rfl, ?_⟩) hHeld ?_
          · intro w' hSw
            skip
            go_simp
          try simp only [Act.put, List.setIfInBounds_toArray, List.set_cons_zero, List.set_cons_succ]
          refine wpAnyH_take (i := 22) (oi := { dst := some 68, op := Op.fieldAddr _ (Operand.tmp 67) 0, type := _, pos := "translate.go:85", after := #[{ on := 21, ground := Ground.data }, { on := 0, ground := Ground.phase }, { on := 1, ground := Ground.phase }, { on := 2, ground := Ground.phase }, { on := 3, ground := Ground.phase }, { on := 4, ground := Ground.phase }, { on := 5, ground := Ground.phase }, { on := 6, ground := Ground.phase }, { on := 7, ground := Ground.phase }, { on := 8, ground := Ground.phase }, { on := 9, ground := Ground.phase }, { on := 10, ground := Ground.phase }, { on := 11, ground := Ground.phase }, { on := 12, ground := Ground.phase }, { on := 13, ground := Ground.phase }, { on := 14, ground := Ground.phase }, { on := 15, ground := Ground.phase }, { on := 16, ground := Ground.phase }, { on := 17, ground := Ground.phase }, { on := 18, ground := Ground.phase }, { on := 19, ground := Ground.phase }, { on := 20, ground := Ground.phase }], guard := none }) (v := .pointer (some ⟨wk, 0, none⟩)) rfl (by kernel_rfl) (by kernel_rfl) (by kernel_rfl) (fun _ _ _ h => h) (Or.inl ⟨by rfl, ?_⟩) hHeld ?_
          · intro w' hSw
            skip
            go_simp
          try simp only [Act.put, List.setIfInBounds_toArray, List.set_cons_zero, List.set_cons_succ]
          refine wpAnyH_take (i := 23) (oi := { dst := some 69, op := Op.fieldAddr _ (Operand.tmp 68) 0, type := _, pos := "translate.go:85", after := #[{ on := 22, ground := Ground.data }, { on := 0, ground := Ground.phase }, { on := 1, ground := Ground.phase }, { on := 2, ground := Ground.phase }, { on := 3, ground := Ground.phase }, { on := 4, ground := Ground.phase }, { on := 5, ground := Ground.phase }, { on := 6, ground := Ground.phase }, { on := 7, ground := Ground.phase }, { on := 8, ground := Ground.phase }, { on := 9, ground := Ground.phase }, { on := 10, ground := Ground.phase }, { on := 11, ground := Ground.phase }, { on := 12, ground := Ground.phase }, { on := 13, ground := Ground.phase }, { on := 14, ground := Ground.phase }, { on := 15, ground := Ground.phase }, { on := 16, ground := Ground.phase }, { on := 17, ground := Ground.phase }, { on := 18, ground := Ground.phase }, { on := 19, ground := Ground.phase }, { on := 20, ground := Ground.phase }], guard := none }) (v := .pointer (some ⟨wk, 0, none⟩)) rfl (by kernel_rfl) (by kernel_rfl) (by kernel_rfl) (fun _ _ _ h => h) (Or.inl ⟨by rfl, ?_⟩) hHeld ?_
          · intro w' hSw
            skip
            go_simp
          try simp only [Act.put, List.setIfInBounds_toArray, List.set_cons_zero, List.set_cons_succ]
          refine wpAnyH_take (i := 24) (oi := { dst := some 70, op := Op.fieldAddr _ (Operand.tmp 69) 1, type := _, pos := "translate.go:85", after := #[{ on := 23, ground := Ground.data }, { on := 0, ground := Ground.phase }, { on := 1, ground := Ground.phase }, { on := 2, ground := Ground.phase }, { on := 3, ground := Ground.phase }, { on := 4, ground := Ground.phase }, { on := 5, ground := Ground.phase }, { on := 6, ground := Ground.phase }, { on := 7, ground := Ground.phase }, { on := 8, ground := Ground.phase }, { on := 9, ground := Ground.phase }, { on := 10, ground := Ground.phase }, { on := 11, ground := Ground.phase }, { on := 12, ground := Ground.phase }, { on := 13, ground := Ground.phase }, { on := 14, ground := Ground.phase }, { on := 15, ground := Ground.phase }, { on := 16, ground := Ground.phase }, { on := 17, ground := Ground.phase }, { on := 18, ground := Ground.phase }, { on := 19, ground := Ground.phase }, { on := 20, ground := Ground.phase }], guard := none }) (v := .pointer (some ⟨wk, 1, none⟩)) rfl (by kernel_rfl) (by kernel_rfl) (by kernel_rfl) (fun _ _ _ h => h) (Or.inl ⟨by rfl, ?_⟩) hHeld ?_
          · intro w' hSw
            skip
            go_simp
          try simp only [Act.put, List.setIfInBounds_toArray, List.set_cons_zero, List.set_cons_succ]
          refine wpAnyH_ready (rs := [25]) (by kernel_rfl) (by simp) ?_
          refine (AllReadyH.cons (o := { dst := none, op := Op.store _ (Operand.tmp 70) (Operand.tmp 66), type := _, pos := "translate.go:85", after := #[{ on := 24, ground := Ground.data }, { on := 20, ground := Ground.data }, { on := 20, ground := Ground.chain }, { on := 0, ground := Ground.phase }, { on := 1, ground := Ground.phase }, { on := 2, ground := Ground.phase }, { on := 3, ground := Ground.phase }, { on := 4, ground := Ground.phase }, { on := 5, ground := Ground.phase }, { on := 6, ground := Ground.phase }, { on := 7, ground := Ground.phase }, { on := 8, ground := Ground.phase }, { on := 9, ground := Ground.phase }, { on := 10, ground := Ground.phase }, { on := 11, ground := Ground.phase }, { on := 12, ground := Ground.phase }, { on := 13, ground := Ground.phase }, { on := 14, ground := Ground.phase }, { on := 15, ground := Ground.phase }, { on := 16, ground := Ground.phase }, { on := 17, ground := Ground.phase }, { on := 18, ground := Ground.phase }, { on := 19, ground := Ground.phase }, { on := 20, ground := Ground.phase }], guard := none }) rfl (fun K hK => ?_) AllReadyH.nil)
          · go_simp
            refine hK.out _ _ trivial (fun _ => ?_)
            clear hK K
            try simp only [Act.put, List.setIfInBounds_toArray, List.set_cons_zero, List.set_cons_succ]
            refine wpAnyH_done (by kernel_rfl) ?_ _
            have HF5 := Lib.hid (HR0.out.rows (R' := R ++ stubRows L.length to m nx) HG4.out (by rw [List.length_append, List.flatMap_append]; exact HO4.out))
            have hB4 : Below base w w4 := ((HB2.out.drew.alloc (by simp; omega) _).grown HG4.out (by simp; omega) (fun k hk => (HR0.out.rs.lt k hk).1))
            have hS5 := own_rowsM HR0.out HG4.out (.slice a4 (R.length + 2) q4) ((HOS.out.alloc (.cells #[.int .i64 (L.length : Int), .int .u32 to, .int .i64 m, .int .i64 (-1), .int .i64 ((L.length : Int) + 2), .int .u32 to, .int .i64 0, .int .i64 nx] 27) : (w2.drew.alloc (.cells #[.int .i64 (L.length : Int), .int .u32 to, .int .i64 m, .int .i64 (-1), .int .i64 ((L.length : Int) + 2), .int .u32 to, .int .i64 0, .int .i64 nx] 27)).ownsRow _ _ _ _ _ _))
            have hsz4 : w2.heap.size ≤ w4.heap.size := by have := HG4.out.size; simp at this; omega
            have hB5 : Below base w (w4.setCell ⟨wk, 1, none⟩ (.slice a4 (R.length + 2) q4)) := hB4.setCell hwb _
            have hsz5 : w2.heap.size ≤ (w4.setCell ⟨wk, 1, none⟩ (.slice a4 (R.length + 2) q4)).heap.size := by simpa using hsz4
            obtain ⟨w5, hw5⟩ : ∃ x, x = w4.setCell ⟨wk, 1, none⟩ (.slice a4 (R.length + 2) q4) := ⟨_, rfl⟩
            rw [← hw5] at HF5 hB5 hS5 hsz5 ⊢
            have HB5 := Lib.hid hB5
            obtain ⟨g, cp, hv, hcg, hgl, hcells⟩ := own_some1 hS5 (by decide)
            simp at hv
            obtain ⟨rfl, rfl⟩ := hv
            have HC := Lib.hid hcells
            have q0 : w5.cell? ⟨wk, 0, none⟩ = some (.slice aB L.length cB) := HF5.out.cell 0
            clear hB4 hsz4 hw5 c4 f4 HG4 HO4 k0 k1 k9 k1' k9' k2 hHeld hcells hS5 hB5
            go_wp2_with (first | (at_builtin; refine wpList_append_own _ rfl _ _ 34 rfl base 5 i0 (.int .u8 0) 1 1 Try.underlying34 hi hz0 hz1 hz2 rfl (by decide) _ _ _ rfl HF5.out.bs ⟨g, 0, none⟩ 5 _ (E.map (Value.int .u8)) rfl (by simp [HE.out]) (fun j u hu => by rw [addr0]; exact HC.out j u hu) (fun u hu => by (obtain ⟨x, -, rfl⟩ := List.mem_map.1 hu; rfl)) (by unfold maxLen; omega) (by omega) (by omega) ?_; intro v7 w7 hown7 hgrow7 _; obtain ⟨a7, q7, rfl⟩ := own_slice hown7; have h7 := blk_grown HF5.out.bs (by decide) HF5.out.h hgrow7; have c7 : w7.cell? ⟨wk, 0, none⟩ = some (.slice aB L.length cB) := (World.cell?_of_block h7).trans (HF5.out.cell 0); have f7 : w7.frozen? ⟨wk, 0, none⟩ = false := (World.frozen?_of_block h7).trans (HF5.out.frozen 0); have c9 : w7.cell? ⟨wk, 9, none⟩ = some (.int .i64 nx) := (World.cell?_of_block h7).trans (HF5.out.cell 9); have f9 : w7.frozen? ⟨wk, 9, none⟩ = false := (World.frozen?_of_block h7).trans (HF5.out.frozen 9); clear h7))
            go_end0
            have hF7 := HF5.out.bytes (L' := L ++ E) hgrow7 (by rw [List.map_append, List.length_append, HE.out]; exact hown7)
            exact ⟨rfl, ⟨_, _, hF7.next (nx + 1)⟩, ((HB5.out.grown hgrow7 (by omega) (fun k hk => (HF5.out.bs.lt k hk).1)).setCell hwb _).setCell hwb _⟩
  · go_simp
    refine hK.out _ _ trivial (fun _ => ?_)
    clear hK K
    try simp only [Act.put, List.setIfInBounds_toArray, List.set_cons_zero, List.set_cons_succ]
    refine wpAnyH_take (i := 18) (oi := { dst := some 64, op := Op.build _ #[(0, Operand.tmp 58), (1, Operand.tmp 59), (3, Operand.tmp 63)], type := _, pos := "translate.go:85", after := #[{ on := 12, ground := Ground.data }, { on := 13, ground := Ground.data }, { on := 17, ground := Ground.data }], guard := none }) (v := .agg #[.int .i64 ((L.length : Int) + 2), .int .u32 to, .int .i64 0, .int .i64 nx]) rfl (by kernel_rfl) (by kernel_rfl) (by kernel_rfl) (fun _ _ _ h => h) (Or.inl ⟨by rfl, ?_⟩) hHeld ?_
    · intro w' hSw
      skip
      go_simp
    try simp only [Act.put, List.setIfInBounds_toArray, List.set_cons_zero, List.set_cons_succ]
    refine wpAnyH_ready (rs := [6, 19]) (by kernel_rfl) (by simp) ?_
    refine (AllReadyH.cons (o := { dst := some 52, op := Op.load _ (Operand.tmp 51), type := _, pos := "translate.go:85", after := #[{ on := 5, ground := Ground.data }], guard := none }) rfl (fun K hK => ?_) (AllReadyH.cons (o := { dst := some 65, op := Op.buildSlice 22 2 #[(0, Operand.tmp 56), (1, Operand.tmp 64)], type := _, pos := "translate.go:85", after := #[{ on := 10, ground := Ground.data }, { on := 18, ground := Ground.data }], guard := none }) rfl (fun K hK => ?_) AllReadyH.nil))
    · go_simp
      refine hK.out _ _ trivial (fun _ => ?_)
      clear hK K
      try simp only [Act.put, List.setIfInBounds_toArray, List.set_cons_zero, List.set_cons_succ]
      refine wpAnyH_ready (rs := [19]) (by kernel_rfl) (by simp) ?_
      refine (AllReadyH.cons (o := { dst := some 65, op := Op.buildSlice 22 2 #[(0, Operand.tmp 56), (1, Operand.tmp 64)], type := _, pos := "translate.go:85", after := #[{ on := 10, ground := Ground.data }, { on := 18, ground := Ground.data }], guard := none }) rfl (fun K hK => ?_) AllReadyH.nil)
      · go_simp
        refine hK.out _ _ trivial (fun _ => ?_)
        clear hK K
        try simp only [Act.put, List.setIfInBounds_toArray, List.set_cons_zero, List.set_cons_succ]
        refine wpAnyH_ready (rs := [20]) (by kernel_rfl) (by simp) ?_
        refine (AllReadyH.cons (o := { dst := some 66, op := Op.call { callee := Callee.builtin Builtin.append, args := #[Operand.tmp 52, Operand.tmp 65], argTypes := _ }, type := _, pos := "translate.go:85", after := #[{ on := 6, ground := Ground.data }, { on := 19, ground := Ground.data }], guard := none }) rfl (fun K hK => ?_) AllReadyH.nil)
        · refine (if_pos (by rfl)).mpr ?_
          refine wp_append_own _ _ _ 22 rfl base 27 r0 _ 4 32 Try.underlying22 hr hy0 hy1 hy2 rfl (by decide) _ _ _ rfl HR0.out.rs ⟨w2.heap.size, 0, none⟩ 2 2 (RowR.cells ⟨(L.length : Int), to, m, -1⟩ ++ RowR.cells ⟨(L.length : Int) + 2, to, 0, nx⟩) rfl rfl (cells_new _ _ _ _ rfl) (by simp [RowR.cells, Value.oneCell']) (by unfold maxLen; omega) (by omega) (by simp; omega) ?_
          intro v4 w4 hown4 hgrow4 _
          obtain ⟨a4, q4, rfl⟩ := own_slice hown4
          refine hK.out _ _ trivial (fun _ => ?_)
          clear hK K
          have h4 := blk_grown HR0.out.rs (by decide) HR0.out.h hgrow4
          have c4 : w4.cell? ⟨wk, 1, none⟩ = some (.slice aR R.length cR) := (World.cell?_of_block h4).trans (HR0.out.cell 1)
          have f4 : w4.frozen? ⟨wk, 1, none⟩ = false := (World.frozen?_of_block h4).trans (HR0.out.frozen 1)
          have HG4 := Lib.hid hgrow4
          have HO4 := Lib.hid hown4
          clear h4 hown4 hgrow4
          try simp only [Act.put, List.setIfInBounds_toArray, List.set_cons_zero, List.set_cons_succ]
          refine wpAnyH_take (i := 21) (oi := { dst := some 67, op := Op.nilCheck (Operand.tmp 46), type := _, pos := "translate.go:85", after := #[{ on := 0, ground := Ground.data }, { on := 0, ground := Ground.phase }, { on := 1, ground := Ground.phase }, { on := 2, ground := Ground.phase }, { on := 3, ground := Ground.phase }, { on := 4, ground := Ground.phase }, { on := 5, ground := Ground.phase }, { on := 6, ground := Ground.phase }, { on := 7, ground := Ground.phase }, { on := 8, ground := Ground.phase }, { on := 9, ground := Ground.phase }, { on := 10, ground := Ground.phase }, { on := 11, ground := Ground.phase }, { on := 12, ground := Ground.phase }, { on := 13, ground := Ground.phase }, { on := 14, ground := Ground.phase }, { on := 15, ground := Ground.phase }, { on := 16, ground := Ground.phase }, { on := 17, ground := Ground.phase }, { on := 18, ground := Ground.phase }, { on := 19, ground := Ground.phase }, { on := 20, ground := Ground.phase }], guard := none }) (v := .pointer (some ⟨wk, 0, none⟩)) rfl (by kernel_rfl) (by kernel_rfl) (by kernel_rfl) (fun _ _ _ h => h) (Or.inl ⟨by rfl, ?_⟩) hHeld ?_
          · intro w' hSw
            skip
            go_simp
          try simp only [Act.put, List.setIfInBounds_toArray, List.set_cons_zero, List.set_cons_succ]
          refine wpAnyH_take (i := 22) (oi := { dst := some 68, op := Op.fieldAddr _ (Operand.tmp 67) 0, type := _, pos := "translate.go:85", after := #[{ on := 21, ground := Ground.data }, { on := 0, ground := Ground.phase }, { on := 1, ground := Ground.phase }, { on := 2, ground := Ground.phase }, { on := 3, ground := Ground.phase }, { on := 4, ground := Ground.phase }, { on := 5, ground := Ground.phase }, { on := 6, ground := Ground.phase }, { on := 7, ground := Ground.phase }, { on := 8, ground := Ground.phase }, { on := 9, ground := Ground.phase }, { on := 10, ground := Ground.phase }, { on := 11, ground := Ground.phase }, { on := 12, ground := Ground.phase }, { on := 13, ground := Ground.phase }, { on := 14, ground := Ground.phase }, { on := 15, ground := Ground.phase }, { on := 16, ground := Ground.phase }, { on := 17, ground := Ground.phase }, { on := 18, ground := Ground.phase }, { on := 19, ground := Ground.phase }, { on := 20, ground := Ground.phase }], guard := none }) (v := .pointer (some ⟨wk, 0, none⟩)) rfl (by kernel_rfl) (by kernel_rfl) (by kernel_rfl) (fun _ _ _ h => h) (Or.inl ⟨by rfl, ?_⟩) hHeld ?_
          · intro w' hSw
            skip
            go_simp
          try simp only [Act.put, List.setIfInBounds_toArray, List.set_cons_zero, List.set_cons_succ]
          refine wpAnyH_take (i := 23) (oi := { dst := some 69, op := Op.fieldAddr _ (Operand.tmp 68) 0, type := _, pos := "translate.go:85", after := #[{ on := 22, ground := Ground.data }, { on := 0, ground := Ground.phase }, { on := 1, ground := Ground.phase }, { on := 2, ground := Ground.phase }, { on := 3, ground := Ground.phase }, { on := 4, ground := Ground.phase }, { on := 5, ground := Ground.phase }, { on := 6, ground := Ground.phase }, { on := 7, ground := Ground.phase }, { on := 8, ground := Ground.phase }, { on := 9, ground := Ground.phase }, { on := 10, ground := Ground.phase }, { on := 11, ground := Ground.phase }, { on := 12, ground := Ground.phase }, { on := 13, ground := Ground.phase }, { on := 14, ground := Ground.phase }, { on := 15, ground := Ground.phase }, { on := 16, ground := Ground.phase }, { on := 17, ground := Ground.phase }, { on := 18, ground := Ground.phase }, { on := 19, ground := Ground.phase }, { on := 20, ground := Ground.phase }], guard := none }) (v := .pointer (some ⟨wk, 0, none⟩)) rfl (by kernel_rfl) (by kernel_rfl) (by kernel_rfl) (fun _ _ _ h => h) (Or.inl ⟨by rfl, ?_⟩) hHeld ?_
          · intro w' hSw
            skip
            go_simp
          try simp only [Act.put, List.setIfInBounds_toArray, List.set_cons_zero, List.set_cons_succ]
          refine wpAnyH_take (i := 24) (oi := { dst := some 70, op := Op.fieldAddr _ (Operand.tmp 69) 1, type := _, pos := "translate.go:85", after := #[{ on := 23, ground := Ground.data }, { on := 0, ground := Ground.phase }, { on := 1, ground := Ground.phase }, { on := 2, ground := Ground.phase }, { on := 3, ground := Ground.phase }, { on := 4, ground := Ground.phase }, { on := 5, ground := Ground.phase }, { on := 6, ground := Ground.phase }, { on := 7, ground := Ground.phase }, { on := 8, ground := Ground.phase }, { on := 9, ground := Ground.phase }, { on := 10, ground := Ground.phase }, { on := 11, ground := Ground.phase }, { on := 12, ground := Ground.phase }, { on := 13, ground := Ground.phase }, { on := 14, ground := Ground.phase }, { on := 15, ground := Ground.phase }, { on := 16, ground := Ground.phase }, { on := 17, ground := Ground.phase }, { on := 18, ground := Ground.phase }, { on := 19, ground := Ground.phase }, { on := 20, ground := Ground.phase }], guard := none }) (v := .pointer (some ⟨wk, 1, none⟩)) rfl (by kernel_rfl) (by kernel_rfl) (by kernel_rfl) (fun _ _ _ h => h) (Or.inl ⟨by rfl, ?_⟩) hHeld ?_
          · intro w' hSw
            skip
            go_simp
          try simp only [Act.put, List.setIfInBounds_toArray, List.set_cons_zero, List.set_cons_succ]
          refine wpAnyH_ready (rs := [25]) (by kernel_rfl) (by simp) ?_
          refine (AllReadyH.cons (o := { dst := none, op := Op.store _ (Operand.tmp 70) (Operand.tmp 66), type := _, pos := "translate.go:85", after := #[{ on := 24, ground := Ground.data }, { on := 20, ground := Ground.data }, { on := 20, ground := Ground.chain }, { on := 0, ground := Ground.phase }, { on := 1, ground := Ground.phase }, { on := 2, ground := Ground.phase }, { on := 3, ground := Ground.phase }, { on := 4, ground := Ground.phase }, { on := 5, ground := Ground.phase }, { on := 6, ground := Ground.phase }, { on := 7, ground := Ground.phase }, { on := 8, ground := Ground.phase }, { on := 9, ground := Ground.phase }, { on := 10, ground := Ground.phase }, { on := 11, ground := Ground.phase }, { on := 12, ground := Ground.phase }, { on := 13, ground := Ground.phase }, { on := 14, ground := Ground.phase }, { on := 15, ground := Ground.phase }, { on := 16, ground := Ground.phase }, { on := 17, ground := Ground.phase }, { on := 18, ground := Ground.phase }, { on := 19, ground := Ground.phase }, { on := 20, ground := Ground.phase }], guard := none }) rfl (fun K hK => ?_) AllReadyH.nil)
          · go_simp
            refine hK.out _ _ trivial (fun _ => ?_)
            clear hK K
            try simp only [Act.put, List.setIfInBounds_toArray, List.set_cons_zero, List.set_cons_succ]
            refine wpAnyH_done (by kernel_rfl) ?_ _
            have HF5 := Lib.hid (HR0.out.rows (R' := R ++ stubRows L.length to m nx) HG4.out (by rw [List.length_append, List.flatMap_append]; exact HO4.out))
            have hB4 : Below base w w4 := ((HB2.out.drew.alloc (by simp; omega) _).grown HG4.out (by simp; omega) (fun k hk => (HR0.out.rs.lt k hk).1))
            have hS5 := own_rowsM HR0.out HG4.out (.slice a4 (R.length + 2) q4) ((HOS.out.alloc (.cells #[.int .i64 (L.length : Int), .int .u32 to, .int .i64 m, .int .i64 (-1), .int .i64 ((L.length : Int) + 2), .int .u32 to, .int .i64 0, .int .i64 nx] 27) : (w2.drew.alloc (.cells #[.int .i64 (L.length : Int), .int .u32 to, .int .i64 m, .int .i64 (-1), .int .i64 ((L.length : Int) + 2), .int .u32 to, .int .i64 0, .int .i64 nx] 27)).ownsRow _ _ _ _ _ _))
            have hsz4 : w2.heap.size ≤ w4.heap.size := by have := HG4.out.size; simp at this; omega
            have hB5 : Below base w (w4.setCell ⟨wk, 1, none⟩ (.slice a4 (R.length + 2) q4)) := hB4.setCell hwb _
            have hsz5 : w2.heap.size ≤ (w4.setCell ⟨wk, 1, none⟩ (.slice a4 (R.length + 2) q4)).heap.size := by simpa using hsz4
            obtain ⟨w5, hw5⟩ : ∃ x, x = w4.setCell ⟨wk, 1, none⟩ (.slice a4 (R.length + 2) q4) := ⟨_, rfl⟩
            rw [← hw5] at HF5 hB5 hS5 hsz5 ⊢
            have HB5 := Lib.hid hB5
            obtain ⟨g, cp, hv, hcg, hgl, hcells⟩ := own_some1 hS5 (by decide)
            simp at hv
            obtain ⟨rfl, rfl⟩ := hv
            have HC := Lib.hid hcells
            have q0 : w5.cell? ⟨wk, 0, none⟩ = some (.slice aB L.length cB) := HF5.out.cell 0
            clear hB4 hsz4 hw5 c4 f4 HG4 HO4 k0 k1 k9 k1' k9' k2 hHeld hcells hS5 hB5
            go_wp2_with (first | (at_builtin; refine wpList_append_own _ rfl _ _ 34 rfl base 5 i0 (.int .u8 0) 1 1 Try.underlying34 hi hz0 hz1 hz2 rfl (by decide) _ _ _ rfl HF5.out.bs ⟨g, 0, none⟩ 5 _ (E.map (Value.int .u8)) rfl (by simp [HE.out]) (fun j u hu => by rw [addr0]; exact HC.out j u hu) (fun u hu => by (obtain ⟨x, -, rfl⟩ := List.mem_map.1 hu; rfl)) (by unfold maxLen; omega) (by omega) (by omega) ?_; intro v7 w7 hown7 hgrow7 _; obtain ⟨a7, q7, rfl⟩ := own_slice hown7; have h7 := blk_grown HF5.out.bs (by decide) HF5.out.h hgrow7; have c7 : w7.cell? ⟨wk, 0, none⟩ = some (.slice aB L.length cB) := (World.cell?_of_block h7).trans (HF5.out.cell 0); have f7 : w7.frozen? ⟨wk, 0, none⟩ = false := (World.frozen?_of_block h7).trans (HF5.out.frozen 0); have c9 : w7.cell? ⟨wk, 9, none⟩ = some (.int .i64 nx) := (World.cell?_of_block h7).trans (HF5.out.cell 9); have f9 : w7.frozen? ⟨wk, 9, none⟩ = false := (World.frozen?_of_block h7).trans (HF5.out.frozen 9); clear h7))
            go_end0
            have hF7 := HF5.out.bytes (L' := L ++ E) hgrow7 (by rw [List.map_append, List.length_append, HE.out]; exact hown7)
            exact ⟨rfl, ⟨_, _, hF7.next (nx + 1)⟩, ((HB5.out.grown hgrow7 (by omega) (fun k hk => (HF5.out.bs.lt k hk).1)).setCell hwb _).setCell hwb _⟩
    · go_simp
      refine hK.out _ _ trivial (fun _ => ?_)
      clear hK K
      try simp only [Act.put, List.setIfInBounds_toArray, List.set_cons_zero, List.set_cons_succ]
      refine wpAnyH_ready (rs := [6]) (by kernel_rfl) (by simp) ?_
      refine (AllReadyH.cons (o := { dst := some 52, op := Op.load _ (Operand.tmp 51), type := _, pos := "translate.go:85", after := #[{ on := 5, ground := Ground.data }], guard := none }) rfl (fun K hK => ?_) AllReadyH.nil)
      · go_simp
        refine hK.out _ _ trivial (fun _ => ?_)
        clear hK K
        try simp only [Act.put, List.setIfInBounds_toArray, List.set_cons_zero, List.set_cons_succ]
        refine wpAnyH_ready (rs := [20]) (by kernel_rfl) (by simp) ?_
        refine (AllReadyH.cons (o := { dst := some 66, op := Op.call { callee := Callee.builtin Builtin.append, args := #[Operand.tmp 52, Operand.tmp 65], argTypes := _ }, type := _, pos := "translate.go:85", after := #[{ on := 6, ground := Ground.data }, { on := 19, ground := Ground.data }], guard := none }) rfl (fun K hK => ?_) AllReadyH.nil)
        · refine (if_pos (by rfl)).mpr ?_
          refine wp_append_own _ _ _ 22 rfl base 27 r0 _ 4 32 Try.underlying22 hr hy0 hy1 hy2 rfl (by decide) _ _ _ rfl HR0.out.rs ⟨w2.heap.size, 0, none⟩ 2 2 (RowR.cells ⟨(L.length : Int), to, m, -1⟩ ++ RowR.cells ⟨(L.length : Int) + 2, to, 0, nx⟩) rfl rfl (cells_new _ _ _ _ rfl) (by simp [RowR.cells, Value.oneCell']) (by unfold maxLen; omega) (by omega) (by simp; omega) ?_
          intro v4 w4 hown4 hgrow4 _
          obtain ⟨a4, q4, rfl⟩ := own_slice hown4
          refine hK.out _ _ trivial (fun _ => ?_)
          clear hK K
          have h4 := blk_grown HR0.out.rs (by decide) HR0.out.h hgrow4
          have c4 : w4.cell? ⟨wk, 1, none⟩ = some (.slice aR R.length cR) := (World.cell?_of_block h4).trans (HR0.out.cell 1)
          have f4 : w4.frozen? ⟨wk, 1, none⟩ = false := (World.frozen?_of_block h4).trans (HR0.out.frozen 1)
          have HG4 := Lib.hid hgrow4
          have HO4 := Lib.hid hown4
          clear h4 hown4 hgrow4
          try simp only [Act.put, List.setIfInBounds_toArray, List.set_cons_zero, List.set_cons_succ]
          refine wpAnyH_take (i := 21) (oi := { dst := some 67, op := Op.nilCheck (Operand.tmp 46), type := _, pos := "translate.go:85", after := #[{ on := 0, ground := Ground.data }, { on := 0, ground := Ground.phase }, { on := 1, ground := Ground.phase }, { on := 2, ground := Ground.phase }, { on := 3, ground := Ground.phase }, { on := 4, ground := Ground.phase }, { on := 5, ground := Ground.phase }, { on := 6, ground := Ground.phase }, { on := 7, ground := Ground.phase }, { on := 8, ground := Ground.phase }, { on := 9, ground := Ground.phase }, { on := 10, ground := Ground.phase }, { on := 11, ground := Ground.phase }, { on := 12, ground := Ground.phase }, { on := 13, ground := Ground.phase }, { on := 14, ground := Ground.phase }, { on := 15, ground := Ground.phase }, { on := 16, ground := Ground.phase }, { on := 17, ground := Ground.phase }, { on := 18, ground := Ground.phase }, { on := 19, ground := Ground.phase }, { on := 20, ground := Ground.phase }], guard := none }) (v := .pointer (some ⟨wk, 0, none⟩)) rfl (by kernel_rfl) (by kernel_rfl) (by kernel_rfl) (fun _ _ _ h => h) (Or.inl ⟨by rfl, ?_⟩) hHeld ?_
          · intro w' hSw
            skip
            go_simp
          try simp only [Act.put, List.setIfInBounds_toArray, List.set_cons_zero, List.set_cons_succ]
          refine wpAnyH_take (i := 22) (oi := { dst := some 68, op := Op.fieldAddr _ (Operand.tmp 67) 0, type := _, pos := "translate.go:85", after := #[{ on := 21, ground := Ground.data }, { on := 0, ground := Ground.phase }, { on := 1, ground := Ground.phase }, { on := 2, ground := Ground.phase }, { on := 3, ground := Ground.phase }, { on := 4, ground := Ground.phase }, { on := 5, ground := Ground.phase }, { on := 6, ground := Ground.phase }, { on := 7, ground := Ground.phase }, { on := 8, ground := Ground.phase }, { on := 9, ground := Ground.phase }, { on := 10, ground := Ground.phase }, { on := 11, ground := Ground.phase }, { on := 12, ground := Ground.phase }, { on := 13, ground := Ground.phase }, { on := 14, ground := Ground.phase }, { on := 15, ground := Ground.phase }, { on := 16, ground := Ground.phase }, { on := 17, ground := Ground.phase }, { on := 18, ground := Ground.phase }, { on := 19, ground := Ground.phase }, { on := 20, ground := Ground.phase }], guard := none }) (v := .pointer (some ⟨wk, 0, none⟩)) rfl (by kernel_rfl) (by kernel_rfl) (by kernel_rfl) (fun _ _ _ h => h) (Or.inl ⟨by rfl, ?_⟩) hHeld ?_
          · intro w' hSw
            skip
            go_simp
          try simp only [Act.put, List.setIfInBounds_toArray, List.set_cons_zero, List.set_cons_succ]
          refine wpAnyH_take (i := 23) (oi := { dst := some 69, op := Op.fieldAddr _ (Operand.tmp 68) 0, type := _, pos := "translate.go:85", after := #[{ on := 22, ground := Ground.data }, { on := 0, ground := Ground.phase }, { on := 1, ground := Ground.phase }, { on := 2, ground := Ground.phase }, { on := 3, ground := Ground.phase }, { on := 4, ground := Ground.phase }, { on := 5, ground := Ground.phase }, { on := 6, ground := Ground.phase }, { on := 7, ground := Ground.phase }, { on := 8, ground := Ground.phase }, { on := 9, ground := Ground.phase }, { on := 10, ground := Ground.phase }, { on := 11, ground := Ground.phase }, { on := 12, ground := Ground.phase }, { on := 13, ground := Ground.phase }, { on := 14, ground := Ground.phase }, { on := 15, ground := Ground.phase }, { on := 16, ground := Ground.phase }, { on := 17, ground := Ground.phase }, { on := 18, ground := Ground.phase }, { on := 19, ground := Ground.phase }, { on := 20, ground := Ground.phase }], guard := none }) (v := .pointer (some ⟨wk, 0, none⟩)) rfl (by kernel_rfl) (by kernel_rfl) (by kernel_rfl) (fun _ _ _ h => h) (Or.inl ⟨by rfl, ?_⟩) hHeld ?_
          · intro w' hSw
            skip
            go_simp
          try simp only [Act.put, List.setIfInBounds_toArray, List.set_cons_zero, List.set_cons_succ]
          refine wpAnyH_take (i := 24) (oi := { dst := some 70, op := Op.fieldAddr _ (Operand.tmp 69) 1, type := _, pos := "translate.go:85", after := #[{ on := 23, ground := Ground.data }, { on := 0, ground := Ground.phase }, { on := 1, ground := Ground.phase }, { on := 2, ground := Ground.phase }, { on := 3, ground := Ground.phase }, { on := 4, ground := Ground.phase }, { on := 5, ground := Ground.phase }, { on := 6, ground := Ground.phase }, { on := 7, ground := Ground.phase }, { on := 8, ground := Ground.phase }, { on := 9, ground := Ground.phase }, { on := 10, ground := Ground.phase }, { on := 11, ground := Ground.phase }, { on := 12, ground := Ground.phase }, { on := 13, ground := Ground.phase }, { on := 14, ground := Ground.phase }, { on := 15, ground := Ground.phase }, { on := 16, ground := Ground.phase }, { on := 17, ground := Ground.phase }, { on := 18, ground := Ground.phase }, { on := 19, ground := Ground.phase }, { on := 20, ground := Ground.phase }], guard := none }) (v := .pointer (some ⟨wk, 1, none⟩)) rfl (by kernel_rfl) (by kernel_rfl) (by kernel_rfl) (fun _ _ _ h => h) (Or.inl ⟨by rfl, ?_⟩) hHeld ?_
          · intro w' hSw
            skip
            go_simp
          try simp only [Act.put, List.setIfInBounds_toArray, List.set_cons_zero, List.set_cons_succ]
          refine wpAnyH_ready (rs := [25]) (by kernel_rfl) (by simp) ?_
          refine (AllReadyH.cons (o := { dst := none, op := Op.store _ (Operand.tmp 70) (Operand.tmp 66), type := _, pos := "translate.go:85", after := #[{ on := 24, ground := Ground.data }, { on := 20, ground := Ground.data }, { on := 20, ground := Ground.chain }, { on := 0, ground := Ground.phase }, { on := 1, ground := Ground.phase }, { on := 2, ground := Ground.phase }, { on := 3, ground := Ground.phase }, { on := 4, ground := Ground.phase }, { on := 5, ground := Ground.phase }, { on := 6, ground := Ground.phase }, { on := 7, ground := Ground.phase }, { on := 8, ground := Ground.phase }, { on := 9, ground := Ground.phase }, { on := 10, ground := Ground.phase }, { on := 11, ground := Ground.phase }, { on := 12, ground := Ground.phase }, { on := 13, ground := Ground.phase }, { on := 14, ground := Ground.phase }, { on := 15, ground := Ground.phase }, { on := 16, ground := Ground.phase }, { on := 17, ground := Ground.phase }, { on := 18, ground := Ground.phase }, { on := 19, ground := Ground.phase }, { on := 20, ground := Ground.phase }], guard := none }) rfl (fun K hK => ?_) AllReadyH.nil)
          · go_simp
            refine hK.out _ _ trivial (fun _ => ?_)
            clear hK K
            try simp only [Act.put, List.setIfInBounds_toArray, List.set_cons_zero, List.set_cons_succ]
            refine wpAnyH_done (by kernel_rfl) ?_ _
            have HF5 := Lib.hid (HR0.out.rows (R' := R ++ stubRows L.length to m nx) HG4.out (by rw [List.length_append, List.flatMap_append]; exact HO4.out))
            have hB4 : Below base w w4 := ((HB2.out.drew.alloc (by simp; omega) _).grown HG4.out (by simp; omega) (fun k hk => (HR0.out.rs.lt k hk).1))
            have hS5 := own_rowsM HR0.out HG4.out (.slice a4 (R.length + 2) q4) ((HOS.out.alloc (.cells #[.int .i64 (L.length : Int), .int .u32 to, .int .i64 m, .int .i64 (-1), .int .i64 ((L.length : Int) + 2), .int .u32 to, .int .i64 0, .int .i64 nx] 27) : (w2.drew.alloc (.cells #[.int .i64 (L.length : Int), .int .u32 to, .int .i64 m, .int .i64 (-1), .int .i64 ((L.length : Int) + 2), .int .u32 to, .int .i64 0, .int .i64 nx] 27)).ownsRow _ _ _ _ _ _))
            have hsz4 : w2.heap.size ≤ w4.heap.size := by have := HG4.out.size; simp at this; omega
            have hB5 : Below base w (w4.setCell ⟨wk, 1, none⟩ (.slice a4 (R.length + 2) q4)) := hB4.setCell hwb _
            have hsz5 : w2.heap.size ≤ (w4.setCell ⟨wk, 1, none⟩ (.slice a4 (R.length + 2) q4)).heap.size := by simpa using hsz4
            obtain ⟨w5, hw5⟩ : ∃ x, x = w4.setCell ⟨wk, 1, none⟩ (.slice a4 (R.length + 2) q4) := ⟨_, rfl⟩
            rw [← hw5] at HF5 hB5 hS5 hsz5 ⊢
            have HB5 := Lib.hid hB5
            obtain ⟨g, cp, hv, hcg, hgl, hcells⟩ := own_some1 hS5 (by decide)
            simp at hv
            obtain ⟨rfl, rfl⟩ := hv
            have HC := Lib.hid hcells
            have q0 : w5.cell? ⟨wk, 0, none⟩ = some (.slice aB L.length cB) := HF5.out.cell 0
            clear hB4 hsz4 hw5 c4 f4 HG4 HO4 k0 k1 k9 k1' k9' k2 hHeld hcells hS5 hB5
            go_wp2_with (first | (at_builtin; refine wpList_append_own _ rfl _ _ 34 rfl base 5 i0 (.int .u8 0) 1 1 Try.underlying34 hi hz0 hz1 hz2 rfl (by decide) _ _ _ rfl HF5.out.bs ⟨g, 0, none⟩ 5 _ (E.map (Value.int .u8)) rfl (by simp [HE.out]) (fun j u hu => by rw [addr0]; exact HC.out j u hu) (fun u hu => by (obtain ⟨x, -, rfl⟩ := List.mem_map.1 hu; rfl)) (by unfold maxLen; omega) (by omega) (by omega) ?_; intro v7 w7 hown7 hgrow7 _; obtain ⟨a7, q7, rfl⟩ := own_slice hown7; have h7 := blk_grown HF5.out.bs (by decide) HF5.out.h hgrow7; have c7 : w7.cell? ⟨wk, 0, none⟩ = some (.slice aB L.length cB) := (World.cell?_of_block h7).trans (HF5.out.cell 0); have f7 : w7.frozen? ⟨wk, 0, none⟩ = false := (World.frozen?_of_block h7).trans (HF5.out.frozen 0); have c9 : w7.cell? ⟨wk, 9, none⟩ = some (.int .i64 nx) := (World.cell?_of_block h7).trans (HF5.out.cell 9); have f9 : w7.frozen? ⟨wk, 9, none⟩ = false := (World.frozen?_of_block h7).trans (HF5.out.frozen 9); clear h7))
            go_end0
            have hF7 := HF5.out.bytes (L' := L ++ E) hgrow7 (by rw [List.map_append, List.length_append, HE.out]; exact hown7)
            exact ⟨rfl, ⟨_, _, hF7.next (nx + 1)⟩, ((HB5.out.grown hgrow7 (by omega) (fun k hk => (HF5.out.bs.lt k hk).1)).setCell hwb _).setCell hwb _⟩

set_option maxHeartbeats 8000000 in
theorem stubAsk_c (base wk : Nat) (b : BlkR) (L : List Int) (R : List RowR) (nx to : Int) (w : World) (hw : WkAt base wk b L R nx w) (hbs : base ≤ w.heap.size) (hL : L.length ≤ 1000) (hR : R.length ≤ 1000) (x0 : 0 ≤ nx) (x1 : nx < 65536) (n0 : 1 ≤ b.ins.length) (n1 : b.ins.length ≤ 32) :
    Calls Try.prog 40 #[.pointer (some ⟨wk, 0, none⟩), .iface 90 (.agg #[.int .u32 to])] w fun e w' => e = .returned (.tuple #[]) ∧ WkAt base wk b (L ++ encAll (stubIt ((b.ins.length : Int) - 1) 0 nx)) (R ++ stubRows L.length to ((b.ins.length : Int) - 1) nx) (nx + 1) w' ∧ Below base w w' := by
  obtain ⟨i0, hi, hz0, hz1, hz2⟩ := info_parts Isa.Try.infoB
  obtain ⟨r0, hr, hy0, hy1, hy2⟩ := info_parts Try.infoR
  have hta : ∀ (c : Int) (w : World), (Instr.typeAssert (.iface 88 (.agg #[.int .u32 c])) 110 88 true).run Try.prog w = .ok (.tuple #[.agg #[.int .u32 c], .bool true]) w := fun _ _ => by kernel_rfl
  have htb : ∀ (c : Int) (w : World), (Instr.typeAssert (.iface 90 (.agg #[.int .u32 c])) 110 88 true).run Try.prog w = .ok (.tuple #[.agg #[.int .u32 0], .bool false]) w := fun _ _ => by kernel_rfl
  have htc : ∀ (c : Int) (w : World), (Instr.typeAssert (.iface 90 (.agg #[.int .u32 c])) 110 90 true).run Try.prog w = .ok (.tuple #[.agg #[.int .u32 c], .bool true]) w := fun _ _ => by kernel_rfl
  obtain ⟨m, hm⟩ : ∃ m : Int, m = ((b.ins.length : Int) - 1) := ⟨_, rfl⟩
  rw [← hm]
  have hS := fun w => stub_c m nx w (by omega) (by omega) x0 x1
  have hel : (encAll (stubIt m 0 nx)).length = 5 := by simp [encAll, stubIt, It.enc, Isa.fm, Isa.encL]
  generalize encAll (stubIt m 0 nx) = E at hS hel ⊢
  have HS := Lib.hid hS
  have HE := Lib.hid hel
  have HM := Lib.hid hm
  obtain ⟨vB, vR, hF⟩ := hw
  obtain ⟨aB, cB, rfl⟩ := own_slice hF.bs
  obtain ⟨aR, cR, rfl⟩ := own_slice hF.rs
  have hlt := hF.lt
  have hwb := hF.le
  have j2 : w.cell? ⟨wk, 2, none⟩ = some (.slice b.ai b.ins.length b.ci) := hF.cell 2
  have p1 : (0:Int) ≤ (b.ins.length : Int) - 1 := by omega
  have p2 : (b.ins.length : Int) - 1 ≤ 9223372036854775807 := by omega
  clear hS hel hm
  go_enter Try.func40, Try.ntmps40
  go_wp2_with fail
  refine (ask_c to _).mono ?_
  rintro e w1 ⟨rfl, hb1⟩
  have hF1 := (hF.alloc _).below hb1
  have hB1 : Below base w w1 := ((Below.refl base w).alloc hbs _).trans (hb1.mono (by simp; omega))
  have hs1 : w.heap.size < w1.heap.size := by have := hb1.size; simp at this; omega
  have k9 : w1.cell? ⟨wk, 9, none⟩ = some (.int .i64 nx) := hF1.cell 9
  have HF1 := Lib.hid hF1
  clear hF hb1 hF1 j2
  go_wp2_with fail
  rw [← HM.out]
  refine (HS.out _).mono ?_
  rintro e w2 ⟨vS, rfl, hownS, hb2⟩
  have hF2 := HF1.out.below hb2
  have hB2 : Below base w w2 := hB1.trans (hb2.mono (by omega))
  have hs2 : w.heap.size < w2.heap.size := by have := hb2.size; omega
  obtain ⟨aS, cS, rfl⟩ := own_slice hownS
  have k2 : w2.cell? ⟨wk, 0, none⟩ = some (.slice aB L.length cB) := hF2.cell 0
  have HF2 := Lib.hid hF2
  have HB2 := Lib.hid hB2
  have HOS := Lib.hid hownS
  clear hF2 hB2 hownS hb2 HF1 hB1 k9 hs1
  go_wp2_with fail
  have k0 : w2.drew.cell? ⟨wk, 0, none⟩ = some (.slice aB L.length cB) := HF2.out.cell 0
  have k1 : w2.drew.cell? ⟨wk, 1, none⟩ = some (.slice aR R.length cR) := HF2.out.cell 1
  have k9 : w2.drew.cell? ⟨wk, 9, none⟩ = some (.int .i64 nx) := HF2.out.cell 9
  have k1' : w2.cell? ⟨wk, 1, none⟩ = some (.slice aR R.length cR) := HF2.out.cell 1
  have k9' : w2.cell? ⟨wk, 9, none⟩ = some (.int .i64 nx) := HF2.out.cell 9
  have hlt0 : wk < w2.heap.size := HF2.out.lt
  have hwr : IntKind.i64.wrap ((L.length : Int) + 2) = (L.length : Int) + 2 := IntWalk.i64_in _ ⟨by omega, by omega⟩
  have HR0 := Lib.hid (HF2.out.drew.alloc (.cells #[.int .i64 (L.length : Int), .int .u32 to, .int .i64 m, .int .i64 (-1), .int .i64 ((L.length : Int) + 2), .int .u32 to, .int .i64 0, .int .i64 nx] 27))
  refine wp_region_held_drew (S := fun _ => True) (by kernel_rfl) trivial (fun hHeld => ?_)
  refine wpAnyH_take (i := 0) (oi := { dst := some 46, op := Op.move (Operand.tmp 0), type := _, pos := "translate.go:85", after := #[], guard := none }) (v := .pointer (some ⟨wk, 0, none⟩)) rfl (by kernel_rfl) (by kernel_rfl) (by kernel_rfl) (fun _ _ _ h => h) (Or.inl ⟨by rfl, ?_⟩) hHeld ?_
  · intro w' hSw
    skip
    go_simp
  try simp only [Act.put, List.setIfInBounds_toArray, List.set_cons_zero, List.set_cons_succ]
  refine wpAnyH_take (i := 1) (oi := { dst := some 47, op := Op.move (Operand.tmp 0), type := _, pos := "translate.go:85", after := #[], guard := none }) (v := .pointer (some ⟨wk, 0, none⟩)) rfl (by kernel_rfl) (by kernel_rfl) (by kernel_rfl) (fun _ _ _ h => h) (Or.inl ⟨by rfl, ?_⟩) hHeld ?_
  · intro w' hSw
    skip
    go_simp
  try simp only [Act.put, List.setIfInBounds_toArray, List.set_cons_zero, List.set_cons_succ]
  refine wpAnyH_take (i := 2) (oi := { dst := some 48, op := Op.nilCheck (Operand.tmp 47), type := _, pos := "translate.go:85", after := #[{ on := 1, ground := Ground.data }], guard := none }) (v := .pointer (some ⟨wk, 0, none⟩)) rfl (by kernel_rfl) (by kernel_rfl) (by kernel_rfl) (fun _ _ _ h => h) (Or.inl ⟨by rfl, ?_⟩) hHeld ?_
  · intro w' hSw
    skip
    go_simp
  try simp only [Act.put, List.setIfInBounds_toArray, List.set_cons_zero, List.set_cons_succ]
  refine wpAnyH_take (i := 3) (oi := { dst := some 49, op := Op.fieldAddr _ (Operand.tmp 48) 0, type := _, pos := "translate.go:85", after := #[{ on := 2, ground := Ground.data }], guard := none }) (v := .pointer (some ⟨wk, 0, none⟩)) rfl (by kernel_rfl) (by kernel_rfl) (by kernel_rfl) (fun _ _ _ h => h) (Or.inl ⟨by rfl, ?_⟩) hHeld ?_
  · intro w' hSw
    skip
    go_simp
  try simp only [Act.put, List.setIfInBounds_toArray, List.set_cons_zero, List.set_cons_succ]
  refine wpAnyH_take (i := 4) (oi := { dst := some 50, op := Op.fieldAddr _ (Operand.tmp 49) 0, type := _, pos := "translate.go:85", after := #[{ on := 3, ground := Ground.data }], guard := none }) (v := .pointer (some ⟨wk, 0, none⟩)) rfl (by kernel_rfl) (by kernel_rfl) (by kernel_rfl) (fun _ _ _ h => h) (Or.inl ⟨by rfl, ?_⟩) hHeld ?_
  · intro w' hSw
    skip
    go_simp
  try simp only [Act.put, List.setIfInBounds_toArray, List.set_cons_zero, List.set_cons_succ]
  refine wpAnyH_take (i := 5) (oi := { dst := some 51, op := Op.fieldAddr _ (Operand.tmp 50) 1, type := _, pos := "translate.go:85", after := #[{ on := 4, ground := Ground.data }], guard := none }) (v := .pointer (some ⟨wk, 1, none⟩)) rfl (by kernel_rfl) (by kernel_rfl) (by kernel_rfl) (fun _ _ _ h => h) (Or.inl ⟨by rfl, ?_⟩) hHeld ?_
  · intro w' hSw
    skip
    go_simp
  try simp only [Act.put, List.setIfInBounds_toArray, List.set_cons_zero, List.set_cons_succ]
  refine wpAnyH_take (i := 7) (oi := { dst := some 53, op := Op.move (Operand.tmp 10), type := _, pos := "translate.go:85", after := #[], guard := none }) (v := .int .i64 (L.length : Int)) rfl (by kernel_rfl) (by kernel_rfl) (by kernel_rfl) (fun _ _ _ h => h) (Or.inl ⟨by rfl, ?_⟩) hHeld ?_
  · intro w' hSw
    skip
    go_simp
  try simp only [Act.put, List.setIfInBounds_toArray, List.set_cons_zero, List.set_cons_succ]
  refine wpAnyH_take (i := 8) (oi := { dst := some 54, op := Op.move (Operand.tmp 5), type := _, pos := "translate.go:85", after := #[], guard := none }) (v := .int .u32 to) rfl (by kernel_rfl) (by kernel_rfl) (by kernel_rfl) (fun _ _ _ h => h) (Or.inl ⟨by rfl, ?_⟩) hHeld ?_
  · intro w' hSw
    skip
    go_simp
  try simp only [Act.put, List.setIfInBounds_toArray, List.set_cons_zero, List.set_cons_succ]
  refine wpAnyH_take (i := 9) (oi := { dst := some 55, op := Op.move (Operand.tmp 4), type := _, pos := "translate.go:85", after := #[], guard := none }) (v := .int .i64 m) rfl (by kernel_rfl) (by kernel_rfl) (by kernel_rfl) (fun _ _ _ h => h) (Or.inl ⟨by rfl, ?_⟩) hHeld ?_
  · intro w' hSw
    skip
    go_simp
  try simp only [Act.put, List.setIfInBounds_toArray, List.set_cons_zero, List.set_cons_succ]
  refine wpAnyH_take (i := 10) (oi := { dst := some 56, op := Op.build _ #[(0, Operand.tmp 53), (1, Operand.tmp 54), (2, Operand.tmp 55), (3, Operand.const (Value.int IntKind.i64 (-1)))], type := _, pos := "translate.go:85", after := #[{ on := 7, ground := Ground.data }, { on := 8, ground := Ground.data }, { on := 9, ground := Ground.data }], guard := none }) (v := .agg #[.int .i64 (L.length : Int), .int .u32 to, .int .i64 m, .int .i64 (-1)]) rfl (by kernel_rfl) (by kernel_rfl) (by kernel_rfl) (fun _ _ _ h => h) (Or.inl ⟨by rfl, ?_⟩) hHeld ?_
  · intro w' hSw
    skip
    go_simp
  try simp only [Act.put, List.setIfInBounds_toArray, List.set_cons_zero, List.set_cons_succ]
  refine wpAnyH_take (i := 11) (oi := { dst := some 57, op := Op.move (Operand.tmp 10), type := _, pos := "translate.go:85", after := #[], guard := none }) (v := .int .i64 (L.length : Int)) rfl (by kernel_rfl) (by kernel_rfl) (by kernel_rfl) (fun _ _ _ h => h) (Or.inl ⟨by rfl, ?_⟩) hHeld ?_
  · intro w' hSw
    skip
    go_simp
  try simp only [Act.put, List.setIfInBounds_toArray, List.set_cons_zero, List.set_cons_succ]
  refine wpAnyH_take (i := 12) (oi := { dst := some 58, op := Op.binOp BinOp.add _ (Operand.tmp 57) (Operand.const (Value.int IntKind.i64 2)) _, type := _, pos := "translate.go:85", after := #[{ on := 11, ground := Ground.data }], guard := none }) (v := .int .i64 ((L.length : Int) + 2)) rfl (by kernel_rfl) (by kernel_rfl) (by kernel_rfl) (fun _ _ _ h => h) (Or.inl ⟨by rfl, ?_⟩) hHeld ?_
  · intro w' hSw
    skip
    go_simp
  try simp only [Act.put, List.setIfInBounds_toArray, List.set_cons_zero, List.set_cons_succ]
  refine wpAnyH_take (i := 13) (oi := { dst := some 59, op := Op.move (Operand.tmp 5), type := _, pos := "translate.go:85", after := #[], guard := none }) (v := .int .u32 to) rfl (by kernel_rfl) (by kernel_rfl) (by kernel_rfl) (fun _ _ _ h => h) (Or.inl ⟨by rfl, ?_⟩) hHeld ?_
  · intro w' hSw
    skip
    go_simp
  try simp only [Act.put, List.setIfInBounds_toArray, List.set_cons_zero, List.set_cons_succ]
  refine wpAnyH_take (i := 14) (oi := { dst := some 60, op := Op.move (Operand.tmp 0), type := _, pos := "translate.go:85", after := #[], guard := none }) (v := .pointer (some ⟨wk, 0, none⟩)) rfl (by kernel_rfl) (by kernel_rfl) (by kernel_rfl) (fun _ _ _ h => h) (Or.inl ⟨by rfl, ?_⟩) hHeld ?_
  · intro w' hSw
    skip
    go_simp
  try simp only [Act.put, List.setIfInBounds_toArray, List.set_cons_zero, List.set_cons_succ]
  refine wpAnyH_take (i := 15) (oi := { dst := some 61, op := Op.nilCheck (Operand.tmp 60), type := _, pos := "translate.go:85", after := #[{ on := 14, ground := Ground.data }], guard := none }) (v := .pointer (some ⟨wk, 0, none⟩)) rfl (by kernel_rfl) (by kernel_rfl) (by kernel_rfl) (fun _ _ _ h => h) (Or.inl ⟨by rfl, ?_⟩) hHeld ?_
  · intro w' hSw
    skip
    go_simp
  try simp only [Act.put, List.setIfInBounds_toArray, List.set_cons_zero, List.set_cons_succ]
  refine wpAnyH_take (i := 16) (oi := { dst := some 62, op := Op.fieldAddr _ (Operand.tmp 61) 2, type := _, pos := "translate.go:85", after := #[{ on := 15, ground := Ground.data }], guard := none }) (v := .pointer (some ⟨wk, 9, none⟩)) rfl (by kernel_rfl) (by kernel_rfl) (by kernel_rfl) (fun _ _ _ h => h) (Or.inl ⟨by rfl, ?_⟩) hHeld ?_
  · intro w' hSw
    skip
    go_simp
  try simp only [Act.put, List.setIfInBounds_toArray, List.set_cons_zero, List.set_cons_succ]
  refine wpAnyH_ready (rs := [6, 17]) (by kernel_rfl) (by simp) ?_
  refine (AllReadyH.cons (o := { dst := some 52, op := Op.load _ (Operand.tmp 51), type := _, pos := "translate.go:85", after := #[{ on := 5, ground := Ground.data }], guard := none }) rfl (fun K hK => ?_) (AllReadyH.cons (o := { dst := some 63, op := Op.load _ (Operand.tmp 62), type := _, pos := "translate.go:85", after := #[{ on := 16, ground := Ground.data }], guard := none }) rfl (fun K hK => ?_) AllReadyH.nil))
  · go_simp
    refine hK.out _ _ trivial (fun _ => ?_)
    clear hK K
    try simp only [Act.put, List.setIfInBounds_toArray, List.set_cons_zero, List.set_cons_succ]
    refine wpAnyH_ready (rs := [17]) (by kernel_rfl) (by simp) ?_
    refine (AllReadyH.cons (o := { dst := some 63, op := Op.load _ (Operand.tmp 62), type := _, pos := "translate.go:85", after := #[{ on := 16, ground := Ground.data }], guard := none }) rfl (fun K hK => ?_) AllReadyH.nil)
    · go_simp
      refine hK.out _ _ trivial (fun _ => ?_)
      clear hK K
      try simp only [Act.put, List.setIfInBounds_toArray, List.set_cons_zero, List.set_cons_succ]
      refine wpAnyH_take (i := 18) (oi := { dst := some 64, op := Op.build _ #[(0, Operand.tmp 58), (1, Operand.tmp 59), (3, Operand.tmp 63)], type := _, pos := "translate.go:85", after := #[{ on := 12, ground := Ground.data }, { on := 13, ground := Ground.data }, { on := 17, ground := Ground.data }], guard := none }) (v := .agg #[.int .i64 ((L.length : Int) + 2), .int .u32 to, .int .i64 0, .int .i64 nx]) rfl (by kernel_rfl) (by kernel_rfl) (by kernel_rfl) (fun _ _ _ h => h) (Or.inl ⟨by rfl, ?_⟩) hHeld ?_
      · intro w' hSw
        skip
        go_simp
      try simp only [Act.put, List.setIfInBounds_toArray, List.set_cons_zero, List.set_cons_succ]
      refine wpAnyH_ready (rs := [19]) (by kernel_rfl) (by simp) ?_
      refine (AllReadyH.cons (o := { dst := some 65, op := Op.buildSlice 22 2 #[(0, Operand.tmp 56), (1, Operand.tmp 64)], type := _, pos := "translate.go:85", after := #[{ on := 10, ground := Ground.data }, { on := 18, ground := Ground.data }], guard := none }) rfl (fun K hK => ?_) AllReadyH.nil)
      · go_simp
        refine hK.out _ _ trivial (fun _ => ?_)
        clear hK K
        try simp only [Act.put, List.setIfInBounds_toArray, List.set_cons_zero, List.set_cons_succ]
        refine wpAnyH_ready (rs := [20]) (by kernel_rfl) (by simp) ?_
        refine (AllReadyH.cons (o := { dst := some 66, op := Op.call { callee := Callee.builtin Builtin.append, args := #[Operand.tmp 52, Operand.tmp 65], argTypes := _ }, type := _, pos := "translate.go:85", after := #[{ on := 6, ground := Ground.data }, { on := 19, ground := Ground.data }], guard := none }) rfl (fun K hK => ?_) AllReadyH.nil)
        · refine (if_pos (by rfl)).mpr ?_
          refine wp_append_own _ _ _ 22 rfl base 27 r0 _ 4 32 Try.underlying22 hr hy0 hy1 hy2 rfl (by decide) _ _ _ rfl HR0.out.rs ⟨w2.heap.size, 0, none⟩ 2 2 (RowR.cells ⟨(L.length : Int), to, m, -1⟩ ++ RowR.cells ⟨(L.length : Int) + 2, to, 0, nx⟩) rfl rfl (cells_new _ _ _ _ rfl) (by simp [RowR.cells, Value.oneCell']) (by unfold maxLen; omega) (by omega) (by simp; omega) ?_
          intro v4 w4 hown4 hgrow4 _
          obtain ⟨a4, q4, rfl⟩ := own_slice hown4
          refine hK.out _ _ trivial (fun _ => ?_)
          clear hK K
          have h4 := blk_grown HR0.out.rs (by decide) HR0.out.h hgrow4
          have c4 : w4.cell? ⟨wk, 1, none⟩ = some (.slice aR R.length cR) := (World.cell?_of_block h4).trans (HR0.out.cell 1)
          have f4 : w4.frozen? ⟨wk, 1, none⟩ = false := (World.frozen?_of_block h4).trans (HR0.out.frozen 1)
          have HG4 := Lib.hid hgrow4
          have HO4 := Lib.hid hown4
          clear h4 hown4 hgrow4
          try simp only [Act.put, List.setIfInBounds_toArray, List.set_cons_zero, List.set_cons_succ]
          refine wpAnyH_take (i := 21) (oi := { dst := some 67, op := Op.nilCheck (Operand.tmp 46), type := _, pos := "translate.go:85", after := #[{ on := 0, ground := Ground.data }, { on := 0, ground := Ground.phase }, { on := 1, ground := Ground.phase }, { on := 2, ground := Ground.phase }, { on := 3, ground := Ground.phase }, { on := 4, ground := Ground.phase }, { on := 5, ground := Ground.phase }, { on := 6, ground := Ground.phase }, { on := 7, ground := Ground.phase }, { on := 8, ground := Ground.phase }, { on := 9, ground := Ground.phase }, { on := 10, ground := Ground.phase }, { on := 11, ground := Ground.phase }, { on := 12, ground := Ground.phase }, { on := 13, ground := Ground.phase }, { on := 14, ground := Ground.phase }, { on := 15, ground := Ground.phase }, { on := 16, ground := Ground.phase }, { on := 17, ground := Ground.phase }, { on := 18, ground := Ground.phase }, { on := 19, ground := Ground.phase }, { on := 20, ground := Ground.phase }], guard := none }) (v := .pointer (some ⟨wk, 0, none⟩)) rfl (by kernel_rfl) (by kernel_rfl) (by kernel_rfl) (fun _ _ _ h => h) (Or.inl ⟨by rfl, ?_⟩) hHeld ?_
          · intro w' hSw
            skip
            go_simp
          try simp only [Act.put, List.setIfInBounds_toArray, List.set_cons_zero, List.set_cons_succ]
          refine wpAnyH_take (i := 22) (oi := { dst := some 68, op := Op.fieldAddr _ (Operand.tmp 67) 0, type := _, pos := "translate.go:85", after := #[{ on := 21, ground := Ground.data }, { on := 0, ground := Ground.phase }, { on := 1, ground := Ground.phase }, { on := 2, ground := Ground.phase }, { on := 3, ground := Ground.phase }, { on := 4, ground := Ground.phase }, { on := 5, ground := Ground.phase }, { on := 6, ground := Ground.phase }, { on := 7, ground := Ground.phase }, { on := 8, ground := Ground.phase }, { on := 9, ground := Ground.phase }, { on := 10, ground := Ground.phase }, { on := 11, ground := Ground.phase }, { on := 12, ground := Ground.phase }, { on := 13, ground := Ground.phase }, { on := 14, ground := Ground.phase }, { on := 15, ground := Ground.phase }, { on := 16, ground := Ground.phase }, { on := 17, ground := Ground.phase }, { on := 18, ground := Ground.phase }, { on := 19, ground := Ground.phase }, { on := 20, ground := Ground.phase }], guard := none }) (v := .pointer (some ⟨wk, 0, none⟩)) rfl (by kernel_rfl) (by kernel_rfl) (by kernel_rfl) (fun _ _ _ h => h) (Or.inl ⟨by rfl, ?_⟩) hHeld ?_
          · intro w' hSw
            skip
            go_simp
          try simp only [Act.put, List.setIfInBounds_toArray, List.set_cons_zero, List.set_cons_succ]
          refine wpAnyH_take (i := 23) (oi := { dst := some 69, op := Op.fieldAddr _ (Operand.tmp 68) 0, type := _, pos := "translate.go:85", after := #[{ on := 22, ground := Ground.data }, { on := 0, ground := Ground.phase }, { on := 1, ground := Ground.phase }, { on := 2, ground := Ground.phase }, { on := 3, ground := Ground.phase }, { on := 4, ground := Ground.phase }, { on := 5, ground := Ground.phase }, { on := 6, ground := Ground.phase }, { on := 7, ground := Ground.phase }, { on := 8, ground := Ground.phase }, { on := 9, ground := Ground.phase }, { on := 10, ground := Ground.phase }, { on := 11, ground := Ground.phase }, { on := 12, ground := Ground.phase }, { on := 13, ground := Ground.phase }, { on := 14, ground := Ground.phase }, { on := 15, ground := Ground.phase }, { on := 16, ground := Ground.phase }, { on := 17, ground := Ground.phase }, { on := 18, ground := Ground.phase }, { on := 19, ground := Ground.phase }, { on := 20, ground := Ground.phase }], guard := none }) (v := .pointer (some ⟨wk, 0, none⟩)) rfl (by kernel_rfl) (by kernel_rfl) (by kernel_rfl) (fun _ _ _ h => h) (Or.inl ⟨by rfl, ?_⟩) hHeld ?_
          · intro w' hSw
            skip
            go_simp
          try simp only [Act.put, List.setIfInBounds_toArray, List.set_cons_zero, List.set_cons_succ]
          refine wpAnyH_take (i := 24) (oi := { dst := some 70, op := Op.fieldAddr _ (Operand.tmp 69) 1, type := _, pos := "translate.go:85", after := #[{ on := 23, ground := Ground.data }, { on := 0, ground := Ground.phase }, { on := 1, ground := Ground.phase }, { on := 2, ground := Ground.phase }, { on := 3, ground := Ground.phase }, { on := 4, ground := Ground.phase }, { on := 5, ground := Ground.phase }, { on := 6, ground := Ground.phase }, { on := 7, ground := Ground.phase }, { on := 8, ground := Ground.phase }, { on := 9, ground := Ground.phase }, { on := 10, ground := Ground.phase }, { on := 11, ground := Ground.phase }, { on := 12, ground := Ground.phase }, { on := 13, ground := Ground.phase }, { on := 14, ground := Ground.phase }, { on := 15, ground := Ground.phase }, { on := 16, ground := Ground.phase }, { on := 17, ground := Ground.phase }, { on := 18, ground := Ground.phase }, { on := 19, ground := Ground.phase }, { on := 20, ground := Ground.phase }], guard := none }) (v := .pointer (some ⟨wk, 1, none⟩)) rfl (by kernel_rfl) (by kernel_rfl) (by kernel_rfl) (fun _ _ _ h => h) (Or.inl ⟨by rfl, ?_⟩) hHeld ?_
          · intro w' hSw
            skip
            go_simp
          try simp only [Act.put, List.setIfInBounds_toArray, List.set_cons_zero, List.set_cons_succ]
          refine wpAnyH_ready (rs := [25]) (by kernel_rfl) (by simp) ?_
          refine (AllReadyH.cons (o := { dst := none, op := Op.store _ (Operand.tmp 70) (Operand.tmp 66), type := _, pos := "translate.go:85", after := #[{ on := 24, ground := Ground.data }, { on := 20, ground := Ground.data }, { on := 20, ground := Ground.chain }, { on := 0, ground := Ground.phase }, { on := 1, ground := Ground.phase }, { on := 2, ground := Ground.phase }, { on := 3, ground := Ground.phase }, { on := 4, ground := Ground.phase }, { on := 5, ground := Ground.phase }, { on := 6, ground := Ground.phase }, { on := 7, ground := Ground.phase }, { on := 8, ground := Ground.phase }, { on := 9, ground := Ground.phase }, { on := 10, ground := Ground.phase }, { on := 11, ground := Ground.phase }, { on := 12, ground := Ground.phase }, { on := 13, ground := Ground.phase }, { on := 14, ground := Ground.phase }, { on := 15, ground := Ground.phase }, { on := 16, ground := Ground.phase }, { on := 17, ground := Ground.phase }, { on := 18, ground := Ground.phase }, { on := 19, ground := Ground.phase }, { on := 20, ground := Ground.phase }], guard := none }) rfl (fun K hK => ?_) AllReadyH.nil)
          · go_simp
            refine hK.out _ _ trivial (fun _ => ?_)
            clear hK K
            try simp only [Act.put, List.setIfInBounds_toArray, List.set_cons_zero, List.set_cons_succ]
            refine wpAnyH_done (by kernel_rfl) ?_ _
            have HF5 := Lib.hid (HR0.out.rows (R' := R ++ stubRows L.length to m nx) HG4.out (by rw [List.length_append, List.flatMap_append]; exact HO4.out))
            have hB4 : Below base w w4 := ((HB2.out.drew.alloc (by simp; omega) _).grown HG4.out (by simp; omega) (fun k hk => (HR0.out.rs.lt k hk).1))
            have hS5 := own_rowsM HR0.out HG4.out (.slice a4 (R.length + 2) q4) ((HOS.out.alloc (.cells #[.int .i64 (L.length : Int), .int .u32 to, .int .i64 m, .int .i64 (-1), .int .i64 ((L.length : Int) + 2), .int .u32 to, .int .i64 0, .int .i64 nx] 27) : (w2.drew.alloc (.cells #[.int .i64 (L.length : Int), .int .u32 to, .int .i64 m, .int .i64 (-1), .int .i64 ((L.length : Int) + 2), .int .u32 to, .int .i64 0, .int .i64 nx] 27)).ownsRow _ _ _ _ _ _))
            have hsz4 : w2.heap.size ≤ w4.heap.size := by have := HG4.out.size; simp at this; omega
            have hB5 : Below base w (w4.setCell ⟨wk, 1, none⟩ (.slice a4 (R.length + 2) q4)) := hB4.setCell hwb _
            have hsz5 : w2.heap.size ≤ (w4.setCell ⟨wk, 1, none⟩ (.slice a4 (R.length + 2) q4)).heap.size := by simpa using hsz4
            obtain ⟨w5, hw5⟩ : ∃ x, x = w4.setCell ⟨wk, 1, none⟩ (.slice a4 (R.length + 2) q4) := ⟨_, rfl⟩
            rw [← hw5] at HF5 hB5 hS5 hsz5 ⊢
            have HB5 := Lib.hid hB5
            obtain ⟨g, cp, hv, hcg, hgl, hcells⟩ := own_some1 hS5 (by decide)
            simp at hv
            obtain ⟨rfl, rfl⟩ := hv
            have HC := Lib.hid hcells
            have q0 : w5.cell? ⟨wk, 0, none⟩ = some (.slice aB L.length cB) := HF5.out.cell 0
            clear hB4 hsz4 hw5 c4 f4 HG4 HO4 k0 k1 k9 k1' k9' k2 hHeld hcells hS5 hB5
            go_wp2_with (first | (at_builtin; refine wpList_append_own _ rfl _ _ 34 rfl base 5 i0 (.int .u8 0) 1 1 Try.underlying34 hi hz0 hz1 hz2 rfl (by decide) _ _ _ rfl HF5.out.bs ⟨g, 0, none⟩ 5 _ (E.map (Value.int .u8)) rfl (by simp [HE.out]) (fun j u hu => by rw [addr0]; exact HC.out j u hu) (fun u hu => by (obtain ⟨x, -, rfl⟩ := List.mem_map.1 hu; rfl)) (by unfold maxLen; omega) (by omega) (by omega) ?_; intro v7 w7 hown7 hgrow7 _; obtain ⟨a7, q7, rfl⟩ := own_slice hown7; have h7 := blk_grown HF5.out.bs (by decide) HF5.out.h hgrow7; have c7 : w7.cell? ⟨wk, 0, none⟩ = some (.slice aB L.length cB) := (World.cell?_of_block h7).trans (HF5.out.cell 0); have f7 : w7.frozen? ⟨wk, 0, none⟩ = false := (World.frozen?_of_block h7).trans (HF5.out.frozen 0); have c9 : w7.cell? ⟨wk, 9, none⟩ = some (.int .i64 nx) := (World.cell?_of_block h7).trans (HF5.out.cell 9); have f9 : w7.frozen? ⟨wk, 9, none⟩ = false := (World.frozen?_of_block h7).trans (HF5.out.frozen 9); clear h7))
            go_end0
            have hF7 := HF5.out.bytes (L' := L ++ E) hgrow7 (by rw [List.map_append, List.length_append, HE.out]; exact hown7)
            exact ⟨rfl, ⟨_, _, hF7.next (nx + 1)⟩, ((HB5.out.grown hgrow7 (by omega) (fun k hk => (HF5.out.bs.lt k hk).1)).setCell hwb _).setCell hwb _⟩
  · go_simp
    refine hK.out _ _ trivial (fun _ => ?_)
    clear hK K
    try simp only [Act.put, List.setIfInBounds_toArray, List.set_cons_zero, List.set_cons_succ]
    refine wpAnyH_take (i := 18) (oi := { dst := some 64, op := Op.build _ #[(0, Operand.tmp 58), (1, Operand.tmp 59), (3, Operand.tmp 63)], type := _, pos := "translate.go:85", after := #[{ on := 12, ground := Ground.data }, { on := 13, ground := Ground.data }, { on := 17, ground := Ground.data }], guard := none }) (v := .agg #[.int .i64 ((L.length : Int) + 2), .int .u32 to, .int .i64 0, .int .i64 nx]) rfl (by kernel_rfl) (by kernel_rfl) (by kernel_rfl) (fun _ _ _ h => h) (Or.inl ⟨by rfl, ?_⟩) hHeld ?_
    · intro w' hSw
      skip
      go_simp
    try simp only [Act.put, List.setIfInBounds_toArray, List.set_cons_zero, List.set_cons_succ]
    refine wpAnyH_ready (rs := [6, 19]) (by kernel_rfl) (by simp) ?_
    refine (AllReadyH.cons (o := { dst := some 52, op := Op.load _ (Operand.tmp 51), type := _, pos := "translate.go:85", after := #[{ on := 5, ground := Ground.data }], guard := none }) rfl (fun K hK => ?_) (AllReadyH.cons (o := { dst := some 65, op := Op.buildSlice 22 2 #[(0, Operand.tmp 56), (1, Operand.tmp 64)], type := _, pos := "translate.go:85", after := #[{ on := 10, ground := Ground.data }, { on := 18, ground := Ground.data }], guard := none }) rfl (fun K hK => ?_) AllReadyH.nil))
    · go_simp
      refine hK.out _ _ trivial (fun _ => ?_)
      clear hK K
      try simp only [Act.put, List.setIfInBounds_toArray, List.set_cons_zero, List.set_cons_succ]
      refine wpAnyH_ready (rs := [19]) (by kernel_rfl) (by simp) ?_
      refine (AllReadyH.cons (o := { dst := some 65, op := Op.buildSlice 22 2 #[(0, Operand.tmp 56), (1, Operand.tmp 64)], type := _, pos := "translate.go:85", after := #[{ on := 10, ground := Ground.data }, { on := 18, ground := Ground.data }], guard := none }) rfl (fun K hK => ?_) AllReadyH.nil)
      · go_simp
        refine hK.out _ _ trivial (fun _ => ?_)
        clear hK K
        try simp only [Act.put, List.setIfInBounds_toArray, List.set_cons_zero, List.set_cons_succ]
        refine wpAnyH_ready (rs := [20]) (by kernel_rfl) (by simp) ?_
        refine (AllReadyH.cons (o := { dst := some 66, op := Op.call { callee := Callee.builtin Builtin.append, args := #[Operand.tmp 52, Operand.tmp 65], argTypes := _ }, type := _, pos := "translate.go:85", after := #[{ on := 6, ground := Ground.data }, { on := 19, ground := Ground.data }], guard := none }) rfl (fun K hK => ?_) AllReadyH.nil)
        · refine (if_pos (by rfl)).mpr ?_
          refine wp_append_own _ _ _ 22 rfl base 27 r0 _ 4 32 Try.underlying22 hr hy0 hy1 hy2 rfl (by decide) _ _ _ rfl HR0.out.rs ⟨w2.heap.size, 0, none⟩ 2 2 (RowR.cells ⟨(L.length : Int), to, m, -1⟩ ++ RowR.cells ⟨(L.length : Int) + 2, to, 0, nx⟩) rfl rfl (cells_new _ _ _ _ rfl) (by simp [RowR.cells, Value.oneCell']) (by unfold maxLen; omega) (by omega) (by simp; omega) ?_
          intro v4 w4 hown4 hgrow4 _
          obtain ⟨a4, q4, rfl⟩ := own_slice hown4
          refine hK.out _ _ trivial (fun _ => ?_)
          clear hK K
          have h4 := blk_grown HR0.out.rs (by decide) HR0.out.h hgrow4
          have c4 : w4.cell? ⟨wk, 1, none⟩ = some (.slice aR R.length cR) := (World.cell?_of_block h4).trans (HR0.out.cell 1)
          have f4 : w4.frozen? ⟨wk, 1, none⟩ = false := (World.frozen?_of_block h4).trans (HR0.out.frozen 1)
          have HG4 := Lib.hid hgrow4
          have HO4 := Lib.hid hown4
          clear h4 hown4 hgrow4
          try simp only [Act.put, List.setIfInBounds_toArray, List.set_cons_zero, List.set_cons_succ]
          refine wpAnyH_take (i := 21) (oi := { dst := some 67, op := Op.nilCheck (Operand.tmp 46), type := _, pos := "translate.go:85", after := #[{ on := 0, ground := Ground.data }, { on := 0, ground := Ground.phase }, { on := 1, ground := Ground.phase }, { on := 2, ground := Ground.phase }, { on := 3, ground := Ground.phase }, { on := 4, ground := Ground.phase }, { on := 5, ground := Ground.phase }, { on := 6, ground := Ground.phase }, { on := 7, ground := Ground.phase }, { on := 8, ground := Ground.phase }, { on := 9, ground := Ground.phase }, { on := 10, ground := Ground.phase }, { on := 11, ground := Ground.phase }, { on := 12, ground := Ground.phase }, { on := 13, ground := Ground.phase }, { on := 14, ground := Ground.phase }, { on := 15, ground := Ground.phase }, { on := 16, ground := Ground.phase }, { on := 17, ground := Ground.phase }, { on := 18, ground := Ground.phase }, { on := 19, ground := Ground.phase }, { on := 20, ground := Ground.phase }], guard := none }) (v := .pointer (some ⟨wk, 0, none⟩)) rfl (by kernel_rfl) (by kernel_rfl) (by kernel_rfl) (fun _ _ _ h => h) (Or.inl ⟨by rfl, ?_⟩) hHeld ?_
          · intro w' hSw
            skip
            go_simp
          try simp only [Act.put, List.setIfInBounds_toArray, List.set_cons_zero, List.set_cons_succ]
          refine wpAnyH_take (i := 22) (oi := { dst := some 68, op := Op.fieldAddr _ (Operand.tmp 67) 0, type := _, pos := "translate.go:85", after := #[{ on := 21, ground := Ground.data }, { on := 0, ground := Ground.phase }, { on := 1, ground := Ground.phase }, { on := 2, ground := Ground.phase }, { on := 3, ground := Ground.phase }, { on := 4, ground := Ground.phase }, { on := 5, ground := Ground.phase }, { on := 6, ground := Ground.phase }, { on := 7, ground := Ground.phase }, { on := 8, ground := Ground.phase }, { on := 9, ground := Ground.phase }, { on := 10, ground := Ground.phase }, { on := 11, ground := Ground.phase }, { on := 12, ground := Ground.phase }, { on := 13, ground := Ground.phase }, { on := 14, ground := Ground.phase }, { on := 15, ground := Ground.phase }, { on := 16, ground := Ground.phase }, { on := 17, ground := Ground.phase }, { on := 18, ground := Ground.phase }, { on := 19, ground := Ground.phase }, { on := 20, ground := Ground.phase }], guard := none }) (v := .pointer (some ⟨wk, 0, none⟩)) rfl (by kernel_rfl) (by kernel_rfl) (by kernel_rfl) (fun _ _ _ h => h) (Or.inl ⟨by rfl, ?_⟩) hHeld ?_
          · intro w' hSw
            skip
            go_simp
          try simp only [Act.put, List.setIfInBounds_toArray, List.set_cons_zero, List.set_cons_succ]
          refine wpAnyH_take (i := 23) (oi := { dst := some 69, op := Op.fieldAddr _ (Operand.tmp 68) 0, type := _, pos := "translate.go:85", after := #[{ on := 22, ground := Ground.data }, { on := 0, ground := Ground.phase }, { on := 1, ground := Ground.phase }, { on := 2, ground := Ground.phase }, { on := 3, ground := Ground.phase }, { on := 4, ground := Ground.phase }, { on := 5, ground := Ground.phase }, { on := 6, ground := Ground.phase }, { on := 7, ground := Ground.phase }, { on := 8, ground := Ground.phase }, { on := 9, ground := Ground.phase }, { on := 10, ground := Ground.phase }, { on := 11, ground := Ground.phase }, { on := 12, ground := Ground.phase }, { on := 13, ground := Ground.phase }, { on := 14, ground := Ground.phase }, { on := 15, ground := Ground.phase }, { on := 16, ground := Ground.phase }, { on := 17, ground := Ground.phase }, { on := 18, ground := Ground.phase }, { on := 19, ground := Ground.phase }, { on := 20, ground := Ground.phase }], guard := none }) (v := .pointer (some ⟨wk, 0, none⟩)) rfl (by kernel_rfl) (by kernel_rfl) (by kernel_rfl) (fun _ _ _ h => h) (Or.inl ⟨by rfl, ?_⟩) hHeld ?_
          · intro w' hSw
            skip
            go_simp
          try simp only [Act.put, List.setIfInBounds_toArray, List.set_cons_zero, List.set_cons_succ]
          refine wpAnyH_take (i := 24) (oi := { dst := some 70, op := Op.fieldAddr _ (Operand.tmp 69) 1, type := _, pos := "translate.go:85", after := #[{ on := 23, ground := Ground.data }, { on := 0, ground := Ground.phase }, { on := 1, ground := Ground.phase }, { on := 2, ground := Ground.phase }, { on := 3, ground := Ground.phase }, { on := 4, ground := Ground.phase }, { on := 5, ground := Ground.phase }, { on := 6, ground := Ground.phase }, { on := 7, ground := Ground.phase }, { on := 8, ground := Ground.phase }, { on := 9, ground := Ground.phase }, { on := 10, ground := Ground.phase }, { on := 11, ground := Ground.phase }, { on := 12, ground := Ground.phase }, { on := 13, ground := Ground.phase }, { on := 14, ground := Ground.phase }, { on := 15, ground := Ground.phase }, { on := 16, ground := Ground.phase }, { on := 17, ground := Ground.phase }, { on := 18, ground := Ground.phase }, { on := 19, ground := Ground.phase }, { on := 20, ground := Ground.phase }], guard := none }) (v := .pointer (some ⟨wk, 1, none⟩)) rfl (by kernel_rfl) (by kernel_rfl) (by kernel_rfl) (fun _ _ _ h => h) (Or.inl ⟨by rfl, ?_⟩) hHeld ?_
          · intro w' hSw
            skip
            go_simp
          try simp only [Act.put, List.setIfInBounds_toArray, List.set_cons_zero, List.set_cons_succ]
          refine wpAnyH_ready (rs := [25]) (by kernel_rfl) (by simp) ?_
          refine (AllReadyH.cons (o := { dst := none, op := Op.store _ (Operand.tmp 70) (Operand.tmp 66), type := _, pos := "translate.go:85", after := #[{ on := 24, ground := Ground.data }, { on := 20, ground := Ground.data }, { on := 20, ground := Ground.chain }, { on := 0, ground := Ground.phase }, { on := 1, ground := Ground.phase }, { on := 2, ground := Ground.phase }, { on := 3, ground := Ground.phase }, { on := 4, ground := Ground.phase }, { on := 5, ground := Ground.phase }, { on := 6, ground := Ground.phase }, { on := 7, ground := Ground.phase }, { on := 8, ground := Ground.phase }, { on := 9, ground := Ground.phase }, { on := 10, ground := Ground.phase }, { on := 11, ground := Ground.phase }, { on := 12, ground := Ground.phase }, { on := 13, ground := Ground.phase }, { on := 14, ground := Ground.phase }, { on := 15, ground := Ground.phase }, { on := 16, ground := Ground.phase }, { on := 17, ground := Ground.phase }, { on := 18, ground := Ground.phase }, { on := 19, ground := Ground.phase }, { on := 20, ground := Ground.phase }], guard := none }) rfl (fun K hK => ?_) AllReadyH.nil)
          · go_simp
            refine hK.out _ _ trivial (fun _ => ?_)
            clear hK K
            try simp only [Act.put, List.setIfInBounds_toArray, List.set_cons_zero, List.set_cons_succ]
            refine wpAnyH_done (by kernel_rfl) ?_ _
            have HF5 := Lib.hid (HR0.out.rows (R' := R ++ stubRows L.length to m nx) HG4.out (by rw [List.length_append, List.flatMap_append]; exact HO4.out))
            have hB4 : Below base w w4 := ((HB2.out.drew.alloc (by simp; omega) _).grown HG4.out (by simp; omega) (fun k hk => (HR0.out.rs.lt k hk).1))
            have hS5 := own_rowsM HR0.out HG4.out (.slice a4 (R.length + 2) q4) ((HOS.out.alloc (.cells #[.int .i64 (L.length : Int), .int .u32 to, .int .i64 m, .int .i64 (-1), .int .i64 ((L.length : Int) + 2), .int .u32 to, .int .i64 0, .int .i64 nx] 27) : (w2.drew.alloc (.cells #[.int .i64 (L.length : Int), .int .u32 to, .int .i64 m, .int .i64 (-1), .int .i64 ((L.length : Int) + 2), .int .u32 to, .int .i64 0, .int .i64 nx] 27)).ownsRow _ _ _ _ _ _))
            have hsz4 : w2.heap.size ≤ w4.heap.size := by have := HG4.out.size; simp at this; omega
            have hB5 : Below base w (w4.setCell ⟨wk, 1, none⟩ (.slice a4 (R.length + 2) q4)) := hB4.setCell hwb _
            have hsz5 : w2.heap.size ≤ (w4.setCell ⟨wk, 1, none⟩ (.slice a4 (R.length + 2) q4)).heap.size := by simpa using hsz4
            obtain ⟨w5, hw5⟩ : ∃ x, x = w4.setCell ⟨wk, 1, none⟩ (.slice a4 (R.length + 2) q4) := ⟨_, rfl⟩
            rw [← hw5] at HF5 hB5 hS5 hsz5 ⊢
            have HB5 := Lib.hid hB5
            obtain ⟨g, cp, hv, hcg, hgl, hcells⟩ := own_some1 hS5 (by decide)
            simp at hv
            obtain ⟨rfl, rfl⟩ := hv
            have HC := Lib.hid hcells
            have q0 : w5.cell? ⟨wk, 0, none⟩ = some (.slice aB L.length cB) := HF5.out.cell 0
            clear hB4 hsz4 hw5 c4 f4 HG4 HO4 k0 k1 k9 k1' k9' k2 hHeld hcells hS5 hB5
            go_wp2_with (first | (at_builtin; refine wpList_append_own _ rfl _ _ 34 rfl base 5 i0 (.int .u8 0) 1 1 Try.underlying34 hi hz0 hz1 hz2 rfl (by decide) _ _ _ rfl HF5.out.bs ⟨g, 0, none⟩ 5 _ (E.map (Value.int .u8)) rfl (by simp [HE.out]) (fun j u hu => by rw [addr0]; exact HC.out j u hu) (fun u hu => by (obtain ⟨x, -, rfl⟩ := List.mem_map.1 hu; rfl)) (by unfold maxLen; omega) (by omega) (by omega) ?_; intro v7 w7 hown7 hgrow7 _; obtain ⟨a7, q7, rfl⟩ := own_slice hown7; have h7 := blk_grown HF5.out.bs (by decide) HF5.out.h hgrow7; have c7 : w7.cell? ⟨wk, 0, none⟩ = some (.slice aB L.length cB) := (World.cell?_of_block h7).trans (HF5.out.cell 0); have f7 : w7.frozen? ⟨wk, 0, none⟩ = false := (World.frozen?_of_block h7).trans (HF5.out.frozen 0); have c9 : w7.cell? ⟨wk, 9, none⟩ = some (.int .i64 nx) := (World.cell?_of_block h7).trans (HF5.out.cell 9); have f9 : w7.frozen? ⟨wk, 9, none⟩ = false := (World.frozen?_of_block h7).trans (HF5.out.frozen 9); clear h7))
            go_end0
            have hF7 := HF5.out.bytes (L' := L ++ E) hgrow7 (by rw [List.map_append, List.length_append, HE.out]; exact hown7)
            exact ⟨rfl, ⟨_, _, hF7.next (nx + 1)⟩, ((HB5.out.grown hgrow7 (by omega) (fun k hk => (HF5.out.bs.lt k hk).1)).setCell hwb _).setCell hwb _⟩
    · go_simp
      refine hK.out _ _ trivial (fun _ => ?_)
      clear hK K
      try simp only [Act.put, List.setIfInBounds_toArray, List.set_cons_zero, List.set_cons_succ]
      refine wpAnyH_ready (rs := [6]) (by kernel_rfl) (by simp) ?_
      refine (AllReadyH.cons (o := { dst := some 52, op := Op.load _ (Operand.tmp 51), type := _, pos := "translate.go:85", after := #[{ on := 5, ground := Ground.data }], guard := none }) rfl (fun K hK => ?_) AllReadyH.nil)
      · go_simp
        refine hK.out _ _ trivial (fun _ => ?_)
        clear hK K
        try simp only [Act.put, List.setIfInBounds_toArray, List.set_cons_zero, List.set_cons_succ]
        refine wpAnyH_ready (rs := [20]) (by kernel_rfl) (by simp) ?_
        refine (AllReadyH.cons (o := { dst := some 66, op := Op.call { callee := Callee.builtin Builtin.append, args := #[Operand.tmp 52, Operand.tmp 65], argTypes := _ }, type := _, pos := "translate.go:85", after := #[{ on := 6, ground := Ground.data }, { on := 19, ground := Ground.data }], guard := none }) rfl (fun K hK => ?_) AllReadyH.nil)
        · refine (if_pos (by rfl)).mpr ?_
          refine wp_append_own _ _ _ 22 rfl base 27 r0 _ 4 32 Try.underlying22 hr hy0 hy1 hy2 rfl (by decide) _ _ _ rfl HR0.out.rs ⟨w2.heap.size, 0, none⟩ 2 2 (RowR.cells ⟨(L.length : Int), to, m, -1⟩ ++ RowR.cells ⟨(L.length : Int) + 2, to, 0, nx⟩) rfl rfl (cells_new _ _ _ _ rfl) (by simp [RowR.cells, Value.oneCell']) (by unfold maxLen; omega) (by omega) (by simp; omega) ?_
          intro v4 w4 hown4 hgrow4 _
          obtain ⟨a4, q4, rfl⟩ := own_slice hown4
          refine hK.out _ _ trivial (fun _ => ?_)
          clear hK K
          have h4 := blk_grown HR0.out.rs (by decide) HR0.out.h hgrow4
          have c4 : w4.cell? ⟨wk, 1, none⟩ = some (.slice aR R.length cR) := (World.cell?_of_block h4).trans (HR0.out.cell 1)
          have f4 : w4.frozen? ⟨wk, 1, none⟩ = false := (World.frozen?_of_block h4).trans (HR0.out.frozen 1)
          have HG4 := Lib.hid hgrow4
          have HO4 := Lib.hid hown4
          clear h4 hown4 hgrow4
          try simp only [Act.put, List.setIfInBounds_toArray, List.set_cons_zero, List.set_cons_succ]
          refine wpAnyH_take (i := 21) (oi := { dst := some 67, op := Op.nilCheck (Operand.tmp 46), type := _, pos := "translate.go:85", after := #[{ on := 0, ground := Ground.data }, { on := 0, ground := Ground.phase }, { on := 1, ground := Ground.phase }, { on := 2, ground := Ground.phase }, { on := 3, ground := Ground.phase }, { on := 4, ground := Ground.phase }, { on := 5, ground := Ground.phase }, { on := 6, ground := Ground.phase }, { on := 7, ground := Ground.phase }, { on := 8, ground := Ground.phase }, { on := 9, ground := Ground.phase }, { on := 10, ground := Ground.phase }, { on := 11, ground := Ground.phase }, { on := 12, ground := Ground.phase }, { on := 13, ground := Ground.phase }, { on := 14, ground := Ground.phase }, { on := 15, ground := Ground.phase }, { on := 16, ground := Ground.phase }, { on := 17, ground := Ground.phase }, { on := 18, ground := Ground.phase }, { on := 19, ground := Ground.phase }, { on := 20, ground := Ground.phase }], guard := none }) (v := .pointer (some ⟨wk, 0, none⟩)) rfl (by kernel_rfl) (by kernel_rfl) (by kernel_rfl) (fun _ _ _ h => h) (Or.inl ⟨by rfl, ?_⟩) hHeld ?_
          · intro w' hSw
            skip
            go_simp
          try simp only [Act.put, List.setIfInBounds_toArray, List.set_cons_zero, List.set_cons_succ]
          refine wpAnyH_take (i := 22) (oi := { dst := some 68, op := Op.fieldAddr _ (Operand.tmp 67) 0, type := _, pos := "translate.go:85", after := #[{ on := 21, ground := Ground.data }, { on := 0, ground := Ground.phase }, { on := 1, ground := Ground.phase }, { on := 2, ground := Ground.phase }, { on := 3, ground := Ground.phase }, { on := 4, ground := Ground.phase }, { on := 5, ground := Ground.phase }, { on := 6, ground := Ground.phase }, { on := 7, ground := Ground.phase }, { on := 8, ground := Ground.phase }, { on := 9, ground := Ground.phase }, { on := 10, ground := Ground.phase }, { on := 11, ground := Ground.phase }, { on := 12, ground := Ground.phase }, { on := 13, ground := Ground.phase }, { on := 14, ground := Ground.phase }, { on := 15, ground := Ground.phase }, { on := 16, ground := Ground.phase }, { on := 17, ground := Ground.phase }, { on := 18, ground := Ground.phase }, { on := 19, ground := Ground.phase }, { on := 20, ground := Ground.phase }], guard := none }) (v := .pointer (some ⟨wk, 0, none⟩)) rfl (by kernel_rfl) (by kernel_rfl) (by kernel_rfl) (fun _ _ _ h => h) (Or.inl ⟨by rfl, ?_⟩) hHeld ?_
          · intro w' hSw
            skip
            go_simp
          try simp only [Act.put, List.setIfInBounds_toArray, List.set_cons_zero, List.set_cons_succ]
          refine wpAnyH_take (i := 23) (oi := { dst := some 69, op := Op.fieldAddr _ (Operand.tmp 68) 0, type := _, pos := "translate.go:85", after := #[{ on := 22, ground := Ground.data }, { on := 0, ground := Ground.phase }, { on := 1, ground := Ground.phase }, { on := 2, ground := Ground.phase }, { on := 3, ground := Ground.phase }, { on := 4, ground := Ground.phase }, { on := 5, ground := Ground.phase }, { on := 6, ground := Ground.phase }, { on := 7, ground := Ground.phase }, { on := 8, ground := Ground.phase }, { on := 9, ground := Ground.phase }, { on := 10, ground := Ground.phase }, { on := 11, ground := Ground.phase }, { on := 12, ground := Ground.phase }, { on := 13, ground := Ground.phase }, { on := 14, ground := Ground.phase }, { on := 15, ground := Ground.phase }, { on := 16, ground := Ground.phase }, { on := 17, ground := Ground.phase }, { on := 18, ground := Ground.phase }, { on := 19, ground := Ground.phase }, { on := 20, ground := Ground.phase }], guard := none }) (v := .pointer (some ⟨wk, 0, none⟩)) rfl (by kernel_rfl) (by kernel_rfl) (by kernel_rfl) (fun _ _ _ h => h) (Or.inl ⟨by rfl, ?_⟩) hHeld ?_
          · intro w' hSw
            skip
            go_simp
          try simp only [Act.put, List.setIfInBounds_toArray, List.set_cons_zero, List.set_cons_succ]
          refine wpAnyH_take (i := 24) (oi := { dst := some 70, op := Op.fieldAddr _ (Operand.tmp 69) 1, type := _, pos := "translate.go:85", after := #[{ on := 23, ground := Ground.data }, { on := 0, ground := Ground.phase }, { on := 1, ground := Ground.phase }, { on := 2, ground := Ground.phase }, { on := 3, ground := Ground.phase }, { on := 4, ground := Ground.phase }, { on := 5, ground := Ground.phase }, { on := 6, ground := Ground.phase }, { on := 7, ground := Ground.phase }, { on := 8, ground := Ground.phase }, { on := 9, ground := Ground.phase }, { on := 10, ground := Ground.phase }, { on := 11, ground := Ground.phase }, { on := 12, ground := Ground.phase }, { on := 13, ground := Ground.phase }, { on := 14, ground := Ground.phase }, { on := 15, ground := Ground.phase }, { on := 16, ground := Ground.phase }, { on := 17, ground := Ground.phase }, { on := 18, ground := Ground.phase }, { on := 19, ground := Ground.phase }, { on := 20, ground := Ground.phase }], guard := none }) (v := .pointer (some ⟨wk, 1, none⟩)) rfl (by kernel_rfl) (by kernel_rfl) (by kernel_rfl) (fun _ _ _ h => h) (Or.inl ⟨by rfl, ?_⟩) hHeld ?_
          · intro w' hSw
            skip
            go_simp
          try simp only [Act.put, List.setIfInBounds_toArray, List.set_cons_zero, List.set_cons_succ]
          refine wpAnyH_ready (rs := [25]) (by kernel_rfl) (by simp) ?_
          refine (AllReadyH.cons (o := { dst := none, op := Op.store _ (Operand.tmp 70) (Operand.tmp 66), type := _, pos := "translate.go:85", after := #[{ on := 24, ground := Ground.data }, { on := 20, ground := Ground.data }, { on := 20, ground := Ground.chain }, { on := 0, ground := Ground.phase }, { on := 1, ground := Ground.phase }, { on := 2, ground := Ground.phase }, { on := 3, ground := Ground.phase }, { on := 4, ground := Ground.phase }, { on := 5, ground := Ground.phase }, { on := 6, ground := Ground.phase }, { on := 7, ground := Ground.phase }, { on := 8, ground := Ground.phase }, { on := 9, ground := Ground.phase }, { on := 10, ground := Ground.phase }, { on := 11, ground := Ground.phase }, { on := 12, ground := Ground.phase }, { on := 13, ground := Ground.phase }, { on := 14, ground := Ground.phase }, { on := 15, ground := Ground.phase }, { on := 16, ground := Ground.phase }, { on := 17, ground := Ground.phase }, { on := 18, ground := Ground.phase }, { on := 19, ground := Ground.phase }, { on := 20, ground := Ground.phase }], guard := none }) rfl (fun K hK => ?_) AllReadyH.nil)
          · go_simp
            refine hK.out _ _ trivial (fun _ => ?_)
            clear hK K
            try simp only [Act.put, List.setIfInBounds_toArray, List.set_cons_zero, List.set_cons_succ]
            refine wpAnyH_done (by kernel_rfl) ?_ _
            have HF5 := Lib.hid (HR0.out.rows (R' := R ++ stubRows L.length to m nx) HG4.out (by rw [List.length_append, List.flatMap_append]; exact HO4.out))
            have hB4 : Below base w w4 := ((HB2.out.drew.alloc (by simp; omega) _).grown HG4.out (by simp; omega) (fun k hk => (HR0.out.rs.lt k hk).1))
            have hS5 := own_rowsM HR0.out HG4.out (.slice a4 (R.length + 2) q4) ((HOS.out.alloc (.cells #[.int .i64 (L.length : Int), .int .u32 to, .int .i64 m, .int .i64 (-1), .int .i64 ((L.length : Int) + 2), .int .u32 to, .int .i64 0, .int .i64 nx] 27) : (w2.drew.alloc (.cells #[.int .i64 (L.length : Int), .int .u32 to, .int .i64 m, .int .i64 (-1), .int .i64 ((L.length : Int) + 2), .int .u32 to, .int .i64 0, .int .i64 nx] 27)).ownsRow _ _ _ _ _ _))
            have hsz4 : w2.heap.size ≤ w4.heap.size := by have := HG4.out.size; simp at this; omega
            have hB5 : Below base w (w4.setCell ⟨wk, 1, none⟩ (.slice a4 (R.length + 2) q4)) := hB4.setCell hwb _
            have hsz5 : w2.heap.size ≤ (w4.setCell ⟨wk, 1, none⟩ (.slice a4 (R.length + 2) q4)).heap.size := by simpa using hsz4
            obtain ⟨w5, hw5⟩ : ∃ x, x = w4.setCell ⟨wk, 1, none⟩ (.slice a4 (R.length + 2) q4) := ⟨_, rfl⟩
            rw [← hw5] at HF5 hB5 hS5 hsz5 ⊢
            have HB5 := Lib.hid hB5
            obtain ⟨g, cp, hv, hcg, hgl, hcells⟩ := own_some1 hS5 (by decide)
            simp at hv
            obtain ⟨rfl, rfl⟩ := hv
            have HC := Lib.hid hcells
            have q0 : w5.cell? ⟨wk, 0, none⟩ = some (.slice aB L.length cB) := HF5.out.cell 0
            clear hB4 hsz4 hw5 c4 f4 HG4 HO4 k0 k1 k9 k1' k9' k2 hHeld hcells hS5 hB5
            go_wp2_with (first | (at_builtin; refine wpList_append_own _ rfl _ _ 34 rfl base 5 i0 (.int .u8 0) 1 1 Try.underlying34 hi hz0 hz1 hz2 rfl (by decide) _ _ _ rfl HF5.out.bs ⟨g, 0, none⟩ 5 _ (E.map (Value.int .u8)) rfl (by simp [HE.out]) (fun j u hu => by rw [addr0]; exact HC.out j u hu) (fun u hu => by (obtain ⟨x, -, rfl⟩ := List.mem_map.1 hu; rfl)) (by unfold maxLen; omega) (by omega) (by omega) ?_; intro v7 w7 hown7 hgrow7 _; obtain ⟨a7, q7, rfl⟩ := own_slice hown7; have h7 := blk_grown HF5.out.bs (by decide) HF5.out.h hgrow7; have c7 : w7.cell? ⟨wk, 0, none⟩ = some (.slice aB L.length cB) := (World.cell?_of_block h7).trans (HF5.out.cell 0); have f7 : w7.frozen? ⟨wk, 0, none⟩ = false := (World.frozen?_of_block h7).trans (HF5.out.frozen 0); have c9 : w7.cell? ⟨wk, 9, none⟩ = some (.int .i64 nx) := (World.cell?_of_block h7).trans (HF5.out.cell 9); have f9 : w7.frozen? ⟨wk, 9, none⟩ = false := (World.frozen?_of_block h7).trans (HF5.out.frozen 9); clear h7))
            go_end0
            have hF7 := HF5.out.bytes (L' := L ++ E) hgrow7 (by rw [List.map_append, List.length_append, HE.out]; exact hown7)
            exact ⟨rfl, ⟨_, _, hF7.next (nx + 1)⟩, ((HB5.out.grown hgrow7 (by omega) (fun k hk => (HF5.out.bs.lt k hk).1)).setCell hwb _).setCell hwb _⟩
end Go.Proofs.Ytnmgfckefofcpaa
