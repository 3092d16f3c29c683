/- The walks of (*writer).lay and (*work).stub. (Written by mkMD.py.) -/
import Derived.Test.YtnmgfckefofcpaaMadC
import Derived.Deep.RegionHeld
namespace Go.Proofs.Ytnmgfckefofcpaa
open Go.RowKit
set_option linter.unusedSimpArgs false
set_option linter.unusedVariables false
set_option maxRecDepth 100000

theorem WkFix.drew {base wk b L R nx vB vR w} (h : WkFix base wk b L R nx vB vR w) : WkFix base wk b L R nx vB vR w.drew := ⟨h.h, h.le, h.bs, h.rs⟩

set_option maxHeartbeats 8000000 in
theorem lay_c (base wk : Nat) (b : BlkR) (L : List Int) (R : List RowR) (nx op a c imm pc d : Int) (w : World) (h0 : 0 ≤ op) (h1 : op < 256) (h2 : 0 ≤ a) (h3 : a < 256) (h4 : 0 ≤ c) (h5 : c < 256) (h6 : -2147483648 ≤ imm) (h7 : imm < 2147483648)
    (hm : Isa.mayB (Isa.fm op false) a c imm = true) (hw : WkAt base wk b L R nx w) (hbs : base ≤ w.heap.size) (hL : L.length ≤ 1000) (hR : R.length ≤ 1000) :
    Calls Try.prog 26 #[.pointer (some ⟨wk, 0, none⟩), Isa.insV op a c imm, .int .u32 pc, .int .i64 d] w fun e w' => e = .returned (.tuple #[]) ∧ WkAt base wk b (L ++ Isa.encL (Isa.fm op false) op a c imm) (R ++ [⟨(L.length : Int), pc, d, -1⟩]) nx w' ∧ Below base w w' := by
  obtain ⟨i0, hi, hz0, hz1, hz2⟩ := info_parts Isa.Try.infoB
  obtain ⟨r0, hr, hy0, hy1, hy2⟩ := info_parts Try.infoR
  have HE := Lib.hid fun w => Isa.encode_yes op a c imm false w h0 h1 h2 h3 h4 h5 h6 h7 hm
  have hel := encL_le (Isa.fm op false) op a c imm
  generalize Isa.encL (Isa.fm op false) op a c imm = E at HE hel ⊢
  unfold Isa.insV at HE ⊢
  obtain ⟨vB, vR, hF⟩ := hw
  obtain ⟨aB, cB, rfl⟩ := own_slice hF.bs
  obtain ⟨aR, cR, rfl⟩ := own_slice hF.rs
  have hlt := hF.lt
  have hwb := hF.le
  clear hm
  go_enter Try.func26, Try.ntmps26
  go_wp2_with fail
  obtain ⟨w0, hw0⟩ : ∃ x, x = w.alloc (.cells #[.int .u8 op, .int .u8 a, .int .u8 c, .int .i32 imm] 51) := ⟨_, rfl⟩
  rw [← hw0]
  have hF0 : WkFix base wk b L R nx (.slice aB L.length cB) (.slice aR R.length cR) w0.drew := by rw [hw0]; exact (hF.alloc _).drew
  have hbox : w0.drew.heap[w.heap.size]? = some (.cells #[.int .u8 op, .int .u8 a, .int .u8 c, .int .i32 imm] 51 (0, 0)) := by rw [hw0]; exact heap_new' rfl
  have hB0 : Below base w w0.drew := by rw [hw0]; exact ((Below.refl base w).alloc hbs _).drew
  have hs0 : w0.heap.size = w.heap.size + 1 := by rw [hw0]; simp
  have HS0 := Lib.hid hs0
  have HF0 := Lib.hid hF0
  have HB0 := Lib.hid hB0
  have HBX := Lib.hid hbox
  have k0 : w0.drew.cell? ⟨wk, 0, none⟩ = some (.slice aB L.length cB) := hF0.cell 0
  have k1 : w0.drew.cell? ⟨wk, 1, none⟩ = some (.slice aR R.length cR) := hF0.cell 1
  have k0' : w0.cell? ⟨wk, 0, none⟩ = some (.slice aB L.length cB) := hF0.cell 0
  have k1' : w0.cell? ⟨wk, 1, none⟩ = some (.slice aR R.length cR) := hF0.cell 1
  have hlt0 : wk < w0.heap.size := hF0.lt
  clear hF hF0 hB0 hw0 hbox hs0
  refine wp_region_held_drew (S := fun _ => True) (by kernel_rfl) trivial (fun hHeld => ?_)
  refine wpAnyH_take (i := 0) (oi := { dst := some 10, op := Op.move (Operand.tmp 0), type := _, pos := "translate.go:61", after := #[], guard := none }) (v := .pointer (some ⟨wk, 0, none⟩)) rfl (by kernel_rfl) (by kernel_rfl) (by kernel_rfl) (fun _ _ _ h => h) (Or.inl ⟨by rfl, ?_⟩) hHeld ?_
  · intro w' hSw
    skip
    go_simp
  try simp only [Act.put, List.setIfInBounds_toArray, List.set_cons_zero, List.set_cons_succ]
  refine wpAnyH_take (i := 1) (oi := { dst := some 11, op := Op.move (Operand.tmp 0), type := _, pos := "translate.go:61", after := #[], guard := none }) (v := .pointer (some ⟨wk, 0, none⟩)) rfl (by kernel_rfl) (by kernel_rfl) (by kernel_rfl) (fun _ _ _ h => h) (Or.inl ⟨by rfl, ?_⟩) hHeld ?_
  · intro w' hSw
    skip
    go_simp
  try simp only [Act.put, List.setIfInBounds_toArray, List.set_cons_zero, List.set_cons_succ]
  refine wpAnyH_take (i := 2) (oi := { dst := some 12, op := Op.nilCheck (Operand.tmp 11), type := _, pos := "translate.go:61", after := #[{ on := 1, ground := Ground.data }], guard := none }) (v := .pointer (some ⟨wk, 0, none⟩)) rfl (by kernel_rfl) (by kernel_rfl) (by kernel_rfl) (fun _ _ _ h => h) (Or.inl ⟨by rfl, ?_⟩) hHeld ?_
  · intro w' hSw
    skip
    go_simp
  try simp only [Act.put, List.setIfInBounds_toArray, List.set_cons_zero, List.set_cons_succ]
  refine wpAnyH_take (i := 3) (oi := { dst := some 13, op := Op.fieldAddr _ (Operand.tmp 12) 0, type := _, pos := "translate.go:61", after := #[{ on := 2, ground := Ground.data }], guard := none }) (v := .pointer (some ⟨wk, 0, none⟩)) rfl (by kernel_rfl) (by kernel_rfl) (by kernel_rfl) (fun _ _ _ h => h) (Or.inl ⟨by rfl, ?_⟩) hHeld ?_
  · intro w' hSw
    skip
    go_simp
  try simp only [Act.put, List.setIfInBounds_toArray, List.set_cons_zero, List.set_cons_succ]
  refine wpAnyH_take (i := 4) (oi := { dst := some 14, op := Op.fieldAddr _ (Operand.tmp 13) 1, type := _, pos := "translate.go:61", after := #[{ on := 3, ground := Ground.data }], guard := none }) (v := .pointer (some ⟨wk, 1, none⟩)) rfl (by kernel_rfl) (by kernel_rfl) (by kernel_rfl) (fun _ _ _ h => h) (Or.inl ⟨by rfl, ?_⟩) hHeld ?_
  · intro w' hSw
    skip
    go_simp
  try simp only [Act.put, List.setIfInBounds_toArray, List.set_cons_zero, List.set_cons_succ]
  refine wpAnyH_take (i := 6) (oi := { dst := some 16, op := Op.move (Operand.tmp 0), type := _, pos := "translate.go:61", after := #[], guard := none }) (v := .pointer (some ⟨wk, 0, none⟩)) rfl (by kernel_rfl) (by kernel_rfl) (by kernel_rfl) (fun _ _ _ h => h) (Or.inl ⟨by rfl, ?_⟩) hHeld ?_
  · intro w' hSw
    skip
    go_simp
  try simp only [Act.put, List.setIfInBounds_toArray, List.set_cons_zero, List.set_cons_succ]
  refine wpAnyH_take (i := 7) (oi := { dst := some 17, op := Op.nilCheck (Operand.tmp 16), type := _, pos := "translate.go:61", after := #[{ on := 6, ground := Ground.data }], guard := none }) (v := .pointer (some ⟨wk, 0, none⟩)) rfl (by kernel_rfl) (by kernel_rfl) (by kernel_rfl) (fun _ _ _ h => h) (Or.inl ⟨by rfl, ?_⟩) hHeld ?_
  · intro w' hSw
    skip
    go_simp
  try simp only [Act.put, List.setIfInBounds_toArray, List.set_cons_zero, List.set_cons_succ]
  refine wpAnyH_take (i := 8) (oi := { dst := some 18, op := Op.fieldAddr _ (Operand.tmp 17) 0, type := _, pos := "translate.go:61", after := #[{ on := 7, ground := Ground.data }], guard := none }) (v := .pointer (some ⟨wk, 0, none⟩)) rfl (by kernel_rfl) (by kernel_rfl) (by kernel_rfl) (fun _ _ _ h => h) (Or.inl ⟨by rfl, ?_⟩) hHeld ?_
  · intro w' hSw
    skip
    go_simp
  try simp only [Act.put, List.setIfInBounds_toArray, List.set_cons_zero, List.set_cons_succ]
  refine wpAnyH_take (i := 9) (oi := { dst := some 19, op := Op.fieldAddr _ (Operand.tmp 18) 0, type := _, pos := "translate.go:61", after := #[{ on := 8, ground := Ground.data }], guard := none }) (v := .pointer (some ⟨wk, 0, none⟩)) rfl (by kernel_rfl) (by kernel_rfl) (by kernel_rfl) (fun _ _ _ h => h) (Or.inl ⟨by rfl, ?_⟩) hHeld ?_
  · intro w' hSw
    skip
    go_simp
  try simp only [Act.put, List.setIfInBounds_toArray, List.set_cons_zero, List.set_cons_succ]
  refine wpAnyH_take (i := 12) (oi := { dst := some 22, op := Op.move (Operand.tmp 2), type := _, pos := "translate.go:61", after := #[], guard := none }) (v := .int .u32 pc) rfl (by kernel_rfl) (by kernel_rfl) (by kernel_rfl) (fun _ _ _ h => h) (Or.inl ⟨by rfl, ?_⟩) hHeld ?_
  · intro w' hSw
    skip
    go_simp
  try simp only [Act.put, List.setIfInBounds_toArray, List.set_cons_zero, List.set_cons_succ]
  refine wpAnyH_take (i := 13) (oi := { dst := some 23, op := Op.move (Operand.tmp 3), type := _, pos := "translate.go:61", after := #[], guard := none }) (v := .int .i64 d) rfl (by kernel_rfl) (by kernel_rfl) (by kernel_rfl) (fun _ _ _ h => h) (Or.inl ⟨by rfl, ?_⟩) hHeld ?_
  · intro w' hSw
    skip
    go_simp
  try simp only [Act.put, List.setIfInBounds_toArray, List.set_cons_zero, List.set_cons_succ]
  refine wpAnyH_ready (rs := [5, 10]) (by kernel_rfl) (by simp) ?_
  refine (AllReadyH.cons (o := { dst := some 15, op := Op.load _ (Operand.tmp 14), type := _, pos := "translate.go:61", after := #[{ on := 4, ground := Ground.data }], guard := none }) rfl (fun K hK => ?_) (AllReadyH.cons (o := { dst := some 20, op := Op.load _ (Operand.tmp 19), type := _, pos := "translate.go:61", after := #[{ on := 9, ground := Ground.data }], guard := none }) rfl (fun K hK => ?_) AllReadyH.nil))
  · go_simp
    refine hK.out _ _ trivial (fun _ => ?_)
    clear hK K
    try simp only [Act.put, List.setIfInBounds_toArray, List.set_cons_zero, List.set_cons_succ]
    refine wpAnyH_ready (rs := [10]) (by kernel_rfl) (by simp) ?_
    refine (AllReadyH.cons (o := { dst := some 20, op := Op.load _ (Operand.tmp 19), type := _, pos := "translate.go:61", after := #[{ on := 9, ground := Ground.data }], guard := none }) rfl (fun K hK => ?_) AllReadyH.nil)
    · go_simp
      refine hK.out _ _ trivial (fun _ => ?_)
      clear hK K
      try simp only [Act.put, List.setIfInBounds_toArray, List.set_cons_zero, List.set_cons_succ]
      refine wpAnyH_take (i := 11) (oi := { dst := some 21, op := Op.call { callee := Callee.builtin Builtin.len, args := #[Operand.tmp 20], argTypes := _ }, type := _, pos := "translate.go:61", after := #[{ on := 10, ground := Ground.data }], guard := none }) (v := .int .i64 (L.length : Int)) rfl (by kernel_rfl) (by kernel_rfl) (by kernel_rfl) (fun _ _ _ h => h) (Or.inl ⟨by rfl, ?_⟩) hHeld ?_
      · intro w' hSw
        skip
        go_simp
      try simp only [Act.put, List.setIfInBounds_toArray, List.set_cons_zero, List.set_cons_succ]
      refine wpAnyH_take (i := 14) (oi := { dst := some 24, op := Op.build _ #[(0, Operand.tmp 21), (1, Operand.tmp 22), (2, Operand.tmp 23), (3, Operand.const (Value.int IntKind.i64 (-1)))], type := _, pos := "translate.go:61", after := #[{ on := 11, ground := Ground.data }, { on := 12, ground := Ground.data }, { on := 13, ground := Ground.data }], guard := none }) (v := .agg #[.int .i64 (L.length : Int), .int .u32 pc, .int .i64 d, .int .i64 (-1)]) rfl (by kernel_rfl) (by kernel_rfl) (by kernel_rfl) (fun _ _ _ h => h) (Or.inl ⟨by rfl, ?_⟩) hHeld ?_
      · intro w' hSw
        skip
        go_simp
      try simp only [Act.put, List.setIfInBounds_toArray, List.set_cons_zero, List.set_cons_succ]
      refine wpAnyH_ready (rs := [15]) (by kernel_rfl) (by simp) ?_
      refine (AllReadyH.cons (o := { dst := some 25, op := Op.buildSlice 22 1 #[(0, Operand.tmp 24)], type := _, pos := "translate.go:61", after := #[{ on := 14, ground := Ground.data }], guard := none }) rfl (fun K hK => ?_) AllReadyH.nil)
      · go_simp
        refine hK.out _ _ trivial (fun _ => ?_)
        clear hK K
        try simp only [Act.put, List.setIfInBounds_toArray, List.set_cons_zero, List.set_cons_succ]
        refine wpAnyH_ready (rs := [16]) (by kernel_rfl) (by simp) ?_
        refine (AllReadyH.cons (o := { dst := some 26, op := Op.call { callee := Callee.builtin Builtin.append, args := #[Operand.tmp 15, Operand.tmp 25], argTypes := _ }, type := _, pos := "translate.go:61", after := #[{ on := 5, ground := Ground.data }, { on := 15, ground := Ground.data }], guard := none }) rfl (fun K hK => ?_) AllReadyH.nil)
        · refine (if_pos (by rfl)).mpr ?_
          refine wp_append_own _ _ _ 22 rfl base 27 r0 _ 4 32 Try.underlying22 hr hy0 hy1 hy2 rfl (by decide) _ _ _ rfl (HF0.out.alloc _).rs ⟨w0.heap.size, 0, none⟩ 1 1 (RowR.cells ⟨(L.length : Int), pc, d, -1⟩) rfl rfl (cells_new _ _ _ _ rfl) (by simp [RowR.cells, Value.oneCell']) (by unfold maxLen; omega) (by omega) (by have := HS0.out; simp; omega) ?_
          intro v4 w4 hown4 hgrow4 _
          obtain ⟨a4, q4, rfl⟩ := own_slice hown4
          refine hK.out _ _ trivial (fun _ => ?_)
          clear hK K
          have h4 := blk_grown (HF0.out.alloc _).rs (by decide) (HF0.out.alloc _).h hgrow4
          have c4 : w4.cell? ⟨wk, 1, none⟩ = some (.slice aR R.length cR) := (World.cell?_of_block h4).trans ((HF0.out.alloc _).cell 1)
          have f4 : w4.frozen? ⟨wk, 1, none⟩ = false := (World.frozen?_of_block h4).trans ((HF0.out.alloc _).frozen 1)
          have HG4 := Lib.hid hgrow4
          have HO4 := Lib.hid hown4
          clear h4 hown4 hgrow4
          try simp only [Act.put, List.setIfInBounds_toArray, List.set_cons_zero, List.set_cons_succ]
          refine wpAnyH_take (i := 17) (oi := { dst := some 27, op := Op.nilCheck (Operand.tmp 10), type := _, pos := "translate.go:61", after := #[{ on := 0, ground := Ground.data }, { on := 0, ground := Ground.phase }, { on := 1, ground := Ground.phase }, { on := 2, ground := Ground.phase }, { on := 3, ground := Ground.phase }, { on := 4, ground := Ground.phase }, { on := 5, ground := Ground.phase }, { on := 6, ground := Ground.phase }, { on := 7, ground := Ground.phase }, { on := 8, ground := Ground.phase }, { on := 9, ground := Ground.phase }, { on := 10, ground := Ground.phase }, { on := 11, ground := Ground.phase }, { on := 12, ground := Ground.phase }, { on := 13, ground := Ground.phase }, { on := 14, ground := Ground.phase }, { on := 15, ground := Ground.phase }, { on := 16, ground := Ground.phase }], guard := none }) (v := .pointer (some ⟨wk, 0, none⟩)) rfl (by kernel_rfl) (by kernel_rfl) (by kernel_rfl) (fun _ _ _ h => h) (Or.inl ⟨by rfl, ?_⟩) hHeld ?_
          · intro w' hSw
            skip
            go_simp
          try simp only [Act.put, List.setIfInBounds_toArray, List.set_cons_zero, List.set_cons_succ]
          refine wpAnyH_take (i := 18) (oi := { dst := some 28, op := Op.fieldAddr _ (Operand.tmp 27) 0, type := _, pos := "translate.go:61", after := #[{ on := 17, ground := Ground.data }, { on := 0, ground := Ground.phase }, { on := 1, ground := Ground.phase }, { on := 2, ground := Ground.phase }, { on := 3, ground := Ground.phase }, { on := 4, ground := Ground.phase }, { on := 5, ground := Ground.phase }, { on := 6, ground := Ground.phase }, { on := 7, ground := Ground.phase }, { on := 8, ground := Ground.phase }, { on := 9, ground := Ground.phase }, { on := 10, ground := Ground.phase }, { on := 11, ground := Ground.phase }, { on := 12, ground := Ground.phase }, { on := 13, ground := Ground.phase }, { on := 14, ground := Ground.phase }, { on := 15, ground := Ground.phase }, { on := 16, ground := Ground.phase }], guard := none }) (v := .pointer (some ⟨wk, 0, none⟩)) rfl (by kernel_rfl) (by kernel_rfl) (by kernel_rfl) (fun _ _ _ h => h) (Or.inl ⟨by rfl, ?_⟩) hHeld ?_
          · intro w' hSw
            skip
            go_simp
          try simp only [Act.put, List.setIfInBounds_toArray, List.set_cons_zero, List.set_cons_succ]
          refine wpAnyH_take (i := 19) (oi := { dst := some 29, op := Op.fieldAddr _ (Operand.tmp 28) 1, type := _, pos := "translate.go:61", after := #[{ on := 18, ground := Ground.data }, { on := 0, ground := Ground.phase }, { on := 1, ground := Ground.phase }, { on := 2, ground := Ground.phase }, { on := 3, ground := Ground.phase }, { on := 4, ground := Ground.phase }, { on := 5, ground := Ground.phase }, { on := 6, ground := Ground.phase }, { on := 7, ground := Ground.phase }, { on := 8, ground := Ground.phase }, { on := 9, ground := Ground.phase }, { on := 10, ground := Ground.phase }, { on := 11, ground := Ground.phase }, { on := 12, ground := Ground.phase }, { on := 13, ground := Ground.phase }, { on := 14, ground := Ground.phase }, { on := 15, ground := Ground.phase }, { on := 16, ground := Ground.phase }], guard := none }) (v := .pointer (some ⟨wk, 1, none⟩)) rfl (by kernel_rfl) (by kernel_rfl) (by kernel_rfl) (fun _ _ _ h => h) (Or.inl ⟨by rfl, ?_⟩) hHeld ?_
          · intro w' hSw
            skip
            go_simp
          try simp only [Act.put, List.setIfInBounds_toArray, List.set_cons_zero, List.set_cons_succ]
          refine wpAnyH_ready (rs := [20]) (by kernel_rfl) (by simp) ?_
          refine (AllReadyH.cons (o := { dst := none, op := Op.store _ (Operand.tmp 29) (Operand.tmp 26), type := _, pos := "translate.go:61", after := #[{ on := 19, ground := Ground.data }, { on := 16, ground := Ground.data }, { on := 16, ground := Ground.chain }, { on := 0, ground := Ground.phase }, { on := 1, ground := Ground.phase }, { on := 2, ground := Ground.phase }, { on := 3, ground := Ground.phase }, { on := 4, ground := Ground.phase }, { on := 5, ground := Ground.phase }, { on := 6, ground := Ground.phase }, { on := 7, ground := Ground.phase }, { on := 8, ground := Ground.phase }, { on := 9, ground := Ground.phase }, { on := 10, ground := Ground.phase }, { on := 11, ground := Ground.phase }, { on := 12, ground := Ground.phase }, { on := 13, ground := Ground.phase }, { on := 14, ground := Ground.phase }, { on := 15, ground := Ground.phase }, { on := 16, ground := Ground.phase }], guard := none }) rfl (fun K hK => ?_) AllReadyH.nil)
          · go_simp
            refine hK.out _ _ trivial (fun _ => ?_)
            clear hK K
            try simp only [Act.put, List.setIfInBounds_toArray, List.set_cons_zero, List.set_cons_succ]
            refine wpAnyH_done (by kernel_rfl) ?_ _
            have hs0 := HS0.out
            have HF5 := Lib.hid ((HF0.out.alloc (.cells #[.int .i64 (L.length : Int), .int .u32 pc, .int .i64 d, .int .i64 (-1)] 27)).rows (R' := R ++ [⟨(L.length : Int), pc, d, -1⟩]) HG4.out (by rw [List.length_append, List.flatMap_append]; exact HO4.out))
            have hg1 := blk_grown (HF0.out.alloc (.cells #[.int .i64 (L.length : Int), .int .u32 pc, .int .i64 d, .int .i64 (-1)] 27)).rs (by decide) (heap_old' HBX.out) HG4.out
            have hbx4 : w4.heap[w.heap.size]? = some (.cells #[.int .u8 op, .int .u8 a, .int .u8 c, .int .i32 imm] 51 (0, 0)) := hg1.trans (heap_old' HBX.out)
            have hB4 : Below base w w4 := ((HB0.out.alloc (by simp; omega) _).grown HG4.out (by simp; omega) (fun k hk => ((HF0.out.alloc (.cells #[.int .i64 (L.length : Int), .int .u32 pc, .int .i64 d, .int .i64 (-1)] 27)).rs.lt k hk).1))
            have hsz4 : w.heap.size < w4.heap.size := heap_lt hbx4
            have hB5 : Below base w (w4.setCell ⟨wk, 1, none⟩ (.slice a4 (R.length + 1) q4)) := hB4.setCell hwb _
            obtain ⟨w5, hw5⟩ : ∃ x, x = w4.setCell ⟨wk, 1, none⟩ (.slice a4 (R.length + 1) q4) := ⟨_, rfl⟩
            rw [← hw5] at HF5 hB5 ⊢
            have hbx5 : w5.heap[w.heap.size]? = some (.cells #[.int .u8 op, .int .u8 a, .int .u8 c, .int .i32 imm] 51 (0, 0)) := by rw [hw5]; exact (Below.heap_setCell _ _ _ _ (by simp; omega)).trans hbx4
            have hsz5 : w.heap.size < w5.heap.size := heap_lt hbx5
            have q0 : w5.cell? ⟨w.heap.size, 0, none⟩ = some (.int .u8 op) := cell_of_row _ _ 0 _ _ _ hbx5
            have q1 : w5.cell? ⟨w.heap.size, 1, none⟩ = some (.int .u8 a) := cell_of_row _ _ 1 _ _ _ hbx5
            have q2 : w5.cell? ⟨w.heap.size, 2, none⟩ = some (.int .u8 c) := cell_of_row _ _ 2 _ _ _ hbx5
            have q3 : w5.cell? ⟨w.heap.size, 3, none⟩ = some (.int .i32 imm) := cell_of_row _ _ 3 _ _ _ hbx5
            clear hg1 hbx4 hB4 hsz4 hw5 hbx5 c4 f4 HG4 HO4 k0 k1 hHeld
            go_wp2_with fail
            refine (HE.out _).mono ?_
            rintro e w6 ⟨hb, -, hv⟩
            obtain ⟨v, rfl, hown1⟩ := hv rfl
            clear hv q0 q1 q2 q3
            have hB6 : Below base w w6 := hB5.trans (hb.mono (by omega))
            have HF6 := Lib.hid (HF5.out.below hb)
            have hs6 : w5.heap.size ≤ w6.heap.size := hb.size
            obtain ⟨g, cp, rfl, hcg, hgl, hcells⟩ := own_some1 hown1 (by omega)
            have HC := Lib.hid hcells
            have k6 : w6.cell? ⟨wk, 0, none⟩ = some (.slice aB L.length cB) := HF6.out.cell 0
            clear hcells hown1 hb HF5 hB5
            go_wp2_with (first | (at_builtin; refine wpList_append_own _ rfl _ _ 34 rfl base 5 i0 (.int .u8 0) 1 1 Try.underlying34 hi hz0 hz1 hz2 rfl (by decide) _ _ _ rfl HF6.out.bs ⟨g, 0, none⟩ E.length cp (E.map (Value.int .u8)) rfl (by simp) (fun j u hu => by rw [addr0]; exact HC.out j u hu) (fun u hu => by (obtain ⟨x, -, rfl⟩ := List.mem_map.1 hu; rfl)) (by unfold maxLen; omega) (by omega) (by omega) ?_; intro v7 w7 hown7 hgrow7 _; obtain ⟨a7, q7, rfl⟩ := own_slice hown7; have h7 := blk_grown HF6.out.bs (by decide) HF6.out.h hgrow7; have c7 : w7.cell? ⟨wk, 0, none⟩ = some (.slice aB L.length cB) := (World.cell?_of_block h7).trans (HF6.out.cell 0); have f7 : w7.frozen? ⟨wk, 0, none⟩ = false := (World.frozen?_of_block h7).trans (HF6.out.frozen 0); clear h7))
            go_end0
            have hF7 := HF6.out.bytes (L' := L ++ E) hgrow7 (by rw [List.map_append, List.length_append]; exact hown7)
            exact ⟨rfl, ⟨_, _, hF7⟩, ((hB6.grown hgrow7 (by omega) (fun k hk => (HF6.out.bs.lt k hk).1)).setCell hwb _)⟩
  · go_simp
    refine hK.out _ _ trivial (fun _ => ?_)
    clear hK K
    try simp only [Act.put, List.setIfInBounds_toArray, List.set_cons_zero, List.set_cons_succ]
    refine wpAnyH_take (i := 11) (oi := { dst := some 21, op := Op.call { callee := Callee.builtin Builtin.len, args := #[Operand.tmp 20], argTypes := _ }, type := _, pos := "translate.go:61", after := #[{ on := 10, ground := Ground.data }], guard := none }) (v := .int .i64 (L.length : Int)) rfl (by kernel_rfl) (by kernel_rfl) (by kernel_rfl) (fun _ _ _ h => h) (Or.inl ⟨by rfl, ?_⟩) hHeld ?_
    · intro w' hSw
      skip
      go_simp
    try simp only [Act.put, List.setIfInBounds_toArray, List.set_cons_zero, List.set_cons_succ]
    refine wpAnyH_take (i := 14) (oi := { dst := some 24, op := Op.build _ #[(0, Operand.tmp 21), (1, Operand.tmp 22), (2, Operand.tmp 23), (3, Operand.const (Value.int IntKind.i64 (-1)))], type := _, pos := "translate.go:61", after := #[{ on := 11, ground := Ground.data }, { on := 12, ground := Ground.data }, { on := 13, ground := Ground.data }], guard := none }) (v := .agg #[.int .i64 (L.length : Int), .int .u32 pc, .int .i64 d, .int .i64 (-1)]) rfl (by kernel_rfl) (by kernel_rfl) (by kernel_rfl) (fun _ _ _ h => h) (Or.inl ⟨by rfl, ?_⟩) hHeld ?_
    · intro w' hSw
      skip
      go_simp
    try simp only [Act.put, List.setIfInBounds_toArray, List.set_cons_zero, List.set_cons_succ]
    refine wpAnyH_ready (rs := [5, 15]) (by kernel_rfl) (by simp) ?_
    refine (AllReadyH.cons (o := { dst := some 15, op := Op.load _ (Operand.tmp 14), type := _, pos := "translate.go:61", after := #[{ on := 4, ground := Ground.data }], guard := none }) rfl (fun K hK => ?_) (AllReadyH.cons (o := { dst := some 25, op := Op.buildSlice 22 1 #[(0, Operand.tmp 24)], type := _, pos := "translate.go:61", after := #[{ on := 14, ground := Ground.data }], guard := none }) rfl (fun K hK => ?_) AllReadyH.nil))
    · go_simp
      refine hK.out _ _ trivial (fun _ => ?_)
      clear hK K
      try simp only [Act.put, List.setIfInBounds_toArray, List.set_cons_zero, List.set_cons_succ]
      refine wpAnyH_ready (rs := [15]) (by kernel_rfl) (by simp) ?_
      refine (AllReadyH.cons (o := { dst := some 25, op := Op.buildSlice 22 1 #[(0, Operand.tmp 24)], type := _, pos := "translate.go:61", after := #[{ on := 14, ground := Ground.data }], guard := none }) rfl (fun K hK => ?_) AllReadyH.nil)
      · go_simp
        refine hK.out _ _ trivial (fun _ => ?_)
        clear hK K
        try simp only [Act.put, List.setIfInBounds_toArray, List.set_cons_zero, List.set_cons_succ]
        refine wpAnyH_ready (rs := [16]) (by kernel_rfl) (by simp) ?_
        refine (AllReadyH.cons (o := { dst := some 26, op := Op.call { callee := Callee.builtin Builtin.append, args := #[Operand.tmp 15, Operand.tmp 25], argTypes := _ }, type := _, pos := "translate.go:61", after := #[{ on := 5, ground := Ground.data }, { on := 15, ground := Ground.data }], guard := none }) rfl (fun K hK => ?_) AllReadyH.nil)
        · refine (if_pos (by rfl)).mpr ?_
          refine wp_append_own _ _ _ 22 rfl base 27 r0 _ 4 32 Try.underlying22 hr hy0 hy1 hy2 rfl (by decide) _ _ _ rfl (HF0.out.alloc _).rs ⟨w0.heap.size, 0, none⟩ 1 1 (RowR.cells ⟨(L.length : Int), pc, d, -1⟩) rfl rfl (cells_new _ _ _ _ rfl) (by simp [RowR.cells, Value.oneCell']) (by unfold maxLen; omega) (by omega) (by have := HS0.out; simp; omega) ?_
          intro v4 w4 hown4 hgrow4 _
          obtain ⟨a4, q4, rfl⟩ := own_slice hown4
          refine hK.out _ _ trivial (fun _ => ?_)
          clear hK K
          have h4 := blk_grown (HF0.out.alloc _).rs (by decide) (HF0.out.alloc _).h hgrow4
          have c4 : w4.cell? ⟨wk, 1, none⟩ = some (.slice aR R.length cR) := (World.cell?_of_block h4).trans ((HF0.out.alloc _).cell 1)
          have f4 : w4.frozen? ⟨wk, 1, none⟩ = false := (World.frozen?_of_block h4).trans ((HF0.out.alloc _).frozen 1)
          have HG4 := Lib.hid hgrow4
          have HO4 := Lib.hid hown4
          clear h4 hown4 hgrow4
          try simp only [Act.put, List.setIfInBounds_toArray, List.set_cons_zero, List.set_cons_succ]
          refine wpAnyH_take (i := 17) (oi := { dst := some 27, op := Op.nilCheck (Operand.tmp 10), type := _, pos := "translate.go:61", after := #[{ on := 0, ground := Ground.data }, { on := 0, ground := Ground.phase }, { on := 1, ground := Ground.phase }, { on := 2, ground := Ground.phase }, { on := 3, ground := Ground.phase }, { on := 4, ground := Ground.phase }, { on := 5, ground := Ground.phase }, { on := 6, ground := Ground.phase }, { on := 7, ground := Ground.phase }, { on := 8, ground := Ground.phase }, { on := 9, ground := Ground.phase }, { on := 10, ground := Ground.phase }, { on := 11, ground := Ground.phase }, { on := 12, ground := Ground.phase }, { on := 13, ground := Ground.phase }, { on := 14, ground := Ground.phase }, { on := 15, ground := Ground.phase }, { on := 16, ground := Ground.phase }], guard := none }) (v := .pointer (some ⟨wk, 0, none⟩)) rfl (by kernel_rfl) (by kernel_rfl) (by kernel_rfl) (fun _ _ _ h => h) (Or.inl ⟨by rfl, ?_⟩) hHeld ?_
          · intro w' hSw
            skip
            go_simp
          try simp only [Act.put, List.setIfInBounds_toArray, List.set_cons_zero, List.set_cons_succ]
          refine wpAnyH_take (i := 18) (oi := { dst := some 28, op := Op.fieldAddr _ (Operand.tmp 27) 0, type := _, pos := "translate.go:61", after := #[{ on := 17, ground := Ground.data }, { on := 0, ground := Ground.phase }, { on := 1, ground := Ground.phase }, { on := 2, ground := Ground.phase }, { on := 3, ground := Ground.phase }, { on := 4, ground := Ground.phase }, { on := 5, ground := Ground.phase }, { on := 6, ground := Ground.phase }, { on := 7, ground := Ground.phase }, { on := 8, ground := Ground.phase }, { on := 9, ground := Ground.phase }, { on := 10, ground := Ground.phase }, { on := 11, ground := Ground.phase }, { on := 12, ground := Ground.phase }, { on := 13, ground := Ground.phase }, { on := 14, ground := Ground.phase }, { on := 15, ground := Ground.phase }, { on := 16, ground := Ground.phase }], guard := none }) (v := .pointer (some ⟨wk, 0, none⟩)) rfl (by kernel_rfl) (by kernel_rfl) (by kernel_rfl) (fun _ _ _ h => h) (Or.inl ⟨by rfl, ?_⟩) hHeld ?_
          · intro w' hSw
            skip
            go_simp
          try simp only [Act.put, List.setIfInBounds_toArray, List.set_cons_zero, List.set_cons_succ]
          refine wpAnyH_take (i := 19) (oi := { dst := some 29, op := Op.fieldAddr _ (Operand.tmp 28) 1, type := _, pos := "translate.go:61", after := #[{ on := 18, ground := Ground.data }, { on := 0, ground := Ground.phase }, { on := 1, ground := Ground.phase }, { on := 2, ground := Ground.phase }, { on := 3, ground := Ground.phase }, { on := 4, ground := Ground.phase }, { on := 5, ground := Ground.phase }, { on := 6, ground := Ground.phase }, { on := 7, ground := Ground.phase }, { on := 8, ground := Ground.phase }, { on := 9, ground := Ground.phase }, { on := 10, ground := Ground.phase }, { on := 11, ground := Ground.phase }, { on := 12, ground := Ground.phase }, { on := 13, ground := Ground.phase }, { on := 14, ground := Ground.phase }, { on := 15, ground := Ground.phase }, { on := 16, ground := Ground.phase }], guard := none }) (v := .pointer (some ⟨wk, 1, none⟩)) rfl (by kernel_rfl) (by kernel_rfl) (by kernel_rfl) (fun _ _ _ h => h) (Or.inl ⟨by rfl, ?_⟩) hHeld ?_
          · intro w' hSw
            skip
            go_simp
          try simp only [Act.put, List.setIfInBounds_toArray, List.set_cons_zero, List.set_cons_succ]
          refine wpAnyH_ready (rs := [20]) (by kernel_rfl) (by simp) ?_
          refine (AllReadyH.cons (o := { dst := none, op := Op.store _ (Operand.tmp 29) (Operand.tmp 26), type := _, pos := "translate.go:61", after := #[{ on := 19, ground := Ground.data }, { on := 16, ground := Ground.data }, { on := 16, ground := Ground.chain }, { on := 0, ground := Ground.phase }, { on := 1, ground := Ground.phase }, { on := 2, ground := Ground.phase }, { on := 3, ground := Ground.phase }, { on := 4, ground := Ground.phase }, { on := 5, ground := Ground.phase }, { on := 6, ground := Ground.phase }, { on := 7, ground := Ground.phase }, { on := 8, ground := Ground.phase }, { on := 9, ground := Ground.phase }, { on := 10, ground := Ground.phase }, { on := 11, ground := Ground.phase }, { on := 12, ground := Ground.phase }, { on := 13, ground := Ground.phase }, { on := 14, ground := Ground.phase }, { on := 15, ground := Ground.phase }, { on := 16, ground := Ground.phase }], guard := none }) rfl (fun K hK => ?_) AllReadyH.nil)
          · go_simp
            refine hK.out _ _ trivial (fun _ => ?_)
            clear hK K
            try simp only [Act.put, List.setIfInBounds_toArray, List.set_cons_zero, List.set_cons_succ]
            refine wpAnyH_done (by kernel_rfl) ?_ _
            have hs0 := HS0.out
            have HF5 := Lib.hid ((HF0.out.alloc (.cells #[.int .i64 (L.length : Int), .int .u32 pc, .int .i64 d, .int .i64 (-1)] 27)).rows (R' := R ++ [⟨(L.length : Int), pc, d, -1⟩]) HG4.out (by rw [List.length_append, List.flatMap_append]; exact HO4.out))
            have hg1 := blk_grown (HF0.out.alloc (.cells #[.int .i64 (L.length : Int), .int .u32 pc, .int .i64 d, .int .i64 (-1)] 27)).rs (by decide) (heap_old' HBX.out) HG4.out
            have hbx4 : w4.heap[w.heap.size]? = some (.cells #[.int .u8 op, .int .u8 a, .int .u8 c, .int .i32 imm] 51 (0, 0)) := hg1.trans (heap_old' HBX.out)
            have hB4 : Below base w w4 := ((HB0.out.alloc (by simp; omega) _).grown HG4.out (by simp; omega) (fun k hk => ((HF0.out.alloc (.cells #[.int .i64 (L.length : Int), .int .u32 pc, .int .i64 d, .int .i64 (-1)] 27)).rs.lt k hk).1))
            have hsz4 : w.heap.size < w4.heap.size := heap_lt hbx4
            have hB5 : Below base w (w4.setCell ⟨wk, 1, none⟩ (.slice a4 (R.length + 1) q4)) := hB4.setCell hwb _
            obtain ⟨w5, hw5⟩ : ∃ x, x = w4.setCell ⟨wk, 1, none⟩ (.slice a4 (R.length + 1) q4) := ⟨_, rfl⟩
            rw [← hw5] at HF5 hB5 ⊢
            have hbx5 : w5.heap[w.heap.size]? = some (.cells #[.int .u8 op, .int .u8 a, .int .u8 c, .int .i32 imm] 51 (0, 0)) := by rw [hw5]; exact (Below.heap_setCell _ _ _ _ (by simp; omega)).trans hbx4
            have hsz5 : w.heap.size < w5.heap.size := heap_lt hbx5
            have q0 : w5.cell? ⟨w.heap.size, 0, none⟩ = some (.int .u8 op) := cell_of_row _ _ 0 _ _ _ hbx5
            have q1 : w5.cell? ⟨w.heap.size, 1, none⟩ = some (.int .u8 a) := cell_of_row _ _ 1 _ _ _ hbx5
            have q2 : w5.cell? ⟨w.heap.size, 2, none⟩ = some (.int .u8 c) := cell_of_row _ _ 2 _ _ _ hbx5
            have q3 : w5.cell? ⟨w.heap.size, 3, none⟩ = some (.int .i32 imm) := cell_of_row _ _ 3 _ _ _ hbx5
            clear hg1 hbx4 hB4 hsz4 hw5 hbx5 c4 f4 HG4 HO4 k0 k1 hHeld
            go_wp2_with fail
            refine (HE.out _).mono ?_
            rintro e w6 ⟨hb, -, hv⟩
            obtain ⟨v, rfl, hown1⟩ := hv rfl
            clear hv q0 q1 q2 q3
            have hB6 : Below base w w6 := hB5.trans (hb.mono (by omega))
            have HF6 := Lib.hid (HF5.out.below hb)
            have hs6 : w5.heap.size ≤ w6.heap.size := hb.size
            obtain ⟨g, cp, rfl, hcg, hgl, hcells⟩ := own_some1 hown1 (by omega)
            have HC := Lib.hid hcells
            have k6 : w6.cell? ⟨wk, 0, none⟩ = some (.slice aB L.length cB) := HF6.out.cell 0
            clear hcells hown1 hb HF5 hB5
            go_wp2_with (first | (at_builtin; refine wpList_append_own _ rfl _ _ 34 rfl base 5 i0 (.int .u8 0) 1 1 Try.underlying34 hi hz0 hz1 hz2 rfl (by decide) _ _ _ rfl HF6.out.bs ⟨g, 0, none⟩ E.length cp (E.map (Value.int .u8)) rfl (by simp) (fun j u hu => by rw [addr0]; exact HC.out j u hu) (fun u hu => by (obtain ⟨x, -, rfl⟩ := List.mem_map.1 hu; rfl)) (by unfold maxLen; omega) (by omega) (by omega) ?_; intro v7 w7 hown7 hgrow7 _; obtain ⟨a7, q7, rfl⟩ := own_slice hown7; have h7 := blk_grown HF6.out.bs (by decide) HF6.out.h hgrow7; have c7 : w7.cell? ⟨wk, 0, none⟩ = some (.slice aB L.length cB) := (World.cell?_of_block h7).trans (HF6.out.cell 0); have f7 : w7.frozen? ⟨wk, 0, none⟩ = false := (World.frozen?_of_block h7).trans (HF6.out.frozen 0); clear h7))
            go_end0
            have hF7 := HF6.out.bytes (L' := L ++ E) hgrow7 (by rw [List.map_append, List.length_append]; exact hown7)
            exact ⟨rfl, ⟨_, _, hF7⟩, ((hB6.grown hgrow7 (by omega) (fun k hk => (HF6.out.bs.lt k hk).1)).setCell hwb _)⟩
    · go_simp
      refine hK.out _ _ trivial (fun _ => ?_)
      clear hK K
      try simp only [Act.put, List.setIfInBounds_toArray, List.set_cons_zero, List.set_cons_succ]
      refine wpAnyH_ready (rs := [5]) (by kernel_rfl) (by simp) ?_
      refine (AllReadyH.cons (o := { dst := some 15, op := Op.load _ (Operand.tmp 14), type := _, pos := "translate.go:61", after := #[{ on := 4, ground := Ground.data }], guard := none }) rfl (fun K hK => ?_) AllReadyH.nil)
      · go_simp
        refine hK.out _ _ trivial (fun _ => ?_)
        clear hK K
        try simp only [Act.put, List.setIfInBounds_toArray, List.set_cons_zero, List.set_cons_succ]
        refine wpAnyH_ready (rs := [16]) (by kernel_rfl) (by simp) ?_
        refine (AllReadyH.cons (o := { dst := some 26, op := Op.call { callee := Callee.builtin Builtin.append, args := #[Operand.tmp 15, Operand.tmp 25], argTypes := _ }, type := _, pos := "translate.go:61", after := #[{ on := 5, ground := Ground.data }, { on := 15, ground := Ground.data }], guard := none }) rfl (fun K hK => ?_) AllReadyH.nil)
        · refine (if_pos (by rfl)).mpr ?_
          refine wp_append_own _ _ _ 22 rfl base 27 r0 _ 4 32 Try.underlying22 hr hy0 hy1 hy2 rfl (by decide) _ _ _ rfl (HF0.out.alloc _).rs ⟨w0.heap.size, 0, none⟩ 1 1 (RowR.cells ⟨(L.length : Int), pc, d, -1⟩) rfl rfl (cells_new _ _ _ _ rfl) (by simp [RowR.cells, Value.oneCell']) (by unfold maxLen; omega) (by omega) (by have := HS0.out; simp; omega) ?_
          intro v4 w4 hown4 hgrow4 _
          obtain ⟨a4, q4, rfl⟩ := own_slice hown4
          refine hK.out _ _ trivial (fun _ => ?_)
          clear hK K
          have h4 := blk_grown (HF0.out.alloc _).rs (by decide) (HF0.out.alloc _).h hgrow4
          have c4 : w4.cell? ⟨wk, 1, none⟩ = some (.slice aR R.length cR) := (World.cell?_of_block h4).trans ((HF0.out.alloc _).cell 1)
          have f4 : w4.frozen? ⟨wk, 1, none⟩ = false := (World.frozen?_of_block h4).trans ((HF0.out.alloc _).frozen 1)
          have HG4 := Lib.hid hgrow4
          have HO4 := Lib.hid hown4
          clear h4 hown4 hgrow4
          try simp only [Act.put, List.setIfInBounds_toArray, List.set_cons_zero, List.set_cons_succ]
          refine wpAnyH_take (i := 17) (oi := { dst := some 27, op := Op.nilCheck (Operand.tmp 10), type := _, pos := "translate.go:61", after := #[{ on := 0, ground := Ground.data }, { on := 0, ground := Ground.phase }, { on := 1, ground := Ground.phase }, { on := 2, ground := Ground.phase }, { on := 3, ground := Ground.phase }, { on := 4, ground := Ground.phase }, { on := 5, ground := Ground.phase }, { on := 6, ground := Ground.phase }, { on := 7, ground := Ground.phase }, { on := 8, ground := Ground.phase }, { on := 9, ground := Ground.phase }, { on := 10, ground := Ground.phase }, { on := 11, ground := Ground.phase }, { on := 12, ground := Ground.phase }, { on := 13, ground := Ground.phase }, { on := 14, ground := Ground.phase }, { on := 15, ground := Ground.phase }, { on := 16, ground := Ground.phase }], guard := none }) (v := .pointer (some ⟨wk, 0, none⟩)) rfl (by kernel_rfl) (by kernel_rfl) (by kernel_rfl) (fun _ _ _ h => h) (Or.inl ⟨by rfl, ?_⟩) hHeld ?_
          · intro w' hSw
            skip
            go_simp
          try simp only [Act.put, List.setIfInBounds_toArray, List.set_cons_zero, List.set_cons_succ]
          refine wpAnyH_take (i := 18) (oi := { dst := some 28, op := Op.fieldAddr _ (Operand.tmp 27) 0, type := _, pos := "translate.go:61", after := #[{ on := 17, ground := Ground.data }, { on := 0, ground := Ground.phase }, { on := 1, ground := Ground.phase }, { on := 2, ground := Ground.phase }, { on := 3, ground := Ground.phase }, { on := 4, ground := Ground.phase }, { on := 5, ground := Ground.phase }, { on := 6, ground := Ground.phase }, { on := 7, ground := Ground.phase }, { on := 8, ground := Ground.phase }, { on := 9, ground := Ground.phase }, { on := 10, ground := Ground.phase }, { on := 11, ground := Ground.phase }, { on := 12, ground := Ground.phase }, { on := 13, ground := Ground.phase }, { on := 14, ground := Ground.phase }, { on := 15, ground := Ground.phase }, { on := 16, ground := Ground.phase }], guard := none }) (v := .pointer (some ⟨wk, 0, none⟩)) rfl (by kernel_rfl) (by kernel_rfl) (by kernel_rfl) (fun _ _ _ h => h) (Or.inl ⟨by rfl, ?_⟩) hHeld ?_
          · intro w' hSw
            skip
            go_simp
          try simp only [Act.put, List.setIfInBounds_toArray, List.set_cons_zero, List.set_cons_succ]
          refine wpAnyH_take (i := 19) (oi := { dst := some 29, op := Op.fieldAddr _ (Operand.tmp 28) 1, type := _, pos := "translate.go:61", after := #[{ on := 18, ground := Ground.data }, { on := 0, ground := Ground.phase }, { on := 1, ground := Ground.phase }, { on := 2, ground := Ground.phase }, { on := 3, ground := Ground.phase }, { on := 4, ground := Ground.phase }, { on := 5, ground := Ground.phase }, { on := 6, ground := Ground.phase }, { on := 7, ground := Ground.phase }, { on := 8, ground := Ground.phase }, { on := 9, ground := Ground.phase }, { on := 10, ground := Ground.phase }, { on := 11, ground := Ground.phase }, { on := 12, ground := Ground.phase }, { on := 13, ground := Ground.phase }, { on := 14, ground := Ground.phase }, { on := 15, ground := Ground.phase }, { on := 16, ground := Ground.phase }], guard := none }) (v := .pointer (some ⟨wk, 1, none⟩)) rfl (by kernel_rfl) (by kernel_rfl) (by kernel_rfl) (fun _ _ _ h => h) (Or.inl ⟨by rfl, ?_⟩) hHeld ?_
          · intro w' hSw
            skip
            go_simp
          try simp only [Act.put, List.setIfInBounds_toArray, List.set_cons_zero, List.set_cons_succ]
          refine wpAnyH_ready (rs := [20]) (by kernel_rfl) (by simp) ?_
          refine (AllReadyH.cons (o := { dst := none, op := Op.store _ (Operand.tmp 29) (Operand.tmp 26), type := _, pos := "translate.go:61", after := #[{ on := 19, ground := Ground.data }, { on := 16, ground := Ground.data }, { on := 16, ground := Ground.chain }, { on := 0, ground := Ground.phase }, { on := 1, ground := Ground.phase }, { on := 2, ground := Ground.phase }, { on := 3, ground := Ground.phase }, { on := 4, ground := Ground.phase }, { on := 5, ground := Ground.phase }, { on := 6, ground := Ground.phase }, { on := 7, ground := Ground.phase }, { on := 8, ground := Ground.phase }, { on := 9, ground := Ground.phase }, { on := 10, ground := Ground.phase }, { on := 11, ground := Ground.phase }, { on := 12, ground := Ground.phase }, { on := 13, ground := Ground.phase }, { on := 14, ground := Ground.phase }, { on := 15, ground := Ground.phase }, { on := 16, ground := Ground.phase }], guard := none }) rfl (fun K hK => ?_) AllReadyH.nil)
          · go_simp
            refine hK.out _ _ trivial (fun _ => ?_)
            clear hK K
            try simp only [Act.put, List.setIfInBounds_toArray, List.set_cons_zero, List.set_cons_succ]
            refine wpAnyH_done (by kernel_rfl) ?_ _
            have hs0 := HS0.out
            have HF5 := Lib.hid ((HF0.out.alloc (.cells #[.int .i64 (L.length : Int), .int .u32 pc, .int .i64 d, .int .i64 (-1)] 27)).rows (R' := R ++ [⟨(L.length : Int), pc, d, -1⟩]) HG4.out (by rw [List.length_append, List.flatMap_append]; exact HO4.out))
            have hg1 := blk_grown (HF0.out.alloc (.cells #[.int .i64 (L.length : Int), .int .u32 pc, .int .i64 d, .int .i64 (-1)] 27)).rs (by decide) (heap_old' HBX.out) HG4.out
            have hbx4 : w4.heap[w.heap.size]? = some (.cells #[.int .u8 op, .int .u8 a, .int .u8 c, .int .i32 imm] 51 (0, 0)) := hg1.trans (heap_old' HBX.out)
            have hB4 : Below base w w4 := ((HB0.out.alloc (by simp; omega) _).grown HG4.out (by simp; omega) (fun k hk => ((HF0.out.alloc (.cells #[.int .i64 (L.length : Int), .int .u32 pc, .int .i64 d, .int .i64 (-1)] 27)).rs.lt k hk).1))
            have hsz4 : w.heap.size < w4.heap.size := heap_lt hbx4
            have hB5 : Below base w (w4.setCell ⟨wk, 1, none⟩ (.slice a4 (R.length + 1) q4)) := hB4.setCell hwb _
            obtain ⟨w5, hw5⟩ : ∃ x, x = w4.setCell ⟨wk, 1, none⟩ (.slice a4 (R.length + 1) q4) := ⟨_, rfl⟩
            rw [← hw5] at HF5 hB5 ⊢
            have hbx5 : w5.heap[w.heap.size]? = some (.cells #[.int .u8 op, .int .u8 a, .int .u8 c, .int .i32 imm] 51 (0, 0)) := by rw [hw5]; exact (Below.heap_setCell _ _ _ _ (by simp; omega)).trans hbx4
            have hsz5 : w.heap.size < w5.heap.size := heap_lt hbx5
            have q0 : w5.cell? ⟨w.heap.size, 0, none⟩ = some (.int .u8 op) := cell_of_row _ _ 0 _ _ _ hbx5
            have q1 : w5.cell? ⟨w.heap.size, 1, none⟩ = some (.int .u8 a) := cell_of_row _ _ 1 _ _ _ hbx5
            have q2 : w5.cell? ⟨w.heap.size, 2, none⟩ = some (.int .u8 c) := cell_of_row _ _ 2 _ _ _ hbx5
            have q3 : w5.cell? ⟨w.heap.size, 3, none⟩ = some (.int .i32 imm) := cell_of_row _ _ 3 _ _ _ hbx5
            clear hg1 hbx4 hB4 hsz4 hw5 hbx5 c4 f4 HG4 HO4 k0 k1 hHeld
            go_wp2_with fail
            refine (HE.out _).mono ?_
            rintro e w6 ⟨hb, -, hv⟩
            obtain ⟨v, rfl, hown1⟩ := hv rfl
            clear hv q0 q1 q2 q3
            have hB6 : Below base w w6 := hB5.trans (hb.mono (by omega))
            have HF6 := Lib.hid (HF5.out.below hb)
            have hs6 : w5.heap.size ≤ w6.heap.size := hb.size
            obtain ⟨g, cp, rfl, hcg, hgl, hcells⟩ := own_some1 hown1 (by omega)
            have HC := Lib.hid hcells
            have k6 : w6.cell? ⟨wk, 0, none⟩ = some (.slice aB L.length cB) := HF6.out.cell 0
            clear hcells hown1 hb HF5 hB5
            go_wp2_with (first | (at_builtin; refine wpList_append_own _ rfl _ _ 34 rfl base 5 i0 (.int .u8 0) 1 1 Try.underlying34 hi hz0 hz1 hz2 rfl (by decide) _ _ _ rfl HF6.out.bs ⟨g, 0, none⟩ E.length cp (E.map (Value.int .u8)) rfl (by simp) (fun j u hu => by rw [addr0]; exact HC.out j u hu) (fun u hu => by (obtain ⟨x, -, rfl⟩ := List.mem_map.1 hu; rfl)) (by unfold maxLen; omega) (by omega) (by omega) ?_; intro v7 w7 hown7 hgrow7 _; obtain ⟨a7, q7, rfl⟩ := own_slice hown7; have h7 := blk_grown HF6.out.bs (by decide) HF6.out.h hgrow7; have c7 : w7.cell? ⟨wk, 0, none⟩ = some (.slice aB L.length cB) := (World.cell?_of_block h7).trans (HF6.out.cell 0); have f7 : w7.frozen? ⟨wk, 0, none⟩ = false := (World.frozen?_of_block h7).trans (HF6.out.frozen 0); clear h7))
            go_end0
            have hF7 := HF6.out.bytes (L' := L ++ E) hgrow7 (by rw [List.map_append, List.length_append]; exact hown7)
            exact ⟨rfl, ⟨_, _, hF7⟩, ((hB6.grown hgrow7 (by omega) (fun k hk => (HF6.out.bs.lt k hk).1)).setCell hwb _)⟩
end Go.Proofs.Ytnmgfckefofcpaa
