/- The walk of JudgeLists. (Written by mkJL.py.) -/
import Derived.Test.YtjnakhejdpkfnaaDoorJudJ
namespace Go.Proofs.YtjnakhejdpkfnaaDoor
open Go.RowKit
set_option linter.unusedSimpArgs false
set_option linter.unusedVariables false
set_option maxRecDepth 100000

set_option maxHeartbeats 16000000 in
theorem lists_in (A B : Array Value) (s r : SvR) (hA : SvAt A s) (hB : SvAt B r) (w : World) (hs : SvOk s w) (hr : SvOk r w) (HT : Hid (pTab w)) :
    Calls Tryd.prog 3 #[.agg A, .agg B] w fun e w' => e = .returned (.bool true) ∧ Below w.heap.size w w' := by
  have hzA : A.size = 35 := hA.size
  have hzB : B.size = 35 := hB.size
  have HN := Lib.hid fun (W : World) (hb : Below w.heap.size w W) => judgeNotes_c _ _ _ _ _ _ _ _ W (ElemArg.below hs.notes hb) (ElemArg.below hr.notes hb)
  have HE := Lib.hid fun (W : World) (hb : Below w.heap.size w W) => judgeEvents_c _ _ _ _ _ _ _ _ W (ElemArg.below hs.script hb) (ElemArg.below hr.script hb)
  have HRN := Lib.hid fun (W : World) (hb : Below w.heap.size w W) => refNotes_c _ _ _ _ _ _ _ _ W (ElemArg.below hs.notes hb) (ElemArg.below hr.notes hb)
  have HRE := Lib.hid fun (W : World) (hb : Below w.heap.size w W) => refEvents_c _ _ _ _ _ _ _ _ W (ElemArg.below hs.script hb) (ElemArg.below hr.script hb)
  have HW := Lib.hid fun (W : World) (hb : Below w.heap.size w W) => works_c W (pTab_on HT hb)
  obtain ⟨n4, hn4⟩ : ∃ n, n = firstE s.notes.L r.notes.L := ⟨_, rfl⟩
  obtain ⟨n8, hn8⟩ : ∃ n, n = firstE s.script.L r.script.L := ⟨_, rfl⟩
  rw [← hn4] at HN HRN
  rw [← hn8] at HE HRE
  have HAt := Lib.hid hA
  have HBt := Lib.hid hB
  clear hs hr hA hB hn4 hn8
  go_enter Tryd.func3, Tryd.ntmps3
  go_wp2_with fail
  have HI : Hid (PrS w A B ((w.alloc (.cells A 30)).alloc (.cells B 30)).drew) :=
    Lib.hid ⟨heap_drew' (heap_old' (heap_new' rfl)), heap_drew' (heap_new' (by simp)), ((below_alloc1 w _).alloc (by simp) _).drew, by simp⟩
  refine wp_region_held_drew (S := fun w' => PrS w A B w') (by kernel_rfl) HI.out (fun hHeld => ?_)
  clear HI
  refine wpAnyH_take (i := 0) (oi := { dst := some 5, op := Op.fieldAddr _ (Operand.tmp 2) 4, type := _, pos := "law.go:34", after := #[], guard := none }) (v := .pointer (some ⟨w.heap.size, 22, none⟩)) rfl (by kernel_rfl) (by kernel_rfl) (by kernel_rfl) (fun _ _ _ h => h) (Or.inl ⟨by rfl, ?_⟩) hHeld ?_
  · intro w' hSw
    skip
    go_simp
  try simp only [Act.put, List.setIfInBounds_toArray, List.set_cons_zero, List.set_cons_succ]
  refine wpAnyH_take (i := 1) (oi := { dst := some 6, op := Op.load _ (Operand.tmp 5), type := _, pos := "law.go:34", after := #[{ on := 0, ground := Ground.data }], guard := none }) (v := .slice s.notes.a s.notes.len s.notes.cap) rfl (by kernel_rfl) (by kernel_rfl) (by kernel_rfl) (fun _ _ _ h => h) (Or.inl ⟨by rfl, ?_⟩) hHeld ?_
  · intro w' hSw
    have k0 := (cell_of_row w' _ 22 _ _ _ hSw.a).trans HAt.out.notes
    go_simp
  try simp only [Act.put, List.setIfInBounds_toArray, List.set_cons_zero, List.set_cons_succ]
  refine wpAnyH_take (i := 2) (oi := { dst := some 7, op := Op.fieldAddr _ (Operand.tmp 3) 4, type := _, pos := "law.go:34", after := #[], guard := none }) (v := .pointer (some ⟨w.heap.size + 1, 22, none⟩)) rfl (by kernel_rfl) (by kernel_rfl) (by kernel_rfl) (fun _ _ _ h => h) (Or.inl ⟨by rfl, ?_⟩) hHeld ?_
  · intro w' hSw
    skip
    go_simp
  try simp only [Act.put, List.setIfInBounds_toArray, List.set_cons_zero, List.set_cons_succ]
  refine wpAnyH_take (i := 3) (oi := { dst := some 8, op := Op.load _ (Operand.tmp 7), type := _, pos := "law.go:34", after := #[{ on := 2, ground := Ground.data }], guard := none }) (v := .slice r.notes.a r.notes.len r.notes.cap) rfl (by kernel_rfl) (by kernel_rfl) (by kernel_rfl) (fun _ _ _ h => h) (Or.inl ⟨by rfl, ?_⟩) hHeld ?_
  · intro w' hSw
    have k0 := (cell_of_row w' _ 22 _ _ _ hSw.b).trans HBt.out.notes
    go_simp
  try simp only [Act.put, List.setIfInBounds_toArray, List.set_cons_zero, List.set_cons_succ]
  refine wpAnyH_take (i := 5) (oi := { dst := some 10, op := Op.fieldAddr _ (Operand.tmp 2) 4, type := _, pos := "law.go:34", after := #[], guard := none }) (v := .pointer (some ⟨w.heap.size, 22, none⟩)) rfl (by kernel_rfl) (by kernel_rfl) (by kernel_rfl) (fun _ _ _ h => h) (Or.inl ⟨by rfl, ?_⟩) hHeld ?_
  · intro w' hSw
    skip
    go_simp
  try simp only [Act.put, List.setIfInBounds_toArray, List.set_cons_zero, List.set_cons_succ]
  refine wpAnyH_take (i := 6) (oi := { dst := some 11, op := Op.load _ (Operand.tmp 10), type := _, pos := "law.go:34", after := #[{ on := 5, ground := Ground.data }], guard := none }) (v := .slice s.notes.a s.notes.len s.notes.cap) rfl (by kernel_rfl) (by kernel_rfl) (by kernel_rfl) (fun _ _ _ h => h) (Or.inl ⟨by rfl, ?_⟩) hHeld ?_
  · intro w' hSw
    have k0 := (cell_of_row w' _ 22 _ _ _ hSw.a).trans HAt.out.notes
    go_simp
  try simp only [Act.put, List.setIfInBounds_toArray, List.set_cons_zero, List.set_cons_succ]
  refine wpAnyH_take (i := 7) (oi := { dst := some 12, op := Op.fieldAddr _ (Operand.tmp 3) 4, type := _, pos := "law.go:34", after := #[], guard := none }) (v := .pointer (some ⟨w.heap.size + 1, 22, none⟩)) rfl (by kernel_rfl) (by kernel_rfl) (by kernel_rfl) (fun _ _ _ h => h) (Or.inl ⟨by rfl, ?_⟩) hHeld ?_
  · intro w' hSw
    skip
    go_simp
  try simp only [Act.put, List.setIfInBounds_toArray, List.set_cons_zero, List.set_cons_succ]
  refine wpAnyH_take (i := 8) (oi := { dst := some 13, op := Op.load _ (Operand.tmp 12), type := _, pos := "law.go:34", after := #[{ on := 7, ground := Ground.data }], guard := none }) (v := .slice r.notes.a r.notes.len r.notes.cap) rfl (by kernel_rfl) (by kernel_rfl) (by kernel_rfl) (fun _ _ _ h => h) (Or.inl ⟨by rfl, ?_⟩) hHeld ?_
  · intro w' hSw
    have k0 := (cell_of_row w' _ 22 _ _ _ hSw.b).trans HBt.out.notes
    go_simp
  try simp only [Act.put, List.setIfInBounds_toArray, List.set_cons_zero, List.set_cons_succ]
  refine wpAnyH_ready (rs := [4]) (by kernel_rfl) (by simp) ?_
  refine AllReadyH.cons (o := { dst := some 9, op := Op.call { callee := Callee.value (Operand.func _), args := #[Operand.tmp 6, Operand.tmp 8], argTypes := _ }, type := _, pos := "law.go:34", after := #[{ on := 1, ground := Ground.data }, { on := 3, ground := Ground.data }], guard := none }) rfl (fun K hK => ?_) AllReadyH.nil
  go_simp
  go_at_call 9
  refine (HN.out _ hHeld.below).mono ?_
  rintro e w4x ⟨rfl, hb4⟩
  refine hK.out _ _ (hHeld.next hb4) (fun hHeld => ?_)
  clear hK K
  try simp only [Act.put, List.setIfInBounds_toArray, List.set_cons_zero, List.set_cons_succ]
  refine wpAnyH_ready (rs := [9]) (by kernel_rfl) (by simp) ?_
  refine AllReadyH.cons (o := { dst := some 14, op := Op.call { callee := Callee.value (Operand.func _), args := #[Operand.tmp 11, Operand.tmp 13], argTypes := _ }, type := _, pos := "law.go:34", after := #[{ on := 6, ground := Ground.data }, { on := 8, ground := Ground.data }, { on := 4, ground := Ground.chain }], guard := none }) rfl (fun K hK => ?_) AllReadyH.nil
  go_simp
  go_at_call 10
  refine (HRN.out _ hHeld.below).mono ?_
  rintro e w9x ⟨rfl, q9, rfl⟩
  refine hK.out _ _ (hHeld.next (below_drewN (Below.refl _ _) q9)) (fun hHeld => ?_)
  clear hK K
  try simp only [Act.put, List.setIfInBounds_toArray, List.set_cons_zero, List.set_cons_succ]
  refine wpAnyH_take (i := 10) (oi := { dst := some 15, op := Op.binOp BinOp.eql _ (Operand.tmp 9) (Operand.tmp 14) _, type := _, pos := "law.go:34", after := #[{ on := 4, ground := Ground.data }, { on := 9, ground := Ground.data }], guard := none }) (v := .bool true) rfl (by kernel_rfl) (by kernel_rfl) (by kernel_rfl) (fun _ _ _ h => h) (Or.inl ⟨by rfl, ?_⟩) hHeld ?_
  · intro w' hSw
    skip
    go_simp
  try simp only [Act.put, List.setIfInBounds_toArray, List.set_cons_zero, List.set_cons_succ]
  refine wpAnyH_take (i := 11) (oi := { dst := some 16, op := Op.move (Operand.tmp 15), type := _, pos := "law.go:34", after := #[{ on := 10, ground := Ground.data }, { on := 9, ground := Ground.chain }], guard := none }) (v := .bool true) rfl (by kernel_rfl) (by kernel_rfl) (by kernel_rfl) (fun _ _ _ h => h) (Or.inl ⟨by rfl, ?_⟩) hHeld ?_
  · intro w' hSw
    skip
    go_simp
  try simp only [Act.put, List.setIfInBounds_toArray, List.set_cons_zero, List.set_cons_succ]
  refine wpAnyH_take (i := 12) (oi := { dst := some 17, op := Op.fieldAddr _ (Operand.tmp 2) 8, type := _, pos := "law.go:34", after := #[{ on := 11, ground := Ground.guard }], guard := some (11, true) }) (v := .pointer (some ⟨w.heap.size, 26, none⟩)) rfl (by kernel_rfl) (by kernel_rfl) (by kernel_rfl) (fun _ _ _ h => h) (Or.inl ⟨by rfl, ?_⟩) hHeld ?_
  · intro w' hSw
    skip
    go_simp
  try simp only [Act.put, List.setIfInBounds_toArray, List.set_cons_zero, List.set_cons_succ]
  refine wpAnyH_take (i := 13) (oi := { dst := some 18, op := Op.load _ (Operand.tmp 17), type := _, pos := "law.go:34", after := #[{ on := 12, ground := Ground.data }, { on := 11, ground := Ground.guard }], guard := some (11, true) }) (v := .slice s.script.a s.script.len s.script.cap) rfl (by kernel_rfl) (by kernel_rfl) (by kernel_rfl) (fun _ _ _ h => h) (Or.inl ⟨by rfl, ?_⟩) hHeld ?_
  · intro w' hSw
    have k0 := (cell_of_row w' _ 26 _ _ _ hSw.a).trans HAt.out.script
    go_simp
  try simp only [Act.put, List.setIfInBounds_toArray, List.set_cons_zero, List.set_cons_succ]
  refine wpAnyH_take (i := 14) (oi := { dst := some 19, op := Op.fieldAddr _ (Operand.tmp 3) 8, type := _, pos := "law.go:34", after := #[{ on := 11, ground := Ground.guard }], guard := some (11, true) }) (v := .pointer (some ⟨w.heap.size + 1, 26, none⟩)) rfl (by kernel_rfl) (by kernel_rfl) (by kernel_rfl) (fun _ _ _ h => h) (Or.inl ⟨by rfl, ?_⟩) hHeld ?_
  · intro w' hSw
    skip
    go_simp
  try simp only [Act.put, List.setIfInBounds_toArray, List.set_cons_zero, List.set_cons_succ]
  refine wpAnyH_take (i := 15) (oi := { dst := some 20, op := Op.load _ (Operand.tmp 19), type := _, pos := "law.go:34", after := #[{ on := 14, ground := Ground.data }, { on := 11, ground := Ground.guard }], guard := some (11, true) }) (v := .slice r.script.a r.script.len r.script.cap) rfl (by kernel_rfl) (by kernel_rfl) (by kernel_rfl) (fun _ _ _ h => h) (Or.inl ⟨by rfl, ?_⟩) hHeld ?_
  · intro w' hSw
    have k0 := (cell_of_row w' _ 26 _ _ _ hSw.b).trans HBt.out.script
    go_simp
  try simp only [Act.put, List.setIfInBounds_toArray, List.set_cons_zero, List.set_cons_succ]
  refine wpAnyH_take (i := 17) (oi := { dst := some 22, op := Op.fieldAddr _ (Operand.tmp 2) 8, type := _, pos := "law.go:34", after := #[{ on := 11, ground := Ground.guard }], guard := some (11, true) }) (v := .pointer (some ⟨w.heap.size, 26, none⟩)) rfl (by kernel_rfl) (by kernel_rfl) (by kernel_rfl) (fun _ _ _ h => h) (Or.inl ⟨by rfl, ?_⟩) hHeld ?_
  · intro w' hSw
    skip
    go_simp
  try simp only [Act.put, List.setIfInBounds_toArray, List.set_cons_zero, List.set_cons_succ]
  refine wpAnyH_take (i := 18) (oi := { dst := some 23, op := Op.load _ (Operand.tmp 22), type := _, pos := "law.go:34", after := #[{ on := 17, ground := Ground.data }, { on := 11, ground := Ground.guard }], guard := some (11, true) }) (v := .slice s.script.a s.script.len s.script.cap) rfl (by kernel_rfl) (by kernel_rfl) (by kernel_rfl) (fun _ _ _ h => h) (Or.inl ⟨by rfl, ?_⟩) hHeld ?_
  · intro w' hSw
    have k0 := (cell_of_row w' _ 26 _ _ _ hSw.a).trans HAt.out.script
    go_simp
  try simp only [Act.put, List.setIfInBounds_toArray, List.set_cons_zero, List.set_cons_succ]
  refine wpAnyH_take (i := 19) (oi := { dst := some 24, op := Op.fieldAddr _ (Operand.tmp 3) 8, type := _, pos := "law.go:34", after := #[{ on := 11, ground := Ground.guard }], guard := some (11, true) }) (v := .pointer (some ⟨w.heap.size + 1, 26, none⟩)) rfl (by kernel_rfl) (by kernel_rfl) (by kernel_rfl) (fun _ _ _ h => h) (Or.inl ⟨by rfl, ?_⟩) hHeld ?_
  · intro w' hSw
    skip
    go_simp
  try simp only [Act.put, List.setIfInBounds_toArray, List.set_cons_zero, List.set_cons_succ]
  refine wpAnyH_take (i := 20) (oi := { dst := some 25, op := Op.load _ (Operand.tmp 24), type := _, pos := "law.go:34", after := #[{ on := 19, ground := Ground.data }, { on := 11, ground := Ground.guard }], guard := some (11, true) }) (v := .slice r.script.a r.script.len r.script.cap) rfl (by kernel_rfl) (by kernel_rfl) (by kernel_rfl) (fun _ _ _ h => h) (Or.inl ⟨by rfl, ?_⟩) hHeld ?_
  · intro w' hSw
    have k0 := (cell_of_row w' _ 26 _ _ _ hSw.b).trans HBt.out.script
    go_simp
  try simp only [Act.put, List.setIfInBounds_toArray, List.set_cons_zero, List.set_cons_succ]
  refine wpAnyH_ready (rs := [16]) (by kernel_rfl) (by simp) ?_
  refine AllReadyH.cons (o := { dst := some 21, op := Op.call { callee := Callee.value (Operand.func _), args := #[Operand.tmp 18, Operand.tmp 20], argTypes := _ }, type := _, pos := "law.go:34", after := #[{ on := 13, ground := Ground.data }, { on := 15, ground := Ground.data }, { on := 11, ground := Ground.chain }, { on := 11, ground := Ground.guard }], guard := some (11, true) }) rfl (fun K hK => ?_) AllReadyH.nil
  go_simp
  go_at_call 11
  refine (HE.out _ hHeld.below).mono ?_
  rintro e w16x ⟨rfl, hb16⟩
  refine hK.out _ _ (hHeld.next hb16) (fun hHeld => ?_)
  clear hK K
  try simp only [Act.put, List.setIfInBounds_toArray, List.set_cons_zero, List.set_cons_succ]
  refine wpAnyH_ready (rs := [21]) (by kernel_rfl) (by simp) ?_
  refine AllReadyH.cons (o := { dst := some 26, op := Op.call { callee := Callee.value (Operand.func _), args := #[Operand.tmp 23, Operand.tmp 25], argTypes := _ }, type := _, pos := "law.go:34", after := #[{ on := 18, ground := Ground.data }, { on := 20, ground := Ground.data }, { on := 16, ground := Ground.chain }, { on := 11, ground := Ground.guard }], guard := some (11, true) }) rfl (fun K hK => ?_) AllReadyH.nil
  go_simp
  go_at_call 12
  refine (HRE.out _ hHeld.below).mono ?_
  rintro e w21x ⟨rfl, q21, rfl⟩
  refine hK.out _ _ (hHeld.next (below_drewN (Below.refl _ _) q21)) (fun hHeld => ?_)
  clear hK K
  try simp only [Act.put, List.setIfInBounds_toArray, List.set_cons_zero, List.set_cons_succ]
  refine wpAnyH_take (i := 22) (oi := { dst := some 27, op := Op.binOp BinOp.eql _ (Operand.tmp 21) (Operand.tmp 26) _, type := _, pos := "law.go:34", after := #[{ on := 16, ground := Ground.data }, { on := 21, ground := Ground.data }, { on := 11, ground := Ground.guard }], guard := some (11, true) }) (v := .bool true) rfl (by kernel_rfl) (by kernel_rfl) (by kernel_rfl) (fun _ _ _ h => h) (Or.inl ⟨by rfl, ?_⟩) hHeld ?_
  · intro w' hSw
    skip
    go_simp
  try simp only [Act.put, List.setIfInBounds_toArray, List.set_cons_zero, List.set_cons_succ]
  refine wpAnyH_take (i := 23) (oi := { dst := some 28, op := Op.pick (Operand.tmp 16) (Operand.tmp 27) (Operand.const (Value.bool false)), type := _, pos := "law.go:34", after := #[{ on := 11, ground := Ground.data }, { on := 22, ground := Ground.data }], guard := none }) (v := .bool true) rfl (by kernel_rfl) (by kernel_rfl) (by kernel_rfl) (fun _ _ _ h => h) (Or.inl ⟨by rfl, ?_⟩) hHeld ?_
  · intro w' hSw
    skip
    go_simp
  try simp only [Act.put, List.setIfInBounds_toArray, List.set_cons_zero, List.set_cons_succ]
  refine wpAnyH_take (i := 24) (oi := { dst := some 29, op := Op.move (Operand.tmp 28), type := _, pos := "law.go:34", after := #[{ on := 23, ground := Ground.data }, { on := 21, ground := Ground.chain }], guard := none }) (v := .bool true) rfl (by kernel_rfl) (by kernel_rfl) (by kernel_rfl) (fun _ _ _ h => h) (Or.inl ⟨by rfl, ?_⟩) hHeld ?_
  · intro w' hSw
    skip
    go_simp
  try simp only [Act.put, List.setIfInBounds_toArray, List.set_cons_zero, List.set_cons_succ]
  refine wpAnyH_ready (rs := [25]) (by kernel_rfl) (by simp) ?_
  refine AllReadyH.cons (o := { dst := some 30, op := Op.call { callee := Callee.value (Operand.func _), args := #[], argTypes := _ }, type := _, pos := "law.go:34", after := #[{ on := 24, ground := Ground.chain }, { on := 24, ground := Ground.guard }], guard := some (24, true) }) rfl (fun K hK => ?_) AllReadyH.nil
  go_simp
  go_at_call 13
  refine (HW.out _ hHeld.below).mono ?_
  rintro e w25x ⟨rfl, hb25⟩
  refine hK.out _ _ (hHeld.next hb25) (fun hHeld => ?_)
  clear hK K
  try simp only [Act.put, List.setIfInBounds_toArray, List.set_cons_zero, List.set_cons_succ]
  refine wpAnyH_take (i := 26) (oi := { dst := some 31, op := Op.pick (Operand.tmp 29) (Operand.tmp 30) (Operand.const (Value.bool false)), type := _, pos := "law.go:34", after := #[{ on := 24, ground := Ground.data }, { on := 25, ground := Ground.data }], guard := none }) (v := .bool true) rfl (by kernel_rfl) (by kernel_rfl) (by kernel_rfl) (fun _ _ _ h => h) (Or.inl ⟨by rfl, ?_⟩) hHeld ?_
  · intro w' hSw
    skip
    go_simp
  try simp only [Act.put, List.setIfInBounds_toArray, List.set_cons_zero, List.set_cons_succ]
  refine wpAnyH_take (i := 27) (oi := { dst := some 4, op := Op.assign (Operand.tmp 31), type := _, pos := "law.go:34", after := #[{ on := 26, ground := Ground.data }, { on := 25, ground := Ground.chain }, { on := 0, ground := Ground.phase }, { on := 1, ground := Ground.phase }, { on := 2, ground := Ground.phase }, { on := 3, ground := Ground.phase }, { on := 4, ground := Ground.phase }, { on := 5, ground := Ground.phase }, { on := 6, ground := Ground.phase }, { on := 7, ground := Ground.phase }, { on := 8, ground := Ground.phase }, { on := 9, ground := Ground.phase }, { on := 10, ground := Ground.phase }, { on := 11, ground := Ground.phase }, { on := 12, ground := Ground.phase }, { on := 13, ground := Ground.phase }, { on := 14, ground := Ground.phase }, { on := 15, ground := Ground.phase }, { on := 16, ground := Ground.phase }, { on := 17, ground := Ground.phase }, { on := 18, ground := Ground.phase }, { on := 19, ground := Ground.phase }, { on := 20, ground := Ground.phase }, { on := 21, ground := Ground.phase }, { on := 22, ground := Ground.phase }, { on := 23, ground := Ground.phase }, { on := 24, ground := Ground.phase }, { on := 25, ground := Ground.phase }, { on := 26, ground := Ground.phase }], guard := none }) (v := .bool true) rfl (by kernel_rfl) (by kernel_rfl) (by kernel_rfl) (fun _ _ _ h => h) (Or.inl ⟨by rfl, ?_⟩) hHeld ?_
  · intro w' hSw
    skip
    go_simp
  try simp only [Act.put, List.setIfInBounds_toArray, List.set_cons_zero, List.set_cons_succ]
  refine wpAnyH_done (by kernel_rfl) ?_ _
  go_wp2_with fail
  go_ret
  exact ⟨rfl, hHeld.below⟩

theorem lists_walk (A : Array Value) (s : SvR) (hA : SvAt A s) (B : Array Value) (r : SvR) (hB : SvAt B r) (w : World) (HT : Hid (pTab w)) (hs : SvOk s w) (hr : SvOk r w) :
    Calls Tryd.prog 3 #[.agg A, .agg B] w fun e w' => e = .returned (.bool true) ∧ Below w.heap.size w w' :=
  lists_in A B s r hA hB w hs hr HT
end Go.Proofs.YtjnakhejdpkfnaaDoor
