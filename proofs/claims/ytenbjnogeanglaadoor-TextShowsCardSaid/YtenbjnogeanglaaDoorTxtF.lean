/- The walks of TextShows and of the statements' own call 'works'. -/
import Derived.Test.YtenbjnogeanglaaDoorTxtE
import Derived.Deep.RegionHeld3
import Derived.Test.YtenbjnogeanglaaDoorFlat
namespace Go.Proofs.YtenbjnogeanglaaDoor
open Go.RowKit
set_option linter.unusedSimpArgs false
set_option linter.unusedVariables false
set_option maxRecDepth 100000

theorem show_add : showL 17 1 2 0 = [97, 100, 100, 32, 114, 49, 32, 114, 50] := by decide +kernel

set_option maxHeartbeats 1000000 in
theorem works_c (w : World) (HT : Hid (pTab w)) : Calls Tryd.prog 9 #[] w fun e w' => e = .returned (.bool true) ∧ Below w.heap.size w w' := by
  have hS := show_c 17 1 2 0 w (by decide) (by decide) (by decide) (by decide) (by decide) (by decide) (by decide) (by decide) HT
  rw [show_add] at hS
  unfold Isa.insV at hS
  have HS := Lib.hid hS
  clear hS
  go_enter Tryd.func9, Tryd.ntmps9
  go_wp2_with fail
  refine (HS.out).mono ?_
  rintro e w1 ⟨rfl, hb⟩
  go_wp2_with fail
  go_ret
  exact ⟨rfl, hb⟩

/-- What stays while the region goes. -/
structure TwS (w : World) (bi : Nat) (I : Array Value) (w' : World) : Prop where
  i : w'.heap[bi]? = some (.cells I 23 (0, 0))
  below : Below w.heap.size w w'
  size : bi < w'.heap.size
theorem TwS.next {w w1 w2 : World} {I : Array Value} {bi : Nat} (h : TwS w bi I w1) (hb : Below w1.heap.size w1 w2) : TwS w bi I w2 :=
  ⟨(hb.block _ h.size).trans h.i, h.below.trans (hb.mono h.below.size), Nat.lt_of_lt_of_le h.size hb.size⟩

set_option maxHeartbeats 8000000 in
theorem shows_in (op a b imm : Int) (w : World) (h0 : 0 ≤ op) (h1 : op < 256) (h2 : 0 ≤ a) (h3 : a < 256) (h4 : 0 ≤ b) (h5 : b < 256) (h6 : -2147483648 ≤ imm) (h7 : imm < 2147483648) (HT : Hid (pTab w)) :
    Calls Tryd.prog 3 #[Isa.insV op a b imm] w fun e w' => e = .returned (.bool true) ∧ Below w.heap.size w w' := by
  have HS := Lib.hid fun (W : World) (hb : Below w.heap.size w W) => show_c op a b imm W h0 h1 h2 h3 h4 h5 h6 h7 (Lib.hid (fun w' h => HT.out w' (hb.trans (h.mono hb.size))))
  have HR := Lib.hid fun (W : World) => refShow_c op a b imm W h0 h1 h2 h3 h4 h5 h6 h7
  have HW := Lib.hid fun (W : World) (hb : Below w.heap.size w W) => works_c W (Lib.hid (fun w' h => HT.out w' (hb.trans (h.mono hb.size))))
  unfold Isa.insV at HS HR ⊢
  generalize (⟨(showL op a b imm).toArray⟩ : ByteArray) = s at HS HR
  go_enter Tryd.func3, Tryd.ntmps3
  go_wp2_with fail
  have HI : Hid (TwS w w.heap.size #[.int .u8 op, .int .u8 a, .int .u8 b, .int .i32 imm] (w.alloc (.cells #[.int .u8 op, .int .u8 a, .int .u8 b, .int .i32 imm] 23)).drew) :=
    Lib.hid ⟨heap_newT rfl, (Isa.below_alloc1 w _).drew, by simp⟩
  refine wp_region_held_drew (S := fun w' => TwS w w.heap.size #[.int .u8 op, .int .u8 a, .int .u8 b, .int .i32 imm] w') (by kernel_rfl) HI.out (fun hHeld => ?_)
  clear HI
  refine wpAnyH_take (i := 0) (oi := { dst := some 3, op := Op.load _ (Operand.tmp 1), type := _, pos := "law.go:15", after := #[], guard := none }) (v := .agg #[.int .u8 op, .int .u8 a, .int .u8 b, .int .i32 imm]) rfl (by kernel_rfl) (by kernel_rfl) (by kernel_rfl) (fun _ _ _ h => h) (Or.inl ⟨by rfl, ?_⟩) hHeld ?_
  · intro w' hSw
    have k0 := cell_of_row w' _ 0 _ _ _ hSw.i
    have k1 := cell_of_row w' _ 1 _ _ _ hSw.i
    have k2 := cell_of_row w' _ 2 _ _ _ hSw.i
    have k3 := cell_of_row w' _ 3 _ _ _ hSw.i
    simp at k0 k1 k2 k3
    go_simp
  try simp only [Act.put, List.setIfInBounds_toArray, List.set_cons_zero, List.set_cons_succ]
  refine wpAnyH_take (i := 2) (oi := { dst := some 5, op := Op.load _ (Operand.tmp 1), type := _, pos := "law.go:15", after := #[], guard := none }) (v := .agg #[.int .u8 op, .int .u8 a, .int .u8 b, .int .i32 imm]) rfl (by kernel_rfl) (by kernel_rfl) (by kernel_rfl) (fun _ _ _ h => h) (Or.inl ⟨by rfl, ?_⟩) hHeld ?_
  · intro w' hSw
    have k0 := cell_of_row w' _ 0 _ _ _ hSw.i
    have k1 := cell_of_row w' _ 1 _ _ _ hSw.i
    have k2 := cell_of_row w' _ 2 _ _ _ hSw.i
    have k3 := cell_of_row w' _ 3 _ _ _ hSw.i
    simp at k0 k1 k2 k3
    go_simp
  try simp only [Act.put, List.setIfInBounds_toArray, List.set_cons_zero, List.set_cons_succ]
  refine wpAnyH_ready (rs := [1]) (by kernel_rfl) (by simp) ?_
  refine AllReadyH.cons (o := { dst := some 4, op := Op.call { callee := Callee.value (Operand.func _), args := #[Operand.tmp 3], argTypes := _ }, type := _, pos := "law.go:15", after := #[{ on := 0, ground := Ground.data }], guard := none }) rfl (fun K hK => ?_) AllReadyH.nil
  go_simp
  go_at_call 7
  refine (HS.out _ hHeld.below).mono ?_
  rintro e w1 ⟨rfl, hb⟩
  refine hK.out _ _ (hHeld.next hb) (fun hHeld => ?_)
  clear hK K hb
  try simp only [Act.put, List.setIfInBounds_toArray, List.set_cons_zero, List.set_cons_succ]
  refine wpAnyH_ready (rs := [3]) (by kernel_rfl) (by simp) ?_
  refine AllReadyH.cons (o := { dst := some 6, op := Op.call { callee := Callee.value (Operand.func _), args := #[Operand.tmp 5], argTypes := _ }, type := _, pos := "law.go:15", after := #[{ on := 2, ground := Ground.data }, { on := 1, ground := Ground.chain }], guard := none }) rfl (fun K hK => ?_) AllReadyH.nil
  go_simp
  go_at_call 8
  refine (HR.out _).mono ?_
  rintro e w3 ⟨rfl, hb⟩
  refine hK.out _ _ (hHeld.next hb) (fun hHeld => ?_)
  clear hK K hb
  try simp only [Act.put, List.setIfInBounds_toArray, List.set_cons_zero, List.set_cons_succ]
  refine wpAnyH_take (i := 4) (oi := { dst := some 7, op := Op.binOp BinOp.eql _ (Operand.tmp 4) (Operand.tmp 6) _, type := _, pos := "law.go:15", after := #[{ on := 1, ground := Ground.data }, { on := 3, ground := Ground.data }], guard := none }) (v := .bool true) rfl (by kernel_rfl) (by kernel_rfl) (by kernel_rfl) (fun _ _ _ h => h) (Or.inl ⟨by rfl, ?_⟩) hHeld ?_
  · intro w' hSw
    have k0 := cell_of_row w' _ 0 _ _ _ hSw.i
    have k1 := cell_of_row w' _ 1 _ _ _ hSw.i
    have k2 := cell_of_row w' _ 2 _ _ _ hSw.i
    have k3 := cell_of_row w' _ 3 _ _ _ hSw.i
    simp at k0 k1 k2 k3
    go_simp
  try simp only [Act.put, List.setIfInBounds_toArray, List.set_cons_zero, List.set_cons_succ]
  refine wpAnyH_take (i := 5) (oi := { dst := some 8, op := Op.move (Operand.tmp 7), type := _, pos := "law.go:15", after := #[{ on := 4, ground := Ground.data }, { on := 3, ground := Ground.chain }], guard := none }) (v := .bool true) rfl (by kernel_rfl) (by kernel_rfl) (by kernel_rfl) (fun _ _ _ h => h) (Or.inl ⟨by rfl, ?_⟩) hHeld ?_
  · intro w' hSw
    have k0 := cell_of_row w' _ 0 _ _ _ hSw.i
    have k1 := cell_of_row w' _ 1 _ _ _ hSw.i
    have k2 := cell_of_row w' _ 2 _ _ _ hSw.i
    have k3 := cell_of_row w' _ 3 _ _ _ hSw.i
    simp at k0 k1 k2 k3
    go_simp
  try simp only [Act.put, List.setIfInBounds_toArray, List.set_cons_zero, List.set_cons_succ]
  refine wpAnyH_ready (rs := [6]) (by kernel_rfl) (by simp) ?_
  refine AllReadyH.cons (o := { dst := some 9, op := Op.call { callee := Callee.value (Operand.func _), args := #[], argTypes := _ }, type := _, pos := "law.go:15", after := #[{ on := 5, ground := Ground.chain }, { on := 5, ground := Ground.guard }], guard := some (5, true) }) rfl (fun K hK => ?_) AllReadyH.nil
  go_simp
  go_at_call 9
  refine (HW.out _ hHeld.below).mono ?_
  rintro e w6 ⟨rfl, hb⟩
  refine hK.out _ _ (hHeld.next hb) (fun hHeld => ?_)
  clear hK K hb
  try simp only [Act.put, List.setIfInBounds_toArray, List.set_cons_zero, List.set_cons_succ]
  refine wpAnyH_take (i := 7) (oi := { dst := some 10, op := Op.pick (Operand.tmp 8) (Operand.tmp 9) (Operand.const (Value.bool false)), type := _, pos := "law.go:15", after := #[{ on := 5, ground := Ground.data }, { on := 6, ground := Ground.data }], guard := none }) (v := .bool true) rfl (by kernel_rfl) (by kernel_rfl) (by kernel_rfl) (fun _ _ _ h => h) (Or.inl ⟨by rfl, ?_⟩) hHeld ?_
  · intro w' hSw
    have k0 := cell_of_row w' _ 0 _ _ _ hSw.i
    have k1 := cell_of_row w' _ 1 _ _ _ hSw.i
    have k2 := cell_of_row w' _ 2 _ _ _ hSw.i
    have k3 := cell_of_row w' _ 3 _ _ _ hSw.i
    simp at k0 k1 k2 k3
    go_simp
  try simp only [Act.put, List.setIfInBounds_toArray, List.set_cons_zero, List.set_cons_succ]
  refine wpAnyH_take (i := 8) (oi := { dst := some 2, op := Op.assign (Operand.tmp 10), type := _, pos := "law.go:15", after := #[{ on := 7, ground := Ground.data }, { on := 6, ground := Ground.chain }, { on := 0, ground := Ground.phase }, { on := 1, ground := Ground.phase }, { on := 2, ground := Ground.phase }, { on := 3, ground := Ground.phase }, { on := 4, ground := Ground.phase }, { on := 5, ground := Ground.phase }, { on := 6, ground := Ground.phase }, { on := 7, ground := Ground.phase }], guard := none }) (v := .bool true) rfl (by kernel_rfl) (by kernel_rfl) (by kernel_rfl) (fun _ _ _ h => h) (Or.inl ⟨by rfl, ?_⟩) hHeld ?_
  · intro w' hSw
    have k0 := cell_of_row w' _ 0 _ _ _ hSw.i
    have k1 := cell_of_row w' _ 1 _ _ _ hSw.i
    have k2 := cell_of_row w' _ 2 _ _ _ hSw.i
    have k3 := cell_of_row w' _ 3 _ _ _ hSw.i
    simp at k0 k1 k2 k3
    go_simp
  try simp only [Act.put, List.setIfInBounds_toArray, List.set_cons_zero, List.set_cons_succ]
  refine wpAnyH_done (by kernel_rfl) ?_ _
  go_wp2_with fail
  go_ret
  exact ⟨rfl, hHeld.below⟩

theorem shows_walk (op : Int) (wo : (Lit.int .u8 op).wf = true) (a : Int) (wa : (Lit.int .u8 a).wf = true) (b : Int) (wb : (Lit.int .u8 b).wf = true) (imm : Int) (wi : (Lit.int .i32 imm).wf = true) (w : World) (HT : Hid (pTab w)) :
    Calls Tryd.prog 3 #[.agg #[.int .u8 op, .int .u8 a, .int .u8 b, .int .i32 imm]] w fun e w' => e = .returned (.bool true) ∧ Below w.heap.size w w' := by
  obtain ⟨h0, h1⟩ := bd_u8 wo
  obtain ⟨h2, h3⟩ := bd_u8 wa
  obtain ⟨h4, h5⟩ := bd_u8 wb
  obtain ⟨h6, h7⟩ := bd_i32 wi
  exact shows_in op a b imm w h0 h1 h2 h3 h4 h5 h6 h7 HT
end Go.Proofs.YtenbjnogeanglaaDoor
