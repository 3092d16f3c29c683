/- The walk of TextWords. (Written by mkTXH.py.) -/
import Derived.Test.YtenbjnogeanglaaDoorTxtG
import Derived.Test.YtenbjnogeanglaaDoorTxtW
import Derived.Test.YtenbjnogeanglaaDoorFlat
import Derived.Deep.RegionHeld3
namespace Go.Proofs.YtenbjnogeanglaaDoor
open Go.RowKit
set_option linter.unusedSimpArgs false
set_option linter.unusedVariables false
set_option maxRecDepth 100000

/-- What stays while the region goes. -/
structure Tw2 (w : World) (I J : Array Value) (w' : World) : Prop where
  i : w'.heap[w.heap.size]? = some (.cells I 23 (0, 0))
  j : w'.heap[w.heap.size + 1]? = some (.cells J 23 (0, 0))
  below : Below w.heap.size w w'
  size : w.heap.size + 1 < w'.heap.size
theorem Tw2.next {w w1 w2 : World} {I J : Array Value} (h : Tw2 w I J w1) (hb : Below w1.heap.size w1 w2) : Tw2 w I J w2 :=
  have hs := h.size
  ⟨(hb.block _ (by omega)).trans h.i, (hb.block _ (by omega)).trans h.j, h.below.trans (hb.mono (by omega)), Nat.lt_of_lt_of_le h.size hb.size⟩

set_option maxHeartbeats 8000000 in
theorem words_in (op a b imm qop qa qb qimm : Int) (w : World) (h0 : 0 ≤ op) (h1 : op < 256) (h2 : 0 ≤ a) (h3 : a < 256) (h4 : 0 ≤ b) (h5 : b < 256) (h6 : -2147483648 ≤ imm) (h7 : imm < 2147483648)
    (g0 : 0 ≤ qop) (g1 : qop < 256) (g2 : 0 ≤ qa) (g3 : qa < 256) (g4 : 0 ≤ qb) (g5 : qb < 256) (g6 : -2147483648 ≤ qimm) (g7 : qimm < 2147483648) (HT : Hid (pTab w)) :
    Calls Tryd.prog 4 #[.agg #[.int .u8 op, .int .u8 a, .int .u8 b, .int .i32 imm], .agg #[.int .u8 qop, .int .u8 qa, .int .u8 qb, .int .i32 qimm]] w fun e w' => e = .returned (.bool true) ∧ Below w.heap.size w w' := by
  have HS := Lib.hid fun (W : World) (hb : Below w.heap.size w W) => show_c op a b imm W h0 h1 h2 h3 h4 h5 h6 h7 (Lib.hid (fun w' h => HT.out w' (hb.trans (h.mono hb.size))))
  have HR := Lib.hid fun (W : World) (hb : Below w.heap.size w W) => show_c qop qa qb qimm W g0 g1 g2 g3 g4 g5 g6 g7 (Lib.hid (fun w' h => HT.out w' (hb.trans (h.mono hb.size))))
  have HW := Lib.hid fun (W : World) (hb : Below w.heap.size w W) => works_c W (Lib.hid (fun w' h => HT.out w' (hb.trans (h.mono hb.size))))
  have HC : Hid ((showL op a b imm ≠ showL qop qa qb qimm) ∨ (showL op a b imm = showL qop qa qb qimm ∧ showL op a b imm = []) ∨ (op = qop ∧ a = qa ∧ b = qb ∧ imm = qimm)) := Lib.hid (by
    by_cases e : showL op a b imm = showL qop qa qb qimm
    · by_cases z : showL op a b imm = []
      · exact .inr (.inl ⟨e, z⟩)
      · exact .inr (.inr (show_inj h2 h4 g2 g4 e z))
    · exact .inl e)
  unfold Isa.insV at HS HR
  obtain ⟨s, hs⟩ : ∃ s : ByteArray, s = ⟨(showL op a b imm).toArray⟩ := ⟨_, rfl⟩
  obtain ⟨t, ht⟩ : ∃ t : ByteArray, t = ⟨(showL qop qa qb qimm).toArray⟩ := ⟨_, rfl⟩
  rw [← hs] at HS
  rw [← ht] at HR
  have HSs := Lib.hid hs
  have HTt := Lib.hid ht
  clear hs ht
  go_enter Tryd.func4, Tryd.ntmps4
  go_wp2_with fail
  have HI : Hid (Tw2 w #[.int .u8 op, .int .u8 a, .int .u8 b, .int .i32 imm] #[.int .u8 qop, .int .u8 qa, .int .u8 qb, .int .i32 qimm] ((w.alloc (.cells #[.int .u8 op, .int .u8 a, .int .u8 b, .int .i32 imm] 23)).alloc (.cells #[.int .u8 qop, .int .u8 qa, .int .u8 qb, .int .i32 qimm] 23)).drew) :=
    Lib.hid ⟨heap_oldT (heap_newT rfl), heap_newT (by simp), ((Isa.below_alloc1 w _).alloc (by simp) _).drew, by simp⟩
  refine wp_region_held_drew (S := fun w' => Tw2 w #[.int .u8 op, .int .u8 a, .int .u8 b, .int .i32 imm] #[.int .u8 qop, .int .u8 qa, .int .u8 qb, .int .i32 qimm] w') (by kernel_rfl) HI.out (fun hHeld => ?_)
  clear HI
  refine wpAnyH_take (i := 0) (oi := { dst := some 7, op := Op.load _ (Operand.tmp 2), type := _, pos := "law.go:50", after := #[], guard := none }) (v := .agg #[.int .u8 op, .int .u8 a, .int .u8 b, .int .i32 imm]) rfl (by kernel_rfl) (by kernel_rfl) (by kernel_rfl) (fun _ _ _ h => h) (Or.inl ⟨by rfl, ?_⟩) hHeld ?_
  · intro w' hSw
    have k0 := cell_of_row w' _ 0 _ _ _ hSw.i
    have j0 := cell_of_row w' _ 0 _ _ _ hSw.j
    have k1 := cell_of_row w' _ 1 _ _ _ hSw.i
    have j1 := cell_of_row w' _ 1 _ _ _ hSw.j
    have k2 := cell_of_row w' _ 2 _ _ _ hSw.i
    have j2 := cell_of_row w' _ 2 _ _ _ hSw.j
    have k3 := cell_of_row w' _ 3 _ _ _ hSw.i
    have j3 := cell_of_row w' _ 3 _ _ _ hSw.j
    simp at k0 k1 k2 k3 j0 j1 j2 j3
    go_simp
  try simp only [Act.put, List.setIfInBounds_toArray, List.set_cons_zero, List.set_cons_succ]
  refine wpAnyH_take (i := 2) (oi := { dst := some 9, op := Op.load _ (Operand.tmp 3), type := _, pos := "law.go:50", after := #[], guard := none }) (v := .agg #[.int .u8 qop, .int .u8 qa, .int .u8 qb, .int .i32 qimm]) rfl (by kernel_rfl) (by kernel_rfl) (by kernel_rfl) (fun _ _ _ h => h) (Or.inl ⟨by rfl, ?_⟩) hHeld ?_
  · intro w' hSw
    have k0 := cell_of_row w' _ 0 _ _ _ hSw.i
    have j0 := cell_of_row w' _ 0 _ _ _ hSw.j
    have k1 := cell_of_row w' _ 1 _ _ _ hSw.i
    have j1 := cell_of_row w' _ 1 _ _ _ hSw.j
    have k2 := cell_of_row w' _ 2 _ _ _ hSw.i
    have j2 := cell_of_row w' _ 2 _ _ _ hSw.j
    have k3 := cell_of_row w' _ 3 _ _ _ hSw.i
    have j3 := cell_of_row w' _ 3 _ _ _ hSw.j
    simp at k0 k1 k2 k3 j0 j1 j2 j3
    go_simp
  try simp only [Act.put, List.setIfInBounds_toArray, List.set_cons_zero, List.set_cons_succ]
  refine wpAnyH_ready (rs := [1]) (by kernel_rfl) (by simp) ?_
  refine AllReadyH.cons (o := { dst := some 8, op := Op.call { callee := Callee.value (Operand.func _), args := #[Operand.tmp 7], argTypes := _ }, type := _, pos := "law.go:50", after := #[{ on := 0, ground := Ground.data }], guard := none }) rfl (fun K hK => ?_) AllReadyH.nil
  go_simp
  go_at_call 7
  refine (HS.out _ hHeld.below).mono ?_
  rintro e w1 ⟨rfl, hb⟩
  refine hK.out _ _ (hHeld.next hb) (fun hHeld => ?_)
  clear hK K hb
  try simp only [Act.put, List.setIfInBounds_toArray, List.set_cons_zero, List.set_cons_succ]
  refine wpAnyH_ready (rs := [3]) (by kernel_rfl) (by simp) ?_
  refine AllReadyH.cons (o := { dst := some 10, op := Op.call { callee := Callee.value (Operand.func _), args := #[Operand.tmp 9], argTypes := _ }, type := _, pos := "law.go:50", after := #[{ on := 2, ground := Ground.data }, { on := 1, ground := Ground.chain }], guard := none }) rfl (fun K hK => ?_) AllReadyH.nil
  go_simp
  go_at_call 7
  refine (HR.out _ hHeld.below).mono ?_
  rintro e w3 ⟨rfl, hb⟩
  refine hK.out _ _ (hHeld.next hb) (fun hHeld => ?_)
  clear hK K hb
  try simp only [Act.put, List.setIfInBounds_toArray, List.set_cons_zero, List.set_cons_succ]
  refine wpAnyH_take (i := 4) (oi := { dst := some 5, op := Op.assign (Operand.tmp 8), type := _, pos := "law.go:50", after := #[{ on := 1, ground := Ground.data }, { on := 3, ground := Ground.chain }, { on := 0, ground := Ground.phase }, { on := 1, ground := Ground.phase }, { on := 2, ground := Ground.textOnly Departure.lateStores }, { on := 3, ground := Ground.textOnly Departure.lateStoresUnsure }], guard := none }) (v := .string s) rfl (by kernel_rfl) (by kernel_rfl) (by kernel_rfl) (fun _ _ _ h => h) (Or.inl ⟨by rfl, ?_⟩) hHeld ?_
  · intro w' hSw
    have k0 := cell_of_row w' _ 0 _ _ _ hSw.i
    have j0 := cell_of_row w' _ 0 _ _ _ hSw.j
    have k1 := cell_of_row w' _ 1 _ _ _ hSw.i
    have j1 := cell_of_row w' _ 1 _ _ _ hSw.j
    have k2 := cell_of_row w' _ 2 _ _ _ hSw.i
    have j2 := cell_of_row w' _ 2 _ _ _ hSw.j
    have k3 := cell_of_row w' _ 3 _ _ _ hSw.i
    have j3 := cell_of_row w' _ 3 _ _ _ hSw.j
    simp at k0 k1 k2 k3 j0 j1 j2 j3
    go_simp
  try simp only [Act.put, List.setIfInBounds_toArray, List.set_cons_zero, List.set_cons_succ]
  refine wpAnyH_take (i := 5) (oi := { dst := some 6, op := Op.assign (Operand.tmp 10), type := _, pos := "law.go:50", after := #[{ on := 3, ground := Ground.data }, { on := 4, ground := Ground.chain }, { on := 0, ground := Ground.phase }, { on := 1, ground := Ground.phase }, { on := 2, ground := Ground.phase }, { on := 3, ground := Ground.phase }, { on := 4, ground := Ground.phase }], guard := none }) (v := .string t) rfl (by kernel_rfl) (by kernel_rfl) (by kernel_rfl) (fun _ _ _ h => h) (Or.inl ⟨by rfl, ?_⟩) hHeld ?_
  · intro w' hSw
    have k0 := cell_of_row w' _ 0 _ _ _ hSw.i
    have j0 := cell_of_row w' _ 0 _ _ _ hSw.j
    have k1 := cell_of_row w' _ 1 _ _ _ hSw.i
    have j1 := cell_of_row w' _ 1 _ _ _ hSw.j
    have k2 := cell_of_row w' _ 2 _ _ _ hSw.i
    have j2 := cell_of_row w' _ 2 _ _ _ hSw.j
    have k3 := cell_of_row w' _ 3 _ _ _ hSw.i
    have j3 := cell_of_row w' _ 3 _ _ _ hSw.j
    simp at k0 k1 k2 k3 j0 j1 j2 j3
    go_simp
  try simp only [Act.put, List.setIfInBounds_toArray, List.set_cons_zero, List.set_cons_succ]
  refine wpAnyH_done (by kernel_rfl) ?_ _
  have hl1 : w.heap.size < w3.heap.size := by have := hHeld.size; omega
  have hl2 : w.heap.size + 1 < w3.heap.size := hHeld.size
  have k0 : w3.cell? ⟨w.heap.size, 0, none⟩ = some (.int .u8 op) := (cell_of_row w3 _ _ _ _ _ hHeld.i).trans rfl
  have k1 : w3.cell? ⟨w.heap.size, 1, none⟩ = some (.int .u8 a) := (cell_of_row w3 _ _ _ _ _ hHeld.i).trans rfl
  have k2 : w3.cell? ⟨w.heap.size, 2, none⟩ = some (.int .u8 b) := (cell_of_row w3 _ _ _ _ _ hHeld.i).trans rfl
  have k3 : w3.cell? ⟨w.heap.size, 3, none⟩ = some (.int .i32 imm) := (cell_of_row w3 _ _ _ _ _ hHeld.i).trans rfl
  have j0 : w3.cell? ⟨w.heap.size + 1, 0, none⟩ = some (.int .u8 qop) := (cell_of_row w3 _ _ _ _ _ hHeld.j).trans rfl
  have j1 : w3.cell? ⟨w.heap.size + 1, 1, none⟩ = some (.int .u8 qa) := (cell_of_row w3 _ _ _ _ _ hHeld.j).trans rfl
  have j2 : w3.cell? ⟨w.heap.size + 1, 2, none⟩ = some (.int .u8 qb) := (cell_of_row w3 _ _ _ _ _ hHeld.j).trans rfl
  have j3 : w3.cell? ⟨w.heap.size + 1, 3, none⟩ = some (.int .i32 qimm) := (cell_of_row w3 _ _ _ _ _ hHeld.j).trans rfl
  have HH := Lib.hid hHeld
  clear hHeld
  rcases HC.out with hne | ⟨he, hz⟩ | ⟨rfl, rfl, rfl, rfl⟩
  · have hst : s.data.toList ≠ t.data.toList := by
      rw [HSs.out, HTt.out]; simpa using hne
    have b1 : (s.toList == t.toList) = false := by rw [ByteArray.toList_eq, ByteArray.toList_eq]; simpa using hst
    clear hst
    clear hne
    go_wp2_with fail
    refine (HW.out _ HH.out.below).mono ?_
    rintro e w4 ⟨rfl, hb4⟩
    go_wp2_with fail
    go_ret
    exact ⟨rfl, HH.out.below.trans (hb4.mono HH.out.below.size)⟩
  · obtain rfl : s = t := by rw [HSs.out, HTt.out, he]
    obtain rfl : s = ⟨#[]⟩ := by rw [HSs.out, hz]
    clear he hz
    go_wp2_with fail
    refine (HW.out _ HH.out.below).mono ?_
    rintro e w4 ⟨rfl, hb4⟩
    go_wp2_with fail
    go_ret
    exact ⟨rfl, HH.out.below.trans (hb4.mono HH.out.below.size)⟩
  · obtain rfl : s = t := by rw [HSs.out, HTt.out]
    have h1 : s.toList = [] ∨ ¬ s.toList = [] := Classical.em _
    rcases h1 with hz | hz
    all_goals
      have hz2 : s.toList.isEmpty = decide (s.toList = []) := by cases s.toList <;> simp
      first | rw [decide_eq_true hz] at hz2 | rw [decide_eq_false hz] at hz2
      go_wp2_with fail
      refine (HW.out _ HH.out.below).mono ?_
      rintro e w4 ⟨rfl, hb4⟩
      go_wp2_with fail
      go_ret
      exact ⟨rfl, HH.out.below.trans (hb4.mono HH.out.below.size)⟩

theorem words_walk (op : Int) (wo : (Lit.int .u8 op).wf = true) (a : Int) (wa : (Lit.int .u8 a).wf = true) (b : Int) (wb : (Lit.int .u8 b).wf = true) (imm : Int) (wi : (Lit.int .i32 imm).wf = true) (qop : Int) (vo : (Lit.int .u8 qop).wf = true) (qa : Int) (va : (Lit.int .u8 qa).wf = true) (qb : Int) (vb : (Lit.int .u8 qb).wf = true) (qimm : Int) (vi : (Lit.int .i32 qimm).wf = true) (w : World) (HT : Hid (pTab w)) :
    Calls Tryd.prog 4 #[.agg #[.int .u8 op, .int .u8 a, .int .u8 b, .int .i32 imm], .agg #[.int .u8 qop, .int .u8 qa, .int .u8 qb, .int .i32 qimm]] w fun e w' => e = .returned (.bool true) ∧ Below w.heap.size w w' :=
  words_in op a b imm qop qa qb qimm w (bd_u8 wo).1 (bd_u8 wo).2 (bd_u8 wa).1 (bd_u8 wa).2 (bd_u8 wb).1 (bd_u8 wb).2 (bd_i32 wi).1 (bd_i32 wi).2 (bd_u8 vo).1 (bd_u8 vo).2 (bd_u8 va).1 (bd_u8 va).2 (bd_u8 vb).1 (bd_u8 vb).2 (bd_i32 vi).1 (bd_i32 vi).2 HT
end Go.Proofs.YtenbjnogeanglaaDoor
