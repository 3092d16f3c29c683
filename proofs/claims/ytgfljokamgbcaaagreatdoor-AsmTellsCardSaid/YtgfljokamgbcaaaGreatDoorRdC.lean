/- (text.name).of: the instruction of words, path by path. (Written by mkRdC.py.) -/
import Derived.Test.YtgfljokamgbcaaaGreatDoorRdB
import Derived.Deep.RegionHeld3
namespace Go.Proofs.YtgfljokamgbcaaaGreatDoor
open Go.RowKit
set_option linter.unusedSimpArgs false
set_option linter.unusedVariables false
set_option maxRecDepth 100000

theorem numF_bd {l : List UInt8} {n : Int} (h : numF l = some n) : -2147483648 ≤ n ∧ n < 2147483648 := by
  have key : ∀ B l, numB B l = some n → -2147483648 ≤ n ∧ n < 2147483648 := by
    intro B l h
    unfold numB at h
    split at h
    · cases h
    · cases hd : digF l 0 with
      | none => rw [hd] at h; cases h
      | some m =>
        have hm := digF_bd l 0 m (by omega) (by omega) hd
        rw [hd] at h
        simp only [Option.bind] at h
        split at h
        · have := Option.some.inj h; omega
        · split at h
          · have := Option.some.inj h; omega
          · cases h
  unfold numF at h
  split at h
  · exact key _ _ h
  · exact key _ _ h

/-- What the walk keeps. -/
structure OfS (w : World) (s : ByteArray) (op a b : Int) (imm : Bool) (gw : Nat) (ws : List (List UInt8)) (W : World) : Prop where
  nm : W.heap[w.heap.size]? = some (.cells #[.string s, .int .u8 op, .int .u8 a, .int .u8 b, .bool imm] 104 (0, 0))
  ret : W.heap[w.heap.size + 1]? = some (.cells #[.int .u8 0, .int .u8 0, .int .u8 0, .int .i32 0] 67 (0, 0))
  ws : ∀ j x, ws[j]? = some x → W.cell? ⟨gw, j, none⟩ = some (.string ⟨x.toArray⟩)
  below : Below w.heap.size w W
  size : w.heap.size + 1 + 1 < W.heap.size
  gw : gw < w.heap.size
theorem OfS.next {w : World} {s : ByteArray} {op a b : Int} {imm : Bool} {gw : Nat} {ws : List (List UInt8)} {W W' : World} (h : OfS w s op a b imm gw ws W) (hb : Below W.heap.size W W') : OfS w s op a b imm gw ws W' :=
  have hs := h.size
  have hg := h.gw
  ⟨(hb.block _ (by omega)).trans h.nm, (hb.block _ (by omega)).trans h.ret, fun j x hx => (hb.cell (p := ⟨gw, j, none⟩) (by show gw < _; omega)).trans (h.ws j x hx), h.below.trans (hb.mono (by omega)), Nat.lt_of_lt_of_le hs hb.size, hg⟩
theorem row_setOR {w : World} {b c : Nat} {o : Obj} (h : w.heap[b]? = some o) (hc : b ≠ c) (j : Nat) (v : Value) : (w.setCell ⟨c, j, none⟩ v).heap[b]? = some o := (Below.heap_setCell w ⟨c, j, none⟩ _ b hc).trans h
theorem OfS.set {w : World} {s : ByteArray} {op a b : Int} {imm : Bool} {gw : Nat} {ws : List (List UInt8)} {W : World} (h : OfS w s op a b imm gw ws W) (j : Nat) (v : Value) : OfS w s op a b imm gw ws (W.setCell ⟨w.heap.size + 1 + 1, j, none⟩ v) :=
  have hg := h.gw
  have hB : Below (w.heap.size + 1 + 1) W (W.setCell ⟨w.heap.size + 1 + 1, j, none⟩ v) := (Below.refl _ _).setCell (p := ⟨w.heap.size + 1 + 1, j, none⟩) (Nat.le_refl _) _
  ⟨row_setOR h.nm (by omega) _ _, row_setOR h.ret (by omega) _ _, fun i x hx => (hB.cell (p := ⟨gw, i, none⟩) (by show gw < _; omega)).trans (h.ws i x hx), h.below.setCell (p := ⟨w.heap.size + 1 + 1, j, none⟩) (by show w.heap.size ≤ w.heap.size + 1 + 1; omega) _, by simp [World.setCell]; exact h.size, hg⟩
/-- The instruction that is put together. -/
def IRow (w : World) (op x y z : Int) (W : World) : Prop := W.heap[w.heap.size + 1 + 1]? = some (.cells #[.int .u8 op, .int .u8 x, .int .u8 y, .int .i32 z] 67 (0, 0))
theorem IRow.next {w : World} {op x y z : Int} {W W' : World} (h : IRow w op x y z W) (hb : Below W.heap.size W W') : IRow w op x y z W' := (hb.block _ (Array.getElem?_eq_some_iff.1 h).1).trans h
theorem IRow.a {w : World} {op x y z : Int} {W : World} (h : IRow w op x y z W) (v : Int) : IRow w op v y z (W.setCell ⟨w.heap.size + 1 + 1, 1, none⟩ (.int .u8 v)) := row_setR h 1 _
theorem IRow.b {w : World} {op x y z : Int} {W : World} (h : IRow w op x y z W) (v : Int) : IRow w op x v z (W.setCell ⟨w.heap.size + 1 + 1, 2, none⟩ (.int .u8 v)) := row_setR h 2 _
theorem IRow.imm {w : World} {op x y z : Int} {W : World} (h : IRow w op x y z W) (v : Int) : IRow w op x y v (W.setCell ⟨w.heap.size + 1 + 1, 3, none⟩ (.int .i32 v)) := row_setR h 3 _
def insR (op a b imm : Int) : Value := .agg #[.int .u8 op, .int .u8 a, .int .u8 b, .int .i32 imm]
theorem regF_bd {l : List UInt8} {c n : Int} (h : regF l c = some n) : 0 ≤ n ∧ n < 8 := by
  unfold regF at h
  split at h
  · split at h
    · have := Option.some.inj h; omega
    · cases h
  · cases h

set_option maxHeartbeats 16000000 in
theorem of_no_no_no (s : ByteArray) (op a b : Int) (imm : Bool) (gw cap N : Nat) (ws : List (List UInt8)) (w : World) (hN : ws.length = N) (hw : ∀ j x, ws[j]? = some x → w.cell? ⟨gw, j, none⟩ = some (.string ⟨x.toArray⟩)) (hgw : gw < w.heap.size) (hop : 0 ≤ op ∧ op < 256)
    (HW : Hid (∀ W, Calls Tryz.prog 91 #[.agg #[.string s, .int .u8 op, .int .u8 a, .int .u8 b, .bool imm]] W fun e w' => e = .returned (.int .i64 (N : Int)) ∧ Below W.heap.size W w')) (ha : a = 0) (hb : b = 0) (him : imm = false) :
    Calls Tryz.prog 76 #[.agg #[.string s, .int .u8 op, .int .u8 a, .int .u8 b, .bool imm], .slice (some ⟨gw, 0, none⟩) N cap] w fun e w' => e = .returned (.tuple #[(insR op 0 0 0), .int .i64 0]) ∧ Below w.heap.size w w' := by
  unfold insR
  have e1 : ((N : Int) != (N : Int)) = false := by simp
  have qa : (a != 0) = false := by simp [ha]
  have qb : (b != 0) = false := by simp [hb]
  subst him
  subst ha
  subst hb
  have hS0 : Hid (OfS w s op 0 0 false gw ws (((w.alloc (.cells #[.string s, .int .u8 op, .int .u8 0, .int .u8 0, .bool false] 104)).alloc (.cells #[.int .u8 0, .int .u8 0, .int .u8 0, .int .i32 0] 67)).alloc (.cells #[.int .u8 op, .int .u8 0, .int .u8 0, .int .i32 0] 67))) :=
    Lib.hid ⟨heap_oldT (heap_oldT (heap_newT rfl)), heap_oldT (heap_newT (by simp)), fun j x hx => ((((Below.refl w.heap.size w).alloc (Nat.le_refl _) _).alloc (by simp) _).alloc (by simp; omega) _ |>.cell (p := ⟨gw, j, none⟩) hgw).trans (hw j x hx), (((Below.refl w.heap.size w).alloc (Nat.le_refl _) _).alloc (by simp) _).alloc (by simp; omega) _, by simp, hgw⟩
  have hI0 : Hid (IRow w op 0 0 0 (((w.alloc (.cells #[.string s, .int .u8 op, .int .u8 0, .int .u8 0, .bool false] 104)).alloc (.cells #[.int .u8 0, .int .u8 0, .int .u8 0, .int .i32 0] 67)).alloc (.cells #[.int .u8 op, .int .u8 0, .int .u8 0, .int .i32 0] 67))) :=
    Lib.hid (heap_newT (by simp))
  clear hw
  go_enter Tryz.func76, Tryz.ntmps76
  go_wp2_with fail
  refine (HW.out _).mono ?_
  rintro e w1 ⟨rfl, hb1⟩
  have hS1 := Lib.hid (hS0.out.next hb1)
  have hI1 := Lib.hid (hI0.out.next hb1)
  clear hb1 hS0 hI0
  have kn2 := (cell_of_row _ _ 2 _ _ _ hS1.out.nm).trans rfl
  have kn3 := (cell_of_row _ _ 3 _ _ _ hS1.out.nm).trans rfl
  have kn4 := (cell_of_row _ _ 4 _ _ _ hS1.out.nm).trans rfl
  have kr0 := (cell_of_row _ _ 0 _ _ _ hS1.out.ret).trans rfl
  have fr0 := frozen_of_row _ _ 0 _ _ hS1.out.ret
  have ki0 := (cell_of_row _ _ 0 _ _ _ hI1.out).trans rfl
  have fi0 := frozen_of_row _ _ 0 _ _ hI1.out
  have kr1 := (cell_of_row _ _ 1 _ _ _ hS1.out.ret).trans rfl
  have fr1 := frozen_of_row _ _ 1 _ _ hS1.out.ret
  have ki1 := (cell_of_row _ _ 1 _ _ _ hI1.out).trans rfl
  have fi1 := frozen_of_row _ _ 1 _ _ hI1.out
  have kr2 := (cell_of_row _ _ 2 _ _ _ hS1.out.ret).trans rfl
  have fr2 := frozen_of_row _ _ 2 _ _ hS1.out.ret
  have ki2 := (cell_of_row _ _ 2 _ _ _ hI1.out).trans rfl
  have fi2 := frozen_of_row _ _ 2 _ _ hI1.out
  have kr3 := (cell_of_row _ _ 3 _ _ _ hS1.out.ret).trans rfl
  have fr3 := frozen_of_row _ _ 3 _ _ hS1.out.ret
  have ki3 := (cell_of_row _ _ 3 _ _ _ hI1.out).trans rfl
  have fi3 := frozen_of_row _ _ 3 _ _ hI1.out
  go_wp2_with fail
  refine bodyPost_ret (v := .tuple #[.agg #[.int .u8 op, .int .u8 0, .int .u8 0, .int .i32 0], .int .i64 0]) (by simp [results, Tryz.results76, go_sem, World.cell?_setCell_same', kr0, kr1, kr2, kr3]) rfl ⟨rfl, ?_⟩
  have hbl := hS1.out.below
  repeat (first | exact hbl | (refine Below.setCell ?_ (by first | (show w.heap.size ≤ w.heap.size + 1; omega) | (show w.heap.size ≤ w.heap.size + 1 + 1; omega)) _))

set_option maxHeartbeats 16000000 in
theorem of_no_no_none (s : ByteArray) (op a b : Int) (imm : Bool) (gw cap N : Nat) (ws : List (List UInt8)) (w : World) (hN : ws.length = N) (hw : ∀ j x, ws[j]? = some x → w.cell? ⟨gw, j, none⟩ = some (.string ⟨x.toArray⟩)) (hgw : gw < w.heap.size) (hop : 0 ≤ op ∧ op < 256)
    (HW : Hid (∀ W, Calls Tryz.prog 91 #[.agg #[.string s, .int .u8 op, .int .u8 a, .int .u8 b, .bool imm]] W fun e w' => e = .returned (.int .i64 (N : Int)) ∧ Below W.heap.size W w')) (ha : a = 0) (hb : b = 0) (him : imm = true) (xi : List UInt8) (hxi : ws[1]? = some xi) (hli : xi.length ≤ 9223372036854775807) (hri : numF xi = none) :
    Calls Tryz.prog 76 #[.agg #[.string s, .int .u8 op, .int .u8 a, .int .u8 b, .bool imm], .slice (some ⟨gw, 0, none⟩) N cap] w fun e w' => e = .returned (.tuple #[(insR 0 0 0 0), .int .i64 41]) ∧ Below w.heap.size w w' := by
  unfold insR
  have e1 : ((N : Int) != (N : Int)) = false := by simp
  have qa : (a != 0) = false := by simp [ha]
  have qb : (b != 0) = false := by simp [hb]
  have i3 : (1 : Int) < (N : Int) := by have := (List.getElem?_eq_some_iff.1 hxi).1; omega
  have hxi := Lib.hid hxi
  have Hi := Lib.hid fun W => number_c xi hli W
  rw [hri] at Hi
  subst him
  subst ha
  subst hb
  have hS0 : Hid (OfS w s op 0 0 true gw ws (((w.alloc (.cells #[.string s, .int .u8 op, .int .u8 0, .int .u8 0, .bool true] 104)).alloc (.cells #[.int .u8 0, .int .u8 0, .int .u8 0, .int .i32 0] 67)).alloc (.cells #[.int .u8 op, .int .u8 0, .int .u8 0, .int .i32 0] 67))) :=
    Lib.hid ⟨heap_oldT (heap_oldT (heap_newT rfl)), heap_oldT (heap_newT (by simp)), fun j x hx => ((((Below.refl w.heap.size w).alloc (Nat.le_refl _) _).alloc (by simp) _).alloc (by simp; omega) _ |>.cell (p := ⟨gw, j, none⟩) hgw).trans (hw j x hx), (((Below.refl w.heap.size w).alloc (Nat.le_refl _) _).alloc (by simp) _).alloc (by simp; omega) _, by simp, hgw⟩
  have hI0 : Hid (IRow w op 0 0 0 (((w.alloc (.cells #[.string s, .int .u8 op, .int .u8 0, .int .u8 0, .bool true] 104)).alloc (.cells #[.int .u8 0, .int .u8 0, .int .u8 0, .int .i32 0] 67)).alloc (.cells #[.int .u8 op, .int .u8 0, .int .u8 0, .int .i32 0] 67))) :=
    Lib.hid (heap_newT (by simp))
  clear hw
  go_enter Tryz.func76, Tryz.ntmps76
  go_wp2_with fail
  refine (HW.out _).mono ?_
  rintro e w1 ⟨rfl, hb1⟩
  have hS1 := Lib.hid (hS0.out.next hb1)
  have hI1 := Lib.hid (hI0.out.next hb1)
  clear hb1 hS0 hI0
  have kn2 := (cell_of_row _ _ 2 _ _ _ hS1.out.nm).trans rfl
  have kn3 := (cell_of_row _ _ 3 _ _ _ hS1.out.nm).trans rfl
  have kn4 := (cell_of_row _ _ 4 _ _ _ hS1.out.nm).trans rfl
  have kr0 := (cell_of_row _ _ 0 _ _ _ hS1.out.ret).trans rfl
  have fr0 := frozen_of_row _ _ 0 _ _ hS1.out.ret
  have ki0 := (cell_of_row _ _ 0 _ _ _ hI1.out).trans rfl
  have fi0 := frozen_of_row _ _ 0 _ _ hI1.out
  have kr1 := (cell_of_row _ _ 1 _ _ _ hS1.out.ret).trans rfl
  have fr1 := frozen_of_row _ _ 1 _ _ hS1.out.ret
  have ki1 := (cell_of_row _ _ 1 _ _ _ hI1.out).trans rfl
  have fi1 := frozen_of_row _ _ 1 _ _ hI1.out
  have kr2 := (cell_of_row _ _ 2 _ _ _ hS1.out.ret).trans rfl
  have fr2 := frozen_of_row _ _ 2 _ _ hS1.out.ret
  have ki2 := (cell_of_row _ _ 2 _ _ _ hI1.out).trans rfl
  have fi2 := frozen_of_row _ _ 2 _ _ hI1.out
  have kr3 := (cell_of_row _ _ 3 _ _ _ hS1.out.ret).trans rfl
  have fr3 := frozen_of_row _ _ 3 _ _ hS1.out.ret
  have ki3 := (cell_of_row _ _ 3 _ _ _ hI1.out).trans rfl
  have fi3 := frozen_of_row _ _ 3 _ _ hI1.out
  have kw := hS1.out.ws 1 xi hxi.out
  go_wp2_with fail
  refine (Hi.out _).mono ?_
  rintro e w5 ⟨⟨v, bb, rfl, hq, hv0, hv1⟩, hb5⟩
  obtain rfl : bb = false := by cases bb; rfl; cases hq
  clear hq
  clear kw kn2 kn3 kn4 kr0 kr1 kr2 kr3 fr0 fr1 fr2 fr3 ki0 ki1 ki2 ki3 fi0 fi1 fi2 fi3
  have hS2 := Lib.hid (hS1.out.next hb5)
  have hI2 := Lib.hid (hI1.out.next hb5)
  clear hb5
  have kn2 := (cell_of_row _ _ 2 _ _ _ hS2.out.nm).trans rfl
  have kn3 := (cell_of_row _ _ 3 _ _ _ hS2.out.nm).trans rfl
  have kn4 := (cell_of_row _ _ 4 _ _ _ hS2.out.nm).trans rfl
  have kr0 := (cell_of_row _ _ 0 _ _ _ hS2.out.ret).trans rfl
  have fr0 := frozen_of_row _ _ 0 _ _ hS2.out.ret
  have ki0 := (cell_of_row _ _ 0 _ _ _ hI2.out).trans rfl
  have fi0 := frozen_of_row _ _ 0 _ _ hI2.out
  have kr1 := (cell_of_row _ _ 1 _ _ _ hS2.out.ret).trans rfl
  have fr1 := frozen_of_row _ _ 1 _ _ hS2.out.ret
  have ki1 := (cell_of_row _ _ 1 _ _ _ hI2.out).trans rfl
  have fi1 := frozen_of_row _ _ 1 _ _ hI2.out
  have kr2 := (cell_of_row _ _ 2 _ _ _ hS2.out.ret).trans rfl
  have fr2 := frozen_of_row _ _ 2 _ _ hS2.out.ret
  have ki2 := (cell_of_row _ _ 2 _ _ _ hI2.out).trans rfl
  have fi2 := frozen_of_row _ _ 2 _ _ hI2.out
  have kr3 := (cell_of_row _ _ 3 _ _ _ hS2.out.ret).trans rfl
  have fr3 := frozen_of_row _ _ 3 _ _ hS2.out.ret
  have ki3 := (cell_of_row _ _ 3 _ _ _ hI2.out).trans rfl
  have fi3 := frozen_of_row _ _ 3 _ _ hI2.out
  go_wp2_with fail
  refine bodyPost_ret (v := .tuple #[.agg #[.int .u8 0, .int .u8 0, .int .u8 0, .int .i32 0], .int .i64 41]) (by simp [results, Tryz.results76, go_sem, World.cell?_setCell_same', kr0, kr1, kr2, kr3]) rfl ⟨rfl, ?_⟩
  have hbl := hS2.out.below
  repeat (first | exact hbl | (refine Below.setCell ?_ (by first | (show w.heap.size ≤ w.heap.size + 1; omega) | (show w.heap.size ≤ w.heap.size + 1 + 1; omega)) _))

set_option maxHeartbeats 16000000 in
theorem of_no_no_notmay (s : ByteArray) (op a b : Int) (imm : Bool) (gw cap N : Nat) (ws : List (List UInt8)) (w : World) (hN : ws.length = N) (hw : ∀ j x, ws[j]? = some x → w.cell? ⟨gw, j, none⟩ = some (.string ⟨x.toArray⟩)) (hgw : gw < w.heap.size) (hop : 0 ≤ op ∧ op < 256)
    (HW : Hid (∀ W, Calls Tryz.prog 91 #[.agg #[.string s, .int .u8 op, .int .u8 a, .int .u8 b, .bool imm]] W fun e w' => e = .returned (.int .i64 (N : Int)) ∧ Below W.heap.size W w')) (vi : Int) (ha : a = 0) (hb : b = 0) (him : imm = true) (xi : List UInt8) (hxi : ws[1]? = some xi) (hli : xi.length ≤ 9223372036854775807) (hri : numF xi = some vi) (hmay : Isa.mayB (Isa.fm op true) 0 0 vi = false) :
    Calls Tryz.prog 76 #[.agg #[.string s, .int .u8 op, .int .u8 a, .int .u8 b, .bool imm], .slice (some ⟨gw, 0, none⟩) N cap] w fun e w' => e = .returned (.tuple #[(insR 0 0 0 0), .int .i64 41]) ∧ Below w.heap.size w w' := by
  unfold insR
  have e1 : ((N : Int) != (N : Int)) = false := by simp
  have qa : (a != 0) = false := by simp [ha]
  have qb : (b != 0) = false := by simp [hb]
  have i3 : (1 : Int) < (N : Int) := by have := (List.getElem?_eq_some_iff.1 hxi).1; omega
  have hxi := Lib.hid hxi
  have Hi := Lib.hid fun W => number_c xi hli W
  rw [hri] at Hi
  have hvi := numF_bd hri
  have Hm := Lib.hid fun W => Isa.may_c op 0 0 vi true W hop.1 hop.2 (by omega) (by omega) (by omega) (by omega) hvi.1 hvi.2
  rw [hmay] at Hm
  unfold Isa.insV at Hm
  subst him
  subst ha
  subst hb
  have hS0 : Hid (OfS w s op 0 0 true gw ws (((w.alloc (.cells #[.string s, .int .u8 op, .int .u8 0, .int .u8 0, .bool true] 104)).alloc (.cells #[.int .u8 0, .int .u8 0, .int .u8 0, .int .i32 0] 67)).alloc (.cells #[.int .u8 op, .int .u8 0, .int .u8 0, .int .i32 0] 67))) :=
    Lib.hid ⟨heap_oldT (heap_oldT (heap_newT rfl)), heap_oldT (heap_newT (by simp)), fun j x hx => ((((Below.refl w.heap.size w).alloc (Nat.le_refl _) _).alloc (by simp) _).alloc (by simp; omega) _ |>.cell (p := ⟨gw, j, none⟩) hgw).trans (hw j x hx), (((Below.refl w.heap.size w).alloc (Nat.le_refl _) _).alloc (by simp) _).alloc (by simp; omega) _, by simp, hgw⟩
  have hI0 : Hid (IRow w op 0 0 0 (((w.alloc (.cells #[.string s, .int .u8 op, .int .u8 0, .int .u8 0, .bool true] 104)).alloc (.cells #[.int .u8 0, .int .u8 0, .int .u8 0, .int .i32 0] 67)).alloc (.cells #[.int .u8 op, .int .u8 0, .int .u8 0, .int .i32 0] 67))) :=
    Lib.hid (heap_newT (by simp))
  clear hw
  go_enter Tryz.func76, Tryz.ntmps76
  go_wp2_with fail
  refine (HW.out _).mono ?_
  rintro e w1 ⟨rfl, hb1⟩
  have hS1 := Lib.hid (hS0.out.next hb1)
  have hI1 := Lib.hid (hI0.out.next hb1)
  clear hb1 hS0 hI0
  have kn2 := (cell_of_row _ _ 2 _ _ _ hS1.out.nm).trans rfl
  have kn3 := (cell_of_row _ _ 3 _ _ _ hS1.out.nm).trans rfl
  have kn4 := (cell_of_row _ _ 4 _ _ _ hS1.out.nm).trans rfl
  have kr0 := (cell_of_row _ _ 0 _ _ _ hS1.out.ret).trans rfl
  have fr0 := frozen_of_row _ _ 0 _ _ hS1.out.ret
  have ki0 := (cell_of_row _ _ 0 _ _ _ hI1.out).trans rfl
  have fi0 := frozen_of_row _ _ 0 _ _ hI1.out
  have kr1 := (cell_of_row _ _ 1 _ _ _ hS1.out.ret).trans rfl
  have fr1 := frozen_of_row _ _ 1 _ _ hS1.out.ret
  have ki1 := (cell_of_row _ _ 1 _ _ _ hI1.out).trans rfl
  have fi1 := frozen_of_row _ _ 1 _ _ hI1.out
  have kr2 := (cell_of_row _ _ 2 _ _ _ hS1.out.ret).trans rfl
  have fr2 := frozen_of_row _ _ 2 _ _ hS1.out.ret
  have ki2 := (cell_of_row _ _ 2 _ _ _ hI1.out).trans rfl
  have fi2 := frozen_of_row _ _ 2 _ _ hI1.out
  have kr3 := (cell_of_row _ _ 3 _ _ _ hS1.out.ret).trans rfl
  have fr3 := frozen_of_row _ _ 3 _ _ hS1.out.ret
  have ki3 := (cell_of_row _ _ 3 _ _ _ hI1.out).trans rfl
  have fi3 := frozen_of_row _ _ 3 _ _ hI1.out
  have kw := hS1.out.ws 1 xi hxi.out
  go_wp2_with fail
  refine (Hi.out _).mono ?_
  rintro e w5 ⟨⟨v, bb, rfl, hq, hv0, hv1⟩, hb5⟩
  obtain ⟨rfl, rfl⟩ : bb = true ∧ v = vi := by
    cases bb
    · cases hq
    · exact ⟨rfl, (Option.some.inj hq).symm⟩
  clear hq
  have wv : IntKind.i32.wrap v = v := IntWalk.i32_in _ (by omega)
  clear kw kn2 kn3 kn4 kr0 kr1 kr2 kr3 fr0 fr1 fr2 fr3 ki0 ki1 ki2 ki3 fi0 fi1 fi2 fi3
  have hS2 := Lib.hid (hS1.out.next hb5)
  have hI2 := Lib.hid (hI1.out.next hb5)
  clear hb5
  have kn2 := (cell_of_row _ _ 2 _ _ _ hS2.out.nm).trans rfl
  have kn3 := (cell_of_row _ _ 3 _ _ _ hS2.out.nm).trans rfl
  have kn4 := (cell_of_row _ _ 4 _ _ _ hS2.out.nm).trans rfl
  have kr0 := (cell_of_row _ _ 0 _ _ _ hS2.out.ret).trans rfl
  have fr0 := frozen_of_row _ _ 0 _ _ hS2.out.ret
  have ki0 := (cell_of_row _ _ 0 _ _ _ hI2.out).trans rfl
  have fi0 := frozen_of_row _ _ 0 _ _ hI2.out
  have kr1 := (cell_of_row _ _ 1 _ _ _ hS2.out.ret).trans rfl
  have fr1 := frozen_of_row _ _ 1 _ _ hS2.out.ret
  have ki1 := (cell_of_row _ _ 1 _ _ _ hI2.out).trans rfl
  have fi1 := frozen_of_row _ _ 1 _ _ hI2.out
  have kr2 := (cell_of_row _ _ 2 _ _ _ hS2.out.ret).trans rfl
  have fr2 := frozen_of_row _ _ 2 _ _ hS2.out.ret
  have ki2 := (cell_of_row _ _ 2 _ _ _ hI2.out).trans rfl
  have fi2 := frozen_of_row _ _ 2 _ _ hI2.out
  have kr3 := (cell_of_row _ _ 3 _ _ _ hS2.out.ret).trans rfl
  have fr3 := frozen_of_row _ _ 3 _ _ hS2.out.ret
  have ki3 := (cell_of_row _ _ 3 _ _ _ hI2.out).trans rfl
  have fi3 := frozen_of_row _ _ 3 _ _ hI2.out
  go_wp2_with fail
  refine (Hm.out _).mono ?_
  rintro e w6 ⟨rfl, hb6⟩
  clear kn2 kn3 kn4 kr0 kr1 kr2 kr3 fr0 fr1 fr2 fr3 ki0 ki1 ki2 ki3 fi0 fi1 fi2 fi3
  have hS3 := Lib.hid ((hS2.out.set 3 (.int .i32 v)).next hb6)
  have hI3 := Lib.hid ((hI2.out.imm v).next hb6)
  clear hb6
  have kn2 := (cell_of_row _ _ 2 _ _ _ hS3.out.nm).trans rfl
  have kn3 := (cell_of_row _ _ 3 _ _ _ hS3.out.nm).trans rfl
  have kn4 := (cell_of_row _ _ 4 _ _ _ hS3.out.nm).trans rfl
  have kr0 := (cell_of_row _ _ 0 _ _ _ hS3.out.ret).trans rfl
  have fr0 := frozen_of_row _ _ 0 _ _ hS3.out.ret
  have ki0 := (cell_of_row _ _ 0 _ _ _ hI3.out).trans rfl
  have fi0 := frozen_of_row _ _ 0 _ _ hI3.out
  have kr1 := (cell_of_row _ _ 1 _ _ _ hS3.out.ret).trans rfl
  have fr1 := frozen_of_row _ _ 1 _ _ hS3.out.ret
  have ki1 := (cell_of_row _ _ 1 _ _ _ hI3.out).trans rfl
  have fi1 := frozen_of_row _ _ 1 _ _ hI3.out
  have kr2 := (cell_of_row _ _ 2 _ _ _ hS3.out.ret).trans rfl
  have fr2 := frozen_of_row _ _ 2 _ _ hS3.out.ret
  have ki2 := (cell_of_row _ _ 2 _ _ _ hI3.out).trans rfl
  have fi2 := frozen_of_row _ _ 2 _ _ hI3.out
  have kr3 := (cell_of_row _ _ 3 _ _ _ hS3.out.ret).trans rfl
  have fr3 := frozen_of_row _ _ 3 _ _ hS3.out.ret
  have ki3 := (cell_of_row _ _ 3 _ _ _ hI3.out).trans rfl
  have fi3 := frozen_of_row _ _ 3 _ _ hI3.out
  go_wp2_with fail
  refine bodyPost_ret (v := .tuple #[.agg #[.int .u8 0, .int .u8 0, .int .u8 0, .int .i32 0], .int .i64 41]) (by simp [results, Tryz.results76, go_sem, World.cell?_setCell_same', kr0, kr1, kr2, kr3]) rfl ⟨rfl, ?_⟩
  have hbl := hS3.out.below
  repeat (first | exact hbl | (refine Below.setCell ?_ (by first | (show w.heap.size ≤ w.heap.size + 1; omega) | (show w.heap.size ≤ w.heap.size + 1 + 1; omega)) _))

set_option maxHeartbeats 16000000 in
theorem of_no_no_ok (s : ByteArray) (op a b : Int) (imm : Bool) (gw cap N : Nat) (ws : List (List UInt8)) (w : World) (hN : ws.length = N) (hw : ∀ j x, ws[j]? = some x → w.cell? ⟨gw, j, none⟩ = some (.string ⟨x.toArray⟩)) (hgw : gw < w.heap.size) (hop : 0 ≤ op ∧ op < 256)
    (HW : Hid (∀ W, Calls Tryz.prog 91 #[.agg #[.string s, .int .u8 op, .int .u8 a, .int .u8 b, .bool imm]] W fun e w' => e = .returned (.int .i64 (N : Int)) ∧ Below W.heap.size W w')) (vi : Int) (ha : a = 0) (hb : b = 0) (him : imm = true) (xi : List UInt8) (hxi : ws[1]? = some xi) (hli : xi.length ≤ 9223372036854775807) (hri : numF xi = some vi) (hmay : Isa.mayB (Isa.fm op true) 0 0 vi = true) :
    Calls Tryz.prog 76 #[.agg #[.string s, .int .u8 op, .int .u8 a, .int .u8 b, .bool imm], .slice (some ⟨gw, 0, none⟩) N cap] w fun e w' => e = .returned (.tuple #[(insR op 0 0 vi), .int .i64 0]) ∧ Below w.heap.size w w' := by
  unfold insR
  have e1 : ((N : Int) != (N : Int)) = false := by simp
  have qa : (a != 0) = false := by simp [ha]
  have qb : (b != 0) = false := by simp [hb]
  have i3 : (1 : Int) < (N : Int) := by have := (List.getElem?_eq_some_iff.1 hxi).1; omega
  have hxi := Lib.hid hxi
  have Hi := Lib.hid fun W => number_c xi hli W
  rw [hri] at Hi
  have hvi := numF_bd hri
  have Hm := Lib.hid fun W => Isa.may_c op 0 0 vi true W hop.1 hop.2 (by omega) (by omega) (by omega) (by omega) hvi.1 hvi.2
  rw [hmay] at Hm
  unfold Isa.insV at Hm
  subst him
  subst ha
  subst hb
  have hS0 : Hid (OfS w s op 0 0 true gw ws (((w.alloc (.cells #[.string s, .int .u8 op, .int .u8 0, .int .u8 0, .bool true] 104)).alloc (.cells #[.int .u8 0, .int .u8 0, .int .u8 0, .int .i32 0] 67)).alloc (.cells #[.int .u8 op, .int .u8 0, .int .u8 0, .int .i32 0] 67))) :=
    Lib.hid ⟨heap_oldT (heap_oldT (heap_newT rfl)), heap_oldT (heap_newT (by simp)), fun j x hx => ((((Below.refl w.heap.size w).alloc (Nat.le_refl _) _).alloc (by simp) _).alloc (by simp; omega) _ |>.cell (p := ⟨gw, j, none⟩) hgw).trans (hw j x hx), (((Below.refl w.heap.size w).alloc (Nat.le_refl _) _).alloc (by simp) _).alloc (by simp; omega) _, by simp, hgw⟩
  have hI0 : Hid (IRow w op 0 0 0 (((w.alloc (.cells #[.string s, .int .u8 op, .int .u8 0, .int .u8 0, .bool true] 104)).alloc (.cells #[.int .u8 0, .int .u8 0, .int .u8 0, .int .i32 0] 67)).alloc (.cells #[.int .u8 op, .int .u8 0, .int .u8 0, .int .i32 0] 67))) :=
    Lib.hid (heap_newT (by simp))
  clear hw
  go_enter Tryz.func76, Tryz.ntmps76
  go_wp2_with fail
  refine (HW.out _).mono ?_
  rintro e w1 ⟨rfl, hb1⟩
  have hS1 := Lib.hid (hS0.out.next hb1)
  have hI1 := Lib.hid (hI0.out.next hb1)
  clear hb1 hS0 hI0
  have kn2 := (cell_of_row _ _ 2 _ _ _ hS1.out.nm).trans rfl
  have kn3 := (cell_of_row _ _ 3 _ _ _ hS1.out.nm).trans rfl
  have kn4 := (cell_of_row _ _ 4 _ _ _ hS1.out.nm).trans rfl
  have kr0 := (cell_of_row _ _ 0 _ _ _ hS1.out.ret).trans rfl
  have fr0 := frozen_of_row _ _ 0 _ _ hS1.out.ret
  have ki0 := (cell_of_row _ _ 0 _ _ _ hI1.out).trans rfl
  have fi0 := frozen_of_row _ _ 0 _ _ hI1.out
  have kr1 := (cell_of_row _ _ 1 _ _ _ hS1.out.ret).trans rfl
  have fr1 := frozen_of_row _ _ 1 _ _ hS1.out.ret
  have ki1 := (cell_of_row _ _ 1 _ _ _ hI1.out).trans rfl
  have fi1 := frozen_of_row _ _ 1 _ _ hI1.out
  have kr2 := (cell_of_row _ _ 2 _ _ _ hS1.out.ret).trans rfl
  have fr2 := frozen_of_row _ _ 2 _ _ hS1.out.ret
  have ki2 := (cell_of_row _ _ 2 _ _ _ hI1.out).trans rfl
  have fi2 := frozen_of_row _ _ 2 _ _ hI1.out
  have kr3 := (cell_of_row _ _ 3 _ _ _ hS1.out.ret).trans rfl
  have fr3 := frozen_of_row _ _ 3 _ _ hS1.out.ret
  have ki3 := (cell_of_row _ _ 3 _ _ _ hI1.out).trans rfl
  have fi3 := frozen_of_row _ _ 3 _ _ hI1.out
  have kw := hS1.out.ws 1 xi hxi.out
  go_wp2_with fail
  refine (Hi.out _).mono ?_
  rintro e w5 ⟨⟨v, bb, rfl, hq, hv0, hv1⟩, hb5⟩
  obtain ⟨rfl, rfl⟩ : bb = true ∧ v = vi := by
    cases bb
    · cases hq
    · exact ⟨rfl, (Option.some.inj hq).symm⟩
  clear hq
  have wv : IntKind.i32.wrap v = v := IntWalk.i32_in _ (by omega)
  clear kw kn2 kn3 kn4 kr0 kr1 kr2 kr3 fr0 fr1 fr2 fr3 ki0 ki1 ki2 ki3 fi0 fi1 fi2 fi3
  have hS2 := Lib.hid (hS1.out.next hb5)
  have hI2 := Lib.hid (hI1.out.next hb5)
  clear hb5
  have kn2 := (cell_of_row _ _ 2 _ _ _ hS2.out.nm).trans rfl
  have kn3 := (cell_of_row _ _ 3 _ _ _ hS2.out.nm).trans rfl
  have kn4 := (cell_of_row _ _ 4 _ _ _ hS2.out.nm).trans rfl
  have kr0 := (cell_of_row _ _ 0 _ _ _ hS2.out.ret).trans rfl
  have fr0 := frozen_of_row _ _ 0 _ _ hS2.out.ret
  have ki0 := (cell_of_row _ _ 0 _ _ _ hI2.out).trans rfl
  have fi0 := frozen_of_row _ _ 0 _ _ hI2.out
  have kr1 := (cell_of_row _ _ 1 _ _ _ hS2.out.ret).trans rfl
  have fr1 := frozen_of_row _ _ 1 _ _ hS2.out.ret
  have ki1 := (cell_of_row _ _ 1 _ _ _ hI2.out).trans rfl
  have fi1 := frozen_of_row _ _ 1 _ _ hI2.out
  have kr2 := (cell_of_row _ _ 2 _ _ _ hS2.out.ret).trans rfl
  have fr2 := frozen_of_row _ _ 2 _ _ hS2.out.ret
  have ki2 := (cell_of_row _ _ 2 _ _ _ hI2.out).trans rfl
  have fi2 := frozen_of_row _ _ 2 _ _ hI2.out
  have kr3 := (cell_of_row _ _ 3 _ _ _ hS2.out.ret).trans rfl
  have fr3 := frozen_of_row _ _ 3 _ _ hS2.out.ret
  have ki3 := (cell_of_row _ _ 3 _ _ _ hI2.out).trans rfl
  have fi3 := frozen_of_row _ _ 3 _ _ hI2.out
  go_wp2_with fail
  refine (Hm.out _).mono ?_
  rintro e w6 ⟨rfl, hb6⟩
  clear kn2 kn3 kn4 kr0 kr1 kr2 kr3 fr0 fr1 fr2 fr3 ki0 ki1 ki2 ki3 fi0 fi1 fi2 fi3
  have hS3 := Lib.hid ((hS2.out.set 3 (.int .i32 v)).next hb6)
  have hI3 := Lib.hid ((hI2.out.imm v).next hb6)
  clear hb6
  have kn2 := (cell_of_row _ _ 2 _ _ _ hS3.out.nm).trans rfl
  have kn3 := (cell_of_row _ _ 3 _ _ _ hS3.out.nm).trans rfl
  have kn4 := (cell_of_row _ _ 4 _ _ _ hS3.out.nm).trans rfl
  have kr0 := (cell_of_row _ _ 0 _ _ _ hS3.out.ret).trans rfl
  have fr0 := frozen_of_row _ _ 0 _ _ hS3.out.ret
  have ki0 := (cell_of_row _ _ 0 _ _ _ hI3.out).trans rfl
  have fi0 := frozen_of_row _ _ 0 _ _ hI3.out
  have kr1 := (cell_of_row _ _ 1 _ _ _ hS3.out.ret).trans rfl
  have fr1 := frozen_of_row _ _ 1 _ _ hS3.out.ret
  have ki1 := (cell_of_row _ _ 1 _ _ _ hI3.out).trans rfl
  have fi1 := frozen_of_row _ _ 1 _ _ hI3.out
  have kr2 := (cell_of_row _ _ 2 _ _ _ hS3.out.ret).trans rfl
  have fr2 := frozen_of_row _ _ 2 _ _ hS3.out.ret
  have ki2 := (cell_of_row _ _ 2 _ _ _ hI3.out).trans rfl
  have fi2 := frozen_of_row _ _ 2 _ _ hI3.out
  have kr3 := (cell_of_row _ _ 3 _ _ _ hS3.out.ret).trans rfl
  have fr3 := frozen_of_row _ _ 3 _ _ hS3.out.ret
  have ki3 := (cell_of_row _ _ 3 _ _ _ hI3.out).trans rfl
  have fi3 := frozen_of_row _ _ 3 _ _ hI3.out
  go_wp2_with fail
  refine bodyPost_ret (v := .tuple #[.agg #[.int .u8 op, .int .u8 0, .int .u8 0, .int .i32 v], .int .i64 0]) (by simp [results, Tryz.results76, go_sem, World.cell?_setCell_same', kr0, kr1, kr2, kr3]) rfl ⟨rfl, ?_⟩
  have hbl := hS3.out.below
  repeat (first | exact hbl | (refine Below.setCell ?_ (by first | (show w.heap.size ≤ w.heap.size + 1; omega) | (show w.heap.size ≤ w.heap.size + 1 + 1; omega)) _))

set_option maxHeartbeats 16000000 in
theorem of_fail_no_no (s : ByteArray) (op a b : Int) (imm : Bool) (gw cap N : Nat) (ws : List (List UInt8)) (w : World) (hN : ws.length = N) (hw : ∀ j x, ws[j]? = some x → w.cell? ⟨gw, j, none⟩ = some (.string ⟨x.toArray⟩)) (hgw : gw < w.heap.size) (hop : 0 ≤ op ∧ op < 256)
    (HW : Hid (∀ W, Calls Tryz.prog 91 #[.agg #[.string s, .int .u8 op, .int .u8 a, .int .u8 b, .bool imm]] W fun e w' => e = .returned (.int .i64 (N : Int)) ∧ Below W.heap.size W w')) (ha : ¬ a = 0) (xa : List UInt8) (hxa : ws[1]? = some xa) (hra : regF xa a = none) :
    Calls Tryz.prog 76 #[.agg #[.string s, .int .u8 op, .int .u8 a, .int .u8 b, .bool imm], .slice (some ⟨gw, 0, none⟩) N cap] w fun e w' => e = .returned (.tuple #[(insR 0 0 0 0), .int .i64 40]) ∧ Below w.heap.size w w' := by
  unfold insR
  have e1 : ((N : Int) != (N : Int)) = false := by simp
  have qa : (a != 0) = true := by simp [ha]
  have i1 : (1 : Int) < (N : Int) := by have := (List.getElem?_eq_some_iff.1 hxa).1; omega
  have hxa := Lib.hid hxa
  have Ha := Lib.hid fun W => reg_c xa a W
  rw [hra] at Ha
  simp only [Option.getD_some, Option.getD_none, Option.isSome_some, Option.isSome_none] at Ha
  have hS0 : Hid (OfS w s op a b imm gw ws (((w.alloc (.cells #[.string s, .int .u8 op, .int .u8 a, .int .u8 b, .bool imm] 104)).alloc (.cells #[.int .u8 0, .int .u8 0, .int .u8 0, .int .i32 0] 67)).alloc (.cells #[.int .u8 op, .int .u8 0, .int .u8 0, .int .i32 0] 67))) :=
    Lib.hid ⟨heap_oldT (heap_oldT (heap_newT rfl)), heap_oldT (heap_newT (by simp)), fun j x hx => ((((Below.refl w.heap.size w).alloc (Nat.le_refl _) _).alloc (by simp) _).alloc (by simp; omega) _ |>.cell (p := ⟨gw, j, none⟩) hgw).trans (hw j x hx), (((Below.refl w.heap.size w).alloc (Nat.le_refl _) _).alloc (by simp) _).alloc (by simp; omega) _, by simp, hgw⟩
  have hI0 : Hid (IRow w op 0 0 0 (((w.alloc (.cells #[.string s, .int .u8 op, .int .u8 a, .int .u8 b, .bool imm] 104)).alloc (.cells #[.int .u8 0, .int .u8 0, .int .u8 0, .int .i32 0] 67)).alloc (.cells #[.int .u8 op, .int .u8 0, .int .u8 0, .int .i32 0] 67))) :=
    Lib.hid (heap_newT (by simp))
  clear hw
  go_enter Tryz.func76, Tryz.ntmps76
  go_wp2_with fail
  refine (HW.out _).mono ?_
  rintro e w1 ⟨rfl, hb1⟩
  have hS1 := Lib.hid (hS0.out.next hb1)
  have hI1 := Lib.hid (hI0.out.next hb1)
  clear hb1 hS0 hI0
  have kn2 := (cell_of_row _ _ 2 _ _ _ hS1.out.nm).trans rfl
  have kn3 := (cell_of_row _ _ 3 _ _ _ hS1.out.nm).trans rfl
  have kn4 := (cell_of_row _ _ 4 _ _ _ hS1.out.nm).trans rfl
  have kr0 := (cell_of_row _ _ 0 _ _ _ hS1.out.ret).trans rfl
  have fr0 := frozen_of_row _ _ 0 _ _ hS1.out.ret
  have ki0 := (cell_of_row _ _ 0 _ _ _ hI1.out).trans rfl
  have fi0 := frozen_of_row _ _ 0 _ _ hI1.out
  have kr1 := (cell_of_row _ _ 1 _ _ _ hS1.out.ret).trans rfl
  have fr1 := frozen_of_row _ _ 1 _ _ hS1.out.ret
  have ki1 := (cell_of_row _ _ 1 _ _ _ hI1.out).trans rfl
  have fi1 := frozen_of_row _ _ 1 _ _ hI1.out
  have kr2 := (cell_of_row _ _ 2 _ _ _ hS1.out.ret).trans rfl
  have fr2 := frozen_of_row _ _ 2 _ _ hS1.out.ret
  have ki2 := (cell_of_row _ _ 2 _ _ _ hI1.out).trans rfl
  have fi2 := frozen_of_row _ _ 2 _ _ hI1.out
  have kr3 := (cell_of_row _ _ 3 _ _ _ hS1.out.ret).trans rfl
  have fr3 := frozen_of_row _ _ 3 _ _ hS1.out.ret
  have ki3 := (cell_of_row _ _ 3 _ _ _ hI1.out).trans rfl
  have fi3 := frozen_of_row _ _ 3 _ _ hI1.out
  go_wp2_with fail
  clear kn2 kn3 kn4 kr0 kr1 kr2 kr3 fr0 fr1 fr2 fr3 ki0 ki1 ki2 ki3 fi0 fi1 fi2 fi3
  have hSd := hS1.out.next ((Below.refl _ _).drew)
  refine wp_region_held_drew (S := fun w' => OfS w s op a b imm gw ws w') (by kernel_rfl) hSd (fun hHeld => ?_)
  clear hSd
  refine wpAnyH_take (i := 0) (oi := ⟨some 24, Op.move (Operand.tmp 1), _, _, _, none⟩) (v := .slice (some ⟨gw, 0, none⟩) N cap) rfl (by kernel_rfl) (by kernel_rfl) (by kernel_rfl) (fun _ _ _ h => h) (Or.inl ⟨by rfl, ?_⟩) hHeld ?_
  · intro w' hSw
    skip
    go_simp
  try simp only [Act.put, List.setIfInBounds_toArray, List.set_cons_zero, List.set_cons_succ]
  refine wpAnyH_take (i := 1) (oi := ⟨some 25, Op.move (Operand.tmp 7), _, _, _, none⟩) (v := .int .i64 1) rfl (by kernel_rfl) (by kernel_rfl) (by kernel_rfl) (fun _ _ _ h => h) (Or.inl ⟨by rfl, ?_⟩) hHeld ?_
  · intro w' hSw
    skip
    go_simp
  try simp only [Act.put, List.setIfInBounds_toArray, List.set_cons_zero, List.set_cons_succ]
  refine wpAnyH_take (i := 2) (oi := ⟨some 26, Op.indexAddr _ (Operand.tmp 24) (Operand.tmp 25), _, _, _, none⟩) (v := .pointer (some ⟨gw, 1, none⟩)) rfl (by kernel_rfl) (by kernel_rfl) (by kernel_rfl) (fun _ _ _ h => h) (Or.inl ⟨by rfl, ?_⟩) hHeld ?_
  · intro w' hSw
    skip
    go_simp
  try simp only [Act.put, List.setIfInBounds_toArray, List.set_cons_zero, List.set_cons_succ]
  refine wpAnyH_take (i := 3) (oi := ⟨some 27, Op.load _ (Operand.tmp 26), _, _, _, none⟩) (v := .string ⟨xa.toArray⟩) rfl (by kernel_rfl) (by kernel_rfl) (by kernel_rfl) (fun _ _ _ h => h) (Or.inl ⟨by rfl, ?_⟩) hHeld ?_
  · intro w' hSw
    have k0 := hSw.ws 1 xa hxa.out
    go_simp
  try simp only [Act.put, List.setIfInBounds_toArray, List.set_cons_zero, List.set_cons_succ]
  refine wpAnyH_take (i := 4) (oi := ⟨some 28, Op.fieldAddr _ (Operand.tmp 2) 2, _, _, _, none⟩) (v := .pointer (some ⟨w.heap.size, 2, none⟩)) rfl (by kernel_rfl) (by kernel_rfl) (by kernel_rfl) (fun _ _ _ h => h) (Or.inl ⟨by rfl, ?_⟩) hHeld ?_
  · intro w' hSw
    skip
    go_simp
  try simp only [Act.put, List.setIfInBounds_toArray, List.set_cons_zero, List.set_cons_succ]
  refine wpAnyH_take (i := 5) (oi := ⟨some 29, Op.load _ (Operand.tmp 28), _, _, _, none⟩) (v := .int .u8 a) rfl (by kernel_rfl) (by kernel_rfl) (by kernel_rfl) (fun _ _ _ h => h) (Or.inl ⟨by rfl, ?_⟩) hHeld ?_
  · intro w' hSw
    have k0 := (cell_of_row w' _ 2 _ _ _ hSw.nm).trans rfl
    go_simp
  try simp only [Act.put, List.setIfInBounds_toArray, List.set_cons_zero, List.set_cons_succ]
  refine wpAnyH_ready (rs := [6]) (by kernel_rfl) (by simp) ?_
  refine AllReadyH.cons (o := ⟨some 30, Op.call { callee := Callee.value (Operand.func _), args := #[Operand.tmp 27, Operand.tmp 29], argTypes := _ }, _, _, _, none⟩) rfl (fun K hK => ?_) AllReadyH.nil
  go_simp
  go_at_call 92
  refine (Ha.out _).mono ?_
  rintro e wq ⟨rfl, rfl⟩
  refine hK.out _ _ hHeld (fun hHeld => ?_)
  clear hK K
  try simp only [Act.put, List.setIfInBounds_toArray, List.set_cons_zero, List.set_cons_succ]
  refine wpAnyH_take (i := 7) (oi := ⟨some 23, Op.move (Operand.tmp 30), _, _, _, none⟩) (v := .tuple #[.int .u8 0, .bool false]) rfl (by kernel_rfl) (by kernel_rfl) (by kernel_rfl) (fun _ _ _ h => h) (Or.inl ⟨by rfl, ?_⟩) hHeld ?_
  · intro w' hSw
    skip
    go_simp
  try simp only [Act.put, List.setIfInBounds_toArray, List.set_cons_zero, List.set_cons_succ]
  refine wpAnyH_take (i := 8) (oi := ⟨some 31, Op.extract (Operand.tmp 23) 0, _, _, _, none⟩) (v := .int .u8 0) rfl (by kernel_rfl) (by kernel_rfl) (by kernel_rfl) (fun _ _ _ h => h) (Or.inl ⟨by rfl, ?_⟩) hHeld ?_
  · intro w' hSw
    skip
    go_simp
  try simp only [Act.put, List.setIfInBounds_toArray, List.set_cons_zero, List.set_cons_succ]
  refine wpAnyH_take (i := 9) (oi := ⟨some 32, Op.extract (Operand.tmp 23) 1, _, _, _, none⟩) (v := .bool false) rfl (by kernel_rfl) (by kernel_rfl) (by kernel_rfl) (fun _ _ _ h => h) (Or.inl ⟨by rfl, ?_⟩) hHeld ?_
  · intro w' hSw
    skip
    go_simp
  try simp only [Act.put, List.setIfInBounds_toArray, List.set_cons_zero, List.set_cons_succ]
  refine wpAnyH_take (i := 10) (oi := ⟨some 33, Op.fieldAddr _ (Operand.tmp 6) 1, _, _, _, none⟩) (v := .pointer (some ⟨w.heap.size + 1 + 1, 1, none⟩)) rfl (by kernel_rfl) (by kernel_rfl) (by kernel_rfl) (fun _ _ _ h => h) (Or.inl ⟨by rfl, ?_⟩) hHeld ?_
  · intro w' hSw
    skip
    go_simp
  try simp only [Act.put, List.setIfInBounds_toArray, List.set_cons_zero, List.set_cons_succ]
  refine wpAnyH_ready (rs := [11]) (by kernel_rfl) (by simp) ?_
  refine AllReadyH.cons (o := ⟨none, Op.store _ (Operand.tmp 33) (Operand.tmp 31), _, _, _, none⟩) rfl (fun K hK => ?_) AllReadyH.nil
  have ki := (cell_of_row _ _ 1 _ _ _ (hI1.out.next ((Below.refl _ _).drew))).trans rfl
  have fi := frozen_of_row _ _ 1 _ _ (hI1.out.next ((Below.refl _ _).drew))
  go_simp
  obtain ⟨V2, hV⟩ : ∃ V, V = (w1.setCell ⟨w.heap.size + 1 + 1, 1, none⟩ (.int .u8 0)).drew := ⟨_, rfl⟩
  rw [← hV]
  have hst : OfS w s op a b imm gw ws V2 := by rw [hV]; exact hHeld.set 1 _
  have hit : Hid (IRow w op 0 0 0 V2) := Lib.hid (by rw [hV]; exact (hI1.out.next ((Below.refl _ _).drew)).a 0)
  clear hV
  refine hK.out _ _ hst (fun hHeld => ?_)
  clear hK K ki fi
  try simp only [Act.put, List.setIfInBounds_toArray, List.set_cons_zero, List.set_cons_succ]
  refine wpAnyH_take (i := 12) (oi := ⟨some 8, Op.assign (Operand.tmp 32), _, _, _, none⟩) (v := .bool false) rfl (by kernel_rfl) (by kernel_rfl) (by kernel_rfl) (fun _ _ _ h => h) (Or.inl ⟨by rfl, ?_⟩) hHeld ?_
  · intro w' hSw
    skip
    go_simp
  try simp only [Act.put, List.setIfInBounds_toArray, List.set_cons_zero, List.set_cons_succ]
  refine wpAnyH_done (by kernel_rfl) ?_ _
  have hS2 := Lib.hid hHeld
  have hI2 := hit
  clear hHeld hit hst
  have kn2 := (cell_of_row _ _ 2 _ _ _ hS2.out.nm).trans rfl
  have kn3 := (cell_of_row _ _ 3 _ _ _ hS2.out.nm).trans rfl
  have kn4 := (cell_of_row _ _ 4 _ _ _ hS2.out.nm).trans rfl
  have kr0 := (cell_of_row _ _ 0 _ _ _ hS2.out.ret).trans rfl
  have fr0 := frozen_of_row _ _ 0 _ _ hS2.out.ret
  have ki0 := (cell_of_row _ _ 0 _ _ _ hI2.out).trans rfl
  have fi0 := frozen_of_row _ _ 0 _ _ hI2.out
  have kr1 := (cell_of_row _ _ 1 _ _ _ hS2.out.ret).trans rfl
  have fr1 := frozen_of_row _ _ 1 _ _ hS2.out.ret
  have ki1 := (cell_of_row _ _ 1 _ _ _ hI2.out).trans rfl
  have fi1 := frozen_of_row _ _ 1 _ _ hI2.out
  have kr2 := (cell_of_row _ _ 2 _ _ _ hS2.out.ret).trans rfl
  have fr2 := frozen_of_row _ _ 2 _ _ hS2.out.ret
  have ki2 := (cell_of_row _ _ 2 _ _ _ hI2.out).trans rfl
  have fi2 := frozen_of_row _ _ 2 _ _ hI2.out
  have kr3 := (cell_of_row _ _ 3 _ _ _ hS2.out.ret).trans rfl
  have fr3 := frozen_of_row _ _ 3 _ _ hS2.out.ret
  have ki3 := (cell_of_row _ _ 3 _ _ _ hI2.out).trans rfl
  have fi3 := frozen_of_row _ _ 3 _ _ hI2.out
  go_wp2_with fail
  all_goals
    refine bodyPost_ret (v := .tuple #[.agg #[.int .u8 0, .int .u8 0, .int .u8 0, .int .i32 0], .int .i64 40]) (by simp [results, Tryz.results76, go_sem, World.cell?_setCell_same', kr0, kr1, kr2, kr3]) rfl ⟨rfl, ?_⟩
    have hbl := hS2.out.below
    repeat (first | exact hbl | (refine Below.setCell ?_ (by first | (show w.heap.size ≤ w.heap.size + 1; omega) | (show w.heap.size ≤ w.heap.size + 1 + 1; omega)) _))

set_option maxHeartbeats 16000000 in
theorem of_ok_no_no (s : ByteArray) (op a b : Int) (imm : Bool) (gw cap N : Nat) (ws : List (List UInt8)) (w : World) (hN : ws.length = N) (hw : ∀ j x, ws[j]? = some x → w.cell? ⟨gw, j, none⟩ = some (.string ⟨x.toArray⟩)) (hgw : gw < w.heap.size) (hop : 0 ≤ op ∧ op < 256)
    (HW : Hid (∀ W, Calls Tryz.prog 91 #[.agg #[.string s, .int .u8 op, .int .u8 a, .int .u8 b, .bool imm]] W fun e w' => e = .returned (.int .i64 (N : Int)) ∧ Below W.heap.size W w')) (va : Int) (ha : ¬ a = 0) (xa : List UInt8) (hxa : ws[1]? = some xa) (hra : regF xa a = some va) (hb : b = 0) (him : imm = false) :
    Calls Tryz.prog 76 #[.agg #[.string s, .int .u8 op, .int .u8 a, .int .u8 b, .bool imm], .slice (some ⟨gw, 0, none⟩) N cap] w fun e w' => e = .returned (.tuple #[(insR op va 0 0), .int .i64 0]) ∧ Below w.heap.size w w' := by
  unfold insR
  have e1 : ((N : Int) != (N : Int)) = false := by simp
  have qa : (a != 0) = true := by simp [ha]
  have i1 : (1 : Int) < (N : Int) := by have := (List.getElem?_eq_some_iff.1 hxa).1; omega
  have hxa := Lib.hid hxa
  have Ha := Lib.hid fun W => reg_c xa a W
  rw [hra] at Ha
  simp only [Option.getD_some, Option.getD_none, Option.isSome_some, Option.isSome_none] at Ha
  have qb : (b != 0) = false := by simp [hb]
  subst him
  subst hb
  have hS0 : Hid (OfS w s op a 0 false gw ws (((w.alloc (.cells #[.string s, .int .u8 op, .int .u8 a, .int .u8 0, .bool false] 104)).alloc (.cells #[.int .u8 0, .int .u8 0, .int .u8 0, .int .i32 0] 67)).alloc (.cells #[.int .u8 op, .int .u8 0, .int .u8 0, .int .i32 0] 67))) :=
    Lib.hid ⟨heap_oldT (heap_oldT (heap_newT rfl)), heap_oldT (heap_newT (by simp)), fun j x hx => ((((Below.refl w.heap.size w).alloc (Nat.le_refl _) _).alloc (by simp) _).alloc (by simp; omega) _ |>.cell (p := ⟨gw, j, none⟩) hgw).trans (hw j x hx), (((Below.refl w.heap.size w).alloc (Nat.le_refl _) _).alloc (by simp) _).alloc (by simp; omega) _, by simp, hgw⟩
  have hI0 : Hid (IRow w op 0 0 0 (((w.alloc (.cells #[.string s, .int .u8 op, .int .u8 a, .int .u8 0, .bool false] 104)).alloc (.cells #[.int .u8 0, .int .u8 0, .int .u8 0, .int .i32 0] 67)).alloc (.cells #[.int .u8 op, .int .u8 0, .int .u8 0, .int .i32 0] 67))) :=
    Lib.hid (heap_newT (by simp))
  clear hw
  go_enter Tryz.func76, Tryz.ntmps76
  go_wp2_with fail
  refine (HW.out _).mono ?_
  rintro e w1 ⟨rfl, hb1⟩
  have hS1 := Lib.hid (hS0.out.next hb1)
  have hI1 := Lib.hid (hI0.out.next hb1)
  clear hb1 hS0 hI0
  have kn2 := (cell_of_row _ _ 2 _ _ _ hS1.out.nm).trans rfl
  have kn3 := (cell_of_row _ _ 3 _ _ _ hS1.out.nm).trans rfl
  have kn4 := (cell_of_row _ _ 4 _ _ _ hS1.out.nm).trans rfl
  have kr0 := (cell_of_row _ _ 0 _ _ _ hS1.out.ret).trans rfl
  have fr0 := frozen_of_row _ _ 0 _ _ hS1.out.ret
  have ki0 := (cell_of_row _ _ 0 _ _ _ hI1.out).trans rfl
  have fi0 := frozen_of_row _ _ 0 _ _ hI1.out
  have kr1 := (cell_of_row _ _ 1 _ _ _ hS1.out.ret).trans rfl
  have fr1 := frozen_of_row _ _ 1 _ _ hS1.out.ret
  have ki1 := (cell_of_row _ _ 1 _ _ _ hI1.out).trans rfl
  have fi1 := frozen_of_row _ _ 1 _ _ hI1.out
  have kr2 := (cell_of_row _ _ 2 _ _ _ hS1.out.ret).trans rfl
  have fr2 := frozen_of_row _ _ 2 _ _ hS1.out.ret
  have ki2 := (cell_of_row _ _ 2 _ _ _ hI1.out).trans rfl
  have fi2 := frozen_of_row _ _ 2 _ _ hI1.out
  have kr3 := (cell_of_row _ _ 3 _ _ _ hS1.out.ret).trans rfl
  have fr3 := frozen_of_row _ _ 3 _ _ hS1.out.ret
  have ki3 := (cell_of_row _ _ 3 _ _ _ hI1.out).trans rfl
  have fi3 := frozen_of_row _ _ 3 _ _ hI1.out
  go_wp2_with fail
  clear kn2 kn3 kn4 kr0 kr1 kr2 kr3 fr0 fr1 fr2 fr3 ki0 ki1 ki2 ki3 fi0 fi1 fi2 fi3
  have hSd := hS1.out.next ((Below.refl _ _).drew)
  refine wp_region_held_drew (S := fun w' => OfS w s op a 0 false gw ws w') (by kernel_rfl) hSd (fun hHeld => ?_)
  clear hSd
  refine wpAnyH_take (i := 0) (oi := ⟨some 24, Op.move (Operand.tmp 1), _, _, _, none⟩) (v := .slice (some ⟨gw, 0, none⟩) N cap) rfl (by kernel_rfl) (by kernel_rfl) (by kernel_rfl) (fun _ _ _ h => h) (Or.inl ⟨by rfl, ?_⟩) hHeld ?_
  · intro w' hSw
    skip
    go_simp
  try simp only [Act.put, List.setIfInBounds_toArray, List.set_cons_zero, List.set_cons_succ]
  refine wpAnyH_take (i := 1) (oi := ⟨some 25, Op.move (Operand.tmp 7), _, _, _, none⟩) (v := .int .i64 1) rfl (by kernel_rfl) (by kernel_rfl) (by kernel_rfl) (fun _ _ _ h => h) (Or.inl ⟨by rfl, ?_⟩) hHeld ?_
  · intro w' hSw
    skip
    go_simp
  try simp only [Act.put, List.setIfInBounds_toArray, List.set_cons_zero, List.set_cons_succ]
  refine wpAnyH_take (i := 2) (oi := ⟨some 26, Op.indexAddr _ (Operand.tmp 24) (Operand.tmp 25), _, _, _, none⟩) (v := .pointer (some ⟨gw, 1, none⟩)) rfl (by kernel_rfl) (by kernel_rfl) (by kernel_rfl) (fun _ _ _ h => h) (Or.inl ⟨by rfl, ?_⟩) hHeld ?_
  · intro w' hSw
    skip
    go_simp
  try simp only [Act.put, List.setIfInBounds_toArray, List.set_cons_zero, List.set_cons_succ]
  refine wpAnyH_take (i := 3) (oi := ⟨some 27, Op.load _ (Operand.tmp 26), _, _, _, none⟩) (v := .string ⟨xa.toArray⟩) rfl (by kernel_rfl) (by kernel_rfl) (by kernel_rfl) (fun _ _ _ h => h) (Or.inl ⟨by rfl, ?_⟩) hHeld ?_
  · intro w' hSw
    have k0 := hSw.ws 1 xa hxa.out
    go_simp
  try simp only [Act.put, List.setIfInBounds_toArray, List.set_cons_zero, List.set_cons_succ]
  refine wpAnyH_take (i := 4) (oi := ⟨some 28, Op.fieldAddr _ (Operand.tmp 2) 2, _, _, _, none⟩) (v := .pointer (some ⟨w.heap.size, 2, none⟩)) rfl (by kernel_rfl) (by kernel_rfl) (by kernel_rfl) (fun _ _ _ h => h) (Or.inl ⟨by rfl, ?_⟩) hHeld ?_
  · intro w' hSw
    skip
    go_simp
  try simp only [Act.put, List.setIfInBounds_toArray, List.set_cons_zero, List.set_cons_succ]
  refine wpAnyH_take (i := 5) (oi := ⟨some 29, Op.load _ (Operand.tmp 28), _, _, _, none⟩) (v := .int .u8 a) rfl (by kernel_rfl) (by kernel_rfl) (by kernel_rfl) (fun _ _ _ h => h) (Or.inl ⟨by rfl, ?_⟩) hHeld ?_
  · intro w' hSw
    have k0 := (cell_of_row w' _ 2 _ _ _ hSw.nm).trans rfl
    go_simp
  try simp only [Act.put, List.setIfInBounds_toArray, List.set_cons_zero, List.set_cons_succ]
  refine wpAnyH_ready (rs := [6]) (by kernel_rfl) (by simp) ?_
  refine AllReadyH.cons (o := ⟨some 30, Op.call { callee := Callee.value (Operand.func _), args := #[Operand.tmp 27, Operand.tmp 29], argTypes := _ }, _, _, _, none⟩) rfl (fun K hK => ?_) AllReadyH.nil
  go_simp
  go_at_call 92
  refine (Ha.out _).mono ?_
  rintro e wq ⟨rfl, rfl⟩
  refine hK.out _ _ hHeld (fun hHeld => ?_)
  clear hK K
  try simp only [Act.put, List.setIfInBounds_toArray, List.set_cons_zero, List.set_cons_succ]
  refine wpAnyH_take (i := 7) (oi := ⟨some 23, Op.move (Operand.tmp 30), _, _, _, none⟩) (v := .tuple #[.int .u8 va, .bool true]) rfl (by kernel_rfl) (by kernel_rfl) (by kernel_rfl) (fun _ _ _ h => h) (Or.inl ⟨by rfl, ?_⟩) hHeld ?_
  · intro w' hSw
    skip
    go_simp
  try simp only [Act.put, List.setIfInBounds_toArray, List.set_cons_zero, List.set_cons_succ]
  refine wpAnyH_take (i := 8) (oi := ⟨some 31, Op.extract (Operand.tmp 23) 0, _, _, _, none⟩) (v := .int .u8 va) rfl (by kernel_rfl) (by kernel_rfl) (by kernel_rfl) (fun _ _ _ h => h) (Or.inl ⟨by rfl, ?_⟩) hHeld ?_
  · intro w' hSw
    skip
    go_simp
  try simp only [Act.put, List.setIfInBounds_toArray, List.set_cons_zero, List.set_cons_succ]
  refine wpAnyH_take (i := 9) (oi := ⟨some 32, Op.extract (Operand.tmp 23) 1, _, _, _, none⟩) (v := .bool true) rfl (by kernel_rfl) (by kernel_rfl) (by kernel_rfl) (fun _ _ _ h => h) (Or.inl ⟨by rfl, ?_⟩) hHeld ?_
  · intro w' hSw
    skip
    go_simp
  try simp only [Act.put, List.setIfInBounds_toArray, List.set_cons_zero, List.set_cons_succ]
  refine wpAnyH_take (i := 10) (oi := ⟨some 33, Op.fieldAddr _ (Operand.tmp 6) 1, _, _, _, none⟩) (v := .pointer (some ⟨w.heap.size + 1 + 1, 1, none⟩)) rfl (by kernel_rfl) (by kernel_rfl) (by kernel_rfl) (fun _ _ _ h => h) (Or.inl ⟨by rfl, ?_⟩) hHeld ?_
  · intro w' hSw
    skip
    go_simp
  try simp only [Act.put, List.setIfInBounds_toArray, List.set_cons_zero, List.set_cons_succ]
  refine wpAnyH_ready (rs := [11]) (by kernel_rfl) (by simp) ?_
  refine AllReadyH.cons (o := ⟨none, Op.store _ (Operand.tmp 33) (Operand.tmp 31), _, _, _, none⟩) rfl (fun K hK => ?_) AllReadyH.nil
  have ki := (cell_of_row _ _ 1 _ _ _ (hI1.out.next ((Below.refl _ _).drew))).trans rfl
  have fi := frozen_of_row _ _ 1 _ _ (hI1.out.next ((Below.refl _ _).drew))
  go_simp
  obtain ⟨V2, hV⟩ : ∃ V, V = (w1.setCell ⟨w.heap.size + 1 + 1, 1, none⟩ (.int .u8 va)).drew := ⟨_, rfl⟩
  rw [← hV]
  have hst : OfS w s op a 0 false gw ws V2 := by rw [hV]; exact hHeld.set 1 _
  have hit : Hid (IRow w op va 0 0 V2) := Lib.hid (by rw [hV]; exact (hI1.out.next ((Below.refl _ _).drew)).a va)
  clear hV
  refine hK.out _ _ hst (fun hHeld => ?_)
  clear hK K ki fi
  try simp only [Act.put, List.setIfInBounds_toArray, List.set_cons_zero, List.set_cons_succ]
  refine wpAnyH_take (i := 12) (oi := ⟨some 8, Op.assign (Operand.tmp 32), _, _, _, none⟩) (v := .bool true) rfl (by kernel_rfl) (by kernel_rfl) (by kernel_rfl) (fun _ _ _ h => h) (Or.inl ⟨by rfl, ?_⟩) hHeld ?_
  · intro w' hSw
    skip
    go_simp
  try simp only [Act.put, List.setIfInBounds_toArray, List.set_cons_zero, List.set_cons_succ]
  refine wpAnyH_done (by kernel_rfl) ?_ _
  have hS2 := Lib.hid hHeld
  have hI2 := hit
  clear hHeld hit hst
  have kn2 := (cell_of_row _ _ 2 _ _ _ hS2.out.nm).trans rfl
  have kn3 := (cell_of_row _ _ 3 _ _ _ hS2.out.nm).trans rfl
  have kn4 := (cell_of_row _ _ 4 _ _ _ hS2.out.nm).trans rfl
  have kr0 := (cell_of_row _ _ 0 _ _ _ hS2.out.ret).trans rfl
  have fr0 := frozen_of_row _ _ 0 _ _ hS2.out.ret
  have ki0 := (cell_of_row _ _ 0 _ _ _ hI2.out).trans rfl
  have fi0 := frozen_of_row _ _ 0 _ _ hI2.out
  have kr1 := (cell_of_row _ _ 1 _ _ _ hS2.out.ret).trans rfl
  have fr1 := frozen_of_row _ _ 1 _ _ hS2.out.ret
  have ki1 := (cell_of_row _ _ 1 _ _ _ hI2.out).trans rfl
  have fi1 := frozen_of_row _ _ 1 _ _ hI2.out
  have kr2 := (cell_of_row _ _ 2 _ _ _ hS2.out.ret).trans rfl
  have fr2 := frozen_of_row _ _ 2 _ _ hS2.out.ret
  have ki2 := (cell_of_row _ _ 2 _ _ _ hI2.out).trans rfl
  have fi2 := frozen_of_row _ _ 2 _ _ hI2.out
  have kr3 := (cell_of_row _ _ 3 _ _ _ hS2.out.ret).trans rfl
  have fr3 := frozen_of_row _ _ 3 _ _ hS2.out.ret
  have ki3 := (cell_of_row _ _ 3 _ _ _ hI2.out).trans rfl
  have fi3 := frozen_of_row _ _ 3 _ _ hI2.out
  go_wp2_with fail
  refine bodyPost_ret (v := .tuple #[.agg #[.int .u8 op, .int .u8 va, .int .u8 0, .int .i32 0], .int .i64 0]) (by simp [results, Tryz.results76, go_sem, World.cell?_setCell_same', kr0, kr1, kr2, kr3]) rfl ⟨rfl, ?_⟩
  have hbl := hS2.out.below
  repeat (first | exact hbl | (refine Below.setCell ?_ (by first | (show w.heap.size ≤ w.heap.size + 1; omega) | (show w.heap.size ≤ w.heap.size + 1 + 1; omega)) _))

set_option maxHeartbeats 16000000 in
theorem of_ok_no_none (s : ByteArray) (op a b : Int) (imm : Bool) (gw cap N : Nat) (ws : List (List UInt8)) (w : World) (hN : ws.length = N) (hw : ∀ j x, ws[j]? = some x → w.cell? ⟨gw, j, none⟩ = some (.string ⟨x.toArray⟩)) (hgw : gw < w.heap.size) (hop : 0 ≤ op ∧ op < 256)
    (HW : Hid (∀ W, Calls Tryz.prog 91 #[.agg #[.string s, .int .u8 op, .int .u8 a, .int .u8 b, .bool imm]] W fun e w' => e = .returned (.int .i64 (N : Int)) ∧ Below W.heap.size W w')) (va : Int) (ha : ¬ a = 0) (xa : List UInt8) (hxa : ws[1]? = some xa) (hra : regF xa a = some va) (hb : b = 0) (him : imm = true) (xi : List UInt8) (hxi : ws[2]? = some xi) (hli : xi.length ≤ 9223372036854775807) (hri : numF xi = none) :
    Calls Tryz.prog 76 #[.agg #[.string s, .int .u8 op, .int .u8 a, .int .u8 b, .bool imm], .slice (some ⟨gw, 0, none⟩) N cap] w fun e w' => e = .returned (.tuple #[(insR 0 0 0 0), .int .i64 41]) ∧ Below w.heap.size w w' := by
  unfold insR
  have e1 : ((N : Int) != (N : Int)) = false := by simp
  have qa : (a != 0) = true := by simp [ha]
  have i1 : (1 : Int) < (N : Int) := by have := (List.getElem?_eq_some_iff.1 hxa).1; omega
  have hxa := Lib.hid hxa
  have Ha := Lib.hid fun W => reg_c xa a W
  rw [hra] at Ha
  simp only [Option.getD_some, Option.getD_none, Option.isSome_some, Option.isSome_none] at Ha
  have qb : (b != 0) = false := by simp [hb]
  have i3 : (2 : Int) < (N : Int) := by have := (List.getElem?_eq_some_iff.1 hxi).1; omega
  have hxi := Lib.hid hxi
  have Hi := Lib.hid fun W => number_c xi hli W
  rw [hri] at Hi
  subst him
  subst hb
  have hS0 : Hid (OfS w s op a 0 true gw ws (((w.alloc (.cells #[.string s, .int .u8 op, .int .u8 a, .int .u8 0, .bool true] 104)).alloc (.cells #[.int .u8 0, .int .u8 0, .int .u8 0, .int .i32 0] 67)).alloc (.cells #[.int .u8 op, .int .u8 0, .int .u8 0, .int .i32 0] 67))) :=
    Lib.hid ⟨heap_oldT (heap_oldT (heap_newT rfl)), heap_oldT (heap_newT (by simp)), fun j x hx => ((((Below.refl w.heap.size w).alloc (Nat.le_refl _) _).alloc (by simp) _).alloc (by simp; omega) _ |>.cell (p := ⟨gw, j, none⟩) hgw).trans (hw j x hx), (((Below.refl w.heap.size w).alloc (Nat.le_refl _) _).alloc (by simp) _).alloc (by simp; omega) _, by simp, hgw⟩
  have hI0 : Hid (IRow w op 0 0 0 (((w.alloc (.cells #[.string s, .int .u8 op, .int .u8 a, .int .u8 0, .bool true] 104)).alloc (.cells #[.int .u8 0, .int .u8 0, .int .u8 0, .int .i32 0] 67)).alloc (.cells #[.int .u8 op, .int .u8 0, .int .u8 0, .int .i32 0] 67))) :=
    Lib.hid (heap_newT (by simp))
  clear hw
  go_enter Tryz.func76, Tryz.ntmps76
  go_wp2_with fail
  refine (HW.out _).mono ?_
  rintro e w1 ⟨rfl, hb1⟩
  have hS1 := Lib.hid (hS0.out.next hb1)
  have hI1 := Lib.hid (hI0.out.next hb1)
  clear hb1 hS0 hI0
  have kn2 := (cell_of_row _ _ 2 _ _ _ hS1.out.nm).trans rfl
  have kn3 := (cell_of_row _ _ 3 _ _ _ hS1.out.nm).trans rfl
  have kn4 := (cell_of_row _ _ 4 _ _ _ hS1.out.nm).trans rfl
  have kr0 := (cell_of_row _ _ 0 _ _ _ hS1.out.ret).trans rfl
  have fr0 := frozen_of_row _ _ 0 _ _ hS1.out.ret
  have ki0 := (cell_of_row _ _ 0 _ _ _ hI1.out).trans rfl
  have fi0 := frozen_of_row _ _ 0 _ _ hI1.out
  have kr1 := (cell_of_row _ _ 1 _ _ _ hS1.out.ret).trans rfl
  have fr1 := frozen_of_row _ _ 1 _ _ hS1.out.ret
  have ki1 := (cell_of_row _ _ 1 _ _ _ hI1.out).trans rfl
  have fi1 := frozen_of_row _ _ 1 _ _ hI1.out
  have kr2 := (cell_of_row _ _ 2 _ _ _ hS1.out.ret).trans rfl
  have fr2 := frozen_of_row _ _ 2 _ _ hS1.out.ret
  have ki2 := (cell_of_row _ _ 2 _ _ _ hI1.out).trans rfl
  have fi2 := frozen_of_row _ _ 2 _ _ hI1.out
  have kr3 := (cell_of_row _ _ 3 _ _ _ hS1.out.ret).trans rfl
  have fr3 := frozen_of_row _ _ 3 _ _ hS1.out.ret
  have ki3 := (cell_of_row _ _ 3 _ _ _ hI1.out).trans rfl
  have fi3 := frozen_of_row _ _ 3 _ _ hI1.out
  go_wp2_with fail
  clear kn2 kn3 kn4 kr0 kr1 kr2 kr3 fr0 fr1 fr2 fr3 ki0 ki1 ki2 ki3 fi0 fi1 fi2 fi3
  have hSd := hS1.out.next ((Below.refl _ _).drew)
  refine wp_region_held_drew (S := fun w' => OfS w s op a 0 true gw ws w') (by kernel_rfl) hSd (fun hHeld => ?_)
  clear hSd
  refine wpAnyH_take (i := 0) (oi := ⟨some 24, Op.move (Operand.tmp 1), _, _, _, none⟩) (v := .slice (some ⟨gw, 0, none⟩) N cap) rfl (by kernel_rfl) (by kernel_rfl) (by kernel_rfl) (fun _ _ _ h => h) (Or.inl ⟨by rfl, ?_⟩) hHeld ?_
  · intro w' hSw
    skip
    go_simp
  try simp only [Act.put, List.setIfInBounds_toArray, List.set_cons_zero, List.set_cons_succ]
  refine wpAnyH_take (i := 1) (oi := ⟨some 25, Op.move (Operand.tmp 7), _, _, _, none⟩) (v := .int .i64 1) rfl (by kernel_rfl) (by kernel_rfl) (by kernel_rfl) (fun _ _ _ h => h) (Or.inl ⟨by rfl, ?_⟩) hHeld ?_
  · intro w' hSw
    skip
    go_simp
  try simp only [Act.put, List.setIfInBounds_toArray, List.set_cons_zero, List.set_cons_succ]
  refine wpAnyH_take (i := 2) (oi := ⟨some 26, Op.indexAddr _ (Operand.tmp 24) (Operand.tmp 25), _, _, _, none⟩) (v := .pointer (some ⟨gw, 1, none⟩)) rfl (by kernel_rfl) (by kernel_rfl) (by kernel_rfl) (fun _ _ _ h => h) (Or.inl ⟨by rfl, ?_⟩) hHeld ?_
  · intro w' hSw
    skip
    go_simp
  try simp only [Act.put, List.setIfInBounds_toArray, List.set_cons_zero, List.set_cons_succ]
  refine wpAnyH_take (i := 3) (oi := ⟨some 27, Op.load _ (Operand.tmp 26), _, _, _, none⟩) (v := .string ⟨xa.toArray⟩) rfl (by kernel_rfl) (by kernel_rfl) (by kernel_rfl) (fun _ _ _ h => h) (Or.inl ⟨by rfl, ?_⟩) hHeld ?_
  · intro w' hSw
    have k0 := hSw.ws 1 xa hxa.out
    go_simp
  try simp only [Act.put, List.setIfInBounds_toArray, List.set_cons_zero, List.set_cons_succ]
  refine wpAnyH_take (i := 4) (oi := ⟨some 28, Op.fieldAddr _ (Operand.tmp 2) 2, _, _, _, none⟩) (v := .pointer (some ⟨w.heap.size, 2, none⟩)) rfl (by kernel_rfl) (by kernel_rfl) (by kernel_rfl) (fun _ _ _ h => h) (Or.inl ⟨by rfl, ?_⟩) hHeld ?_
  · intro w' hSw
    skip
    go_simp
  try simp only [Act.put, List.setIfInBounds_toArray, List.set_cons_zero, List.set_cons_succ]
  refine wpAnyH_take (i := 5) (oi := ⟨some 29, Op.load _ (Operand.tmp 28), _, _, _, none⟩) (v := .int .u8 a) rfl (by kernel_rfl) (by kernel_rfl) (by kernel_rfl) (fun _ _ _ h => h) (Or.inl ⟨by rfl, ?_⟩) hHeld ?_
  · intro w' hSw
    have k0 := (cell_of_row w' _ 2 _ _ _ hSw.nm).trans rfl
    go_simp
  try simp only [Act.put, List.setIfInBounds_toArray, List.set_cons_zero, List.set_cons_succ]
  refine wpAnyH_ready (rs := [6]) (by kernel_rfl) (by simp) ?_
  refine AllReadyH.cons (o := ⟨some 30, Op.call { callee := Callee.value (Operand.func _), args := #[Operand.tmp 27, Operand.tmp 29], argTypes := _ }, _, _, _, none⟩) rfl (fun K hK => ?_) AllReadyH.nil
  go_simp
  go_at_call 92
  refine (Ha.out _).mono ?_
  rintro e wq ⟨rfl, rfl⟩
  refine hK.out _ _ hHeld (fun hHeld => ?_)
  clear hK K
  try simp only [Act.put, List.setIfInBounds_toArray, List.set_cons_zero, List.set_cons_succ]
  refine wpAnyH_take (i := 7) (oi := ⟨some 23, Op.move (Operand.tmp 30), _, _, _, none⟩) (v := .tuple #[.int .u8 va, .bool true]) rfl (by kernel_rfl) (by kernel_rfl) (by kernel_rfl) (fun _ _ _ h => h) (Or.inl ⟨by rfl, ?_⟩) hHeld ?_
  · intro w' hSw
    skip
    go_simp
  try simp only [Act.put, List.setIfInBounds_toArray, List.set_cons_zero, List.set_cons_succ]
  refine wpAnyH_take (i := 8) (oi := ⟨some 31, Op.extract (Operand.tmp 23) 0, _, _, _, none⟩) (v := .int .u8 va) rfl (by kernel_rfl) (by kernel_rfl) (by kernel_rfl) (fun _ _ _ h => h) (Or.inl ⟨by rfl, ?_⟩) hHeld ?_
  · intro w' hSw
    skip
    go_simp
  try simp only [Act.put, List.setIfInBounds_toArray, List.set_cons_zero, List.set_cons_succ]
  refine wpAnyH_take (i := 9) (oi := ⟨some 32, Op.extract (Operand.tmp 23) 1, _, _, _, none⟩) (v := .bool true) rfl (by kernel_rfl) (by kernel_rfl) (by kernel_rfl) (fun _ _ _ h => h) (Or.inl ⟨by rfl, ?_⟩) hHeld ?_
  · intro w' hSw
    skip
    go_simp
  try simp only [Act.put, List.setIfInBounds_toArray, List.set_cons_zero, List.set_cons_succ]
  refine wpAnyH_take (i := 10) (oi := ⟨some 33, Op.fieldAddr _ (Operand.tmp 6) 1, _, _, _, none⟩) (v := .pointer (some ⟨w.heap.size + 1 + 1, 1, none⟩)) rfl (by kernel_rfl) (by kernel_rfl) (by kernel_rfl) (fun _ _ _ h => h) (Or.inl ⟨by rfl, ?_⟩) hHeld ?_
  · intro w' hSw
    skip
    go_simp
  try simp only [Act.put, List.setIfInBounds_toArray, List.set_cons_zero, List.set_cons_succ]
  refine wpAnyH_ready (rs := [11]) (by kernel_rfl) (by simp) ?_
  refine AllReadyH.cons (o := ⟨none, Op.store _ (Operand.tmp 33) (Operand.tmp 31), _, _, _, none⟩) rfl (fun K hK => ?_) AllReadyH.nil
  have ki := (cell_of_row _ _ 1 _ _ _ (hI1.out.next ((Below.refl _ _).drew))).trans rfl
  have fi := frozen_of_row _ _ 1 _ _ (hI1.out.next ((Below.refl _ _).drew))
  go_simp
  obtain ⟨V2, hV⟩ : ∃ V, V = (w1.setCell ⟨w.heap.size + 1 + 1, 1, none⟩ (.int .u8 va)).drew := ⟨_, rfl⟩
  rw [← hV]
  have hst : OfS w s op a 0 true gw ws V2 := by rw [hV]; exact hHeld.set 1 _
  have hit : Hid (IRow w op va 0 0 V2) := Lib.hid (by rw [hV]; exact (hI1.out.next ((Below.refl _ _).drew)).a va)
  clear hV
  refine hK.out _ _ hst (fun hHeld => ?_)
  clear hK K ki fi
  try simp only [Act.put, List.setIfInBounds_toArray, List.set_cons_zero, List.set_cons_succ]
  refine wpAnyH_take (i := 12) (oi := ⟨some 8, Op.assign (Operand.tmp 32), _, _, _, none⟩) (v := .bool true) rfl (by kernel_rfl) (by kernel_rfl) (by kernel_rfl) (fun _ _ _ h => h) (Or.inl ⟨by rfl, ?_⟩) hHeld ?_
  · intro w' hSw
    skip
    go_simp
  try simp only [Act.put, List.setIfInBounds_toArray, List.set_cons_zero, List.set_cons_succ]
  refine wpAnyH_done (by kernel_rfl) ?_ _
  have hS2 := Lib.hid hHeld
  have hI2 := hit
  clear hHeld hit hst
  have kn2 := (cell_of_row _ _ 2 _ _ _ hS2.out.nm).trans rfl
  have kn3 := (cell_of_row _ _ 3 _ _ _ hS2.out.nm).trans rfl
  have kn4 := (cell_of_row _ _ 4 _ _ _ hS2.out.nm).trans rfl
  have kr0 := (cell_of_row _ _ 0 _ _ _ hS2.out.ret).trans rfl
  have fr0 := frozen_of_row _ _ 0 _ _ hS2.out.ret
  have ki0 := (cell_of_row _ _ 0 _ _ _ hI2.out).trans rfl
  have fi0 := frozen_of_row _ _ 0 _ _ hI2.out
  have kr1 := (cell_of_row _ _ 1 _ _ _ hS2.out.ret).trans rfl
  have fr1 := frozen_of_row _ _ 1 _ _ hS2.out.ret
  have ki1 := (cell_of_row _ _ 1 _ _ _ hI2.out).trans rfl
  have fi1 := frozen_of_row _ _ 1 _ _ hI2.out
  have kr2 := (cell_of_row _ _ 2 _ _ _ hS2.out.ret).trans rfl
  have fr2 := frozen_of_row _ _ 2 _ _ hS2.out.ret
  have ki2 := (cell_of_row _ _ 2 _ _ _ hI2.out).trans rfl
  have fi2 := frozen_of_row _ _ 2 _ _ hI2.out
  have kr3 := (cell_of_row _ _ 3 _ _ _ hS2.out.ret).trans rfl
  have fr3 := frozen_of_row _ _ 3 _ _ hS2.out.ret
  have ki3 := (cell_of_row _ _ 3 _ _ _ hI2.out).trans rfl
  have fi3 := frozen_of_row _ _ 3 _ _ hI2.out
  have kw := hS2.out.ws 2 xi hxi.out
  go_wp2_with fail
  refine (Hi.out _).mono ?_
  rintro e w5 ⟨⟨v, bb, rfl, hq, hv0, hv1⟩, hb5⟩
  obtain rfl : bb = false := by cases bb; rfl; cases hq
  clear hq
  clear kw kn2 kn3 kn4 kr0 kr1 kr2 kr3 fr0 fr1 fr2 fr3 ki0 ki1 ki2 ki3 fi0 fi1 fi2 fi3
  have hS3 := Lib.hid (hS2.out.next hb5)
  have hI3 := Lib.hid (hI2.out.next hb5)
  clear hb5
  have kn2 := (cell_of_row _ _ 2 _ _ _ hS3.out.nm).trans rfl
  have kn3 := (cell_of_row _ _ 3 _ _ _ hS3.out.nm).trans rfl
  have kn4 := (cell_of_row _ _ 4 _ _ _ hS3.out.nm).trans rfl
  have kr0 := (cell_of_row _ _ 0 _ _ _ hS3.out.ret).trans rfl
  have fr0 := frozen_of_row _ _ 0 _ _ hS3.out.ret
  have ki0 := (cell_of_row _ _ 0 _ _ _ hI3.out).trans rfl
  have fi0 := frozen_of_row _ _ 0 _ _ hI3.out
  have kr1 := (cell_of_row _ _ 1 _ _ _ hS3.out.ret).trans rfl
  have fr1 := frozen_of_row _ _ 1 _ _ hS3.out.ret
  have ki1 := (cell_of_row _ _ 1 _ _ _ hI3.out).trans rfl
  have fi1 := frozen_of_row _ _ 1 _ _ hI3.out
  have kr2 := (cell_of_row _ _ 2 _ _ _ hS3.out.ret).trans rfl
  have fr2 := frozen_of_row _ _ 2 _ _ hS3.out.ret
  have ki2 := (cell_of_row _ _ 2 _ _ _ hI3.out).trans rfl
  have fi2 := frozen_of_row _ _ 2 _ _ hI3.out
  have kr3 := (cell_of_row _ _ 3 _ _ _ hS3.out.ret).trans rfl
  have fr3 := frozen_of_row _ _ 3 _ _ hS3.out.ret
  have ki3 := (cell_of_row _ _ 3 _ _ _ hI3.out).trans rfl
  have fi3 := frozen_of_row _ _ 3 _ _ hI3.out
  go_wp2_with fail
  refine bodyPost_ret (v := .tuple #[.agg #[.int .u8 0, .int .u8 0, .int .u8 0, .int .i32 0], .int .i64 41]) (by simp [results, Tryz.results76, go_sem, World.cell?_setCell_same', kr0, kr1, kr2, kr3]) rfl ⟨rfl, ?_⟩
  have hbl := hS3.out.below
  repeat (first | exact hbl | (refine Below.setCell ?_ (by first | (show w.heap.size ≤ w.heap.size + 1; omega) | (show w.heap.size ≤ w.heap.size + 1 + 1; omega)) _))

set_option maxHeartbeats 16000000 in
theorem of_ok_no_notmay (s : ByteArray) (op a b : Int) (imm : Bool) (gw cap N : Nat) (ws : List (List UInt8)) (w : World) (hN : ws.length = N) (hw : ∀ j x, ws[j]? = some x → w.cell? ⟨gw, j, none⟩ = some (.string ⟨x.toArray⟩)) (hgw : gw < w.heap.size) (hop : 0 ≤ op ∧ op < 256)
    (HW : Hid (∀ W, Calls Tryz.prog 91 #[.agg #[.string s, .int .u8 op, .int .u8 a, .int .u8 b, .bool imm]] W fun e w' => e = .returned (.int .i64 (N : Int)) ∧ Below W.heap.size W w')) (vi : Int) (va : Int) (ha : ¬ a = 0) (xa : List UInt8) (hxa : ws[1]? = some xa) (hra : regF xa a = some va) (hb : b = 0) (him : imm = true) (xi : List UInt8) (hxi : ws[2]? = some xi) (hli : xi.length ≤ 9223372036854775807) (hri : numF xi = some vi) (hmay : Isa.mayB (Isa.fm op true) va 0 vi = false) :
    Calls Tryz.prog 76 #[.agg #[.string s, .int .u8 op, .int .u8 a, .int .u8 b, .bool imm], .slice (some ⟨gw, 0, none⟩) N cap] w fun e w' => e = .returned (.tuple #[(insR 0 0 0 0), .int .i64 41]) ∧ Below w.heap.size w w' := by
  unfold insR
  have e1 : ((N : Int) != (N : Int)) = false := by simp
  have hvab := regF_bd hra
  have qa : (a != 0) = true := by simp [ha]
  have i1 : (1 : Int) < (N : Int) := by have := (List.getElem?_eq_some_iff.1 hxa).1; omega
  have hxa := Lib.hid hxa
  have Ha := Lib.hid fun W => reg_c xa a W
  rw [hra] at Ha
  simp only [Option.getD_some, Option.getD_none, Option.isSome_some, Option.isSome_none] at Ha
  have qb : (b != 0) = false := by simp [hb]
  have i3 : (2 : Int) < (N : Int) := by have := (List.getElem?_eq_some_iff.1 hxi).1; omega
  have hxi := Lib.hid hxi
  have Hi := Lib.hid fun W => number_c xi hli W
  rw [hri] at Hi
  have hvi := numF_bd hri
  have Hm := Lib.hid fun W => Isa.may_c op va 0 vi true W hop.1 hop.2 (by omega) (by omega) (by omega) (by omega) hvi.1 hvi.2
  rw [hmay] at Hm
  unfold Isa.insV at Hm
  subst him
  subst hb
  have hS0 : Hid (OfS w s op a 0 true gw ws (((w.alloc (.cells #[.string s, .int .u8 op, .int .u8 a, .int .u8 0, .bool true] 104)).alloc (.cells #[.int .u8 0, .int .u8 0, .int .u8 0, .int .i32 0] 67)).alloc (.cells #[.int .u8 op, .int .u8 0, .int .u8 0, .int .i32 0] 67))) :=
    Lib.hid ⟨heap_oldT (heap_oldT (heap_newT rfl)), heap_oldT (heap_newT (by simp)), fun j x hx => ((((Below.refl w.heap.size w).alloc (Nat.le_refl _) _).alloc (by simp) _).alloc (by simp; omega) _ |>.cell (p := ⟨gw, j, none⟩) hgw).trans (hw j x hx), (((Below.refl w.heap.size w).alloc (Nat.le_refl _) _).alloc (by simp) _).alloc (by simp; omega) _, by simp, hgw⟩
  have hI0 : Hid (IRow w op 0 0 0 (((w.alloc (.cells #[.string s, .int .u8 op, .int .u8 a, .int .u8 0, .bool true] 104)).alloc (.cells #[.int .u8 0, .int .u8 0, .int .u8 0, .int .i32 0] 67)).alloc (.cells #[.int .u8 op, .int .u8 0, .int .u8 0, .int .i32 0] 67))) :=
    Lib.hid (heap_newT (by simp))
  clear hw
  go_enter Tryz.func76, Tryz.ntmps76
  go_wp2_with fail
  refine (HW.out _).mono ?_
  rintro e w1 ⟨rfl, hb1⟩
  have hS1 := Lib.hid (hS0.out.next hb1)
  have hI1 := Lib.hid (hI0.out.next hb1)
  clear hb1 hS0 hI0
  have kn2 := (cell_of_row _ _ 2 _ _ _ hS1.out.nm).trans rfl
  have kn3 := (cell_of_row _ _ 3 _ _ _ hS1.out.nm).trans rfl
  have kn4 := (cell_of_row _ _ 4 _ _ _ hS1.out.nm).trans rfl
  have kr0 := (cell_of_row _ _ 0 _ _ _ hS1.out.ret).trans rfl
  have fr0 := frozen_of_row _ _ 0 _ _ hS1.out.ret
  have ki0 := (cell_of_row _ _ 0 _ _ _ hI1.out).trans rfl
  have fi0 := frozen_of_row _ _ 0 _ _ hI1.out
  have kr1 := (cell_of_row _ _ 1 _ _ _ hS1.out.ret).trans rfl
  have fr1 := frozen_of_row _ _ 1 _ _ hS1.out.ret
  have ki1 := (cell_of_row _ _ 1 _ _ _ hI1.out).trans rfl
  have fi1 := frozen_of_row _ _ 1 _ _ hI1.out
  have kr2 := (cell_of_row _ _ 2 _ _ _ hS1.out.ret).trans rfl
  have fr2 := frozen_of_row _ _ 2 _ _ hS1.out.ret
  have ki2 := (cell_of_row _ _ 2 _ _ _ hI1.out).trans rfl
  have fi2 := frozen_of_row _ _ 2 _ _ hI1.out
  have kr3 := (cell_of_row _ _ 3 _ _ _ hS1.out.ret).trans rfl
  have fr3 := frozen_of_row _ _ 3 _ _ hS1.out.ret
  have ki3 := (cell_of_row _ _ 3 _ _ _ hI1.out).trans rfl
  have fi3 := frozen_of_row _ _ 3 _ _ hI1.out
  go_wp2_with fail
  clear kn2 kn3 kn4 kr0 kr1 kr2 kr3 fr0 fr1 fr2 fr3 ki0 ki1 ki2 ki3 fi0 fi1 fi2 fi3
  have hSd := hS1.out.next ((Below.refl _ _).drew)
  refine wp_region_held_drew (S := fun w' => OfS w s op a 0 true gw ws w') (by kernel_rfl) hSd (fun hHeld => ?_)
  clear hSd
  refine wpAnyH_take (i := 0) (oi := ⟨some 24, Op.move (Operand.tmp 1), _, _, _, none⟩) (v := .slice (some ⟨gw, 0, none⟩) N cap) rfl (by kernel_rfl) (by kernel_rfl) (by kernel_rfl) (fun _ _ _ h => h) (Or.inl ⟨by rfl, ?_⟩) hHeld ?_
  · intro w' hSw
    skip
    go_simp
  try simp only [Act.put, List.setIfInBounds_toArray, List.set_cons_zero, List.set_cons_succ]
  refine wpAnyH_take (i := 1) (oi := ⟨some 25, Op.move (Operand.tmp 7), _, _, _, none⟩) (v := .int .i64 1) rfl (by kernel_rfl) (by kernel_rfl) (by kernel_rfl) (fun _ _ _ h => h) (Or.inl ⟨by rfl, ?_⟩) hHeld ?_
  · intro w' hSw
    skip
    go_simp
  try simp only [Act.put, List.setIfInBounds_toArray, List.set_cons_zero, List.set_cons_succ]
  refine wpAnyH_take (i := 2) (oi := ⟨some 26, Op.indexAddr _ (Operand.tmp 24) (Operand.tmp 25), _, _, _, none⟩) (v := .pointer (some ⟨gw, 1, none⟩)) rfl (by kernel_rfl) (by kernel_rfl) (by kernel_rfl) (fun _ _ _ h => h) (Or.inl ⟨by rfl, ?_⟩) hHeld ?_
  · intro w' hSw
    skip
    go_simp
  try simp only [Act.put, List.setIfInBounds_toArray, List.set_cons_zero, List.set_cons_succ]
  refine wpAnyH_take (i := 3) (oi := ⟨some 27, Op.load _ (Operand.tmp 26), _, _, _, none⟩) (v := .string ⟨xa.toArray⟩) rfl (by kernel_rfl) (by kernel_rfl) (by kernel_rfl) (fun _ _ _ h => h) (Or.inl ⟨by rfl, ?_⟩) hHeld ?_
  · intro w' hSw
    have k0 := hSw.ws 1 xa hxa.out
    go_simp
  try simp only [Act.put, List.setIfInBounds_toArray, List.set_cons_zero, List.set_cons_succ]
  refine wpAnyH_take (i := 4) (oi := ⟨some 28, Op.fieldAddr _ (Operand.tmp 2) 2, _, _, _, none⟩) (v := .pointer (some ⟨w.heap.size, 2, none⟩)) rfl (by kernel_rfl) (by kernel_rfl) (by kernel_rfl) (fun _ _ _ h => h) (Or.inl ⟨by rfl, ?_⟩) hHeld ?_
  · intro w' hSw
    skip
    go_simp
  try simp only [Act.put, List.setIfInBounds_toArray, List.set_cons_zero, List.set_cons_succ]
  refine wpAnyH_take (i := 5) (oi := ⟨some 29, Op.load _ (Operand.tmp 28), _, _, _, none⟩) (v := .int .u8 a) rfl (by kernel_rfl) (by kernel_rfl) (by kernel_rfl) (fun _ _ _ h => h) (Or.inl ⟨by rfl, ?_⟩) hHeld ?_
  · intro w' hSw
    have k0 := (cell_of_row w' _ 2 _ _ _ hSw.nm).trans rfl
    go_simp
  try simp only [Act.put, List.setIfInBounds_toArray, List.set_cons_zero, List.set_cons_succ]
  refine wpAnyH_ready (rs := [6]) (by kernel_rfl) (by simp) ?_
  refine AllReadyH.cons (o := ⟨some 30, Op.call { callee := Callee.value (Operand.func _), args := #[Operand.tmp 27, Operand.tmp 29], argTypes := _ }, _, _, _, none⟩) rfl (fun K hK => ?_) AllReadyH.nil
  go_simp
  go_at_call 92
  refine (Ha.out _).mono ?_
  rintro e wq ⟨rfl, rfl⟩
  refine hK.out _ _ hHeld (fun hHeld => ?_)
  clear hK K
  try simp only [Act.put, List.setIfInBounds_toArray, List.set_cons_zero, List.set_cons_succ]
  refine wpAnyH_take (i := 7) (oi := ⟨some 23, Op.move (Operand.tmp 30), _, _, _, none⟩) (v := .tuple #[.int .u8 va, .bool true]) rfl (by kernel_rfl) (by kernel_rfl) (by kernel_rfl) (fun _ _ _ h => h) (Or.inl ⟨by rfl, ?_⟩) hHeld ?_
  · intro w' hSw
    skip
    go_simp
  try simp only [Act.put, List.setIfInBounds_toArray, List.set_cons_zero, List.set_cons_succ]
  refine wpAnyH_take (i := 8) (oi := ⟨some 31, Op.extract (Operand.tmp 23) 0, _, _, _, none⟩) (v := .int .u8 va) rfl (by kernel_rfl) (by kernel_rfl) (by kernel_rfl) (fun _ _ _ h => h) (Or.inl ⟨by rfl, ?_⟩) hHeld ?_
  · intro w' hSw
    skip
    go_simp
  try simp only [Act.put, List.setIfInBounds_toArray, List.set_cons_zero, List.set_cons_succ]
  refine wpAnyH_take (i := 9) (oi := ⟨some 32, Op.extract (Operand.tmp 23) 1, _, _, _, none⟩) (v := .bool true) rfl (by kernel_rfl) (by kernel_rfl) (by kernel_rfl) (fun _ _ _ h => h) (Or.inl ⟨by rfl, ?_⟩) hHeld ?_
  · intro w' hSw
    skip
    go_simp
  try simp only [Act.put, List.setIfInBounds_toArray, List.set_cons_zero, List.set_cons_succ]
  refine wpAnyH_take (i := 10) (oi := ⟨some 33, Op.fieldAddr _ (Operand.tmp 6) 1, _, _, _, none⟩) (v := .pointer (some ⟨w.heap.size + 1 + 1, 1, none⟩)) rfl (by kernel_rfl) (by kernel_rfl) (by kernel_rfl) (fun _ _ _ h => h) (Or.inl ⟨by rfl, ?_⟩) hHeld ?_
  · intro w' hSw
    skip
    go_simp
  try simp only [Act.put, List.setIfInBounds_toArray, List.set_cons_zero, List.set_cons_succ]
  refine wpAnyH_ready (rs := [11]) (by kernel_rfl) (by simp) ?_
  refine AllReadyH.cons (o := ⟨none, Op.store _ (Operand.tmp 33) (Operand.tmp 31), _, _, _, none⟩) rfl (fun K hK => ?_) AllReadyH.nil
  have ki := (cell_of_row _ _ 1 _ _ _ (hI1.out.next ((Below.refl _ _).drew))).trans rfl
  have fi := frozen_of_row _ _ 1 _ _ (hI1.out.next ((Below.refl _ _).drew))
  go_simp
  obtain ⟨V2, hV⟩ : ∃ V, V = (w1.setCell ⟨w.heap.size + 1 + 1, 1, none⟩ (.int .u8 va)).drew := ⟨_, rfl⟩
  rw [← hV]
  have hst : OfS w s op a 0 true gw ws V2 := by rw [hV]; exact hHeld.set 1 _
  have hit : Hid (IRow w op va 0 0 V2) := Lib.hid (by rw [hV]; exact (hI1.out.next ((Below.refl _ _).drew)).a va)
  clear hV
  refine hK.out _ _ hst (fun hHeld => ?_)
  clear hK K ki fi
  try simp only [Act.put, List.setIfInBounds_toArray, List.set_cons_zero, List.set_cons_succ]
  refine wpAnyH_take (i := 12) (oi := ⟨some 8, Op.assign (Operand.tmp 32), _, _, _, none⟩) (v := .bool true) rfl (by kernel_rfl) (by kernel_rfl) (by kernel_rfl) (fun _ _ _ h => h) (Or.inl ⟨by rfl, ?_⟩) hHeld ?_
  · intro w' hSw
    skip
    go_simp
  try simp only [Act.put, List.setIfInBounds_toArray, List.set_cons_zero, List.set_cons_succ]
  refine wpAnyH_done (by kernel_rfl) ?_ _
  have hS2 := Lib.hid hHeld
  have hI2 := hit
  clear hHeld hit hst
  have kn2 := (cell_of_row _ _ 2 _ _ _ hS2.out.nm).trans rfl
  have kn3 := (cell_of_row _ _ 3 _ _ _ hS2.out.nm).trans rfl
  have kn4 := (cell_of_row _ _ 4 _ _ _ hS2.out.nm).trans rfl
  have kr0 := (cell_of_row _ _ 0 _ _ _ hS2.out.ret).trans rfl
  have fr0 := frozen_of_row _ _ 0 _ _ hS2.out.ret
  have ki0 := (cell_of_row _ _ 0 _ _ _ hI2.out).trans rfl
  have fi0 := frozen_of_row _ _ 0 _ _ hI2.out
  have kr1 := (cell_of_row _ _ 1 _ _ _ hS2.out.ret).trans rfl
  have fr1 := frozen_of_row _ _ 1 _ _ hS2.out.ret
  have ki1 := (cell_of_row _ _ 1 _ _ _ hI2.out).trans rfl
  have fi1 := frozen_of_row _ _ 1 _ _ hI2.out
  have kr2 := (cell_of_row _ _ 2 _ _ _ hS2.out.ret).trans rfl
  have fr2 := frozen_of_row _ _ 2 _ _ hS2.out.ret
  have ki2 := (cell_of_row _ _ 2 _ _ _ hI2.out).trans rfl
  have fi2 := frozen_of_row _ _ 2 _ _ hI2.out
  have kr3 := (cell_of_row _ _ 3 _ _ _ hS2.out.ret).trans rfl
  have fr3 := frozen_of_row _ _ 3 _ _ hS2.out.ret
  have ki3 := (cell_of_row _ _ 3 _ _ _ hI2.out).trans rfl
  have fi3 := frozen_of_row _ _ 3 _ _ hI2.out
  have kw := hS2.out.ws 2 xi hxi.out
  go_wp2_with fail
  refine (Hi.out _).mono ?_
  rintro e w5 ⟨⟨v, bb, rfl, hq, hv0, hv1⟩, hb5⟩
  obtain ⟨rfl, rfl⟩ : bb = true ∧ v = vi := by
    cases bb
    · cases hq
    · exact ⟨rfl, (Option.some.inj hq).symm⟩
  clear hq
  have wv : IntKind.i32.wrap v = v := IntWalk.i32_in _ (by omega)
  clear kw kn2 kn3 kn4 kr0 kr1 kr2 kr3 fr0 fr1 fr2 fr3 ki0 ki1 ki2 ki3 fi0 fi1 fi2 fi3
  have hS3 := Lib.hid (hS2.out.next hb5)
  have hI3 := Lib.hid (hI2.out.next hb5)
  clear hb5
  have kn2 := (cell_of_row _ _ 2 _ _ _ hS3.out.nm).trans rfl
  have kn3 := (cell_of_row _ _ 3 _ _ _ hS3.out.nm).trans rfl
  have kn4 := (cell_of_row _ _ 4 _ _ _ hS3.out.nm).trans rfl
  have kr0 := (cell_of_row _ _ 0 _ _ _ hS3.out.ret).trans rfl
  have fr0 := frozen_of_row _ _ 0 _ _ hS3.out.ret
  have ki0 := (cell_of_row _ _ 0 _ _ _ hI3.out).trans rfl
  have fi0 := frozen_of_row _ _ 0 _ _ hI3.out
  have kr1 := (cell_of_row _ _ 1 _ _ _ hS3.out.ret).trans rfl
  have fr1 := frozen_of_row _ _ 1 _ _ hS3.out.ret
  have ki1 := (cell_of_row _ _ 1 _ _ _ hI3.out).trans rfl
  have fi1 := frozen_of_row _ _ 1 _ _ hI3.out
  have kr2 := (cell_of_row _ _ 2 _ _ _ hS3.out.ret).trans rfl
  have fr2 := frozen_of_row _ _ 2 _ _ hS3.out.ret
  have ki2 := (cell_of_row _ _ 2 _ _ _ hI3.out).trans rfl
  have fi2 := frozen_of_row _ _ 2 _ _ hI3.out
  have kr3 := (cell_of_row _ _ 3 _ _ _ hS3.out.ret).trans rfl
  have fr3 := frozen_of_row _ _ 3 _ _ hS3.out.ret
  have ki3 := (cell_of_row _ _ 3 _ _ _ hI3.out).trans rfl
  have fi3 := frozen_of_row _ _ 3 _ _ hI3.out
  go_wp2_with fail
  refine (Hm.out _).mono ?_
  rintro e w6 ⟨rfl, hb6⟩
  clear kn2 kn3 kn4 kr0 kr1 kr2 kr3 fr0 fr1 fr2 fr3 ki0 ki1 ki2 ki3 fi0 fi1 fi2 fi3
  have hS4 := Lib.hid ((hS3.out.set 3 (.int .i32 v)).next hb6)
  have hI4 := Lib.hid ((hI3.out.imm v).next hb6)
  clear hb6
  have kn2 := (cell_of_row _ _ 2 _ _ _ hS4.out.nm).trans rfl
  have kn3 := (cell_of_row _ _ 3 _ _ _ hS4.out.nm).trans rfl
  have kn4 := (cell_of_row _ _ 4 _ _ _ hS4.out.nm).trans rfl
  have kr0 := (cell_of_row _ _ 0 _ _ _ hS4.out.ret).trans rfl
  have fr0 := frozen_of_row _ _ 0 _ _ hS4.out.ret
  have ki0 := (cell_of_row _ _ 0 _ _ _ hI4.out).trans rfl
  have fi0 := frozen_of_row _ _ 0 _ _ hI4.out
  have kr1 := (cell_of_row _ _ 1 _ _ _ hS4.out.ret).trans rfl
  have fr1 := frozen_of_row _ _ 1 _ _ hS4.out.ret
  have ki1 := (cell_of_row _ _ 1 _ _ _ hI4.out).trans rfl
  have fi1 := frozen_of_row _ _ 1 _ _ hI4.out
  have kr2 := (cell_of_row _ _ 2 _ _ _ hS4.out.ret).trans rfl
  have fr2 := frozen_of_row _ _ 2 _ _ hS4.out.ret
  have ki2 := (cell_of_row _ _ 2 _ _ _ hI4.out).trans rfl
  have fi2 := frozen_of_row _ _ 2 _ _ hI4.out
  have kr3 := (cell_of_row _ _ 3 _ _ _ hS4.out.ret).trans rfl
  have fr3 := frozen_of_row _ _ 3 _ _ hS4.out.ret
  have ki3 := (cell_of_row _ _ 3 _ _ _ hI4.out).trans rfl
  have fi3 := frozen_of_row _ _ 3 _ _ hI4.out
  go_wp2_with fail
  refine bodyPost_ret (v := .tuple #[.agg #[.int .u8 0, .int .u8 0, .int .u8 0, .int .i32 0], .int .i64 41]) (by simp [results, Tryz.results76, go_sem, World.cell?_setCell_same', kr0, kr1, kr2, kr3]) rfl ⟨rfl, ?_⟩
  have hbl := hS4.out.below
  repeat (first | exact hbl | (refine Below.setCell ?_ (by first | (show w.heap.size ≤ w.heap.size + 1; omega) | (show w.heap.size ≤ w.heap.size + 1 + 1; omega)) _))

set_option maxHeartbeats 16000000 in
theorem of_ok_no_ok (s : ByteArray) (op a b : Int) (imm : Bool) (gw cap N : Nat) (ws : List (List UInt8)) (w : World) (hN : ws.length = N) (hw : ∀ j x, ws[j]? = some x → w.cell? ⟨gw, j, none⟩ = some (.string ⟨x.toArray⟩)) (hgw : gw < w.heap.size) (hop : 0 ≤ op ∧ op < 256)
    (HW : Hid (∀ W, Calls Tryz.prog 91 #[.agg #[.string s, .int .u8 op, .int .u8 a, .int .u8 b, .bool imm]] W fun e w' => e = .returned (.int .i64 (N : Int)) ∧ Below W.heap.size W w')) (vi : Int) (va : Int) (ha : ¬ a = 0) (xa : List UInt8) (hxa : ws[1]? = some xa) (hra : regF xa a = some va) (hb : b = 0) (him : imm = true) (xi : List UInt8) (hxi : ws[2]? = some xi) (hli : xi.length ≤ 9223372036854775807) (hri : numF xi = some vi) (hmay : Isa.mayB (Isa.fm op true) va 0 vi = true) :
    Calls Tryz.prog 76 #[.agg #[.string s, .int .u8 op, .int .u8 a, .int .u8 b, .bool imm], .slice (some ⟨gw, 0, none⟩) N cap] w fun e w' => e = .returned (.tuple #[(insR op va 0 vi), .int .i64 0]) ∧ Below w.heap.size w w' := by
  unfold insR
  have e1 : ((N : Int) != (N : Int)) = false := by simp
  have hvab := regF_bd hra
  have qa : (a != 0) = true := by simp [ha]
  have i1 : (1 : Int) < (N : Int) := by have := (List.getElem?_eq_some_iff.1 hxa).1; omega
  have hxa := Lib.hid hxa
  have Ha := Lib.hid fun W => reg_c xa a W
  rw [hra] at Ha
  simp only [Option.getD_some, Option.getD_none, Option.isSome_some, Option.isSome_none] at Ha
  have qb : (b != 0) = false := by simp [hb]
  have i3 : (2 : Int) < (N : Int) := by have := (List.getElem?_eq_some_iff.1 hxi).1; omega
  have hxi := Lib.hid hxi
  have Hi := Lib.hid fun W => number_c xi hli W
  rw [hri] at Hi
  have hvi := numF_bd hri
  have Hm := Lib.hid fun W => Isa.may_c op va 0 vi true W hop.1 hop.2 (by omega) (by omega) (by omega) (by omega) hvi.1 hvi.2
  rw [hmay] at Hm
  unfold Isa.insV at Hm
  subst him
  subst hb
  have hS0 : Hid (OfS w s op a 0 true gw ws (((w.alloc (.cells #[.string s, .int .u8 op, .int .u8 a, .int .u8 0, .bool true] 104)).alloc (.cells #[.int .u8 0, .int .u8 0, .int .u8 0, .int .i32 0] 67)).alloc (.cells #[.int .u8 op, .int .u8 0, .int .u8 0, .int .i32 0] 67))) :=
    Lib.hid ⟨heap_oldT (heap_oldT (heap_newT rfl)), heap_oldT (heap_newT (by simp)), fun j x hx => ((((Below.refl w.heap.size w).alloc (Nat.le_refl _) _).alloc (by simp) _).alloc (by simp; omega) _ |>.cell (p := ⟨gw, j, none⟩) hgw).trans (hw j x hx), (((Below.refl w.heap.size w).alloc (Nat.le_refl _) _).alloc (by simp) _).alloc (by simp; omega) _, by simp, hgw⟩
  have hI0 : Hid (IRow w op 0 0 0 (((w.alloc (.cells #[.string s, .int .u8 op, .int .u8 a, .int .u8 0, .bool true] 104)).alloc (.cells #[.int .u8 0, .int .u8 0, .int .u8 0, .int .i32 0] 67)).alloc (.cells #[.int .u8 op, .int .u8 0, .int .u8 0, .int .i32 0] 67))) :=
    Lib.hid (heap_newT (by simp))
  clear hw
  go_enter Tryz.func76, Tryz.ntmps76
  go_wp2_with fail
  refine (HW.out _).mono ?_
  rintro e w1 ⟨rfl, hb1⟩
  have hS1 := Lib.hid (hS0.out.next hb1)
  have hI1 := Lib.hid (hI0.out.next hb1)
  clear hb1 hS0 hI0
  have kn2 := (cell_of_row _ _ 2 _ _ _ hS1.out.nm).trans rfl
  have kn3 := (cell_of_row _ _ 3 _ _ _ hS1.out.nm).trans rfl
  have kn4 := (cell_of_row _ _ 4 _ _ _ hS1.out.nm).trans rfl
  have kr0 := (cell_of_row _ _ 0 _ _ _ hS1.out.ret).trans rfl
  have fr0 := frozen_of_row _ _ 0 _ _ hS1.out.ret
  have ki0 := (cell_of_row _ _ 0 _ _ _ hI1.out).trans rfl
  have fi0 := frozen_of_row _ _ 0 _ _ hI1.out
  have kr1 := (cell_of_row _ _ 1 _ _ _ hS1.out.ret).trans rfl
  have fr1 := frozen_of_row _ _ 1 _ _ hS1.out.ret
  have ki1 := (cell_of_row _ _ 1 _ _ _ hI1.out).trans rfl
  have fi1 := frozen_of_row _ _ 1 _ _ hI1.out
  have kr2 := (cell_of_row _ _ 2 _ _ _ hS1.out.ret).trans rfl
  have fr2 := frozen_of_row _ _ 2 _ _ hS1.out.ret
  have ki2 := (cell_of_row _ _ 2 _ _ _ hI1.out).trans rfl
  have fi2 := frozen_of_row _ _ 2 _ _ hI1.out
  have kr3 := (cell_of_row _ _ 3 _ _ _ hS1.out.ret).trans rfl
  have fr3 := frozen_of_row _ _ 3 _ _ hS1.out.ret
  have ki3 := (cell_of_row _ _ 3 _ _ _ hI1.out).trans rfl
  have fi3 := frozen_of_row _ _ 3 _ _ hI1.out
  go_wp2_with fail
  clear kn2 kn3 kn4 kr0 kr1 kr2 kr3 fr0 fr1 fr2 fr3 ki0 ki1 ki2 ki3 fi0 fi1 fi2 fi3
  have hSd := hS1.out.next ((Below.refl _ _).drew)
  refine wp_region_held_drew (S := fun w' => OfS w s op a 0 true gw ws w') (by kernel_rfl) hSd (fun hHeld => ?_)
  clear hSd
  refine wpAnyH_take (i := 0) (oi := ⟨some 24, Op.move (Operand.tmp 1), _, _, _, none⟩) (v := .slice (some ⟨gw, 0, none⟩) N cap) rfl (by kernel_rfl) (by kernel_rfl) (by kernel_rfl) (fun _ _ _ h => h) (Or.inl ⟨by rfl, ?_⟩) hHeld ?_
  · intro w' hSw
    skip
    go_simp
  try simp only [Act.put, List.setIfInBounds_toArray, List.set_cons_zero, List.set_cons_succ]
  refine wpAnyH_take (i := 1) (oi := ⟨some 25, Op.move (Operand.tmp 7), _, _, _, none⟩) (v := .int .i64 1) rfl (by kernel_rfl) (by kernel_rfl) (by kernel_rfl) (fun _ _ _ h => h) (Or.inl ⟨by rfl, ?_⟩) hHeld ?_
  · intro w' hSw
    skip
    go_simp
  try simp only [Act.put, List.setIfInBounds_toArray, List.set_cons_zero, List.set_cons_succ]
  refine wpAnyH_take (i := 2) (oi := ⟨some 26, Op.indexAddr _ (Operand.tmp 24) (Operand.tmp 25), _, _, _, none⟩) (v := .pointer (some ⟨gw, 1, none⟩)) rfl (by kernel_rfl) (by kernel_rfl) (by kernel_rfl) (fun _ _ _ h => h) (Or.inl ⟨by rfl, ?_⟩) hHeld ?_
  · intro w' hSw
    skip
    go_simp
  try simp only [Act.put, List.setIfInBounds_toArray, List.set_cons_zero, List.set_cons_succ]
  refine wpAnyH_take (i := 3) (oi := ⟨some 27, Op.load _ (Operand.tmp 26), _, _, _, none⟩) (v := .string ⟨xa.toArray⟩) rfl (by kernel_rfl) (by kernel_rfl) (by kernel_rfl) (fun _ _ _ h => h) (Or.inl ⟨by rfl, ?_⟩) hHeld ?_
  · intro w' hSw
    have k0 := hSw.ws 1 xa hxa.out
    go_simp
  try simp only [Act.put, List.setIfInBounds_toArray, List.set_cons_zero, List.set_cons_succ]
  refine wpAnyH_take (i := 4) (oi := ⟨some 28, Op.fieldAddr _ (Operand.tmp 2) 2, _, _, _, none⟩) (v := .pointer (some ⟨w.heap.size, 2, none⟩)) rfl (by kernel_rfl) (by kernel_rfl) (by kernel_rfl) (fun _ _ _ h => h) (Or.inl ⟨by rfl, ?_⟩) hHeld ?_
  · intro w' hSw
    skip
    go_simp
  try simp only [Act.put, List.setIfInBounds_toArray, List.set_cons_zero, List.set_cons_succ]
  refine wpAnyH_take (i := 5) (oi := ⟨some 29, Op.load _ (Operand.tmp 28), _, _, _, none⟩) (v := .int .u8 a) rfl (by kernel_rfl) (by kernel_rfl) (by kernel_rfl) (fun _ _ _ h => h) (Or.inl ⟨by rfl, ?_⟩) hHeld ?_
  · intro w' hSw
    have k0 := (cell_of_row w' _ 2 _ _ _ hSw.nm).trans rfl
    go_simp
  try simp only [Act.put, List.setIfInBounds_toArray, List.set_cons_zero, List.set_cons_succ]
  refine wpAnyH_ready (rs := [6]) (by kernel_rfl) (by simp) ?_
  refine AllReadyH.cons (o := ⟨some 30, Op.call { callee := Callee.value (Operand.func _), args := #[Operand.tmp 27, Operand.tmp 29], argTypes := _ }, _, _, _, none⟩) rfl (fun K hK => ?_) AllReadyH.nil
  go_simp
  go_at_call 92
  refine (Ha.out _).mono ?_
  rintro e wq ⟨rfl, rfl⟩
  refine hK.out _ _ hHeld (fun hHeld => ?_)
  clear hK K
  try simp only [Act.put, List.setIfInBounds_toArray, List.set_cons_zero, List.set_cons_succ]
  refine wpAnyH_take (i := 7) (oi := ⟨some 23, Op.move (Operand.tmp 30), _, _, _, none⟩) (v := .tuple #[.int .u8 va, .bool true]) rfl (by kernel_rfl) (by kernel_rfl) (by kernel_rfl) (fun _ _ _ h => h) (Or.inl ⟨by rfl, ?_⟩) hHeld ?_
  · intro w' hSw
    skip
    go_simp
  try simp only [Act.put, List.setIfInBounds_toArray, List.set_cons_zero, List.set_cons_succ]
  refine wpAnyH_take (i := 8) (oi := ⟨some 31, Op.extract (Operand.tmp 23) 0, _, _, _, none⟩) (v := .int .u8 va) rfl (by kernel_rfl) (by kernel_rfl) (by kernel_rfl) (fun _ _ _ h => h) (Or.inl ⟨by rfl, ?_⟩) hHeld ?_
  · intro w' hSw
    skip
    go_simp
  try simp only [Act.put, List.setIfInBounds_toArray, List.set_cons_zero, List.set_cons_succ]
  refine wpAnyH_take (i := 9) (oi := ⟨some 32, Op.extract (Operand.tmp 23) 1, _, _, _, none⟩) (v := .bool true) rfl (by kernel_rfl) (by kernel_rfl) (by kernel_rfl) (fun _ _ _ h => h) (Or.inl ⟨by rfl, ?_⟩) hHeld ?_
  · intro w' hSw
    skip
    go_simp
  try simp only [Act.put, List.setIfInBounds_toArray, List.set_cons_zero, List.set_cons_succ]
  refine wpAnyH_take (i := 10) (oi := ⟨some 33, Op.fieldAddr _ (Operand.tmp 6) 1, _, _, _, none⟩) (v := .pointer (some ⟨w.heap.size + 1 + 1, 1, none⟩)) rfl (by kernel_rfl) (by kernel_rfl) (by kernel_rfl) (fun _ _ _ h => h) (Or.inl ⟨by rfl, ?_⟩) hHeld ?_
  · intro w' hSw
    skip
    go_simp
  try simp only [Act.put, List.setIfInBounds_toArray, List.set_cons_zero, List.set_cons_succ]
  refine wpAnyH_ready (rs := [11]) (by kernel_rfl) (by simp) ?_
  refine AllReadyH.cons (o := ⟨none, Op.store _ (Operand.tmp 33) (Operand.tmp 31), _, _, _, none⟩) rfl (fun K hK => ?_) AllReadyH.nil
  have ki := (cell_of_row _ _ 1 _ _ _ (hI1.out.next ((Below.refl _ _).drew))).trans rfl
  have fi := frozen_of_row _ _ 1 _ _ (hI1.out.next ((Below.refl _ _).drew))
  go_simp
  obtain ⟨V2, hV⟩ : ∃ V, V = (w1.setCell ⟨w.heap.size + 1 + 1, 1, none⟩ (.int .u8 va)).drew := ⟨_, rfl⟩
  rw [← hV]
  have hst : OfS w s op a 0 true gw ws V2 := by rw [hV]; exact hHeld.set 1 _
  have hit : Hid (IRow w op va 0 0 V2) := Lib.hid (by rw [hV]; exact (hI1.out.next ((Below.refl _ _).drew)).a va)
  clear hV
  refine hK.out _ _ hst (fun hHeld => ?_)
  clear hK K ki fi
  try simp only [Act.put, List.setIfInBounds_toArray, List.set_cons_zero, List.set_cons_succ]
  refine wpAnyH_take (i := 12) (oi := ⟨some 8, Op.assign (Operand.tmp 32), _, _, _, none⟩) (v := .bool true) rfl (by kernel_rfl) (by kernel_rfl) (by kernel_rfl) (fun _ _ _ h => h) (Or.inl ⟨by rfl, ?_⟩) hHeld ?_
  · intro w' hSw
    skip
    go_simp
  try simp only [Act.put, List.setIfInBounds_toArray, List.set_cons_zero, List.set_cons_succ]
  refine wpAnyH_done (by kernel_rfl) ?_ _
  have hS2 := Lib.hid hHeld
  have hI2 := hit
  clear hHeld hit hst
  have kn2 := (cell_of_row _ _ 2 _ _ _ hS2.out.nm).trans rfl
  have kn3 := (cell_of_row _ _ 3 _ _ _ hS2.out.nm).trans rfl
  have kn4 := (cell_of_row _ _ 4 _ _ _ hS2.out.nm).trans rfl
  have kr0 := (cell_of_row _ _ 0 _ _ _ hS2.out.ret).trans rfl
  have fr0 := frozen_of_row _ _ 0 _ _ hS2.out.ret
  have ki0 := (cell_of_row _ _ 0 _ _ _ hI2.out).trans rfl
  have fi0 := frozen_of_row _ _ 0 _ _ hI2.out
  have kr1 := (cell_of_row _ _ 1 _ _ _ hS2.out.ret).trans rfl
  have fr1 := frozen_of_row _ _ 1 _ _ hS2.out.ret
  have ki1 := (cell_of_row _ _ 1 _ _ _ hI2.out).trans rfl
  have fi1 := frozen_of_row _ _ 1 _ _ hI2.out
  have kr2 := (cell_of_row _ _ 2 _ _ _ hS2.out.ret).trans rfl
  have fr2 := frozen_of_row _ _ 2 _ _ hS2.out.ret
  have ki2 := (cell_of_row _ _ 2 _ _ _ hI2.out).trans rfl
  have fi2 := frozen_of_row _ _ 2 _ _ hI2.out
  have kr3 := (cell_of_row _ _ 3 _ _ _ hS2.out.ret).trans rfl
  have fr3 := frozen_of_row _ _ 3 _ _ hS2.out.ret
  have ki3 := (cell_of_row _ _ 3 _ _ _ hI2.out).trans rfl
  have fi3 := frozen_of_row _ _ 3 _ _ hI2.out
  have kw := hS2.out.ws 2 xi hxi.out
  go_wp2_with fail
  refine (Hi.out _).mono ?_
  rintro e w5 ⟨⟨v, bb, rfl, hq, hv0, hv1⟩, hb5⟩
  obtain ⟨rfl, rfl⟩ : bb = true ∧ v = vi := by
    cases bb
    · cases hq
    · exact ⟨rfl, (Option.some.inj hq).symm⟩
  clear hq
  have wv : IntKind.i32.wrap v = v := IntWalk.i32_in _ (by omega)
  clear kw kn2 kn3 kn4 kr0 kr1 kr2 kr3 fr0 fr1 fr2 fr3 ki0 ki1 ki2 ki3 fi0 fi1 fi2 fi3
  have hS3 := Lib.hid (hS2.out.next hb5)
  have hI3 := Lib.hid (hI2.out.next hb5)
  clear hb5
  have kn2 := (cell_of_row _ _ 2 _ _ _ hS3.out.nm).trans rfl
  have kn3 := (cell_of_row _ _ 3 _ _ _ hS3.out.nm).trans rfl
  have kn4 := (cell_of_row _ _ 4 _ _ _ hS3.out.nm).trans rfl
  have kr0 := (cell_of_row _ _ 0 _ _ _ hS3.out.ret).trans rfl
  have fr0 := frozen_of_row _ _ 0 _ _ hS3.out.ret
  have ki0 := (cell_of_row _ _ 0 _ _ _ hI3.out).trans rfl
  have fi0 := frozen_of_row _ _ 0 _ _ hI3.out
  have kr1 := (cell_of_row _ _ 1 _ _ _ hS3.out.ret).trans rfl
  have fr1 := frozen_of_row _ _ 1 _ _ hS3.out.ret
  have ki1 := (cell_of_row _ _ 1 _ _ _ hI3.out).trans rfl
  have fi1 := frozen_of_row _ _ 1 _ _ hI3.out
  have kr2 := (cell_of_row _ _ 2 _ _ _ hS3.out.ret).trans rfl
  have fr2 := frozen_of_row _ _ 2 _ _ hS3.out.ret
  have ki2 := (cell_of_row _ _ 2 _ _ _ hI3.out).trans rfl
  have fi2 := frozen_of_row _ _ 2 _ _ hI3.out
  have kr3 := (cell_of_row _ _ 3 _ _ _ hS3.out.ret).trans rfl
  have fr3 := frozen_of_row _ _ 3 _ _ hS3.out.ret
  have ki3 := (cell_of_row _ _ 3 _ _ _ hI3.out).trans rfl
  have fi3 := frozen_of_row _ _ 3 _ _ hI3.out
  go_wp2_with fail
  refine (Hm.out _).mono ?_
  rintro e w6 ⟨rfl, hb6⟩
  clear kn2 kn3 kn4 kr0 kr1 kr2 kr3 fr0 fr1 fr2 fr3 ki0 ki1 ki2 ki3 fi0 fi1 fi2 fi3
  have hS4 := Lib.hid ((hS3.out.set 3 (.int .i32 v)).next hb6)
  have hI4 := Lib.hid ((hI3.out.imm v).next hb6)
  clear hb6
  have kn2 := (cell_of_row _ _ 2 _ _ _ hS4.out.nm).trans rfl
  have kn3 := (cell_of_row _ _ 3 _ _ _ hS4.out.nm).trans rfl
  have kn4 := (cell_of_row _ _ 4 _ _ _ hS4.out.nm).trans rfl
  have kr0 := (cell_of_row _ _ 0 _ _ _ hS4.out.ret).trans rfl
  have fr0 := frozen_of_row _ _ 0 _ _ hS4.out.ret
  have ki0 := (cell_of_row _ _ 0 _ _ _ hI4.out).trans rfl
  have fi0 := frozen_of_row _ _ 0 _ _ hI4.out
  have kr1 := (cell_of_row _ _ 1 _ _ _ hS4.out.ret).trans rfl
  have fr1 := frozen_of_row _ _ 1 _ _ hS4.out.ret
  have ki1 := (cell_of_row _ _ 1 _ _ _ hI4.out).trans rfl
  have fi1 := frozen_of_row _ _ 1 _ _ hI4.out
  have kr2 := (cell_of_row _ _ 2 _ _ _ hS4.out.ret).trans rfl
  have fr2 := frozen_of_row _ _ 2 _ _ hS4.out.ret
  have ki2 := (cell_of_row _ _ 2 _ _ _ hI4.out).trans rfl
  have fi2 := frozen_of_row _ _ 2 _ _ hI4.out
  have kr3 := (cell_of_row _ _ 3 _ _ _ hS4.out.ret).trans rfl
  have fr3 := frozen_of_row _ _ 3 _ _ hS4.out.ret
  have ki3 := (cell_of_row _ _ 3 _ _ _ hI4.out).trans rfl
  have fi3 := frozen_of_row _ _ 3 _ _ hI4.out
  go_wp2_with fail
  refine bodyPost_ret (v := .tuple #[.agg #[.int .u8 op, .int .u8 va, .int .u8 0, .int .i32 v], .int .i64 0]) (by simp [results, Tryz.results76, go_sem, World.cell?_setCell_same', kr0, kr1, kr2, kr3]) rfl ⟨rfl, ?_⟩
  have hbl := hS4.out.below
  repeat (first | exact hbl | (refine Below.setCell ?_ (by first | (show w.heap.size ≤ w.heap.size + 1; omega) | (show w.heap.size ≤ w.heap.size + 1 + 1; omega)) _))

set_option maxHeartbeats 16000000 in
theorem of_ok_fail_no (s : ByteArray) (op a b : Int) (imm : Bool) (gw cap N : Nat) (ws : List (List UInt8)) (w : World) (hN : ws.length = N) (hw : ∀ j x, ws[j]? = some x → w.cell? ⟨gw, j, none⟩ = some (.string ⟨x.toArray⟩)) (hgw : gw < w.heap.size) (hop : 0 ≤ op ∧ op < 256)
    (HW : Hid (∀ W, Calls Tryz.prog 91 #[.agg #[.string s, .int .u8 op, .int .u8 a, .int .u8 b, .bool imm]] W fun e w' => e = .returned (.int .i64 (N : Int)) ∧ Below W.heap.size W w')) (va : Int) (ha : ¬ a = 0) (xa : List UInt8) (hxa : ws[1]? = some xa) (hra : regF xa a = some va) (hb : ¬ b = 0) (xb : List UInt8) (hxb : ws[2]? = some xb) (hrb : regF xb b = none) :
    Calls Tryz.prog 76 #[.agg #[.string s, .int .u8 op, .int .u8 a, .int .u8 b, .bool imm], .slice (some ⟨gw, 0, none⟩) N cap] w fun e w' => e = .returned (.tuple #[(insR 0 0 0 0), .int .i64 40]) ∧ Below w.heap.size w w' := by
  unfold insR
  have e1 : ((N : Int) != (N : Int)) = false := by simp
  have qa : (a != 0) = true := by simp [ha]
  have i1 : (1 : Int) < (N : Int) := by have := (List.getElem?_eq_some_iff.1 hxa).1; omega
  have hxa := Lib.hid hxa
  have Ha := Lib.hid fun W => reg_c xa a W
  rw [hra] at Ha
  simp only [Option.getD_some, Option.getD_none, Option.isSome_some, Option.isSome_none] at Ha
  have qb : (b != 0) = true := by simp [hb]
  have i2 : (2 : Int) < (N : Int) := by have := (List.getElem?_eq_some_iff.1 hxb).1; omega
  have hxb := Lib.hid hxb
  have Hb := Lib.hid fun W => reg_c xb b W
  rw [hrb] at Hb
  simp only [Option.getD_some, Option.getD_none, Option.isSome_some, Option.isSome_none] at Hb
  have hS0 : Hid (OfS w s op a b imm gw ws (((w.alloc (.cells #[.string s, .int .u8 op, .int .u8 a, .int .u8 b, .bool imm] 104)).alloc (.cells #[.int .u8 0, .int .u8 0, .int .u8 0, .int .i32 0] 67)).alloc (.cells #[.int .u8 op, .int .u8 0, .int .u8 0, .int .i32 0] 67))) :=
    Lib.hid ⟨heap_oldT (heap_oldT (heap_newT rfl)), heap_oldT (heap_newT (by simp)), fun j x hx => ((((Below.refl w.heap.size w).alloc (Nat.le_refl _) _).alloc (by simp) _).alloc (by simp; omega) _ |>.cell (p := ⟨gw, j, none⟩) hgw).trans (hw j x hx), (((Below.refl w.heap.size w).alloc (Nat.le_refl _) _).alloc (by simp) _).alloc (by simp; omega) _, by simp, hgw⟩
  have hI0 : Hid (IRow w op 0 0 0 (((w.alloc (.cells #[.string s, .int .u8 op, .int .u8 a, .int .u8 b, .bool imm] 104)).alloc (.cells #[.int .u8 0, .int .u8 0, .int .u8 0, .int .i32 0] 67)).alloc (.cells #[.int .u8 op, .int .u8 0, .int .u8 0, .int .i32 0] 67))) :=
    Lib.hid (heap_newT (by simp))
  clear hw
  go_enter Tryz.func76, Tryz.ntmps76
  go_wp2_with fail
  refine (HW.out _).mono ?_
  rintro e w1 ⟨rfl, hb1⟩
  have hS1 := Lib.hid (hS0.out.next hb1)
  have hI1 := Lib.hid (hI0.out.next hb1)
  clear hb1 hS0 hI0
  have kn2 := (cell_of_row _ _ 2 _ _ _ hS1.out.nm).trans rfl
  have kn3 := (cell_of_row _ _ 3 _ _ _ hS1.out.nm).trans rfl
  have kn4 := (cell_of_row _ _ 4 _ _ _ hS1.out.nm).trans rfl
  have kr0 := (cell_of_row _ _ 0 _ _ _ hS1.out.ret).trans rfl
  have fr0 := frozen_of_row _ _ 0 _ _ hS1.out.ret
  have ki0 := (cell_of_row _ _ 0 _ _ _ hI1.out).trans rfl
  have fi0 := frozen_of_row _ _ 0 _ _ hI1.out
  have kr1 := (cell_of_row _ _ 1 _ _ _ hS1.out.ret).trans rfl
  have fr1 := frozen_of_row _ _ 1 _ _ hS1.out.ret
  have ki1 := (cell_of_row _ _ 1 _ _ _ hI1.out).trans rfl
  have fi1 := frozen_of_row _ _ 1 _ _ hI1.out
  have kr2 := (cell_of_row _ _ 2 _ _ _ hS1.out.ret).trans rfl
  have fr2 := frozen_of_row _ _ 2 _ _ hS1.out.ret
  have ki2 := (cell_of_row _ _ 2 _ _ _ hI1.out).trans rfl
  have fi2 := frozen_of_row _ _ 2 _ _ hI1.out
  have kr3 := (cell_of_row _ _ 3 _ _ _ hS1.out.ret).trans rfl
  have fr3 := frozen_of_row _ _ 3 _ _ hS1.out.ret
  have ki3 := (cell_of_row _ _ 3 _ _ _ hI1.out).trans rfl
  have fi3 := frozen_of_row _ _ 3 _ _ hI1.out
  go_wp2_with fail
  clear kn2 kn3 kn4 kr0 kr1 kr2 kr3 fr0 fr1 fr2 fr3 ki0 ki1 ki2 ki3 fi0 fi1 fi2 fi3
  have hSd := hS1.out.next ((Below.refl _ _).drew)
  refine wp_region_held_drew (S := fun w' => OfS w s op a b imm gw ws w') (by kernel_rfl) hSd (fun hHeld => ?_)
  clear hSd
  refine wpAnyH_take (i := 0) (oi := ⟨some 24, Op.move (Operand.tmp 1), _, _, _, none⟩) (v := .slice (some ⟨gw, 0, none⟩) N cap) rfl (by kernel_rfl) (by kernel_rfl) (by kernel_rfl) (fun _ _ _ h => h) (Or.inl ⟨by rfl, ?_⟩) hHeld ?_
  · intro w' hSw
    skip
    go_simp
  try simp only [Act.put, List.setIfInBounds_toArray, List.set_cons_zero, List.set_cons_succ]
  refine wpAnyH_take (i := 1) (oi := ⟨some 25, Op.move (Operand.tmp 7), _, _, _, none⟩) (v := .int .i64 1) rfl (by kernel_rfl) (by kernel_rfl) (by kernel_rfl) (fun _ _ _ h => h) (Or.inl ⟨by rfl, ?_⟩) hHeld ?_
  · intro w' hSw
    skip
    go_simp
  try simp only [Act.put, List.setIfInBounds_toArray, List.set_cons_zero, List.set_cons_succ]
  refine wpAnyH_take (i := 2) (oi := ⟨some 26, Op.indexAddr _ (Operand.tmp 24) (Operand.tmp 25), _, _, _, none⟩) (v := .pointer (some ⟨gw, 1, none⟩)) rfl (by kernel_rfl) (by kernel_rfl) (by kernel_rfl) (fun _ _ _ h => h) (Or.inl ⟨by rfl, ?_⟩) hHeld ?_
  · intro w' hSw
    skip
    go_simp
  try simp only [Act.put, List.setIfInBounds_toArray, List.set_cons_zero, List.set_cons_succ]
  refine wpAnyH_take (i := 3) (oi := ⟨some 27, Op.load _ (Operand.tmp 26), _, _, _, none⟩) (v := .string ⟨xa.toArray⟩) rfl (by kernel_rfl) (by kernel_rfl) (by kernel_rfl) (fun _ _ _ h => h) (Or.inl ⟨by rfl, ?_⟩) hHeld ?_
  · intro w' hSw
    have k0 := hSw.ws 1 xa hxa.out
    go_simp
  try simp only [Act.put, List.setIfInBounds_toArray, List.set_cons_zero, List.set_cons_succ]
  refine wpAnyH_take (i := 4) (oi := ⟨some 28, Op.fieldAddr _ (Operand.tmp 2) 2, _, _, _, none⟩) (v := .pointer (some ⟨w.heap.size, 2, none⟩)) rfl (by kernel_rfl) (by kernel_rfl) (by kernel_rfl) (fun _ _ _ h => h) (Or.inl ⟨by rfl, ?_⟩) hHeld ?_
  · intro w' hSw
    skip
    go_simp
  try simp only [Act.put, List.setIfInBounds_toArray, List.set_cons_zero, List.set_cons_succ]
  refine wpAnyH_take (i := 5) (oi := ⟨some 29, Op.load _ (Operand.tmp 28), _, _, _, none⟩) (v := .int .u8 a) rfl (by kernel_rfl) (by kernel_rfl) (by kernel_rfl) (fun _ _ _ h => h) (Or.inl ⟨by rfl, ?_⟩) hHeld ?_
  · intro w' hSw
    have k0 := (cell_of_row w' _ 2 _ _ _ hSw.nm).trans rfl
    go_simp
  try simp only [Act.put, List.setIfInBounds_toArray, List.set_cons_zero, List.set_cons_succ]
  refine wpAnyH_ready (rs := [6]) (by kernel_rfl) (by simp) ?_
  refine AllReadyH.cons (o := ⟨some 30, Op.call { callee := Callee.value (Operand.func _), args := #[Operand.tmp 27, Operand.tmp 29], argTypes := _ }, _, _, _, none⟩) rfl (fun K hK => ?_) AllReadyH.nil
  go_simp
  go_at_call 92
  refine (Ha.out _).mono ?_
  rintro e wq ⟨rfl, rfl⟩
  refine hK.out _ _ hHeld (fun hHeld => ?_)
  clear hK K
  try simp only [Act.put, List.setIfInBounds_toArray, List.set_cons_zero, List.set_cons_succ]
  refine wpAnyH_take (i := 7) (oi := ⟨some 23, Op.move (Operand.tmp 30), _, _, _, none⟩) (v := .tuple #[.int .u8 va, .bool true]) rfl (by kernel_rfl) (by kernel_rfl) (by kernel_rfl) (fun _ _ _ h => h) (Or.inl ⟨by rfl, ?_⟩) hHeld ?_
  · intro w' hSw
    skip
    go_simp
  try simp only [Act.put, List.setIfInBounds_toArray, List.set_cons_zero, List.set_cons_succ]
  refine wpAnyH_take (i := 8) (oi := ⟨some 31, Op.extract (Operand.tmp 23) 0, _, _, _, none⟩) (v := .int .u8 va) rfl (by kernel_rfl) (by kernel_rfl) (by kernel_rfl) (fun _ _ _ h => h) (Or.inl ⟨by rfl, ?_⟩) hHeld ?_
  · intro w' hSw
    skip
    go_simp
  try simp only [Act.put, List.setIfInBounds_toArray, List.set_cons_zero, List.set_cons_succ]
  refine wpAnyH_take (i := 9) (oi := ⟨some 32, Op.extract (Operand.tmp 23) 1, _, _, _, none⟩) (v := .bool true) rfl (by kernel_rfl) (by kernel_rfl) (by kernel_rfl) (fun _ _ _ h => h) (Or.inl ⟨by rfl, ?_⟩) hHeld ?_
  · intro w' hSw
    skip
    go_simp
  try simp only [Act.put, List.setIfInBounds_toArray, List.set_cons_zero, List.set_cons_succ]
  refine wpAnyH_take (i := 10) (oi := ⟨some 33, Op.fieldAddr _ (Operand.tmp 6) 1, _, _, _, none⟩) (v := .pointer (some ⟨w.heap.size + 1 + 1, 1, none⟩)) rfl (by kernel_rfl) (by kernel_rfl) (by kernel_rfl) (fun _ _ _ h => h) (Or.inl ⟨by rfl, ?_⟩) hHeld ?_
  · intro w' hSw
    skip
    go_simp
  try simp only [Act.put, List.setIfInBounds_toArray, List.set_cons_zero, List.set_cons_succ]
  refine wpAnyH_ready (rs := [11]) (by kernel_rfl) (by simp) ?_
  refine AllReadyH.cons (o := ⟨none, Op.store _ (Operand.tmp 33) (Operand.tmp 31), _, _, _, none⟩) rfl (fun K hK => ?_) AllReadyH.nil
  have ki := (cell_of_row _ _ 1 _ _ _ (hI1.out.next ((Below.refl _ _).drew))).trans rfl
  have fi := frozen_of_row _ _ 1 _ _ (hI1.out.next ((Below.refl _ _).drew))
  go_simp
  obtain ⟨V2, hV⟩ : ∃ V, V = (w1.setCell ⟨w.heap.size + 1 + 1, 1, none⟩ (.int .u8 va)).drew := ⟨_, rfl⟩
  rw [← hV]
  have hst : OfS w s op a b imm gw ws V2 := by rw [hV]; exact hHeld.set 1 _
  have hit : Hid (IRow w op va 0 0 V2) := Lib.hid (by rw [hV]; exact (hI1.out.next ((Below.refl _ _).drew)).a va)
  clear hV
  refine hK.out _ _ hst (fun hHeld => ?_)
  clear hK K ki fi
  try simp only [Act.put, List.setIfInBounds_toArray, List.set_cons_zero, List.set_cons_succ]
  refine wpAnyH_take (i := 12) (oi := ⟨some 8, Op.assign (Operand.tmp 32), _, _, _, none⟩) (v := .bool true) rfl (by kernel_rfl) (by kernel_rfl) (by kernel_rfl) (fun _ _ _ h => h) (Or.inl ⟨by rfl, ?_⟩) hHeld ?_
  · intro w' hSw
    skip
    go_simp
  try simp only [Act.put, List.setIfInBounds_toArray, List.set_cons_zero, List.set_cons_succ]
  refine wpAnyH_done (by kernel_rfl) ?_ _
  have hS2 := Lib.hid hHeld
  have hI2 := hit
  clear hHeld hit hst
  have kn2 := (cell_of_row _ _ 2 _ _ _ hS2.out.nm).trans rfl
  have kn3 := (cell_of_row _ _ 3 _ _ _ hS2.out.nm).trans rfl
  have kn4 := (cell_of_row _ _ 4 _ _ _ hS2.out.nm).trans rfl
  have kr0 := (cell_of_row _ _ 0 _ _ _ hS2.out.ret).trans rfl
  have fr0 := frozen_of_row _ _ 0 _ _ hS2.out.ret
  have ki0 := (cell_of_row _ _ 0 _ _ _ hI2.out).trans rfl
  have fi0 := frozen_of_row _ _ 0 _ _ hI2.out
  have kr1 := (cell_of_row _ _ 1 _ _ _ hS2.out.ret).trans rfl
  have fr1 := frozen_of_row _ _ 1 _ _ hS2.out.ret
  have ki1 := (cell_of_row _ _ 1 _ _ _ hI2.out).trans rfl
  have fi1 := frozen_of_row _ _ 1 _ _ hI2.out
  have kr2 := (cell_of_row _ _ 2 _ _ _ hS2.out.ret).trans rfl
  have fr2 := frozen_of_row _ _ 2 _ _ hS2.out.ret
  have ki2 := (cell_of_row _ _ 2 _ _ _ hI2.out).trans rfl
  have fi2 := frozen_of_row _ _ 2 _ _ hI2.out
  have kr3 := (cell_of_row _ _ 3 _ _ _ hS2.out.ret).trans rfl
  have fr3 := frozen_of_row _ _ 3 _ _ hS2.out.ret
  have ki3 := (cell_of_row _ _ 3 _ _ _ hI2.out).trans rfl
  have fi3 := frozen_of_row _ _ 3 _ _ hI2.out
  go_wp2_with fail
  clear kn2 kn3 kn4 kr0 kr1 kr2 kr3 fr0 fr1 fr2 fr3 ki0 ki1 ki2 ki3 fi0 fi1 fi2 fi3
  have hSd := hS2.out.next ((Below.refl _ _).drew)
  refine wp_region_held_drew (S := fun w' => OfS w s op a b imm gw ws w') (by kernel_rfl) hSd (fun hHeld => ?_)
  clear hSd
  refine wpAnyH_take (i := 0) (oi := ⟨some 43, Op.move (Operand.tmp 1), _, _, _, none⟩) (v := .slice (some ⟨gw, 0, none⟩) N cap) rfl (by kernel_rfl) (by kernel_rfl) (by kernel_rfl) (fun _ _ _ h => h) (Or.inl ⟨by rfl, ?_⟩) hHeld ?_
  · intro w' hSw
    skip
    go_simp
  try simp only [Act.put, List.setIfInBounds_toArray, List.set_cons_zero, List.set_cons_succ]
  refine wpAnyH_take (i := 1) (oi := ⟨some 44, Op.move (Operand.tmp 7), _, _, _, none⟩) (v := .int .i64 2) rfl (by kernel_rfl) (by kernel_rfl) (by kernel_rfl) (fun _ _ _ h => h) (Or.inl ⟨by rfl, ?_⟩) hHeld ?_
  · intro w' hSw
    skip
    go_simp
  try simp only [Act.put, List.setIfInBounds_toArray, List.set_cons_zero, List.set_cons_succ]
  refine wpAnyH_take (i := 2) (oi := ⟨some 45, Op.indexAddr _ (Operand.tmp 43) (Operand.tmp 44), _, _, _, none⟩) (v := .pointer (some ⟨gw, 2, none⟩)) rfl (by kernel_rfl) (by kernel_rfl) (by kernel_rfl) (fun _ _ _ h => h) (Or.inl ⟨by rfl, ?_⟩) hHeld ?_
  · intro w' hSw
    skip
    go_simp
  try simp only [Act.put, List.setIfInBounds_toArray, List.set_cons_zero, List.set_cons_succ]
  refine wpAnyH_take (i := 3) (oi := ⟨some 46, Op.load _ (Operand.tmp 45), _, _, _, none⟩) (v := .string ⟨xb.toArray⟩) rfl (by kernel_rfl) (by kernel_rfl) (by kernel_rfl) (fun _ _ _ h => h) (Or.inl ⟨by rfl, ?_⟩) hHeld ?_
  · intro w' hSw
    have k0 := hSw.ws 2 xb hxb.out
    go_simp
  try simp only [Act.put, List.setIfInBounds_toArray, List.set_cons_zero, List.set_cons_succ]
  refine wpAnyH_take (i := 4) (oi := ⟨some 47, Op.fieldAddr _ (Operand.tmp 2) 3, _, _, _, none⟩) (v := .pointer (some ⟨w.heap.size, 3, none⟩)) rfl (by kernel_rfl) (by kernel_rfl) (by kernel_rfl) (fun _ _ _ h => h) (Or.inl ⟨by rfl, ?_⟩) hHeld ?_
  · intro w' hSw
    skip
    go_simp
  try simp only [Act.put, List.setIfInBounds_toArray, List.set_cons_zero, List.set_cons_succ]
  refine wpAnyH_take (i := 5) (oi := ⟨some 48, Op.load _ (Operand.tmp 47), _, _, _, none⟩) (v := .int .u8 b) rfl (by kernel_rfl) (by kernel_rfl) (by kernel_rfl) (fun _ _ _ h => h) (Or.inl ⟨by rfl, ?_⟩) hHeld ?_
  · intro w' hSw
    have k0 := (cell_of_row w' _ 3 _ _ _ hSw.nm).trans rfl
    go_simp
  try simp only [Act.put, List.setIfInBounds_toArray, List.set_cons_zero, List.set_cons_succ]
  refine wpAnyH_ready (rs := [6]) (by kernel_rfl) (by simp) ?_
  refine AllReadyH.cons (o := ⟨some 49, Op.call { callee := Callee.value (Operand.func _), args := #[Operand.tmp 46, Operand.tmp 48], argTypes := _ }, _, _, _, none⟩) rfl (fun K hK => ?_) AllReadyH.nil
  go_simp
  go_at_call 92
  refine (Hb.out _).mono ?_
  rintro e wq ⟨rfl, rfl⟩
  refine hK.out _ _ hHeld (fun hHeld => ?_)
  clear hK K
  try simp only [Act.put, List.setIfInBounds_toArray, List.set_cons_zero, List.set_cons_succ]
  refine wpAnyH_take (i := 7) (oi := ⟨some 42, Op.move (Operand.tmp 49), _, _, _, none⟩) (v := .tuple #[.int .u8 0, .bool false]) rfl (by kernel_rfl) (by kernel_rfl) (by kernel_rfl) (fun _ _ _ h => h) (Or.inl ⟨by rfl, ?_⟩) hHeld ?_
  · intro w' hSw
    skip
    go_simp
  try simp only [Act.put, List.setIfInBounds_toArray, List.set_cons_zero, List.set_cons_succ]
  refine wpAnyH_take (i := 8) (oi := ⟨some 50, Op.extract (Operand.tmp 42) 0, _, _, _, none⟩) (v := .int .u8 0) rfl (by kernel_rfl) (by kernel_rfl) (by kernel_rfl) (fun _ _ _ h => h) (Or.inl ⟨by rfl, ?_⟩) hHeld ?_
  · intro w' hSw
    skip
    go_simp
  try simp only [Act.put, List.setIfInBounds_toArray, List.set_cons_zero, List.set_cons_succ]
  refine wpAnyH_take (i := 9) (oi := ⟨some 51, Op.extract (Operand.tmp 42) 1, _, _, _, none⟩) (v := .bool false) rfl (by kernel_rfl) (by kernel_rfl) (by kernel_rfl) (fun _ _ _ h => h) (Or.inl ⟨by rfl, ?_⟩) hHeld ?_
  · intro w' hSw
    skip
    go_simp
  try simp only [Act.put, List.setIfInBounds_toArray, List.set_cons_zero, List.set_cons_succ]
  refine wpAnyH_take (i := 10) (oi := ⟨some 52, Op.fieldAddr _ (Operand.tmp 6) 2, _, _, _, none⟩) (v := .pointer (some ⟨w.heap.size + 1 + 1, 2, none⟩)) rfl (by kernel_rfl) (by kernel_rfl) (by kernel_rfl) (fun _ _ _ h => h) (Or.inl ⟨by rfl, ?_⟩) hHeld ?_
  · intro w' hSw
    skip
    go_simp
  try simp only [Act.put, List.setIfInBounds_toArray, List.set_cons_zero, List.set_cons_succ]
  refine wpAnyH_ready (rs := [11]) (by kernel_rfl) (by simp) ?_
  refine AllReadyH.cons (o := ⟨none, Op.store _ (Operand.tmp 52) (Operand.tmp 50), _, _, _, none⟩) rfl (fun K hK => ?_) AllReadyH.nil
  have ki := (cell_of_row _ _ 2 _ _ _ (hI2.out.next ((Below.refl _ _).drew))).trans rfl
  have fi := frozen_of_row _ _ 2 _ _ (hI2.out.next ((Below.refl _ _).drew))
  go_simp
  obtain ⟨V3, hV⟩ : ∃ V, V = (V2.setCell ⟨w.heap.size + 1 + 1, 2, none⟩ (.int .u8 0)).drew := ⟨_, rfl⟩
  rw [← hV]
  have hst : OfS w s op a b imm gw ws V3 := by rw [hV]; exact hHeld.set 2 _
  have hit : Hid (IRow w op va 0 0 V3) := Lib.hid (by rw [hV]; exact (hI2.out.next ((Below.refl _ _).drew)).b 0)
  clear hV
  refine hK.out _ _ hst (fun hHeld => ?_)
  clear hK K ki fi
  try simp only [Act.put, List.setIfInBounds_toArray, List.set_cons_zero, List.set_cons_succ]
  refine wpAnyH_take (i := 12) (oi := ⟨some 8, Op.assign (Operand.tmp 51), _, _, _, none⟩) (v := .bool false) rfl (by kernel_rfl) (by kernel_rfl) (by kernel_rfl) (fun _ _ _ h => h) (Or.inl ⟨by rfl, ?_⟩) hHeld ?_
  · intro w' hSw
    skip
    go_simp
  try simp only [Act.put, List.setIfInBounds_toArray, List.set_cons_zero, List.set_cons_succ]
  refine wpAnyH_done (by kernel_rfl) ?_ _
  have hS3 := Lib.hid hHeld
  have hI3 := hit
  clear hHeld hit hst
  have kn2 := (cell_of_row _ _ 2 _ _ _ hS3.out.nm).trans rfl
  have kn3 := (cell_of_row _ _ 3 _ _ _ hS3.out.nm).trans rfl
  have kn4 := (cell_of_row _ _ 4 _ _ _ hS3.out.nm).trans rfl
  have kr0 := (cell_of_row _ _ 0 _ _ _ hS3.out.ret).trans rfl
  have fr0 := frozen_of_row _ _ 0 _ _ hS3.out.ret
  have ki0 := (cell_of_row _ _ 0 _ _ _ hI3.out).trans rfl
  have fi0 := frozen_of_row _ _ 0 _ _ hI3.out
  have kr1 := (cell_of_row _ _ 1 _ _ _ hS3.out.ret).trans rfl
  have fr1 := frozen_of_row _ _ 1 _ _ hS3.out.ret
  have ki1 := (cell_of_row _ _ 1 _ _ _ hI3.out).trans rfl
  have fi1 := frozen_of_row _ _ 1 _ _ hI3.out
  have kr2 := (cell_of_row _ _ 2 _ _ _ hS3.out.ret).trans rfl
  have fr2 := frozen_of_row _ _ 2 _ _ hS3.out.ret
  have ki2 := (cell_of_row _ _ 2 _ _ _ hI3.out).trans rfl
  have fi2 := frozen_of_row _ _ 2 _ _ hI3.out
  have kr3 := (cell_of_row _ _ 3 _ _ _ hS3.out.ret).trans rfl
  have fr3 := frozen_of_row _ _ 3 _ _ hS3.out.ret
  have ki3 := (cell_of_row _ _ 3 _ _ _ hI3.out).trans rfl
  have fi3 := frozen_of_row _ _ 3 _ _ hI3.out
  go_wp2_with fail
  refine bodyPost_ret (v := .tuple #[.agg #[.int .u8 0, .int .u8 0, .int .u8 0, .int .i32 0], .int .i64 40]) (by simp [results, Tryz.results76, go_sem, World.cell?_setCell_same', kr0, kr1, kr2, kr3]) rfl ⟨rfl, ?_⟩
  have hbl := hS3.out.below
  repeat (first | exact hbl | (refine Below.setCell ?_ (by first | (show w.heap.size ≤ w.heap.size + 1; omega) | (show w.heap.size ≤ w.heap.size + 1 + 1; omega)) _))

set_option maxHeartbeats 16000000 in
theorem of_ok_ok_no (s : ByteArray) (op a b : Int) (imm : Bool) (gw cap N : Nat) (ws : List (List UInt8)) (w : World) (hN : ws.length = N) (hw : ∀ j x, ws[j]? = some x → w.cell? ⟨gw, j, none⟩ = some (.string ⟨x.toArray⟩)) (hgw : gw < w.heap.size) (hop : 0 ≤ op ∧ op < 256)
    (HW : Hid (∀ W, Calls Tryz.prog 91 #[.agg #[.string s, .int .u8 op, .int .u8 a, .int .u8 b, .bool imm]] W fun e w' => e = .returned (.int .i64 (N : Int)) ∧ Below W.heap.size W w')) (vb : Int) (va : Int) (ha : ¬ a = 0) (xa : List UInt8) (hxa : ws[1]? = some xa) (hra : regF xa a = some va) (hb : ¬ b = 0) (xb : List UInt8) (hxb : ws[2]? = some xb) (hrb : regF xb b = some vb) (him : imm = false) :
    Calls Tryz.prog 76 #[.agg #[.string s, .int .u8 op, .int .u8 a, .int .u8 b, .bool imm], .slice (some ⟨gw, 0, none⟩) N cap] w fun e w' => e = .returned (.tuple #[(insR op va vb 0), .int .i64 0]) ∧ Below w.heap.size w w' := by
  unfold insR
  have e1 : ((N : Int) != (N : Int)) = false := by simp
  have qa : (a != 0) = true := by simp [ha]
  have i1 : (1 : Int) < (N : Int) := by have := (List.getElem?_eq_some_iff.1 hxa).1; omega
  have hxa := Lib.hid hxa
  have Ha := Lib.hid fun W => reg_c xa a W
  rw [hra] at Ha
  simp only [Option.getD_some, Option.getD_none, Option.isSome_some, Option.isSome_none] at Ha
  have qb : (b != 0) = true := by simp [hb]
  have i2 : (2 : Int) < (N : Int) := by have := (List.getElem?_eq_some_iff.1 hxb).1; omega
  have hxb := Lib.hid hxb
  have Hb := Lib.hid fun W => reg_c xb b W
  rw [hrb] at Hb
  simp only [Option.getD_some, Option.getD_none, Option.isSome_some, Option.isSome_none] at Hb
  subst him
  have hS0 : Hid (OfS w s op a b false gw ws (((w.alloc (.cells #[.string s, .int .u8 op, .int .u8 a, .int .u8 b, .bool false] 104)).alloc (.cells #[.int .u8 0, .int .u8 0, .int .u8 0, .int .i32 0] 67)).alloc (.cells #[.int .u8 op, .int .u8 0, .int .u8 0, .int .i32 0] 67))) :=
    Lib.hid ⟨heap_oldT (heap_oldT (heap_newT rfl)), heap_oldT (heap_newT (by simp)), fun j x hx => ((((Below.refl w.heap.size w).alloc (Nat.le_refl _) _).alloc (by simp) _).alloc (by simp; omega) _ |>.cell (p := ⟨gw, j, none⟩) hgw).trans (hw j x hx), (((Below.refl w.heap.size w).alloc (Nat.le_refl _) _).alloc (by simp) _).alloc (by simp; omega) _, by simp, hgw⟩
  have hI0 : Hid (IRow w op 0 0 0 (((w.alloc (.cells #[.string s, .int .u8 op, .int .u8 a, .int .u8 b, .bool false] 104)).alloc (.cells #[.int .u8 0, .int .u8 0, .int .u8 0, .int .i32 0] 67)).alloc (.cells #[.int .u8 op, .int .u8 0, .int .u8 0, .int .i32 0] 67))) :=
    Lib.hid (heap_newT (by simp))
  clear hw
  go_enter Tryz.func76, Tryz.ntmps76
  go_wp2_with fail
  refine (HW.out _).mono ?_
  rintro e w1 ⟨rfl, hb1⟩
  have hS1 := Lib.hid (hS0.out.next hb1)
  have hI1 := Lib.hid (hI0.out.next hb1)
  clear hb1 hS0 hI0
  have kn2 := (cell_of_row _ _ 2 _ _ _ hS1.out.nm).trans rfl
  have kn3 := (cell_of_row _ _ 3 _ _ _ hS1.out.nm).trans rfl
  have kn4 := (cell_of_row _ _ 4 _ _ _ hS1.out.nm).trans rfl
  have kr0 := (cell_of_row _ _ 0 _ _ _ hS1.out.ret).trans rfl
  have fr0 := frozen_of_row _ _ 0 _ _ hS1.out.ret
  have ki0 := (cell_of_row _ _ 0 _ _ _ hI1.out).trans rfl
  have fi0 := frozen_of_row _ _ 0 _ _ hI1.out
  have kr1 := (cell_of_row _ _ 1 _ _ _ hS1.out.ret).trans rfl
  have fr1 := frozen_of_row _ _ 1 _ _ hS1.out.ret
  have ki1 := (cell_of_row _ _ 1 _ _ _ hI1.out).trans rfl
  have fi1 := frozen_of_row _ _ 1 _ _ hI1.out
  have kr2 := (cell_of_row _ _ 2 _ _ _ hS1.out.ret).trans rfl
  have fr2 := frozen_of_row _ _ 2 _ _ hS1.out.ret
  have ki2 := (cell_of_row _ _ 2 _ _ _ hI1.out).trans rfl
  have fi2 := frozen_of_row _ _ 2 _ _ hI1.out
  have kr3 := (cell_of_row _ _ 3 _ _ _ hS1.out.ret).trans rfl
  have fr3 := frozen_of_row _ _ 3 _ _ hS1.out.ret
  have ki3 := (cell_of_row _ _ 3 _ _ _ hI1.out).trans rfl
  have fi3 := frozen_of_row _ _ 3 _ _ hI1.out
  go_wp2_with fail
  clear kn2 kn3 kn4 kr0 kr1 kr2 kr3 fr0 fr1 fr2 fr3 ki0 ki1 ki2 ki3 fi0 fi1 fi2 fi3
  have hSd := hS1.out.next ((Below.refl _ _).drew)
  refine wp_region_held_drew (S := fun w' => OfS w s op a b false gw ws w') (by kernel_rfl) hSd (fun hHeld => ?_)
  clear hSd
  refine wpAnyH_take (i := 0) (oi := ⟨some 24, Op.move (Operand.tmp 1), _, _, _, none⟩) (v := .slice (some ⟨gw, 0, none⟩) N cap) rfl (by kernel_rfl) (by kernel_rfl) (by kernel_rfl) (fun _ _ _ h => h) (Or.inl ⟨by rfl, ?_⟩) hHeld ?_
  · intro w' hSw
    skip
    go_simp
  try simp only [Act.put, List.setIfInBounds_toArray, List.set_cons_zero, List.set_cons_succ]
  refine wpAnyH_take (i := 1) (oi := ⟨some 25, Op.move (Operand.tmp 7), _, _, _, none⟩) (v := .int .i64 1) rfl (by kernel_rfl) (by kernel_rfl) (by kernel_rfl) (fun _ _ _ h => h) (Or.inl ⟨by rfl, ?_⟩) hHeld ?_
  · intro w' hSw
    skip
    go_simp
  try simp only [Act.put, List.setIfInBounds_toArray, List.set_cons_zero, List.set_cons_succ]
  refine wpAnyH_take (i := 2) (oi := ⟨some 26, Op.indexAddr _ (Operand.tmp 24) (Operand.tmp 25), _, _, _, none⟩) (v := .pointer (some ⟨gw, 1, none⟩)) rfl (by kernel_rfl) (by kernel_rfl) (by kernel_rfl) (fun _ _ _ h => h) (Or.inl ⟨by rfl, ?_⟩) hHeld ?_
  · intro w' hSw
    skip
    go_simp
  try simp only [Act.put, List.setIfInBounds_toArray, List.set_cons_zero, List.set_cons_succ]
  refine wpAnyH_take (i := 3) (oi := ⟨some 27, Op.load _ (Operand.tmp 26), _, _, _, none⟩) (v := .string ⟨xa.toArray⟩) rfl (by kernel_rfl) (by kernel_rfl) (by kernel_rfl) (fun _ _ _ h => h) (Or.inl ⟨by rfl, ?_⟩) hHeld ?_
  · intro w' hSw
    have k0 := hSw.ws 1 xa hxa.out
    go_simp
  try simp only [Act.put, List.setIfInBounds_toArray, List.set_cons_zero, List.set_cons_succ]
  refine wpAnyH_take (i := 4) (oi := ⟨some 28, Op.fieldAddr _ (Operand.tmp 2) 2, _, _, _, none⟩) (v := .pointer (some ⟨w.heap.size, 2, none⟩)) rfl (by kernel_rfl) (by kernel_rfl) (by kernel_rfl) (fun _ _ _ h => h) (Or.inl ⟨by rfl, ?_⟩) hHeld ?_
  · intro w' hSw
    skip
    go_simp
  try simp only [Act.put, List.setIfInBounds_toArray, List.set_cons_zero, List.set_cons_succ]
  refine wpAnyH_take (i := 5) (oi := ⟨some 29, Op.load _ (Operand.tmp 28), _, _, _, none⟩) (v := .int .u8 a) rfl (by kernel_rfl) (by kernel_rfl) (by kernel_rfl) (fun _ _ _ h => h) (Or.inl ⟨by rfl, ?_⟩) hHeld ?_
  · intro w' hSw
    have k0 := (cell_of_row w' _ 2 _ _ _ hSw.nm).trans rfl
    go_simp
  try simp only [Act.put, List.setIfInBounds_toArray, List.set_cons_zero, List.set_cons_succ]
  refine wpAnyH_ready (rs := [6]) (by kernel_rfl) (by simp) ?_
  refine AllReadyH.cons (o := ⟨some 30, Op.call { callee := Callee.value (Operand.func _), args := #[Operand.tmp 27, Operand.tmp 29], argTypes := _ }, _, _, _, none⟩) rfl (fun K hK => ?_) AllReadyH.nil
  go_simp
  go_at_call 92
  refine (Ha.out _).mono ?_
  rintro e wq ⟨rfl, rfl⟩
  refine hK.out _ _ hHeld (fun hHeld => ?_)
  clear hK K
  try simp only [Act.put, List.setIfInBounds_toArray, List.set_cons_zero, List.set_cons_succ]
  refine wpAnyH_take (i := 7) (oi := ⟨some 23, Op.move (Operand.tmp 30), _, _, _, none⟩) (v := .tuple #[.int .u8 va, .bool true]) rfl (by kernel_rfl) (by kernel_rfl) (by kernel_rfl) (fun _ _ _ h => h) (Or.inl ⟨by rfl, ?_⟩) hHeld ?_
  · intro w' hSw
    skip
    go_simp
  try simp only [Act.put, List.setIfInBounds_toArray, List.set_cons_zero, List.set_cons_succ]
  refine wpAnyH_take (i := 8) (oi := ⟨some 31, Op.extract (Operand.tmp 23) 0, _, _, _, none⟩) (v := .int .u8 va) rfl (by kernel_rfl) (by kernel_rfl) (by kernel_rfl) (fun _ _ _ h => h) (Or.inl ⟨by rfl, ?_⟩) hHeld ?_
  · intro w' hSw
    skip
    go_simp
  try simp only [Act.put, List.setIfInBounds_toArray, List.set_cons_zero, List.set_cons_succ]
  refine wpAnyH_take (i := 9) (oi := ⟨some 32, Op.extract (Operand.tmp 23) 1, _, _, _, none⟩) (v := .bool true) rfl (by kernel_rfl) (by kernel_rfl) (by kernel_rfl) (fun _ _ _ h => h) (Or.inl ⟨by rfl, ?_⟩) hHeld ?_
  · intro w' hSw
    skip
    go_simp
  try simp only [Act.put, List.setIfInBounds_toArray, List.set_cons_zero, List.set_cons_succ]
  refine wpAnyH_take (i := 10) (oi := ⟨some 33, Op.fieldAddr _ (Operand.tmp 6) 1, _, _, _, none⟩) (v := .pointer (some ⟨w.heap.size + 1 + 1, 1, none⟩)) rfl (by kernel_rfl) (by kernel_rfl) (by kernel_rfl) (fun _ _ _ h => h) (Or.inl ⟨by rfl, ?_⟩) hHeld ?_
  · intro w' hSw
    skip
    go_simp
  try simp only [Act.put, List.setIfInBounds_toArray, List.set_cons_zero, List.set_cons_succ]
  refine wpAnyH_ready (rs := [11]) (by kernel_rfl) (by simp) ?_
  refine AllReadyH.cons (o := ⟨none, Op.store _ (Operand.tmp 33) (Operand.tmp 31), _, _, _, none⟩) rfl (fun K hK => ?_) AllReadyH.nil
  have ki := (cell_of_row _ _ 1 _ _ _ (hI1.out.next ((Below.refl _ _).drew))).trans rfl
  have fi := frozen_of_row _ _ 1 _ _ (hI1.out.next ((Below.refl _ _).drew))
  go_simp
  obtain ⟨V2, hV⟩ : ∃ V, V = (w1.setCell ⟨w.heap.size + 1 + 1, 1, none⟩ (.int .u8 va)).drew := ⟨_, rfl⟩
  rw [← hV]
  have hst : OfS w s op a b false gw ws V2 := by rw [hV]; exact hHeld.set 1 _
  have hit : Hid (IRow w op va 0 0 V2) := Lib.hid (by rw [hV]; exact (hI1.out.next ((Below.refl _ _).drew)).a va)
  clear hV
  refine hK.out _ _ hst (fun hHeld => ?_)
  clear hK K ki fi
  try simp only [Act.put, List.setIfInBounds_toArray, List.set_cons_zero, List.set_cons_succ]
  refine wpAnyH_take (i := 12) (oi := ⟨some 8, Op.assign (Operand.tmp 32), _, _, _, none⟩) (v := .bool true) rfl (by kernel_rfl) (by kernel_rfl) (by kernel_rfl) (fun _ _ _ h => h) (Or.inl ⟨by rfl, ?_⟩) hHeld ?_
  · intro w' hSw
    skip
    go_simp
  try simp only [Act.put, List.setIfInBounds_toArray, List.set_cons_zero, List.set_cons_succ]
  refine wpAnyH_done (by kernel_rfl) ?_ _
  have hS2 := Lib.hid hHeld
  have hI2 := hit
  clear hHeld hit hst
  have kn2 := (cell_of_row _ _ 2 _ _ _ hS2.out.nm).trans rfl
  have kn3 := (cell_of_row _ _ 3 _ _ _ hS2.out.nm).trans rfl
  have kn4 := (cell_of_row _ _ 4 _ _ _ hS2.out.nm).trans rfl
  have kr0 := (cell_of_row _ _ 0 _ _ _ hS2.out.ret).trans rfl
  have fr0 := frozen_of_row _ _ 0 _ _ hS2.out.ret
  have ki0 := (cell_of_row _ _ 0 _ _ _ hI2.out).trans rfl
  have fi0 := frozen_of_row _ _ 0 _ _ hI2.out
  have kr1 := (cell_of_row _ _ 1 _ _ _ hS2.out.ret).trans rfl
  have fr1 := frozen_of_row _ _ 1 _ _ hS2.out.ret
  have ki1 := (cell_of_row _ _ 1 _ _ _ hI2.out).trans rfl
  have fi1 := frozen_of_row _ _ 1 _ _ hI2.out
  have kr2 := (cell_of_row _ _ 2 _ _ _ hS2.out.ret).trans rfl
  have fr2 := frozen_of_row _ _ 2 _ _ hS2.out.ret
  have ki2 := (cell_of_row _ _ 2 _ _ _ hI2.out).trans rfl
  have fi2 := frozen_of_row _ _ 2 _ _ hI2.out
  have kr3 := (cell_of_row _ _ 3 _ _ _ hS2.out.ret).trans rfl
  have fr3 := frozen_of_row _ _ 3 _ _ hS2.out.ret
  have ki3 := (cell_of_row _ _ 3 _ _ _ hI2.out).trans rfl
  have fi3 := frozen_of_row _ _ 3 _ _ hI2.out
  go_wp2_with fail
  clear kn2 kn3 kn4 kr0 kr1 kr2 kr3 fr0 fr1 fr2 fr3 ki0 ki1 ki2 ki3 fi0 fi1 fi2 fi3
  have hSd := hS2.out.next ((Below.refl _ _).drew)
  refine wp_region_held_drew (S := fun w' => OfS w s op a b false gw ws w') (by kernel_rfl) hSd (fun hHeld => ?_)
  clear hSd
  refine wpAnyH_take (i := 0) (oi := ⟨some 43, Op.move (Operand.tmp 1), _, _, _, none⟩) (v := .slice (some ⟨gw, 0, none⟩) N cap) rfl (by kernel_rfl) (by kernel_rfl) (by kernel_rfl) (fun _ _ _ h => h) (Or.inl ⟨by rfl, ?_⟩) hHeld ?_
  · intro w' hSw
    skip
    go_simp
  try simp only [Act.put, List.setIfInBounds_toArray, List.set_cons_zero, List.set_cons_succ]
  refine wpAnyH_take (i := 1) (oi := ⟨some 44, Op.move (Operand.tmp 7), _, _, _, none⟩) (v := .int .i64 2) rfl (by kernel_rfl) (by kernel_rfl) (by kernel_rfl) (fun _ _ _ h => h) (Or.inl ⟨by rfl, ?_⟩) hHeld ?_
  · intro w' hSw
    skip
    go_simp
  try simp only [Act.put, List.setIfInBounds_toArray, List.set_cons_zero, List.set_cons_succ]
  refine wpAnyH_take (i := 2) (oi := ⟨some 45, Op.indexAddr _ (Operand.tmp 43) (Operand.tmp 44), _, _, _, none⟩) (v := .pointer (some ⟨gw, 2, none⟩)) rfl (by kernel_rfl) (by kernel_rfl) (by kernel_rfl) (fun _ _ _ h => h) (Or.inl ⟨by rfl, ?_⟩) hHeld ?_
  · intro w' hSw
    skip
    go_simp
  try simp only [Act.put, List.setIfInBounds_toArray, List.set_cons_zero, List.set_cons_succ]
  refine wpAnyH_take (i := 3) (oi := ⟨some 46, Op.load _ (Operand.tmp 45), _, _, _, none⟩) (v := .string ⟨xb.toArray⟩) rfl (by kernel_rfl) (by kernel_rfl) (by kernel_rfl) (fun _ _ _ h => h) (Or.inl ⟨by rfl, ?_⟩) hHeld ?_
  · intro w' hSw
    have k0 := hSw.ws 2 xb hxb.out
    go_simp
  try simp only [Act.put, List.setIfInBounds_toArray, List.set_cons_zero, List.set_cons_succ]
  refine wpAnyH_take (i := 4) (oi := ⟨some 47, Op.fieldAddr _ (Operand.tmp 2) 3, _, _, _, none⟩) (v := .pointer (some ⟨w.heap.size, 3, none⟩)) rfl (by kernel_rfl) (by kernel_rfl) (by kernel_rfl) (fun _ _ _ h => h) (Or.inl ⟨by rfl, ?_⟩) hHeld ?_
  · intro w' hSw
    skip
    go_simp
  try simp only [Act.put, List.setIfInBounds_toArray, List.set_cons_zero, List.set_cons_succ]
  refine wpAnyH_take (i := 5) (oi := ⟨some 48, Op.load _ (Operand.tmp 47), _, _, _, none⟩) (v := .int .u8 b) rfl (by kernel_rfl) (by kernel_rfl) (by kernel_rfl) (fun _ _ _ h => h) (Or.inl ⟨by rfl, ?_⟩) hHeld ?_
  · intro w' hSw
    have k0 := (cell_of_row w' _ 3 _ _ _ hSw.nm).trans rfl
    go_simp
  try simp only [Act.put, List.setIfInBounds_toArray, List.set_cons_zero, List.set_cons_succ]
  refine wpAnyH_ready (rs := [6]) (by kernel_rfl) (by simp) ?_
  refine AllReadyH.cons (o := ⟨some 49, Op.call { callee := Callee.value (Operand.func _), args := #[Operand.tmp 46, Operand.tmp 48], argTypes := _ }, _, _, _, none⟩) rfl (fun K hK => ?_) AllReadyH.nil
  go_simp
  go_at_call 92
  refine (Hb.out _).mono ?_
  rintro e wq ⟨rfl, rfl⟩
  refine hK.out _ _ hHeld (fun hHeld => ?_)
  clear hK K
  try simp only [Act.put, List.setIfInBounds_toArray, List.set_cons_zero, List.set_cons_succ]
  refine wpAnyH_take (i := 7) (oi := ⟨some 42, Op.move (Operand.tmp 49), _, _, _, none⟩) (v := .tuple #[.int .u8 vb, .bool true]) rfl (by kernel_rfl) (by kernel_rfl) (by kernel_rfl) (fun _ _ _ h => h) (Or.inl ⟨by rfl, ?_⟩) hHeld ?_
  · intro w' hSw
    skip
    go_simp
  try simp only [Act.put, List.setIfInBounds_toArray, List.set_cons_zero, List.set_cons_succ]
  refine wpAnyH_take (i := 8) (oi := ⟨some 50, Op.extract (Operand.tmp 42) 0, _, _, _, none⟩) (v := .int .u8 vb) rfl (by kernel_rfl) (by kernel_rfl) (by kernel_rfl) (fun _ _ _ h => h) (Or.inl ⟨by rfl, ?_⟩) hHeld ?_
  · intro w' hSw
    skip
    go_simp
  try simp only [Act.put, List.setIfInBounds_toArray, List.set_cons_zero, List.set_cons_succ]
  refine wpAnyH_take (i := 9) (oi := ⟨some 51, Op.extract (Operand.tmp 42) 1, _, _, _, none⟩) (v := .bool true) rfl (by kernel_rfl) (by kernel_rfl) (by kernel_rfl) (fun _ _ _ h => h) (Or.inl ⟨by rfl, ?_⟩) hHeld ?_
  · intro w' hSw
    skip
    go_simp
  try simp only [Act.put, List.setIfInBounds_toArray, List.set_cons_zero, List.set_cons_succ]
  refine wpAnyH_take (i := 10) (oi := ⟨some 52, Op.fieldAddr _ (Operand.tmp 6) 2, _, _, _, none⟩) (v := .pointer (some ⟨w.heap.size + 1 + 1, 2, none⟩)) rfl (by kernel_rfl) (by kernel_rfl) (by kernel_rfl) (fun _ _ _ h => h) (Or.inl ⟨by rfl, ?_⟩) hHeld ?_
  · intro w' hSw
    skip
    go_simp
  try simp only [Act.put, List.setIfInBounds_toArray, List.set_cons_zero, List.set_cons_succ]
  refine wpAnyH_ready (rs := [11]) (by kernel_rfl) (by simp) ?_
  refine AllReadyH.cons (o := ⟨none, Op.store _ (Operand.tmp 52) (Operand.tmp 50), _, _, _, none⟩) rfl (fun K hK => ?_) AllReadyH.nil
  have ki := (cell_of_row _ _ 2 _ _ _ (hI2.out.next ((Below.refl _ _).drew))).trans rfl
  have fi := frozen_of_row _ _ 2 _ _ (hI2.out.next ((Below.refl _ _).drew))
  go_simp
  obtain ⟨V3, hV⟩ : ∃ V, V = (V2.setCell ⟨w.heap.size + 1 + 1, 2, none⟩ (.int .u8 vb)).drew := ⟨_, rfl⟩
  rw [← hV]
  have hst : OfS w s op a b false gw ws V3 := by rw [hV]; exact hHeld.set 2 _
  have hit : Hid (IRow w op va vb 0 V3) := Lib.hid (by rw [hV]; exact (hI2.out.next ((Below.refl _ _).drew)).b vb)
  clear hV
  refine hK.out _ _ hst (fun hHeld => ?_)
  clear hK K ki fi
  try simp only [Act.put, List.setIfInBounds_toArray, List.set_cons_zero, List.set_cons_succ]
  refine wpAnyH_take (i := 12) (oi := ⟨some 8, Op.assign (Operand.tmp 51), _, _, _, none⟩) (v := .bool true) rfl (by kernel_rfl) (by kernel_rfl) (by kernel_rfl) (fun _ _ _ h => h) (Or.inl ⟨by rfl, ?_⟩) hHeld ?_
  · intro w' hSw
    skip
    go_simp
  try simp only [Act.put, List.setIfInBounds_toArray, List.set_cons_zero, List.set_cons_succ]
  refine wpAnyH_done (by kernel_rfl) ?_ _
  have hS3 := Lib.hid hHeld
  have hI3 := hit
  clear hHeld hit hst
  have kn2 := (cell_of_row _ _ 2 _ _ _ hS3.out.nm).trans rfl
  have kn3 := (cell_of_row _ _ 3 _ _ _ hS3.out.nm).trans rfl
  have kn4 := (cell_of_row _ _ 4 _ _ _ hS3.out.nm).trans rfl
  have kr0 := (cell_of_row _ _ 0 _ _ _ hS3.out.ret).trans rfl
  have fr0 := frozen_of_row _ _ 0 _ _ hS3.out.ret
  have ki0 := (cell_of_row _ _ 0 _ _ _ hI3.out).trans rfl
  have fi0 := frozen_of_row _ _ 0 _ _ hI3.out
  have kr1 := (cell_of_row _ _ 1 _ _ _ hS3.out.ret).trans rfl
  have fr1 := frozen_of_row _ _ 1 _ _ hS3.out.ret
  have ki1 := (cell_of_row _ _ 1 _ _ _ hI3.out).trans rfl
  have fi1 := frozen_of_row _ _ 1 _ _ hI3.out
  have kr2 := (cell_of_row _ _ 2 _ _ _ hS3.out.ret).trans rfl
  have fr2 := frozen_of_row _ _ 2 _ _ hS3.out.ret
  have ki2 := (cell_of_row _ _ 2 _ _ _ hI3.out).trans rfl
  have fi2 := frozen_of_row _ _ 2 _ _ hI3.out
  have kr3 := (cell_of_row _ _ 3 _ _ _ hS3.out.ret).trans rfl
  have fr3 := frozen_of_row _ _ 3 _ _ hS3.out.ret
  have ki3 := (cell_of_row _ _ 3 _ _ _ hI3.out).trans rfl
  have fi3 := frozen_of_row _ _ 3 _ _ hI3.out
  go_wp2_with fail
  refine bodyPost_ret (v := .tuple #[.agg #[.int .u8 op, .int .u8 va, .int .u8 vb, .int .i32 0], .int .i64 0]) (by simp [results, Tryz.results76, go_sem, World.cell?_setCell_same', kr0, kr1, kr2, kr3]) rfl ⟨rfl, ?_⟩
  have hbl := hS3.out.below
  repeat (first | exact hbl | (refine Below.setCell ?_ (by first | (show w.heap.size ≤ w.heap.size + 1; omega) | (show w.heap.size ≤ w.heap.size + 1 + 1; omega)) _))

set_option maxHeartbeats 16000000 in
theorem of_ok_ok_none (s : ByteArray) (op a b : Int) (imm : Bool) (gw cap N : Nat) (ws : List (List UInt8)) (w : World) (hN : ws.length = N) (hw : ∀ j x, ws[j]? = some x → w.cell? ⟨gw, j, none⟩ = some (.string ⟨x.toArray⟩)) (hgw : gw < w.heap.size) (hop : 0 ≤ op ∧ op < 256)
    (HW : Hid (∀ W, Calls Tryz.prog 91 #[.agg #[.string s, .int .u8 op, .int .u8 a, .int .u8 b, .bool imm]] W fun e w' => e = .returned (.int .i64 (N : Int)) ∧ Below W.heap.size W w')) (vb : Int) (va : Int) (ha : ¬ a = 0) (xa : List UInt8) (hxa : ws[1]? = some xa) (hra : regF xa a = some va) (hb : ¬ b = 0) (xb : List UInt8) (hxb : ws[2]? = some xb) (hrb : regF xb b = some vb) (him : imm = true) (xi : List UInt8) (hxi : ws[3]? = some xi) (hli : xi.length ≤ 9223372036854775807) (hri : numF xi = none) :
    Calls Tryz.prog 76 #[.agg #[.string s, .int .u8 op, .int .u8 a, .int .u8 b, .bool imm], .slice (some ⟨gw, 0, none⟩) N cap] w fun e w' => e = .returned (.tuple #[(insR 0 0 0 0), .int .i64 41]) ∧ Below w.heap.size w w' := by
  unfold insR
  have e1 : ((N : Int) != (N : Int)) = false := by simp
  have qa : (a != 0) = true := by simp [ha]
  have i1 : (1 : Int) < (N : Int) := by have := (List.getElem?_eq_some_iff.1 hxa).1; omega
  have hxa := Lib.hid hxa
  have Ha := Lib.hid fun W => reg_c xa a W
  rw [hra] at Ha
  simp only [Option.getD_some, Option.getD_none, Option.isSome_some, Option.isSome_none] at Ha
  have qb : (b != 0) = true := by simp [hb]
  have i2 : (2 : Int) < (N : Int) := by have := (List.getElem?_eq_some_iff.1 hxb).1; omega
  have hxb := Lib.hid hxb
  have Hb := Lib.hid fun W => reg_c xb b W
  rw [hrb] at Hb
  simp only [Option.getD_some, Option.getD_none, Option.isSome_some, Option.isSome_none] at Hb
  have i3 : (3 : Int) < (N : Int) := by have := (List.getElem?_eq_some_iff.1 hxi).1; omega
  have hxi := Lib.hid hxi
  have Hi := Lib.hid fun W => number_c xi hli W
  rw [hri] at Hi
  subst him
  have hS0 : Hid (OfS w s op a b true gw ws (((w.alloc (.cells #[.string s, .int .u8 op, .int .u8 a, .int .u8 b, .bool true] 104)).alloc (.cells #[.int .u8 0, .int .u8 0, .int .u8 0, .int .i32 0] 67)).alloc (.cells #[.int .u8 op, .int .u8 0, .int .u8 0, .int .i32 0] 67))) :=
    Lib.hid ⟨heap_oldT (heap_oldT (heap_newT rfl)), heap_oldT (heap_newT (by simp)), fun j x hx => ((((Below.refl w.heap.size w).alloc (Nat.le_refl _) _).alloc (by simp) _).alloc (by simp; omega) _ |>.cell (p := ⟨gw, j, none⟩) hgw).trans (hw j x hx), (((Below.refl w.heap.size w).alloc (Nat.le_refl _) _).alloc (by simp) _).alloc (by simp; omega) _, by simp, hgw⟩
  have hI0 : Hid (IRow w op 0 0 0 (((w.alloc (.cells #[.string s, .int .u8 op, .int .u8 a, .int .u8 b, .bool true] 104)).alloc (.cells #[.int .u8 0, .int .u8 0, .int .u8 0, .int .i32 0] 67)).alloc (.cells #[.int .u8 op, .int .u8 0, .int .u8 0, .int .i32 0] 67))) :=
    Lib.hid (heap_newT (by simp))
  clear hw
  go_enter Tryz.func76, Tryz.ntmps76
  go_wp2_with fail
  refine (HW.out _).mono ?_
  rintro e w1 ⟨rfl, hb1⟩
  have hS1 := Lib.hid (hS0.out.next hb1)
  have hI1 := Lib.hid (hI0.out.next hb1)
  clear hb1 hS0 hI0
  have kn2 := (cell_of_row _ _ 2 _ _ _ hS1.out.nm).trans rfl
  have kn3 := (cell_of_row _ _ 3 _ _ _ hS1.out.nm).trans rfl
  have kn4 := (cell_of_row _ _ 4 _ _ _ hS1.out.nm).trans rfl
  have kr0 := (cell_of_row _ _ 0 _ _ _ hS1.out.ret).trans rfl
  have fr0 := frozen_of_row _ _ 0 _ _ hS1.out.ret
  have ki0 := (cell_of_row _ _ 0 _ _ _ hI1.out).trans rfl
  have fi0 := frozen_of_row _ _ 0 _ _ hI1.out
  have kr1 := (cell_of_row _ _ 1 _ _ _ hS1.out.ret).trans rfl
  have fr1 := frozen_of_row _ _ 1 _ _ hS1.out.ret
  have ki1 := (cell_of_row _ _ 1 _ _ _ hI1.out).trans rfl
  have fi1 := frozen_of_row _ _ 1 _ _ hI1.out
  have kr2 := (cell_of_row _ _ 2 _ _ _ hS1.out.ret).trans rfl
  have fr2 := frozen_of_row _ _ 2 _ _ hS1.out.ret
  have ki2 := (cell_of_row _ _ 2 _ _ _ hI1.out).trans rfl
  have fi2 := frozen_of_row _ _ 2 _ _ hI1.out
  have kr3 := (cell_of_row _ _ 3 _ _ _ hS1.out.ret).trans rfl
  have fr3 := frozen_of_row _ _ 3 _ _ hS1.out.ret
  have ki3 := (cell_of_row _ _ 3 _ _ _ hI1.out).trans rfl
  have fi3 := frozen_of_row _ _ 3 _ _ hI1.out
  go_wp2_with fail
  clear kn2 kn3 kn4 kr0 kr1 kr2 kr3 fr0 fr1 fr2 fr3 ki0 ki1 ki2 ki3 fi0 fi1 fi2 fi3
  have hSd := hS1.out.next ((Below.refl _ _).drew)
  refine wp_region_held_drew (S := fun w' => OfS w s op a b true gw ws w') (by kernel_rfl) hSd (fun hHeld => ?_)
  clear hSd
  refine wpAnyH_take (i := 0) (oi := ⟨some 24, Op.move (Operand.tmp 1), _, _, _, none⟩) (v := .slice (some ⟨gw, 0, none⟩) N cap) rfl (by kernel_rfl) (by kernel_rfl) (by kernel_rfl) (fun _ _ _ h => h) (Or.inl ⟨by rfl, ?_⟩) hHeld ?_
  · intro w' hSw
    skip
    go_simp
  try simp only [Act.put, List.setIfInBounds_toArray, List.set_cons_zero, List.set_cons_succ]
  refine wpAnyH_take (i := 1) (oi := ⟨some 25, Op.move (Operand.tmp 7), _, _, _, none⟩) (v := .int .i64 1) rfl (by kernel_rfl) (by kernel_rfl) (by kernel_rfl) (fun _ _ _ h => h) (Or.inl ⟨by rfl, ?_⟩) hHeld ?_
  · intro w' hSw
    skip
    go_simp
  try simp only [Act.put, List.setIfInBounds_toArray, List.set_cons_zero, List.set_cons_succ]
  refine wpAnyH_take (i := 2) (oi := ⟨some 26, Op.indexAddr _ (Operand.tmp 24) (Operand.tmp 25), _, _, _, none⟩) (v := .pointer (some ⟨gw, 1, none⟩)) rfl (by kernel_rfl) (by kernel_rfl) (by kernel_rfl) (fun _ _ _ h => h) (Or.inl ⟨by rfl, ?_⟩) hHeld ?_
  · intro w' hSw
    skip
    go_simp
  try simp only [Act.put, List.setIfInBounds_toArray, List.set_cons_zero, List.set_cons_succ]
  refine wpAnyH_take (i := 3) (oi := ⟨some 27, Op.load _ (Operand.tmp 26), _, _, _, none⟩) (v := .string ⟨xa.toArray⟩) rfl (by kernel_rfl) (by kernel_rfl) (by kernel_rfl) (fun _ _ _ h => h) (Or.inl ⟨by rfl, ?_⟩) hHeld ?_
  · intro w' hSw
    have k0 := hSw.ws 1 xa hxa.out
    go_simp
  try simp only [Act.put, List.setIfInBounds_toArray, List.set_cons_zero, List.set_cons_succ]
  refine wpAnyH_take (i := 4) (oi := ⟨some 28, Op.fieldAddr _ (Operand.tmp 2) 2, _, _, _, none⟩) (v := .pointer (some ⟨w.heap.size, 2, none⟩)) rfl (by kernel_rfl) (by kernel_rfl) (by kernel_rfl) (fun _ _ _ h => h) (Or.inl ⟨by rfl, ?_⟩) hHeld ?_
  · intro w' hSw
    skip
    go_simp
  try simp only [Act.put, List.setIfInBounds_toArray, List.set_cons_zero, List.set_cons_succ]
  refine wpAnyH_take (i := 5) (oi := ⟨some 29, Op.load _ (Operand.tmp 28), _, _, _, none⟩) (v := .int .u8 a) rfl (by kernel_rfl) (by kernel_rfl) (by kernel_rfl) (fun _ _ _ h => h) (Or.inl ⟨by rfl, ?_⟩) hHeld ?_
  · intro w' hSw
    have k0 := (cell_of_row w' _ 2 _ _ _ hSw.nm).trans rfl
    go_simp
  try simp only [Act.put, List.setIfInBounds_toArray, List.set_cons_zero, List.set_cons_succ]
  refine wpAnyH_ready (rs := [6]) (by kernel_rfl) (by simp) ?_
  refine AllReadyH.cons (o := ⟨some 30, Op.call { callee := Callee.value (Operand.func _), args := #[Operand.tmp 27, Operand.tmp 29], argTypes := _ }, _, _, _, none⟩) rfl (fun K hK => ?_) AllReadyH.nil
  go_simp
  go_at_call 92
  refine (Ha.out _).mono ?_
  rintro e wq ⟨rfl, rfl⟩
  refine hK.out _ _ hHeld (fun hHeld => ?_)
  clear hK K
  try simp only [Act.put, List.setIfInBounds_toArray, List.set_cons_zero, List.set_cons_succ]
  refine wpAnyH_take (i := 7) (oi := ⟨some 23, Op.move (Operand.tmp 30), _, _, _, none⟩) (v := .tuple #[.int .u8 va, .bool true]) rfl (by kernel_rfl) (by kernel_rfl) (by kernel_rfl) (fun _ _ _ h => h) (Or.inl ⟨by rfl, ?_⟩) hHeld ?_
  · intro w' hSw
    skip
    go_simp
  try simp only [Act.put, List.setIfInBounds_toArray, List.set_cons_zero, List.set_cons_succ]
  refine wpAnyH_take (i := 8) (oi := ⟨some 31, Op.extract (Operand.tmp 23) 0, _, _, _, none⟩) (v := .int .u8 va) rfl (by kernel_rfl) (by kernel_rfl) (by kernel_rfl) (fun _ _ _ h => h) (Or.inl ⟨by rfl, ?_⟩) hHeld ?_
  · intro w' hSw
    skip
    go_simp
  try simp only [Act.put, List.setIfInBounds_toArray, List.set_cons_zero, List.set_cons_succ]
  refine wpAnyH_take (i := 9) (oi := ⟨some 32, Op.extract (Operand.tmp 23) 1, _, _, _, none⟩) (v := .bool true) rfl (by kernel_rfl) (by kernel_rfl) (by kernel_rfl) (fun _ _ _ h => h) (Or.inl ⟨by rfl, ?_⟩) hHeld ?_
  · intro w' hSw
    skip
    go_simp
  try simp only [Act.put, List.setIfInBounds_toArray, List.set_cons_zero, List.set_cons_succ]
  refine wpAnyH_take (i := 10) (oi := ⟨some 33, Op.fieldAddr _ (Operand.tmp 6) 1, _, _, _, none⟩) (v := .pointer (some ⟨w.heap.size + 1 + 1, 1, none⟩)) rfl (by kernel_rfl) (by kernel_rfl) (by kernel_rfl) (fun _ _ _ h => h) (Or.inl ⟨by rfl, ?_⟩) hHeld ?_
  · intro w' hSw
    skip
    go_simp
  try simp only [Act.put, List.setIfInBounds_toArray, List.set_cons_zero, List.set_cons_succ]
  refine wpAnyH_ready (rs := [11]) (by kernel_rfl) (by simp) ?_
  refine AllReadyH.cons (o := ⟨none, Op.store _ (Operand.tmp 33) (Operand.tmp 31), _, _, _, none⟩) rfl (fun K hK => ?_) AllReadyH.nil
  have ki := (cell_of_row _ _ 1 _ _ _ (hI1.out.next ((Below.refl _ _).drew))).trans rfl
  have fi := frozen_of_row _ _ 1 _ _ (hI1.out.next ((Below.refl _ _).drew))
  go_simp
  obtain ⟨V2, hV⟩ : ∃ V, V = (w1.setCell ⟨w.heap.size + 1 + 1, 1, none⟩ (.int .u8 va)).drew := ⟨_, rfl⟩
  rw [← hV]
  have hst : OfS w s op a b true gw ws V2 := by rw [hV]; exact hHeld.set 1 _
  have hit : Hid (IRow w op va 0 0 V2) := Lib.hid (by rw [hV]; exact (hI1.out.next ((Below.refl _ _).drew)).a va)
  clear hV
  refine hK.out _ _ hst (fun hHeld => ?_)
  clear hK K ki fi
  try simp only [Act.put, List.setIfInBounds_toArray, List.set_cons_zero, List.set_cons_succ]
  refine wpAnyH_take (i := 12) (oi := ⟨some 8, Op.assign (Operand.tmp 32), _, _, _, none⟩) (v := .bool true) rfl (by kernel_rfl) (by kernel_rfl) (by kernel_rfl) (fun _ _ _ h => h) (Or.inl ⟨by rfl, ?_⟩) hHeld ?_
  · intro w' hSw
    skip
    go_simp
  try simp only [Act.put, List.setIfInBounds_toArray, List.set_cons_zero, List.set_cons_succ]
  refine wpAnyH_done (by kernel_rfl) ?_ _
  have hS2 := Lib.hid hHeld
  have hI2 := hit
  clear hHeld hit hst
  have kn2 := (cell_of_row _ _ 2 _ _ _ hS2.out.nm).trans rfl
  have kn3 := (cell_of_row _ _ 3 _ _ _ hS2.out.nm).trans rfl
  have kn4 := (cell_of_row _ _ 4 _ _ _ hS2.out.nm).trans rfl
  have kr0 := (cell_of_row _ _ 0 _ _ _ hS2.out.ret).trans rfl
  have fr0 := frozen_of_row _ _ 0 _ _ hS2.out.ret
  have ki0 := (cell_of_row _ _ 0 _ _ _ hI2.out).trans rfl
  have fi0 := frozen_of_row _ _ 0 _ _ hI2.out
  have kr1 := (cell_of_row _ _ 1 _ _ _ hS2.out.ret).trans rfl
  have fr1 := frozen_of_row _ _ 1 _ _ hS2.out.ret
  have ki1 := (cell_of_row _ _ 1 _ _ _ hI2.out).trans rfl
  have fi1 := frozen_of_row _ _ 1 _ _ hI2.out
  have kr2 := (cell_of_row _ _ 2 _ _ _ hS2.out.ret).trans rfl
  have fr2 := frozen_of_row _ _ 2 _ _ hS2.out.ret
  have ki2 := (cell_of_row _ _ 2 _ _ _ hI2.out).trans rfl
  have fi2 := frozen_of_row _ _ 2 _ _ hI2.out
  have kr3 := (cell_of_row _ _ 3 _ _ _ hS2.out.ret).trans rfl
  have fr3 := frozen_of_row _ _ 3 _ _ hS2.out.ret
  have ki3 := (cell_of_row _ _ 3 _ _ _ hI2.out).trans rfl
  have fi3 := frozen_of_row _ _ 3 _ _ hI2.out
  go_wp2_with fail
  clear kn2 kn3 kn4 kr0 kr1 kr2 kr3 fr0 fr1 fr2 fr3 ki0 ki1 ki2 ki3 fi0 fi1 fi2 fi3
  have hSd := hS2.out.next ((Below.refl _ _).drew)
  refine wp_region_held_drew (S := fun w' => OfS w s op a b true gw ws w') (by kernel_rfl) hSd (fun hHeld => ?_)
  clear hSd
  refine wpAnyH_take (i := 0) (oi := ⟨some 43, Op.move (Operand.tmp 1), _, _, _, none⟩) (v := .slice (some ⟨gw, 0, none⟩) N cap) rfl (by kernel_rfl) (by kernel_rfl) (by kernel_rfl) (fun _ _ _ h => h) (Or.inl ⟨by rfl, ?_⟩) hHeld ?_
  · intro w' hSw
    skip
    go_simp
  try simp only [Act.put, List.setIfInBounds_toArray, List.set_cons_zero, List.set_cons_succ]
  refine wpAnyH_take (i := 1) (oi := ⟨some 44, Op.move (Operand.tmp 7), _, _, _, none⟩) (v := .int .i64 2) rfl (by kernel_rfl) (by kernel_rfl) (by kernel_rfl) (fun _ _ _ h => h) (Or.inl ⟨by rfl, ?_⟩) hHeld ?_
  · intro w' hSw
    skip
    go_simp
  try simp only [Act.put, List.setIfInBounds_toArray, List.set_cons_zero, List.set_cons_succ]
  refine wpAnyH_take (i := 2) (oi := ⟨some 45, Op.indexAddr _ (Operand.tmp 43) (Operand.tmp 44), _, _, _, none⟩) (v := .pointer (some ⟨gw, 2, none⟩)) rfl (by kernel_rfl) (by kernel_rfl) (by kernel_rfl) (fun _ _ _ h => h) (Or.inl ⟨by rfl, ?_⟩) hHeld ?_
  · intro w' hSw
    skip
    go_simp
  try simp only [Act.put, List.setIfInBounds_toArray, List.set_cons_zero, List.set_cons_succ]
  refine wpAnyH_take (i := 3) (oi := ⟨some 46, Op.load _ (Operand.tmp 45), _, _, _, none⟩) (v := .string ⟨xb.toArray⟩) rfl (by kernel_rfl) (by kernel_rfl) (by kernel_rfl) (fun _ _ _ h => h) (Or.inl ⟨by rfl, ?_⟩) hHeld ?_
  · intro w' hSw
    have k0 := hSw.ws 2 xb hxb.out
    go_simp
  try simp only [Act.put, List.setIfInBounds_toArray, List.set_cons_zero, List.set_cons_succ]
  refine wpAnyH_take (i := 4) (oi := ⟨some 47, Op.fieldAddr _ (Operand.tmp 2) 3, _, _, _, none⟩) (v := .pointer (some ⟨w.heap.size, 3, none⟩)) rfl (by kernel_rfl) (by kernel_rfl) (by kernel_rfl) (fun _ _ _ h => h) (Or.inl ⟨by rfl, ?_⟩) hHeld ?_
  · intro w' hSw
    skip
    go_simp
  try simp only [Act.put, List.setIfInBounds_toArray, List.set_cons_zero, List.set_cons_succ]
  refine wpAnyH_take (i := 5) (oi := ⟨some 48, Op.load _ (Operand.tmp 47), _, _, _, none⟩) (v := .int .u8 b) rfl (by kernel_rfl) (by kernel_rfl) (by kernel_rfl) (fun _ _ _ h => h) (Or.inl ⟨by rfl, ?_⟩) hHeld ?_
  · intro w' hSw
    have k0 := (cell_of_row w' _ 3 _ _ _ hSw.nm).trans rfl
    go_simp
  try simp only [Act.put, List.setIfInBounds_toArray, List.set_cons_zero, List.set_cons_succ]
  refine wpAnyH_ready (rs := [6]) (by kernel_rfl) (by simp) ?_
  refine AllReadyH.cons (o := ⟨some 49, Op.call { callee := Callee.value (Operand.func _), args := #[Operand.tmp 46, Operand.tmp 48], argTypes := _ }, _, _, _, none⟩) rfl (fun K hK => ?_) AllReadyH.nil
  go_simp
  go_at_call 92
  refine (Hb.out _).mono ?_
  rintro e wq ⟨rfl, rfl⟩
  refine hK.out _ _ hHeld (fun hHeld => ?_)
  clear hK K
  try simp only [Act.put, List.setIfInBounds_toArray, List.set_cons_zero, List.set_cons_succ]
  refine wpAnyH_take (i := 7) (oi := ⟨some 42, Op.move (Operand.tmp 49), _, _, _, none⟩) (v := .tuple #[.int .u8 vb, .bool true]) rfl (by kernel_rfl) (by kernel_rfl) (by kernel_rfl) (fun _ _ _ h => h) (Or.inl ⟨by rfl, ?_⟩) hHeld ?_
  · intro w' hSw
    skip
    go_simp
  try simp only [Act.put, List.setIfInBounds_toArray, List.set_cons_zero, List.set_cons_succ]
  refine wpAnyH_take (i := 8) (oi := ⟨some 50, Op.extract (Operand.tmp 42) 0, _, _, _, none⟩) (v := .int .u8 vb) rfl (by kernel_rfl) (by kernel_rfl) (by kernel_rfl) (fun _ _ _ h => h) (Or.inl ⟨by rfl, ?_⟩) hHeld ?_
  · intro w' hSw
    skip
    go_simp
  try simp only [Act.put, List.setIfInBounds_toArray, List.set_cons_zero, List.set_cons_succ]
  refine wpAnyH_take (i := 9) (oi := ⟨some 51, Op.extract (Operand.tmp 42) 1, _, _, _, none⟩) (v := .bool true) rfl (by kernel_rfl) (by kernel_rfl) (by kernel_rfl) (fun _ _ _ h => h) (Or.inl ⟨by rfl, ?_⟩) hHeld ?_
  · intro w' hSw
    skip
    go_simp
  try simp only [Act.put, List.setIfInBounds_toArray, List.set_cons_zero, List.set_cons_succ]
  refine wpAnyH_take (i := 10) (oi := ⟨some 52, Op.fieldAddr _ (Operand.tmp 6) 2, _, _, _, none⟩) (v := .pointer (some ⟨w.heap.size + 1 + 1, 2, none⟩)) rfl (by kernel_rfl) (by kernel_rfl) (by kernel_rfl) (fun _ _ _ h => h) (Or.inl ⟨by rfl, ?_⟩) hHeld ?_
  · intro w' hSw
    skip
    go_simp
  try simp only [Act.put, List.setIfInBounds_toArray, List.set_cons_zero, List.set_cons_succ]
  refine wpAnyH_ready (rs := [11]) (by kernel_rfl) (by simp) ?_
  refine AllReadyH.cons (o := ⟨none, Op.store _ (Operand.tmp 52) (Operand.tmp 50), _, _, _, none⟩) rfl (fun K hK => ?_) AllReadyH.nil
  have ki := (cell_of_row _ _ 2 _ _ _ (hI2.out.next ((Below.refl _ _).drew))).trans rfl
  have fi := frozen_of_row _ _ 2 _ _ (hI2.out.next ((Below.refl _ _).drew))
  go_simp
  obtain ⟨V3, hV⟩ : ∃ V, V = (V2.setCell ⟨w.heap.size + 1 + 1, 2, none⟩ (.int .u8 vb)).drew := ⟨_, rfl⟩
  rw [← hV]
  have hst : OfS w s op a b true gw ws V3 := by rw [hV]; exact hHeld.set 2 _
  have hit : Hid (IRow w op va vb 0 V3) := Lib.hid (by rw [hV]; exact (hI2.out.next ((Below.refl _ _).drew)).b vb)
  clear hV
  refine hK.out _ _ hst (fun hHeld => ?_)
  clear hK K ki fi
  try simp only [Act.put, List.setIfInBounds_toArray, List.set_cons_zero, List.set_cons_succ]
  refine wpAnyH_take (i := 12) (oi := ⟨some 8, Op.assign (Operand.tmp 51), _, _, _, none⟩) (v := .bool true) rfl (by kernel_rfl) (by kernel_rfl) (by kernel_rfl) (fun _ _ _ h => h) (Or.inl ⟨by rfl, ?_⟩) hHeld ?_
  · intro w' hSw
    skip
    go_simp
  try simp only [Act.put, List.setIfInBounds_toArray, List.set_cons_zero, List.set_cons_succ]
  refine wpAnyH_done (by kernel_rfl) ?_ _
  have hS3 := Lib.hid hHeld
  have hI3 := hit
  clear hHeld hit hst
  have kn2 := (cell_of_row _ _ 2 _ _ _ hS3.out.nm).trans rfl
  have kn3 := (cell_of_row _ _ 3 _ _ _ hS3.out.nm).trans rfl
  have kn4 := (cell_of_row _ _ 4 _ _ _ hS3.out.nm).trans rfl
  have kr0 := (cell_of_row _ _ 0 _ _ _ hS3.out.ret).trans rfl
  have fr0 := frozen_of_row _ _ 0 _ _ hS3.out.ret
  have ki0 := (cell_of_row _ _ 0 _ _ _ hI3.out).trans rfl
  have fi0 := frozen_of_row _ _ 0 _ _ hI3.out
  have kr1 := (cell_of_row _ _ 1 _ _ _ hS3.out.ret).trans rfl
  have fr1 := frozen_of_row _ _ 1 _ _ hS3.out.ret
  have ki1 := (cell_of_row _ _ 1 _ _ _ hI3.out).trans rfl
  have fi1 := frozen_of_row _ _ 1 _ _ hI3.out
  have kr2 := (cell_of_row _ _ 2 _ _ _ hS3.out.ret).trans rfl
  have fr2 := frozen_of_row _ _ 2 _ _ hS3.out.ret
  have ki2 := (cell_of_row _ _ 2 _ _ _ hI3.out).trans rfl
  have fi2 := frozen_of_row _ _ 2 _ _ hI3.out
  have kr3 := (cell_of_row _ _ 3 _ _ _ hS3.out.ret).trans rfl
  have fr3 := frozen_of_row _ _ 3 _ _ hS3.out.ret
  have ki3 := (cell_of_row _ _ 3 _ _ _ hI3.out).trans rfl
  have fi3 := frozen_of_row _ _ 3 _ _ hI3.out
  have kw := hS3.out.ws 3 xi hxi.out
  go_wp2_with fail
  refine (Hi.out _).mono ?_
  rintro e w5 ⟨⟨v, bb, rfl, hq, hv0, hv1⟩, hb5⟩
  obtain rfl : bb = false := by cases bb; rfl; cases hq
  clear hq
  clear kw kn2 kn3 kn4 kr0 kr1 kr2 kr3 fr0 fr1 fr2 fr3 ki0 ki1 ki2 ki3 fi0 fi1 fi2 fi3
  have hS4 := Lib.hid (hS3.out.next hb5)
  have hI4 := Lib.hid (hI3.out.next hb5)
  clear hb5
  have kn2 := (cell_of_row _ _ 2 _ _ _ hS4.out.nm).trans rfl
  have kn3 := (cell_of_row _ _ 3 _ _ _ hS4.out.nm).trans rfl
  have kn4 := (cell_of_row _ _ 4 _ _ _ hS4.out.nm).trans rfl
  have kr0 := (cell_of_row _ _ 0 _ _ _ hS4.out.ret).trans rfl
  have fr0 := frozen_of_row _ _ 0 _ _ hS4.out.ret
  have ki0 := (cell_of_row _ _ 0 _ _ _ hI4.out).trans rfl
  have fi0 := frozen_of_row _ _ 0 _ _ hI4.out
  have kr1 := (cell_of_row _ _ 1 _ _ _ hS4.out.ret).trans rfl
  have fr1 := frozen_of_row _ _ 1 _ _ hS4.out.ret
  have ki1 := (cell_of_row _ _ 1 _ _ _ hI4.out).trans rfl
  have fi1 := frozen_of_row _ _ 1 _ _ hI4.out
  have kr2 := (cell_of_row _ _ 2 _ _ _ hS4.out.ret).trans rfl
  have fr2 := frozen_of_row _ _ 2 _ _ hS4.out.ret
  have ki2 := (cell_of_row _ _ 2 _ _ _ hI4.out).trans rfl
  have fi2 := frozen_of_row _ _ 2 _ _ hI4.out
  have kr3 := (cell_of_row _ _ 3 _ _ _ hS4.out.ret).trans rfl
  have fr3 := frozen_of_row _ _ 3 _ _ hS4.out.ret
  have ki3 := (cell_of_row _ _ 3 _ _ _ hI4.out).trans rfl
  have fi3 := frozen_of_row _ _ 3 _ _ hI4.out
  go_wp2_with fail
  refine bodyPost_ret (v := .tuple #[.agg #[.int .u8 0, .int .u8 0, .int .u8 0, .int .i32 0], .int .i64 41]) (by simp [results, Tryz.results76, go_sem, World.cell?_setCell_same', kr0, kr1, kr2, kr3]) rfl ⟨rfl, ?_⟩
  have hbl := hS4.out.below
  repeat (first | exact hbl | (refine Below.setCell ?_ (by first | (show w.heap.size ≤ w.heap.size + 1; omega) | (show w.heap.size ≤ w.heap.size + 1 + 1; omega)) _))

set_option maxHeartbeats 16000000 in
theorem of_ok_ok_notmay (s : ByteArray) (op a b : Int) (imm : Bool) (gw cap N : Nat) (ws : List (List UInt8)) (w : World) (hN : ws.length = N) (hw : ∀ j x, ws[j]? = some x → w.cell? ⟨gw, j, none⟩ = some (.string ⟨x.toArray⟩)) (hgw : gw < w.heap.size) (hop : 0 ≤ op ∧ op < 256)
    (HW : Hid (∀ W, Calls Tryz.prog 91 #[.agg #[.string s, .int .u8 op, .int .u8 a, .int .u8 b, .bool imm]] W fun e w' => e = .returned (.int .i64 (N : Int)) ∧ Below W.heap.size W w')) (vi : Int) (vb : Int) (va : Int) (ha : ¬ a = 0) (xa : List UInt8) (hxa : ws[1]? = some xa) (hra : regF xa a = some va) (hb : ¬ b = 0) (xb : List UInt8) (hxb : ws[2]? = some xb) (hrb : regF xb b = some vb) (him : imm = true) (xi : List UInt8) (hxi : ws[3]? = some xi) (hli : xi.length ≤ 9223372036854775807) (hri : numF xi = some vi) (hmay : Isa.mayB (Isa.fm op true) va vb vi = false) :
    Calls Tryz.prog 76 #[.agg #[.string s, .int .u8 op, .int .u8 a, .int .u8 b, .bool imm], .slice (some ⟨gw, 0, none⟩) N cap] w fun e w' => e = .returned (.tuple #[(insR 0 0 0 0), .int .i64 41]) ∧ Below w.heap.size w w' := by
  unfold insR
  have e1 : ((N : Int) != (N : Int)) = false := by simp
  have hvbb := regF_bd hrb
  have hvab := regF_bd hra
  have qa : (a != 0) = true := by simp [ha]
  have i1 : (1 : Int) < (N : Int) := by have := (List.getElem?_eq_some_iff.1 hxa).1; omega
  have hxa := Lib.hid hxa
  have Ha := Lib.hid fun W => reg_c xa a W
  rw [hra] at Ha
  simp only [Option.getD_some, Option.getD_none, Option.isSome_some, Option.isSome_none] at Ha
  have qb : (b != 0) = true := by simp [hb]
  have i2 : (2 : Int) < (N : Int) := by have := (List.getElem?_eq_some_iff.1 hxb).1; omega
  have hxb := Lib.hid hxb
  have Hb := Lib.hid fun W => reg_c xb b W
  rw [hrb] at Hb
  simp only [Option.getD_some, Option.getD_none, Option.isSome_some, Option.isSome_none] at Hb
  have i3 : (3 : Int) < (N : Int) := by have := (List.getElem?_eq_some_iff.1 hxi).1; omega
  have hxi := Lib.hid hxi
  have Hi := Lib.hid fun W => number_c xi hli W
  rw [hri] at Hi
  have hvi := numF_bd hri
  have Hm := Lib.hid fun W => Isa.may_c op va vb vi true W hop.1 hop.2 (by omega) (by omega) (by omega) (by omega) hvi.1 hvi.2
  rw [hmay] at Hm
  unfold Isa.insV at Hm
  subst him
  have hS0 : Hid (OfS w s op a b true gw ws (((w.alloc (.cells #[.string s, .int .u8 op, .int .u8 a, .int .u8 b, .bool true] 104)).alloc (.cells #[.int .u8 0, .int .u8 0, .int .u8 0, .int .i32 0] 67)).alloc (.cells #[.int .u8 op, .int .u8 0, .int .u8 0, .int .i32 0] 67))) :=
    Lib.hid ⟨heap_oldT (heap_oldT (heap_newT rfl)), heap_oldT (heap_newT (by simp)), fun j x hx => ((((Below.refl w.heap.size w).alloc (Nat.le_refl _) _).alloc (by simp) _).alloc (by simp; omega) _ |>.cell (p := ⟨gw, j, none⟩) hgw).trans (hw j x hx), (((Below.refl w.heap.size w).alloc (Nat.le_refl _) _).alloc (by simp) _).alloc (by simp; omega) _, by simp, hgw⟩
  have hI0 : Hid (IRow w op 0 0 0 (((w.alloc (.cells #[.string s, .int .u8 op, .int .u8 a, .int .u8 b, .bool true] 104)).alloc (.cells #[.int .u8 0, .int .u8 0, .int .u8 0, .int .i32 0] 67)).alloc (.cells #[.int .u8 op, .int .u8 0, .int .u8 0, .int .i32 0] 67))) :=
    Lib.hid (heap_newT (by simp))
  clear hw
  go_enter Tryz.func76, Tryz.ntmps76
  go_wp2_with fail
  refine (HW.out _).mono ?_
  rintro e w1 ⟨rfl, hb1⟩
  have hS1 := Lib.hid (hS0.out.next hb1)
  have hI1 := Lib.hid (hI0.out.next hb1)
  clear hb1 hS0 hI0
  have kn2 := (cell_of_row _ _ 2 _ _ _ hS1.out.nm).trans rfl
  have kn3 := (cell_of_row _ _ 3 _ _ _ hS1.out.nm).trans rfl
  have kn4 := (cell_of_row _ _ 4 _ _ _ hS1.out.nm).trans rfl
  have kr0 := (cell_of_row _ _ 0 _ _ _ hS1.out.ret).trans rfl
  have fr0 := frozen_of_row _ _ 0 _ _ hS1.out.ret
  have ki0 := (cell_of_row _ _ 0 _ _ _ hI1.out).trans rfl
  have fi0 := frozen_of_row _ _ 0 _ _ hI1.out
  have kr1 := (cell_of_row _ _ 1 _ _ _ hS1.out.ret).trans rfl
  have fr1 := frozen_of_row _ _ 1 _ _ hS1.out.ret
  have ki1 := (cell_of_row _ _ 1 _ _ _ hI1.out).trans rfl
  have fi1 := frozen_of_row _ _ 1 _ _ hI1.out
  have kr2 := (cell_of_row _ _ 2 _ _ _ hS1.out.ret).trans rfl
  have fr2 := frozen_of_row _ _ 2 _ _ hS1.out.ret
  have ki2 := (cell_of_row _ _ 2 _ _ _ hI1.out).trans rfl
  have fi2 := frozen_of_row _ _ 2 _ _ hI1.out
  have kr3 := (cell_of_row _ _ 3 _ _ _ hS1.out.ret).trans rfl
  have fr3 := frozen_of_row _ _ 3 _ _ hS1.out.ret
  have ki3 := (cell_of_row _ _ 3 _ _ _ hI1.out).trans rfl
  have fi3 := frozen_of_row _ _ 3 _ _ hI1.out
  go_wp2_with fail
  clear kn2 kn3 kn4 kr0 kr1 kr2 kr3 fr0 fr1 fr2 fr3 ki0 ki1 ki2 ki3 fi0 fi1 fi2 fi3
  have hSd := hS1.out.next ((Below.refl _ _).drew)
  refine wp_region_held_drew (S := fun w' => OfS w s op a b true gw ws w') (by kernel_rfl) hSd (fun hHeld => ?_)
  clear hSd
  refine wpAnyH_take (i := 0) (oi := ⟨some 24, Op.move (Operand.tmp 1), _, _, _, none⟩) (v := .slice (some ⟨gw, 0, none⟩) N cap) rfl (by kernel_rfl) (by kernel_rfl) (by kernel_rfl) (fun _ _ _ h => h) (Or.inl ⟨by rfl, ?_⟩) hHeld ?_
  · intro w' hSw
    skip
    go_simp
  try simp only [Act.put, List.setIfInBounds_toArray, List.set_cons_zero, List.set_cons_succ]
  refine wpAnyH_take (i := 1) (oi := ⟨some 25, Op.move (Operand.tmp 7), _, _, _, none⟩) (v := .int .i64 1) rfl (by kernel_rfl) (by kernel_rfl) (by kernel_rfl) (fun _ _ _ h => h) (Or.inl ⟨by rfl, ?_⟩) hHeld ?_
  · intro w' hSw
    skip
    go_simp
  try simp only [Act.put, List.setIfInBounds_toArray, List.set_cons_zero, List.set_cons_succ]
  refine wpAnyH_take (i := 2) (oi := ⟨some 26, Op.indexAddr _ (Operand.tmp 24) (Operand.tmp 25), _, _, _, none⟩) (v := .pointer (some ⟨gw, 1, none⟩)) rfl (by kernel_rfl) (by kernel_rfl) (by kernel_rfl) (fun _ _ _ h => h) (Or.inl ⟨by rfl, ?_⟩) hHeld ?_
  · intro w' hSw
    skip
    go_simp
  try simp only [Act.put, List.setIfInBounds_toArray, List.set_cons_zero, List.set_cons_succ]
  refine wpAnyH_take (i := 3) (oi := ⟨some 27, Op.load _ (Operand.tmp 26), _, _, _, none⟩) (v := .string ⟨xa.toArray⟩) rfl (by kernel_rfl) (by kernel_rfl) (by kernel_rfl) (fun _ _ _ h => h) (Or.inl ⟨by rfl, ?_⟩) hHeld ?_
  · intro w' hSw
    have k0 := hSw.ws 1 xa hxa.out
    go_simp
  try simp only [Act.put, List.setIfInBounds_toArray, List.set_cons_zero, List.set_cons_succ]
  refine wpAnyH_take (i := 4) (oi := ⟨some 28, Op.fieldAddr _ (Operand.tmp 2) 2, _, _, _, none⟩) (v := .pointer (some ⟨w.heap.size, 2, none⟩)) rfl (by kernel_rfl) (by kernel_rfl) (by kernel_rfl) (fun _ _ _ h => h) (Or.inl ⟨by rfl, ?_⟩) hHeld ?_
  · intro w' hSw
    skip
    go_simp
  try simp only [Act.put, List.setIfInBounds_toArray, List.set_cons_zero, List.set_cons_succ]
  refine wpAnyH_take (i := 5) (oi := ⟨some 29, Op.load _ (Operand.tmp 28), _, _, _, none⟩) (v := .int .u8 a) rfl (by kernel_rfl) (by kernel_rfl) (by kernel_rfl) (fun _ _ _ h => h) (Or.inl ⟨by rfl, ?_⟩) hHeld ?_
  · intro w' hSw
    have k0 := (cell_of_row w' _ 2 _ _ _ hSw.nm).trans rfl
    go_simp
  try simp only [Act.put, List.setIfInBounds_toArray, List.set_cons_zero, List.set_cons_succ]
  refine wpAnyH_ready (rs := [6]) (by kernel_rfl) (by simp) ?_
  refine AllReadyH.cons (o := ⟨some 30, Op.call { callee := Callee.value (Operand.func _), args := #[Operand.tmp 27, Operand.tmp 29], argTypes := _ }, _, _, _, none⟩) rfl (fun K hK => ?_) AllReadyH.nil
  go_simp
  go_at_call 92
  refine (Ha.out _).mono ?_
  rintro e wq ⟨rfl, rfl⟩
  refine hK.out _ _ hHeld (fun hHeld => ?_)
  clear hK K
  try simp only [Act.put, List.setIfInBounds_toArray, List.set_cons_zero, List.set_cons_succ]
  refine wpAnyH_take (i := 7) (oi := ⟨some 23, Op.move (Operand.tmp 30), _, _, _, none⟩) (v := .tuple #[.int .u8 va, .bool true]) rfl (by kernel_rfl) (by kernel_rfl) (by kernel_rfl) (fun _ _ _ h => h) (Or.inl ⟨by rfl, ?_⟩) hHeld ?_
  · intro w' hSw
    skip
    go_simp
  try simp only [Act.put, List.setIfInBounds_toArray, List.set_cons_zero, List.set_cons_succ]
  refine wpAnyH_take (i := 8) (oi := ⟨some 31, Op.extract (Operand.tmp 23) 0, _, _, _, none⟩) (v := .int .u8 va) rfl (by kernel_rfl) (by kernel_rfl) (by kernel_rfl) (fun _ _ _ h => h) (Or.inl ⟨by rfl, ?_⟩) hHeld ?_
  · intro w' hSw
    skip
    go_simp
  try simp only [Act.put, List.setIfInBounds_toArray, List.set_cons_zero, List.set_cons_succ]
  refine wpAnyH_take (i := 9) (oi := ⟨some 32, Op.extract (Operand.tmp 23) 1, _, _, _, none⟩) (v := .bool true) rfl (by kernel_rfl) (by kernel_rfl) (by kernel_rfl) (fun _ _ _ h => h) (Or.inl ⟨by rfl, ?_⟩) hHeld ?_
  · intro w' hSw
    skip
    go_simp
  try simp only [Act.put, List.setIfInBounds_toArray, List.set_cons_zero, List.set_cons_succ]
  refine wpAnyH_take (i := 10) (oi := ⟨some 33, Op.fieldAddr _ (Operand.tmp 6) 1, _, _, _, none⟩) (v := .pointer (some ⟨w.heap.size + 1 + 1, 1, none⟩)) rfl (by kernel_rfl) (by kernel_rfl) (by kernel_rfl) (fun _ _ _ h => h) (Or.inl ⟨by rfl, ?_⟩) hHeld ?_
  · intro w' hSw
    skip
    go_simp
  try simp only [Act.put, List.setIfInBounds_toArray, List.set_cons_zero, List.set_cons_succ]
  refine wpAnyH_ready (rs := [11]) (by kernel_rfl) (by simp) ?_
  refine AllReadyH.cons (o := ⟨none, Op.store _ (Operand.tmp 33) (Operand.tmp 31), _, _, _, none⟩) rfl (fun K hK => ?_) AllReadyH.nil
  have ki := (cell_of_row _ _ 1 _ _ _ (hI1.out.next ((Below.refl _ _).drew))).trans rfl
  have fi := frozen_of_row _ _ 1 _ _ (hI1.out.next ((Below.refl _ _).drew))
  go_simp
  obtain ⟨V2, hV⟩ : ∃ V, V = (w1.setCell ⟨w.heap.size + 1 + 1, 1, none⟩ (.int .u8 va)).drew := ⟨_, rfl⟩
  rw [← hV]
  have hst : OfS w s op a b true gw ws V2 := by rw [hV]; exact hHeld.set 1 _
  have hit : Hid (IRow w op va 0 0 V2) := Lib.hid (by rw [hV]; exact (hI1.out.next ((Below.refl _ _).drew)).a va)
  clear hV
  refine hK.out _ _ hst (fun hHeld => ?_)
  clear hK K ki fi
  try simp only [Act.put, List.setIfInBounds_toArray, List.set_cons_zero, List.set_cons_succ]
  refine wpAnyH_take (i := 12) (oi := ⟨some 8, Op.assign (Operand.tmp 32), _, _, _, none⟩) (v := .bool true) rfl (by kernel_rfl) (by kernel_rfl) (by kernel_rfl) (fun _ _ _ h => h) (Or.inl ⟨by rfl, ?_⟩) hHeld ?_
  · intro w' hSw
    skip
    go_simp
  try simp only [Act.put, List.setIfInBounds_toArray, List.set_cons_zero, List.set_cons_succ]
  refine wpAnyH_done (by kernel_rfl) ?_ _
  have hS2 := Lib.hid hHeld
  have hI2 := hit
  clear hHeld hit hst
  have kn2 := (cell_of_row _ _ 2 _ _ _ hS2.out.nm).trans rfl
  have kn3 := (cell_of_row _ _ 3 _ _ _ hS2.out.nm).trans rfl
  have kn4 := (cell_of_row _ _ 4 _ _ _ hS2.out.nm).trans rfl
  have kr0 := (cell_of_row _ _ 0 _ _ _ hS2.out.ret).trans rfl
  have fr0 := frozen_of_row _ _ 0 _ _ hS2.out.ret
  have ki0 := (cell_of_row _ _ 0 _ _ _ hI2.out).trans rfl
  have fi0 := frozen_of_row _ _ 0 _ _ hI2.out
  have kr1 := (cell_of_row _ _ 1 _ _ _ hS2.out.ret).trans rfl
  have fr1 := frozen_of_row _ _ 1 _ _ hS2.out.ret
  have ki1 := (cell_of_row _ _ 1 _ _ _ hI2.out).trans rfl
  have fi1 := frozen_of_row _ _ 1 _ _ hI2.out
  have kr2 := (cell_of_row _ _ 2 _ _ _ hS2.out.ret).trans rfl
  have fr2 := frozen_of_row _ _ 2 _ _ hS2.out.ret
  have ki2 := (cell_of_row _ _ 2 _ _ _ hI2.out).trans rfl
  have fi2 := frozen_of_row _ _ 2 _ _ hI2.out
  have kr3 := (cell_of_row _ _ 3 _ _ _ hS2.out.ret).trans rfl
  have fr3 := frozen_of_row _ _ 3 _ _ hS2.out.ret
  have ki3 := (cell_of_row _ _ 3 _ _ _ hI2.out).trans rfl
  have fi3 := frozen_of_row _ _ 3 _ _ hI2.out
  go_wp2_with fail
  clear kn2 kn3 kn4 kr0 kr1 kr2 kr3 fr0 fr1 fr2 fr3 ki0 ki1 ki2 ki3 fi0 fi1 fi2 fi3
  have hSd := hS2.out.next ((Below.refl _ _).drew)
  refine wp_region_held_drew (S := fun w' => OfS w s op a b true gw ws w') (by kernel_rfl) hSd (fun hHeld => ?_)
  clear hSd
  refine wpAnyH_take (i := 0) (oi := ⟨some 43, Op.move (Operand.tmp 1), _, _, _, none⟩) (v := .slice (some ⟨gw, 0, none⟩) N cap) rfl (by kernel_rfl) (by kernel_rfl) (by kernel_rfl) (fun _ _ _ h => h) (Or.inl ⟨by rfl, ?_⟩) hHeld ?_
  · intro w' hSw
    skip
    go_simp
  try simp only [Act.put, List.setIfInBounds_toArray, List.set_cons_zero, List.set_cons_succ]
  refine wpAnyH_take (i := 1) (oi := ⟨some 44, Op.move (Operand.tmp 7), _, _, _, none⟩) (v := .int .i64 2) rfl (by kernel_rfl) (by kernel_rfl) (by kernel_rfl) (fun _ _ _ h => h) (Or.inl ⟨by rfl, ?_⟩) hHeld ?_
  · intro w' hSw
    skip
    go_simp
  try simp only [Act.put, List.setIfInBounds_toArray, List.set_cons_zero, List.set_cons_succ]
  refine wpAnyH_take (i := 2) (oi := ⟨some 45, Op.indexAddr _ (Operand.tmp 43) (Operand.tmp 44), _, _, _, none⟩) (v := .pointer (some ⟨gw, 2, none⟩)) rfl (by kernel_rfl) (by kernel_rfl) (by kernel_rfl) (fun _ _ _ h => h) (Or.inl ⟨by rfl, ?_⟩) hHeld ?_
  · intro w' hSw
    skip
    go_simp
  try simp only [Act.put, List.setIfInBounds_toArray, List.set_cons_zero, List.set_cons_succ]
  refine wpAnyH_take (i := 3) (oi := ⟨some 46, Op.load _ (Operand.tmp 45), _, _, _, none⟩) (v := .string ⟨xb.toArray⟩) rfl (by kernel_rfl) (by kernel_rfl) (by kernel_rfl) (fun _ _ _ h => h) (Or.inl ⟨by rfl, ?_⟩) hHeld ?_
  · intro w' hSw
    have k0 := hSw.ws 2 xb hxb.out
    go_simp
  try simp only [Act.put, List.setIfInBounds_toArray, List.set_cons_zero, List.set_cons_succ]
  refine wpAnyH_take (i := 4) (oi := ⟨some 47, Op.fieldAddr _ (Operand.tmp 2) 3, _, _, _, none⟩) (v := .pointer (some ⟨w.heap.size, 3, none⟩)) rfl (by kernel_rfl) (by kernel_rfl) (by kernel_rfl) (fun _ _ _ h => h) (Or.inl ⟨by rfl, ?_⟩) hHeld ?_
  · intro w' hSw
    skip
    go_simp
  try simp only [Act.put, List.setIfInBounds_toArray, List.set_cons_zero, List.set_cons_succ]
  refine wpAnyH_take (i := 5) (oi := ⟨some 48, Op.load _ (Operand.tmp 47), _, _, _, none⟩) (v := .int .u8 b) rfl (by kernel_rfl) (by kernel_rfl) (by kernel_rfl) (fun _ _ _ h => h) (Or.inl ⟨by rfl, ?_⟩) hHeld ?_
  · intro w' hSw
    have k0 := (cell_of_row w' _ 3 _ _ _ hSw.nm).trans rfl
    go_simp
  try simp only [Act.put, List.setIfInBounds_toArray, List.set_cons_zero, List.set_cons_succ]
  refine wpAnyH_ready (rs := [6]) (by kernel_rfl) (by simp) ?_
  refine AllReadyH.cons (o := ⟨some 49, Op.call { callee := Callee.value (Operand.func _), args := #[Operand.tmp 46, Operand.tmp 48], argTypes := _ }, _, _, _, none⟩) rfl (fun K hK => ?_) AllReadyH.nil
  go_simp
  go_at_call 92
  refine (Hb.out _).mono ?_
  rintro e wq ⟨rfl, rfl⟩
  refine hK.out _ _ hHeld (fun hHeld => ?_)
  clear hK K
  try simp only [Act.put, List.setIfInBounds_toArray, List.set_cons_zero, List.set_cons_succ]
  refine wpAnyH_take (i := 7) (oi := ⟨some 42, Op.move (Operand.tmp 49), _, _, _, none⟩) (v := .tuple #[.int .u8 vb, .bool true]) rfl (by kernel_rfl) (by kernel_rfl) (by kernel_rfl) (fun _ _ _ h => h) (Or.inl ⟨by rfl, ?_⟩) hHeld ?_
  · intro w' hSw
    skip
    go_simp
  try simp only [Act.put, List.setIfInBounds_toArray, List.set_cons_zero, List.set_cons_succ]
  refine wpAnyH_take (i := 8) (oi := ⟨some 50, Op.extract (Operand.tmp 42) 0, _, _, _, none⟩) (v := .int .u8 vb) rfl (by kernel_rfl) (by kernel_rfl) (by kernel_rfl) (fun _ _ _ h => h) (Or.inl ⟨by rfl, ?_⟩) hHeld ?_
  · intro w' hSw
    skip
    go_simp
  try simp only [Act.put, List.setIfInBounds_toArray, List.set_cons_zero, List.set_cons_succ]
  refine wpAnyH_take (i := 9) (oi := ⟨some 51, Op.extract (Operand.tmp 42) 1, _, _, _, none⟩) (v := .bool true) rfl (by kernel_rfl) (by kernel_rfl) (by kernel_rfl) (fun _ _ _ h => h) (Or.inl ⟨by rfl, ?_⟩) hHeld ?_
  · intro w' hSw
    skip
    go_simp
  try simp only [Act.put, List.setIfInBounds_toArray, List.set_cons_zero, List.set_cons_succ]
  refine wpAnyH_take (i := 10) (oi := ⟨some 52, Op.fieldAddr _ (Operand.tmp 6) 2, _, _, _, none⟩) (v := .pointer (some ⟨w.heap.size + 1 + 1, 2, none⟩)) rfl (by kernel_rfl) (by kernel_rfl) (by kernel_rfl) (fun _ _ _ h => h) (Or.inl ⟨by rfl, ?_⟩) hHeld ?_
  · intro w' hSw
    skip
    go_simp
  try simp only [Act.put, List.setIfInBounds_toArray, List.set_cons_zero, List.set_cons_succ]
  refine wpAnyH_ready (rs := [11]) (by kernel_rfl) (by simp) ?_
  refine AllReadyH.cons (o := ⟨none, Op.store _ (Operand.tmp 52) (Operand.tmp 50), _, _, _, none⟩) rfl (fun K hK => ?_) AllReadyH.nil
  have ki := (cell_of_row _ _ 2 _ _ _ (hI2.out.next ((Below.refl _ _).drew))).trans rfl
  have fi := frozen_of_row _ _ 2 _ _ (hI2.out.next ((Below.refl _ _).drew))
  go_simp
  obtain ⟨V3, hV⟩ : ∃ V, V = (V2.setCell ⟨w.heap.size + 1 + 1, 2, none⟩ (.int .u8 vb)).drew := ⟨_, rfl⟩
  rw [← hV]
  have hst : OfS w s op a b true gw ws V3 := by rw [hV]; exact hHeld.set 2 _
  have hit : Hid (IRow w op va vb 0 V3) := Lib.hid (by rw [hV]; exact (hI2.out.next ((Below.refl _ _).drew)).b vb)
  clear hV
  refine hK.out _ _ hst (fun hHeld => ?_)
  clear hK K ki fi
  try simp only [Act.put, List.setIfInBounds_toArray, List.set_cons_zero, List.set_cons_succ]
  refine wpAnyH_take (i := 12) (oi := ⟨some 8, Op.assign (Operand.tmp 51), _, _, _, none⟩) (v := .bool true) rfl (by kernel_rfl) (by kernel_rfl) (by kernel_rfl) (fun _ _ _ h => h) (Or.inl ⟨by rfl, ?_⟩) hHeld ?_
  · intro w' hSw
    skip
    go_simp
  try simp only [Act.put, List.setIfInBounds_toArray, List.set_cons_zero, List.set_cons_succ]
  refine wpAnyH_done (by kernel_rfl) ?_ _
  have hS3 := Lib.hid hHeld
  have hI3 := hit
  clear hHeld hit hst
  have kn2 := (cell_of_row _ _ 2 _ _ _ hS3.out.nm).trans rfl
  have kn3 := (cell_of_row _ _ 3 _ _ _ hS3.out.nm).trans rfl
  have kn4 := (cell_of_row _ _ 4 _ _ _ hS3.out.nm).trans rfl
  have kr0 := (cell_of_row _ _ 0 _ _ _ hS3.out.ret).trans rfl
  have fr0 := frozen_of_row _ _ 0 _ _ hS3.out.ret
  have ki0 := (cell_of_row _ _ 0 _ _ _ hI3.out).trans rfl
  have fi0 := frozen_of_row _ _ 0 _ _ hI3.out
  have kr1 := (cell_of_row _ _ 1 _ _ _ hS3.out.ret).trans rfl
  have fr1 := frozen_of_row _ _ 1 _ _ hS3.out.ret
  have ki1 := (cell_of_row _ _ 1 _ _ _ hI3.out).trans rfl
  have fi1 := frozen_of_row _ _ 1 _ _ hI3.out
  have kr2 := (cell_of_row _ _ 2 _ _ _ hS3.out.ret).trans rfl
  have fr2 := frozen_of_row _ _ 2 _ _ hS3.out.ret
  have ki2 := (cell_of_row _ _ 2 _ _ _ hI3.out).trans rfl
  have fi2 := frozen_of_row _ _ 2 _ _ hI3.out
  have kr3 := (cell_of_row _ _ 3 _ _ _ hS3.out.ret).trans rfl
  have fr3 := frozen_of_row _ _ 3 _ _ hS3.out.ret
  have ki3 := (cell_of_row _ _ 3 _ _ _ hI3.out).trans rfl
  have fi3 := frozen_of_row _ _ 3 _ _ hI3.out
  have kw := hS3.out.ws 3 xi hxi.out
  go_wp2_with fail
  refine (Hi.out _).mono ?_
  rintro e w5 ⟨⟨v, bb, rfl, hq, hv0, hv1⟩, hb5⟩
  obtain ⟨rfl, rfl⟩ : bb = true ∧ v = vi := by
    cases bb
    · cases hq
    · exact ⟨rfl, (Option.some.inj hq).symm⟩
  clear hq
  have wv : IntKind.i32.wrap v = v := IntWalk.i32_in _ (by omega)
  clear kw kn2 kn3 kn4 kr0 kr1 kr2 kr3 fr0 fr1 fr2 fr3 ki0 ki1 ki2 ki3 fi0 fi1 fi2 fi3
  have hS4 := Lib.hid (hS3.out.next hb5)
  have hI4 := Lib.hid (hI3.out.next hb5)
  clear hb5
  have kn2 := (cell_of_row _ _ 2 _ _ _ hS4.out.nm).trans rfl
  have kn3 := (cell_of_row _ _ 3 _ _ _ hS4.out.nm).trans rfl
  have kn4 := (cell_of_row _ _ 4 _ _ _ hS4.out.nm).trans rfl
  have kr0 := (cell_of_row _ _ 0 _ _ _ hS4.out.ret).trans rfl
  have fr0 := frozen_of_row _ _ 0 _ _ hS4.out.ret
  have ki0 := (cell_of_row _ _ 0 _ _ _ hI4.out).trans rfl
  have fi0 := frozen_of_row _ _ 0 _ _ hI4.out
  have kr1 := (cell_of_row _ _ 1 _ _ _ hS4.out.ret).trans rfl
  have fr1 := frozen_of_row _ _ 1 _ _ hS4.out.ret
  have ki1 := (cell_of_row _ _ 1 _ _ _ hI4.out).trans rfl
  have fi1 := frozen_of_row _ _ 1 _ _ hI4.out
  have kr2 := (cell_of_row _ _ 2 _ _ _ hS4.out.ret).trans rfl
  have fr2 := frozen_of_row _ _ 2 _ _ hS4.out.ret
  have ki2 := (cell_of_row _ _ 2 _ _ _ hI4.out).trans rfl
  have fi2 := frozen_of_row _ _ 2 _ _ hI4.out
  have kr3 := (cell_of_row _ _ 3 _ _ _ hS4.out.ret).trans rfl
  have fr3 := frozen_of_row _ _ 3 _ _ hS4.out.ret
  have ki3 := (cell_of_row _ _ 3 _ _ _ hI4.out).trans rfl
  have fi3 := frozen_of_row _ _ 3 _ _ hI4.out
  go_wp2_with fail
  refine (Hm.out _).mono ?_
  rintro e w6 ⟨rfl, hb6⟩
  clear kn2 kn3 kn4 kr0 kr1 kr2 kr3 fr0 fr1 fr2 fr3 ki0 ki1 ki2 ki3 fi0 fi1 fi2 fi3
  have hS5 := Lib.hid ((hS4.out.set 3 (.int .i32 v)).next hb6)
  have hI5 := Lib.hid ((hI4.out.imm v).next hb6)
  clear hb6
  have kn2 := (cell_of_row _ _ 2 _ _ _ hS5.out.nm).trans rfl
  have kn3 := (cell_of_row _ _ 3 _ _ _ hS5.out.nm).trans rfl
  have kn4 := (cell_of_row _ _ 4 _ _ _ hS5.out.nm).trans rfl
  have kr0 := (cell_of_row _ _ 0 _ _ _ hS5.out.ret).trans rfl
  have fr0 := frozen_of_row _ _ 0 _ _ hS5.out.ret
  have ki0 := (cell_of_row _ _ 0 _ _ _ hI5.out).trans rfl
  have fi0 := frozen_of_row _ _ 0 _ _ hI5.out
  have kr1 := (cell_of_row _ _ 1 _ _ _ hS5.out.ret).trans rfl
  have fr1 := frozen_of_row _ _ 1 _ _ hS5.out.ret
  have ki1 := (cell_of_row _ _ 1 _ _ _ hI5.out).trans rfl
  have fi1 := frozen_of_row _ _ 1 _ _ hI5.out
  have kr2 := (cell_of_row _ _ 2 _ _ _ hS5.out.ret).trans rfl
  have fr2 := frozen_of_row _ _ 2 _ _ hS5.out.ret
  have ki2 := (cell_of_row _ _ 2 _ _ _ hI5.out).trans rfl
  have fi2 := frozen_of_row _ _ 2 _ _ hI5.out
  have kr3 := (cell_of_row _ _ 3 _ _ _ hS5.out.ret).trans rfl
  have fr3 := frozen_of_row _ _ 3 _ _ hS5.out.ret
  have ki3 := (cell_of_row _ _ 3 _ _ _ hI5.out).trans rfl
  have fi3 := frozen_of_row _ _ 3 _ _ hI5.out
  go_wp2_with fail
  refine bodyPost_ret (v := .tuple #[.agg #[.int .u8 0, .int .u8 0, .int .u8 0, .int .i32 0], .int .i64 41]) (by simp [results, Tryz.results76, go_sem, World.cell?_setCell_same', kr0, kr1, kr2, kr3]) rfl ⟨rfl, ?_⟩
  have hbl := hS5.out.below
  repeat (first | exact hbl | (refine Below.setCell ?_ (by first | (show w.heap.size ≤ w.heap.size + 1; omega) | (show w.heap.size ≤ w.heap.size + 1 + 1; omega)) _))

set_option maxHeartbeats 16000000 in
theorem of_ok_ok_ok (s : ByteArray) (op a b : Int) (imm : Bool) (gw cap N : Nat) (ws : List (List UInt8)) (w : World) (hN : ws.length = N) (hw : ∀ j x, ws[j]? = some x → w.cell? ⟨gw, j, none⟩ = some (.string ⟨x.toArray⟩)) (hgw : gw < w.heap.size) (hop : 0 ≤ op ∧ op < 256)
    (HW : Hid (∀ W, Calls Tryz.prog 91 #[.agg #[.string s, .int .u8 op, .int .u8 a, .int .u8 b, .bool imm]] W fun e w' => e = .returned (.int .i64 (N : Int)) ∧ Below W.heap.size W w')) (vi : Int) (vb : Int) (va : Int) (ha : ¬ a = 0) (xa : List UInt8) (hxa : ws[1]? = some xa) (hra : regF xa a = some va) (hb : ¬ b = 0) (xb : List UInt8) (hxb : ws[2]? = some xb) (hrb : regF xb b = some vb) (him : imm = true) (xi : List UInt8) (hxi : ws[3]? = some xi) (hli : xi.length ≤ 9223372036854775807) (hri : numF xi = some vi) (hmay : Isa.mayB (Isa.fm op true) va vb vi = true) :
    Calls Tryz.prog 76 #[.agg #[.string s, .int .u8 op, .int .u8 a, .int .u8 b, .bool imm], .slice (some ⟨gw, 0, none⟩) N cap] w fun e w' => e = .returned (.tuple #[(insR op va vb vi), .int .i64 0]) ∧ Below w.heap.size w w' := by
  unfold insR
  have e1 : ((N : Int) != (N : Int)) = false := by simp
  have hvbb := regF_bd hrb
  have hvab := regF_bd hra
  have qa : (a != 0) = true := by simp [ha]
  have i1 : (1 : Int) < (N : Int) := by have := (List.getElem?_eq_some_iff.1 hxa).1; omega
  have hxa := Lib.hid hxa
  have Ha := Lib.hid fun W => reg_c xa a W
  rw [hra] at Ha
  simp only [Option.getD_some, Option.getD_none, Option.isSome_some, Option.isSome_none] at Ha
  have qb : (b != 0) = true := by simp [hb]
  have i2 : (2 : Int) < (N : Int) := by have := (List.getElem?_eq_some_iff.1 hxb).1; omega
  have hxb := Lib.hid hxb
  have Hb := Lib.hid fun W => reg_c xb b W
  rw [hrb] at Hb
  simp only [Option.getD_some, Option.getD_none, Option.isSome_some, Option.isSome_none] at Hb
  have i3 : (3 : Int) < (N : Int) := by have := (List.getElem?_eq_some_iff.1 hxi).1; omega
  have hxi := Lib.hid hxi
  have Hi := Lib.hid fun W => number_c xi hli W
  rw [hri] at Hi
  have hvi := numF_bd hri
  have Hm := Lib.hid fun W => Isa.may_c op va vb vi true W hop.1 hop.2 (by omega) (by omega) (by omega) (by omega) hvi.1 hvi.2
  rw [hmay] at Hm
  unfold Isa.insV at Hm
  subst him
  have hS0 : Hid (OfS w s op a b true gw ws (((w.alloc (.cells #[.string s, .int .u8 op, .int .u8 a, .int .u8 b, .bool true] 104)).alloc (.cells #[.int .u8 0, .int .u8 0, .int .u8 0, .int .i32 0] 67)).alloc (.cells #[.int .u8 op, .int .u8 0, .int .u8 0, .int .i32 0] 67))) :=
    Lib.hid ⟨heap_oldT (heap_oldT (heap_newT rfl)), heap_oldT (heap_newT (by simp)), fun j x hx => ((((Below.refl w.heap.size w).alloc (Nat.le_refl _) _).alloc (by simp) _).alloc (by simp; omega) _ |>.cell (p := ⟨gw, j, none⟩) hgw).trans (hw j x hx), (((Below.refl w.heap.size w).alloc (Nat.le_refl _) _).alloc (by simp) _).alloc (by simp; omega) _, by simp, hgw⟩
  have hI0 : Hid (IRow w op 0 0 0 (((w.alloc (.cells #[.string s, .int .u8 op, .int .u8 a, .int .u8 b, .bool true] 104)).alloc (.cells #[.int .u8 0, .int .u8 0, .int .u8 0, .int .i32 0] 67)).alloc (.cells #[.int .u8 op, .int .u8 0, .int .u8 0, .int .i32 0] 67))) :=
    Lib.hid (heap_newT (by simp))
  clear hw
  go_enter Tryz.func76, Tryz.ntmps76
  go_wp2_with fail
  refine (HW.out _).mono ?_
  rintro e w1 ⟨rfl, hb1⟩
  have hS1 := Lib.hid (hS0.out.next hb1)
  have hI1 := Lib.hid (hI0.out.next hb1)
  clear hb1 hS0 hI0
  have kn2 := (cell_of_row _ _ 2 _ _ _ hS1.out.nm).trans rfl
  have kn3 := (cell_of_row _ _ 3 _ _ _ hS1.out.nm).trans rfl
  have kn4 := (cell_of_row _ _ 4 _ _ _ hS1.out.nm).trans rfl
  have kr0 := (cell_of_row _ _ 0 _ _ _ hS1.out.ret).trans rfl
  have fr0 := frozen_of_row _ _ 0 _ _ hS1.out.ret
  have ki0 := (cell_of_row _ _ 0 _ _ _ hI1.out).trans rfl
  have fi0 := frozen_of_row _ _ 0 _ _ hI1.out
  have kr1 := (cell_of_row _ _ 1 _ _ _ hS1.out.ret).trans rfl
  have fr1 := frozen_of_row _ _ 1 _ _ hS1.out.ret
  have ki1 := (cell_of_row _ _ 1 _ _ _ hI1.out).trans rfl
  have fi1 := frozen_of_row _ _ 1 _ _ hI1.out
  have kr2 := (cell_of_row _ _ 2 _ _ _ hS1.out.ret).trans rfl
  have fr2 := frozen_of_row _ _ 2 _ _ hS1.out.ret
  have ki2 := (cell_of_row _ _ 2 _ _ _ hI1.out).trans rfl
  have fi2 := frozen_of_row _ _ 2 _ _ hI1.out
  have kr3 := (cell_of_row _ _ 3 _ _ _ hS1.out.ret).trans rfl
  have fr3 := frozen_of_row _ _ 3 _ _ hS1.out.ret
  have ki3 := (cell_of_row _ _ 3 _ _ _ hI1.out).trans rfl
  have fi3 := frozen_of_row _ _ 3 _ _ hI1.out
  go_wp2_with fail
  clear kn2 kn3 kn4 kr0 kr1 kr2 kr3 fr0 fr1 fr2 fr3 ki0 ki1 ki2 ki3 fi0 fi1 fi2 fi3
  have hSd := hS1.out.next ((Below.refl _ _).drew)
  refine wp_region_held_drew (S := fun w' => OfS w s op a b true gw ws w') (by kernel_rfl) hSd (fun hHeld => ?_)
  clear hSd
  refine wpAnyH_take (i := 0) (oi := ⟨some 24, Op.move (Operand.tmp 1), _, _, _, none⟩) (v := .slice (some ⟨gw, 0, none⟩) N cap) rfl (by kernel_rfl) (by kernel_rfl) (by kernel_rfl) (fun _ _ _ h => h) (Or.inl ⟨by rfl, ?_⟩) hHeld ?_
  · intro w' hSw
    skip
    go_simp
  try simp only [Act.put, List.setIfInBounds_toArray, List.set_cons_zero, List.set_cons_succ]
  refine wpAnyH_take (i := 1) (oi := ⟨some 25, Op.move (Operand.tmp 7), _, _, _, none⟩) (v := .int .i64 1) rfl (by kernel_rfl) (by kernel_rfl) (by kernel_rfl) (fun _ _ _ h => h) (Or.inl ⟨by rfl, ?_⟩) hHeld ?_
  · intro w' hSw
    skip
    go_simp
  try simp only [Act.put, List.setIfInBounds_toArray, List.set_cons_zero, List.set_cons_succ]
  refine wpAnyH_take (i := 2) (oi := ⟨some 26, Op.indexAddr _ (Operand.tmp 24) (Operand.tmp 25), _, _, _, none⟩) (v := .pointer (some ⟨gw, 1, none⟩)) rfl (by kernel_rfl) (by kernel_rfl) (by kernel_rfl) (fun _ _ _ h => h) (Or.inl ⟨by rfl, ?_⟩) hHeld ?_
  · intro w' hSw
    skip
    go_simp
  try simp only [Act.put, List.setIfInBounds_toArray, List.set_cons_zero, List.set_cons_succ]
  refine wpAnyH_take (i := 3) (oi := ⟨some 27, Op.load _ (Operand.tmp 26), _, _, _, none⟩) (v := .string ⟨xa.toArray⟩) rfl (by kernel_rfl) (by kernel_rfl) (by kernel_rfl) (fun _ _ _ h => h) (Or.inl ⟨by rfl, ?_⟩) hHeld ?_
  · intro w' hSw
    have k0 := hSw.ws 1 xa hxa.out
    go_simp
  try simp only [Act.put, List.setIfInBounds_toArray, List.set_cons_zero, List.set_cons_succ]
  refine wpAnyH_take (i := 4) (oi := ⟨some 28, Op.fieldAddr _ (Operand.tmp 2) 2, _, _, _, none⟩) (v := .pointer (some ⟨w.heap.size, 2, none⟩)) rfl (by kernel_rfl) (by kernel_rfl) (by kernel_rfl) (fun _ _ _ h => h) (Or.inl ⟨by rfl, ?_⟩) hHeld ?_
  · intro w' hSw
    skip
    go_simp
  try simp only [Act.put, List.setIfInBounds_toArray, List.set_cons_zero, List.set_cons_succ]
  refine wpAnyH_take (i := 5) (oi := ⟨some 29, Op.load _ (Operand.tmp 28), _, _, _, none⟩) (v := .int .u8 a) rfl (by kernel_rfl) (by kernel_rfl) (by kernel_rfl) (fun _ _ _ h => h) (Or.inl ⟨by rfl, ?_⟩) hHeld ?_
  · intro w' hSw
    have k0 := (cell_of_row w' _ 2 _ _ _ hSw.nm).trans rfl
    go_simp
  try simp only [Act.put, List.setIfInBounds_toArray, List.set_cons_zero, List.set_cons_succ]
  refine wpAnyH_ready (rs := [6]) (by kernel_rfl) (by simp) ?_
  refine AllReadyH.cons (o := ⟨some 30, Op.call { callee := Callee.value (Operand.func _), args := #[Operand.tmp 27, Operand.tmp 29], argTypes := _ }, _, _, _, none⟩) rfl (fun K hK => ?_) AllReadyH.nil
  go_simp
  go_at_call 92
  refine (Ha.out _).mono ?_
  rintro e wq ⟨rfl, rfl⟩
  refine hK.out _ _ hHeld (fun hHeld => ?_)
  clear hK K
  try simp only [Act.put, List.setIfInBounds_toArray, List.set_cons_zero, List.set_cons_succ]
  refine wpAnyH_take (i := 7) (oi := ⟨some 23, Op.move (Operand.tmp 30), _, _, _, none⟩) (v := .tuple #[.int .u8 va, .bool true]) rfl (by kernel_rfl) (by kernel_rfl) (by kernel_rfl) (fun _ _ _ h => h) (Or.inl ⟨by rfl, ?_⟩) hHeld ?_
  · intro w' hSw
    skip
    go_simp
  try simp only [Act.put, List.setIfInBounds_toArray, List.set_cons_zero, List.set_cons_succ]
  refine wpAnyH_take (i := 8) (oi := ⟨some 31, Op.extract (Operand.tmp 23) 0, _, _, _, none⟩) (v := .int .u8 va) rfl (by kernel_rfl) (by kernel_rfl) (by kernel_rfl) (fun _ _ _ h => h) (Or.inl ⟨by rfl, ?_⟩) hHeld ?_
  · intro w' hSw
    skip
    go_simp
  try simp only [Act.put, List.setIfInBounds_toArray, List.set_cons_zero, List.set_cons_succ]
  refine wpAnyH_take (i := 9) (oi := ⟨some 32, Op.extract (Operand.tmp 23) 1, _, _, _, none⟩) (v := .bool true) rfl (by kernel_rfl) (by kernel_rfl) (by kernel_rfl) (fun _ _ _ h => h) (Or.inl ⟨by rfl, ?_⟩) hHeld ?_
  · intro w' hSw
    skip
    go_simp
  try simp only [Act.put, List.setIfInBounds_toArray, List.set_cons_zero, List.set_cons_succ]
  refine wpAnyH_take (i := 10) (oi := ⟨some 33, Op.fieldAddr _ (Operand.tmp 6) 1, _, _, _, none⟩) (v := .pointer (some ⟨w.heap.size + 1 + 1, 1, none⟩)) rfl (by kernel_rfl) (by kernel_rfl) (by kernel_rfl) (fun _ _ _ h => h) (Or.inl ⟨by rfl, ?_⟩) hHeld ?_
  · intro w' hSw
    skip
    go_simp
  try simp only [Act.put, List.setIfInBounds_toArray, List.set_cons_zero, List.set_cons_succ]
  refine wpAnyH_ready (rs := [11]) (by kernel_rfl) (by simp) ?_
  refine AllReadyH.cons (o := ⟨none, Op.store _ (Operand.tmp 33) (Operand.tmp 31), _, _, _, none⟩) rfl (fun K hK => ?_) AllReadyH.nil
  have ki := (cell_of_row _ _ 1 _ _ _ (hI1.out.next ((Below.refl _ _).drew))).trans rfl
  have fi := frozen_of_row _ _ 1 _ _ (hI1.out.next ((Below.refl _ _).drew))
  go_simp
  obtain ⟨V2, hV⟩ : ∃ V, V = (w1.setCell ⟨w.heap.size + 1 + 1, 1, none⟩ (.int .u8 va)).drew := ⟨_, rfl⟩
  rw [← hV]
  have hst : OfS w s op a b true gw ws V2 := by rw [hV]; exact hHeld.set 1 _
  have hit : Hid (IRow w op va 0 0 V2) := Lib.hid (by rw [hV]; exact (hI1.out.next ((Below.refl _ _).drew)).a va)
  clear hV
  refine hK.out _ _ hst (fun hHeld => ?_)
  clear hK K ki fi
  try simp only [Act.put, List.setIfInBounds_toArray, List.set_cons_zero, List.set_cons_succ]
  refine wpAnyH_take (i := 12) (oi := ⟨some 8, Op.assign (Operand.tmp 32), _, _, _, none⟩) (v := .bool true) rfl (by kernel_rfl) (by kernel_rfl) (by kernel_rfl) (fun _ _ _ h => h) (Or.inl ⟨by rfl, ?_⟩) hHeld ?_
  · intro w' hSw
    skip
    go_simp
  try simp only [Act.put, List.setIfInBounds_toArray, List.set_cons_zero, List.set_cons_succ]
  refine wpAnyH_done (by kernel_rfl) ?_ _
  have hS2 := Lib.hid hHeld
  have hI2 := hit
  clear hHeld hit hst
  have kn2 := (cell_of_row _ _ 2 _ _ _ hS2.out.nm).trans rfl
  have kn3 := (cell_of_row _ _ 3 _ _ _ hS2.out.nm).trans rfl
  have kn4 := (cell_of_row _ _ 4 _ _ _ hS2.out.nm).trans rfl
  have kr0 := (cell_of_row _ _ 0 _ _ _ hS2.out.ret).trans rfl
  have fr0 := frozen_of_row _ _ 0 _ _ hS2.out.ret
  have ki0 := (cell_of_row _ _ 0 _ _ _ hI2.out).trans rfl
  have fi0 := frozen_of_row _ _ 0 _ _ hI2.out
  have kr1 := (cell_of_row _ _ 1 _ _ _ hS2.out.ret).trans rfl
  have fr1 := frozen_of_row _ _ 1 _ _ hS2.out.ret
  have ki1 := (cell_of_row _ _ 1 _ _ _ hI2.out).trans rfl
  have fi1 := frozen_of_row _ _ 1 _ _ hI2.out
  have kr2 := (cell_of_row _ _ 2 _ _ _ hS2.out.ret).trans rfl
  have fr2 := frozen_of_row _ _ 2 _ _ hS2.out.ret
  have ki2 := (cell_of_row _ _ 2 _ _ _ hI2.out).trans rfl
  have fi2 := frozen_of_row _ _ 2 _ _ hI2.out
  have kr3 := (cell_of_row _ _ 3 _ _ _ hS2.out.ret).trans rfl
  have fr3 := frozen_of_row _ _ 3 _ _ hS2.out.ret
  have ki3 := (cell_of_row _ _ 3 _ _ _ hI2.out).trans rfl
  have fi3 := frozen_of_row _ _ 3 _ _ hI2.out
  go_wp2_with fail
  clear kn2 kn3 kn4 kr0 kr1 kr2 kr3 fr0 fr1 fr2 fr3 ki0 ki1 ki2 ki3 fi0 fi1 fi2 fi3
  have hSd := hS2.out.next ((Below.refl _ _).drew)
  refine wp_region_held_drew (S := fun w' => OfS w s op a b true gw ws w') (by kernel_rfl) hSd (fun hHeld => ?_)
  clear hSd
  refine wpAnyH_take (i := 0) (oi := ⟨some 43, Op.move (Operand.tmp 1), _, _, _, none⟩) (v := .slice (some ⟨gw, 0, none⟩) N cap) rfl (by kernel_rfl) (by kernel_rfl) (by kernel_rfl) (fun _ _ _ h => h) (Or.inl ⟨by rfl, ?_⟩) hHeld ?_
  · intro w' hSw
    skip
    go_simp
  try simp only [Act.put, List.setIfInBounds_toArray, List.set_cons_zero, List.set_cons_succ]
  refine wpAnyH_take (i := 1) (oi := ⟨some 44, Op.move (Operand.tmp 7), _, _, _, none⟩) (v := .int .i64 2) rfl (by kernel_rfl) (by kernel_rfl) (by kernel_rfl) (fun _ _ _ h => h) (Or.inl ⟨by rfl, ?_⟩) hHeld ?_
  · intro w' hSw
    skip
    go_simp
  try simp only [Act.put, List.setIfInBounds_toArray, List.set_cons_zero, List.set_cons_succ]
  refine wpAnyH_take (i := 2) (oi := ⟨some 45, Op.indexAddr _ (Operand.tmp 43) (Operand.tmp 44), _, _, _, none⟩) (v := .pointer (some ⟨gw, 2, none⟩)) rfl (by kernel_rfl) (by kernel_rfl) (by kernel_rfl) (fun _ _ _ h => h) (Or.inl ⟨by rfl, ?_⟩) hHeld ?_
  · intro w' hSw
    skip
    go_simp
  try simp only [Act.put, List.setIfInBounds_toArray, List.set_cons_zero, List.set_cons_succ]
  refine wpAnyH_take (i := 3) (oi := ⟨some 46, Op.load _ (Operand.tmp 45), _, _, _, none⟩) (v := .string ⟨xb.toArray⟩) rfl (by kernel_rfl) (by kernel_rfl) (by kernel_rfl) (fun _ _ _ h => h) (Or.inl ⟨by rfl, ?_⟩) hHeld ?_
  · intro w' hSw
    have k0 := hSw.ws 2 xb hxb.out
    go_simp
  try simp only [Act.put, List.setIfInBounds_toArray, List.set_cons_zero, List.set_cons_succ]
  refine wpAnyH_take (i := 4) (oi := ⟨some 47, Op.fieldAddr _ (Operand.tmp 2) 3, _, _, _, none⟩) (v := .pointer (some ⟨w.heap.size, 3, none⟩)) rfl (by kernel_rfl) (by kernel_rfl) (by kernel_rfl) (fun _ _ _ h => h) (Or.inl ⟨by rfl, ?_⟩) hHeld ?_
  · intro w' hSw
    skip
    go_simp
  try simp only [Act.put, List.setIfInBounds_toArray, List.set_cons_zero, List.set_cons_succ]
  refine wpAnyH_take (i := 5) (oi := ⟨some 48, Op.load _ (Operand.tmp 47), _, _, _, none⟩) (v := .int .u8 b) rfl (by kernel_rfl) (by kernel_rfl) (by kernel_rfl) (fun _ _ _ h => h) (Or.inl ⟨by rfl, ?_⟩) hHeld ?_
  · intro w' hSw
    have k0 := (cell_of_row w' _ 3 _ _ _ hSw.nm).trans rfl
    go_simp
  try simp only [Act.put, List.setIfInBounds_toArray, List.set_cons_zero, List.set_cons_succ]
  refine wpAnyH_ready (rs := [6]) (by kernel_rfl) (by simp) ?_
  refine AllReadyH.cons (o := ⟨some 49, Op.call { callee := Callee.value (Operand.func _), args := #[Operand.tmp 46, Operand.tmp 48], argTypes := _ }, _, _, _, none⟩) rfl (fun K hK => ?_) AllReadyH.nil
  go_simp
  go_at_call 92
  refine (Hb.out _).mono ?_
  rintro e wq ⟨rfl, rfl⟩
  refine hK.out _ _ hHeld (fun hHeld => ?_)
  clear hK K
  try simp only [Act.put, List.setIfInBounds_toArray, List.set_cons_zero, List.set_cons_succ]
  refine wpAnyH_take (i := 7) (oi := ⟨some 42, Op.move (Operand.tmp 49), _, _, _, none⟩) (v := .tuple #[.int .u8 vb, .bool true]) rfl (by kernel_rfl) (by kernel_rfl) (by kernel_rfl) (fun _ _ _ h => h) (Or.inl ⟨by rfl, ?_⟩) hHeld ?_
  · intro w' hSw
    skip
    go_simp
  try simp only [Act.put, List.setIfInBounds_toArray, List.set_cons_zero, List.set_cons_succ]
  refine wpAnyH_take (i := 8) (oi := ⟨some 50, Op.extract (Operand.tmp 42) 0, _, _, _, none⟩) (v := .int .u8 vb) rfl (by kernel_rfl) (by kernel_rfl) (by kernel_rfl) (fun _ _ _ h => h) (Or.inl ⟨by rfl, ?_⟩) hHeld ?_
  · intro w' hSw
    skip
    go_simp
  try simp only [Act.put, List.setIfInBounds_toArray, List.set_cons_zero, List.set_cons_succ]
  refine wpAnyH_take (i := 9) (oi := ⟨some 51, Op.extract (Operand.tmp 42) 1, _, _, _, none⟩) (v := .bool true) rfl (by kernel_rfl) (by kernel_rfl) (by kernel_rfl) (fun _ _ _ h => h) (Or.inl ⟨by rfl, ?_⟩) hHeld ?_
  · intro w' hSw
    skip
    go_simp
  try simp only [Act.put, List.setIfInBounds_toArray, List.set_cons_zero, List.set_cons_succ]
  refine wpAnyH_take (i := 10) (oi := ⟨some 52, Op.fieldAddr _ (Operand.tmp 6) 2, _, _, _, none⟩) (v := .pointer (some ⟨w.heap.size + 1 + 1, 2, none⟩)) rfl (by kernel_rfl) (by kernel_rfl) (by kernel_rfl) (fun _ _ _ h => h) (Or.inl ⟨by rfl, ?_⟩) hHeld ?_
  · intro w' hSw
    skip
    go_simp
  try simp only [Act.put, List.setIfInBounds_toArray, List.set_cons_zero, List.set_cons_succ]
  refine wpAnyH_ready (rs := [11]) (by kernel_rfl) (by simp) ?_
  refine AllReadyH.cons (o := ⟨none, Op.store _ (Operand.tmp 52) (Operand.tmp 50), _, _, _, none⟩) rfl (fun K hK => ?_) AllReadyH.nil
  have ki := (cell_of_row _ _ 2 _ _ _ (hI2.out.next ((Below.refl _ _).drew))).trans rfl
  have fi := frozen_of_row _ _ 2 _ _ (hI2.out.next ((Below.refl _ _).drew))
  go_simp
  obtain ⟨V3, hV⟩ : ∃ V, V = (V2.setCell ⟨w.heap.size + 1 + 1, 2, none⟩ (.int .u8 vb)).drew := ⟨_, rfl⟩
  rw [← hV]
  have hst : OfS w s op a b true gw ws V3 := by rw [hV]; exact hHeld.set 2 _
  have hit : Hid (IRow w op va vb 0 V3) := Lib.hid (by rw [hV]; exact (hI2.out.next ((Below.refl _ _).drew)).b vb)
  clear hV
  refine hK.out _ _ hst (fun hHeld => ?_)
  clear hK K ki fi
  try simp only [Act.put, List.setIfInBounds_toArray, List.set_cons_zero, List.set_cons_succ]
  refine wpAnyH_take (i := 12) (oi := ⟨some 8, Op.assign (Operand.tmp 51), _, _, _, none⟩) (v := .bool true) rfl (by kernel_rfl) (by kernel_rfl) (by kernel_rfl) (fun _ _ _ h => h) (Or.inl ⟨by rfl, ?_⟩) hHeld ?_
  · intro w' hSw
    skip
    go_simp
  try simp only [Act.put, List.setIfInBounds_toArray, List.set_cons_zero, List.set_cons_succ]
  refine wpAnyH_done (by kernel_rfl) ?_ _
  have hS3 := Lib.hid hHeld
  have hI3 := hit
  clear hHeld hit hst
  have kn2 := (cell_of_row _ _ 2 _ _ _ hS3.out.nm).trans rfl
  have kn3 := (cell_of_row _ _ 3 _ _ _ hS3.out.nm).trans rfl
  have kn4 := (cell_of_row _ _ 4 _ _ _ hS3.out.nm).trans rfl
  have kr0 := (cell_of_row _ _ 0 _ _ _ hS3.out.ret).trans rfl
  have fr0 := frozen_of_row _ _ 0 _ _ hS3.out.ret
  have ki0 := (cell_of_row _ _ 0 _ _ _ hI3.out).trans rfl
  have fi0 := frozen_of_row _ _ 0 _ _ hI3.out
  have kr1 := (cell_of_row _ _ 1 _ _ _ hS3.out.ret).trans rfl
  have fr1 := frozen_of_row _ _ 1 _ _ hS3.out.ret
  have ki1 := (cell_of_row _ _ 1 _ _ _ hI3.out).trans rfl
  have fi1 := frozen_of_row _ _ 1 _ _ hI3.out
  have kr2 := (cell_of_row _ _ 2 _ _ _ hS3.out.ret).trans rfl
  have fr2 := frozen_of_row _ _ 2 _ _ hS3.out.ret
  have ki2 := (cell_of_row _ _ 2 _ _ _ hI3.out).trans rfl
  have fi2 := frozen_of_row _ _ 2 _ _ hI3.out
  have kr3 := (cell_of_row _ _ 3 _ _ _ hS3.out.ret).trans rfl
  have fr3 := frozen_of_row _ _ 3 _ _ hS3.out.ret
  have ki3 := (cell_of_row _ _ 3 _ _ _ hI3.out).trans rfl
  have fi3 := frozen_of_row _ _ 3 _ _ hI3.out
  have kw := hS3.out.ws 3 xi hxi.out
  go_wp2_with fail
  refine (Hi.out _).mono ?_
  rintro e w5 ⟨⟨v, bb, rfl, hq, hv0, hv1⟩, hb5⟩
  obtain ⟨rfl, rfl⟩ : bb = true ∧ v = vi := by
    cases bb
    · cases hq
    · exact ⟨rfl, (Option.some.inj hq).symm⟩
  clear hq
  have wv : IntKind.i32.wrap v = v := IntWalk.i32_in _ (by omega)
  clear kw kn2 kn3 kn4 kr0 kr1 kr2 kr3 fr0 fr1 fr2 fr3 ki0 ki1 ki2 ki3 fi0 fi1 fi2 fi3
  have hS4 := Lib.hid (hS3.out.next hb5)
  have hI4 := Lib.hid (hI3.out.next hb5)
  clear hb5
  have kn2 := (cell_of_row _ _ 2 _ _ _ hS4.out.nm).trans rfl
  have kn3 := (cell_of_row _ _ 3 _ _ _ hS4.out.nm).trans rfl
  have kn4 := (cell_of_row _ _ 4 _ _ _ hS4.out.nm).trans rfl
  have kr0 := (cell_of_row _ _ 0 _ _ _ hS4.out.ret).trans rfl
  have fr0 := frozen_of_row _ _ 0 _ _ hS4.out.ret
  have ki0 := (cell_of_row _ _ 0 _ _ _ hI4.out).trans rfl
  have fi0 := frozen_of_row _ _ 0 _ _ hI4.out
  have kr1 := (cell_of_row _ _ 1 _ _ _ hS4.out.ret).trans rfl
  have fr1 := frozen_of_row _ _ 1 _ _ hS4.out.ret
  have ki1 := (cell_of_row _ _ 1 _ _ _ hI4.out).trans rfl
  have fi1 := frozen_of_row _ _ 1 _ _ hI4.out
  have kr2 := (cell_of_row _ _ 2 _ _ _ hS4.out.ret).trans rfl
  have fr2 := frozen_of_row _ _ 2 _ _ hS4.out.ret
  have ki2 := (cell_of_row _ _ 2 _ _ _ hI4.out).trans rfl
  have fi2 := frozen_of_row _ _ 2 _ _ hI4.out
  have kr3 := (cell_of_row _ _ 3 _ _ _ hS4.out.ret).trans rfl
  have fr3 := frozen_of_row _ _ 3 _ _ hS4.out.ret
  have ki3 := (cell_of_row _ _ 3 _ _ _ hI4.out).trans rfl
  have fi3 := frozen_of_row _ _ 3 _ _ hI4.out
  go_wp2_with fail
  refine (Hm.out _).mono ?_
  rintro e w6 ⟨rfl, hb6⟩
  clear kn2 kn3 kn4 kr0 kr1 kr2 kr3 fr0 fr1 fr2 fr3 ki0 ki1 ki2 ki3 fi0 fi1 fi2 fi3
  have hS5 := Lib.hid ((hS4.out.set 3 (.int .i32 v)).next hb6)
  have hI5 := Lib.hid ((hI4.out.imm v).next hb6)
  clear hb6
  have kn2 := (cell_of_row _ _ 2 _ _ _ hS5.out.nm).trans rfl
  have kn3 := (cell_of_row _ _ 3 _ _ _ hS5.out.nm).trans rfl
  have kn4 := (cell_of_row _ _ 4 _ _ _ hS5.out.nm).trans rfl
  have kr0 := (cell_of_row _ _ 0 _ _ _ hS5.out.ret).trans rfl
  have fr0 := frozen_of_row _ _ 0 _ _ hS5.out.ret
  have ki0 := (cell_of_row _ _ 0 _ _ _ hI5.out).trans rfl
  have fi0 := frozen_of_row _ _ 0 _ _ hI5.out
  have kr1 := (cell_of_row _ _ 1 _ _ _ hS5.out.ret).trans rfl
  have fr1 := frozen_of_row _ _ 1 _ _ hS5.out.ret
  have ki1 := (cell_of_row _ _ 1 _ _ _ hI5.out).trans rfl
  have fi1 := frozen_of_row _ _ 1 _ _ hI5.out
  have kr2 := (cell_of_row _ _ 2 _ _ _ hS5.out.ret).trans rfl
  have fr2 := frozen_of_row _ _ 2 _ _ hS5.out.ret
  have ki2 := (cell_of_row _ _ 2 _ _ _ hI5.out).trans rfl
  have fi2 := frozen_of_row _ _ 2 _ _ hI5.out
  have kr3 := (cell_of_row _ _ 3 _ _ _ hS5.out.ret).trans rfl
  have fr3 := frozen_of_row _ _ 3 _ _ hS5.out.ret
  have ki3 := (cell_of_row _ _ 3 _ _ _ hI5.out).trans rfl
  have fi3 := frozen_of_row _ _ 3 _ _ hI5.out
  go_wp2_with fail
  refine bodyPost_ret (v := .tuple #[.agg #[.int .u8 op, .int .u8 va, .int .u8 vb, .int .i32 v], .int .i64 0]) (by simp [results, Tryz.results76, go_sem, World.cell?_setCell_same', kr0, kr1, kr2, kr3]) rfl ⟨rfl, ?_⟩
  have hbl := hS5.out.below
  repeat (first | exact hbl | (refine Below.setCell ?_ (by first | (show w.heap.size ≤ w.heap.size + 1; omega) | (show w.heap.size ≤ w.heap.size + 1 + 1; omega)) _))
end Go.Proofs.YtgfljokamgbcaaaGreatDoor
