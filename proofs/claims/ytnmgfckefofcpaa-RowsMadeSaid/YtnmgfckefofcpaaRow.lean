/- Whole structs and arrays loaded from, and stored into, a variable of the call's own: laws that name the cells once (no unrolling). Whatever the program. -/
import Derived.WalkKit
import Derived.Deep.WholeRow
import Derived.Great.BuildSlice
namespace Go.Proofs.Ytnmgfckefofcpaa
open Go.RowKit

theorem heap_new' {w : World} {o : Obj} {k : Nat} (hk : k = w.heap.size) : (w.alloc o).heap[k]? = some o := by subst hk; exact heap_alloc_new w o
theorem heap_old' {w : World} {o x : Obj} {k : Nat} (h : w.heap[k]? = some x) : (w.alloc o).heap[k]? = some x := by
  have hk : k < w.heap.size := (Array.getElem?_eq_some_iff.1 h).1
  rw [heap_alloc_old w o hk]; exact h
theorem heap_drew' {w : World} {x : Obj} {k : Nat} (h : w.heap[k]? = some x) : w.drew.heap[k]? = some x := h
theorem setRow_new' (w : World) (c c' : Array Value) (t : TypeId) (k : Nat) (hk : k = w.heap.size) : (w.alloc (.cells c t)).setRow k c' = w.alloc (.cells c' t) := by subst hk; exact World.setRow_alloc_new w c c' t

theorem setRow_past {w w1 : World} (o : Obj) {c' : Array Value} {k : Nat} (h : w.setRow k c' = w1) (hk : k < w.heap.size) : (w.alloc o).setRow k c' = w1.alloc o := by
  subst h
  simp only [World.setRow, World.alloc]
  congr 1
  apply Array.ext_getElem?
  intro i
  rw [Array.getElem?_modify, Array.getElem?_push, Array.getElem?_push, Array.size_modify, Array.getElem?_modify]
  by_cases h1 : i = w.heap.size
  · subst h1
    simp [Nat.ne_of_lt hk]
  · simp [h1]
theorem setRow_drew {w w1 : World} {c' : Array Value} {k : Nat} (h : w.setRow k c' = w1) : w.drew.setRow k c' = w1.drew := by subst h; rfl
section
variable {P : Program}
/-- A whole row stored, the world behind it said by the caller. -/
theorem wpList_store_at {ops : Array Oper} {rest : List Oper} {o : Oper} {a : Act} {w : World} {Q : Exit → Act → World → Prop} (hgd : o.guard = none) (ty : TypeId) (x y : Operand) (ho : o.op = .store ty x y)
    (hd : o.dst = none) (g : Nat) (cells : Array Value) (hx : a.eval x = .pointer (some ⟨g, 0, none⟩)) (hy : a.eval y = .agg cells)
    (t : TypeId) (old : Array Value) (hg : w.heap[g]? = some (.cells old t (0, 0))) (hi : (P.info? ty).map (·.size) = some cells.size)
    (hold : old.size = cells.size) (h1 : cells.all (·.oneCell') = true) (w' : World) (hw : w.setRow g cells = w')
    (h : wpList P ops Q rest a w') : wpList P ops Q (o :: rest) a w := by
  subst hw
  exact wpList_store_rowTo hgd ty x y ho hd g cells hx hy t old hg hi hold h1 h
end

theorem below_alloc1 (w : World) (o : Obj) : Below w.heap.size w (w.alloc o) := (Below.refl _ _).alloc (Nat.le_refl _) _
theorem bcell {W w1 : World} (hb : Below W.heap.size W w1) : (∀ b o, b < W.heap.size → w1.cell? ⟨b, o, none⟩ = W.cell? ⟨b, o, none⟩) ∧ (∀ b o, b < W.heap.size → w1.frozen? ⟨b, o, none⟩ = W.frozen? ⟨b, o, none⟩) :=
  ⟨fun b o h => hb.cell (p := ⟨b, o, none⟩) h, fun b o h => hb.frozen (p := ⟨b, o, none⟩) h⟩
theorem below_box {w w1 : World} {o : Obj} (h : Below (w.alloc o).heap.size (w.alloc o) w1) : Below w.heap.size w w1 := (below_alloc1 w o).trans (h.mono (by simp))
theorem below_box2 {a w w1 : World} {o : Obj} (h : Below a.heap.size a w) (h1 : Below (w.alloc o).heap.size (w.alloc o) w1) : Below a.heap.size a w1 := (h.alloc h.size o).trans (h1.mono (by have := h.size; simp; omega))
theorem below_next {a w w1 : World} (h : Below a.heap.size a w) (h1 : Below w.heap.size w w1) : Below a.heap.size a w1 := h.trans (h1.mono h.size)
end Go.Proofs.Ytnmgfckefofcpaa
