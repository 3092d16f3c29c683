/- The document's Do (mummerref09): instructions. (Written by mkSR.py.) -/
import Derived.Test.YtlgnhjalhfednaaSenR
import Derived.BigRegion
namespace Go.Proofs.Ytlgnhjalhfednaa
open Go.RowKit
set_option linter.unusedSimpArgs false
set_option linter.unusedVariables false
set_option maxRecDepth 100000

/-- The blocks that stay. -/
structure RfS (w : World) (A I : Array Value) (w' : World) : Prop where
  a : w'.heap[w.heap.size]? = some (.cells A 25 (0, 0))
  i : w'.heap[w.heap.size + 1]? = some (.cells I 27 (0, 0))
  zs : w'.heap[w.heap.size + 1 + 1]? = some (.cells zero19 25 (0, 0))
  ze : w'.heap[w.heap.size + 1 + 1 + 1]? = some (.cells (effA 0) 29 (0, 0))
  below : Below w.heap.size w w'
  size : w.heap.size + 1 + 1 + 1 < w'.heap.size

theorem RfS.next {w w1 w2 : World} {A I : Array Value} (h : RfS w A I w1) (hb : Below w1.heap.size w1 w2) : RfS w A I w2 :=
  have hs := h.size
  ⟨(hb.block _ (by omega)).trans h.a, (hb.block _ (by omega)).trans h.i, (hb.block _ (by omega)).trans h.zs, (hb.block _ (by omega)).trans h.ze, h.below.trans (hb.mono (by omega)), Nat.lt_of_lt_of_le h.size hb.size⟩
theorem RfS.set {w w1 : World} {A I : Array Value} (h : RfS w A I w1) (b j : Nat) (v : Value) (hb : w.heap.size + 1 + 1 + 1 < b) : RfS w A I (w1.setCell ⟨b, j, none⟩ v) :=
  have hk : ∀ k, k ≠ b → (w1.setCell ⟨b, j, none⟩ v).heap[k]? = w1.heap[k]? := fun k hk => Below.heap_setCell w1 ⟨b, j, none⟩ _ k hk
  ⟨(hk _ (by omega)).trans h.a, (hk _ (by omega)).trans h.i, (hk _ (by omega)).trans h.zs, (hk _ (by omega)).trans h.ze, h.below.setCell (by simp; omega) _, by have := h.size; simpa using this⟩
theorem RfS.drew {w w1 : World} {A I : Array Value} (h : RfS w A I w1) : RfS w A I w1.drew := ⟨h.a, h.i, h.zs, h.ze, h.below.drew, h.size⟩
theorem row_setC {w : World} {b : Nat} {A : Array Value} {t : TypeId} {f : Nat × Nat} (h : w.heap[b]? = some (.cells A t f)) (j : Nat) (v : Value) : (w.setCell ⟨b, j, none⟩ v).heap[b]? = some (.cells (A.setIfInBounds j v) t f) := by
  unfold World.setCell
  simp only
  rw [Array.getElem?_modify, if_pos rfl, h]
  rfl
theorem row_setO {w : World} {b c : Nat} {o : Obj} (h : w.heap[b]? = some o) (hc : b ≠ c) (j : Nat) (v : Value) : (w.setCell ⟨c, j, none⟩ v).heap[b]? = some o := (Below.heap_setCell w ⟨c, j, none⟩ _ b hc).trans h
theorem row_free {w : World} {b : Nat} {A : Array Value} {t : TypeId} (h : w.heap[b]? = some (.cells A t (0, 0))) (j : Nat) : w.frozen? ⟨b, j, none⟩ = false := by simp [World.frozen?, h]
theorem wp_world {P : Program} {c : Code} {Q : Exit → Act → World → Prop} {a : Act} {W : World} (R : World → Prop) (hR : R W) (h : ∀ w6, R w6 → c.wp P Q a w6) : c.wp P Q a W := h W hR
theorem below_setRow {B : Nat} {w w' : World} (h : Below B w w') (k : Nat) (hk : B ≤ k) (c : Array Value) : Below B w (w'.setRow k c) :=
  ⟨h.os, h.tape, h.output, by simpa [World.setRow] using h.size, fun j hj => (setRow_other _ _ _ _ (by omega)).trans (h.block j hj)⟩
theorem yields_stR {ops : Array Oper} {Sp : World → Prop} {op : Oper} {a : Act} (hw : Region.wanted op (yielded ops a.tmps) = true) (x : Operand) (ho : op.op = .load 25 x)
    (b : Nat) (hx : a.eval x = .pointer (some ⟨b, 0, none⟩)) (cs : Array Value) (hs : cs.size = 19) (hS : ∀ w, Sp w → w.heap[b]? = some (.cells cs 25 (0, 0))) : YieldsIf Try.prog ops Sp op (.agg cs) a :=
  .inl ⟨hw, fun w hw' => by
    unfold execOp
    simp only [ho, Instr.loadAt, Instr.sureAddr, hx, Sem.run_bind, Sem.run_pure, Result.andThen_ok, run_loadVar_row w b 25 25 cs (0, 0) _ (hS w hw') Try.underlying25 rfl (by rw [hs]; kernel_rfl)]⟩
end Go.Proofs.Ytlgnhjalhfednaa
