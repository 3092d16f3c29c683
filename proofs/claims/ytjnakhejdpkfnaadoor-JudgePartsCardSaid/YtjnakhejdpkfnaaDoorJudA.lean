/- Where two lists differ: judge.first at bytes; the document's Bytes. (Written by mkJA.py.) -/
import Derived.Test.YtjnakhejdpkfnaaDoorRows
import Derived.Test.YtjnakhejdpkfnaaDoorBytes
import Derived.WalkKit
import Derived.WalkLawsBesides
import Derived.Lib.Hide
import Derived.Below
import Derived.Deep.LoopGhost
import Derived.BigQuiet
import Derived.Deep.QuietTactic
import Derived.WalkSmall
namespace Go.Proofs.YtjnakhejdpkfnaaDoor
open Go.RowKit
set_option linter.unusedSimpArgs false
set_option linter.unusedVariables false
set_option maxRecDepth 100000

/-- Where two lists differ; -1: nowhere. -/
def firstL {α : Type} [DecidableEq α] : List α → List α → Int
  | [], [] => -1
  | x :: l, y :: m => if x = y then (if firstL l m = -1 then -1 else firstL l m + 1) else 0
  | _, _ => 0
theorem firstL_bd {α : Type} [DecidableEq α] : ∀ (l m : List α), -1 ≤ firstL l m ∧ firstL l m ≤ max l.length m.length
  | [], [] => by simp [firstL]
  | x :: l, y :: m => by
    have := firstL_bd l m
    unfold firstL
    simp only [List.length_cons]
    split
    · split <;> omega
    · omega
  | [], y :: m => by simp [firstL]; omega
  | x :: l, [] => by simp [firstL]; omega
theorem firstL_at {α : Type} [DecidableEq α] : ∀ {l m : List α} {k : Nat}, (∀ j, j < k → l[j]? = m[j]?) → l[k]? ≠ m[k]? → firstL l m = (k : Int)
  | [], [], k, _, h => absurd rfl h
  | x :: l, y :: m, 0, _, h => by
    unfold firstL; rw [if_neg (fun e => h (by simp [e]))]; rfl
  | x :: l, y :: m, k + 1, hj, h => by
    have h0 := hj 0 (by omega)
    simp at h0
    have ih := firstL_at (l := l) (m := m) (k := k) (fun j hjk => by simpa using hj (j + 1) (by omega)) (by simpa using h)
    unfold firstL; rw [if_pos h0, ih, if_neg (by omega)]; omega
  | [], y :: m, 0, _, h => rfl
  | [], y :: m, k + 1, hj, h => by have := hj 0 (by omega); simp at this
  | x :: l, [], 0, _, h => rfl
  | x :: l, [], k + 1, hj, h => by have := hj 0 (by omega); simp at this
theorem firstL_none {α : Type} [DecidableEq α] {l m : List α} (h : ∀ j : Nat, l[j]? = m[j]?) : firstL l m = -1 := by
  have : l = m := List.ext_getElem? h
  subst this
  induction l with
  | nil => rfl
  | cons x l ih => unfold firstL; rw [if_pos rfl, if_pos (ih (fun j => rfl))]

theorem ret_intJ {a b : Int} (h : a = b) : Ending.returned (.int .i64 a) = .returned (.int .i64 b) := by rw [h]
theorem heap_newJ {w : World} {o : Obj} {k : Nat} (hk : k = w.heap.size) : (w.alloc o).heap[k]? = some o := by subst hk; exact heap_alloc_new w o
theorem heap_oldJ {w : World} {o x : Obj} {k : Nat} (h : w.heap[k]? = some x) : (w.alloc o).heap[k]? = some x := by
  have hk : k < w.heap.size := (Array.getElem?_eq_some_iff.1 h).1
  rw [heap_alloc_old w o hk]; exact h

theorem BytesIn.below {w w' : World} {ao : Option Addr} {L : List Int} (h : BytesIn w ao L) (hb : Below w.heap.size w w') : BytesIn w' ao L := by
  rcases h with h | ⟨blk, off, e, h⟩
  · exact .inl h
  · exact .inr ⟨blk, off, e, fun i hi => by
      have := h i hi
      exact (hb.cell (World.block_lt_of_cell? w _ this)).trans this⟩
theorem ByteArg.below {w w' : World} {ao : Option Addr} {len cap : Nat} {L : List Int} (h : ByteArg w ao len cap L) (hb : Below w.heap.size w w') : ByteArg w' ao len cap L :=
  ⟨h.1, h.2.1, h.2.2.1, h.2.2.2.1, h.2.2.2.2.below hb⟩

/-- The two boxes that the closure has taken. -/
structure JBox (w : World) (ba bb : Nat) (va vb : Value) (t : TypeId) : Prop where
  a : w.heap[ba]? = some (.cells #[va] t (0, 0))
  b : w.heap[bb]? = some (.cells #[vb] t (0, 0))

set_option maxHeartbeats 4000000 in
theorem differsB_c (ao bo : Option Addr) (la ca lb cb : Nat) (L M : List Int) (ba bb k : Nat) (w : World) (hx : JBox w ba bb (.slice ao la ca) (.slice bo lb cb) 22) (hA : ByteArg w ao la ca L) (hB : ByteArg w bo lb cb M) (hk : k < 9223372036854775807) :
    Calls Tryd.prog 35 #[.int .i64 (k : Int), .pointer (some ⟨ba, 0, none⟩), .pointer (some ⟨bb, 0, none⟩)] w fun e w' => e = .returned (.bool (decide (L[k]? ≠ M[k]? ∨ (L[k]? = none ∧ M[k]? = none)))) ∧ ∃ n, w' = w.drewN n := by
  obtain ⟨a1, a2, a3, a4, a5⟩ := hA
  obtain ⟨b1, b2, b3, b4, b5⟩ := hB
  subst a1 b1
  have xa : w.cell? ⟨ba, 0, none⟩ = some (.slice ao L.length ca) := (cell_of_row w _ _ _ _ _ hx.a).trans rfl
  have xb : w.cell? ⟨bb, 0, none⟩ = some (.slice bo M.length cb) := (cell_of_row w _ _ _ _ _ hx.b).trans rfl
  obtain ⟨res, hres⟩ : ∃ res, res = decide (L[k]? ≠ M[k]? ∨ (L[k]? = none ∧ M[k]? = none)) := ⟨_, rfl⟩
  rw [← hres]
  have HR := Lib.hid hres
  clear hres hx
  by_cases c1 : k < L.length
  · have d1 : ¬ (L.length : Int) ≤ (k : Int) := by omega
    by_cases c2 : k < M.length
    · have d2 : ¬ (M.length : Int) ≤ (k : Int) := by omega
      obtain ⟨blk, off, rfl, hc⟩ : ∃ blk off, ao = some ⟨blk, off, none⟩ ∧ ∀ i, i < L.length → w.cell? ⟨blk, off + i, none⟩ = some (.int .u8 (L.getD i 0)) := by
        rcases a5 with h | h
        · rw [h] at c1; simp at c1
        · exact h
      obtain ⟨blk2, off2, rfl, hc2⟩ : ∃ blk off, bo = some ⟨blk, off, none⟩ ∧ ∀ i, i < M.length → w.cell? ⟨blk, off + i, none⟩ = some (.int .u8 (M.getD i 0)) := by
        rcases b5 with h | h
        · rw [h] at c2; simp at c2
        · exact h
      have x1 := hc k c1
      have x2 := hc2 k c2
      have i1 : (k : Int) < (L.length : Int) := by omega
      have i2 : (k : Int) < (M.length : Int) := by omega
      have g1 : L[k]? = some (L.getD k 0) := by simp [List.getD, List.getElem?_eq_getElem c1]
      have g2 : M[k]? = some (M.getD k 0) := by simp [List.getD, List.getElem?_eq_getElem c2]
      have HG : Hid (res = (L.getD k 0 != M.getD k 0)) := Lib.hid (by
        rw [HR.out, g1, g2]
        generalize L.getD k 0 = y1
        generalize M.getD k 0 = y2
        by_cases e : y1 = y2 <;> simp [e])
      clear g1 g2 hc hc2 a4 b4
      have e1 : decide (L.length ≤ k) = false := by simp; omega
      have e2 : decide (M.length ≤ k) = false := by simp; omega
      generalize L.getD k 0 = y1 at x1 HG
      generalize M.getD k 0 = y2 at x2 HG
      go_enter Tryd.func35, Tryd.ntmps35
      go_wp2_with fail
      go_quiet (fail)
      go_wp2_with fail
      go_ret
      exact ⟨by rw [HG.out]; rfl, _, rfl⟩
    · have d2 : (M.length : Int) ≤ (k : Int) := by omega
      have HG : Hid (res = true) := Lib.hid (by
        rw [HR.out, List.getElem?_eq_getElem c1, List.getElem?_eq_none (by omega : M.length ≤ k)]; simp)
      clear a4 b4 a5 b5
      have e1 : decide (L.length ≤ k) = false := by simp; omega
      have e2 : decide (M.length ≤ k) = true := by simp; omega
      go_enter Tryd.func35, Tryd.ntmps35
      go_wp2_with fail
      go_quiet (fail)
      go_wp2_with fail
      go_ret
      exact ⟨by rw [HG.out]; rfl, _, rfl⟩
  · have d1 : (L.length : Int) ≤ (k : Int) := by omega
    have HG : Hid (res = true) := Lib.hid (by
      rw [HR.out, List.getElem?_eq_none (by omega : L.length ≤ k)]
      cases M[k]? <;> simp)
    clear a4 b4 a5 b5
    have e1 : decide (L.length ≤ k) = true := by simp; omega
    go_enter Tryd.func35, Tryd.ntmps35
    go_wp2_with fail
    go_quiet (fail)
    go_wp2_with fail
    go_ret
    exact ⟨by rw [HG.out]; rfl, _, rfl⟩
end Go.Proofs.YtjnakhejdpkfnaaDoor
