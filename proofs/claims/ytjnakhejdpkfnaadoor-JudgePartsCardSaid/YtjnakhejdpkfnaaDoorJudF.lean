/- judge: the makers of the parts. -/
import Derived.Test.YtjnakhejdpkfnaaDoorJudE
import Derived.Test.YtjnakhejdpkfnaaDoorJudC
import Derived.Laws.EntriesVeiled
namespace Go.Proofs.YtjnakhejdpkfnaaDoor
open Go.RowKit
set_option linter.unusedSimpArgs false
set_option linter.unusedVariables false
set_option maxRecDepth 100000

abbrev ptrV (p : Nat) : Value := .pointer (some ⟨p, 0, none⟩)

set_option maxHeartbeats 4000000 in
theorem numbers_c (nm : ByteArray) (x y : Int) (w : World) :
    Calls Tryd.prog 38 #[.string nm, .int .i64 x, .int .i64 y] w fun e w' =>
      e = .returned (.agg #[.string nm, .bool (x != y), .func (.func 48) #[] #[ptrV w.heap.size, ptrV (w.heap.size + 1)]]) ∧ NB2 w.heap.size (w.heap.size + 1) x y w' ∧ Below w.heap.size w w' := by
  go_enter Tryd.func38, Tryd.ntmps38
  go_wp2_with fail
  refine bodyPost_ret (v := .agg #[.string nm, .bool (x != y), .func (.func 48) #[] #[ptrV w.heap.size, ptrV (w.heap.size + 1)]]) (by simp [results, Tryd.results38, go_sem]) rfl ⟨rfl, ⟨heap_oldJ (heap_oldJ (heap_newJ rfl)), heap_oldJ (heap_newJ (by simp))⟩, ?_⟩
  exact (((Below.refl _ _).alloc (Nat.le_refl _) _).alloc (by simp) _).alloc (by simp; omega) _

set_option maxHeartbeats 4000000 in
theorem list_c (nm : ByteArray) (k : Int) (w : World) :
    Calls Tryd.prog 41 #[.string nm, .int .i64 k] w fun e w' =>
      e = .returned (.agg #[.string nm, .bool (decide (0 ≤ k)), .func (.func 54) #[] #[ptrV w.heap.size]]) ∧ w'.heap[w.heap.size]? = some (.cells #[.int .i64 k] 3 (0, 0)) ∧ Below w.heap.size w w' := by
  go_enter Tryd.func41, Tryd.ntmps41
  go_wp2_with fail
  refine bodyPost_ret (v := .agg #[.string nm, .bool (decide (0 ≤ k)), .func (.func 54) #[] #[ptrV w.heap.size]]) (by simp [results, Tryd.results41, go_sem]) rfl ⟨rfl, heap_oldJ (heap_newJ rfl), ?_⟩
  exact ((Below.refl _ _).alloc (Nat.le_refl _) _).alloc (by simp) _

theorem bcellJ {W w1 : World} (hb : Below W.heap.size W w1) : (∀ b o, b < W.heap.size → w1.cell? ⟨b, o, none⟩ = W.cell? ⟨b, o, none⟩) ∧ (∀ b o, b < W.heap.size → w1.frozen? ⟨b, o, none⟩ = W.frozen? ⟨b, o, none⟩) :=
  ⟨fun b o h => hb.cell (p := ⟨b, o, none⟩) h, fun b o h => hb.frozen (p := ⟨b, o, none⟩) h⟩

theorem row_setOJ {w : World} {b c : Nat} {o : Obj} (h : w.heap[b]? = some o) (hc : b ≠ c) (j : Nat) (v : Value) : (w.setCell ⟨c, j, none⟩ v).heap[b]? = some o := (Below.heap_setCell w ⟨c, j, none⟩ _ b hc).trans h

/-- The boxes of a part that is bytes. -/
structure BBox (p q k : Nat) (va vb : Value) (n : Int) (w : World) : Prop where
  a : w.heap[p]? = some (.cells #[va] 22 (0, 0))
  b : w.heap[q]? = some (.cells #[vb] 22 (0, 0))
  k : w.heap[k]? = some (.cells #[.int .i64 n] 3 (0, 0))

set_option maxHeartbeats 4000000 in
theorem bytesP_c (nm : ByteArray) (ao bo : Option Addr) (la ca lb cb : Nat) (L M : List Int) (w : World) (hA : ByteArg w ao la ca L) (hB : ByteArg w bo lb cb M) :
    Calls Tryd.prog 40 #[.string nm, .slice ao la ca, .slice bo lb cb] w fun e w' => ∃ k,
      e = .returned (.agg #[.string nm, .bool (decide (0 ≤ firstL L M)), .func (.func 52) #[] #[ptrV k, ptrV w.heap.size, ptrV (w.heap.size + 1)]]) ∧
      BBox w.heap.size (w.heap.size + 1) k (.slice ao la ca) (.slice bo lb cb) (firstL L M) w' ∧ w.heap.size ≤ k ∧ Below w.heap.size w w' := by
  have HC := Lib.hid fun (W : World) (hb : Below w.heap.size w W) => firstB_c ao bo la ca lb cb L M W (hA.below hb) (hB.below hb)
  clear hA hB
  generalize firstL L M = n at HC ⊢
  have B0 : ∀ o1 o2 o3, Below w.heap.size w (((w.alloc o1).alloc o2).alloc o3) := fun o1 o2 o3 => (((Below.refl _ _).alloc (Nat.le_refl _) _).alloc (by simp) _).alloc (by simp; omega) _
  go_enter Tryd.func40, Tryd.ntmps40
  go_wp2_with fail
  refine (HC.out _ (B0 _ _ _)).mono ?_
  rintro e w1 ⟨rfl, hb1⟩
  have s1 : w.heap.size + 1 + 1 < w1.heap.size := by have := hb1.size; simp at this; omega
  have B1 : Below w.heap.size w w1 := below_nextJ (B0 _ _ _) hb1
  have r0 := (hb1.block w.heap.size (by simp; omega)).trans (heap_oldJ (heap_oldJ (heap_newJ rfl)))
  have r1 := (hb1.block (w.heap.size + 1) (by simp)).trans (heap_oldJ (heap_newJ (by simp)))
  obtain ⟨hcl, hfz⟩ := bcellJ hb1
  go_wp2_with fail
  refine bodyPost_ret (v := .agg #[.string nm, .bool (decide (0 ≤ n)), .func (.func 52) #[] #[ptrV w1.heap.size, ptrV w.heap.size, ptrV (w.heap.size + 1)]]) ?_ rfl ⟨w1.heap.size, rfl, ⟨?_, ?_, ?_⟩, by omega, ?_⟩
  · simp [results, Tryd.results40, go_sem, hcl, s1]
  · refine heap_oldJ (row_setOJ (row_setOJ (row_setOJ r0 ?_ _ _) ?_ _ _) ?_ _ _) <;> omega
  · refine heap_oldJ (row_setOJ (row_setOJ (row_setOJ r1 ?_ _ _) ?_ _ _) ?_ _ _) <;> omega
  · refine heap_newJ ?_
    simp
  · refine Below.alloc (Below.setCell (Below.setCell (Below.setCell B1 ?_ _) ?_ _) ?_ _) ?_ _
    iterate 3 (show w.heap.size ≤ w.heap.size + 1 + 1; omega)
    have := B1.size
    simpa using this
end Go.Proofs.YtjnakhejdpkfnaaDoor
