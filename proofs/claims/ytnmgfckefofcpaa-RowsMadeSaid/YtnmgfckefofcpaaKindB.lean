/- The walk of kind.Table.fill: behind it the table's map says what is known of every operation. (Written by mkKB.py.) -/
import Derived.Test.YtnmgfckefofcpaaKindA
import Derived.Maps.Range
namespace Go.Proofs.Ytnmgfckefofcpaa
open Go.RowKit
set_option linter.unusedSimpArgs false
set_option linter.unusedVariables false

def kTable : List (List Int × Kn) := [
  ([0], ⟨1, []⟩),
  ([16], ⟨1, [98, 65]⟩),
  ([17, 18, 19, 20, 21, 22, 23, 24, 27, 28, 29], ⟨1, [97, 98, 65, 102]⟩),
  ([25, 30], ⟨1, [97, 98, 65, 102, 120]⟩),
  ([26, 31], ⟨1, [97, 98, 102]⟩),
  ([32], ⟨1, [65]⟩),
  ([33], ⟨1, [97, 65, 102]⟩),
  ([48, 50, 52, 54, 55], ⟨2, [98, 65, 120]⟩),
  ([49, 51, 53], ⟨2, [97, 98, 120]⟩),
  ([56], ⟨2, [97, 112, 80, 120]⟩),
  ([57], ⟨2, [112, 65, 80, 120]⟩),
  ([58], ⟨2, [97, 98, 65, 120]⟩),
  ([64, 65, 66, 67, 68, 69, 70, 71], ⟨3, []⟩),
  ([72], ⟨3, [76]⟩),
  ([73], ⟨3, [97]⟩),
  ([74], ⟨3, [97, 76]⟩),
  ([80], ⟨3, [120]⟩),
  ([1], ⟨4, [120]⟩),
  ([2], ⟨4, [102, 115]⟩),
  ([3], ⟨4, [115]⟩),
  ([96, 98], ⟨4, [65, 115]⟩),
  ([97], ⟨4, [97, 102, 115]⟩),
  ([99, 101], ⟨4, [97, 120]⟩),
  ([100], ⟨4, [65, 120]⟩),
  ([112, 113], ⟨5, []⟩)]

/-- What is known of an operation. -/
def knownF : Int → Kn := kTable.foldl (fun f r => updL f r.1 r.2) (fun _ => ⟨0, []⟩)

/-- How the world stands while the table is filled: where it began, the table's block, the table's map. -/
def FillSt (w : World) (tb n : Nat) (f : Int → Kn) (wi : World) : Prop :=
  wi.cell? ⟨w.heap.size, 0, none⟩ = some (.pointer (some ⟨tb, 0, none⟩)) ∧ KMap wi (w.heap.size + 1) n f ∧ wi.cell? ⟨tb, 4, none⟩ = some (.map (some (w.heap.size + 1))) ∧
  (∀ j, j ≠ 4 → wi.cell? ⟨tb, j, none⟩ = w.cell? ⟨tb, j, none⟩) ∧ (∀ j, wi.frozen? ⟨tb, j, none⟩ = w.frozen? ⟨tb, j, none⟩) ∧ w.grownBy wi (some tb) ∧ tb < w.heap.size ∧ w.heap.size + 1 < wi.heap.size

theorem fill_step (k : Kn) (L : List Int) (hb : ∀ x ∈ L, 0 ≤ x ∧ x < 256) {w : World} {tb n : Nat} {f : Int → Kn} {wi : World} (h : FillSt w tb n f wi) (hn : n + L.length ≤ 500) {sb : Nat} (hsb : sb = wi.heap.size) {len : Nat} (hlen : L.length = len) {C : Array Value} (hC : (L.map (Value.int .u8)).toArray = C) {kv : Value} (hkv : k.val = kv) :
    Calls Try.prog 51 #[kv, .slice (some ⟨sb, 0, none⟩) len len, .pointer (some ⟨w.heap.size, 0, none⟩)] (wi.alloc (.cells C 5)) fun e w' =>
      e = .returned (.tuple #[]) ∧ FillSt w tb (n + L.length) (updL f L k) w' := by
  subst hsb hlen hC hkv
  obtain ⟨h1, h2, h3, h4, h5, h6, h7, h8⟩ := h
  have hg0 := World.grownBy_alloc wi (.cells (L.map (Value.int .u8)).toArray 5) (some (w.heap.size + 1))
  refine (put_c k wi.heap.size L.length L w.heap.size tb (w.heap.size + 1) n f _ rfl hb hn (fun i hi => ?_) ((World.grownBy_alloc wi _ none).cell h1 (by simp)) ((World.grownBy_alloc wi _ none).cell h3 (by simp)) (kmap_kept h2 (World.grownBy_alloc wi _ none) (by simp))).mono ?_
  · rw [cell_of_row (wi.alloc (.cells (L.map (Value.int .u8)).toArray 5)) wi.heap.size i (L.map (Value.int .u8)).toArray 5 (0, 0) (heap_alloc_new wi _)]
    simp [List.getD, hi]
  · rintro e w' ⟨rfl, hk, hg⟩
    have hG := hg0.trans hg
    have hlt : (⟨tb, 0, none⟩ : Addr).block < wi.heap.size := Nat.lt_of_lt_of_le h7 h6.size
    have hne : some tb ≠ some (w.heap.size + 1) := by simp; omega
    refine ⟨rfl, hG.cell h1 (by simp), hk, hG.cell h3 hne, fun j hj => ?_, fun j => ?_, h6.andThen hG (fun j hj => by cases hj; left; omega), h7, ?_⟩
    · rw [hG.cell_far ⟨tb, j, none⟩ hlt hne, h4 j hj]
    · rw [hG.frozen_far ⟨tb, j, none⟩ hlt hne, h5 j]
    · have := hG.size; omega

theorem fill_start {w : World} {tb : Nat} {v : Value} (h : w.cell? ⟨tb, 4, none⟩ = some v) : FillSt w tb 0 (fun _ => ⟨0, []⟩) (((w.setCell ⟨tb, 4, none⟩ (.map (some (w.heap.size + 1)))).alloc (.cells #[.pointer (some ⟨tb, 0, none⟩)] 79)).alloc (.map #[] 0)) := by
  have hlt : tb < w.heap.size := World.block_lt_of_cell? w _ h
  have hg : w.grownBy (w.setCell ⟨tb, 4, none⟩ (.map (some (w.heap.size + 1)))) (some tb) :=
    ⟨rfl, rfl, rfl, by simp, fun k _ hk => Below.heap_setCell w ⟨tb, 4, none⟩ _ k (fun e => hk (by rw [e]))⟩
  have hG := (hg.trans (World.grownBy_alloc _ (.cells #[.pointer (some ⟨tb, 0, none⟩)] 79) (some tb))).trans (World.grownBy_alloc _ (.map #[] 0) (some tb))
  have hcell : ∀ j, (((w.setCell ⟨tb, 4, none⟩ (.map (some (w.heap.size + 1)))).alloc (.cells #[.pointer (some ⟨tb, 0, none⟩)] 79)).alloc (.map #[] 0)).cell? ⟨tb, j, none⟩ = (w.setCell ⟨tb, 4, none⟩ (.map (some (w.heap.size + 1)))).cell? ⟨tb, j, none⟩ := fun j => by
    rw [World.cell?_of_block (Below.heap_alloc _ _ tb (by simp; omega)), World.cell?_of_block (Below.heap_alloc _ _ tb (by simpa using hlt))]
  have hfr : ∀ j, (((w.setCell ⟨tb, 4, none⟩ (.map (some (w.heap.size + 1)))).alloc (.cells #[.pointer (some ⟨tb, 0, none⟩)] 79)).alloc (.map #[] 0)).frozen? ⟨tb, j, none⟩ = (w.setCell ⟨tb, 4, none⟩ (.map (some (w.heap.size + 1)))).frozen? ⟨tb, j, none⟩ := fun j => by
    rw [World.frozen?_of_block (Below.heap_alloc _ _ tb (by simp; omega)), World.frozen?_of_block (Below.heap_alloc _ _ tb (by simpa using hlt))]
  refine ⟨?_, ?_, ?_, fun j hj => ?_, fun j => ?_, hG, hlt, by simp⟩
  · rw [World.cell?_of_block (Below.heap_alloc _ _ _ (by simp))]
    go_simp
  · refine ⟨.map [], ?_, Go.Maps.isMap_empty, fun op _ _ => rfl⟩
    have := World.ownsMap_made (H := Unit) ((w.setCell ⟨tb, 4, none⟩ (.map (some (w.heap.size + 1)))).alloc (.cells #[.pointer (some ⟨tb, 0, none⟩)] 79)) Try.prog 5 kR
    simpa using this
  · exact (hcell 4).trans (World.cell?_setCell_same _ _ _ h)
  · rw [hcell, World.cell?_setCell_other _ _ _ _ (by first | (simp; done) | (simp; omega))]
  · rw [hfr, World.frozen?_setCell]

/-- What the filled table is. -/
def FillPost (w : World) (tb : Nat) (e : Ending) (w' : World) : Prop := e = .returned (.tuple #[]) ∧ FillSt w tb 53 knownF w'

set_option maxRecDepth 100000 in
set_option maxHeartbeats 8000000 in
theorem fill_c (tb : Nat) (v : Value) (w : World) (h : w.cell? ⟨tb, 4, none⟩ = some v) (hf : w.frozen? ⟨tb, 4, none⟩ = false) :
    Calls Try.prog 47 #[.pointer (some ⟨tb, 0, none⟩)] w (FillPost w tb) := by
  have hmm := @run_makeMap Try.prog
  have hmf : ∀ (fn : Fn) (first cap : Array Value) (w : World), (Instr.makeFunc fn first cap).run Try.prog w = .ok (.func fn first cap) w := fun _ _ _ _ => rfl
  have HS := Lib.hid (fill_start h)
  have hlt : tb < w.heap.size := World.block_lt_of_cell? w _ h
  go_enter Try.func47, Try.ntmps47
  go_wp2_with fail
  clear h hf hlt
  refine (fill_step ⟨1, []⟩ [0] (by decide) HS.out (by decide) (by simp) (by rfl) (by rfl) (by rfl)).mono ?_
  rintro e w1 ⟨rfl, hs⟩
  have HS := Lib.hid hs
  clear hs
  go_wp2_with fail
  refine (fill_step ⟨1, [98, 65]⟩ [16] (by decide) HS.out (by decide) (by simp) (by rfl) (by rfl) (by rfl)).mono ?_
  rintro e w2 ⟨rfl, hs⟩
  have HS := Lib.hid hs
  clear hs
  go_wp2_with fail
  refine (fill_step ⟨1, [97, 98, 65, 102]⟩ [17, 18, 19, 20, 21, 22, 23, 24, 27, 28, 29] (by decide) HS.out (by decide) (by simp) (by rfl) (by rfl) (by rfl)).mono ?_
  rintro e w3 ⟨rfl, hs⟩
  have HS := Lib.hid hs
  clear hs
  go_wp2_with fail
  refine (fill_step ⟨1, [97, 98, 65, 102, 120]⟩ [25, 30] (by decide) HS.out (by decide) (by simp) (by rfl) (by rfl) (by rfl)).mono ?_
  rintro e w4 ⟨rfl, hs⟩
  have HS := Lib.hid hs
  clear hs
  go_wp2_with fail
  refine (fill_step ⟨1, [97, 98, 102]⟩ [26, 31] (by decide) HS.out (by decide) (by simp) (by rfl) (by rfl) (by rfl)).mono ?_
  rintro e w5 ⟨rfl, hs⟩
  have HS := Lib.hid hs
  clear hs
  go_wp2_with fail
  refine (fill_step ⟨1, [65]⟩ [32] (by decide) HS.out (by decide) (by simp) (by rfl) (by rfl) (by rfl)).mono ?_
  rintro e w6 ⟨rfl, hs⟩
  have HS := Lib.hid hs
  clear hs
  go_wp2_with fail
  refine (fill_step ⟨1, [97, 65, 102]⟩ [33] (by decide) HS.out (by decide) (by simp) (by rfl) (by rfl) (by rfl)).mono ?_
  rintro e w7 ⟨rfl, hs⟩
  have HS := Lib.hid hs
  clear hs
  go_wp2_with fail
  refine (fill_step ⟨2, [98, 65, 120]⟩ [48, 50, 52, 54, 55] (by decide) HS.out (by decide) (by simp) (by rfl) (by rfl) (by rfl)).mono ?_
  rintro e w8 ⟨rfl, hs⟩
  have HS := Lib.hid hs
  clear hs
  go_wp2_with fail
  refine (fill_step ⟨2, [97, 98, 120]⟩ [49, 51, 53] (by decide) HS.out (by decide) (by simp) (by rfl) (by rfl) (by rfl)).mono ?_
  rintro e w9 ⟨rfl, hs⟩
  have HS := Lib.hid hs
  clear hs
  go_wp2_with fail
  refine (fill_step ⟨2, [97, 112, 80, 120]⟩ [56] (by decide) HS.out (by decide) (by simp) (by rfl) (by rfl) (by rfl)).mono ?_
  rintro e w10 ⟨rfl, hs⟩
  have HS := Lib.hid hs
  clear hs
  go_wp2_with fail
  refine (fill_step ⟨2, [112, 65, 80, 120]⟩ [57] (by decide) HS.out (by decide) (by simp) (by rfl) (by rfl) (by rfl)).mono ?_
  rintro e w11 ⟨rfl, hs⟩
  have HS := Lib.hid hs
  clear hs
  go_wp2_with fail
  refine (fill_step ⟨2, [97, 98, 65, 120]⟩ [58] (by decide) HS.out (by decide) (by simp) (by rfl) (by rfl) (by rfl)).mono ?_
  rintro e w12 ⟨rfl, hs⟩
  have HS := Lib.hid hs
  clear hs
  go_wp2_with fail
  refine (fill_step ⟨3, []⟩ [64, 65, 66, 67, 68, 69, 70, 71] (by decide) HS.out (by decide) (by simp) (by rfl) (by rfl) (by rfl)).mono ?_
  rintro e w13 ⟨rfl, hs⟩
  have HS := Lib.hid hs
  clear hs
  go_wp2_with fail
  refine (fill_step ⟨3, [76]⟩ [72] (by decide) HS.out (by decide) (by simp) (by rfl) (by rfl) (by rfl)).mono ?_
  rintro e w14 ⟨rfl, hs⟩
  have HS := Lib.hid hs
  clear hs
  go_wp2_with fail
  refine (fill_step ⟨3, [97]⟩ [73] (by decide) HS.out (by decide) (by simp) (by rfl) (by rfl) (by rfl)).mono ?_
  rintro e w15 ⟨rfl, hs⟩
  have HS := Lib.hid hs
  clear hs
  go_wp2_with fail
  refine (fill_step ⟨3, [97, 76]⟩ [74] (by decide) HS.out (by decide) (by simp) (by rfl) (by rfl) (by rfl)).mono ?_
  rintro e w16 ⟨rfl, hs⟩
  have HS := Lib.hid hs
  clear hs
  go_wp2_with fail
  refine (fill_step ⟨3, [120]⟩ [80] (by decide) HS.out (by decide) (by simp) (by rfl) (by rfl) (by rfl)).mono ?_
  rintro e w17 ⟨rfl, hs⟩
  have HS := Lib.hid hs
  clear hs
  go_wp2_with fail
  refine (fill_step ⟨4, [120]⟩ [1] (by decide) HS.out (by decide) (by simp) (by rfl) (by rfl) (by rfl)).mono ?_
  rintro e w18 ⟨rfl, hs⟩
  have HS := Lib.hid hs
  clear hs
  go_wp2_with fail
  refine (fill_step ⟨4, [102, 115]⟩ [2] (by decide) HS.out (by decide) (by simp) (by rfl) (by rfl) (by rfl)).mono ?_
  rintro e w19 ⟨rfl, hs⟩
  have HS := Lib.hid hs
  clear hs
  go_wp2_with fail
  refine (fill_step ⟨4, [115]⟩ [3] (by decide) HS.out (by decide) (by simp) (by rfl) (by rfl) (by rfl)).mono ?_
  rintro e w20 ⟨rfl, hs⟩
  have HS := Lib.hid hs
  clear hs
  go_wp2_with fail
  refine (fill_step ⟨4, [65, 115]⟩ [96, 98] (by decide) HS.out (by decide) (by simp) (by rfl) (by rfl) (by rfl)).mono ?_
  rintro e w21 ⟨rfl, hs⟩
  have HS := Lib.hid hs
  clear hs
  go_wp2_with fail
  refine (fill_step ⟨4, [97, 102, 115]⟩ [97] (by decide) HS.out (by decide) (by simp) (by rfl) (by rfl) (by rfl)).mono ?_
  rintro e w22 ⟨rfl, hs⟩
  have HS := Lib.hid hs
  clear hs
  go_wp2_with fail
  refine (fill_step ⟨4, [97, 120]⟩ [99, 101] (by decide) HS.out (by decide) (by simp) (by rfl) (by rfl) (by rfl)).mono ?_
  rintro e w23 ⟨rfl, hs⟩
  have HS := Lib.hid hs
  clear hs
  go_wp2_with fail
  refine (fill_step ⟨4, [65, 120]⟩ [100] (by decide) HS.out (by decide) (by simp) (by rfl) (by rfl) (by rfl)).mono ?_
  rintro e w24 ⟨rfl, hs⟩
  have HS := Lib.hid hs
  clear hs
  go_wp2_with fail
  refine (fill_step ⟨5, []⟩ [112, 113] (by decide) HS.out (by decide) (by simp) (by rfl) (by rfl) (by rfl)).mono ?_
  rintro e w25 ⟨rfl, hs⟩
  have HS := Lib.hid hs
  clear hs
  go_wp2_with fail
  go_end0
  exact ⟨rfl, HS.out⟩
end Go.Proofs.Ytnmgfckefofcpaa
