/- Rows of translated code: the walk of the document's Exits (mummerref21). -/
import Derived.Test.YtnmgfckefofcpaaRows
import Derived.WalkKit
import Derived.WalkLawsBesides
import Derived.Deep.LoopGhost
import Derived.Lib.Hide
import Derived.Maps.AppendAt
import Derived.Laws.OwnMore
import Derived.RangeFuncBox
namespace Go.Proofs.Ytnmgfckefofcpaa
open Go.RowKit
set_option linter.unusedSimpArgs false
set_option linter.unusedVariables false

/-- A row. -/
structure RowR where
  off : Int
  pc : Int
  done : Int
  exit : Int

def RowR.cells (r : RowR) : List Value := [.int .i64 r.off, .int .u32 r.pc, .int .i64 r.done, .int .i64 r.exit]

/-- The rows that a slice leads to. -/
def RowsIn (w : World) (ao : Option Addr) (L : List RowR) : Prop :=
  L = [] ∨ ∃ blk off, ao = some ⟨blk, off, none⟩ ∧ ∀ i r, L[i]? = some r →
    w.cell? ⟨blk, off + i * 4, none⟩ = some (.int .i64 r.off) ∧ w.cell? ⟨blk, off + i * 4 + 1, none⟩ = some (.int .u32 r.pc) ∧ w.cell? ⟨blk, off + i * 4 + 2, none⟩ = some (.int .i64 r.done) ∧ w.cell? ⟨blk, off + i * 4 + 3, none⟩ = some (.int .i64 r.exit)

def exits (L : List RowR) : List RowR := L.filter fun r => decide (0 ≤ r.exit)

theorem Try.infoR : (Try.prog.info? 27).map (fun i => (i.zero, i.size, i.bytes)) = some (some (.agg #[.int .i64 0, .int .u32 0, .int .i64 0, .int .i64 0]), 4, 32) := by kernel_rfl

theorem cells_new (w : World) (xs : List Value) (t : TypeId) (k : Nat) (hk : k = w.heap.size) : ∀ j u, xs[j]? = some u → (w.alloc (.cells xs.toArray t)).cell? ((⟨k, 0, none⟩ : Addr).add j) = some u := by
  intro j u hu
  subst hk
  have hadd : (⟨w.heap.size, 0, none⟩ : Addr).add j = ⟨w.heap.size, j, none⟩ := by unfold Addr.add; split <;> simp_all
  rw [hadd, cell_of_row (w.alloc (.cells xs.toArray t)) w.heap.size j xs.toArray t (0, 0) (heap_alloc_new w _)]
  simpa using hu

theorem own_next0 {W w w' : World} {base n size : Nat} {v : Value} {xs : List Value} {e : TypeId} {o : Obj} (hB : Below base W w) (hs : base ≤ w.heap.size) (hown : w.ownsRow base e size v n xs) (hg : (w.alloc o).grownBy w' v.ownBlock) :
    Below base W w' ∧ base ≤ w'.heap.size := by
  refine ⟨(hB.alloc hs o).grown hg (by simp; omega) (fun k hk => ?_), by have := hg.size; simp at this; omega⟩
  rcases hown.2 with ⟨rfl, _⟩ | ⟨g, cap, cur, rfl, h, _⟩
  · cases hk
  · cases hk; exact h

theorem exits_take {L : List RowR} {k : Nat} {r : RowR} (h : L[k]? = some r) : exits (L.take (k + 1)) = exits (L.take k) ++ (if 0 ≤ r.exit then [r] else []) := by
  obtain ⟨hk, rfl⟩ := List.getElem?_eq_some_iff.1 h
  unfold exits
  rw [List.take_succ_eq_append_getElem hk, List.filter_append]
  by_cases c : 0 ≤ L[k].exit <;> simp [c]

set_option maxHeartbeats 4000000 in
theorem refExits_c (ao : Option Addr) (len cap : Nat) (L : List RowR) (w : World) (hL : L.length = len) (hl : len ≤ 9223372036854775807) (hby : len * 32 ≤ 140737488355328) (hR : RowsIn w ao L) :
    Calls Try.prog 15 #[.slice ao len cap] w fun e w' => ∃ v, e = .returned v ∧ w'.ownsRow w.heap.size 27 4 v (exits L).length ((exits L).flatMap RowR.cells) ∧ Below w.heap.size w w' := by
  obtain ⟨i0, hi, hz0, hz1, hz2⟩ := info_parts Try.infoR
  have HL := Lib.hid hL
  have HR := Lib.hid hR
  clear hL hR
  go_enter Try.func15, Try.ntmps15
  go_wp2_with fail
  go_loopg [3, 4] len (fun gk vm vk wr => ∃ k : Nat, gk + k = len ∧ vk = .int .i64 (k : Int) ∧ wr.ownsRow w.heap.size 27 4 vm (exits (L.take k)).length ((exits (L.take k)).flatMap RowR.cells) ∧ Below w.heap.size w wr ∧ w.heap.size ≤ wr.heap.size)
  case atStart => exact ⟨0, rfl, rfl, ⟨by simp [exits], .inl ⟨rfl, by simp [exits]⟩⟩, Below.refl _ _, Nat.le_refl _⟩
  case round =>
    obtain ⟨k, hk, rfl, hown, hB, hs⟩ := hrel
    have hnk : (exits (L.take k)).length ≤ k := Nat.le_trans (List.length_filter_le _ _) (by simp; omega)
    by_cases c1 : k < len
    · obtain ⟨r, hr⟩ : ∃ r, L[k]? = some r := ⟨_, List.getElem?_eq_getElem (by rw [HL.out]; exact c1)⟩
      obtain ⟨blk, off, rfl, hx⟩ : ∃ blk off, ao = some ⟨blk, off, none⟩ ∧ (w.cell? ⟨blk, off + k * 4, none⟩ = some (.int .i64 r.off) ∧ w.cell? ⟨blk, off + k * 4 + 1, none⟩ = some (.int .u32 r.pc) ∧ w.cell? ⟨blk, off + k * 4 + 2, none⟩ = some (.int .i64 r.done) ∧ w.cell? ⟨blk, off + k * 4 + 3, none⟩ = some (.int .i64 r.exit)) := by
        rcases HR.out with h | ⟨blk, off, h1, h2⟩
        · rw [h] at hr; cases hr
        · exact ⟨blk, off, h1, h2 k r hr⟩
      obtain ⟨x0, x1, x2, x3⟩ := hx
      have hb0 : blk < w.heap.size := World.block_lt_of_cell? w _ x0
      have y0 := (hB.cell (p := ⟨blk, off + k * 4, none⟩) hb0).trans x0
      have y1 := (hB.cell (p := ⟨blk, off + k * 4 + 1, none⟩) hb0).trans x1
      have y2 := (hB.cell (p := ⟨blk, off + k * 4 + 2, none⟩) hb0).trans x2
      have y3 := (hB.cell (p := ⟨blk, off + k * 4 + 3, none⟩) hb0).trans x3
      have hbr : blk < wr.heap.size := by omega
      have i1 : (k : Int) < (len : Int) := by omega
      have HE := Lib.hid (exits_take hr)
      clear x0 x1 x2 x3 hr
      obtain ⟨ro, rp, rd, re⟩ := r
      simp only at y0 y1 y2 y3
      by_cases c2 : 0 ≤ re
      · go_wp2_with (first | (at_builtin; refine wpList_append_own _ rfl _ _ 22 rfl w.heap.size 27 i0 _ 4 32 Try.underlying22 hi hz0 hz1 hz2 rfl (by decide) _ _ _ rfl (hown.alloc _) _ 1 1 (RowR.cells ⟨ro, rp, rd, re⟩) rfl rfl (cells_new _ _ _ _ (by simp)) (by simp [RowR.cells, Value.oneCell']) (by unfold maxLen; omega) (by omega) (by first | (simp; done) | (simp; omega)) ?_; intro v4 w4 hown4 hgrow4 _; obtain ⟨hB4, hs4⟩ := own_next0 hB hs hown hgrow4; clear hgrow4))
        go_roundg (gk - 1)
        case measure => omega
        case rel =>
          refine ⟨k + 1, by omega, rfl, ?_, hB4, hs4⟩
          rw [HE.out, if_pos c2]
          simpa using hown4
      · go_wp2_with fail
        go_roundg (gk - 1)
        case measure => omega
        case rel =>
          refine ⟨k + 1, by omega, rfl, ?_, hB, hs⟩
          rw [HE.out, if_neg (by omega)]
          simpa using hown
    · have i1 : ¬ (k : Int) < (len : Int) := by omega
      go_wp2_with fail
      go_ret
      have he : L.take k = L := List.take_of_length_le (by rw [HL.out]; omega)
      rw [he] at hown
      exact ⟨_, rfl, hown, hB⟩
end Go.Proofs.Ytnmgfckefofcpaa
