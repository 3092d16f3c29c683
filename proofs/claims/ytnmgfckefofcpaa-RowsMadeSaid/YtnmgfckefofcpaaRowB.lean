/- Rows of translated code: the walk of rows.Exits. -/
import Derived.Test.YtnmgfckefofcpaaRowA
import Derived.Test.YtnmgfckefofcpaaRow
namespace Go.Proofs.Ytnmgfckefofcpaa
open Go.RowKit
set_option linter.unusedSimpArgs false
set_option linter.unusedVariables false

def RowR.val (r : RowR) : Value := .agg #[.int .i64 r.off, .int .u32 r.pc, .int .i64 r.done, .int .i64 r.exit]

theorem yes_c (r : RowR) (w : World) : Calls Try.prog 21 #[r.val] w fun e w' => e = .returned (.bool (decide (0 ≤ r.exit))) ∧ Below w.heap.size w w' := by
  unfold RowR.val
  go_enter Try.func21, Try.ntmps21
  go_wp2_with fail
  go_ret
  exact ⟨rfl, below_alloc1 _ _⟩

theorem own_below {W w1 : World} {base n s : Nat} {e : TypeId} {v : Value} {xs : List Value} (hb : Below W.heap.size W w1) (h : W.ownsRow base e s v n xs) : w1.ownsRow base e s v n xs := by
  obtain ⟨h1, h2 | ⟨g, cap, cur, h3, h4, h5, h6⟩⟩ := h
  · exact ⟨h1, .inl h2⟩
  · exact ⟨h1, .inr ⟨g, cap, cur, h3, h4, by rw [hb.block g (Array.getElem?_eq_some_iff.1 h5).1]; exact h5, h6⟩⟩


set_option maxHeartbeats 4000000 in
theorem kept_c (ao : Option Addr) (len cap : Nat) (L : List RowR) (w : World) (hL : L.length = len) (hl : len ≤ 9223372036854775807) (hby : len * 32 ≤ 140737488355328) (hR : RowsIn w ao L) :
    Calls Try.prog 20 #[.slice ao len cap, .func (.func 21) #[] #[]] w fun e w' => ∃ v, e = .returned v ∧ w'.ownsRow w.heap.size 27 4 v (exits L).length ((exits L).flatMap RowR.cells) ∧ Below w.heap.size w w' := by
  obtain ⟨i0, hi, hz0, hz1, hz2⟩ := info_parts Try.infoR
  have HL := Lib.hid hL
  have HR := Lib.hid hR
  have HY := Lib.hid yes_c
  unfold RowR.val at HY
  clear hL hR
  go_enter Try.func20, Try.ntmps20
  go_wp2_with fail
  go_loopg [5, 10] len (fun gk vm vk wr => ∃ k : Nat, gk + k = len ∧ vk = .int .i64 (k : Int) ∧ wr.ownsRow w.heap.size 27 4 vm (exits (L.take k)).length ((exits (L.take k)).flatMap RowR.cells) ∧ Below w.heap.size w wr ∧ w.heap.size ≤ wr.heap.size)
  case atStart => exact ⟨0, rfl, rfl, ⟨by simp [exits], .inl ⟨rfl, by simp [exits]⟩⟩, Below.refl _ _, Nat.le_refl _⟩
  case round =>
    obtain ⟨k, hk, rfl, hown, hB, hs⟩ := hrel
    have hnk : (exits (L.take k)).length ≤ k := Nat.le_trans (List.length_filter_le _ _) (by simp; omega)
    by_cases c1 : k < len
    · obtain ⟨r, hr⟩ : ∃ r, L[k]? = some r := ⟨_, List.getElem?_eq_getElem (by rw [HL.out]; exact c1)⟩
      obtain ⟨blk, off, rfl, hx⟩ : ∃ blk off, ao = some ⟨blk, off, none⟩ ∧ (w.cell? ⟨blk, off + k * 4, none⟩ = some (.int .i64 r.off) ∧ w.cell? ⟨blk, off + k * 4 + 1, none⟩ = some (.int .u32 r.pc) ∧ w.cell? ⟨blk, off + k * 4 + 2, none⟩ = some (.int .i64 r.done) ∧ w.cell? ⟨blk, off + k * 4 + 3, none⟩ = some (.int .i64 r.exit)) := by
        rcases HR.out with h | ⟨blk, off, h1, h2⟩
        · rw [h] at hr; cases hr
        · exact ⟨blk, off, h1, h2 k r hr⟩
      obtain ⟨x0, x1, x2, x3⟩ := hx
      have hb0 : blk < w.heap.size := World.block_lt_of_cell? w _ x0
      have y0 := (hB.cell (p := ⟨blk, off + k * 4, none⟩) hb0).trans x0
      have y1 := (hB.cell (p := ⟨blk, off + k * 4 + 1, none⟩) hb0).trans x1
      have y2 := (hB.cell (p := ⟨blk, off + k * 4 + 2, none⟩) hb0).trans x2
      have y3 := (hB.cell (p := ⟨blk, off + k * 4 + 3, none⟩) hb0).trans x3
      have hbr : blk < wr.heap.size := by omega
      have i1 : (k : Int) < (len : Int) := by omega
      have HE := Lib.hid (exits_take hr)
      clear x0 x1 x2 x3 hr
      obtain ⟨ro, rp, rd, re⟩ := r
      have HYr := Lib.hid fun w => HY.out ⟨ro, rp, rd, re⟩ w
      simp only at y0 y1 y2 y3
      by_cases c2 : 0 ≤ re
      · go_wp2_with fail
        refine (HYr.out _).mono ?_
        rintro e w1 ⟨rfl, hb⟩
        have hB1 := below_next (hB.alloc hs _) hb
        have hown1 := own_below hb (hown.alloc _)
        obtain ⟨hcl, hfz⟩ := bcell hb
        have hs1 : wr.heap.size < w1.heap.size := by have := hb.size; simp at this; omega
        have hs1' : w.heap.size ≤ w1.heap.size := by omega
        go_wp2_with (first | (at_builtin; refine wpList_append_own _ rfl _ _ 22 rfl w.heap.size 27 i0 _ 4 32 Try.underlying22 hi hz0 hz1 hz2 rfl (by decide) _ _ _ rfl (hown1.alloc _) _ 1 1 (RowR.cells ⟨ro, rp, rd, re⟩) rfl rfl (cells_new _ _ _ _ (by simp)) (by simp [RowR.cells, Value.oneCell']) (by unfold maxLen; omega) (by omega) (by first | (simp; done) | (simp; omega)) ?_; intro v4 w4 hown4 hgrow4 _; obtain ⟨hB4, hs4⟩ := own_next0 hB1 hs1' hown1 hgrow4; clear hgrow4))
        go_roundg (gk - 1)
        case measure => omega
        case rel =>
          refine ⟨k + 1, by omega, rfl, ?_, hB4, hs4⟩
          rw [HE.out, if_pos c2]
          simpa using hown4
      · have c3 : decide (0 ≤ re) = false := by simpa using c2
        go_wp2_with fail
        refine (HYr.out _).mono ?_
        rintro e w1 ⟨rfl, hb⟩
        have hB1 := below_next (hB.alloc hs _) hb
        have hown1 := own_below hb (hown.alloc _)
        have hs1 : wr.heap.size < w1.heap.size := by have := hb.size; simp at this; omega
        go_wp2_with fail
        go_roundg (gk - 1)
        case measure => omega
        case rel =>
          refine ⟨k + 1, by omega, rfl, ?_, hB1, by omega⟩
          rw [HE.out, if_neg (by omega)]
          simpa using hown1
    · have i1 : ¬ (k : Int) < (len : Int) := by omega
      go_wp2_with fail
      go_ret
      have he : L.take k = L := List.take_of_length_le (by rw [HL.out]; omega)
      rw [he] at hown
      exact ⟨_, rfl, hown, hB⟩

set_option maxHeartbeats 4000000 in
theorem exits_c (ao : Option Addr) (len cap : Nat) (L : List RowR) (w : World) (hL : L.length = len) (hl : len ≤ 9223372036854775807) (hby : len * 32 ≤ 140737488355328) (hR : RowsIn w ao L) :
    Calls Try.prog 14 #[.slice ao len cap] w fun e w' => ∃ v, e = .returned v ∧ w'.ownsRow w.heap.size 27 4 v (exits L).length ((exits L).flatMap RowR.cells) ∧ Below w.heap.size w w' := by
  go_enter Try.func14, Try.ntmps14
  go_wp2_with fail
  refine (kept_c ao len cap L w hL hl hby hR).mono ?_
  rintro e w1 ⟨v, rfl, hown, hB⟩
  go_wp2_with fail
  go_ret
  exact ⟨_, rfl, hown, hB⟩
end Go.Proofs.Ytnmgfckefofcpaa
