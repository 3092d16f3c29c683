/- Rows of translated code: rows.Last over rows that rise. -/
import Derived.Test.YtnmgfckefofcpaaRowH
namespace Go.Proofs.Ytnmgfckefofcpaa
open Go.RowKit
set_option linter.unusedSimpArgs false
set_option linter.unusedVariables false

/-- k is the place of the first row behind a place. -/
def Cut (L : List RowR) (off : Int) (k : Nat) : Prop := k ≤ L.length ∧ (∀ m, m < k → ¬ off < offAt L m) ∧ (∀ m, k ≤ m → m < L.length → off < offAt L m)

/-- What Last hands back, of that place. -/
def lastR (L : List RowR) (k : Nat) : RowR × Bool := if k = 0 then (⟨0, 0, 0, 0⟩, false) else (L.getD (k - 1) ⟨0, 0, 0, 0⟩, true)

set_option maxHeartbeats 4000000 in
theorem last_c (L : List RowR) (ao : Option Addr) (len cap : Nat) (off : Int) (w : World) (hL : L.length = len) (hl : len ≤ 4611686018427387903) (hR : RowsIn w ao L)
    (hmono : ∀ m n, m ≤ n → n < len → off < offAt L m → off < offAt L n) :
    Calls Try.prog 11 #[.slice ao len cap, .int .i64 off] w fun e w' =>
      ∃ k : Nat, Cut L off k ∧ e = .returned (.tuple #[(lastR L k).1.val, .bool (lastR L k).2]) ∧ Below w.heap.size w w' := by
  have HS := Lib.hid fun (o : Obj) => behind_c L ao len cap off (w.alloc o) hL hl (rows_past hR o) hmono
  have HR := Lib.hid hR
  have HL := Lib.hid hL
  clear hL hR hmono
  go_enter Try.func11, Try.ntmps11
  go_wp2_with fail
  refine (HS.out _).mono ?_
  rintro e w1 ⟨k, hk, h1, h2, rfl, hb⟩
  have HC : Cut L off k := ⟨by rw [HL.out]; exact hk, fun m h => Int.not_lt.2 (h1 m h), fun m h h' => h2 m h (by rw [← HL.out]; exact h')⟩
  have HC := Lib.hid HC
  clear h1 h2
  have hB := below_box hb
  obtain ⟨hcl, hfz⟩ := bcell hb
  have s1 : w.heap.size < w1.heap.size := by have := hb.size; simp at this; omega
  by_cases c : k = 0
  · subst c
    go_wp2_with fail
    refine bodyPost_ret (v := .tuple #[(⟨0, 0, 0, 0⟩ : RowR).val, .bool false]) ?_ rfl ⟨0, HC.out, rfl, ?_⟩
    · unfold RowR.val
      simp [results, Try.results11, go_sem, hcl, s1]
    · exact (((hB.setCell (by simp) _).setCell (by simp) _).setCell (by simp) _).setCell (by simp) _
  · obtain ⟨j, rfl⟩ : ∃ j, k = j + 1 := ⟨k - 1, by omega⟩
    obtain ⟨r, hr⟩ : ∃ r, L[j]? = some r := ⟨_, List.getElem?_eq_getElem (by rw [HL.out]; omega)⟩
    have hx : lastR L (j + 1) = (r, true) := by simp [lastR, List.getD, hr]
    rcases rows_below hB HR.out with h | ⟨blk, o, rfl, q⟩
    · rw [h] at hr; cases hr
    obtain ⟨y0, y1, y2, y3⟩ := q j r hr
    have hbl : blk < w.heap.size := by
      rcases HR.out with h | ⟨b', o', h1, q'⟩
      · rw [h] at hr; cases hr
      · simp at h1; obtain ⟨rfl, rfl⟩ := h1; exact World.block_lt_of_cell? w _ (q' j r hr).1
    have i1 : (j : Int) < (len : Int) := by omega
    have e0 : ((j : Int) + 1 == 0) = false := by simp; omega
    have HX := Lib.hid hx
    have M0 : w1.cell? ⟨w.heap.size, 0, none⟩ = some (.int .i64 0) := by rw [hcl _ _ (by simp)]; go_simp
    have L0 : w1.frozen? ⟨w.heap.size, 0, none⟩ = false := by rw [hfz _ _ (by simp)]; go_simp
    have M1 : w1.cell? ⟨w.heap.size, 1, none⟩ = some (.int .u32 0) := by rw [hcl _ _ (by simp)]; go_simp
    have L1 : w1.frozen? ⟨w.heap.size, 1, none⟩ = false := by rw [hfz _ _ (by simp)]; go_simp
    have M2 : w1.cell? ⟨w.heap.size, 2, none⟩ = some (.int .i64 0) := by rw [hcl _ _ (by simp)]; go_simp
    have L2 : w1.frozen? ⟨w.heap.size, 2, none⟩ = false := by rw [hfz _ _ (by simp)]; go_simp
    have M3 : w1.cell? ⟨w.heap.size, 3, none⟩ = some (.int .i64 0) := by rw [hcl _ _ (by simp)]; go_simp
    have L3 : w1.frozen? ⟨w.heap.size, 3, none⟩ = false := by rw [hfz _ _ (by simp)]; go_simp
    clear q hr hx c hcl hfz
    obtain ⟨ro, rp, rd, re⟩ := r
    simp only at y0 y1 y2 y3
    go_wp2_with fail
    refine bodyPost_ret (v := .tuple #[(⟨ro, rp, rd, re⟩ : RowR).val, .bool true]) ?_ rfl ⟨j + 1, HC.out, by rw [HX.out], ?_⟩
    · unfold RowR.val
      simp [results, Try.results11, go_sem, M0, M1, M2, M3, s1]
    · exact (((hB.setCell (by simp) _).setCell (by simp) _).setCell (by simp) _).setCell (by simp) _
end Go.Proofs.Ytnmgfckefofcpaa
