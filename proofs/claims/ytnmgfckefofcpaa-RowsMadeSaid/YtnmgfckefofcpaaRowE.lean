/- The walk of RowsExits. -/
import Derived.Test.YtnmgfckefofcpaaRowD
namespace Go.Proofs.Ytnmgfckefofcpaa
open Go.RowKit
set_option linter.unusedSimpArgs false
set_option linter.unusedVariables false

theorem flat_get : ∀ (M : List RowR) (i : Nat) (r : RowR), M[i]? = some r → ∀ j, j < 4 → (M.flatMap RowR.cells)[i * 4 + j]? = r.cells[j]?
  | [], i, r, h, j, hj => by simp at h
  | x :: M, 0, r, h, j, hj => by
    simp at h
    subst h
    simp only [List.flatMap_cons, Nat.zero_mul, Nat.zero_add]
    rw [List.getElem?_append_left (by simpa [RowR.cells] using hj)]
  | x :: M, i + 1, r, h, j, hj => by
    simp only [List.getElem?_cons_succ] at h
    simp only [List.flatMap_cons]
    rw [List.getElem?_append_right (by simp [RowR.cells]; omega), show (i + 1) * 4 + j - x.cells.length = i * 4 + j from by simp [RowR.cells]; omega]
    exact flat_get M i r h j hj

theorem own_rows {w : World} {base : Nat} {v : Value} {M : List RowR} {e : TypeId} (h : w.ownsRow base e 4 v M.length (M.flatMap RowR.cells)) : ∃ ao cap, v = .slice ao M.length cap ∧ RowsIn w ao M := by
  rcases h.2 with ⟨h1, h2⟩ | ⟨g, cap, cur, h1, _⟩
  · exact ⟨none, 0, by rw [h2]; exact h1, .inl (List.eq_nil_of_length_eq_zero h2)⟩
  · subst h1
    refine ⟨_, cap, rfl, .inr ⟨g, 0, rfl, fun i r hr => ?_⟩⟩
    have hi : i < M.length := (List.getElem?_eq_some_iff.1 hr).1
    have hc : ∀ j, j < 4 → w.cell? ⟨g, i * 4 + j, none⟩ = r.cells[j]? := fun j hj => (h.cellAt (i * 4 + j) (by omega)).trans (flat_get M i r hr j hj)
    simp only [Nat.zero_add]
    exact ⟨hc 0 (by omega), hc 1 (by omega), hc 2 (by omega), hc 3 (by omega)⟩

theorem rows_below {W w1 : World} {ao : Option Addr} {L : List RowR} (hb : Below W.heap.size W w1) (h : RowsIn W ao L) : RowsIn w1 ao L := by
  rcases h with h | ⟨blk, off, h1, h2⟩
  · exact .inl h
  · refine .inr ⟨blk, off, h1, fun i r hr => ?_⟩
    obtain ⟨a, b, c, d⟩ := h2 i r hr
    exact ⟨keep hb a, keep hb b, keep hb c, keep hb d⟩

set_option maxHeartbeats 4000000 in
theorem rowsExits_walk (ao : Option Addr) (len cap : Nat) (L : List RowR) (w : World) (hL : L.length = len) (hl : len ≤ 9223372036854775807) (hby : len * 32 ≤ 140737488355328) (hR : RowsIn w ao L) :
    Calls Try.prog 4 #[.slice ao len cap] w fun e w' => e = .returned (.bool true) ∧ Below w.heap.size w w' := by
  have HA := Lib.hid fun (w : World) (h : RowsIn w ao L) => exits_c ao len cap L w hL hl hby h
  have HB := Lib.hid fun (w : World) (h : RowsIn w ao L) => refExits_c ao len cap L w hL hl hby h
  have HW := Lib.hid works_c
  have hml : (exits L).length ≤ 9223372036854775807 := Nat.le_trans (List.length_filter_le _ _) (by omega)
  generalize exits L = M at HA HB hml
  have HH := Lib.hid hR
  clear hR hL hby
  go_enter Try.func4, Try.ntmps4
  go_wp2_with fail
  refine (HA.out _ HH.out).mono ?_
  rintro e w1 ⟨v1, rfl, hown1, hb1⟩
  obtain ⟨a1, cap1, rfl, hr1⟩ := own_rows hown1
  clear hown1
  go_wp2_with fail
  refine (HB.out _ (rows_below hb1 HH.out)).mono ?_
  rintro e w2 ⟨v2, rfl, hown2, hb2⟩
  obtain ⟨a2, cap2, rfl, hr2⟩ := own_rows hown2
  have R1 := Lib.hid (rows_below hb2 hr1)
  have R2 := Lib.hid hr2
  have hB2 := below_next hb1 hb2
  clear hown2 hr1 hr2 hb1 hb2
  obtain ⟨n, hn⟩ : ∃ n, M.length = n := ⟨_, rfl⟩
  rw [hn] at hml ⊢
  have HN := Lib.hid hn
  clear hn
  go_wp2_with fail
  go_loopg [5] n (fun gk vk wr => ∃ k : Nat, gk + k = n ∧ vk = .int .i64 (k : Int) ∧ Below w2.heap.size w2 wr)
  case atStart => exact ⟨0, rfl, rfl, Below.refl _ _⟩
  case round =>
    obtain ⟨k, hk, rfl, hB⟩ := hrel
    by_cases c1 : k < n
    · obtain ⟨r, hr⟩ : ∃ r, M[k]? = some r := ⟨_, List.getElem?_eq_getElem (by rw [HN.out]; exact c1)⟩
      rcases rows_below hB R1.out with h | ⟨blk1, off1, rfl, q1⟩
      · rw [h] at hr; cases hr
      rcases rows_below hB R2.out with h | ⟨blk2, off2, rfl, q2⟩
      · rw [h] at hr; cases hr
      obtain ⟨y0, y1, y2, y3⟩ := q1 k r hr
      obtain ⟨z0, z1, z2, z3⟩ := q2 k r hr
      have i1 : (k : Int) < (n : Int) := by omega
      have b1 := World.block_lt_of_cell? wr _ y0
      have b2 := World.block_lt_of_cell? wr _ z0
      simp only at b1 b2
      clear q1 q2 hr
      obtain ⟨ro, rp, rd, re⟩ := r
      simp only at y0 y1 y2 y3 z0 z1 z2 z3
      go_wp2_with fail
      go_region
      all_goals
        go_wp2_with fail
        go_roundg (gk - 1)
        case measure => omega
        case rel => exact ⟨k + 1, by omega, rfl, hB.drew⟩
    · have i1 : ¬ (k : Int) < (n : Int) := by omega
      go_wp2_with fail
      refine (HW.out _).mono ?_
      rintro e w3 ⟨rfl, hb3⟩
      go_wp2_with fail
      go_ret
      exact ⟨rfl, below_next (below_next hB2 hB) hb3⟩
end Go.Proofs.Ytnmgfckefofcpaa
