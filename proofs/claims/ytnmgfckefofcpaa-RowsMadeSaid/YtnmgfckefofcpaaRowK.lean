/- Rows of translated code: the document's Rising, Find and Last, and rows.Stands. -/
import Derived.Test.YtnmgfckefofcpaaRowJ
import Derived.Deep.QuietTactic
import Derived.BigQuiet
namespace Go.Proofs.Ytnmgfckefofcpaa
open Go.RowKit
set_option linter.unusedSimpArgs false
set_option linter.unusedVariables false

/-- Rows are in order, as far as k. -/
def RiseTo (L : List RowR) (k : Nat) : Prop := ∀ m, m < k → 0 ≤ offAt L m ∧ (0 < m → offAt L (m - 1) < offAt L m)

def RisePost (L : List RowR) (W : World) (e : Ending) (W' : World) : Prop := ∃ b : Bool, e = .returned (.bool b) ∧ (b = true → RiseTo L L.length) ∧ Below W.heap.size W W'

theorem rows_at {w : World} {ao : Option Addr} {L : List RowR} {k : Nat} (h : RowsIn w ao L) (hk : k < L.length) : ∃ blk o, ao = some ⟨blk, o, none⟩ ∧ blk < w.heap.size ∧ ∃ r : RowR, L[k]? = some r ∧ offAt L k = r.off ∧
    w.cell? ⟨blk, o + k * 4, none⟩ = some (.int .i64 r.off) ∧ w.cell? ⟨blk, o + k * 4 + 1, none⟩ = some (.int .u32 r.pc) ∧ w.cell? ⟨blk, o + k * 4 + 2, none⟩ = some (.int .i64 r.done) ∧ w.cell? ⟨blk, o + k * 4 + 3, none⟩ = some (.int .i64 r.exit) := by
  have hr : L[k]? = some L[k] := List.getElem?_eq_getElem hk
  rcases h with h | ⟨blk, o, h1, h2⟩
  · rw [h] at hk; simp at hk
  · obtain ⟨a, b, c, d⟩ := h2 k _ hr
    exact ⟨blk, o, h1, World.block_lt_of_cell? w _ a, _, hr, by simp [offAt, List.getD, hr], a, b, c, d⟩

set_option maxHeartbeats 4000000 in
theorem refRising_c (L : List RowR) (ao : Option Addr) (len cap : Nat) (w : World) (hL : L.length = len) (hl : len ≤ 4611686018427387903) (hR : RowsIn w ao L) :
    Calls Try.prog 7 #[.slice ao len cap] w (RisePost L w) := by
  have HR := Lib.hid hR
  have HL := Lib.hid hL
  clear hL hR
  go_enter Try.func7, Try.ntmps7
  go_wp2_with fail
  go_loopg [3] len (fun gk vk wr => ∃ (k : Nat) (kz : Int), gk + k = len ∧ kz = (k : Int) ∧ vk = .int .i64 kz ∧ Hid (RiseTo L k) ∧ Below w.heap.size w wr)
  case atStart => exact ⟨0, 0, rfl, rfl, rfl, Lib.hid (fun m h => absurd h (Nat.not_lt_zero _)), Below.refl _ _⟩
  case round =>
    obtain ⟨k, kz, hk, hkz, rfl, HI, hB⟩ := hrel
    by_cases c1 : k < len
    · obtain ⟨blk, o, rfl, hbl, r, hr, ho, y0, -, -, -⟩ := rows_at (rows_below hB HR.out) (k := k) (by rw [HL.out]; exact c1)
      have HO := Lib.hid ho
      clear ho hr
      obtain ⟨z, hz⟩ : ∃ z, r.off = z := ⟨_, rfl⟩
      rw [hz] at y0
      have HZ := Lib.hid hz
      clear hz
      rcases k with _ | j
      · obtain rfl : kz = 0 := hkz
        simp only [Nat.zero_mul, Nat.add_zero] at y0
        have i1 : (0 : Int) < (len : Int) := by omega
        have i2 : decide ((0 : Int) < 0) = false := rfl
        by_cases c2 : z < 0
        · have d2 : decide (z < 0) = true := by simpa using c2
          go_wp2_with fail
          go_quiet (fail)
          go_wp2_with fail
          go_ret
          exact ⟨false, rfl, fun h => absurd h (by decide), (below_drewN hB _)⟩
        · have d2 : decide (z < 0) = false := by simpa using c2
          go_wp2_with fail
          go_quiet (fail)
          go_wp2_with fail
          go_roundg (gk - 1)
          case measure => omega
          case rel => exact ⟨1, 1, by omega, rfl, rfl, Lib.hid (fun m h => by obtain rfl : m = 0 := (by omega); exact ⟨by rw [HO.out, HZ.out]; omega, fun h => absurd h (Nat.lt_irrefl _)⟩), (below_drewN hB _)⟩
      · subst hkz
        obtain ⟨_, _, hx, _, r', _, ho', x0, -, -, -⟩ := rows_at (rows_below hB HR.out) (k := j) (by rw [HL.out]; omega)
        cases hx
        have HO' := Lib.hid ho'
        clear ho'
        obtain ⟨z', hz'⟩ : ∃ z, r'.off = z := ⟨_, rfl⟩
        rw [hz'] at x0
        have HZ' := Lib.hid hz'
        clear hz'
        have i1 : ((j : Int) + 1) < (len : Int) := by omega
        have i2 : decide (0 < (j : Int) + 1) = true := decide_eq_true (by omega)
        have i3 : (j : Int) < (len : Int) := by omega
        have i4 : 0 ≤ (j : Int) + 1 := by omega
        by_cases c2 : z < 0
        · have d2 : decide (z < 0) = true := by simpa using c2
          go_wp2_with fail
          go_quiet (fail)
          go_wp2_with fail
          go_ret
          exact ⟨false, rfl, fun h => absurd h (by decide), (below_drewN hB _)⟩
        · have d2 : decide (z < 0) = false := by simpa using c2
          by_cases c3 : z ≤ z'
          · have d3 : decide (z ≤ z') = true := by simpa using c3
            go_wp2_with fail
            go_quiet (fail)
            go_wp2_with fail
            go_ret
            exact ⟨false, rfl, fun h => absurd h (by decide), (below_drewN hB _)⟩
          · have d3 : decide (z ≤ z') = false := by simpa using c3
            go_wp2_with fail
            go_quiet (fail)
            go_wp2_with fail
            go_roundg (gk - 1)
            case measure => omega
            case rel => exact ⟨j + 1 + 1, _, by omega, rfl, rfl, Lib.hid (fun m h => by
              by_cases hm : m = j + 1
              · subst hm
                exact ⟨by rw [HO.out, HZ.out]; omega, fun _ => by show offAt L j < _; rw [HO.out, HZ.out, HO'.out, HZ'.out]; omega⟩
              · exact HI.out m (by omega)), (below_drewN hB _)⟩
    · have i1 : ¬ kz < (len : Int) := by omega
      go_wp2_with fail
      go_ret
      exact ⟨true, rfl, fun _ => by rw [HL.out]; intro m hm; exact HI.out m (by omega), hB⟩
end Go.Proofs.Ytnmgfckefofcpaa
