/- Rows of translated code: sort.Search over rows that rise: the first that is behind a place. -/
import Derived.Test.YtnmgfckefofcpaaRowE
namespace Go.Proofs.Ytnmgfckefofcpaa
open Go.RowKit
set_option linter.unusedSimpArgs false
set_option linter.unusedVariables false

/-- The place of row k. -/
def offAt (L : List RowR) (k : Nat) : Int := (L.getD k ⟨0, 0, 0, 0⟩).off

set_option maxHeartbeats 1000000 in
theorem gtrk_c (L : List RowR) (ao : Option Addr) (len cap k : Nat) (off : Int) (b2 b3 : Nat) (w : World) (hL : L.length = len) (hk : k < len) (hl : len ≤ 9223372036854775807) (hR : RowsIn w ao L)
    (h2 : w.cell? ⟨b2, 0, none⟩ = some (.slice ao len cap)) (h3 : w.cell? ⟨b3, 0, none⟩ = some (.int .i64 off)) :
    Calls Try.prog 29 #[.int .i64 (k : Int), .pointer (some ⟨b2, 0, none⟩), .pointer (some ⟨b3, 0, none⟩)] w fun e w' => e = .returned (.bool (decide (off < offAt L k))) ∧ Below w.heap.size w w' := by
  obtain ⟨r, hr⟩ : ∃ r, L[k]? = some r := ⟨_, List.getElem?_eq_getElem (by omega)⟩
  rcases hR with h | ⟨blk, o, rfl, q⟩
  · rw [h] at hr; cases hr
  obtain ⟨y0, -, -, -⟩ := q k r hr
  have ho : offAt L k = r.off := by simp [offAt, List.getD, hr]
  rw [ho]
  have i1 : (k : Int) < (len : Int) := by omega
  clear q hr ho hL
  generalize r.off = z at y0
  go_enter Try.func29, Try.ntmps29
  go_wp2_with fail
  go_region
  all_goals
    go_wp2_with fail
    go_ret
    exact ⟨rfl, (Below.refl _ _).drew⟩

/-- The middle of two numbers, as the search reckons it. -/
theorem half (i j : Nat) : ((i : Int) + (j : Int)) / 2 = (((i + j) / 2 : Nat) : Int) := by omega

set_option maxHeartbeats 2000000 in
theorem search_c (L : List RowR) (ao : Option Addr) (len cap : Nat) (off : Int) (b2 b3 : Nat) (w : World) (hL : L.length = len) (hl : len ≤ 4611686018427387903) (hR : RowsIn w ao L)
    (hmono : ∀ m n, m ≤ n → n < len → off < offAt L m → off < offAt L n)
    (h2 : w.cell? ⟨b2, 0, none⟩ = some (.slice ao len cap)) (h3 : w.cell? ⟨b3, 0, none⟩ = some (.int .i64 off)) :
    Calls Try.prog 28 #[.int .i64 (len : Int), .func (.func 29) #[] #[.pointer (some ⟨b2, 0, none⟩), .pointer (some ⟨b3, 0, none⟩)]] w fun e w' =>
      ∃ k : Nat, k ≤ len ∧ (∀ m, m < k → ¬ off < offAt L m) ∧ (∀ m, k ≤ m → m < len → off < offAt L m) ∧ e = .returned (.int .i64 (k : Int)) ∧ Below w.heap.size w w' := by
  have HG := Lib.hid fun (k : Nat) (hk : k < len) (wr : World) (hB : Below w.heap.size w wr) => gtrk_c L ao len cap k off b2 b3 wr hL hk (by omega) (rows_below hB hR) (keep hB h2) (keep hB h3)
  have HM := Lib.hid hmono
  clear hL hR hmono h2 h3
  go_enter Try.func28, Try.ntmps28
  go_wp2_with fail
  go_loopg [5, 6] len (fun gk vi vj wr => ∃ i j : Nat, gk = j - i ∧ i ≤ j ∧ j ≤ len ∧ vi = .int .i64 (i : Int) ∧ vj = .int .i64 (j : Int) ∧ Hid ((∀ m, m < i → ¬ off < offAt L m) ∧ (∀ m, j ≤ m → m < len → off < offAt L m)) ∧ Below w.heap.size w wr)
  case atStart => exact ⟨0, len, rfl, Nat.zero_le _, Nat.le_refl _, rfl, rfl, Lib.hid ⟨fun m h => absurd h (Nat.not_lt_zero _), fun m h h' => by omega⟩, Below.refl _ _⟩
  case round =>
    obtain ⟨i, j, hg, hij, hjl, rfl, rfl, HI, hB⟩ := hrel
    by_cases c1 : i < j
    · have i1 : (i : Int) < (j : Int) := by omega
      have hh := half i j
      have hm1 : (i + j) / 2 < j := by omega
      have hm2 : i ≤ (i + j) / 2 := by omega
      generalize (i + j) / 2 = m at hh hm1 hm2
      go_wp2_with fail
      refine (HG.out m (by omega) wr hB).mono ?_
      rintro e w1 ⟨rfl, hb⟩
      have hB1 := below_next hB hb
      by_cases c2 : off < offAt L m
      · have d : decide (off < offAt L m) = true := by simpa using c2
        go_wp2_with fail
        go_roundg (m - i)
        case measure => omega
        case rel => exact ⟨i, m, rfl, hm2, by omega, rfl, rfl, Lib.hid ⟨HI.out.1, fun q h h' => HM.out m q h h' c2⟩, hB1⟩
      · have d : decide (off < offAt L m) = false := by simpa using c2
        go_wp2_with fail
        go_roundg (j - (m + 1))
        case measure => omega
        case rel => exact ⟨m + 1, j, rfl, by omega, hjl, rfl, rfl, Lib.hid ⟨fun q h => Int.not_lt.1 fun hq => absurd (HM.out q m (by omega) (by omega) hq) (by omega), HI.out.2⟩, hB1⟩
    · have i1 : ¬ (i : Int) < (j : Int) := by omega
      go_wp2_with fail
      go_ret
      exact ⟨i, by omega, HI.out.1, fun q h h' => HI.out.2 q (by omega) h', rfl, hB⟩
end Go.Proofs.Ytnmgfckefofcpaa
