/- Rows of translated code: rows.behind over rows that rise. -/
import Derived.Test.YtnmgfckefofcpaaRowF
namespace Go.Proofs.Ytnmgfckefofcpaa
open Go.RowKit
set_option linter.unusedSimpArgs false
set_option linter.unusedVariables false

theorem rows_past {w : World} {ao : Option Addr} {L : List RowR} (h : RowsIn w ao L) (o : Obj) : RowsIn (w.alloc o) ao L := rows_below (below_alloc1 w o) h

set_option maxHeartbeats 2000000 in
theorem behind_c (L : List RowR) (ao : Option Addr) (len cap : Nat) (off : Int) (w : World) (hL : L.length = len) (hl : len ≤ 4611686018427387903) (hR : RowsIn w ao L)
    (hmono : ∀ m n, m ≤ n → n < len → off < offAt L m → off < offAt L n) :
    Calls Try.prog 19 #[.slice ao len cap, .int .i64 off] w fun e w' =>
      ∃ k : Nat, k ≤ len ∧ (∀ m, m < k → ¬ off < offAt L m) ∧ (∀ m, k ≤ m → m < len → off < offAt L m) ∧ e = .returned (.int .i64 (k : Int)) ∧ Below w.heap.size w w' := by
  have HS := Lib.hid fun (b2 b3 : Nat) (a b : Obj) => search_c L ao len cap off b2 b3 ((w.alloc a).alloc b) hL hl (rows_past (rows_past hR a) b) hmono
  clear hL hR hmono
  go_enter Try.func19, Try.ntmps19
  go_wp2_with fail
  refine (HS.out _ _ _ _ (by go_simp) (by go_simp)).mono ?_
  rintro e w1 ⟨k, hk, h1, h2, rfl, hb⟩
  have H1 := Lib.hid h1
  have H2 := Lib.hid h2
  clear h1 h2
  go_wp2_with fail
  go_ret
  exact ⟨k, hk, H1.out, H2.out, rfl, below_next ((below_alloc1 _ _).alloc (by simp) _) hb⟩
end Go.Proofs.Ytnmgfckefofcpaa
