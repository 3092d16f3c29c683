/- Rows of translated code: rows.Find over rows that rise. -/
import Derived.Test.YtnmgfckefofcpaaRowI
namespace Go.Proofs.Ytnmgfckefofcpaa
open Go.RowKit
set_option linter.unusedSimpArgs false
set_option linter.unusedVariables false

/-- What Find hands back, of what Last does. -/
def findR (x : RowR × Bool) (off : Int) : RowR × Bool := if x.2 = true ∧ x.1.off = off then x else (⟨0, 0, 0, 0⟩, false)

set_option maxHeartbeats 4000000 in
theorem find_c (L : List RowR) (ao : Option Addr) (len cap : Nat) (off : Int) (w : World) (hL : L.length = len) (hl : len ≤ 4611686018427387903) (hR : RowsIn w ao L)
    (hmono : ∀ m n, m ≤ n → n < len → off < offAt L m → off < offAt L n) :
    Calls Try.prog 9 #[.slice ao len cap, .int .i64 off] w fun e w' =>
      ∃ k : Nat, Cut L off k ∧ e = .returned (.tuple #[(findR (lastR L k) off).1.val, .bool (findR (lastR L k) off).2]) ∧ Below w.heap.size w w' := by
  have HS := Lib.hid fun (o : Obj) => last_c L ao len cap off (w.alloc o) hL hl (rows_past hR o) hmono
  clear hL hR hmono
  go_enter Try.func9, Try.ntmps9
  go_wp2_with fail
  refine (HS.out _).mono ?_
  rintro e w1 ⟨k, hC, rfl, hb⟩
  have HC := Lib.hid hC
  clear hC
  have hB := below_box hb
  obtain ⟨hcl, hfz⟩ := bcell hb
  have s1 : w.heap.size < w1.heap.size := by have := hb.size; simp at this; omega
  obtain ⟨x, hx⟩ : ∃ x, lastR L k = x := ⟨_, rfl⟩
  rw [hx]
  have HX := Lib.hid hx
  clear hx
  obtain ⟨⟨ro, rp, rd, re⟩, is⟩ := x
  unfold RowR.val
  cases is
  · go_wp2_with fail
    refine bodyPost_ret (v := .tuple #[(⟨0, 0, 0, 0⟩ : RowR).val, .bool false]) ?_ rfl ⟨k, HC.out, by rw [HX.out]; rfl, ?_⟩
    · unfold RowR.val
      simp [results, Try.results9, go_sem, hcl, s1]
    · exact ((((hB.setCell (by simp) _).setCell (by simp) _).setCell (by simp) _).setCell (by simp) _).alloc (by simp; omega) _
  · by_cases c : ro = off
    · subst c
      go_wp2_with fail
      refine bodyPost_ret (v := .tuple #[(⟨ro, rp, rd, re⟩ : RowR).val, .bool true]) ?_ rfl ⟨k, HC.out, by rw [HX.out]; simp [findR], ?_⟩
      · unfold RowR.val
        simp [results, Try.results9, go_sem, hcl, s1]
      · exact ((((hB.setCell (by simp) _).setCell (by simp) _).setCell (by simp) _).setCell (by simp) _).alloc (by simp; omega) _
    · have e0 : (ro == off) = false := by simpa using c
      go_wp2_with fail
      refine bodyPost_ret (v := .tuple #[(⟨0, 0, 0, 0⟩ : RowR).val, .bool false]) ?_ rfl ⟨k, HC.out, by rw [HX.out]; simp [findR, c], ?_⟩
      · unfold RowR.val
        simp [results, Try.results9, go_sem, hcl, s1]
      · exact ((((hB.setCell (by simp) _).setCell (by simp) _).setCell (by simp) _).setCell (by simp) _).alloc (by simp; omega) _
end Go.Proofs.Ytnmgfckefofcpaa
