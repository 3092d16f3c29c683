/- text.Read's contract, whatever the fence. -/
import Derived.Test.YtgfljokamgbcaaaDoorRdG
namespace Go.Proofs.YtgfljokamgbcaaaDoor
open Go.RowKit
set_option linter.unusedSimpArgs false
set_option linter.unusedVariables false
set_option maxRecDepth 100000

theorem of_bounds {n : Nm} {ws : List (List UInt8)} {a b i : Int} (h : ofF n ws = .ok (a, b, i)) : (0 ≤ a ∧ a < 8) ∧ (0 ≤ b ∧ b < 8) ∧ -2147483648 ≤ i ∧ i < 2147483648 := by
  unfold ofF at h
  split at h
  case isFalse => cases h
  cases hA : oA n ws with
  | none => rw [hA] at h; cases h
  | some va =>
    cases hB : oB n ws with
    | none => rw [hA, hB] at h; cases h
    | some vb =>
      rw [hA, hB] at h
      simp only at h
      have hvA : 0 ≤ va ∧ va < 8 := by
        unfold oA at hA
        split at hA
        · have := Option.some.inj hA; omega
        · exact regF_bd hA
      have hvB : 0 ≤ vb ∧ vb < 8 := by
        unfold oB at hB
        split at hB
        · have := Option.some.inj hB; omega
        · exact regF_bd hB
      split at h
      · cases hr : numF (ws.getD (pI n) []) with
        | none => rw [hr] at h; cases h
        | some j =>
          rw [hr] at h
          simp only at h
          split at h
          · cases h; exact ⟨hvA, hvB, numF_bd hr⟩
          · cases h
      · cases h; exact ⟨hvA, hvB, by omega, by omega⟩
theorem read_bounds {L : List UInt8} {op a b i : Int} (h : readF L = .ok (op, a, b, i)) : (0 ≤ op ∧ op < 256) ∧ (0 ≤ a ∧ a < 8) ∧ (0 ≤ b ∧ b < 8) ∧ -2147483648 ≤ i ∧ i < 2147483648 := by
  unfold readF at h
  split at h
  · cases h
  · split at h
    · cases h
    · rename_i n hf
      have hn := List.mem_of_find?_eq_some hf
      obtain ⟨k, hk⟩ := List.getElem?_of_mem hn
      obtain ⟨o0, o1, -⟩ := nm_is hk
      cases ho : ofF n (splitF L) with
      | error e => rw [ho] at h; cases h
      | ok t =>
        obtain ⟨a', b', i'⟩ := t
        rw [ho] at h
        cases h
        exact ⟨⟨o0, o1⟩, of_bounds ho⟩

theorem read_c (L : List UInt8) (hL : L.length ≤ 9223372036854775807) (w : World) : Calls Tryd.prog 54 #[.string ⟨L.toArray⟩] w fun e w' => e = .returned (readV (readF L)) ∧ Below w.heap.size w w' :=
  (callsIn_wide (n := 3)).1 (read_in 3 (by omega) L hL w)

end Go.Proofs.YtgfljokamgbcaaaDoor
