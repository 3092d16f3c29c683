/- An api.Code that came in as an argument: its bytes and its rows. -/
import Derived.Test.YtnmgfckefofcpaaRowO
import Derived.Test.YtnmgfckefofcpaaBytes
import Derived.ChangeSame
namespace Go.Proofs.Ytnmgfckefofcpaa
open Go.ChangeShapes Go.WideShapes Go.RowKit Go.Deep
set_option linter.unusedSimpArgs false
set_option linter.unusedVariables false

theorem slice_shape {H : Type} {enc : TypeId × Value → H} {P : Program} {w : World} {base : Nat} {spare : Nat → Bool} {held : Bool} {t e : TypeId} {n : Nat} {cs : List Value} {x : DataW H × List MemPlace}
    (ht : P.underlying t = some (.slice e)) (h : DataW.trod enc P w base spare held n t cs = some x) : ∃ ao len cap, cs = [.slice ao len cap] := by
  rcases open_slice ht h with ⟨hcs, _⟩ | ⟨a, l, c, m, k, D, Pl, hcs, _⟩
  · exact ⟨none, 0, 0, hcs⟩
  · exact ⟨some a, l, c, hcs⟩

set_option maxRecDepth 100000 in
theorem open_code {H : Type} {enc : TypeId × Value → H} {w : World} {base base1 : Nat} {spare : Nat → Bool} {held : Bool} {v : Value} {d : DataW H} {p : List MemPlace}
    (hv : Value.okWide Try.prog w .any base1 36 v) (h : DataW.Trod enc Try.prog w base spare held 36 v d p) :
    ∃ (ao : Option Addr) (len cap : Nat) (B : List Int) (a2 : Option Addr) (len2 cap2 : Nat) (L : List RowR), v = .agg #[.slice ao len cap, .slice a2 len2 cap2] ∧ ByteArg w ao len cap B ∧ L.length = len2 ∧ len2 ≤ 9223372036854775807 ∧ RowsIn w a2 L := by
  obtain ⟨cs, rfl, hsz⟩ := okWide_struct Try.underlying36 hv
  obtain ⟨fuel, hf⟩ := h
  obtain ⟨y0, y1, n, -, hl, h0, h1⟩ := trod_struct2 Try.underlying36 hf
  have hc0 : Try.prog.cellsOf 34 = 1 := by kernel_rfl
  have hc1 : Try.prog.cellsOf 22 = 1 := by kernel_rfl
  have hc2 : Try.prog.cellsOf 36 = 2 := by kernel_rfl
  rw [hc2] at hl
  simp only at h0 h1
  rw [hc0] at h0
  rw [hc1] at h1
  obtain ⟨ao, len, cap, e0⟩ := slice_shape Try.underlying34 h0
  obtain ⟨a2, len2, cap2, e1⟩ := slice_shape Try.underlying22 h1
  obtain ⟨l⟩ := cs
  simp only [Value.cells] at hl e0 e1 h0 h1
  match l, hl with
  | [x, y], _ =>
    simp at e0 e1 h0 h1
    subst e0 e1
    obtain ⟨B, hB⟩ := open_bytes (enc := enc) (base := base) (spare := spare) (held := held) (d := y0.1) (p := y0.2) Try.underlying34 Try.underlying5 (by kernel_rfl) ⟨n, h0⟩
    obtain ⟨L, hL, h2, h3, hR, -⟩ := open_rows (n := 8) (enc := enc) (base := base) (spare := spare) (held := held) (d := y1.1) (p := y1.2) Try.underlying22 (by kernel_rfl) (by kernel_rfl) ⟨n, h1⟩
    exact ⟨ao, len, cap, B, a2, len2, cap2, L, rfl, hB, hL, by omega, hR⟩
end Go.Proofs.Ytnmgfckefofcpaa
