/- A slice of bytes that came in as an argument: with its size, and what a nil slice is. -/
import Derived.Test.YtjnakhejdpkfnaaDoorBytes
import Derived.Deep.Slices
namespace Go.Proofs.YtjnakhejdpkfnaaDoor
open Go.ChangeShapes Go.WideShapes Go.RowKit Go.Deep

theorem open_bytes2 {H : Type} {enc : TypeId × Value → H} {P : Program} {w : World} {base : Nat} {spare : Nat → Bool} {held : Bool} {t e : TypeId} {ao : Option Addr} {len cap : Nat} {d : DataW H} {p : List MemPlace}
    (ht : P.underlying t = some (.slice e)) (he : P.underlying e = some (.int .u8)) (hc : P.cellsOf e = 1) (h : DataW.Trod enc P w base spare held t (.slice ao len cap) d p) :
    ∃ L : List Int, ByteArg w ao len cap L ∧ (ao = none → len = 0 ∧ cap = 0) ∧ (len = 0 ∨ ∃ elems sp, d = .slice elems sp ∧ elems.length = len) := by
  obtain ⟨L, hL⟩ := open_bytes ht he hc h
  refine ⟨L, hL, ?_⟩
  obtain ⟨fuel, hf⟩ := h
  rcases open_slice ht hf with ⟨hcs, _⟩ | ⟨a, l, c, m, k, D, Pl, hcs, _, hl, hm, hmm, hx, hi⟩
  · simp [Value.cells] at hcs
    obtain ⟨rfl, rfl, rfl⟩ := hcs
    exact ⟨fun _ => ⟨rfl, rfl⟩, .inl rfl⟩
  · simp [Value.cells] at hcs
    obtain ⟨rfl, rfl, rfl⟩ := hcs
    refine ⟨fun h => (by cases h), ?_⟩
    simp only [Prod.mk.injEq] at hx
    rw [hx.1]
    exact .inr ⟨_, _, rfl, by simp⟩
end Go.Proofs.YtjnakhejdpkfnaaDoor
