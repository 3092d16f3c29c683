/- A slice of bytes that came in as an argument: the bytes that it leads to. Whatever the program. -/
import Derived.Test.YtnoeeediicaooaaGreatDoorFlat
namespace Go.Proofs.YtnoeeediicaooaaGreatDoor
open Go.ChangeShapes Go.WideShapes Go.RowKit

/-- The bytes that a slice leads to. -/
def BytesIn (w : World) (ao : Option Addr) (L : List Int) : Prop :=
  L = [] ∨ ∃ blk off, ao = some ⟨blk, off, none⟩ ∧ ∀ i, i < L.length → w.cell? ⟨blk, off + i, none⟩ = some (.int .u8 (L.getD i 0))

/-- What the walk is told of such a slice. -/
def ByteArg (w : World) (ao : Option Addr) (len cap : Nat) (L : List Int) : Prop :=
  L.length = len ∧ len ≤ cap ∧ cap ≤ 9223372036854775807 ∧ (∀ x ∈ L, 0 ≤ x ∧ x < 256) ∧ BytesIn w ao L

theorem open_bytes {H : Type} {enc : TypeId × Value → H} {P : Program} {w : World} {base : Nat} {spare : Nat → Bool} {held : Bool} {t e : TypeId} {ao : Option Addr} {len cap : Nat} {d : DataW H} {p : List MemPlace}
    (ht : P.underlying t = some (.slice e)) (he : P.underlying e = some (.int .u8)) (hc : P.cellsOf e = 1) (h : DataW.Trod enc P w base spare held t (.slice ao len cap) d p) : ∃ L : List Int, ByteArg w ao len cap L := by
  obtain ⟨fuel, hf⟩ := h
  rcases open_ints ht he hc hf with ⟨hcs, _⟩ | ⟨x, l, c, zs, hcs, _, hl, hm, hz, _, hcell, hwz⟩
  · simp [Value.cells] at hcs
    obtain ⟨rfl, rfl, rfl⟩ := hcs
    exact ⟨[], rfl, by omega, by omega, fun x hx => (by cases hx), .inl rfl⟩
  · simp [Value.cells] at hcs
    obtain ⟨rfl, rfl, rfl⟩ := hcs
    have hlz : len ≤ zs.length := by rw [hz]; split <;> omega
    have hlen : (zs.take len).length = len := by simp; omega
    refine ⟨zs.take len, hlen, hl, hm, fun x hx => bd_u8 (hwz x (List.mem_of_mem_take hx)), ?_⟩
    rcases Nat.eq_zero_or_pos len with h0 | h0
    · subst h0; exact .inl (by simp)
    · obtain ⟨b, off, spot⟩ := x
      have h1 := hcell 0 (by omega)
      have hs : spot = none := by simpa [Addr.add] using World.cell?_spot h1
      subst hs
      refine .inr ⟨b, off, rfl, fun i hi => ?_⟩
      rw [hlen] at hi
      have h2 := hcell i (by omega)
      have ha : (⟨b, off, none⟩ : Addr).add i = ⟨b, off + i, none⟩ := by unfold Addr.add; split <;> simp_all
      rw [ha] at h2
      rw [h2]
      simp [List.getD, hi]
end Go.Proofs.YtnoeeediicaooaaGreatDoor
