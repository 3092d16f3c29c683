/- A slice of instructions that came in as an argument. -/
import Derived.Test.YtnoeeediicaooaaGreatDoorFlat
import Derived.Deep.Slices
namespace Go.Proofs.YtnoeeediicaooaaGreatDoor
open Go.ChangeShapes Go.WideShapes Go.RowKit Go.Deep
set_option linter.unusedSimpArgs false
set_option linter.unusedVariables false

/-- An instruction, its four numbers within their kinds. -/
structure InsR where
  op : Int
  a : Int
  b : Int
  imm : Int
  ok : 0 ≤ op ∧ op < 256 ∧ 0 ≤ a ∧ a < 256 ∧ 0 ≤ b ∧ b < 256 ∧ -2147483648 ≤ imm ∧ imm < 2147483648

def InsR.cells (r : InsR) : List Value := [.int .u8 r.op, .int .u8 r.a, .int .u8 r.b, .int .i32 r.imm]

/-- The instructions that a slice leads to. -/
def InssIn (w : World) (ao : Option Addr) (L : List InsR) : Prop :=
  L = [] ∨ ∃ blk off, ao = some ⟨blk, off, none⟩ ∧ ∀ i r, L[i]? = some r →
    w.cell? ⟨blk, off + i * 4, none⟩ = some (.int .u8 r.op) ∧ w.cell? ⟨blk, off + i * 4 + 1, none⟩ = some (.int .u8 r.a) ∧ w.cell? ⟨blk, off + i * 4 + 2, none⟩ = some (.int .u8 r.b) ∧ w.cell? ⟨blk, off + i * 4 + 3, none⟩ = some (.int .i32 r.imm)

theorem add_midI (b o j : Nat) : (⟨b, o, none⟩ : Addr).add j = ⟨b, o + j, none⟩ := by unfold Addr.add; split <;> simp_all

theorem open_inss {H : Type} {enc : TypeId × Value → H} {P : Program} {w : World} {base : Nat} {spare : Nat → Bool} {held : Bool} {n : Nat} {t e : TypeId} {ao : Option Addr} {len cap : Nat} {d : DataW H} {p : List MemPlace}
    (ht : P.underlying t = some (.slice e)) (he : flat P n e = some [.i .u8, .i .u8, .i .u8, .i .i32]) (hC : P.cellsOf e = 4) (h : DataW.Trod enc P w base spare held t (.slice ao len cap) d p) :
    ∃ L : List InsR, L.length = len ∧ len ≤ cap ∧ cap ≤ 9223372036854775807 ∧ InssIn w ao L := by
  obtain ⟨fuel, hf⟩ := h
  rcases open_slice ht hf with ⟨hcs, _⟩ | ⟨a, l, c, m, k, D, Pl, hcs, _, hl, hm, hmm, hx, hi⟩
  · simp [Value.cells] at hcs
    obtain ⟨rfl, rfl, rfl⟩ := hcs
    exact ⟨[], rfl, Nat.le_refl _, by omega, .inl rfl⟩
  · simp [Value.cells] at hcs
    obtain ⟨rfl, rfl, rfl⟩ := hcs
    have hmax : maxLen = 9223372036854775807 := rfl
    rw [hC] at hi
    have hlm : len ≤ m := by rw [hmm]; split <;> omega
    have hr : ∀ i, ∃ r : InsR, i < len → ∀ j, j < 4 → w.cell? ((a.add (i * 4)).add j) = r.cells[j]? := fun i => by
      by_cases c : i < len
      · obtain ⟨cs, h1, h2⟩ := hi i (by omega)
        have h3 := flat_sound n e _ _ cs _ he h2
        obtain ⟨x0, cs0, rfl, w0, o0⟩ := okAll_i h3
        obtain ⟨x1, cs1, rfl, w1, o1⟩ := okAll_i o0
        obtain ⟨x2, cs2, rfl, w2, o2⟩ := okAll_i o1
        obtain ⟨x3, cs3, rfl, w3, o3⟩ := okAll_i o2
        obtain rfl := okAll_nil o3
        obtain ⟨_, _, h5⟩ := World.cells?_some h1
        obtain ⟨p0, q0⟩ := bd_u8 w0
        obtain ⟨p1, q1⟩ := bd_u8 w1
        obtain ⟨p2, q2⟩ := bd_u8 w2
        obtain ⟨p3, q3⟩ := bd_i32 w3
        exact ⟨⟨x0, x1, x2, x3, ⟨p0, q0, p1, q1, p2, q2, p3, q3⟩⟩, fun _ j hj => h5 j hj⟩
      · exact ⟨⟨0, 0, 0, 0, by omega⟩, fun h => absurd h c⟩
    obtain ⟨f, hf⟩ := Classical.axiomOfChoice hr
    refine ⟨(List.range len).map f, by simp, hl, by omega, ?_⟩
    rcases Nat.eq_zero_or_pos len with h0 | h0
    · subst h0; exact .inl (by simp)
    · obtain ⟨b, off, spot⟩ := a
      have h1 := hf 0 h0 0 (by omega)
      have hs : spot = none := by
        have h1' : w.cell? ((⟨b, off, spot⟩ : Addr).add 0) = some (.int .u8 (f 0).op) := by
          have hz : ((⟨b, off, spot⟩ : Addr).add (0 * 4)).add 0 = (⟨b, off, spot⟩ : Addr).add 0 := by simp [Addr.add]; try split <;> simp_all
          rw [← hz]; exact h1
        simpa [Addr.add] using World.cell?_spot h1'
      subst hs
      refine .inr ⟨b, off, rfl, fun i r hr => ?_⟩
      simp only [List.getElem?_map, Option.map_eq_some_iff] at hr
      obtain ⟨i', hi', rfl⟩ := hr
      obtain ⟨hlt, rfl⟩ := List.getElem?_eq_some_iff.1 hi'
      simp only [List.length_range] at hlt
      simp only [List.getElem_range]
      have ha : ∀ j, ((⟨b, off, none⟩ : Addr).add (i * 4)).add j = ⟨b, off + i * 4 + j, none⟩ := fun j => by rw [add_midI, add_midI]
      have hc : ∀ j, j < 4 → w.cell? ⟨b, off + i * 4 + j, none⟩ = (f i).cells[j]? := fun j hj => by rw [← ha]; exact hf i hlt j hj
      exact ⟨hc 0 (by omega), hc 1 (by omega), hc 2 (by omega), hc 3 (by omega)⟩
end Go.Proofs.YtnoeeediicaooaaGreatDoor
