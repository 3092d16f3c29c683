/- A block that came in as an argument. -/
import Derived.Test.YtnmgfckefofcpaaInsO
import Derived.Test.YtnmgfckefofcpaaRowS
import Derived.ChangeArms
import Derived.OpenShut
namespace Go.Proofs.Ytnmgfckefofcpaa
open Go.ChangeShapes Go.WideShapes Go.RowKit Go.Deep
set_option linter.unusedSimpArgs false
set_option linter.unusedVariables false

/-- The places that a slice leads to. -/
def AtsIn (w : World) (ao : Option Addr) (L : List Int) : Prop :=
  L = [] ∨ ∃ blk off, ao = some ⟨blk, off, none⟩ ∧ ∀ i r, L[i]? = some r → w.cell? ⟨blk, off + i, none⟩ = some (.int .u32 r)

theorem bd_u32M {x : Int} (h : (Lit.int .u32 x).wf = true) : 0 ≤ x ∧ x < 4294967296 := by
  have e1 : IntKind.min .u32 = 0 := by decide
  have e2 : IntKind.max .u32 = 4294967295 := by decide
  simp only [Lit.wf, Bool.and_eq_true, decide_eq_true_eq] at h
  omega
theorem open_ats {H : Type} {enc : TypeId × Value → H} {P : Program} {w : World} {base : Nat} {spare : Nat → Bool} {held : Bool} {n : Nat} {t e : TypeId} {ao : Option Addr} {len cap : Nat} {d : DataW H} {p : List MemPlace}
    (ht : P.underlying t = some (.slice e)) (he : flat P n e = some [.i .u32]) (hC : P.cellsOf e = 1) (h : DataW.Trod enc P w base spare held t (.slice ao len cap) d p) :
    ∃ L : List Int, L.length = len ∧ len ≤ cap ∧ cap ≤ 9223372036854775807 ∧ (∀ x ∈ L, 0 ≤ x ∧ x < 4294967296) ∧ AtsIn w ao L := by
  obtain ⟨fuel, hf⟩ := h
  rcases open_slice ht hf with ⟨hcs, _⟩ | ⟨a, l, c, m, k, D, Pl, hcs, _, hl, hm, hmm, hx, hi⟩
  · simp [Value.cells] at hcs
    obtain ⟨rfl, rfl, rfl⟩ := hcs
    exact ⟨[], rfl, Nat.le_refl _, by omega, fun x hx => (by cases hx), .inl rfl⟩
  · simp [Value.cells] at hcs
    obtain ⟨rfl, rfl, rfl⟩ := hcs
    have hmax : maxLen = 9223372036854775807 := rfl
    rw [hC] at hi
    have hlm : len ≤ m := by rw [hmm]; split <;> omega
    have hr : ∀ i, ∃ r : Int, (0 ≤ r ∧ r < 4294967296) ∧ (i < len → w.cell? ((a.add (i * 1)).add 0) = some (.int .u32 r)) := fun i => by
      by_cases c : i < len
      · obtain ⟨cs, h1, h2⟩ := hi i (by omega)
        have h3 := flat_sound n e _ _ cs _ he h2
        obtain ⟨x0, cs0, rfl, w0, o0⟩ := okAll_i h3
        obtain rfl := okAll_nil o0
        obtain ⟨_, _, h5⟩ := World.cells?_some h1
        exact ⟨x0, bd_u32M w0, fun _ => h5 0 (by decide)⟩
      · exact ⟨0, by omega, fun h => absurd h c⟩
    obtain ⟨f, hf⟩ := Classical.axiomOfChoice hr
    refine ⟨(List.range len).map f, by simp, hl, by omega, ?_, ?_⟩
    · intro x hx
      simp only [List.mem_map, List.mem_range] at hx
      obtain ⟨i, -, rfl⟩ := hx
      exact (hf i).1
    · rcases Nat.eq_zero_or_pos len with h0 | h0
      · subst h0; exact .inl (by simp)
      · obtain ⟨b, off, spot⟩ := a
        have h1 := (hf 0).2 h0
        have hs : spot = none := by
          have h1' : w.cell? ((⟨b, off, spot⟩ : Addr).add 0) = some (.int .u32 (f 0)) := by
            have hz : ((⟨b, off, spot⟩ : Addr).add (0 * 1)).add 0 = (⟨b, off, spot⟩ : Addr).add 0 := by simp [Addr.add]; try split <;> simp_all
            rw [← hz]; exact h1
          simpa [Addr.add] using World.cell?_spot h1'
        subst hs
        refine .inr ⟨b, off, rfl, fun i r hr => ?_⟩
        simp only [List.getElem?_map, Option.map_eq_some_iff] at hr
        obtain ⟨i', hi', rfl⟩ := hr
        obtain ⟨hlt, rfl⟩ := List.getElem?_eq_some_iff.1 hi'
        simp only [List.length_range] at hlt
        simp only [List.getElem_range]
        have := (hf i).2 hlt
        rw [add_midI, add_midI] at this
        simpa using this

theorem chunk_atM {cs : List Value} {o n : Nat} {l : List Value} (h : (cs.drop o).take n = l) : ∀ j v, l[j]? = some v → cs[o + j]? = some v := by
  subst h
  intro j v hv
  rw [List.getElem?_take] at hv
  split at hv
  · simpa [List.getElem?_drop] using hv
  · cases hv

section
variable {H : Type} {enc : TypeId × Value → H} {P : Program} {w : World} {base : Nat} {spare : Nat → Bool} {held : Bool}
theorem field_intM {k : IntKind} {t : TypeId} {n : Nat} {cs : List Value} {o m : Nat} {x : Option (DataW H × List MemPlace)} (hx : x.isSome = true) (hf : flat P 8 t = some [.i k]) (h : DataW.trod enc P w base spare held n t ((cs.drop o).take m) = x) :
    ∃ z, cs[o]? = some (.int k z) ∧ (Lit.int k z).wf = true := by
  obtain ⟨y, rfl⟩ := Option.isSome_iff_exists.1 hx
  have h1 := flat_sound 8 t _ _ _ _ hf h
  generalize hc : (cs.drop o).take m = l at h1
  obtain ⟨z, l', rfl, hw, h2⟩ := okAll_i h1
  exact ⟨z, chunk_atM hc 0 _ rfl, hw⟩
theorem field_inss {t e : TypeId} {n : Nat} {cs : List Value} {o m : Nat} {x : Option (DataW H × List MemPlace)} (hx : x.isSome = true) (ht : P.underlying t = some (.slice e)) (he : flat P 8 e = some [.i .u8, .i .u8, .i .u8, .i .i32]) (hc : P.cellsOf e = 4) (h : DataW.trod enc P w base spare held n t ((cs.drop o).take m) = x) :
    ∃ ao len cap, cs[o]? = some (.slice ao len cap) ∧ ∃ L : List InsR, L.length = len ∧ len ≤ cap ∧ cap ≤ 9223372036854775807 ∧ InssIn w ao L := by
  obtain ⟨y, rfl⟩ := Option.isSome_iff_exists.1 hx
  obtain ⟨ao, len, cap, e0⟩ := slice_shape ht h
  have e1 := chunk_atM e0 0 _ rfl
  rw [e0] at h
  exact ⟨ao, len, cap, e1, open_inss (n := 8) (enc := enc) (base := base) (spare := spare) (held := held) (d := y.1) (p := y.2) ht he hc ⟨n, h⟩⟩
theorem field_ats {t e : TypeId} {n : Nat} {cs : List Value} {o m : Nat} {x : Option (DataW H × List MemPlace)} (hx : x.isSome = true) (ht : P.underlying t = some (.slice e)) (he : flat P 8 e = some [.i .u32]) (hc : P.cellsOf e = 1) (h : DataW.trod enc P w base spare held n t ((cs.drop o).take m) = x) :
    ∃ ao len cap, cs[o]? = some (.slice ao len cap) ∧ ∃ L : List Int, L.length = len ∧ len ≤ cap ∧ cap ≤ 9223372036854775807 ∧ (∀ x ∈ L, 0 ≤ x ∧ x < 4294967296) ∧ AtsIn w ao L := by
  obtain ⟨y, rfl⟩ := Option.isSome_iff_exists.1 hx
  obtain ⟨ao, len, cap, e0⟩ := slice_shape ht h
  have e1 := chunk_atM e0 0 _ rfl
  rw [e0] at h
  exact ⟨ao, len, cap, e1, open_ats (n := 8) (enc := enc) (base := base) (spare := spare) (held := held) (d := y.1) (p := y.2) ht he hc ⟨n, h⟩⟩
theorem field_slice {t e : TypeId} {n : Nat} {cs : List Value} {o m : Nat} {x : Option (DataW H × List MemPlace)} (hx : x.isSome = true) (ht : P.underlying t = some (.slice e)) (h : DataW.trod enc P w base spare held n t ((cs.drop o).take m) = x) :
    ∃ ao len cap, cs[o]? = some (.slice ao len cap) := by
  obtain ⟨y, rfl⟩ := Option.isSome_iff_exists.1 hx
  obtain ⟨ao, len, cap, e0⟩ := slice_shape ht h
  exact ⟨ao, len, cap, chunk_atM e0 0 _ rfl⟩
end

/-- A block, and how it is kept. -/
structure BlkR where
  ins : List InsR
  ats : List Int
  nx : Int
  to : Int
  en : Int
  ai : Option Addr
  ci : Nat
  aa : Option Addr
  ca : Nat
  vf : Value
  vt : Value
def BlkR.cells (b : BlkR) : Array Value := #[.slice b.ai b.ins.length b.ci, .slice b.aa b.ats.length b.ca, .int .u32 b.nx, .int .u32 b.to, .int .i64 b.en, b.vf, b.vt]
structure BlkR.Ok (b : BlkR) (w : World) : Prop where
  li : b.ins.length ≤ b.ci
  ci : b.ci ≤ 9223372036854775807
  inss : InssIn w b.ai b.ins
  la : b.ats.length ≤ b.ca
  ca : b.ca ≤ 9223372036854775807
  atb : ∀ x ∈ b.ats, 0 ≤ x ∧ x < 4294967296
  atsIn : AtsIn w b.aa b.ats
  nx0 : 0 ≤ b.nx
  nx1 : b.nx < 4294967296
  to0 : 0 ≤ b.to
  to1 : b.to < 4294967296
  vf : ∃ a l c, b.vf = .slice a l c
  vt : ∃ a l c, b.vt = .slice a l c

set_option maxRecDepth 100000 in
set_option maxHeartbeats 4000000 in
theorem open_block {H : Type} {enc : TypeId × Value → H} {w : World} {base base1 : Nat} {spare : Nat → Bool} {held : Bool} {v : Value} {d : DataW H} {p : List MemPlace}
    (hv : Value.okWide Try.prog w .any base1 42 v) (h : DataW.Trod enc Try.prog w base spare held 42 v d p) :
    ∃ b : BlkR, v = .agg b.cells ∧ b.Ok w := by
  obtain ⟨cs, rfl, hsz⟩ := okWide_struct Try.underlying42 hv
  have hc2 : Try.prog.cellsOf 42 = 7 := by kernel_rfl
  rw [hc2] at hsz
  obtain ⟨fuel, hf⟩ := h
  obtain ⟨xs, n, -, -, hl, hlen, hF⟩ := DataW.trod_struct Try.underlying42 hf
  have hlen' : xs.length = 7 := hlen
  have hS : ∀ i, i < 7 → (xs[i]?).isSome = true := fun i hi => by rw [List.getElem?_eq_getElem (by omega)]; rfl
  simp only [Value.cells] at hF
  obtain ⟨ai, li, ci, e0, LI, i1, i2, i3, i4⟩ := field_inss (hS 0 (by decide)) Try.underlying38 (by kernel_rfl) (by kernel_rfl) (hF 0 _ rfl)
  obtain ⟨aa, la, ca, e1, LA, j1, j2, j3, j4, j5⟩ := field_ats (hS 1 (by decide)) Try.underlying39 (by kernel_rfl) (by kernel_rfl) (hF 1 _ rfl)
  obtain ⟨z2, e2, b2⟩ := field_intM (k := .u32) (hS 2 (by decide)) (by kernel_rfl) (hF 2 _ rfl)
  obtain ⟨z3, e3, b3⟩ := field_intM (k := .u32) (hS 3 (by decide)) (by kernel_rfl) (hF 3 _ rfl)
  obtain ⟨z4, e4, b4⟩ := field_intM (k := .i64) (hS 4 (by decide)) (by kernel_rfl) (hF 4 _ rfl)
  obtain ⟨a5, l5, c5, e5⟩ := field_slice (hS 5 (by decide)) Try.underlying40 (hF 5 _ rfl)
  obtain ⟨a6, l6, c6, e6⟩ := field_slice (hS 6 (by decide)) Try.underlying40 (hF 6 _ rfl)
  obtain ⟨p2, q2⟩ := bd_u32M b2
  obtain ⟨p3, q3⟩ := bd_u32M b3
  subst i1 j1
  refine ⟨⟨LI, LA, z2, z3, z4, ai, ci, aa, ca, .slice a5 l5 c5, .slice a6 l6 c6⟩, ?_, ⟨i2, i3, i4, j2, j3, j4, j5, p2, q2, p3, q3, ⟨_, _, _, rfl⟩, ⟨_, _, _, rfl⟩⟩⟩
  obtain ⟨l⟩ := cs
  simp only at e0 e1 e2 e3 e4 e5 e6
  have hsz' : l.length = 7 := hsz
  match l, hsz' with
  | [x0, x1, x2, x3, x4, x5, x6], _ =>
    simp at e0 e1 e2 e3 e4 e5 e6
    subst e0 e1 e2 e3 e4 e5 e6
    rfl
end Go.Proofs.Ytnmgfckefofcpaa
