/- A saved guest that came in as an argument. (Written by mkJO.py.) -/
import Derived.Test.YtjnakhejdpkfnaaDoorJudH
import Derived.ChangeArms
import Derived.OpenShut
namespace Go.Proofs.YtjnakhejdpkfnaaDoor
open Go.ChangeShapes Go.WideShapes Go.RowKit Go.Deep
set_option linter.unusedSimpArgs false
set_option linter.unusedVariables false

theorem chunk_at {cs : List Value} {o n : Nat} {l : List Value} (h : (cs.drop o).take n = l) : ∀ j v, l[j]? = some v → cs[o + j]? = some v := by
  subst h
  intro j v hv
  rw [List.getElem?_take] at hv
  split at hv
  · simpa [List.getElem?_drop] using hv
  · cases hv
theorem slice_shapeJ {H : Type} {enc : TypeId × Value → H} {P : Program} {w : World} {base : Nat} {spare : Nat → Bool} {held : Bool} {t e : TypeId} {n : Nat} {cs : List Value} {x : DataW H × List MemPlace}
    (ht : P.underlying t = some (.slice e)) (h : DataW.trod enc P w base spare held n t cs = some x) : ∃ ao len cap, cs = [.slice ao len cap] := by
  rcases open_slice ht h with ⟨hcs, _⟩ | ⟨a, l, c, m, k, D, Pl, hcs, _⟩
  · exact ⟨none, 0, 0, hcs⟩
  · exact ⟨some a, l, c, hcs⟩
theorem bd_i64J {x : Int} (h : (Lit.int .i64 x).wf = true) : -9223372036854775808 ≤ x ∧ x ≤ 9223372036854775807 := by
  have e1 : IntKind.min .i64 = -9223372036854775808 := by decide
  have e2 : IntKind.max .i64 = 9223372036854775807 := by decide
  simp only [Lit.wf, Bool.and_eq_true, decide_eq_true_eq] at h
  omega
theorem bd_u32J {x : Int} (h : (Lit.int .u32 x).wf = true) : 0 ≤ x ∧ x < 4294967296 := by
  have e1 : IntKind.min .u32 = 0 := by decide
  have e2 : IntKind.max .u32 = 4294967295 := by decide
  simp only [Lit.wf, Bool.and_eq_true, decide_eq_true_eq] at h
  omega

section
variable {H : Type} {enc : TypeId × Value → H} {P : Program} {w : World} {base : Nat} {spare : Nat → Bool} {held : Bool}
/-- One number. -/
theorem field_int {k : IntKind} {t : TypeId} {n : Nat} {cs : List Value} {o m : Nat} {x : Option (DataW H × List MemPlace)} (hx : x.isSome = true) (hf : flat P 8 t = some [.i k]) (h : DataW.trod enc P w base spare held n t ((cs.drop o).take m) = x) :
    ∃ z, cs[o]? = some (.int k z) ∧ (Lit.int k z).wf = true := by
  obtain ⟨y, rfl⟩ := Option.isSome_iff_exists.1 hx
  have h1 := flat_sound 8 t _ _ _ _ hf h
  generalize hc : (cs.drop o).take m = l at h1
  obtain ⟨z, l', rfl, hw, h2⟩ := okAll_i h1
  exact ⟨z, chunk_at hc 0 _ rfl, hw⟩
theorem field_bytes {t e : TypeId} {n : Nat} {cs : List Value} {o m : Nat} {x : Option (DataW H × List MemPlace)} (hx : x.isSome = true) (ht : P.underlying t = some (.slice e)) (he : P.underlying e = some (.int .u8)) (hc : P.cellsOf e = 1) (h : DataW.trod enc P w base spare held n t ((cs.drop o).take m) = x) :
    ∃ s : BSl, cs[o]? = some s.v ∧ s.ok w := by
  obtain ⟨y, rfl⟩ := Option.isSome_iff_exists.1 hx
  obtain ⟨ao, len, cap, e0⟩ := slice_shapeJ ht h
  have e1 := chunk_at e0 0 _ rfl
  rw [e0] at h
  obtain ⟨L, hL⟩ := open_bytes (enc := enc) (base := base) (spare := spare) (held := held) (d := y.1) (p := y.2) ht he hc ⟨n, h⟩
  exact ⟨⟨ao, len, cap, L⟩, e1, hL⟩
theorem field_elems {t e : TypeId} {ks : List CK} {n : Nat} {cs : List Value} {o m : Nat} {x : Option (DataW H × List MemPlace)} (hx : x.isSome = true) (ht : P.underlying t = some (.slice e)) (he : flat P 8 e = some ks) (hc : P.cellsOf e = ks.length) (hp : 0 < ks.length) (h : DataW.trod enc P w base spare held n t ((cs.drop o).take m) = x) :
    ∃ s : ESl, cs[o]? = some s.v ∧ s.ok ks w := by
  obtain ⟨y, rfl⟩ := Option.isSome_iff_exists.1 hx
  obtain ⟨ao, len, cap, e0⟩ := slice_shapeJ ht h
  have e1 := chunk_at e0 0 _ rfl
  rw [e0] at h
  obtain ⟨L, hL⟩ := open_elems (n := 8) (enc := enc) (base := base) (spare := spare) (held := held) (d := y.1) (p := y.2) ht he hc hp ⟨n, h⟩
  exact ⟨⟨ao, len, cap, L⟩, e1, hL⟩
theorem field_flat {ks : List CK} {t : TypeId} {n : Nat} {cs : List Value} {o m : Nat} {x : Option (DataW H × List MemPlace)} (hx : x.isSome = true) (hf : flat P 8 t = some ks) (h : DataW.trod enc P w base spare held n t ((cs.drop o).take m) = x) :
    ∃ l : List Value, okAll ks l ∧ ∀ j v, l[j]? = some v → cs[o + j]? = some v := by
  obtain ⟨y, rfl⟩ := Option.isSome_iff_exists.1 hx
  exact ⟨_, flat_sound 8 t _ _ _ _ hf h, chunk_at rfl⟩
end

set_option maxRecDepth 100000 in
set_option maxHeartbeats 4000000 in
theorem open_saved {H : Type} {enc : TypeId × Value → H} {w : World} {base base1 : Nat} {spare : Nat → Bool} {held : Bool} {v : Value} {d : DataW H} {p : List MemPlace}
    (hv : Value.okWide Tryd.prog w .any base1 30 v) (h : DataW.Trod enc Tryd.prog w base spare held 30 v d p) :
    ∃ (A : Array Value) (s : SvR), v = .agg A ∧ SvAt A s ∧ SvOk s w := by
  obtain ⟨cs, rfl, hsz⟩ := okWide_struct Tryd.underlying30 hv
  have hc2 : Tryd.prog.cellsOf 30 = 35 := by kernel_rfl
  rw [hc2] at hsz
  obtain ⟨fuel, hf⟩ := h
  obtain ⟨xs, n, -, -, hl, hlen, hF⟩ := DataW.trod_struct Tryd.underlying30 hf
  have hlen' : xs.length = 17 := hlen
  have hS : ∀ i, i < 17 → (xs[i]?).isSome = true := fun i hi => by rw [List.getElem?_eq_getElem (by omega)]; rfl
  simp only [Value.cells] at hF
  obtain ⟨z0, a0, b0⟩ := field_int (hS 0 (by decide)) (by kernel_rfl) (hF 0 _ rfl)
  obtain ⟨z1, a1, b1⟩ := field_bytes (hS 1 (by decide)) Tryd.underlying22 Tryd.underlying5 (by kernel_rfl) (hF 1 _ rfl)
  obtain ⟨z2, b2, a2⟩ := field_flat (ks := stKJ) (hS 2 (by decide)) (by kernel_rfl) (hF 2 _ rfl)
  obtain ⟨z3, a3, b3⟩ := field_int (hS 3 (by decide)) (by kernel_rfl) (hF 3 _ rfl)
  obtain ⟨z4, a4, b4⟩ := field_elems (ks := ksN) (hS 4 (by decide)) Tryd.underlying27 (by kernel_rfl) (by kernel_rfl) (by decide) (hF 4 _ rfl)
  obtain ⟨z5, a5, b5⟩ := field_bytes (hS 5 (by decide)) Tryd.underlying22 Tryd.underlying5 (by kernel_rfl) (hF 5 _ rfl)
  obtain ⟨z6, a6, b6⟩ := field_bytes (hS 6 (by decide)) Tryd.underlying22 Tryd.underlying5 (by kernel_rfl) (hF 6 _ rfl)
  obtain ⟨z7, a7, b7⟩ := field_bytes (hS 7 (by decide)) Tryd.underlying22 Tryd.underlying5 (by kernel_rfl) (hF 7 _ rfl)
  obtain ⟨z8, a8, b8⟩ := field_elems (ks := ksE) (hS 8 (by decide)) Tryd.underlying28 (by kernel_rfl) (by kernel_rfl) (by decide) (hF 8 _ rfl)
  obtain ⟨z9, a9, b9⟩ := field_int (k := .u32) (hS 9 (by decide)) (by kernel_rfl) (hF 9 _ rfl)
  obtain ⟨z10, a10, b10⟩ := field_int (k := .u32) (hS 10 (by decide)) (by kernel_rfl) (hF 10 _ rfl)
  obtain ⟨z11, a11, b11⟩ := field_int (k := .u32) (hS 11 (by decide)) (by kernel_rfl) (hF 11 _ rfl)
  obtain ⟨z12, a12, b12⟩ := field_int (k := .u32) (hS 12 (by decide)) (by kernel_rfl) (hF 12 _ rfl)
  obtain ⟨z13, a13, b13⟩ := field_int (k := .u32) (hS 13 (by decide)) (by kernel_rfl) (hF 13 _ rfl)
  obtain ⟨z14, a14, b14⟩ := field_int (k := .u32) (hS 14 (by decide)) (by kernel_rfl) (hF 14 _ rfl)
  obtain ⟨z15, a15, b15⟩ := field_int (k := .u32) (hS 15 (by decide)) (by kernel_rfl) (hF 15 _ rfl)
  obtain ⟨z16, a16, b16⟩ := field_int (k := .u32) (hS 16 (by decide)) (by kernel_rfl) (hF 16 _ rfl)
  obtain ⟨l⟩ := cs
  have hsz' : l.length = 35 := by simpa using hsz
  simp only [] at a0 a1 a2 a3 a4 a5 a6 a7 a8 a9 a10 a11 a12 a13 a14 a15 a16
  refine ⟨⟨l⟩, ⟨z0, z1, z2.toArray, z3, z4, z5, z6, z7, z8, fun k => match k with | 0 => z9 | 1 => z10 | 2 => z11 | 3 => z12 | 4 => z13 | 5 => z14 | 6 => z15 | 7 => z16 | _ => 0⟩, rfl, ⟨hsz', ?_, ?_, ?_, ?_, ?_, ?_, ?_, ?_, ?_, ?_, ?_, ?_, ?_, ?_, ?_, ?_, ?_⟩, ⟨(bd_i64J b0).1, (bd_i64J b0).2, (bd_i64J b3).1, (bd_i64J b3).2, ?_, b2, b1, b4, b5, b6, b7, b8, ?_⟩⟩
  · simpa using a0
  · simpa using a1
  · intro j v hv; simpa using a2 j v (by simpa using hv)
  · simpa using a3
  · simpa using a4
  · simpa using a5
  · simpa using a6
  · simpa using a7
  · simpa using a8
  · simpa using a9
  · simpa using a10
  · simpa using a11
  · simpa using a12
  · simpa using a13
  · simpa using a14
  · simpa using a15
  · simpa using a16
  · show z2.toArray.size = 19
    rw [List.size_toArray, okAll_length _ _ b2]; rfl
  · intro k
    match k with
    | 0 => exact bd_u32J b9
    | 1 => exact bd_u32J b10
    | 2 => exact bd_u32J b11
    | 3 => exact bd_u32J b12
    | 4 => exact bd_u32J b13
    | 5 => exact bd_u32J b14
    | 6 => exact bd_u32J b15
    | 7 => exact bd_u32J b16
    | _ + 8 => exact ⟨by show (0 : Int) ≤ 0; decide, by show (0 : Int) < 4294967296; decide⟩
end Go.Proofs.YtjnakhejdpkfnaaDoor
