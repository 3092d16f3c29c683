/- Where two lists of notes, or of events, differ: judge.Notes, judge.Events, the document's. (Written by mkJC.py.) -/
import Derived.Test.YtjnakhejdpkfnaaDoorJudB
import Derived.Test.YtjnakhejdpkfnaaDoorFlatEq
import Derived.Deep.Slices
namespace Go.Proofs.YtjnakhejdpkfnaaDoor
open Go.RowKit Go.Deep
set_option linter.unusedSimpArgs false
set_option linter.unusedVariables false
set_option maxRecDepth 100000

noncomputable def firstE (L M : List (List Value)) : Int := @firstL _ (Classical.typeDecidableEq _) L M
theorem firstE_at {l m : List (List Value)} {k : Nat} (h : ∀ j, j < k → l[j]? = m[j]?) (h' : l[k]? ≠ m[k]?) : firstE l m = (k : Int) := @firstL_at _ (Classical.typeDecidableEq _) l m k h h'
theorem firstE_none {l m : List (List Value)} (h : ∀ j : Nat, l[j]? = m[j]?) : firstE l m = -1 := @firstL_none _ (Classical.typeDecidableEq _) l m h

/-- The rows that a slice of flat structs leads to. -/
def ElemsIn (w : World) (sz : Nat) (ao : Option Addr) (L : List (List Value)) : Prop :=
  L = [] ∨ ∃ blk off, ao = some ⟨blk, off, none⟩ ∧ ∀ i r, L[i]? = some r → ∀ j, j < sz → w.cell? ⟨blk, off + i * sz + j, none⟩ = r[j]?
/-- What the walk is told of such a slice. -/
def ElemArg (w : World) (ks : List CK) (ao : Option Addr) (len cap : Nat) (L : List (List Value)) : Prop :=
  L.length = len ∧ len ≤ cap ∧ cap ≤ 9223372036854775807 ∧ (∀ r ∈ L, okAll ks r) ∧ ElemsIn w ks.length ao L
theorem ElemsIn.below {w w' : World} {sz : Nat} {ao : Option Addr} {L : List (List Value)} (hs : ∀ r ∈ L, r.length = sz) (h : ElemsIn w sz ao L) (hb : Below w.heap.size w w') : ElemsIn w' sz ao L := by
  rcases h with h | ⟨blk, off, e, h⟩
  · exact .inl h
  · exact .inr ⟨blk, off, e, fun i r hr j hj => by
      have := h i r hr j hj
      have hl := hs r (List.mem_of_getElem? hr)
      rw [List.getElem?_eq_getElem (by omega)] at this ⊢
      exact (hb.cell (World.block_lt_of_cell? w _ this)).trans this⟩
theorem ElemArg.below {w w' : World} {ks : List CK} {ao : Option Addr} {len cap : Nat} {L : List (List Value)} (h : ElemArg w ks ao len cap L) (hb : Below w.heap.size w w') : ElemArg w' ks ao len cap L :=
  ⟨h.1, h.2.1, h.2.2.1, h.2.2.2.1, h.2.2.2.2.below (fun r hr => okAll_length _ _ (h.2.2.2.1 r hr)) hb⟩

theorem add_midE (b o j : Nat) : (⟨b, o, none⟩ : Addr).add j = ⟨b, o + j, none⟩ := by unfold Addr.add; split <;> simp_all

open Go.ChangeShapes Go.WideShapes in
theorem open_elems {H : Type} {enc : TypeId × Value → H} {P : Program} {w : World} {base : Nat} {spare : Nat → Bool} {held : Bool} {n : Nat} {t e : TypeId} {ks : List CK} {ao : Option Addr} {len cap : Nat} {d : DataW H} {p : List MemPlace}
    (ht : P.underlying t = some (.slice e)) (he : flat P n e = some ks) (hC : P.cellsOf e = ks.length) (hpos : 0 < ks.length) (h : DataW.Trod enc P w base spare held t (.slice ao len cap) d p) :
    ∃ L : List (List Value), ElemArg w ks ao len cap L := by
  obtain ⟨fuel, hf⟩ := h
  rcases open_slice ht hf with ⟨hcs, _⟩ | ⟨a, l, c, m, k, D, Pl, hcs, _, hl, hm, hmm, hx, hi⟩
  · simp [Value.cells] at hcs
    obtain ⟨rfl, rfl, rfl⟩ := hcs
    exact ⟨[], rfl, Nat.le_refl _, by omega, fun r hr => (by cases hr), .inl rfl⟩
  · simp [Value.cells] at hcs
    obtain ⟨rfl, rfl, rfl⟩ := hcs
    have hmax : maxLen = 9223372036854775807 := rfl
    rw [hC] at hx hi
    have hlm : len ≤ m := by rw [hmm]; split <;> omega
    have hr : ∀ i, ∃ r : List Value, i < len → okAll ks r ∧ ∀ j, j < ks.length → w.cell? ((a.add (i * ks.length)).add j) = r[j]? := fun i => by
      by_cases c : i < len
      · obtain ⟨cs, h1, h2⟩ := hi i (by omega)
        have h3 := flat_sound n e _ _ cs _ he h2
        obtain ⟨_, _, h5⟩ := World.cells?_some h1
        exact ⟨cs, fun _ => ⟨h3, fun j hj => h5 j hj⟩⟩
      · exact ⟨[], fun h => absurd h c⟩
    obtain ⟨f, hf⟩ := Classical.axiomOfChoice hr
    refine ⟨(List.range len).map f, by simp, hl, by omega, ?_, ?_⟩
    · intro r hr
      simp only [List.mem_map, List.mem_range] at hr
      obtain ⟨i, hi, rfl⟩ := hr
      exact (hf i hi).1
    · rcases Nat.eq_zero_or_pos len with h0 | h0
      · subst h0; exact .inl (by simp)
      · obtain ⟨b, off, spot⟩ := a
        have h1 := (hf 0 h0).2 0 hpos
        have hl0 := okAll_length _ _ (hf 0 h0).1
        have hs : spot = none := by
          rw [List.getElem?_eq_getElem (by omega)] at h1
          have hz : ((⟨b, off, spot⟩ : Addr).add (0 * ks.length)).add 0 = (⟨b, off, spot⟩ : Addr).add 0 := by simp [Addr.add]; try split <;> simp_all
          rw [hz] at h1
          simpa [Addr.add] using World.cell?_spot h1
        subst hs
        refine .inr ⟨b, off, rfl, fun i r hr j hj => ?_⟩
        simp only [List.getElem?_map, Option.map_eq_some_iff] at hr
        obtain ⟨i', hi', rfl⟩ := hr
        obtain ⟨hlt, rfl⟩ := List.getElem?_eq_some_iff.1 hi'
        simp only [List.length_range] at hlt
        simp only [List.getElem_range]
        have := (hf i hlt).2 j hj
        rw [add_midE, add_midE] at this
        exact this

abbrev ksN : List CK := [.i .i64, .i .i64, .i .u32, .i .u32]

set_option maxHeartbeats 4000000 in
theorem differsN_c (ao bo : Option Addr) (la ca lb cb : Nat) (L M : List (List Value)) (ba bb k : Nat) (w : World) (hx : JBox w ba bb (.slice ao la ca) (.slice bo lb cb) 27) (hA : ElemArg w ksN ao la ca L) (hB : ElemArg w ksN bo lb cb M) (hk : k < 9223372036854775807) :
    Calls Tryd.prog 33 #[.int .i64 (k : Int), .pointer (some ⟨ba, 0, none⟩), .pointer (some ⟨bb, 0, none⟩)] w fun e w' => (∃ d : Bool, e = .returned (.bool d) ∧ (d = true ↔ (L[k]? ≠ M[k]? ∨ (L[k]? = none ∧ M[k]? = none)))) ∧ ∃ n, w' = w.drewN n := by
  obtain ⟨a1, a2, a3, a4, a5⟩ := hA
  obtain ⟨b1, b2, b3, b4, b5⟩ := hB
  subst a1 b1
  have xa : w.cell? ⟨ba, 0, none⟩ = some (.slice ao L.length ca) := (cell_of_row w _ _ _ _ _ hx.a).trans rfl
  have xb : w.cell? ⟨bb, 0, none⟩ = some (.slice bo M.length cb) := (cell_of_row w _ _ _ _ _ hx.b).trans rfl
  clear hx
  by_cases c1 : k < L.length
  · have d1 : ¬ (L.length : Int) ≤ (k : Int) := by omega
    by_cases c2 : k < M.length
    · have d2 : ¬ (M.length : Int) ≤ (k : Int) := by omega
      obtain ⟨blk, off, rfl, hc⟩ : ∃ blk off, ao = some ⟨blk, off, none⟩ ∧ ∀ i r, L[i]? = some r → ∀ j, j < 4 → w.cell? ⟨blk, off + i * 4 + j, none⟩ = r[j]? := by
        rcases a5 with h | h
        · rw [h] at c1; simp at c1
        · exact h
      obtain ⟨blk2, off2, rfl, hc2⟩ : ∃ blk off, bo = some ⟨blk, off, none⟩ ∧ ∀ i r, M[i]? = some r → ∀ j, j < 4 → w.cell? ⟨blk, off + i * 4 + j, none⟩ = r[j]? := by
        rcases b5 with h | h
        · rw [h] at c2; simp at c2
        · exact h
      have g1 := List.getElem?_eq_getElem c1
      have g2 := List.getElem?_eq_getElem c2
      have z1 := hc k _ g1
      have z2 := hc2 k _ g2
      have o1 := a4 _ (List.getElem_mem c1)
      have o2 := b4 _ (List.getElem_mem c2)
      generalize L[k] = r1 at g1 z1 o1
      generalize M[k] = r2 at g2 z2 o2
      obtain ⟨r, -, hne, hiff⟩ := run_eql_flat (P := Tryd.prog) (n := 3) (t := 49) (ks := ksN) (by decide) (by kernel_rfl) (by kernel_rfl) (by kernel_rfl) (by kernel_rfl) o1 o2
      have HG : Hid ((!r) = true ↔ (L[k]? ≠ M[k]? ∨ (L[k]? = none ∧ M[k]? = none))) := Lib.hid (by
        rw [g1, g2]
        simp only [reduceCtorEq, false_and, or_false, ne_eq, Option.some.injEq, ← hiff]
        cases r <;> simp)
      clear g1 g2 hc hc2 a4 b4 a5 b5 hiff
      obtain ⟨p0, pt0, rfl, -, po0⟩ := okAll_i o1
      obtain ⟨p1, pt1, rfl, -, po1⟩ := okAll_i po0
      obtain ⟨p2, pt2, rfl, -, po2⟩ := okAll_i po1
      obtain ⟨p3, pt3, rfl, -, po3⟩ := okAll_i po2
      obtain rfl := okAll_nil po3
      obtain ⟨q0, qt0, rfl, -, qo0⟩ := okAll_i o2
      obtain ⟨q1, qt1, rfl, -, qo1⟩ := okAll_i qo0
      obtain ⟨q2, qt2, rfl, -, qo2⟩ := okAll_i qo1
      obtain ⟨q3, qt3, rfl, -, qo3⟩ := okAll_i qo2
      obtain rfl := okAll_nil qo3
      have x0 : w.cell? ⟨blk, off + k * 4, none⟩ = some (.int .i64 p0) := z1 0 (by decide)
      have x1 : w.cell? ⟨blk, off + k * 4 + 1, none⟩ = some (.int .i64 p1) := z1 1 (by decide)
      have x2 : w.cell? ⟨blk, off + k * 4 + 2, none⟩ = some (.int .u32 p2) := z1 2 (by decide)
      have x3 : w.cell? ⟨blk, off + k * 4 + 3, none⟩ = some (.int .u32 p3) := z1 3 (by decide)
      have y0 : w.cell? ⟨blk2, off2 + k * 4, none⟩ = some (.int .i64 q0) := z2 0 (by decide)
      have y1 : w.cell? ⟨blk2, off2 + k * 4 + 1, none⟩ = some (.int .i64 q1) := z2 1 (by decide)
      have y2 : w.cell? ⟨blk2, off2 + k * 4 + 2, none⟩ = some (.int .u32 q2) := z2 2 (by decide)
      have y3 : w.cell? ⟨blk2, off2 + k * 4 + 3, none⟩ = some (.int .u32 q3) := z2 3 (by decide)
      clear z1 z2
      have e1 : decide (L.length ≤ k) = false := by simp; omega
      have e2 : decide (M.length ≤ k) = false := by simp; omega
      have i1 : (k : Int) < (L.length : Int) := by omega
      have i2 : (k : Int) < (M.length : Int) := by omega
      go_enter Tryd.func33, Tryd.ntmps33
      go_wp2_with fail
      go_quiet (fail)
      go_wp2_with fail
      go_ret
      exact ⟨⟨_, rfl, HG.out⟩, _, rfl⟩
    · have d2 : (M.length : Int) ≤ (k : Int) := by omega
      have HG : Hid (true = true ↔ (L[k]? ≠ M[k]? ∨ (L[k]? = none ∧ M[k]? = none))) := Lib.hid (by
        rw [List.getElem?_eq_getElem c1, List.getElem?_eq_none (by omega : M.length ≤ k)]; simp)
      clear a4 b4 a5 b5
      have e1 : decide (L.length ≤ k) = false := by simp; omega
      have e2 : decide (M.length ≤ k) = true := by simp; omega
      go_enter Tryd.func33, Tryd.ntmps33
      go_wp2_with fail
      go_quiet (fail)
      go_wp2_with fail
      go_ret
      exact ⟨⟨_, rfl, ⟨fun _ => HG.out.1 trivial, fun _ => rfl⟩⟩, _, rfl⟩
  · have d1 : (L.length : Int) ≤ (k : Int) := by omega
    have HG : Hid (true = true ↔ (L[k]? ≠ M[k]? ∨ (L[k]? = none ∧ M[k]? = none))) := Lib.hid (by
      rw [List.getElem?_eq_none (by omega : L.length ≤ k)]
      cases M[k]? <;> simp)
    clear a4 b4 a5 b5
    have e1 : decide (L.length ≤ k) = true := by simp; omega
    go_enter Tryd.func33, Tryd.ntmps33
    go_wp2_with fail
    go_quiet (fail)
    go_wp2_with fail
    go_ret
    exact ⟨⟨_, rfl, ⟨fun _ => HG.out.1 trivial, fun _ => rfl⟩⟩, _, rfl⟩

abbrev ksE : List CK := [.i .i64, .i .i64, .i .u8]

set_option maxHeartbeats 4000000 in
theorem differsE_c (ao bo : Option Addr) (la ca lb cb : Nat) (L M : List (List Value)) (ba bb k : Nat) (w : World) (hx : JBox w ba bb (.slice ao la ca) (.slice bo lb cb) 28) (hA : ElemArg w ksE ao la ca L) (hB : ElemArg w ksE bo lb cb M) (hk : k < 9223372036854775807) :
    Calls Tryd.prog 34 #[.int .i64 (k : Int), .pointer (some ⟨ba, 0, none⟩), .pointer (some ⟨bb, 0, none⟩)] w fun e w' => (∃ d : Bool, e = .returned (.bool d) ∧ (d = true ↔ (L[k]? ≠ M[k]? ∨ (L[k]? = none ∧ M[k]? = none)))) ∧ ∃ n, w' = w.drewN n := by
  obtain ⟨a1, a2, a3, a4, a5⟩ := hA
  obtain ⟨b1, b2, b3, b4, b5⟩ := hB
  subst a1 b1
  have xa : w.cell? ⟨ba, 0, none⟩ = some (.slice ao L.length ca) := (cell_of_row w _ _ _ _ _ hx.a).trans rfl
  have xb : w.cell? ⟨bb, 0, none⟩ = some (.slice bo M.length cb) := (cell_of_row w _ _ _ _ _ hx.b).trans rfl
  clear hx
  by_cases c1 : k < L.length
  · have d1 : ¬ (L.length : Int) ≤ (k : Int) := by omega
    by_cases c2 : k < M.length
    · have d2 : ¬ (M.length : Int) ≤ (k : Int) := by omega
      obtain ⟨blk, off, rfl, hc⟩ : ∃ blk off, ao = some ⟨blk, off, none⟩ ∧ ∀ i r, L[i]? = some r → ∀ j, j < 3 → w.cell? ⟨blk, off + i * 3 + j, none⟩ = r[j]? := by
        rcases a5 with h | h
        · rw [h] at c1; simp at c1
        · exact h
      obtain ⟨blk2, off2, rfl, hc2⟩ : ∃ blk off, bo = some ⟨blk, off, none⟩ ∧ ∀ i r, M[i]? = some r → ∀ j, j < 3 → w.cell? ⟨blk, off + i * 3 + j, none⟩ = r[j]? := by
        rcases b5 with h | h
        · rw [h] at c2; simp at c2
        · exact h
      have g1 := List.getElem?_eq_getElem c1
      have g2 := List.getElem?_eq_getElem c2
      have z1 := hc k _ g1
      have z2 := hc2 k _ g2
      have o1 := a4 _ (List.getElem_mem c1)
      have o2 := b4 _ (List.getElem_mem c2)
      generalize L[k] = r1 at g1 z1 o1
      generalize M[k] = r2 at g2 z2 o2
      obtain ⟨r, -, hne, hiff⟩ := run_eql_flat (P := Tryd.prog) (n := 3) (t := 51) (ks := ksE) (by decide) (by kernel_rfl) (by kernel_rfl) (by kernel_rfl) (by kernel_rfl) o1 o2
      have HG : Hid ((!r) = true ↔ (L[k]? ≠ M[k]? ∨ (L[k]? = none ∧ M[k]? = none))) := Lib.hid (by
        rw [g1, g2]
        simp only [reduceCtorEq, false_and, or_false, ne_eq, Option.some.injEq, ← hiff]
        cases r <;> simp)
      clear g1 g2 hc hc2 a4 b4 a5 b5 hiff
      obtain ⟨p0, pt0, rfl, -, po0⟩ := okAll_i o1
      obtain ⟨p1, pt1, rfl, -, po1⟩ := okAll_i po0
      obtain ⟨p2, pt2, rfl, -, po2⟩ := okAll_i po1
      obtain rfl := okAll_nil po2
      obtain ⟨q0, qt0, rfl, -, qo0⟩ := okAll_i o2
      obtain ⟨q1, qt1, rfl, -, qo1⟩ := okAll_i qo0
      obtain ⟨q2, qt2, rfl, -, qo2⟩ := okAll_i qo1
      obtain rfl := okAll_nil qo2
      have x0 : w.cell? ⟨blk, off + k * 3, none⟩ = some (.int .i64 p0) := z1 0 (by decide)
      have x1 : w.cell? ⟨blk, off + k * 3 + 1, none⟩ = some (.int .i64 p1) := z1 1 (by decide)
      have x2 : w.cell? ⟨blk, off + k * 3 + 2, none⟩ = some (.int .u8 p2) := z1 2 (by decide)
      have y0 : w.cell? ⟨blk2, off2 + k * 3, none⟩ = some (.int .i64 q0) := z2 0 (by decide)
      have y1 : w.cell? ⟨blk2, off2 + k * 3 + 1, none⟩ = some (.int .i64 q1) := z2 1 (by decide)
      have y2 : w.cell? ⟨blk2, off2 + k * 3 + 2, none⟩ = some (.int .u8 q2) := z2 2 (by decide)
      clear z1 z2
      have e1 : decide (L.length ≤ k) = false := by simp; omega
      have e2 : decide (M.length ≤ k) = false := by simp; omega
      have i1 : (k : Int) < (L.length : Int) := by omega
      have i2 : (k : Int) < (M.length : Int) := by omega
      go_enter Tryd.func34, Tryd.ntmps34
      go_wp2_with fail
      go_quiet (fail)
      go_wp2_with fail
      go_ret
      exact ⟨⟨_, rfl, HG.out⟩, _, rfl⟩
    · have d2 : (M.length : Int) ≤ (k : Int) := by omega
      have HG : Hid (true = true ↔ (L[k]? ≠ M[k]? ∨ (L[k]? = none ∧ M[k]? = none))) := Lib.hid (by
        rw [List.getElem?_eq_getElem c1, List.getElem?_eq_none (by omega : M.length ≤ k)]; simp)
      clear a4 b4 a5 b5
      have e1 : decide (L.length ≤ k) = false := by simp; omega
      have e2 : decide (M.length ≤ k) = true := by simp; omega
      go_enter Tryd.func34, Tryd.ntmps34
      go_wp2_with fail
      go_quiet (fail)
      go_wp2_with fail
      go_ret
      exact ⟨⟨_, rfl, ⟨fun _ => HG.out.1 trivial, fun _ => rfl⟩⟩, _, rfl⟩
  · have d1 : (L.length : Int) ≤ (k : Int) := by omega
    have HG : Hid (true = true ↔ (L[k]? ≠ M[k]? ∨ (L[k]? = none ∧ M[k]? = none))) := Lib.hid (by
      rw [List.getElem?_eq_none (by omega : L.length ≤ k)]
      cases M[k]? <;> simp)
    clear a4 b4 a5 b5
    have e1 : decide (L.length ≤ k) = true := by simp; omega
    go_enter Tryd.func34, Tryd.ntmps34
    go_wp2_with fail
    go_quiet (fail)
    go_wp2_with fail
    go_ret
    exact ⟨⟨_, rfl, ⟨fun _ => HG.out.1 trivial, fun _ => rfl⟩⟩, _, rfl⟩

set_option maxHeartbeats 4000000 in
theorem firstN_c (ao bo : Option Addr) (la ca lb cb : Nat) (L M : List (List Value)) (w : World) (hA : ElemArg w ksN ao la ca L) (hB : ElemArg w ksN bo lb cb M) :
    Calls Tryd.prog 24 #[.slice ao la ca, .slice bo lb cb] w fun e w' => e = .returned (.int .i64 (firstE L M)) ∧ Below w.heap.size w w' := by
  have hmx : max la lb < 9223372036854775808 := by have := hA.2.1; have := hA.2.2.1; have := hB.2.1; have := hB.2.2.1; omega
  have e1 : L.length = la := hA.1
  have e2 : M.length = lb := hB.1
  have HC := Lib.hid fun (k : Nat) (hk : k < 9223372036854775807) (wr : World) (hx : JBox wr w.heap.size (w.heap.size + 1) (.slice ao la ca) (.slice bo lb cb) 27) (hb : Below w.heap.size w wr) =>
    differsN_c ao bo la ca lb cb L M _ _ k wr hx (hA.below hb) (hB.below hb) hk
  have HL := Lib.hid e1
  have HM := Lib.hid e2
  clear hA hB e1 e2
  by_cases hlt : la < lb
  · have hmx : lb < 9223372036854775808 := by omega
    have HX := Lib.hid (show la ≤ lb ∧ lb ≤ lb ∧ (lb = la ∨ lb = lb) from by omega)
    go_enter Tryd.func24, Tryd.ntmps24
    go_wp2_with fail
    go_loopg [13] lb (fun gk vk wr => ∃ k : Nat, gk + k = lb ∧ vk = .int .i64 (k : Int) ∧ Hid (∀ j : Nat, j < k → L[j]? = M[j]?) ∧ JBox wr w.heap.size (w.heap.size + 1) (.slice ao la ca) (.slice bo lb cb) 27 ∧ Below w.heap.size w wr)
    case atStart =>
      exact ⟨0, rfl, rfl, Lib.hid fun j h => absurd h (Nat.not_lt_zero _), ⟨heap_oldJ (heap_newJ rfl), heap_newJ (by simp)⟩, ((Below.refl _ _).alloc (Nat.le_refl _) _).alloc (by simp) _⟩
    case round =>
      obtain ⟨k, hk, rfl, HI, hJ, hB⟩ := hrel
      have HJ := Lib.hid hJ
      clear hJ
      by_cases c1 : k < lb
      · have i1 : (k : Int) < (lb : Int) := by omega
        go_wp2_with fail
        refine (HC.out k (by omega) wr HJ.out hB).mono ?_
        rintro e w1 ⟨⟨d, rfl, hd⟩, q, rfl⟩
        have hB1 := below_drewN hB q
        have HJ1 := Lib.hid (HJ.out.keep (drewN_heap wr q))
        by_cases c2 : L[k]? ≠ M[k]? ∨ (L[k]? = none ∧ M[k]? = none)
        · have d1 : d = true := hd.2 c2
          have hne : L[k]? ≠ M[k]? := by
            rcases c2 with h | ⟨h, h'⟩
            · exact h
            · have := HL.out; have := HM.out; have := HX.out
              rw [List.getElem?_eq_none_iff] at h h'; omega
          have HR := Lib.hid (firstE_at HI.out hne)
          subst d1
          clear hd c2 hne
          go_wp2_with fail
          go_ret
          exact ⟨ret_intJ HR.out.symm, hB1⟩
        · have d1 : d = false := Bool.eq_false_iff.2 fun h => c2 (hd.1 h)
          have heq : L[k]? = M[k]? := Classical.not_not.1 fun h => c2 (.inl h)
          have HI2 := Lib.hid (show ∀ j : Nat, j < k + 1 → L[j]? = M[j]? from fun j hj => by
            by_cases h : j = k
            · rw [h]; exact heq
            · exact HI.out j (by omega))
          subst d1
          clear hd c2 heq
          go_wp2_with fail
          go_roundg (gk - 1)
          case measure => omega
          case rel => exact ⟨k + 1, by omega, by go_num, HI2, HJ1.out, hB1⟩
      · have i1 : ¬ (k : Int) < (lb : Int) := by omega
        have hkn : k = lb := by omega
        have HR := Lib.hid (firstE_none (l := L) (m := M) (fun j => by
          by_cases h : j < k
          · exact HI.out j h
          · have := HL.out; have := HM.out; have := HX.out
            rw [List.getElem?_eq_none (by omega), List.getElem?_eq_none (by omega)]))
        go_wp2_with fail
        go_ret
        exact ⟨ret_intJ HR.out.symm, hB⟩
  · have hmx : la < 9223372036854775808 := by omega
    have HX := Lib.hid (show la ≤ la ∧ lb ≤ la ∧ (la = la ∨ la = lb) from by omega)
    go_enter Tryd.func24, Tryd.ntmps24
    go_wp2_with fail
    go_loopg [13] la (fun gk vk wr => ∃ k : Nat, gk + k = la ∧ vk = .int .i64 (k : Int) ∧ Hid (∀ j : Nat, j < k → L[j]? = M[j]?) ∧ JBox wr w.heap.size (w.heap.size + 1) (.slice ao la ca) (.slice bo lb cb) 27 ∧ Below w.heap.size w wr)
    case atStart =>
      exact ⟨0, rfl, rfl, Lib.hid fun j h => absurd h (Nat.not_lt_zero _), ⟨heap_oldJ (heap_newJ rfl), heap_newJ (by simp)⟩, ((Below.refl _ _).alloc (Nat.le_refl _) _).alloc (by simp) _⟩
    case round =>
      obtain ⟨k, hk, rfl, HI, hJ, hB⟩ := hrel
      have HJ := Lib.hid hJ
      clear hJ
      by_cases c1 : k < la
      · have i1 : (k : Int) < (la : Int) := by omega
        go_wp2_with fail
        refine (HC.out k (by omega) wr HJ.out hB).mono ?_
        rintro e w1 ⟨⟨d, rfl, hd⟩, q, rfl⟩
        have hB1 := below_drewN hB q
        have HJ1 := Lib.hid (HJ.out.keep (drewN_heap wr q))
        by_cases c2 : L[k]? ≠ M[k]? ∨ (L[k]? = none ∧ M[k]? = none)
        · have d1 : d = true := hd.2 c2
          have hne : L[k]? ≠ M[k]? := by
            rcases c2 with h | ⟨h, h'⟩
            · exact h
            · have := HL.out; have := HM.out; have := HX.out
              rw [List.getElem?_eq_none_iff] at h h'; omega
          have HR := Lib.hid (firstE_at HI.out hne)
          subst d1
          clear hd c2 hne
          go_wp2_with fail
          go_ret
          exact ⟨ret_intJ HR.out.symm, hB1⟩
        · have d1 : d = false := Bool.eq_false_iff.2 fun h => c2 (hd.1 h)
          have heq : L[k]? = M[k]? := Classical.not_not.1 fun h => c2 (.inl h)
          have HI2 := Lib.hid (show ∀ j : Nat, j < k + 1 → L[j]? = M[j]? from fun j hj => by
            by_cases h : j = k
            · rw [h]; exact heq
            · exact HI.out j (by omega))
          subst d1
          clear hd c2 heq
          go_wp2_with fail
          go_roundg (gk - 1)
          case measure => omega
          case rel => exact ⟨k + 1, by omega, by go_num, HI2, HJ1.out, hB1⟩
      · have i1 : ¬ (k : Int) < (la : Int) := by omega
        have hkn : k = la := by omega
        have HR := Lib.hid (firstE_none (l := L) (m := M) (fun j => by
          by_cases h : j < k
          · exact HI.out j h
          · have := HL.out; have := HM.out; have := HX.out
            rw [List.getElem?_eq_none (by omega), List.getElem?_eq_none (by omega)]))
        go_wp2_with fail
        go_ret
        exact ⟨ret_intJ HR.out.symm, hB⟩

set_option maxHeartbeats 2000000 in
theorem judgeNotes_c (ao bo : Option Addr) (la ca lb cb : Nat) (L M : List (List Value)) (w : World) (hA : ElemArg w ksN ao la ca L) (hB : ElemArg w ksN bo lb cb M) :
    Calls Tryd.prog 9 #[.slice ao la ca, .slice bo lb cb] w fun e w' => e = .returned (.int .i64 (firstE L M)) ∧ Below w.heap.size w w' := by
  have HC := Lib.hid (firstN_c ao bo la ca lb cb L M w hA hB)
  clear hA hB
  go_enter Tryd.func9, Tryd.ntmps9
  go_wp2_with fail
  refine HC.out.mono ?_
  rintro e w1 ⟨rfl, hb⟩
  go_wp2_with fail
  go_ret
  exact ⟨rfl, hb⟩

set_option maxHeartbeats 4000000 in
theorem refNotes_c (ao bo : Option Addr) (la ca lb cb : Nat) (L M : List (List Value)) (w : World) (hA : ElemArg w ksN ao la ca L) (hB : ElemArg w ksN bo lb cb M) :
    Calls Tryd.prog 10 #[.slice ao la ca, .slice bo lb cb] w fun e w' => e = .returned (.int .i64 (firstE L M)) ∧ ∃ n, w' = w.drewN n := by
  have hmx : max la lb < 9223372036854775808 := by have := hA.2.1; have := hA.2.2.1; have := hB.2.1; have := hB.2.2.1; omega
  have e1 : L.length = la := hA.1
  have e2 : M.length = lb := hB.1
  have HL := Lib.hid e1
  have HM := Lib.hid e2
  have HA := Lib.hid hA.2.2.2.2
  have HB := Lib.hid hB.2.2.2.2
  have OA := Lib.hid hA.2.2.2.1
  have OB := Lib.hid hB.2.2.2.1
  have HX := Lib.hid hmx
  clear hA hB e1 e2 hmx
  go_enter Tryd.func10, Tryd.ntmps10
  go_wp2_with fail
  go_loopg [5] (max la lb) (fun gk vk wr => ∃ k q : Nat, gk + k = max la lb ∧ vk = .int .i64 (k : Int) ∧ Hid (∀ j : Nat, j < k → L[j]? = M[j]?) ∧ wr = w.drewN q)
  case atStart =>
    exact ⟨0, 0, by omega, rfl, Lib.hid fun j h => absurd h (Nat.not_lt_zero _), rfl⟩
  case round =>
    obtain ⟨k, q, hk, rfl, HI, rfl⟩ := hrel
    by_cases c1 : k < la
    · have i1 : (k : Int) < (la : Int) := by omega
      have e1 : decide (la ≤ k) = false := by simp; omega
      by_cases c2 : k < lb
      · have i2 : (k : Int) < (lb : Int) := by omega
        have e2 : decide (lb ≤ k) = false := by simp; omega
        have d3 : (k : Int) < 9223372036854775807 := by have := HX.out; omega
        obtain ⟨blk, off, rfl, hc⟩ : ∃ blk off, ao = some ⟨blk, off, none⟩ ∧ ∀ i r, L[i]? = some r → ∀ j, j < 4 → (w.drewN q).cell? ⟨blk, off + i * 4 + j, none⟩ = r[j]? := by
          rcases HA.out with h | ⟨b, o, h, hc⟩
          · have := HL.out; rw [h] at this; simp at this; omega
          · exact ⟨b, o, h, hc⟩
        obtain ⟨blk2, off2, rfl, hc2⟩ : ∃ blk off, bo = some ⟨blk, off, none⟩ ∧ ∀ i r, M[i]? = some r → ∀ j, j < 4 → (w.drewN q).cell? ⟨blk, off + i * 4 + j, none⟩ = r[j]? := by
          rcases HB.out with h | ⟨b, o, h, hc⟩
          · have := HM.out; rw [h] at this; simp at this; omega
          · exact ⟨b, o, h, hc⟩
        have g1 := List.getElem?_eq_getElem (show k < L.length by rw [HL.out]; exact c1)
        have g2 := List.getElem?_eq_getElem (show k < M.length by rw [HM.out]; exact c2)
        have z1 := hc k _ g1
        have z2 := hc2 k _ g2
        have o1 := OA.out _ (List.mem_of_getElem? g1)
        have o2 := OB.out _ (List.mem_of_getElem? g2)
        generalize L[k]'(by rw [HL.out]; exact c1) = r1 at g1 z1 o1
        generalize M[k]'(by rw [HM.out]; exact c2) = r2 at g2 z2 o2
        obtain ⟨r, -, hne, hiff⟩ := run_eql_flat (P := Tryd.prog) (n := 3) (t := 49) (ks := ksN) (by decide) (by kernel_rfl) (by kernel_rfl) (by kernel_rfl) (by kernel_rfl) o1 o2
        have G1 := Lib.hid g1
        have G2 := Lib.hid g2
        have HI0 := Lib.hid hiff
        clear g1 g2 hc hc2 hiff
        obtain ⟨p0, pt0, rfl, -, po0⟩ := okAll_i o1
        obtain ⟨p1, pt1, rfl, -, po1⟩ := okAll_i po0
        obtain ⟨p2, pt2, rfl, -, po2⟩ := okAll_i po1
        obtain ⟨p3, pt3, rfl, -, po3⟩ := okAll_i po2
        obtain rfl := okAll_nil po3
        obtain ⟨q0, qt0, rfl, -, qo0⟩ := okAll_i o2
        obtain ⟨q1, qt1, rfl, -, qo1⟩ := okAll_i qo0
        obtain ⟨q2, qt2, rfl, -, qo2⟩ := okAll_i qo1
        obtain ⟨q3, qt3, rfl, -, qo3⟩ := okAll_i qo2
        obtain rfl := okAll_nil qo3
        have x0 : (w.drewN q).cell? ⟨blk, off + k * 4, none⟩ = some (.int .i64 p0) := z1 0 (by decide)
        have x1 : (w.drewN q).cell? ⟨blk, off + k * 4 + 1, none⟩ = some (.int .i64 p1) := z1 1 (by decide)
        have x2 : (w.drewN q).cell? ⟨blk, off + k * 4 + 2, none⟩ = some (.int .u32 p2) := z1 2 (by decide)
        have x3 : (w.drewN q).cell? ⟨blk, off + k * 4 + 3, none⟩ = some (.int .u32 p3) := z1 3 (by decide)
        have y0 : (w.drewN q).cell? ⟨blk2, off2 + k * 4, none⟩ = some (.int .i64 q0) := z2 0 (by decide)
        have y1 : (w.drewN q).cell? ⟨blk2, off2 + k * 4 + 1, none⟩ = some (.int .i64 q1) := z2 1 (by decide)
        have y2 : (w.drewN q).cell? ⟨blk2, off2 + k * 4 + 2, none⟩ = some (.int .u32 q2) := z2 2 (by decide)
        have y3 : (w.drewN q).cell? ⟨blk2, off2 + k * 4 + 3, none⟩ = some (.int .u32 q3) := z2 3 (by decide)
        clear z1 z2
        generalize hw1 : w.drewN q = w1 at x0 x1 x2 x3 y0 y1 y2 y3 ⊢
        have HW1 := Lib.hid hw1
        clear hw1
        by_cases c3 : r = true
        · have E3 := Lib.hid (HI0.out.1 c3)
          have HI2 := Lib.hid (show ∀ j : Nat, j < k + 1 → L[j]? = M[j]? from fun j hj => by
            by_cases h : j = k
            · rw [h, G1.out, G2.out, E3.out]
            · exact HI.out j (by omega))
          subst c3
          go_wp2_with fail
          go_quiet (fail)
          go_wp2_with fail
          go_roundg (gk - 1)
          case measure => omega
          case rel => exact ⟨k + 1, _, by omega, by go_num, HI2, by rw [← HW1.out, World.drewN_drewN]⟩
        · have E3 := Lib.hid (fun h => c3 (HI0.out.2 h))
          have HR := Lib.hid (firstE_at HI.out (show L[k]? ≠ M[k]? from by rw [G1.out, G2.out]; exact fun h => E3.out (Option.some.inj h)))
          have c4 : r = false := by simpa using c3
          subst c4
          clear c3
          go_wp2_with fail
          go_quiet (fail)
          go_wp2_with fail
          go_ret
          exact ⟨ret_intJ HR.out.symm, _, by rw [← HW1.out, World.drewN_drewN]⟩
      · have i2 : ¬ (k : Int) < (lb : Int) := by omega
        have e2 : decide (lb ≤ k) = true := by simp; omega
        have HR := Lib.hid (firstE_at HI.out (show L[k]? ≠ M[k]? from by
          rw [List.getElem?_eq_getElem (show k < L.length by rw [HL.out]; exact c1), List.getElem?_eq_none (by have := HM.out; omega)]; simp))
        generalize hw1 : w.drewN q = w1
        have HW1 := Lib.hid hw1
        clear hw1
        go_wp2_with fail
        go_quiet (fail)
        go_wp2_with fail
        go_ret
        exact ⟨ret_intJ HR.out.symm, _, by rw [← HW1.out, World.drewN_drewN]⟩
    · have i1 : ¬ (k : Int) < (la : Int) := by omega
      have e1 : decide (la ≤ k) = true := by simp; omega
      by_cases c2 : k < lb
      · have i2 : (k : Int) < (lb : Int) := by omega
        have HR := Lib.hid (firstE_at HI.out (show L[k]? ≠ M[k]? from by
          rw [List.getElem?_eq_getElem (show k < M.length by rw [HM.out]; exact c2), List.getElem?_eq_none (by have := HL.out; omega)]; simp))
        generalize hw1 : w.drewN q = w1
        have HW1 := Lib.hid hw1
        clear hw1
        go_wp2_with fail
        go_quiet (fail)
        go_wp2_with fail
        go_ret
        exact ⟨ret_intJ HR.out.symm, _, by rw [← HW1.out, World.drewN_drewN]⟩
      · have i2 : ¬ (k : Int) < (lb : Int) := by omega
        have HR := Lib.hid (firstE_none (l := L) (m := M) (fun j => by
          by_cases h : j < k
          · exact HI.out j h
          · have := HL.out; have := HM.out
            rw [List.getElem?_eq_none (by omega), List.getElem?_eq_none (by omega)]))
        go_wp2_with fail
        go_ret
        exact ⟨ret_intJ HR.out.symm, q, rfl⟩

set_option maxHeartbeats 4000000 in
theorem firstE_c (ao bo : Option Addr) (la ca lb cb : Nat) (L M : List (List Value)) (w : World) (hA : ElemArg w ksE ao la ca L) (hB : ElemArg w ksE bo lb cb M) :
    Calls Tryd.prog 25 #[.slice ao la ca, .slice bo lb cb] w fun e w' => e = .returned (.int .i64 (firstE L M)) ∧ Below w.heap.size w w' := by
  have hmx : max la lb < 9223372036854775808 := by have := hA.2.1; have := hA.2.2.1; have := hB.2.1; have := hB.2.2.1; omega
  have e1 : L.length = la := hA.1
  have e2 : M.length = lb := hB.1
  have HC := Lib.hid fun (k : Nat) (hk : k < 9223372036854775807) (wr : World) (hx : JBox wr w.heap.size (w.heap.size + 1) (.slice ao la ca) (.slice bo lb cb) 28) (hb : Below w.heap.size w wr) =>
    differsE_c ao bo la ca lb cb L M _ _ k wr hx (hA.below hb) (hB.below hb) hk
  have HL := Lib.hid e1
  have HM := Lib.hid e2
  clear hA hB e1 e2
  by_cases hlt : la < lb
  · have hmx : lb < 9223372036854775808 := by omega
    have HX := Lib.hid (show la ≤ lb ∧ lb ≤ lb ∧ (lb = la ∨ lb = lb) from by omega)
    go_enter Tryd.func25, Tryd.ntmps25
    go_wp2_with fail
    go_loopg [13] lb (fun gk vk wr => ∃ k : Nat, gk + k = lb ∧ vk = .int .i64 (k : Int) ∧ Hid (∀ j : Nat, j < k → L[j]? = M[j]?) ∧ JBox wr w.heap.size (w.heap.size + 1) (.slice ao la ca) (.slice bo lb cb) 28 ∧ Below w.heap.size w wr)
    case atStart =>
      exact ⟨0, rfl, rfl, Lib.hid fun j h => absurd h (Nat.not_lt_zero _), ⟨heap_oldJ (heap_newJ rfl), heap_newJ (by simp)⟩, ((Below.refl _ _).alloc (Nat.le_refl _) _).alloc (by simp) _⟩
    case round =>
      obtain ⟨k, hk, rfl, HI, hJ, hB⟩ := hrel
      have HJ := Lib.hid hJ
      clear hJ
      by_cases c1 : k < lb
      · have i1 : (k : Int) < (lb : Int) := by omega
        go_wp2_with fail
        refine (HC.out k (by omega) wr HJ.out hB).mono ?_
        rintro e w1 ⟨⟨d, rfl, hd⟩, q, rfl⟩
        have hB1 := below_drewN hB q
        have HJ1 := Lib.hid (HJ.out.keep (drewN_heap wr q))
        by_cases c2 : L[k]? ≠ M[k]? ∨ (L[k]? = none ∧ M[k]? = none)
        · have d1 : d = true := hd.2 c2
          have hne : L[k]? ≠ M[k]? := by
            rcases c2 with h | ⟨h, h'⟩
            · exact h
            · have := HL.out; have := HM.out; have := HX.out
              rw [List.getElem?_eq_none_iff] at h h'; omega
          have HR := Lib.hid (firstE_at HI.out hne)
          subst d1
          clear hd c2 hne
          go_wp2_with fail
          go_ret
          exact ⟨ret_intJ HR.out.symm, hB1⟩
        · have d1 : d = false := Bool.eq_false_iff.2 fun h => c2 (hd.1 h)
          have heq : L[k]? = M[k]? := Classical.not_not.1 fun h => c2 (.inl h)
          have HI2 := Lib.hid (show ∀ j : Nat, j < k + 1 → L[j]? = M[j]? from fun j hj => by
            by_cases h : j = k
            · rw [h]; exact heq
            · exact HI.out j (by omega))
          subst d1
          clear hd c2 heq
          go_wp2_with fail
          go_roundg (gk - 1)
          case measure => omega
          case rel => exact ⟨k + 1, by omega, by go_num, HI2, HJ1.out, hB1⟩
      · have i1 : ¬ (k : Int) < (lb : Int) := by omega
        have hkn : k = lb := by omega
        have HR := Lib.hid (firstE_none (l := L) (m := M) (fun j => by
          by_cases h : j < k
          · exact HI.out j h
          · have := HL.out; have := HM.out; have := HX.out
            rw [List.getElem?_eq_none (by omega), List.getElem?_eq_none (by omega)]))
        go_wp2_with fail
        go_ret
        exact ⟨ret_intJ HR.out.symm, hB⟩
  · have hmx : la < 9223372036854775808 := by omega
    have HX := Lib.hid (show la ≤ la ∧ lb ≤ la ∧ (la = la ∨ la = lb) from by omega)
    go_enter Tryd.func25, Tryd.ntmps25
    go_wp2_with fail
    go_loopg [13] la (fun gk vk wr => ∃ k : Nat, gk + k = la ∧ vk = .int .i64 (k : Int) ∧ Hid (∀ j : Nat, j < k → L[j]? = M[j]?) ∧ JBox wr w.heap.size (w.heap.size + 1) (.slice ao la ca) (.slice bo lb cb) 28 ∧ Below w.heap.size w wr)
    case atStart =>
      exact ⟨0, rfl, rfl, Lib.hid fun j h => absurd h (Nat.not_lt_zero _), ⟨heap_oldJ (heap_newJ rfl), heap_newJ (by simp)⟩, ((Below.refl _ _).alloc (Nat.le_refl _) _).alloc (by simp) _⟩
    case round =>
      obtain ⟨k, hk, rfl, HI, hJ, hB⟩ := hrel
      have HJ := Lib.hid hJ
      clear hJ
      by_cases c1 : k < la
      · have i1 : (k : Int) < (la : Int) := by omega
        go_wp2_with fail
        refine (HC.out k (by omega) wr HJ.out hB).mono ?_
        rintro e w1 ⟨⟨d, rfl, hd⟩, q, rfl⟩
        have hB1 := below_drewN hB q
        have HJ1 := Lib.hid (HJ.out.keep (drewN_heap wr q))
        by_cases c2 : L[k]? ≠ M[k]? ∨ (L[k]? = none ∧ M[k]? = none)
        · have d1 : d = true := hd.2 c2
          have hne : L[k]? ≠ M[k]? := by
            rcases c2 with h | ⟨h, h'⟩
            · exact h
            · have := HL.out; have := HM.out; have := HX.out
              rw [List.getElem?_eq_none_iff] at h h'; omega
          have HR := Lib.hid (firstE_at HI.out hne)
          subst d1
          clear hd c2 hne
          go_wp2_with fail
          go_ret
          exact ⟨ret_intJ HR.out.symm, hB1⟩
        · have d1 : d = false := Bool.eq_false_iff.2 fun h => c2 (hd.1 h)
          have heq : L[k]? = M[k]? := Classical.not_not.1 fun h => c2 (.inl h)
          have HI2 := Lib.hid (show ∀ j : Nat, j < k + 1 → L[j]? = M[j]? from fun j hj => by
            by_cases h : j = k
            · rw [h]; exact heq
            · exact HI.out j (by omega))
          subst d1
          clear hd c2 heq
          go_wp2_with fail
          go_roundg (gk - 1)
          case measure => omega
          case rel => exact ⟨k + 1, by omega, by go_num, HI2, HJ1.out, hB1⟩
      · have i1 : ¬ (k : Int) < (la : Int) := by omega
        have hkn : k = la := by omega
        have HR := Lib.hid (firstE_none (l := L) (m := M) (fun j => by
          by_cases h : j < k
          · exact HI.out j h
          · have := HL.out; have := HM.out; have := HX.out
            rw [List.getElem?_eq_none (by omega), List.getElem?_eq_none (by omega)]))
        go_wp2_with fail
        go_ret
        exact ⟨ret_intJ HR.out.symm, hB⟩

set_option maxHeartbeats 2000000 in
theorem judgeEvents_c (ao bo : Option Addr) (la ca lb cb : Nat) (L M : List (List Value)) (w : World) (hA : ElemArg w ksE ao la ca L) (hB : ElemArg w ksE bo lb cb M) :
    Calls Tryd.prog 11 #[.slice ao la ca, .slice bo lb cb] w fun e w' => e = .returned (.int .i64 (firstE L M)) ∧ Below w.heap.size w w' := by
  have HC := Lib.hid (firstE_c ao bo la ca lb cb L M w hA hB)
  clear hA hB
  go_enter Tryd.func11, Tryd.ntmps11
  go_wp2_with fail
  refine HC.out.mono ?_
  rintro e w1 ⟨rfl, hb⟩
  go_wp2_with fail
  go_ret
  exact ⟨rfl, hb⟩

set_option maxHeartbeats 4000000 in
theorem refEvents_c (ao bo : Option Addr) (la ca lb cb : Nat) (L M : List (List Value)) (w : World) (hA : ElemArg w ksE ao la ca L) (hB : ElemArg w ksE bo lb cb M) :
    Calls Tryd.prog 12 #[.slice ao la ca, .slice bo lb cb] w fun e w' => e = .returned (.int .i64 (firstE L M)) ∧ ∃ n, w' = w.drewN n := by
  have hmx : max la lb < 9223372036854775808 := by have := hA.2.1; have := hA.2.2.1; have := hB.2.1; have := hB.2.2.1; omega
  have e1 : L.length = la := hA.1
  have e2 : M.length = lb := hB.1
  have HL := Lib.hid e1
  have HM := Lib.hid e2
  have HA := Lib.hid hA.2.2.2.2
  have HB := Lib.hid hB.2.2.2.2
  have OA := Lib.hid hA.2.2.2.1
  have OB := Lib.hid hB.2.2.2.1
  have HX := Lib.hid hmx
  clear hA hB e1 e2 hmx
  go_enter Tryd.func12, Tryd.ntmps12
  go_wp2_with fail
  go_loopg [5] (max la lb) (fun gk vk wr => ∃ k q : Nat, gk + k = max la lb ∧ vk = .int .i64 (k : Int) ∧ Hid (∀ j : Nat, j < k → L[j]? = M[j]?) ∧ wr = w.drewN q)
  case atStart =>
    exact ⟨0, 0, by omega, rfl, Lib.hid fun j h => absurd h (Nat.not_lt_zero _), rfl⟩
  case round =>
    obtain ⟨k, q, hk, rfl, HI, rfl⟩ := hrel
    by_cases c1 : k < la
    · have i1 : (k : Int) < (la : Int) := by omega
      have e1 : decide (la ≤ k) = false := by simp; omega
      by_cases c2 : k < lb
      · have i2 : (k : Int) < (lb : Int) := by omega
        have e2 : decide (lb ≤ k) = false := by simp; omega
        have d3 : (k : Int) < 9223372036854775807 := by have := HX.out; omega
        obtain ⟨blk, off, rfl, hc⟩ : ∃ blk off, ao = some ⟨blk, off, none⟩ ∧ ∀ i r, L[i]? = some r → ∀ j, j < 3 → (w.drewN q).cell? ⟨blk, off + i * 3 + j, none⟩ = r[j]? := by
          rcases HA.out with h | ⟨b, o, h, hc⟩
          · have := HL.out; rw [h] at this; simp at this; omega
          · exact ⟨b, o, h, hc⟩
        obtain ⟨blk2, off2, rfl, hc2⟩ : ∃ blk off, bo = some ⟨blk, off, none⟩ ∧ ∀ i r, M[i]? = some r → ∀ j, j < 3 → (w.drewN q).cell? ⟨blk, off + i * 3 + j, none⟩ = r[j]? := by
          rcases HB.out with h | ⟨b, o, h, hc⟩
          · have := HM.out; rw [h] at this; simp at this; omega
          · exact ⟨b, o, h, hc⟩
        have g1 := List.getElem?_eq_getElem (show k < L.length by rw [HL.out]; exact c1)
        have g2 := List.getElem?_eq_getElem (show k < M.length by rw [HM.out]; exact c2)
        have z1 := hc k _ g1
        have z2 := hc2 k _ g2
        have o1 := OA.out _ (List.mem_of_getElem? g1)
        have o2 := OB.out _ (List.mem_of_getElem? g2)
        generalize L[k]'(by rw [HL.out]; exact c1) = r1 at g1 z1 o1
        generalize M[k]'(by rw [HM.out]; exact c2) = r2 at g2 z2 o2
        obtain ⟨r, -, hne, hiff⟩ := run_eql_flat (P := Tryd.prog) (n := 3) (t := 51) (ks := ksE) (by decide) (by kernel_rfl) (by kernel_rfl) (by kernel_rfl) (by kernel_rfl) o1 o2
        have G1 := Lib.hid g1
        have G2 := Lib.hid g2
        have HI0 := Lib.hid hiff
        clear g1 g2 hc hc2 hiff
        obtain ⟨p0, pt0, rfl, -, po0⟩ := okAll_i o1
        obtain ⟨p1, pt1, rfl, -, po1⟩ := okAll_i po0
        obtain ⟨p2, pt2, rfl, -, po2⟩ := okAll_i po1
        obtain rfl := okAll_nil po2
        obtain ⟨q0, qt0, rfl, -, qo0⟩ := okAll_i o2
        obtain ⟨q1, qt1, rfl, -, qo1⟩ := okAll_i qo0
        obtain ⟨q2, qt2, rfl, -, qo2⟩ := okAll_i qo1
        obtain rfl := okAll_nil qo2
        have x0 : (w.drewN q).cell? ⟨blk, off + k * 3, none⟩ = some (.int .i64 p0) := z1 0 (by decide)
        have x1 : (w.drewN q).cell? ⟨blk, off + k * 3 + 1, none⟩ = some (.int .i64 p1) := z1 1 (by decide)
        have x2 : (w.drewN q).cell? ⟨blk, off + k * 3 + 2, none⟩ = some (.int .u8 p2) := z1 2 (by decide)
        have y0 : (w.drewN q).cell? ⟨blk2, off2 + k * 3, none⟩ = some (.int .i64 q0) := z2 0 (by decide)
        have y1 : (w.drewN q).cell? ⟨blk2, off2 + k * 3 + 1, none⟩ = some (.int .i64 q1) := z2 1 (by decide)
        have y2 : (w.drewN q).cell? ⟨blk2, off2 + k * 3 + 2, none⟩ = some (.int .u8 q2) := z2 2 (by decide)
        clear z1 z2
        generalize hw1 : w.drewN q = w1 at x0 x1 x2 y0 y1 y2 ⊢
        have HW1 := Lib.hid hw1
        clear hw1
        by_cases c3 : r = true
        · have E3 := Lib.hid (HI0.out.1 c3)
          have HI2 := Lib.hid (show ∀ j : Nat, j < k + 1 → L[j]? = M[j]? from fun j hj => by
            by_cases h : j = k
            · rw [h, G1.out, G2.out, E3.out]
            · exact HI.out j (by omega))
          subst c3
          go_wp2_with fail
          go_quiet (fail)
          go_wp2_with fail
          go_roundg (gk - 1)
          case measure => omega
          case rel => exact ⟨k + 1, _, by omega, by go_num, HI2, by rw [← HW1.out, World.drewN_drewN]⟩
        · have E3 := Lib.hid (fun h => c3 (HI0.out.2 h))
          have HR := Lib.hid (firstE_at HI.out (show L[k]? ≠ M[k]? from by rw [G1.out, G2.out]; exact fun h => E3.out (Option.some.inj h)))
          have c4 : r = false := by simpa using c3
          subst c4
          clear c3
          go_wp2_with fail
          go_quiet (fail)
          go_wp2_with fail
          go_ret
          exact ⟨ret_intJ HR.out.symm, _, by rw [← HW1.out, World.drewN_drewN]⟩
      · have i2 : ¬ (k : Int) < (lb : Int) := by omega
        have e2 : decide (lb ≤ k) = true := by simp; omega
        have HR := Lib.hid (firstE_at HI.out (show L[k]? ≠ M[k]? from by
          rw [List.getElem?_eq_getElem (show k < L.length by rw [HL.out]; exact c1), List.getElem?_eq_none (by have := HM.out; omega)]; simp))
        generalize hw1 : w.drewN q = w1
        have HW1 := Lib.hid hw1
        clear hw1
        go_wp2_with fail
        go_quiet (fail)
        go_wp2_with fail
        go_ret
        exact ⟨ret_intJ HR.out.symm, _, by rw [← HW1.out, World.drewN_drewN]⟩
    · have i1 : ¬ (k : Int) < (la : Int) := by omega
      have e1 : decide (la ≤ k) = true := by simp; omega
      by_cases c2 : k < lb
      · have i2 : (k : Int) < (lb : Int) := by omega
        have HR := Lib.hid (firstE_at HI.out (show L[k]? ≠ M[k]? from by
          rw [List.getElem?_eq_getElem (show k < M.length by rw [HM.out]; exact c2), List.getElem?_eq_none (by have := HL.out; omega)]; simp))
        generalize hw1 : w.drewN q = w1
        have HW1 := Lib.hid hw1
        clear hw1
        go_wp2_with fail
        go_quiet (fail)
        go_wp2_with fail
        go_ret
        exact ⟨ret_intJ HR.out.symm, _, by rw [← HW1.out, World.drewN_drewN]⟩
      · have i2 : ¬ (k : Int) < (lb : Int) := by omega
        have HR := Lib.hid (firstE_none (l := L) (m := M) (fun j => by
          by_cases h : j < k
          · exact HI.out j h
          · have := HL.out; have := HM.out
            rw [List.getElem?_eq_none (by omega), List.getElem?_eq_none (by omega)]))
        go_wp2_with fail
        go_ret
        exact ⟨ret_intJ HR.out.symm, q, rfl⟩
end Go.Proofs.YtjnakhejdpkfnaaDoor
