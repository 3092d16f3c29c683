/- The walk of RowsFind. -/
import Derived.Test.YtnmgfckefofcpaaRowL
namespace Go.Proofs.Ytnmgfckefofcpaa
open Go.RowKit
set_option linter.unusedSimpArgs false
set_option linter.unusedVariables false

theorem box_read {w w1 : World} {x0 x1 x2 x3 : Value} {t : TypeId} (hb : Below (w.heap.size + 1) (w.alloc (.cells #[x0, x1, x2, x3] t)) w1) :
    w1.cell? ⟨w.heap.size, 0, none⟩ = some x0 ∧ w1.cell? ⟨w.heap.size, 1, none⟩ = some x1 ∧ w1.cell? ⟨w.heap.size, 2, none⟩ = some x2 ∧ w1.cell? ⟨w.heap.size, 3, none⟩ = some x3 := by
  have h : ∀ o v, (w.alloc (.cells #[x0, x1, x2, x3] t)).cell? ⟨w.heap.size, o, none⟩ = some v → w1.cell? ⟨w.heap.size, o, none⟩ = some v := fun o v hv =>
    (hb.cell (p := ⟨w.heap.size, o, none⟩) (Nat.lt_succ_self _)).trans hv
  exact ⟨h _ _ (by go_simp), h _ _ (by go_simp), h _ _ (by go_simp), h _ _ (by go_simp)⟩

theorem below_a {w w1 : World} {o : Obj} (h : Below (w.heap.size + 1) (w.alloc o) w1) : Below w.heap.size w w1 := (below_alloc1 w o).trans (h.mono (by omega))
theorem below_s {w w1 : World} {o : Obj} (h : Below (w.alloc o).heap.size (w.alloc o) w1) : Below (w.heap.size + 1) (w.alloc o) w1 := h.mono (by simp)

theorem cell_on {w w1 : World} {o : Obj} {p : Addr} {v : Value} (hb : Below (w.alloc o).heap.size (w.alloc o) w1) (h : w.cell? p = some v) : w1.cell? p = some v := keep (below_box hb) h

set_option maxHeartbeats 8000000 in
theorem rowsFind_in (L : List RowR) (ao : Option Addr) (len cap : Nat) (off tally : Int) (w : World) (hL : L.length = len) (hl : len ≤ 4611686018427387903) (hR : RowsIn w ao L) :
    Calls Try.prog 3 #[.slice ao len cap, .int .i64 off, .int .i64 tally] w fun e w' => e = .returned (.bool true) ∧ Below w.heap.size w w' := by
  have H1 := Lib.hid (refRising_c L ao len cap w hL hl hR)
  have HR := Lib.hid hR
  have HL := Lib.hid hL
  have HW := Lib.hid works_c
  have HF := Lib.hid fun (w1 : World) (hb : Below w.heap.size w w1) (hU : RiseTo L L.length) => find_c L ao len cap off w1 hL hl (rows_below hb hR) (rise_mono hL hU off)
  have HG := Lib.hid fun (K : Nat) (hK : Cut L off K) (w1 : World) (hb : Below w.heap.size w w1) (hU : RiseTo L L.length) => refFind_c L ao len cap off K w1 hL hl (rows_below hb hR) hK hU
  have HA := Lib.hid fun (w1 : World) (hb : Below w.heap.size w w1) (hU : RiseTo L L.length) => last_c L ao len cap off w1 hL hl (rows_below hb hR) (rise_mono hL hU off)
  have HB := Lib.hid fun (K : Nat) (hK : Cut L off K) (w1 : World) (hb : Below w.heap.size w w1) => refLast_c L ao len cap off K w1 hL hl (rows_below hb hR) hK
  have HT := Lib.hid fun (K : Nat) (hK : Cut L off K) (w1 : World) (hb : Below w.heap.size w w1) (hU : RiseTo L L.length) => stands_c L ao len cap off tally K w1 hL hl (rows_below hb hR) (rise_mono hL hU off) hK
  clear hL hR
  go_enter Try.func3, Try.ntmps3
  go_wp2_with fail
  refine H1.out.mono ?_
  rintro e w1 ⟨b, rfl, hU, hb1⟩
  cases b
  · go_wp2_with fail
    refine (HW.out _).mono ?_
    rintro e w2 ⟨rfl, hb2⟩
    go_wp2_with fail
    go_ret
    exact ⟨rfl, below_next hb1 hb2⟩
  have HU := Lib.hid (hU rfl)
  clear hU
  go_wp2_with fail
  refine (HF.out _ hb1 HU.out).mono ?_
  rintro e w2 ⟨k, hK, rfl, hb2⟩
  have HK := Lib.hid hK
  clear hK
  have hB2 := below_next hb1 hb2
  clear hb2
  obtain ⟨x, hx⟩ : ∃ x, findR (lastR L k) off = x := ⟨_, rfl⟩
  have HG := Lib.hid (HG.out k HK.out)
  have HB := Lib.hid (HB.out k HK.out)
  have HT := Lib.hid (HT.out k HK.out)
  rw [hx] at HG HT ⊢
  clear hx
  obtain ⟨y, hy⟩ : ∃ y, lastR L k = y := ⟨_, rfl⟩
  rw [hy] at HB
  have HY := Lib.hid hy
  clear hy
  obtain ⟨⟨ro, rp, rd, re⟩, is⟩ := x
  obtain ⟨⟨yo, yp, yd, ye⟩, ys⟩ := y
  simp only [RowR.val, StandsV] at HG HB HT ⊢
  go_wp2_with fail
  refine (HG.out _ (hB2.alloc hB2.size _) HU.out).mono ?_
  rintro e w3 ⟨rfl, hb3⟩
  have hB3 := below_box2 hB2 hb3
  obtain ⟨a0, a1, a2, a3⟩ := box_read (below_s hb3)
  have s3 : w2.heap.size < w3.heap.size := by have := hb3.size; simp at this; omega
  clear hb3
  go_wp2_with fail
  refine (HA.out _ (hB3.alloc hB3.size _) HU.out).mono ?_
  rintro e w4 ⟨k', hk', rfl, hb4⟩
  obtain rfl := cut_uniq HK.out hk'
  clear hk'
  rw [HY.out]
  simp only [RowR.val]
  have hB4 := below_box2 hB3 hb4
  obtain ⟨b0, b1, b2, b3⟩ := box_read (below_s hb4)
  have a0 := cell_on hb4 a0
  have a1 := cell_on hb4 a1
  have a2 := cell_on hb4 a2
  have a3 := cell_on hb4 a3
  have s4 : w3.heap.size < w4.heap.size := by have := hb4.size; simp at this; omega
  clear hb4
  go_wp2_with fail
  refine (HB.out _ (hB4.alloc hB4.size _)).mono ?_
  rintro e w5 ⟨rfl, hb5⟩
  have hB5 := below_box2 hB4 hb5
  obtain ⟨c0, c1, c2, c3⟩ := box_read (below_s hb5)
  have a0 := cell_on hb5 a0
  have a1 := cell_on hb5 a1
  have a2 := cell_on hb5 a2
  have a3 := cell_on hb5 a3
  have b0 := cell_on hb5 b0
  have b1 := cell_on hb5 b1
  have b2 := cell_on hb5 b2
  have b3 := cell_on hb5 b3
  have s5 : w4.heap.size < w5.heap.size := by have := hb5.size; simp at this; omega
  have s53 : w3.heap.size < w5.heap.size := by omega
  have s52 : w2.heap.size < w5.heap.size := by omega
  clear hb5
  go_wp2_with fail
  refine (HT.out _ (hB5.alloc hB5.size _) HU.out).mono ?_
  rintro e w6 ⟨rfl, hb6⟩
  have hB6 := below_box2 hB5 hb6
  have b0 := cell_on hb6 b0
  have b1 := cell_on hb6 b1
  have b2 := cell_on hb6 b2
  have b3 := cell_on hb6 b3
  cases is
  · go_wp2_with fail
    refine (HW.out _).mono ?_
    rintro e w7 ⟨rfl, hb7⟩
    go_wp2_with fail
    go_ret
    exact ⟨rfl, below_next hB6 hb7⟩
  · go_wp2_with fail
    refine (HW.out _).mono ?_
    rintro e w7 ⟨rfl, hb7⟩
    go_wp2_with fail
    go_ret
    exact ⟨rfl, below_next hB6 hb7⟩

theorem rowsFind_walk (ao : Option Addr) (len cap : Nat) (L : List RowR) (off : Int) (wo : (Lit.int .i64 off).wf = true) (tally : Int) (wt : (Lit.int .i64 tally).wf = true) (w : World) (hL : L.length = len) (hl : len ≤ 9223372036854775807) (hby : len * 32 ≤ 140737488355328) (hR : RowsIn w ao L) :
    Calls Try.prog 3 #[.slice ao len cap, .int .i64 off, .int .i64 tally] w fun e w' => e = .returned (.bool true) ∧ Below w.heap.size w w' :=
  rowsFind_in L ao len cap off tally w hL (by omega) hR
end Go.Proofs.Ytnmgfckefofcpaa
