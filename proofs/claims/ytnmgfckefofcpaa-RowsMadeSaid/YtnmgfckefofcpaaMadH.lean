/- The walk of translate.Translate. (Written by mkMH.py.) -/
import Derived.Test.YtnmgfckefofcpaaMadG
namespace Go.Proofs.Ytnmgfckefofcpaa
open Go.RowKit
set_option linter.unusedSimpArgs false
set_option linter.unusedVariables false
set_option maxRecDepth 100000

def TransPost (b : BlkR) (first : Int) (w : World) (e : Ending) (w' : World) : Prop :=
  Below w.heap.size w w' ∧ (mayBlk b = false → e = .returned (.tuple #[.agg #[.slice none 0 0, .slice none 0 0], .int .i64 2])) ∧
    (mayBlk b = true → ∃ aB cB aR cR, e = .returned (.tuple #[.agg #[.slice aB (encAll (itemsOf b first)).length cB, .slice aR (rowsAt (itemsOf b first) 0).length cR], .int .i64 0]) ∧
      w'.ownsRow w.heap.size 5 1 (.slice aB (encAll (itemsOf b first)).length cB) (encAll (itemsOf b first)).length ((encAll (itemsOf b first)).map (Value.int .u8)) ∧
      w'.ownsRow w.heap.size 27 4 (.slice aR (rowsAt (itemsOf b first) 0).length cR) (rowsAt (itemsOf b first) 0).length ((rowsAt (itemsOf b first) 0).flatMap RowR.cells))

set_option maxHeartbeats 8000000 in
theorem trans_no (b : BlkR) (first : Int) (w : World) (hb : b.Ok w) (hM : mayBlk b = false) (f0 : 0 ≤ first) (f1 : first < 256) :
    Calls Try.prog 18 #[.agg b.cells, .int .i64 first] w (TransPost b first w) := by
  have hv := hb.vf
  have hv2 := hb.vt
  obtain ⟨a5, l5, c5, hvf⟩ := hv
  obtain ⟨a6, l6, c6, hvt⟩ := hv2
  have HMy := Lib.hid fun (w1 : World) (h : Below w.heap.size w w1) => mayT_c b w1 ⟨hb.li, hb.ci, inss_below h hb.inss, hb.la, hb.ca, hb.atb, ats_below h hb.atsIn, hb.nx0, hb.nx1, hb.to0, hb.to1, hb.vf, hb.vt⟩
  rw [hM] at HMy
  have HMb := Lib.hid hM
  have d1 : ¬ first < 0 := by omega
  have d2 : ¬ (65534 : Int) < first := by omega
  obtain ⟨cs, hcs⟩ : ∃ cs, b.cells = cs := ⟨_, rfl⟩
  rw [hcs] at HMy ⊢
  unfold BlkR.cells at hcs
  rw [hvf, hvt] at hcs
  subst hcs
  clear hb hM hvf hvt
  go_enter Try.func18, Try.ntmps18
  go_wp2_with fail
  refine (HMy.out _ ((kbelow_alloc1 _ _).alloc (by simp) _)).mono ?_
  rintro e w1 ⟨rfl, hb1⟩
  have hB1 : Below w.heap.size w w1 := ((kbelow_alloc1 w _).alloc (by simp) _).trans (hb1.mono (by simp; omega))
  have hX1 : w1.heap[w.heap.size + 1]? = some (.cells #[.slice none 0 0, .slice none 0 0] 36 (0, 0)) := (hb1.block _ (by simp)).trans (heap_new' (by simp))
  have k0 : w1.cell? ⟨w.heap.size + 1, 0, none⟩ = some (.slice none 0 0) := cell_of_row _ _ 0 _ _ _ hX1
  have k1 : w1.cell? ⟨w.heap.size + 1, 1, none⟩ = some (.slice none 0 0) := cell_of_row _ _ 1 _ _ _ hX1
  have z0 : w1.frozen? ⟨w.heap.size + 1, 0, none⟩ = false := frozen_of_row _ _ 0 _ _ hX1
  have z1 : w1.frozen? ⟨w.heap.size + 1, 1, none⟩ = false := frozen_of_row _ _ 1 _ _ hX1
  go_wp2_with fail
  refine bodyPost_ret (v := .tuple #[.agg #[.slice none 0 0, .slice none 0 0], .int .i64 2]) ?_ rfl ⟨?_, fun _ => rfl, fun h => by rw [HMb.out] at h; cases h⟩
  · simp [results, Try.results18, go_sem, k0, k1, z0, z1]
  · first
      | exact hB1
      | exact (hB1.setCell (by simp) _).setCell (by simp) _

/-- What the loop over the block's instructions keeps. -/
structure TrS (base : Nat) (w1 : World) (w' : World) : Prop where
  below : Below base w1 w'

set_option maxHeartbeats 8000000 in
theorem trans_yes (b : BlkR) (first : Int) (w : World) (hb : b.Ok w) (hM : mayBlk b = true) (f0 : 0 ≤ first) (f1 : first < 256) :
    Calls Try.prog 18 #[.agg b.cells, .int .i64 first] w (TransPost b first w) := by
  have hv := hb.vf
  have hv2 := hb.vt
  obtain ⟨a5, l5, c5, hvf⟩ := hv
  obtain ⟨a6, l6, c6, hvt⟩ := hv2
  have hMn := mayBlk_n hM
  obtain ⟨m1, m2, m3, -⟩ := hMn
  have HMy := Lib.hid fun (w1 : World) (h : Below w.heap.size w w1) => mayT_c b w1 ⟨hb.li, hb.ci, inss_below h hb.inss, hb.la, hb.ca, hb.atb, ats_below h hb.atsIn, hb.nx0, hb.nx1, hb.to0, hb.to1, hb.vf, hb.vt⟩
  rw [hM] at HMy
  have HMb := Lib.hid hM
  have HI := Lib.hid hb.inss
  have HA := Lib.hid hb.atsIn
  have HNx := Lib.hid (show 0 ≤ b.nx ∧ b.nx < 4294967296 from ⟨hb.nx0, hb.nx1⟩)
  have d1 : ¬ first < 0 := by omega
  have d2 : ¬ (65534 : Int) < first := by omega
  have HC := Lib.hid (show b.cells = #[.slice b.ai b.ins.length b.ci, .slice b.aa b.ats.length b.ca, .int .u32 b.nx, .int .u32 b.to, .int .i64 b.en, .slice a5 l5 c5, .slice a6 l6 c6] by unfold BlkR.cells; rw [hvf, hvt])
  have HV := Lib.hid (show b.vf = .slice a5 l5 c5 ∧ b.vt = .slice a6 l6 c6 from ⟨hvf, hvt⟩)
  obtain ⟨n, hn⟩ : ∃ n, b.ins.length = n := ⟨_, rfl⟩
  have hn2 : b.ats.length = n := by omega
  obtain ⟨cs, hcs⟩ : ∃ cs, b.cells = cs := ⟨_, rfl⟩
  rw [hcs] at HMy HC ⊢
  rw [hn, hn2] at HC
  obtain ⟨en, hen⟩ : ∃ en, b.en = en := ⟨_, rfl⟩
  rw [hen] at HC
  have hcs2 := HC.out
  subst hcs2
  have HN := Lib.hid (show b.ins.length = n ∧ b.ats.length = n ∧ b.en = en from ⟨hn, hn2, hen⟩)
  rw [hn] at m1 m2
  have hbn : bodyN b = if en = 1 then n else n - 1 := by unfold bodyN; rw [hen, hn]
  obtain ⟨nb, hnb⟩ : ∃ nb, bodyN b = nb := ⟨_, rfl⟩
  rw [hnb] at hbn
  have HNB := Lib.hid hnb
  have hnle : nb ≤ n := by rw [hbn]; split <;> omega
  clear hb hM hvf hvt hcs hn hn2 hen HC m3 hnb
  go_enter Try.func18, Try.ntmps18
  go_wp2_with fail
  refine (HMy.out _ ((kbelow_alloc1 _ _).alloc (by simp) _)).mono ?_
  rintro e w1 ⟨rfl, hb1⟩
  have hB1 : Below w.heap.size w w1 := ((kbelow_alloc1 w _).alloc (by simp) _).trans (hb1.mono (by simp; omega))
  have hX0 : w1.heap[w.heap.size]? = some (.cells #[.slice b.ai n b.ci, .slice b.aa n b.ca, .int .u32 b.nx, .int .u32 b.to, .int .i64 en, .slice a5 l5 c5, .slice a6 l6 c6] 42 (0, 0)) := (hb1.block _ (by simp; omega)).trans (heap_old' (heap_new' rfl))
  have hX1 : w1.heap[w.heap.size + 1]? = some (.cells #[.slice none 0 0, .slice none 0 0] 36 (0, 0)) := (hb1.block _ (by simp)).trans (heap_new' (by simp))
  have k0 : w1.cell? ⟨w.heap.size, 0, none⟩ = _ := cell_of_row _ _ 0 _ _ _ hX0
  have k1 : w1.cell? ⟨w.heap.size, 1, none⟩ = _ := cell_of_row _ _ 1 _ _ _ hX0
  have k2 : w1.cell? ⟨w.heap.size, 2, none⟩ = _ := cell_of_row _ _ 2 _ _ _ hX0
  have k3 : w1.cell? ⟨w.heap.size, 3, none⟩ = _ := cell_of_row _ _ 3 _ _ _ hX0
  have k4 : w1.cell? ⟨w.heap.size, 4, none⟩ = _ := cell_of_row _ _ 4 _ _ _ hX0
  have k5 : w1.cell? ⟨w.heap.size, 5, none⟩ = _ := cell_of_row _ _ 5 _ _ _ hX0
  have k6 : w1.cell? ⟨w.heap.size, 6, none⟩ = _ := cell_of_row _ _ 6 _ _ _ hX0
  simp at k0 k1 k2 k3 k4 k5 k6
  have hs1 : w.heap.size + 1 < w1.heap.size := heap_lt hX1
  have HB1 := Lib.hid hB1
  have HX1 := Lib.hid hX1
  have lw1 : w.heap.size < w1.heap.size := by omega
  clear hb1 hB1 hX0 hX1
  have hbase : w1.heap.size ≤ w1.heap.size := Nat.le_refl _
  obtain ⟨base, hbs⟩ : ∃ base, base = w1.heap.size := ⟨_, rfl⟩
  have HW0 : Hid (WkIs w1.heap.size w1.heap.size b (bodyL b 0) first (w1.alloc (.cells #[.slice none 0 0, .slice none 0 0, .slice b.ai n b.ci, .slice b.aa n b.ca, .int .u32 b.nx, .int .u32 b.to, .int .i64 en, .slice a5 l5 c5, .slice a6 l6 c6, .int .i64 first] 62))) := by
    refine Lib.hid ⟨.slice none 0 0, .slice none 0 0, ?_, Nat.le_refl _, ⟨rfl, .inl ⟨rfl, rfl⟩⟩, ⟨rfl, .inl ⟨rfl, rfl⟩⟩⟩
    rw [heap_new' rfl]
    unfold WkCells
    rw [HN.out.1, HN.out.2.1, HN.out.2.2, HV.out.1, HV.out.2]
  by_cases c1 : en = 1
  · subst c1
    have hen1 : ((1 : Int) != 1) = false := rfl
    have hnb1 : nb = n := by rw [hbn, if_pos rfl]
    clear hbn
    subst hnb1
    go_wp2_with fail
    go_loopg [34] nb (fun gk vk wr => ∃ k : Nat, gk + k = nb ∧ vk = .int .i64 (k : Int) ∧ Hid (WkIs w1.heap.size w1.heap.size b (bodyL b k) first wr) ∧ Hid (Below w1.heap.size w1 wr) ∧ w1.heap.size < wr.heap.size)
    case atStart => exact ⟨0, rfl, rfl, HW0, Lib.hid (kbelow_alloc1 _ _), by simp⟩
    case round =>
      obtain ⟨k, hk, rfl, HW, HBr, hs⟩ := hrel
      by_cases e1 : k < nb
      · obtain ⟨r, hr⟩ : ∃ r, b.ins[k]? = some r := ⟨_, List.getElem?_eq_getElem (by rw [HN.out.1]; omega)⟩
        obtain ⟨at1, ha⟩ : ∃ r, b.ats[k]? = some r := ⟨_, List.getElem?_eq_getElem (by rw [HN.out.2.1]; omega)⟩
        have hmy := okIns_may (mayBlk_at HMb.out (k := k) (by rw [HN.out.1]; omega))
        have hbd : bodyIt b k = ⟨r.op, r.a, r.b, r.imm, at1, (k : Int), -1⟩ := by unfold bodyIt; rw [show b.ins.getD k zI = r by rw [List.getD, hr]; rfl, show b.ats.getD k 0 = at1 by rw [List.getD, ha]; rfl]
        rw [show b.ins.getD k zI = r by rw [List.getD, hr]; rfl] at hmy
        obtain ⟨bi, oi, hai, lbi, y0, y1, y2, y3⟩ := inss_at (inss_below HB1.out HI.out) hr
        obtain ⟨ba, oa, haa, lba, u0⟩ := ats_at (ats_below HB1.out HA.out) ha
        obtain ⟨ro, ra, rb, ri, q0, q1, q2, q3, q4, q5, q6, q7⟩ := r
        simp only at y0 y1 y2 y3 hmy hbd
        have i1 : (k : Int) < (nb : Int) := by omega
        have i2 : (k : Int) < (nb : Int) := by omega
        have HBD := Lib.hid hbd
        clear hr ha hbd
        have g0 : w1.cell? ⟨w.heap.size, 0, none⟩ = some (.slice (some ⟨bi, oi, none⟩) nb b.ci) := by rw [k0, hai]
        have g1 : w1.cell? ⟨w.heap.size, 1, none⟩ = some (.slice (some ⟨ba, oa, none⟩) nb b.ca) := by rw [k1, haa]
        clear k0 k1 k2 k3 k4 k5 k6 hai haa
        go_wp2_with fail
        refine wp_region_held_drew (S := fun w' => Below w1.heap.size w1 w') (by kernel_rfl) HBr.out.drew (fun hHeld => ?_)
        refine wpAnyH_take (i := 0) (oi := { dst := some 37, op := Op.move (Operand.tmp 6), type := _, pos := "translate.go:122", after := #[], guard := none }) (v := .pointer (some ⟨w1.heap.size, 0, none⟩)) rfl (by kernel_rfl) (by kernel_rfl) (by kernel_rfl) (fun _ _ _ h => h) (Or.inl ⟨by rfl, ?_⟩) hHeld ?_
        · intro w' hSw
          have y0 := (hSw.cell (p := ⟨bi, oi + k * 4, none⟩) lbi).trans y0
          have y1 := (hSw.cell (p := ⟨bi, oi + k * 4 + 1, none⟩) lbi).trans y1
          have y2 := (hSw.cell (p := ⟨bi, oi + k * 4 + 2, none⟩) lbi).trans y2
          have y3 := (hSw.cell (p := ⟨bi, oi + k * 4 + 3, none⟩) lbi).trans y3
          have u0 := (hSw.cell (p := ⟨ba, oa + k, none⟩) lba).trans u0
          have g0 := (hSw.cell (p := ⟨w.heap.size, 0, none⟩) lw1).trans g0
          have g1 := (hSw.cell (p := ⟨w.heap.size, 1, none⟩) lw1).trans g1
          go_simp
        try simp only [Act.put, List.setIfInBounds_toArray, List.set_cons_zero, List.set_cons_succ]
        refine wpAnyH_take (i := 1) (oi := { dst := some 38, op := Op.nilCheck (Operand.tmp 37), type := _, pos := "translate.go:122", after := #[{ on := 0, ground := Ground.data }], guard := none }) (v := .pointer (some ⟨w1.heap.size, 0, none⟩)) rfl (by kernel_rfl) (by kernel_rfl) (by kernel_rfl) (fun _ _ _ h => h) (Or.inl ⟨by rfl, ?_⟩) hHeld ?_
        · intro w' hSw
          have y0 := (hSw.cell (p := ⟨bi, oi + k * 4, none⟩) lbi).trans y0
          have y1 := (hSw.cell (p := ⟨bi, oi + k * 4 + 1, none⟩) lbi).trans y1
          have y2 := (hSw.cell (p := ⟨bi, oi + k * 4 + 2, none⟩) lbi).trans y2
          have y3 := (hSw.cell (p := ⟨bi, oi + k * 4 + 3, none⟩) lbi).trans y3
          have u0 := (hSw.cell (p := ⟨ba, oa + k, none⟩) lba).trans u0
          have g0 := (hSw.cell (p := ⟨w.heap.size, 0, none⟩) lw1).trans g0
          have g1 := (hSw.cell (p := ⟨w.heap.size, 1, none⟩) lw1).trans g1
          go_simp
        try simp only [Act.put, List.setIfInBounds_toArray, List.set_cons_zero, List.set_cons_succ]
        refine wpAnyH_take (i := 2) (oi := { dst := some 39, op := Op.fieldAddr _ (Operand.tmp 38) 0, type := _, pos := "translate.go:122", after := #[{ on := 1, ground := Ground.data }], guard := none }) (v := .pointer (some ⟨w1.heap.size, 0, none⟩)) rfl (by kernel_rfl) (by kernel_rfl) (by kernel_rfl) (fun _ _ _ h => h) (Or.inl ⟨by rfl, ?_⟩) hHeld ?_
        · intro w' hSw
          have y0 := (hSw.cell (p := ⟨bi, oi + k * 4, none⟩) lbi).trans y0
          have y1 := (hSw.cell (p := ⟨bi, oi + k * 4 + 1, none⟩) lbi).trans y1
          have y2 := (hSw.cell (p := ⟨bi, oi + k * 4 + 2, none⟩) lbi).trans y2
          have y3 := (hSw.cell (p := ⟨bi, oi + k * 4 + 3, none⟩) lbi).trans y3
          have u0 := (hSw.cell (p := ⟨ba, oa + k, none⟩) lba).trans u0
          have g0 := (hSw.cell (p := ⟨w.heap.size, 0, none⟩) lw1).trans g0
          have g1 := (hSw.cell (p := ⟨w.heap.size, 1, none⟩) lw1).trans g1
          go_simp
        try simp only [Act.put, List.setIfInBounds_toArray, List.set_cons_zero, List.set_cons_succ]
        refine wpAnyH_take (i := 3) (oi := { dst := some 40, op := Op.fieldAddr _ (Operand.tmp 2) 0, type := _, pos := "translate.go:122", after := #[], guard := none }) (v := .pointer (some ⟨w.heap.size, 0, none⟩)) rfl (by kernel_rfl) (by kernel_rfl) (by kernel_rfl) (fun _ _ _ h => h) (Or.inl ⟨by rfl, ?_⟩) hHeld ?_
        · intro w' hSw
          have y0 := (hSw.cell (p := ⟨bi, oi + k * 4, none⟩) lbi).trans y0
          have y1 := (hSw.cell (p := ⟨bi, oi + k * 4 + 1, none⟩) lbi).trans y1
          have y2 := (hSw.cell (p := ⟨bi, oi + k * 4 + 2, none⟩) lbi).trans y2
          have y3 := (hSw.cell (p := ⟨bi, oi + k * 4 + 3, none⟩) lbi).trans y3
          have u0 := (hSw.cell (p := ⟨ba, oa + k, none⟩) lba).trans u0
          have g0 := (hSw.cell (p := ⟨w.heap.size, 0, none⟩) lw1).trans g0
          have g1 := (hSw.cell (p := ⟨w.heap.size, 1, none⟩) lw1).trans g1
          go_simp
        try simp only [Act.put, List.setIfInBounds_toArray, List.set_cons_zero, List.set_cons_succ]
        refine wpAnyH_take (i := 4) (oi := { dst := some 41, op := Op.load _ (Operand.tmp 40), type := _, pos := "translate.go:122", after := #[{ on := 3, ground := Ground.data }], guard := none }) (v := .slice (some ⟨bi, oi, none⟩) nb b.ci) rfl (by kernel_rfl) (by kernel_rfl) (by kernel_rfl) (fun _ _ _ h => h) (Or.inl ⟨by rfl, ?_⟩) hHeld ?_
        · intro w' hSw
          have y0 := (hSw.cell (p := ⟨bi, oi + k * 4, none⟩) lbi).trans y0
          have y1 := (hSw.cell (p := ⟨bi, oi + k * 4 + 1, none⟩) lbi).trans y1
          have y2 := (hSw.cell (p := ⟨bi, oi + k * 4 + 2, none⟩) lbi).trans y2
          have y3 := (hSw.cell (p := ⟨bi, oi + k * 4 + 3, none⟩) lbi).trans y3
          have u0 := (hSw.cell (p := ⟨ba, oa + k, none⟩) lba).trans u0
          have g0 := (hSw.cell (p := ⟨w.heap.size, 0, none⟩) lw1).trans g0
          have g1 := (hSw.cell (p := ⟨w.heap.size, 1, none⟩) lw1).trans g1
          go_simp
        try simp only [Act.put, List.setIfInBounds_toArray, List.set_cons_zero, List.set_cons_succ]
        refine wpAnyH_take (i := 5) (oi := { dst := some 42, op := Op.move (Operand.tmp 8), type := _, pos := "translate.go:122", after := #[], guard := none }) (v := .int .i64 (k : Int)) rfl (by kernel_rfl) (by kernel_rfl) (by kernel_rfl) (fun _ _ _ h => h) (Or.inl ⟨by rfl, ?_⟩) hHeld ?_
        · intro w' hSw
          have y0 := (hSw.cell (p := ⟨bi, oi + k * 4, none⟩) lbi).trans y0
          have y1 := (hSw.cell (p := ⟨bi, oi + k * 4 + 1, none⟩) lbi).trans y1
          have y2 := (hSw.cell (p := ⟨bi, oi + k * 4 + 2, none⟩) lbi).trans y2
          have y3 := (hSw.cell (p := ⟨bi, oi + k * 4 + 3, none⟩) lbi).trans y3
          have u0 := (hSw.cell (p := ⟨ba, oa + k, none⟩) lba).trans u0
          have g0 := (hSw.cell (p := ⟨w.heap.size, 0, none⟩) lw1).trans g0
          have g1 := (hSw.cell (p := ⟨w.heap.size, 1, none⟩) lw1).trans g1
          go_simp
        try simp only [Act.put, List.setIfInBounds_toArray, List.set_cons_zero, List.set_cons_succ]
        refine wpAnyH_take (i := 6) (oi := { dst := some 43, op := Op.indexAddr _ (Operand.tmp 41) (Operand.tmp 42), type := _, pos := "translate.go:122", after := #[{ on := 4, ground := Ground.data }, { on := 5, ground := Ground.data }], guard := none }) (v := .pointer (some ⟨bi, oi + k * 4, none⟩)) rfl (by kernel_rfl) (by kernel_rfl) (by kernel_rfl) (fun _ _ _ h => h) (Or.inl ⟨by rfl, ?_⟩) hHeld ?_
        · intro w' hSw
          have y0 := (hSw.cell (p := ⟨bi, oi + k * 4, none⟩) lbi).trans y0
          have y1 := (hSw.cell (p := ⟨bi, oi + k * 4 + 1, none⟩) lbi).trans y1
          have y2 := (hSw.cell (p := ⟨bi, oi + k * 4 + 2, none⟩) lbi).trans y2
          have y3 := (hSw.cell (p := ⟨bi, oi + k * 4 + 3, none⟩) lbi).trans y3
          have u0 := (hSw.cell (p := ⟨ba, oa + k, none⟩) lba).trans u0
          have g0 := (hSw.cell (p := ⟨w.heap.size, 0, none⟩) lw1).trans g0
          have g1 := (hSw.cell (p := ⟨w.heap.size, 1, none⟩) lw1).trans g1
          go_simp
        try simp only [Act.put, List.setIfInBounds_toArray, List.set_cons_zero, List.set_cons_succ]
        refine wpAnyH_take (i := 7) (oi := { dst := some 44, op := Op.load _ (Operand.tmp 43), type := _, pos := "translate.go:122", after := #[{ on := 6, ground := Ground.data }], guard := none }) (v := .agg #[.int .u8 ro, .int .u8 ra, .int .u8 rb, .int .i32 ri]) rfl (by kernel_rfl) (by kernel_rfl) (by kernel_rfl) (fun _ _ _ h => h) (Or.inl ⟨by rfl, ?_⟩) hHeld ?_
        · intro w' hSw
          have y0 := (hSw.cell (p := ⟨bi, oi + k * 4, none⟩) lbi).trans y0
          have y1 := (hSw.cell (p := ⟨bi, oi + k * 4 + 1, none⟩) lbi).trans y1
          have y2 := (hSw.cell (p := ⟨bi, oi + k * 4 + 2, none⟩) lbi).trans y2
          have y3 := (hSw.cell (p := ⟨bi, oi + k * 4 + 3, none⟩) lbi).trans y3
          have u0 := (hSw.cell (p := ⟨ba, oa + k, none⟩) lba).trans u0
          have g0 := (hSw.cell (p := ⟨w.heap.size, 0, none⟩) lw1).trans g0
          have g1 := (hSw.cell (p := ⟨w.heap.size, 1, none⟩) lw1).trans g1
          go_simp
        try simp only [Act.put, List.setIfInBounds_toArray, List.set_cons_zero, List.set_cons_succ]
        refine wpAnyH_take (i := 8) (oi := { dst := some 45, op := Op.fieldAddr _ (Operand.tmp 2) 1, type := _, pos := "translate.go:122", after := #[], guard := none }) (v := .pointer (some ⟨w.heap.size, 1, none⟩)) rfl (by kernel_rfl) (by kernel_rfl) (by kernel_rfl) (fun _ _ _ h => h) (Or.inl ⟨by rfl, ?_⟩) hHeld ?_
        · intro w' hSw
          have y0 := (hSw.cell (p := ⟨bi, oi + k * 4, none⟩) lbi).trans y0
          have y1 := (hSw.cell (p := ⟨bi, oi + k * 4 + 1, none⟩) lbi).trans y1
          have y2 := (hSw.cell (p := ⟨bi, oi + k * 4 + 2, none⟩) lbi).trans y2
          have y3 := (hSw.cell (p := ⟨bi, oi + k * 4 + 3, none⟩) lbi).trans y3
          have u0 := (hSw.cell (p := ⟨ba, oa + k, none⟩) lba).trans u0
          have g0 := (hSw.cell (p := ⟨w.heap.size, 0, none⟩) lw1).trans g0
          have g1 := (hSw.cell (p := ⟨w.heap.size, 1, none⟩) lw1).trans g1
          go_simp
        try simp only [Act.put, List.setIfInBounds_toArray, List.set_cons_zero, List.set_cons_succ]
        refine wpAnyH_take (i := 9) (oi := { dst := some 46, op := Op.load _ (Operand.tmp 45), type := _, pos := "translate.go:122", after := #[{ on := 8, ground := Ground.data }], guard := none }) (v := .slice (some ⟨ba, oa, none⟩) nb b.ca) rfl (by kernel_rfl) (by kernel_rfl) (by kernel_rfl) (fun _ _ _ h => h) (Or.inl ⟨by rfl, ?_⟩) hHeld ?_
        · intro w' hSw
          have y0 := (hSw.cell (p := ⟨bi, oi + k * 4, none⟩) lbi).trans y0
          have y1 := (hSw.cell (p := ⟨bi, oi + k * 4 + 1, none⟩) lbi).trans y1
          have y2 := (hSw.cell (p := ⟨bi, oi + k * 4 + 2, none⟩) lbi).trans y2
          have y3 := (hSw.cell (p := ⟨bi, oi + k * 4 + 3, none⟩) lbi).trans y3
          have u0 := (hSw.cell (p := ⟨ba, oa + k, none⟩) lba).trans u0
          have g0 := (hSw.cell (p := ⟨w.heap.size, 0, none⟩) lw1).trans g0
          have g1 := (hSw.cell (p := ⟨w.heap.size, 1, none⟩) lw1).trans g1
          go_simp
        try simp only [Act.put, List.setIfInBounds_toArray, List.set_cons_zero, List.set_cons_succ]
        refine wpAnyH_take (i := 10) (oi := { dst := some 47, op := Op.move (Operand.tmp 8), type := _, pos := "translate.go:122", after := #[], guard := none }) (v := .int .i64 (k : Int)) rfl (by kernel_rfl) (by kernel_rfl) (by kernel_rfl) (fun _ _ _ h => h) (Or.inl ⟨by rfl, ?_⟩) hHeld ?_
        · intro w' hSw
          have y0 := (hSw.cell (p := ⟨bi, oi + k * 4, none⟩) lbi).trans y0
          have y1 := (hSw.cell (p := ⟨bi, oi + k * 4 + 1, none⟩) lbi).trans y1
          have y2 := (hSw.cell (p := ⟨bi, oi + k * 4 + 2, none⟩) lbi).trans y2
          have y3 := (hSw.cell (p := ⟨bi, oi + k * 4 + 3, none⟩) lbi).trans y3
          have u0 := (hSw.cell (p := ⟨ba, oa + k, none⟩) lba).trans u0
          have g0 := (hSw.cell (p := ⟨w.heap.size, 0, none⟩) lw1).trans g0
          have g1 := (hSw.cell (p := ⟨w.heap.size, 1, none⟩) lw1).trans g1
          go_simp
        try simp only [Act.put, List.setIfInBounds_toArray, List.set_cons_zero, List.set_cons_succ]
        refine wpAnyH_take (i := 11) (oi := { dst := some 48, op := Op.indexAddr _ (Operand.tmp 46) (Operand.tmp 47), type := _, pos := "translate.go:122", after := #[{ on := 9, ground := Ground.data }, { on := 10, ground := Ground.data }], guard := none }) (v := .pointer (some ⟨ba, oa + k, none⟩)) rfl (by kernel_rfl) (by kernel_rfl) (by kernel_rfl) (fun _ _ _ h => h) (Or.inl ⟨by rfl, ?_⟩) hHeld ?_
        · intro w' hSw
          have y0 := (hSw.cell (p := ⟨bi, oi + k * 4, none⟩) lbi).trans y0
          have y1 := (hSw.cell (p := ⟨bi, oi + k * 4 + 1, none⟩) lbi).trans y1
          have y2 := (hSw.cell (p := ⟨bi, oi + k * 4 + 2, none⟩) lbi).trans y2
          have y3 := (hSw.cell (p := ⟨bi, oi + k * 4 + 3, none⟩) lbi).trans y3
          have u0 := (hSw.cell (p := ⟨ba, oa + k, none⟩) lba).trans u0
          have g0 := (hSw.cell (p := ⟨w.heap.size, 0, none⟩) lw1).trans g0
          have g1 := (hSw.cell (p := ⟨w.heap.size, 1, none⟩) lw1).trans g1
          go_simp
        try simp only [Act.put, List.setIfInBounds_toArray, List.set_cons_zero, List.set_cons_succ]
        refine wpAnyH_take (i := 12) (oi := { dst := some 49, op := Op.load _ (Operand.tmp 48), type := _, pos := "translate.go:122", after := #[{ on := 11, ground := Ground.data }], guard := none }) (v := .int .u32 at1) rfl (by kernel_rfl) (by kernel_rfl) (by kernel_rfl) (fun _ _ _ h => h) (Or.inl ⟨by rfl, ?_⟩) hHeld ?_
        · intro w' hSw
          have y0 := (hSw.cell (p := ⟨bi, oi + k * 4, none⟩) lbi).trans y0
          have y1 := (hSw.cell (p := ⟨bi, oi + k * 4 + 1, none⟩) lbi).trans y1
          have y2 := (hSw.cell (p := ⟨bi, oi + k * 4 + 2, none⟩) lbi).trans y2
          have y3 := (hSw.cell (p := ⟨bi, oi + k * 4 + 3, none⟩) lbi).trans y3
          have u0 := (hSw.cell (p := ⟨ba, oa + k, none⟩) lba).trans u0
          have g0 := (hSw.cell (p := ⟨w.heap.size, 0, none⟩) lw1).trans g0
          have g1 := (hSw.cell (p := ⟨w.heap.size, 1, none⟩) lw1).trans g1
          go_simp
        try simp only [Act.put, List.setIfInBounds_toArray, List.set_cons_zero, List.set_cons_succ]
        refine wpAnyH_take (i := 13) (oi := { dst := some 50, op := Op.move (Operand.tmp 8), type := _, pos := "translate.go:122", after := #[], guard := none }) (v := .int .i64 (k : Int)) rfl (by kernel_rfl) (by kernel_rfl) (by kernel_rfl) (fun _ _ _ h => h) (Or.inl ⟨by rfl, ?_⟩) hHeld ?_
        · intro w' hSw
          have y0 := (hSw.cell (p := ⟨bi, oi + k * 4, none⟩) lbi).trans y0
          have y1 := (hSw.cell (p := ⟨bi, oi + k * 4 + 1, none⟩) lbi).trans y1
          have y2 := (hSw.cell (p := ⟨bi, oi + k * 4 + 2, none⟩) lbi).trans y2
          have y3 := (hSw.cell (p := ⟨bi, oi + k * 4 + 3, none⟩) lbi).trans y3
          have u0 := (hSw.cell (p := ⟨ba, oa + k, none⟩) lba).trans u0
          have g0 := (hSw.cell (p := ⟨w.heap.size, 0, none⟩) lw1).trans g0
          have g1 := (hSw.cell (p := ⟨w.heap.size, 1, none⟩) lw1).trans g1
          go_simp
        try simp only [Act.put, List.setIfInBounds_toArray, List.set_cons_zero, List.set_cons_succ]
        refine wpAnyH_ready (rs := [14]) (by kernel_rfl) (by simp) ?_
        refine AllReadyH.cons (o := { dst := some 51, op := Op.call { callee := Callee.value (Operand.func _), args := #[Operand.tmp 39, Operand.tmp 44, Operand.tmp 49, Operand.tmp 50], argTypes := _ }, type := _, pos := "translate.go:122", after := #[{ on := 2, ground := Ground.data }, { on := 7, ground := Ground.data }, { on := 12, ground := Ground.data }, { on := 13, ground := Ground.data }], guard := none }) rfl (fun K hK => ?_) AllReadyH.nil
        go_simp
        go_at_call 26
        refine (lay_is w1.heap.size w1.heap.size b (bodyL b k) first ro ra rb ri at1 (k : Int) _ q0 q1 q2 q3 q4 q5 q6 q7 hmy (by obtain ⟨vB, vR, h⟩ := HW.out; exact ⟨vB, vR, h.drew⟩) (by simp; omega) (by rw [bodyL_len]; omega)).mono ?_
        rintro e w3 ⟨rfl, h3, hb3⟩
        refine hK.out _ _ (hHeld.trans hb3) (fun hHeld => ?_)
        clear hK K
        try simp only [Act.put, List.setIfInBounds_toArray, List.set_cons_zero, List.set_cons_succ]
        refine wpAnyH_done (by kernel_rfl) ?_ _
        go_wp2_with fail
        go_roundg (gk - 1)
        case measure => omega
        case rel => exact ⟨k + 1, by omega, by go_num, Lib.hid (by rw [bodyL_snoc, HBD.out]; exact h3), Lib.hid hHeld, by have := hb3.size; simp at this; omega⟩
      · have i1 : ¬ (k : Int) < (nb : Int) := by omega
        have hkn : k = nb := by omega
        subst hkn
        have hIr : InssIn wr b.ai b.ins := inss_below (HB1.out.trans (HBr.out.mono (by omega))) HI.out
        have hAr : AtsIn wr b.aa b.ats := ats_below (HB1.out.trans (HBr.out.mono (by omega))) HA.out
        have HE := Lib.hid (end_c w1.heap.size w1.heap.size b (bodyL b k) first wr HW.out (by omega) (by rw [bodyL_len]; omega) f0 (by omega) HMb.out hIr hAr HNx.out.1 HNx.out.2)
        have hit : bodyL b k ++ endIt b b.ins.length (b.ins.getD (b.ins.length - 1) zI) (b.ats.getD (b.ins.length - 1) 0) first = itemsOf b first := by unfold itemsOf; rw [HNB.out]
        rw [hit] at HE
        clear hIr hAr hit k0 k1 k2 k3 k4 k5 k6
        go_wp2_with fail
        refine HE.out.mono ?_
        rintro e w4 ⟨rfl, ⟨nx', vB, vR, hF⟩, hb4⟩
        obtain ⟨aB, cB, rfl⟩ := own_slice hF.bs
        obtain ⟨aR, cR, rfl⟩ := own_slice hF.rs
        have t0 : w4.cell? ⟨w1.heap.size, 0, none⟩ = _ := hF.cell 0
        have t1 : w4.cell? ⟨w1.heap.size, 1, none⟩ = _ := hF.cell 1
        simp [WkCells] at t0 t1
        have hX4 : w4.heap[w.heap.size + 1]? = _ := (hb4.block _ (by omega)).trans ((HBr.out.block _ (by omega)).trans HX1.out)
        have v0 : w4.cell? ⟨w.heap.size + 1, 0, none⟩ = some (.slice none 0 0) := cell_of_row _ _ 0 _ _ _ hX4
        have v1 : w4.cell? ⟨w.heap.size + 1, 1, none⟩ = some (.slice none 0 0) := cell_of_row _ _ 1 _ _ _ hX4
        have z0 : w4.frozen? ⟨w.heap.size + 1, 0, none⟩ = false := frozen_of_row _ _ 0 _ _ hX4
        have z1 : w4.frozen? ⟨w.heap.size + 1, 1, none⟩ = false := frozen_of_row _ _ 1 _ _ hX4
        have lw4 : w.heap.size + 1 < w4.heap.size := heap_lt hX4
        have hBz : Below w.heap.size w w4 := HB1.out.trans ((HBr.out.trans hb4).mono (by omega))
        have hO1 := hF.bs
        have hO2 := hF.rs
        clear hF
        go_wp2_with fail
        refine bodyPost_ret (v := .tuple #[.agg #[.slice aB (encAll (itemsOf b first)).length cB, .slice aR (rowsAt (itemsOf b first) 0).length cR], .int .i64 0]) ?_ rfl ⟨(hBz.setCell (by simp) _).setCell (by simp) _, fun h => (by rw [HMb.out] at h; cases h), fun _ => ⟨aB, cB, aR, cR, rfl, Isa.ownsRow_mono (own_low_set (own_low_set hO1 (by omega)) (by omega)) (by omega), Isa.ownsRow_mono (own_low_set (own_low_set hO2 (by omega)) (by omega)) (by omega)⟩⟩
        simp [results, Try.results18, go_sem, v0, v1, z0, z1, lw4]
  · have hen1 : (en != 1) = true := by simpa using c1
    have hnb1 : nb = n - 1 := by rw [hbn, if_neg c1]
    clear hbn c1
    go_wp2_with fail
    go_loopg [34] nb (fun gk vk wr => ∃ k : Nat, gk + k = nb ∧ vk = .int .i64 (k : Int) ∧ Hid (WkIs w1.heap.size w1.heap.size b (bodyL b k) first wr) ∧ Hid (Below w1.heap.size w1 wr) ∧ w1.heap.size < wr.heap.size)
    case atStart => exact ⟨0, rfl, rfl, HW0, Lib.hid (kbelow_alloc1 _ _), by simp⟩
    case round =>
      obtain ⟨k, hk, rfl, HW, HBr, hs⟩ := hrel
      by_cases e1 : k < nb
      · obtain ⟨r, hr⟩ : ∃ r, b.ins[k]? = some r := ⟨_, List.getElem?_eq_getElem (by rw [HN.out.1]; omega)⟩
        obtain ⟨at1, ha⟩ : ∃ r, b.ats[k]? = some r := ⟨_, List.getElem?_eq_getElem (by rw [HN.out.2.1]; omega)⟩
        have hmy := okIns_may (mayBlk_at HMb.out (k := k) (by rw [HN.out.1]; omega))
        have hbd : bodyIt b k = ⟨r.op, r.a, r.b, r.imm, at1, (k : Int), -1⟩ := by unfold bodyIt; rw [show b.ins.getD k zI = r by rw [List.getD, hr]; rfl, show b.ats.getD k 0 = at1 by rw [List.getD, ha]; rfl]
        rw [show b.ins.getD k zI = r by rw [List.getD, hr]; rfl] at hmy
        obtain ⟨bi, oi, hai, lbi, y0, y1, y2, y3⟩ := inss_at (inss_below HB1.out HI.out) hr
        obtain ⟨ba, oa, haa, lba, u0⟩ := ats_at (ats_below HB1.out HA.out) ha
        obtain ⟨ro, ra, rb, ri, q0, q1, q2, q3, q4, q5, q6, q7⟩ := r
        simp only at y0 y1 y2 y3 hmy hbd
        have i1 : (k : Int) < (n : Int) - 1 := by omega
        have i2 : (k : Int) < (n : Int) := by omega
        have HBD := Lib.hid hbd
        clear hr ha hbd
        have g0 : w1.cell? ⟨w.heap.size, 0, none⟩ = some (.slice (some ⟨bi, oi, none⟩) n b.ci) := by rw [k0, hai]
        have g1 : w1.cell? ⟨w.heap.size, 1, none⟩ = some (.slice (some ⟨ba, oa, none⟩) n b.ca) := by rw [k1, haa]
        clear k0 k1 k2 k3 k4 k5 k6 hai haa
        go_wp2_with fail
        refine wp_region_held_drew (S := fun w' => Below w1.heap.size w1 w') (by kernel_rfl) HBr.out.drew (fun hHeld => ?_)
        refine wpAnyH_take (i := 0) (oi := { dst := some 37, op := Op.move (Operand.tmp 6), type := _, pos := "translate.go:122", after := #[], guard := none }) (v := .pointer (some ⟨w1.heap.size, 0, none⟩)) rfl (by kernel_rfl) (by kernel_rfl) (by kernel_rfl) (fun _ _ _ h => h) (Or.inl ⟨by rfl, ?_⟩) hHeld ?_
        · intro w' hSw
          have y0 := (hSw.cell (p := ⟨bi, oi + k * 4, none⟩) lbi).trans y0
          have y1 := (hSw.cell (p := ⟨bi, oi + k * 4 + 1, none⟩) lbi).trans y1
          have y2 := (hSw.cell (p := ⟨bi, oi + k * 4 + 2, none⟩) lbi).trans y2
          have y3 := (hSw.cell (p := ⟨bi, oi + k * 4 + 3, none⟩) lbi).trans y3
          have u0 := (hSw.cell (p := ⟨ba, oa + k, none⟩) lba).trans u0
          have g0 := (hSw.cell (p := ⟨w.heap.size, 0, none⟩) lw1).trans g0
          have g1 := (hSw.cell (p := ⟨w.heap.size, 1, none⟩) lw1).trans g1
          go_simp
        try simp only [Act.put, List.setIfInBounds_toArray, List.set_cons_zero, List.set_cons_succ]
        refine wpAnyH_take (i := 1) (oi := { dst := some 38, op := Op.nilCheck (Operand.tmp 37), type := _, pos := "translate.go:122", after := #[{ on := 0, ground := Ground.data }], guard := none }) (v := .pointer (some ⟨w1.heap.size, 0, none⟩)) rfl (by kernel_rfl) (by kernel_rfl) (by kernel_rfl) (fun _ _ _ h => h) (Or.inl ⟨by rfl, ?_⟩) hHeld ?_
        · intro w' hSw
          have y0 := (hSw.cell (p := ⟨bi, oi + k * 4, none⟩) lbi).trans y0
          have y1 := (hSw.cell (p := ⟨bi, oi + k * 4 + 1, none⟩) lbi).trans y1
          have y2 := (hSw.cell (p := ⟨bi, oi + k * 4 + 2, none⟩) lbi).trans y2
          have y3 := (hSw.cell (p := ⟨bi, oi + k * 4 + 3, none⟩) lbi).trans y3
          have u0 := (hSw.cell (p := ⟨ba, oa + k, none⟩) lba).trans u0
          have g0 := (hSw.cell (p := ⟨w.heap.size, 0, none⟩) lw1).trans g0
          have g1 := (hSw.cell (p := ⟨w.heap.size, 1, none⟩) lw1).trans g1
          go_simp
        try simp only [Act.put, List.setIfInBounds_toArray, List.set_cons_zero, List.set_cons_succ]
        refine wpAnyH_take (i := 2) (oi := { dst := some 39, op := Op.fieldAddr _ (Operand.tmp 38) 0, type := _, pos := "translate.go:122", after := #[{ on := 1, ground := Ground.data }], guard := none }) (v := .pointer (some ⟨w1.heap.size, 0, none⟩)) rfl (by kernel_rfl) (by kernel_rfl) (by kernel_rfl) (fun _ _ _ h => h) (Or.inl ⟨by rfl, ?_⟩) hHeld ?_
        · intro w' hSw
          have y0 := (hSw.cell (p := ⟨bi, oi + k * 4, none⟩) lbi).trans y0
          have y1 := (hSw.cell (p := ⟨bi, oi + k * 4 + 1, none⟩) lbi).trans y1
          have y2 := (hSw.cell (p := ⟨bi, oi + k * 4 + 2, none⟩) lbi).trans y2
          have y3 := (hSw.cell (p := ⟨bi, oi + k * 4 + 3, none⟩) lbi).trans y3
          have u0 := (hSw.cell (p := ⟨ba, oa + k, none⟩) lba).trans u0
          have g0 := (hSw.cell (p := ⟨w.heap.size, 0, none⟩) lw1).trans g0
          have g1 := (hSw.cell (p := ⟨w.heap.size, 1, none⟩) lw1).trans g1
          go_simp
        try simp only [Act.put, List.setIfInBounds_toArray, List.set_cons_zero, List.set_cons_succ]
        refine wpAnyH_take (i := 3) (oi := { dst := some 40, op := Op.fieldAddr _ (Operand.tmp 2) 0, type := _, pos := "translate.go:122", after := #[], guard := none }) (v := .pointer (some ⟨w.heap.size, 0, none⟩)) rfl (by kernel_rfl) (by kernel_rfl) (by kernel_rfl) (fun _ _ _ h => h) (Or.inl ⟨by rfl, ?_⟩) hHeld ?_
        · intro w' hSw
          have y0 := (hSw.cell (p := ⟨bi, oi + k * 4, none⟩) lbi).trans y0
          have y1 := (hSw.cell (p := ⟨bi, oi + k * 4 + 1, none⟩) lbi).trans y1
          have y2 := (hSw.cell (p := ⟨bi, oi + k * 4 + 2, none⟩) lbi).trans y2
          have y3 := (hSw.cell (p := ⟨bi, oi + k * 4 + 3, none⟩) lbi).trans y3
          have u0 := (hSw.cell (p := ⟨ba, oa + k, none⟩) lba).trans u0
          have g0 := (hSw.cell (p := ⟨w.heap.size, 0, none⟩) lw1).trans g0
          have g1 := (hSw.cell (p := ⟨w.heap.size, 1, none⟩) lw1).trans g1
          go_simp
        try simp only [Act.put, List.setIfInBounds_toArray, List.set_cons_zero, List.set_cons_succ]
        refine wpAnyH_take (i := 4) (oi := { dst := some 41, op := Op.load _ (Operand.tmp 40), type := _, pos := "translate.go:122", after := #[{ on := 3, ground := Ground.data }], guard := none }) (v := .slice (some ⟨bi, oi, none⟩) n b.ci) rfl (by kernel_rfl) (by kernel_rfl) (by kernel_rfl) (fun _ _ _ h => h) (Or.inl ⟨by rfl, ?_⟩) hHeld ?_
        · intro w' hSw
          have y0 := (hSw.cell (p := ⟨bi, oi + k * 4, none⟩) lbi).trans y0
          have y1 := (hSw.cell (p := ⟨bi, oi + k * 4 + 1, none⟩) lbi).trans y1
          have y2 := (hSw.cell (p := ⟨bi, oi + k * 4 + 2, none⟩) lbi).trans y2
          have y3 := (hSw.cell (p := ⟨bi, oi + k * 4 + 3, none⟩) lbi).trans y3
          have u0 := (hSw.cell (p := ⟨ba, oa + k, none⟩) lba).trans u0
          have g0 := (hSw.cell (p := ⟨w.heap.size, 0, none⟩) lw1).trans g0
          have g1 := (hSw.cell (p := ⟨w.heap.size, 1, none⟩) lw1).trans g1
          go_simp
        try simp only [Act.put, List.setIfInBounds_toArray, List.set_cons_zero, List.set_cons_succ]
        refine wpAnyH_take (i := 5) (oi := { dst := some 42, op := Op.move (Operand.tmp 8), type := _, pos := "translate.go:122", after := #[], guard := none }) (v := .int .i64 (k : Int)) rfl (by kernel_rfl) (by kernel_rfl) (by kernel_rfl) (fun _ _ _ h => h) (Or.inl ⟨by rfl, ?_⟩) hHeld ?_
        · intro w' hSw
          have y0 := (hSw.cell (p := ⟨bi, oi + k * 4, none⟩) lbi).trans y0
          have y1 := (hSw.cell (p := ⟨bi, oi + k * 4 + 1, none⟩) lbi).trans y1
          have y2 := (hSw.cell (p := ⟨bi, oi + k * 4 + 2, none⟩) lbi).trans y2
          have y3 := (hSw.cell (p := ⟨bi, oi + k * 4 + 3, none⟩) lbi).trans y3
          have u0 := (hSw.cell (p := ⟨ba, oa + k, none⟩) lba).trans u0
          have g0 := (hSw.cell (p := ⟨w.heap.size, 0, none⟩) lw1).trans g0
          have g1 := (hSw.cell (p := ⟨w.heap.size, 1, none⟩) lw1).trans g1
          go_simp
        try simp only [Act.put, List.setIfInBounds_toArray, List.set_cons_zero, List.set_cons_succ]
        refine wpAnyH_take (i := 6) (oi := { dst := some 43, op := Op.indexAddr _ (Operand.tmp 41) (Operand.tmp 42), type := _, pos := "translate.go:122", after := #[{ on := 4, ground := Ground.data }, { on := 5, ground := Ground.data }], guard := none }) (v := .pointer (some ⟨bi, oi + k * 4, none⟩)) rfl (by kernel_rfl) (by kernel_rfl) (by kernel_rfl) (fun _ _ _ h => h) (Or.inl ⟨by rfl, ?_⟩) hHeld ?_
        · intro w' hSw
          have y0 := (hSw.cell (p := ⟨bi, oi + k * 4, none⟩) lbi).trans y0
          have y1 := (hSw.cell (p := ⟨bi, oi + k * 4 + 1, none⟩) lbi).trans y1
          have y2 := (hSw.cell (p := ⟨bi, oi + k * 4 + 2, none⟩) lbi).trans y2
          have y3 := (hSw.cell (p := ⟨bi, oi + k * 4 + 3, none⟩) lbi).trans y3
          have u0 := (hSw.cell (p := ⟨ba, oa + k, none⟩) lba).trans u0
          have g0 := (hSw.cell (p := ⟨w.heap.size, 0, none⟩) lw1).trans g0
          have g1 := (hSw.cell (p := ⟨w.heap.size, 1, none⟩) lw1).trans g1
          go_simp
        try simp only [Act.put, List.setIfInBounds_toArray, List.set_cons_zero, List.set_cons_succ]
        refine wpAnyH_take (i := 7) (oi := { dst := some 44, op := Op.load _ (Operand.tmp 43), type := _, pos := "translate.go:122", after := #[{ on := 6, ground := Ground.data }], guard := none }) (v := .agg #[.int .u8 ro, .int .u8 ra, .int .u8 rb, .int .i32 ri]) rfl (by kernel_rfl) (by kernel_rfl) (by kernel_rfl) (fun _ _ _ h => h) (Or.inl ⟨by rfl, ?_⟩) hHeld ?_
        · intro w' hSw
          have y0 := (hSw.cell (p := ⟨bi, oi + k * 4, none⟩) lbi).trans y0
          have y1 := (hSw.cell (p := ⟨bi, oi + k * 4 + 1, none⟩) lbi).trans y1
          have y2 := (hSw.cell (p := ⟨bi, oi + k * 4 + 2, none⟩) lbi).trans y2
          have y3 := (hSw.cell (p := ⟨bi, oi + k * 4 + 3, none⟩) lbi).trans y3
          have u0 := (hSw.cell (p := ⟨ba, oa + k, none⟩) lba).trans u0
          have g0 := (hSw.cell (p := ⟨w.heap.size, 0, none⟩) lw1).trans g0
          have g1 := (hSw.cell (p := ⟨w.heap.size, 1, none⟩) lw1).trans g1
          go_simp
        try simp only [Act.put, List.setIfInBounds_toArray, List.set_cons_zero, List.set_cons_succ]
        refine wpAnyH_take (i := 8) (oi := { dst := some 45, op := Op.fieldAddr _ (Operand.tmp 2) 1, type := _, pos := "translate.go:122", after := #[], guard := none }) (v := .pointer (some ⟨w.heap.size, 1, none⟩)) rfl (by kernel_rfl) (by kernel_rfl) (by kernel_rfl) (fun _ _ _ h => h) (Or.inl ⟨by rfl, ?_⟩) hHeld ?_
        · intro w' hSw
          have y0 := (hSw.cell (p := ⟨bi, oi + k * 4, none⟩) lbi).trans y0
          have y1 := (hSw.cell (p := ⟨bi, oi + k * 4 + 1, none⟩) lbi).trans y1
          have y2 := (hSw.cell (p := ⟨bi, oi + k * 4 + 2, none⟩) lbi).trans y2
          have y3 := (hSw.cell (p := ⟨bi, oi + k * 4 + 3, none⟩) lbi).trans y3
          have u0 := (hSw.cell (p := ⟨ba, oa + k, none⟩) lba).trans u0
          have g0 := (hSw.cell (p := ⟨w.heap.size, 0, none⟩) lw1).trans g0
          have g1 := (hSw.cell (p := ⟨w.heap.size, 1, none⟩) lw1).trans g1
          go_simp
        try simp only [Act.put, List.setIfInBounds_toArray, List.set_cons_zero, List.set_cons_succ]
        refine wpAnyH_take (i := 9) (oi := { dst := some 46, op := Op.load _ (Operand.tmp 45), type := _, pos := "translate.go:122", after := #[{ on := 8, ground := Ground.data }], guard := none }) (v := .slice (some ⟨ba, oa, none⟩) n b.ca) rfl (by kernel_rfl) (by kernel_rfl) (by kernel_rfl) (fun _ _ _ h => h) (Or.inl ⟨by rfl, ?_⟩) hHeld ?_
        · intro w' hSw
          have y0 := (hSw.cell (p := ⟨bi, oi + k * 4, none⟩) lbi).trans y0
          have y1 := (hSw.cell (p := ⟨bi, oi + k * 4 + 1, none⟩) lbi).trans y1
          have y2 := (hSw.cell (p := ⟨bi, oi + k * 4 + 2, none⟩) lbi).trans y2
          have y3 := (hSw.cell (p := ⟨bi, oi + k * 4 + 3, none⟩) lbi).trans y3
          have u0 := (hSw.cell (p := ⟨ba, oa + k, none⟩) lba).trans u0
          have g0 := (hSw.cell (p := ⟨w.heap.size, 0, none⟩) lw1).trans g0
          have g1 := (hSw.cell (p := ⟨w.heap.size, 1, none⟩) lw1).trans g1
          go_simp
        try simp only [Act.put, List.setIfInBounds_toArray, List.set_cons_zero, List.set_cons_succ]
        refine wpAnyH_take (i := 10) (oi := { dst := some 47, op := Op.move (Operand.tmp 8), type := _, pos := "translate.go:122", after := #[], guard := none }) (v := .int .i64 (k : Int)) rfl (by kernel_rfl) (by kernel_rfl) (by kernel_rfl) (fun _ _ _ h => h) (Or.inl ⟨by rfl, ?_⟩) hHeld ?_
        · intro w' hSw
          have y0 := (hSw.cell (p := ⟨bi, oi + k * 4, none⟩) lbi).trans y0
          have y1 := (hSw.cell (p := ⟨bi, oi + k * 4 + 1, none⟩) lbi).trans y1
          have y2 := (hSw.cell (p := ⟨bi, oi + k * 4 + 2, none⟩) lbi).trans y2
          have y3 := (hSw.cell (p := ⟨bi, oi + k * 4 + 3, none⟩) lbi).trans y3
          have u0 := (hSw.cell (p := ⟨ba, oa + k, none⟩) lba).trans u0
          have g0 := (hSw.cell (p := ⟨w.heap.size, 0, none⟩) lw1).trans g0
          have g1 := (hSw.cell (p := ⟨w.heap.size, 1, none⟩) lw1).trans g1
          go_simp
        try simp only [Act.put, List.setIfInBounds_toArray, List.set_cons_zero, List.set_cons_succ]
        refine wpAnyH_take (i := 11) (oi := { dst := some 48, op := Op.indexAddr _ (Operand.tmp 46) (Operand.tmp 47), type := _, pos := "translate.go:122", after := #[{ on := 9, ground := Ground.data }, { on := 10, ground := Ground.data }], guard := none }) (v := .pointer (some ⟨ba, oa + k, none⟩)) rfl (by kernel_rfl) (by kernel_rfl) (by kernel_rfl) (fun _ _ _ h => h) (Or.inl ⟨by rfl, ?_⟩) hHeld ?_
        · intro w' hSw
          have y0 := (hSw.cell (p := ⟨bi, oi + k * 4, none⟩) lbi).trans y0
          have y1 := (hSw.cell (p := ⟨bi, oi + k * 4 + 1, none⟩) lbi).trans y1
          have y2 := (hSw.cell (p := ⟨bi, oi + k * 4 + 2, none⟩) lbi).trans y2
          have y3 := (hSw.cell (p := ⟨bi, oi + k * 4 + 3, none⟩) lbi).trans y3
          have u0 := (hSw.cell (p := ⟨ba, oa + k, none⟩) lba).trans u0
          have g0 := (hSw.cell (p := ⟨w.heap.size, 0, none⟩) lw1).trans g0
          have g1 := (hSw.cell (p := ⟨w.heap.size, 1, none⟩) lw1).trans g1
          go_simp
        try simp only [Act.put, List.setIfInBounds_toArray, List.set_cons_zero, List.set_cons_succ]
        refine wpAnyH_take (i := 12) (oi := { dst := some 49, op := Op.load _ (Operand.tmp 48), type := _, pos := "translate.go:122", after := #[{ on := 11, ground := Ground.data }], guard := none }) (v := .int .u32 at1) rfl (by kernel_rfl) (by kernel_rfl) (by kernel_rfl) (fun _ _ _ h => h) (Or.inl ⟨by rfl, ?_⟩) hHeld ?_
        · intro w' hSw
          have y0 := (hSw.cell (p := ⟨bi, oi + k * 4, none⟩) lbi).trans y0
          have y1 := (hSw.cell (p := ⟨bi, oi + k * 4 + 1, none⟩) lbi).trans y1
          have y2 := (hSw.cell (p := ⟨bi, oi + k * 4 + 2, none⟩) lbi).trans y2
          have y3 := (hSw.cell (p := ⟨bi, oi + k * 4 + 3, none⟩) lbi).trans y3
          have u0 := (hSw.cell (p := ⟨ba, oa + k, none⟩) lba).trans u0
          have g0 := (hSw.cell (p := ⟨w.heap.size, 0, none⟩) lw1).trans g0
          have g1 := (hSw.cell (p := ⟨w.heap.size, 1, none⟩) lw1).trans g1
          go_simp
        try simp only [Act.put, List.setIfInBounds_toArray, List.set_cons_zero, List.set_cons_succ]
        refine wpAnyH_take (i := 13) (oi := { dst := some 50, op := Op.move (Operand.tmp 8), type := _, pos := "translate.go:122", after := #[], guard := none }) (v := .int .i64 (k : Int)) rfl (by kernel_rfl) (by kernel_rfl) (by kernel_rfl) (fun _ _ _ h => h) (Or.inl ⟨by rfl, ?_⟩) hHeld ?_
        · intro w' hSw
          have y0 := (hSw.cell (p := ⟨bi, oi + k * 4, none⟩) lbi).trans y0
          have y1 := (hSw.cell (p := ⟨bi, oi + k * 4 + 1, none⟩) lbi).trans y1
          have y2 := (hSw.cell (p := ⟨bi, oi + k * 4 + 2, none⟩) lbi).trans y2
          have y3 := (hSw.cell (p := ⟨bi, oi + k * 4 + 3, none⟩) lbi).trans y3
          have u0 := (hSw.cell (p := ⟨ba, oa + k, none⟩) lba).trans u0
          have g0 := (hSw.cell (p := ⟨w.heap.size, 0, none⟩) lw1).trans g0
          have g1 := (hSw.cell (p := ⟨w.heap.size, 1, none⟩) lw1).trans g1
          go_simp
        try simp only [Act.put, List.setIfInBounds_toArray, List.set_cons_zero, List.set_cons_succ]
        refine wpAnyH_ready (rs := [14]) (by kernel_rfl) (by simp) ?_
        refine AllReadyH.cons (o := { dst := some 51, op := Op.call { callee := Callee.value (Operand.func _), args := #[Operand.tmp 39, Operand.tmp 44, Operand.tmp 49, Operand.tmp 50], argTypes := _ }, type := _, pos := "translate.go:122", after := #[{ on := 2, ground := Ground.data }, { on := 7, ground := Ground.data }, { on := 12, ground := Ground.data }, { on := 13, ground := Ground.data }], guard := none }) rfl (fun K hK => ?_) AllReadyH.nil
        go_simp
        go_at_call 26
        refine (lay_is w1.heap.size w1.heap.size b (bodyL b k) first ro ra rb ri at1 (k : Int) _ q0 q1 q2 q3 q4 q5 q6 q7 hmy (by obtain ⟨vB, vR, h⟩ := HW.out; exact ⟨vB, vR, h.drew⟩) (by simp; omega) (by rw [bodyL_len]; omega)).mono ?_
        rintro e w3 ⟨rfl, h3, hb3⟩
        refine hK.out _ _ (hHeld.trans hb3) (fun hHeld => ?_)
        clear hK K
        try simp only [Act.put, List.setIfInBounds_toArray, List.set_cons_zero, List.set_cons_succ]
        refine wpAnyH_done (by kernel_rfl) ?_ _
        go_wp2_with fail
        go_roundg (gk - 1)
        case measure => omega
        case rel => exact ⟨k + 1, by omega, by go_num, Lib.hid (by rw [bodyL_snoc, HBD.out]; exact h3), Lib.hid hHeld, by have := hb3.size; simp at this; omega⟩
      · have i1 : ¬ (k : Int) < (n : Int) - 1 := by omega
        have hkn : k = nb := by omega
        subst hkn
        have hIr : InssIn wr b.ai b.ins := inss_below (HB1.out.trans (HBr.out.mono (by omega))) HI.out
        have hAr : AtsIn wr b.aa b.ats := ats_below (HB1.out.trans (HBr.out.mono (by omega))) HA.out
        have HE := Lib.hid (end_c w1.heap.size w1.heap.size b (bodyL b k) first wr HW.out (by omega) (by rw [bodyL_len]; omega) f0 (by omega) HMb.out hIr hAr HNx.out.1 HNx.out.2)
        have hit : bodyL b k ++ endIt b b.ins.length (b.ins.getD (b.ins.length - 1) zI) (b.ats.getD (b.ins.length - 1) 0) first = itemsOf b first := by unfold itemsOf; rw [HNB.out]
        rw [hit] at HE
        clear hIr hAr hit k0 k1 k2 k3 k4 k5 k6
        go_wp2_with fail
        refine HE.out.mono ?_
        rintro e w4 ⟨rfl, ⟨nx', vB, vR, hF⟩, hb4⟩
        obtain ⟨aB, cB, rfl⟩ := own_slice hF.bs
        obtain ⟨aR, cR, rfl⟩ := own_slice hF.rs
        have t0 : w4.cell? ⟨w1.heap.size, 0, none⟩ = _ := hF.cell 0
        have t1 : w4.cell? ⟨w1.heap.size, 1, none⟩ = _ := hF.cell 1
        simp [WkCells] at t0 t1
        have hX4 : w4.heap[w.heap.size + 1]? = _ := (hb4.block _ (by omega)).trans ((HBr.out.block _ (by omega)).trans HX1.out)
        have v0 : w4.cell? ⟨w.heap.size + 1, 0, none⟩ = some (.slice none 0 0) := cell_of_row _ _ 0 _ _ _ hX4
        have v1 : w4.cell? ⟨w.heap.size + 1, 1, none⟩ = some (.slice none 0 0) := cell_of_row _ _ 1 _ _ _ hX4
        have z0 : w4.frozen? ⟨w.heap.size + 1, 0, none⟩ = false := frozen_of_row _ _ 0 _ _ hX4
        have z1 : w4.frozen? ⟨w.heap.size + 1, 1, none⟩ = false := frozen_of_row _ _ 1 _ _ hX4
        have lw4 : w.heap.size + 1 < w4.heap.size := heap_lt hX4
        have hBz : Below w.heap.size w w4 := HB1.out.trans ((HBr.out.trans hb4).mono (by omega))
        have hO1 := hF.bs
        have hO2 := hF.rs
        clear hF
        go_wp2_with fail
        refine bodyPost_ret (v := .tuple #[.agg #[.slice aB (encAll (itemsOf b first)).length cB, .slice aR (rowsAt (itemsOf b first) 0).length cR], .int .i64 0]) ?_ rfl ⟨(hBz.setCell (by simp) _).setCell (by simp) _, fun h => (by rw [HMb.out] at h; cases h), fun _ => ⟨aB, cB, aR, cR, rfl, Isa.ownsRow_mono (own_low_set (own_low_set hO1 (by omega)) (by omega)) (by omega), Isa.ownsRow_mono (own_low_set (own_low_set hO2 (by omega)) (by omega)) (by omega)⟩⟩
        simp [results, Try.results18, go_sem, v0, v1, z0, z1, lw4]
end Go.Proofs.Ytnmgfckefofcpaa
