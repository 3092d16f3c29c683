/- The walk of RowsMade. (Written by mkMI.py.) -/
import Derived.Test.YtnmgfckefofcpaaMadH
import Derived.Test.YtnmgfckefofcpaaRowD
import Derived.Test.YtnmgfckefofcpaaRowE
namespace Go.Proofs.Ytnmgfckefofcpaa
open Go.RowKit
set_option linter.unusedSimpArgs false
set_option linter.unusedVariables false
set_option maxRecDepth 100000

theorem own_bytesM {w : World} {base e n cap : Nat} {a : Option Addr} {L : List Int} (hn : n = L.length) (h : w.ownsRow base e 1 (.slice a n cap) n (L.map (Value.int .u8))) (hb : ∀ x ∈ L, 0 ≤ x ∧ x < 256) : ByteArg w a n cap L := by
  have hml : maxLen = 9223372036854775807 := rfl
  obtain ⟨h1, ⟨h2, h3⟩ | ⟨g, cp, cur, h2, h3, h4, h5, h6, h7⟩⟩ := h
  · simp at h2
    obtain ⟨rfl, rfl, rfl⟩ := h2
    have : L = [] := by cases L with
      | nil => rfl
      | cons x l => simp at hn
    subst this
    exact ⟨rfl, Nat.le_refl _, by omega, fun x hx => (by cases hx), .inl rfl⟩
  · simp at h2
    obtain ⟨rfl, rfl⟩ := h2
    refine ⟨hn.symm, h5, by omega, hb, .inr ⟨g, 0, rfl, fun i hi => ?_⟩⟩
    have ho : w.ownsRow base e 1 (.slice (some ⟨g, 0, none⟩) n cap) n (L.map (Value.int .u8)) := ⟨h1, .inr ⟨g, cap, cur, rfl, h3, h4, h5, h6, h7⟩⟩
    rw [Nat.zero_add, ho.cellAt i (by omega), List.getElem?_map, List.getElem?_eq_getElem hi]
    simp [List.getD, List.getElem?_eq_getElem hi]

theorem ne_row (a b c d : Int) (w : World) : (binOp .neq 27 (.agg #[.int .i64 a, .int .u32 b, .int .i64 c, .int .i64 d]) (.agg #[.int .i64 a, .int .u32 b, .int .i64 c, .int .i64 d])).run Try.prog w = .ok (.bool false) w := by
  go_simp

set_option maxHeartbeats 8000000 in
theorem made_walk (b : BlkR) (first : Int) (wf : (Lit.int .u8 first).wf = true) (w : World) (hb : b.Ok w) :
    Calls Try.prog 6 #[.agg b.cells, .int .u8 first] w fun e w' => e = .returned (.bool true) ∧ Below w.heap.size w w' := by
  obtain ⟨f0, f1⟩ := bd_u8 wf
  have HW := Lib.hid works_c
  have hv := hb.vf
  have hv2 := hb.vt
  obtain ⟨a5, l5, c5, hvf⟩ := hv
  obtain ⟨a6, l6, c6, hvt⟩ := hv2
  have hok : ∀ w1, Below w.heap.size w w1 → b.Ok w1 := fun w1 h => ⟨hb.li, hb.ci, inss_below h hb.inss, hb.la, hb.ca, hb.atb, ats_below h hb.atsIn, hb.nx0, hb.nx1, hb.to0, hb.to1, hb.vf, hb.vt⟩
  have hC : b.cells = #[.slice b.ai b.ins.length b.ci, .slice b.aa b.ats.length b.ca, .int .u32 b.nx, .int .u32 b.to, .int .i64 b.en, .slice a5 l5 c5, .slice a6 l6 c6] := by unfold BlkR.cells; rw [hvf, hvt]
  have hwr : IntKind.i64.wrap first = first := IntWalk.i64_in _ ⟨by omega, by omega⟩
  cases hM : mayBlk b
  · have HT := Lib.hid fun (w1 : World) (h : Below w.heap.size w w1) => trans_no b first w1 (hok w1 h) hM f0 f1
    have HRt := Lib.hid fun (w1 : World) => right_c none 0 0 [] none 0 0 [] w1 ⟨rfl, Nat.le_refl _, by omega, fun x hx => (by cases hx), .inl rfl⟩ rfl (by omega) (.inl rfl)
    rw [show rightF [] [] 0 = true from rfl] at HRt
    have HM := Lib.hid hM
    obtain ⟨cs, hcs⟩ : ∃ cs, b.cells = cs := ⟨_, rfl⟩
    rw [hcs] at HT hC ⊢
    subst hC
    clear hb hM hok hvf hvt hcs
    go_enter Try.func6, Try.ntmps6
    go_wp2_with fail
    refine (HT.out _ (below_alloc1 _ _)).mono ?_
    rintro e w1 ⟨hb1, hno, -⟩
    obtain rfl := hno HM.out
    have hB1 := below_box hb1
    clear hb1 hno
    go_wp2_with fail
    refine (HRt.out _).mono ?_
    rintro e w2 ⟨rfl, hb2⟩
    have hB2 := below_box2 hB1 hb2
    clear hb2
    go_wp2_with fail
    refine (HW.out _).mono ?_
    rintro e w3 ⟨rfl, hb3⟩
    have hB3 := below_next hB2 hb3
    go_wp2_with fail
    go_ret
    exact ⟨rfl, hB3⟩
  · have HT := Lib.hid fun (w1 : World) (h : Below w.heap.size w w1) => trans_yes b first w1 (hok w1 h) hM f0 f1
    have hits := items_ok hM hb.nx0 hb.nx1 f0 (x1 := by omega) (x := first)
    obtain ⟨ye, hye, hy0⟩ := items_exit (b := b) f0
    obtain ⟨oe, hoe⟩ := rowsAt_mem _ 0 _ hye
    have hex := exits_some ⟨_, hoe, hy0⟩
    have hil := items_len b first (mayBlk_n hM).2.1
    have HM := Lib.hid hM
    obtain ⟨its, hi⟩ : ∃ its, itemsOf b first = its := ⟨_, rfl⟩
    unfold TransPost at HT
    rw [hi] at hits hex hil HT
    have hel := encAll_len its
    have hri := right_made its [] hits
    simp only [List.nil_append, List.length_nil] at hri
    have HBt := Lib.hid (encAll_bytes hits)
    have HRi := Lib.hid hri
    have HEx := Lib.hid hex
    have hnr := rowsAt_len its 0
    have HFN := Lib.hid (find_next its)
    have HMo := Lib.hid (rows_mono its)
    have HS0 := Lib.hid (cut_start its)
    have HSe := Lib.hid (fun n => cut_end its (n := n))
    obtain ⟨R, hR⟩ : ∃ R, rowsAt its 0 = R := ⟨_, rfl⟩
    obtain ⟨B, hB⟩ : ∃ B, encAll its = B := ⟨_, rfl⟩
    rw [hR, hB] at HT HRi
    rw [hR] at HEx hnr HFN HMo HS0 HSe
    rw [hB] at HBt hel HSe
    rw [← hnr] at hil hel HFN HMo HSe
    have HRt := Lib.hid fun (w1 : World) (aB : Option Addr) (cB : Nat) (aR : Option Addr) (cR : Nat) (h1 : ByteArg w1 aB B.length cB B) (h2 : RowsIn w1 aR R) => right_c aB B.length cB B aR R.length cR R w1 h1 rfl (by omega) h2
    rw [HRi.out] at HRt
    have HX := Lib.hid fun (w1 : World) (aR : Option Addr) (cR : Nat) (h2 : RowsIn w1 aR R) => exits_c aR R.length cR R w1 rfl (by omega) (by omega) h2
    have HFd := Lib.hid fun (off : Int) (w1 : World) (aR : Option Addr) (cR : Nat) (h2 : RowsIn w1 aR R) => find_c R aR R.length cR off w1 rfl (by omega) h2 (HMo.out off)
    obtain ⟨cs, hcs⟩ : ∃ cs, b.cells = cs := ⟨_, rfl⟩
    rw [hcs] at HT hC ⊢
    subst hC
    clear hb hM hok hvf hvt hcs hits hye hy0 hoe hex hri hi HRi HMo hnr
    go_enter Try.func6, Try.ntmps6
    go_wp2_with fail
    refine (HT.out _ (below_alloc1 _ _)).mono ?_
    rintro e w1 ⟨hb1, -, hyes⟩
    obtain ⟨aB, cB, aR, cR, rfl, hO1, hO2⟩ := hyes HM.out
    have hBA := own_bytesM rfl hO1 HBt.out
    obtain ⟨aR', cR', hv, hRI⟩ := own_rows hO2
    simp at hv
    obtain ⟨rfl, rfl⟩ := hv
    have hB1 := below_box hb1
    have hs1 : w.heap.size < w1.heap.size := by have := hb1.size; simp at this; omega
    have HBA := Lib.hid fun (w2 : World) (h : Below w1.heap.size w1 w2) => (show ByteArg w2 aB B.length cB B from ⟨hBA.1, hBA.2.1, hBA.2.2.1, hBA.2.2.2.1, bytes_below' h hBA.2.2.2.2⟩)
    have HRI := Lib.hid fun (w2 : World) (h : Below w1.heap.size w1 w2) => rows_below h hRI
    have HB1 := Lib.hid hB1
    clear hO1 hO2 hBA hRI hb1 hyes hB1
    go_wp2_with fail
    go_loopg [7, 8] (B.length + 2) (fun gk v7 v8 wr => ∃ j m : Nat, gk + j = B.length + 2 ∧ v8 = .int .i64 ((j : Int) - 1) ∧ v7 = .int .i64 (m : Int) ∧ Hid (Cut R ((j : Int) - 1 - 1) m) ∧ m ≤ 1000 ∧ Hid (wr.heap[w1.heap.size]? = some (.cells #[.slice aB B.length cB, .slice aR R.length cR] 36 (0, 0))) ∧ Hid (Below w1.heap.size w1 wr) ∧ w1.heap.size < wr.heap.size)
    case atStart => exact ⟨0, 0, rfl, by simp, rfl, Lib.hid (by simpa using HS0.out), by omega, Lib.hid (heap_new' rfl), Lib.hid (below_alloc1 _ _), by simp⟩
    case round =>
      obtain ⟨j, m, hj, rfl, rfl, HC, hm, HX5, HBr, hs⟩ := hrel
      have k0 : wr.cell? ⟨w1.heap.size, 0, none⟩ = some (.slice aB B.length cB) := cell_of_row _ _ 0 _ _ _ HX5.out
      have k1 : wr.cell? ⟨w1.heap.size, 1, none⟩ = some (.slice aR R.length cR) := cell_of_row _ _ 1 _ _ _ HX5.out
      by_cases c1 : j < B.length + 2
      · have i1 : (j : Int) - 1 ≤ (B.length : Int) := by omega
        have HF := Lib.hid (HFd.out ((j : Int) - 1) wr aR cR (HRI.out wr HBr.out))
        go_wp2_with fail
        refine HF.out.mono ?_
        rintro e w2 ⟨k, hck, rfl, hb2⟩
        have hnx := HFN.out ((j : Int) - 1) m k HC.out hck
        have HC2 := Lib.hid hck
        have HX2 := Lib.hid ((hb2.block _ hs).trans HX5.out)
        have HB2 := Lib.hid (HBr.out.trans (hb2.mono (by omega)))
        have hs2 : w1.heap.size < w2.heap.size := Nat.lt_of_lt_of_le hs hb2.size
        have q0 : w2.cell? ⟨w1.heap.size, 0, none⟩ = some (.slice aB B.length cB) := cell_of_row _ _ 0 _ _ _ HX2.out
        have q1 : w2.cell? ⟨w1.heap.size, 1, none⟩ = some (.slice aR R.length cR) := cell_of_row _ _ 1 _ _ _ HX2.out
        have hwj : IntKind.i64.wrap ((j : Int) - 1 + 1) = (j : Int) := by rw [Int.sub_add_cancel]; exact IntWalk.i64_in _ ⟨by omega, by omega⟩
        clear hck hb2 HF k0 k1
        rcases hnx with ⟨hmn, hkm, hfd⟩ | ⟨hkm, hfd⟩
        · rw [hfd]
          obtain ⟨r, hr⟩ : ∃ r, R[m]? = some r := ⟨_, List.getElem?_eq_getElem hmn⟩
          rw [show R.getD m ⟨0, 0, 0, 0⟩ = r by rw [List.getD, hr]; rfl]
          obtain ⟨blk, o, rfl, hbl, y0, y1, y2, y3⟩ : ∃ blk o, aR = some ⟨blk, o, none⟩ ∧ blk < w2.heap.size ∧ w2.cell? ⟨blk, o + m * 4, none⟩ = some (.int .i64 r.off) ∧ w2.cell? ⟨blk, o + m * 4 + 1, none⟩ = some (.int .u32 r.pc) ∧ w2.cell? ⟨blk, o + m * 4 + 2, none⟩ = some (.int .i64 r.done) ∧ w2.cell? ⟨blk, o + m * 4 + 3, none⟩ = some (.int .i64 r.exit) := by
            rcases HRI.out w2 HB2.out with h | ⟨blk, o, h1, h2⟩
            · rw [h] at hr; cases hr
            · have h3 := h2 m r hr
              exact ⟨blk, o, h1, World.block_lt_of_cell? w2 _ h3.1, h3⟩
          obtain ⟨ro, rp, rd, re⟩ := r
          unfold RowR.val
          simp only at y0 y1 y2 y3 ⊢
          have i2 : (m : Int) < (R.length : Int) := by omega
          have hwm : IntKind.i64.wrap ((m : Int) + 1) = (m : Int) + 1 := IntWalk.i64_in _ ⟨by omega, by omega⟩
          clear hr hfd
          go_wp2_with fail
          obtain ⟨w3, hw3⟩ : ∃ x, x = w2.alloc (.cells #[.int .i64 ro, .int .u32 rp, .int .i64 rd, .int .i64 re] 27) := ⟨_, rfl⟩
          rw [← hw3]
          have hB3 : Below w2.heap.size w2 w3 := by rw [hw3]; exact below_alloc1 _ _
          have hX3 : w3.heap[w2.heap.size]? = some (.cells #[.int .i64 ro, .int .u32 rp, .int .i64 rd, .int .i64 re] 27 (0, 0)) := by rw [hw3]; exact heap_new' rfl
          have lw3 : w2.heap.size < w3.heap.size := heap_lt hX3
          have g0 : w3.cell? ⟨w1.heap.size, 1, none⟩ = _ := (hB3.cell (p := ⟨w1.heap.size, 1, none⟩) hs2).trans q1
          have y0 := (hB3.cell (p := ⟨blk, o + m * 4, none⟩) hbl).trans y0
          have y1 := (hB3.cell (p := ⟨blk, o + m * 4 + 1, none⟩) hbl).trans y1
          have y2 := (hB3.cell (p := ⟨blk, o + m * 4 + 2, none⟩) hbl).trans y2
          have y3 := (hB3.cell (p := ⟨blk, o + m * 4 + 3, none⟩) hbl).trans y3
          have x0 : w3.cell? ⟨w2.heap.size, 0, none⟩ = _ := cell_of_row _ _ 0 _ _ _ hX3
          have x1 : w3.cell? ⟨w2.heap.size, 1, none⟩ = _ := cell_of_row _ _ 1 _ _ _ hX3
          have x2 : w3.cell? ⟨w2.heap.size, 2, none⟩ = _ := cell_of_row _ _ 2 _ _ _ hX3
          have x3 : w3.cell? ⟨w2.heap.size, 3, none⟩ = _ := cell_of_row _ _ 3 _ _ _ hX3
          simp at x0 x1 x2 x3 g0
          have lb3 : blk < w3.heap.size := by omega
          have l13 : w1.heap.size < w3.heap.size := by omega
          have HX3 := Lib.hid ((hB3.block _ hs2).trans HX2.out)
          have HB3 := Lib.hid (HB2.out.trans (hB3.mono (by omega)))
          have hne := ne_row ro rp rd re
          clear hw3 hB3 hX3 q0 q1
          refine wp_region_held_drew (S := fun w' => Below w3.heap.size w3 w') (by kernel_rfl) (Below.refl _ _).drew (fun hHeld => ?_)
          refine wpAnyH_take (i := 0) (oi := { dst := some 40, op := Op.load _ (Operand.tmp 9), type := _, pos := "law.go:65", after := #[], guard := none }) (v := .agg #[.int .i64 ro, .int .u32 rp, .int .i64 rd, .int .i64 re]) rfl (by kernel_rfl) (by kernel_rfl) (by kernel_rfl) (fun _ _ _ h => h) (Or.inl ⟨by rfl, ?_⟩) hHeld ?_
          · intro w' hSw
            have y0 := (hSw.cell (p := ⟨blk, o + m * 4, none⟩) lb3).trans y0
            have y1 := (hSw.cell (p := ⟨blk, o + m * 4 + 1, none⟩) lb3).trans y1
            have y2 := (hSw.cell (p := ⟨blk, o + m * 4 + 2, none⟩) lb3).trans y2
            have y3 := (hSw.cell (p := ⟨blk, o + m * 4 + 3, none⟩) lb3).trans y3
            have x0 := (hSw.cell (p := ⟨w2.heap.size, 0, none⟩) lw3).trans x0
            have x1 := (hSw.cell (p := ⟨w2.heap.size, 1, none⟩) lw3).trans x1
            have x2 := (hSw.cell (p := ⟨w2.heap.size, 2, none⟩) lw3).trans x2
            have x3 := (hSw.cell (p := ⟨w2.heap.size, 3, none⟩) lw3).trans x3
            have g0 := (hSw.cell (p := ⟨w1.heap.size, 1, none⟩) l13).trans g0
            go_simp
          try simp only [Act.put, List.setIfInBounds_toArray, List.set_cons_zero, List.set_cons_succ]
          refine wpAnyH_take (i := 1) (oi := { dst := some 41, op := Op.fieldAddr _ (Operand.tmp 5) 1, type := _, pos := "law.go:65", after := #[], guard := none }) (v := .pointer (some ⟨w1.heap.size, 1, none⟩)) rfl (by kernel_rfl) (by kernel_rfl) (by kernel_rfl) (fun _ _ _ h => h) (Or.inl ⟨by rfl, ?_⟩) hHeld ?_
          · intro w' hSw
            have y0 := (hSw.cell (p := ⟨blk, o + m * 4, none⟩) lb3).trans y0
            have y1 := (hSw.cell (p := ⟨blk, o + m * 4 + 1, none⟩) lb3).trans y1
            have y2 := (hSw.cell (p := ⟨blk, o + m * 4 + 2, none⟩) lb3).trans y2
            have y3 := (hSw.cell (p := ⟨blk, o + m * 4 + 3, none⟩) lb3).trans y3
            have x0 := (hSw.cell (p := ⟨w2.heap.size, 0, none⟩) lw3).trans x0
            have x1 := (hSw.cell (p := ⟨w2.heap.size, 1, none⟩) lw3).trans x1
            have x2 := (hSw.cell (p := ⟨w2.heap.size, 2, none⟩) lw3).trans x2
            have x3 := (hSw.cell (p := ⟨w2.heap.size, 3, none⟩) lw3).trans x3
            have g0 := (hSw.cell (p := ⟨w1.heap.size, 1, none⟩) l13).trans g0
            go_simp
          try simp only [Act.put, List.setIfInBounds_toArray, List.set_cons_zero, List.set_cons_succ]
          refine wpAnyH_take (i := 2) (oi := { dst := some 42, op := Op.load _ (Operand.tmp 41), type := _, pos := "law.go:65", after := #[{ on := 1, ground := Ground.data }], guard := none }) (v := .slice (some ⟨blk, o, none⟩) R.length cR) rfl (by kernel_rfl) (by kernel_rfl) (by kernel_rfl) (fun _ _ _ h => h) (Or.inl ⟨by rfl, ?_⟩) hHeld ?_
          · intro w' hSw
            have y0 := (hSw.cell (p := ⟨blk, o + m * 4, none⟩) lb3).trans y0
            have y1 := (hSw.cell (p := ⟨blk, o + m * 4 + 1, none⟩) lb3).trans y1
            have y2 := (hSw.cell (p := ⟨blk, o + m * 4 + 2, none⟩) lb3).trans y2
            have y3 := (hSw.cell (p := ⟨blk, o + m * 4 + 3, none⟩) lb3).trans y3
            have x0 := (hSw.cell (p := ⟨w2.heap.size, 0, none⟩) lw3).trans x0
            have x1 := (hSw.cell (p := ⟨w2.heap.size, 1, none⟩) lw3).trans x1
            have x2 := (hSw.cell (p := ⟨w2.heap.size, 2, none⟩) lw3).trans x2
            have x3 := (hSw.cell (p := ⟨w2.heap.size, 3, none⟩) lw3).trans x3
            have g0 := (hSw.cell (p := ⟨w1.heap.size, 1, none⟩) l13).trans g0
            go_simp
          try simp only [Act.put, List.setIfInBounds_toArray, List.set_cons_zero, List.set_cons_succ]
          refine wpAnyH_take (i := 3) (oi := { dst := some 43, op := Op.move (Operand.tmp 7), type := _, pos := "law.go:65", after := #[], guard := none }) (v := .int .i64 (m : Int)) rfl (by kernel_rfl) (by kernel_rfl) (by kernel_rfl) (fun _ _ _ h => h) (Or.inl ⟨by rfl, ?_⟩) hHeld ?_
          · intro w' hSw
            have y0 := (hSw.cell (p := ⟨blk, o + m * 4, none⟩) lb3).trans y0
            have y1 := (hSw.cell (p := ⟨blk, o + m * 4 + 1, none⟩) lb3).trans y1
            have y2 := (hSw.cell (p := ⟨blk, o + m * 4 + 2, none⟩) lb3).trans y2
            have y3 := (hSw.cell (p := ⟨blk, o + m * 4 + 3, none⟩) lb3).trans y3
            have x0 := (hSw.cell (p := ⟨w2.heap.size, 0, none⟩) lw3).trans x0
            have x1 := (hSw.cell (p := ⟨w2.heap.size, 1, none⟩) lw3).trans x1
            have x2 := (hSw.cell (p := ⟨w2.heap.size, 2, none⟩) lw3).trans x2
            have x3 := (hSw.cell (p := ⟨w2.heap.size, 3, none⟩) lw3).trans x3
            have g0 := (hSw.cell (p := ⟨w1.heap.size, 1, none⟩) l13).trans g0
            go_simp
          try simp only [Act.put, List.setIfInBounds_toArray, List.set_cons_zero, List.set_cons_succ]
          refine wpAnyH_take (i := 4) (oi := { dst := some 44, op := Op.indexAddr _ (Operand.tmp 42) (Operand.tmp 43), type := _, pos := "law.go:65", after := #[{ on := 2, ground := Ground.data }, { on := 3, ground := Ground.data }], guard := none }) (v := .pointer (some ⟨blk, o + m * 4, none⟩)) rfl (by kernel_rfl) (by kernel_rfl) (by kernel_rfl) (fun _ _ _ h => h) (Or.inl ⟨by rfl, ?_⟩) hHeld ?_
          · intro w' hSw
            have y0 := (hSw.cell (p := ⟨blk, o + m * 4, none⟩) lb3).trans y0
            have y1 := (hSw.cell (p := ⟨blk, o + m * 4 + 1, none⟩) lb3).trans y1
            have y2 := (hSw.cell (p := ⟨blk, o + m * 4 + 2, none⟩) lb3).trans y2
            have y3 := (hSw.cell (p := ⟨blk, o + m * 4 + 3, none⟩) lb3).trans y3
            have x0 := (hSw.cell (p := ⟨w2.heap.size, 0, none⟩) lw3).trans x0
            have x1 := (hSw.cell (p := ⟨w2.heap.size, 1, none⟩) lw3).trans x1
            have x2 := (hSw.cell (p := ⟨w2.heap.size, 2, none⟩) lw3).trans x2
            have x3 := (hSw.cell (p := ⟨w2.heap.size, 3, none⟩) lw3).trans x3
            have g0 := (hSw.cell (p := ⟨w1.heap.size, 1, none⟩) l13).trans g0
            go_simp
          try simp only [Act.put, List.setIfInBounds_toArray, List.set_cons_zero, List.set_cons_succ]
          refine wpAnyH_take (i := 5) (oi := { dst := some 45, op := Op.load _ (Operand.tmp 44), type := _, pos := "law.go:65", after := #[{ on := 4, ground := Ground.data }], guard := none }) (v := .agg #[.int .i64 ro, .int .u32 rp, .int .i64 rd, .int .i64 re]) rfl (by kernel_rfl) (by kernel_rfl) (by kernel_rfl) (fun _ _ _ h => h) (Or.inl ⟨by rfl, ?_⟩) hHeld ?_
          · intro w' hSw
            have y0 := (hSw.cell (p := ⟨blk, o + m * 4, none⟩) lb3).trans y0
            have y1 := (hSw.cell (p := ⟨blk, o + m * 4 + 1, none⟩) lb3).trans y1
            have y2 := (hSw.cell (p := ⟨blk, o + m * 4 + 2, none⟩) lb3).trans y2
            have y3 := (hSw.cell (p := ⟨blk, o + m * 4 + 3, none⟩) lb3).trans y3
            have x0 := (hSw.cell (p := ⟨w2.heap.size, 0, none⟩) lw3).trans x0
            have x1 := (hSw.cell (p := ⟨w2.heap.size, 1, none⟩) lw3).trans x1
            have x2 := (hSw.cell (p := ⟨w2.heap.size, 2, none⟩) lw3).trans x2
            have x3 := (hSw.cell (p := ⟨w2.heap.size, 3, none⟩) lw3).trans x3
            have g0 := (hSw.cell (p := ⟨w1.heap.size, 1, none⟩) l13).trans g0
            go_simp
          try simp only [Act.put, List.setIfInBounds_toArray, List.set_cons_zero, List.set_cons_succ]
          refine wpAnyH_take (i := 6) (oi := { dst := some 46, op := Op.binOp BinOp.neq _ (Operand.tmp 40) (Operand.tmp 45) _, type := _, pos := "law.go:65", after := #[{ on := 0, ground := Ground.data }, { on := 5, ground := Ground.data }], guard := none }) (v := .bool false) rfl (by kernel_rfl) (by kernel_rfl) (by kernel_rfl) (fun _ _ _ h => h) (Or.inl ⟨by rfl, ?_⟩) hHeld ?_
          · intro w' hSw
            have y0 := (hSw.cell (p := ⟨blk, o + m * 4, none⟩) lb3).trans y0
            have y1 := (hSw.cell (p := ⟨blk, o + m * 4 + 1, none⟩) lb3).trans y1
            have y2 := (hSw.cell (p := ⟨blk, o + m * 4 + 2, none⟩) lb3).trans y2
            have y3 := (hSw.cell (p := ⟨blk, o + m * 4 + 3, none⟩) lb3).trans y3
            have x0 := (hSw.cell (p := ⟨w2.heap.size, 0, none⟩) lw3).trans x0
            have x1 := (hSw.cell (p := ⟨w2.heap.size, 1, none⟩) lw3).trans x1
            have x2 := (hSw.cell (p := ⟨w2.heap.size, 2, none⟩) lw3).trans x2
            have x3 := (hSw.cell (p := ⟨w2.heap.size, 3, none⟩) lw3).trans x3
            have g0 := (hSw.cell (p := ⟨w1.heap.size, 1, none⟩) l13).trans g0
            go_simp
          try simp only [Act.put, List.setIfInBounds_toArray, List.set_cons_zero, List.set_cons_succ]
          refine wpAnyH_done (by kernel_rfl) ?_ _
          go_wp2_with fail
          go_roundg (gk - 1)
          case measure => omega
          case rel => exact ⟨j + 1, m + 1, by omega, by simp, by go_num, Lib.hid (by have := HC2.out; rw [hkm] at this; simpa using this), by omega, Lib.hid (HX3.out), Lib.hid (HB3.out.drew), by simp; omega⟩
        · rw [hfd]
          unfold RowR.val
          simp only
          go_wp2_with fail
          go_roundg (gk - 1)
          case measure => omega
          case rel => exact ⟨j + 1, m, by omega, by simp, rfl, Lib.hid (by have := HC2.out; rw [hkm] at this; simpa using this), hm, Lib.hid (heap_old' HX2.out), Lib.hid (HB2.out.alloc (by omega) _), by simp; omega⟩
      · have i1 : ¬ (j : Int) - 1 ≤ (B.length : Int) := by omega
        have hmR : m = R.length := HSe.out m (by have := HC.out; rwa [show (j : Int) - 1 - 1 = (B.length : Int) by omega] at this)
        subst hmR
        have HR1 := Lib.hid (HRt.out wr aB cB aR cR (HBA.out wr HBr.out) (HRI.out wr HBr.out))
        go_wp2_with fail
        refine HR1.out.mono ?_
        rintro e w2 ⟨rfl, hb2⟩
        have HX2 := Lib.hid ((hb2.block _ hs).trans HX5.out)
        have HB2 := Lib.hid (HBr.out.trans (hb2.mono (by omega)))
        have hs2 : w1.heap.size < w2.heap.size := Nat.lt_of_lt_of_le hs hb2.size
        have q1 : w2.cell? ⟨w1.heap.size, 1, none⟩ = some (.slice aR R.length cR) := cell_of_row _ _ 1 _ _ _ HX2.out
        have HE1 := Lib.hid (HX.out w2 aR cR (HRI.out w2 HB2.out))
        clear hb2 HR1 k0 k1
        go_wp2_with fail
        refine HE1.out.mono ?_
        rintro e w3 ⟨vE, rfl, hoE, hb3⟩
        obtain ⟨aE, cE, rfl⟩ := own_slice hoE
        have i3 : 1 ≤ ((exits R).length : Int) := by have := HEx.out; omega
        have HB3 := Lib.hid (HB2.out.trans (hb3.mono (by omega)))
        clear hb3 HE1 hoE
        go_wp2_with fail
        refine (HW.out _).mono ?_
        rintro e w4 ⟨rfl, hb4⟩
        have hs4 : w1.heap.size ≤ w3.heap.size := HB3.out.size
        go_wp2_with fail
        go_ret
        exact ⟨rfl, HB1.out.trans ((HB3.out.trans (hb4.mono hs4)).mono (by omega))⟩
end Go.Proofs.Ytnmgfckefofcpaa
