/- The walks of translate.May and translate.Translate. (Written by mkMG.py.) -/
import Derived.Test.YtnmgfckefofcpaaMadF
namespace Go.Proofs.Ytnmgfckefofcpaa
open Go.RowKit
set_option linter.unusedSimpArgs false
set_option linter.unusedVariables false
set_option maxRecDepth 100000

theorem inss_below {W w1 : World} {ao : Option Addr} {L : List InsR} (hb : Below W.heap.size W w1) (h : InssIn W ao L) : InssIn w1 ao L := by
  rcases h with h | ⟨blk, off, h1, h2⟩
  · exact .inl h
  · exact .inr ⟨blk, off, h1, fun i r hr => ⟨keep hb (h2 i r hr).1, keep hb (h2 i r hr).2.1, keep hb (h2 i r hr).2.2.1, keep hb (h2 i r hr).2.2.2⟩⟩
theorem ats_below {W w1 : World} {ao : Option Addr} {L : List Int} (hb : Below W.heap.size W w1) (h : AtsIn W ao L) : AtsIn w1 ao L := by
  rcases h with h | ⟨blk, off, h1, h2⟩
  · exact .inl h
  · exact .inr ⟨blk, off, h1, fun i r hr => keep hb (h2 i r hr)⟩
theorem own_low_set {w : World} {base e s n c j : Nat} {v x : Value} {xs : List Value} (h : w.ownsRow base e s v n xs) (hc : c < base) : (w.setCell ⟨c, j, none⟩ x).ownsRow base e s v n xs := by
  obtain ⟨h1, h2 | ⟨g, cap, cur, h3, h4, h5, h6⟩⟩ := h
  · exact ⟨h1, .inl h2⟩
  · exact ⟨h1, .inr ⟨g, cap, cur, h3, h4, by rw [Below.heap_setCell _ _ _ _ (by simp; omega)]; exact h5, h6⟩⟩
theorem inss_at {W : World} {ao : Option Addr} {L : List InsR} (h : InssIn W ao L) {k : Nat} {r : InsR} (hr : L[k]? = some r) :
    ∃ blk off, ao = some ⟨blk, off, none⟩ ∧ blk < W.heap.size ∧ W.cell? ⟨blk, off + k * 4, none⟩ = some (.int .u8 r.op) ∧ W.cell? ⟨blk, off + k * 4 + 1, none⟩ = some (.int .u8 r.a) ∧ W.cell? ⟨blk, off + k * 4 + 2, none⟩ = some (.int .u8 r.b) ∧ W.cell? ⟨blk, off + k * 4 + 3, none⟩ = some (.int .i32 r.imm) := by
  rcases h with h | ⟨blk, off, h1, h2⟩
  · rw [h] at hr; cases hr
  · have h3 := h2 k r hr
    exact ⟨blk, off, h1, World.block_lt_of_cell? W _ h3.1, h3⟩
theorem ats_at {W : World} {ao : Option Addr} {L : List Int} (h : AtsIn W ao L) {k : Nat} {r : Int} (hr : L[k]? = some r) :
    ∃ blk off, ao = some ⟨blk, off, none⟩ ∧ blk < W.heap.size ∧ W.cell? ⟨blk, off + k, none⟩ = some (.int .u32 r) := by
  rcases h with h | ⟨blk, off, h1, h2⟩
  · rw [h] at hr; cases hr
  · have h3 := h2 k r hr
    exact ⟨blk, off, h1, World.block_lt_of_cell? W _ h3, h3⟩

theorem grown_baseM {w w1 w' : World} {tb : Nat} (h : Below w.heap.size w w1) (ht : w.heap.size ≤ tb) (hg : w1.grownBy w' (some tb)) : Below w.heap.size w w' :=
  h.grown hg h.size (fun k hk => by cases hk; exact ht)
theorem mayFrom_step {n : Nat} {en : Int} {l : List InsR} {k : Nat} {r : InsR} (hr : l[k]? = some r) : mayFrom n en (l.drop k) k = (okIns n en k r && mayFrom n en (l.drop (k + 1)) (k + 1)) := by
  obtain ⟨hlt, rfl⟩ := List.getElem?_eq_some_iff.1 hr
  rw [List.drop_eq_getElem_cons hlt]
  rfl

set_option maxHeartbeats 8000000 in
theorem mayT_c (b : BlkR) (w : World) (hb : b.Ok w) :
    Calls Try.prog 25 #[.agg b.cells] w fun e w' => e = .returned (.bool (mayBlk b)) ∧ Below w.heap.size w w' := by
  obtain ⟨hli0, hci, hI, -, -, -, -, -, -, -, -, ⟨a5, l5, c5, hvf⟩, ⟨a6, l6, c6, hvt⟩⟩ := hb
  have hli : b.ins.length ≤ 9223372036854775807 := Nat.le_trans hli0 hci
  obtain ⟨R, hR⟩ : ∃ R, mayBlk b = R := ⟨_, rfl⟩
  rw [hR]
  obtain ⟨ins, ats, nx, to, en, ai, ci, aa, ca, vf, vt⟩ := b
  unfold mayBlk at hR
  unfold BlkR.cells
  simp only at hli hci hI hvf hvt hR ⊢
  subst hvf hvt
  obtain ⟨n, hn⟩ : ∃ n, ins.length = n := ⟨_, rfl⟩
  obtain ⟨n2, hn2⟩ : ∃ n, ats.length = n := ⟨_, rfl⟩
  rw [hn, hn2] at hR ⊢
  rw [hn] at hli
  have HR := Lib.hid hR
  have HI := Lib.hid hI
  have HN := Lib.hid hn
  clear hR hI hn hn2
  go_enter Try.func25, Try.ntmps25
  by_cases c1 : 1 ≤ n
  · have d1 : ¬ (n : Int) < 1 := by omega
    by_cases c2 : n ≤ 32
    · have d2 : ¬ (32 : Int) < (n : Int) := by omega
      by_cases c3 : n2 = n
      · subst c3
        have HR2 := Lib.hid (show mayFrom n2 en ins 0 = R by have := HR.out; simpa [c1, c2] using this)
        clear HR
        go_wp2_with fail
        refine (new_c _).mono ?_
        rintro e w1 ⟨rfl, hT1, hs1, hb1⟩
        have hbx1 : w1.heap[w.heap.size]? = some (.cells #[.slice ai n2 ci, .slice aa n2 ca, .int .u32 nx, .int .u32 to, .int .i64 en, .slice a5 l5 c5, .slice a6 l6 c6] 42 (0, 0)) := (hb1.block _ (by simp)).trans (heap_new' rfl)
        have hB1 := below_box hb1
        simp at hs1
        have k0 : w1.cell? ⟨w.heap.size, 0, none⟩ = some (.slice ai n2 ci) := cell_of_row _ _ 0 _ _ _ hbx1
        have HT1 := Lib.hid hT1
        have HB1 := Lib.hid hB1
        have HX1 := Lib.hid hbx1
        clear hb1 hT1 hB1 hbx1
        go_wp2_with fail
        go_loopg [28] n2 (fun gk vk wr => ∃ k : Nat, gk + k = n2 ∧ vk = .int .i64 (k : Int) ∧ Hid (mayFrom n2 en (ins.drop k) k = R) ∧ Hid (TabIs wr (w.heap.size + 1)) ∧ Hid (wr.heap[w.heap.size]? = some (.cells #[.slice ai n2 ci, .slice aa n2 ca, .int .u32 nx, .int .u32 to, .int .i64 en, .slice a5 l5 c5, .slice a6 l6 c6] 42 (0, 0))) ∧ Hid (Below w.heap.size w wr) ∧ w.heap.size + 1 < wr.heap.size)
        case atStart => exact ⟨0, rfl, rfl, Lib.hid (by simpa using HR2.out), Lib.hid (by simpa using HT1.out), HX1, HB1, hs1⟩
        case round =>
          obtain ⟨k, hk, rfl, HMF, HT, HX, HB, hs⟩ := hrel
          by_cases e1 : k < n2
          · obtain ⟨r, hr⟩ : ∃ r, ins[k]? = some r := ⟨_, List.getElem?_eq_getElem (by rw [HN.out]; exact e1)⟩
            have HST := Lib.hid ((mayFrom_step (n := n2) (en := en) hr).symm.trans HMF.out)
            obtain ⟨bi, oi, rfl, lbi, y0, y1, y2, y3⟩ := inss_at (inss_below HB.out HI.out) hr
            obtain ⟨ro, ra, rb, ri, q0, q1, q2, q3, q4, q5, q6, q7⟩ := r
            simp only at y0 y1 y2 y3
            have i1 : (k : Int) < (n2 : Int) := by omega
            unfold okIns at HST
            simp only at HST
            have HMay := Lib.hid fun w => Isa.may_c ro ra rb ri false w q0 q1 q2 q3 q4 q5 q6 q7
            have HEnd := Lib.hid fun (w1 : World) (h : TabIs w1 (w.heap.size + 1)) => ends_c (w.heap.size + 1) ro w1 h q0 q1
            have HFit := Lib.hid fun (ends : Bool) w => endFits_c ro en ends w q0 q1
            unfold Isa.insV at HMay
            have hee : decide (3 ≤ (knownF ro).cls) = endsB ro := rfl
            rw [hee] at HEnd
            generalize endsB ro = ed at HST HEnd
            generalize Isa.mayB (Isa.fm ro false) ra rb ri = mb at HST HMay
            clear hr HMF hee
            have hw1 : IntKind.i64.wrap ((n2 : Int) - 1) = (n2 : Int) - 1 := IntWalk.i64_in _ ⟨by omega, by omega⟩
            go_wp2_with fail
            refine (HEnd.out _ (tab_below HT.out (kbelow_alloc1 _ _))).mono ?_
            rintro e w2 ⟨rfl, hT2, hG2⟩
            have hX2 : w2.heap[w.heap.size]? = _ := (hG2.block w.heap.size (by simp; omega) (by simp)).trans (heap_old' HX.out)
            have hbx2 : w2.heap[wr.heap.size]? = some (.cells #[.int .u8 ro, .int .u8 ra, .int .u8 rb, .int .i32 ri] 51 (0, 0)) := (hG2.block wr.heap.size (by simp) (by simp; omega)).trans (heap_new' rfl)
            have hB2 : Below w.heap.size w w2 := grown_baseM (HB.out.alloc (by omega) _) (by omega) hG2
            have hs2 : wr.heap.size < w2.heap.size := heap_lt hbx2
            have p0 : w2.cell? ⟨wr.heap.size, 0, none⟩ = some (.int .u8 ro) := cell_of_row _ _ 0 _ _ _ hbx2
            have p1 : w2.cell? ⟨wr.heap.size, 1, none⟩ = some (.int .u8 ra) := cell_of_row _ _ 1 _ _ _ hbx2
            have p2 : w2.cell? ⟨wr.heap.size, 2, none⟩ = some (.int .u8 rb) := cell_of_row _ _ 2 _ _ _ hbx2
            have p3 : w2.cell? ⟨wr.heap.size, 3, none⟩ = some (.int .i32 ri) := cell_of_row _ _ 3 _ _ _ hbx2
            have HT2 := Lib.hid hT2
            have HX2 := Lib.hid hX2
            have HB2 := Lib.hid hB2
            have HBX2 := Lib.hid hbx2
            clear hT2 hX2 hbx2 hB2 hG2 HT HX HB
            cases mb
            · have hRf : R = false := by have := HST.out; simp at this; first | exact this | exact this.symm
              subst hRf
              go_wp2_with fail
              refine (HMay.out _).mono ?_
              rintro e w3 ⟨rfl, hb3⟩
              go_wp2_with fail
              go_ret
              exact ⟨rfl, below_next HB2.out hb3⟩
            · by_cases e2 : k + 1 < n2
              · have i2 : (k : Int) < (n2 : Int) - 1 := by omega
                have i3 : ((k : Int) == (n2 : Int) - 1) = false := by simp; omega
                have e3 : k + 1 ≠ n2 := by omega
                cases ed
                · have HS2 := Lib.hid (show mayFrom n2 en (ins.drop (k + 1)) (k + 1) = R by have := HST.out; simpa [e2, e3] using this)
                  go_wp2_with fail
                  refine (HMay.out _).mono ?_
                  rintro e w3 ⟨rfl, hb3⟩
                  have hs3 : w2.heap.size ≤ w3.heap.size := hb3.size
                  have HT3 := Lib.hid (tab_below HT2.out hb3)
                  have HX3 := Lib.hid ((hb3.block _ (by omega)).trans HX2.out)
                  have HB3 := Lib.hid (below_next HB2.out hb3)
                  clear hb3
                  go_wp2_with fail
                  go_roundg (gk - 1)
                  case measure => omega
                  case rel => exact ⟨k + 1, by omega, by go_num, HS2, HT3, HX3, HB3, by omega⟩
                · have hRf : R = false := by have := HST.out; simp [e2] at this; first | exact this | exact this.symm
                  subst hRf
                  go_wp2_with fail
                  refine (HMay.out _).mono ?_
                  rintro e w3 ⟨rfl, hb3⟩
                  go_wp2_with fail
                  go_ret
                  exact ⟨rfl, below_next HB2.out hb3⟩
              · have e3 : k + 1 = n2 := by omega
                have i2 : ¬ (k : Int) < (n2 : Int) - 1 := by omega
                have i3 : ((k : Int) == (n2 : Int) - 1) = true := by simp; omega
                have HFe := Lib.hid (HFit.out ed)
                generalize fitsEnd ro en ed = ft at HFe HST
                go_wp2_with fail
                refine (HMay.out _).mono ?_
                rintro e w3 ⟨rfl, hb3⟩
                have hs3 : w2.heap.size ≤ w3.heap.size := hb3.size
                have HT3 := Lib.hid (tab_below HT2.out hb3)
                have HX3 := Lib.hid ((hb3.block _ (by omega)).trans HX2.out)
                have HB3 := Lib.hid (below_next HB2.out hb3)
                have r0 : w3.cell? ⟨wr.heap.size, 0, none⟩ = some (.int .u8 ro) := (hb3.cell (p := ⟨wr.heap.size, 0, none⟩) hs2).trans p0
                have r4 : w3.cell? ⟨w.heap.size, 4, none⟩ = some (.int .i64 en) := cell_of_row _ _ 4 _ _ _ HX3.out
                clear hb3
                go_wp2_with fail
                refine (HFe.out _).mono ?_
                rintro e w4 ⟨rfl, hb4⟩
                have hs4 : w3.heap.size ≤ w4.heap.size := hb4.size
                have HT4 := Lib.hid (tab_below HT3.out hb4)
                have HX4 := Lib.hid ((hb4.block _ (by omega)).trans HX3.out)
                have HB4 := Lib.hid (below_next HB3.out hb4)
                clear hb4
                cases ft
                · have hRf : R = false := by have := HST.out; simp [e3] at this; first | exact this | exact this.symm
                  subst hRf
                  go_wp2_with fail
                  go_ret
                  exact ⟨rfl, HB4.out⟩
                · have HS2 := Lib.hid (show mayFrom n2 en (ins.drop (k + 1)) (k + 1) = R by have := HST.out; simpa [e2, e3] using this)
                  go_wp2_with fail
                  go_roundg (gk - 1)
                  case measure => omega
                  case rel => exact ⟨k + 1, by omega, by go_num, HS2, HT4, HX4, HB4, by omega⟩
          · have i1 : ¬ (k : Int) < (n2 : Int) := by omega
            have hRt : R = true := by
              have := HMF.out
              rw [List.drop_eq_nil_iff.2 (by rw [HN.out]; omega)] at this
              exact this.symm
            subst hRt
            go_wp2_with fail
            go_ret
            exact ⟨rfl, HB.out⟩
      · have d3 : ((n2 : Int) != (n : Int)) = true := by simp; omega
        have hRf : R = false := by have := HR.out; simp [c3] at this; first | exact this | exact this.symm
        subst hRf
        go_wp2_with fail
        go_ret
        exact ⟨rfl, below_alloc1 _ _⟩
    · have d2 : (32 : Int) < (n : Int) := by omega
      have hRf : R = false := by have := HR.out; simp [c2] at this; first | exact this | exact this.symm
      subst hRf
      go_wp2_with fail
      go_ret
      exact ⟨rfl, below_alloc1 _ _⟩
  · have d1 : (n : Int) < 1 := by omega
    have hRf : R = false := by have := HR.out; simp [c1] at this; first | exact this | exact this.symm
    subst hRf
    go_wp2_with fail
    go_ret
    exact ⟨rfl, below_alloc1 _ _⟩
end Go.Proofs.Ytnmgfckefofcpaa
