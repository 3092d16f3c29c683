/- The walk of the document's Decode (mummerref02), form by form. -/
import Derived.Test.YtocgiapkapekdaaDoorRefB
import Derived.Test.YtocgiapkapekdaaDoorIsaG
namespace Go.Proofs.YtocgiapkapekdaaDoor.Isa
open Go.RowKit
set_option linter.unusedSimpArgs false
set_option linter.unusedVariables false

set_option maxHeartbeats 4000000 in
theorem rdec10000 (host : Bool) (blk off len cap : Nat) (x0 x1 x2 x3 x4 x5 : Int) (w : World) (hx0 : w.cell? ⟨blk, off, none⟩ = some (.int .u8 x0))
    (b0 : 0 ≤ x0 ∧ x0 < 256) (b1 : 0 ≤ x1 ∧ x1 < 256) (b2 : 0 ≤ x2 ∧ x2 < 256) (b3 : 0 ≤ x3 ∧ x3 < 256) (b4 : 0 ≤ x4 ∧ x4 < 256) (b5 : 0 ≤ x5 ∧ x5 < 256) (hlen : len ≤ 9223372036854775807) (hn : 1 ≤ len) (hf : fm x0 host = ⟨1, 0, 0, 0, 0⟩) (m : Bool) (hm : mayB ⟨1, 0, 0, 0, 0⟩ (regA ⟨1, 0, 0, 0, 0⟩ x1) (regB ⟨1, 0, 0, 0, 0⟩ x1) (numL ⟨1, 0, 0, 0, 0⟩ x1 x2 x3 x4 x5) = m) :
    Calls Tryd.prog 17 #[.slice (some ⟨blk, off, none⟩) len cap, .bool host] w (if m = true then DecPost x0 (regA ⟨1, 0, 0, 0, 0⟩ x1) (regB ⟨1, 0, 0, 0, 0⟩ x1) (numL ⟨1, 0, 0, 0, 0⟩ x1 x2 x3 x4 x5) 1 0 w else DecPost 0 0 0 0 0 21 w) := by
  have HO0 := fun w => refOf_c x0 host w b0.1 b0.2
  rw [hf] at HO0
  have HO := Lib.hid HO0
  clear HO0
  unfold Fm.rval at HO
  simp only [decide_true, decide_false, Int.reduceEq] at HO
  have hnum : numL ⟨1, 0, 0, 0, 0⟩ x1 x2 x3 x4 x5 = 0 := by simp [numL, numF]; try omega
  simp only [show regA ⟨1, 0, 0, 0, 0⟩ x1 = 0 from rfl, show regB ⟨1, 0, 0, 0, 0⟩ x1 = 0 from rfl, hnum] at hm ⊢
  have HM0 := fun w => refMay_c x0 (0) (0) (0) host w b0.1 b0.2 (by omega) (by omega) (by omega) (by omega) (by omega) (by omega)
  rw [hf, hm] at HM0
  have HM := Lib.hid HM0
  clear HM0 hf hm hnum
  unfold insV at HM
  have hbw : blk < w.heap.size := World.block_lt_of_cell? w _ hx0
  have hpos : (0 : Int) < (len : Int) := by omega
  have hz0 : ((len : Int) == 0) = false := by simp; omega
  have hl : ((len : Int) < 1) = False := by simp; omega
  go_enter Tryd.func17, Tryd.ntmps17
  go_wp2_with fail
  refine (HO.out _).mono ?_
  rintro e w1 ⟨rfl, hb1⟩
  have B1 := below_box hb1
  obtain ⟨hcl, hfz⟩ := bcell hb1
  have s1 : w.heap.size < w1.heap.size := by have := hb1.size; simp at this; omega
  have hbw1 : blk < w1.heap.size := by omega
  have cx0 : w1.cell? ⟨blk, off, none⟩ = some (.int .u8 x0) := (B1.cell (p := ⟨blk, off, none⟩) hbw).trans hx0
  go_wp2_with fail
  refine wp_loop_rounds 6 ?_
  rw [rounds_succ]
  go_wp2_with fail
  
  refine (HM.out _).mono ?_
  rintro e w2 ⟨rfl, hb2⟩
  have B2 : Below w.heap.size w w2 := below_next ((B1.alloc B1.size _).alloc (by simp; omega) _) hb2
  obtain ⟨hcl2, hfz2⟩ := bcell hb2
  have s2 : w1.heap.size + 1 < w2.heap.size := by have := hb2.size; simp at this; omega
  have s3 : w1.heap.size < w2.heap.size := by omega
  have s4 : w.heap.size < w2.heap.size := by omega
  have M0 : w2.cell? ⟨w.heap.size, 0, none⟩ = some (.int .u8 0) := by rw [hcl2 _ _ (by simp; omega)]; go_simp
  have M1 : w2.cell? ⟨w.heap.size, 1, none⟩ = some (.int .u8 0) := by rw [hcl2 _ _ (by simp; omega)]; go_simp
  have M2 : w2.cell? ⟨w.heap.size, 2, none⟩ = some (.int .u8 0) := by rw [hcl2 _ _ (by simp; omega)]; go_simp
  have M3 : w2.cell? ⟨w.heap.size, 3, none⟩ = some (.int .i32 0) := by rw [hcl2 _ _ (by simp; omega)]; go_simp
  have L0 : w2.frozen? ⟨w.heap.size, 0, none⟩ = false := by rw [hfz2 _ _ (by simp; omega)]; go_simp
  have L1 : w2.frozen? ⟨w.heap.size, 1, none⟩ = false := by rw [hfz2 _ _ (by simp; omega)]; go_simp
  have L2 : w2.frozen? ⟨w.heap.size, 2, none⟩ = false := by rw [hfz2 _ _ (by simp; omega)]; go_simp
  have L3 : w2.frozen? ⟨w.heap.size, 3, none⟩ = false := by rw [hfz2 _ _ (by simp; omega)]; go_simp
  cases m
  · simp only [Bool.false_eq_true, if_false]
    go_wp2_with fail
    refine bodyPost_ret (v := .tuple #[insV 0 0 0 0, .int .i64 0, .int .i64 21]) ?_ rfl ⟨rfl, ?_⟩
    · unfold insV
      simp [results, Tryd.results17, go_sem, M0, M1, M2, M3]
    · exact (((B2.setCell (by simp) _).setCell (by simp) _).setCell (by simp) _).setCell (by simp) _
  · simp only [if_true]
    go_wp2_with fail
    go_region
    all_goals
      go_wp2_with fail
      refine bodyPost_ret (v := .tuple #[insV x0 (0) (0) (0), .int .i64 1, .int .i64 0]) ?_ rfl ⟨rfl, ?_⟩
      · unfold insV
        simp [results, Tryd.results17, go_sem, M0, M1, M2, M3]
      · exact ((((B2.drew.setCell (by simp) _).setCell (by simp) _).setCell (by simp) _).setCell (by simp) _)

set_option maxHeartbeats 4000000 in
theorem rdec21100 (host : Bool) (blk off len cap : Nat) (x0 x1 x2 x3 x4 x5 : Int) (w : World) (hx0 : w.cell? ⟨blk, off, none⟩ = some (.int .u8 x0)) (hx1 : w.cell? ⟨blk, off + 1, none⟩ = some (.int .u8 x1))
    (b0 : 0 ≤ x0 ∧ x0 < 256) (b1 : 0 ≤ x1 ∧ x1 < 256) (b2 : 0 ≤ x2 ∧ x2 < 256) (b3 : 0 ≤ x3 ∧ x3 < 256) (b4 : 0 ≤ x4 ∧ x4 < 256) (b5 : 0 ≤ x5 ∧ x5 < 256) (hlen : len ≤ 9223372036854775807) (hn : 2 ≤ len) (hf : fm x0 host = ⟨2, 1, 1, 0, 0⟩) (m : Bool) (hm : mayB ⟨2, 1, 1, 0, 0⟩ (regA ⟨2, 1, 1, 0, 0⟩ x1) (regB ⟨2, 1, 1, 0, 0⟩ x1) (numL ⟨2, 1, 1, 0, 0⟩ x1 x2 x3 x4 x5) = m) :
    Calls Tryd.prog 17 #[.slice (some ⟨blk, off, none⟩) len cap, .bool host] w (if m = true then DecPost x0 (regA ⟨2, 1, 1, 0, 0⟩ x1) (regB ⟨2, 1, 1, 0, 0⟩ x1) (numL ⟨2, 1, 1, 0, 0⟩ x1 x2 x3 x4 x5) 2 0 w else DecPost 0 0 0 0 0 21 w) := by
  have HO0 := fun w => refOf_c x0 host w b0.1 b0.2
  rw [hf] at HO0
  have HO := Lib.hid HO0
  clear HO0
  unfold Fm.rval at HO
  simp only [decide_true, decide_false, Int.reduceEq] at HO
  have hnum : numL ⟨2, 1, 1, 0, 0⟩ x1 x2 x3 x4 x5 = 0 := by simp [numL, numF]; try omega
  simp only [show regA ⟨2, 1, 1, 0, 0⟩ x1 = x1 / 16 from rfl, show regB ⟨2, 1, 1, 0, 0⟩ x1 = x1 % 16 from rfl, hnum] at hm ⊢
  have HM0 := fun w => refMay_c x0 (x1 / 16) (x1 % 16) (0) host w b0.1 b0.2 (by omega) (by omega) (by omega) (by omega) (by omega) (by omega)
  rw [hf, hm] at HM0
  have HM := Lib.hid HM0
  clear HM0 hf hm hnum
  unfold insV at HM
  have hbw : blk < w.heap.size := World.block_lt_of_cell? w _ hx0
  have hpos : (0 : Int) < (len : Int) := by omega
  have hz0 : ((len : Int) == 0) = false := by simp; omega
  have hl : ((len : Int) < 2) = False := by simp; omega
  go_enter Tryd.func17, Tryd.ntmps17
  go_wp2_with fail
  refine (HO.out _).mono ?_
  rintro e w1 ⟨rfl, hb1⟩
  have B1 := below_box hb1
  obtain ⟨hcl, hfz⟩ := bcell hb1
  have s1 : w.heap.size < w1.heap.size := by have := hb1.size; simp at this; omega
  have hbw1 : blk < w1.heap.size := by omega
  have cx0 : w1.cell? ⟨blk, off, none⟩ = some (.int .u8 x0) := (B1.cell (p := ⟨blk, off, none⟩) hbw).trans hx0
  have cx1 : w1.cell? ⟨blk, off + 1, none⟩ = some (.int .u8 x1) := (B1.cell (p := ⟨blk, off + 1, none⟩) hbw).trans hx1
  go_wp2_with fail
  refine wp_loop_rounds 6 ?_
  rw [rounds_succ]
  go_wp2_with fail
  
  refine (HM.out _).mono ?_
  rintro e w2 ⟨rfl, hb2⟩
  have B2 : Below w.heap.size w w2 := below_next ((B1.alloc B1.size _).alloc (by simp; omega) _) hb2
  obtain ⟨hcl2, hfz2⟩ := bcell hb2
  have s2 : w1.heap.size + 1 < w2.heap.size := by have := hb2.size; simp at this; omega
  have s3 : w1.heap.size < w2.heap.size := by omega
  have s4 : w.heap.size < w2.heap.size := by omega
  have M0 : w2.cell? ⟨w.heap.size, 0, none⟩ = some (.int .u8 0) := by rw [hcl2 _ _ (by simp; omega)]; go_simp
  have M1 : w2.cell? ⟨w.heap.size, 1, none⟩ = some (.int .u8 0) := by rw [hcl2 _ _ (by simp; omega)]; go_simp
  have M2 : w2.cell? ⟨w.heap.size, 2, none⟩ = some (.int .u8 0) := by rw [hcl2 _ _ (by simp; omega)]; go_simp
  have M3 : w2.cell? ⟨w.heap.size, 3, none⟩ = some (.int .i32 0) := by rw [hcl2 _ _ (by simp; omega)]; go_simp
  have L0 : w2.frozen? ⟨w.heap.size, 0, none⟩ = false := by rw [hfz2 _ _ (by simp; omega)]; go_simp
  have L1 : w2.frozen? ⟨w.heap.size, 1, none⟩ = false := by rw [hfz2 _ _ (by simp; omega)]; go_simp
  have L2 : w2.frozen? ⟨w.heap.size, 2, none⟩ = false := by rw [hfz2 _ _ (by simp; omega)]; go_simp
  have L3 : w2.frozen? ⟨w.heap.size, 3, none⟩ = false := by rw [hfz2 _ _ (by simp; omega)]; go_simp
  cases m
  · simp only [Bool.false_eq_true, if_false]
    go_wp2_with fail
    refine bodyPost_ret (v := .tuple #[insV 0 0 0 0, .int .i64 0, .int .i64 21]) ?_ rfl ⟨rfl, ?_⟩
    · unfold insV
      simp [results, Tryd.results17, go_sem, M0, M1, M2, M3]
    · exact (((B2.setCell (by simp) _).setCell (by simp) _).setCell (by simp) _).setCell (by simp) _
  · simp only [if_true]
    go_wp2_with fail
    go_region
    all_goals
      go_wp2_with fail
      refine bodyPost_ret (v := .tuple #[insV x0 (x1 / 16) (x1 % 16) (0), .int .i64 2, .int .i64 0]) ?_ rfl ⟨rfl, ?_⟩
      · unfold insV
        simp [results, Tryd.results17, go_sem, M0, M1, M2, M3]
      · exact ((((B2.drew.setCell (by simp) _).setCell (by simp) _).setCell (by simp) _).setCell (by simp) _)

set_option maxHeartbeats 4000000 in
theorem rdec21000 (host : Bool) (blk off len cap : Nat) (x0 x1 x2 x3 x4 x5 : Int) (w : World) (hx0 : w.cell? ⟨blk, off, none⟩ = some (.int .u8 x0)) (hx1 : w.cell? ⟨blk, off + 1, none⟩ = some (.int .u8 x1))
    (b0 : 0 ≤ x0 ∧ x0 < 256) (b1 : 0 ≤ x1 ∧ x1 < 256) (b2 : 0 ≤ x2 ∧ x2 < 256) (b3 : 0 ≤ x3 ∧ x3 < 256) (b4 : 0 ≤ x4 ∧ x4 < 256) (b5 : 0 ≤ x5 ∧ x5 < 256) (hlen : len ≤ 9223372036854775807) (hn : 2 ≤ len) (hf : fm x0 host = ⟨2, 1, 0, 0, 0⟩) (m : Bool) (hm : mayB ⟨2, 1, 0, 0, 0⟩ (regA ⟨2, 1, 0, 0, 0⟩ x1) (regB ⟨2, 1, 0, 0, 0⟩ x1) (numL ⟨2, 1, 0, 0, 0⟩ x1 x2 x3 x4 x5) = m) :
    Calls Tryd.prog 17 #[.slice (some ⟨blk, off, none⟩) len cap, .bool host] w (if m = true then DecPost x0 (regA ⟨2, 1, 0, 0, 0⟩ x1) (regB ⟨2, 1, 0, 0, 0⟩ x1) (numL ⟨2, 1, 0, 0, 0⟩ x1 x2 x3 x4 x5) 2 0 w else DecPost 0 0 0 0 0 21 w) := by
  have HO0 := fun w => refOf_c x0 host w b0.1 b0.2
  rw [hf] at HO0
  have HO := Lib.hid HO0
  clear HO0
  unfold Fm.rval at HO
  simp only [decide_true, decide_false, Int.reduceEq] at HO
  have hnum : numL ⟨2, 1, 0, 0, 0⟩ x1 x2 x3 x4 x5 = 0 := by simp [numL, numF]; try omega
  simp only [show regA ⟨2, 1, 0, 0, 0⟩ x1 = x1 / 16 from rfl, show regB ⟨2, 1, 0, 0, 0⟩ x1 = x1 % 16 from rfl, hnum] at hm ⊢
  have HM0 := fun w => refMay_c x0 (x1 / 16) (x1 % 16) (0) host w b0.1 b0.2 (by omega) (by omega) (by omega) (by omega) (by omega) (by omega)
  rw [hf, hm] at HM0
  have HM := Lib.hid HM0
  clear HM0 hf hm hnum
  unfold insV at HM
  have hbw : blk < w.heap.size := World.block_lt_of_cell? w _ hx0
  have hpos : (0 : Int) < (len : Int) := by omega
  have hz0 : ((len : Int) == 0) = false := by simp; omega
  have hl : ((len : Int) < 2) = False := by simp; omega
  go_enter Tryd.func17, Tryd.ntmps17
  go_wp2_with fail
  refine (HO.out _).mono ?_
  rintro e w1 ⟨rfl, hb1⟩
  have B1 := below_box hb1
  obtain ⟨hcl, hfz⟩ := bcell hb1
  have s1 : w.heap.size < w1.heap.size := by have := hb1.size; simp at this; omega
  have hbw1 : blk < w1.heap.size := by omega
  have cx0 : w1.cell? ⟨blk, off, none⟩ = some (.int .u8 x0) := (B1.cell (p := ⟨blk, off, none⟩) hbw).trans hx0
  have cx1 : w1.cell? ⟨blk, off + 1, none⟩ = some (.int .u8 x1) := (B1.cell (p := ⟨blk, off + 1, none⟩) hbw).trans hx1
  go_wp2_with fail
  refine wp_loop_rounds 6 ?_
  rw [rounds_succ]
  go_wp2_with fail
  
  refine (HM.out _).mono ?_
  rintro e w2 ⟨rfl, hb2⟩
  have B2 : Below w.heap.size w w2 := below_next ((B1.alloc B1.size _).alloc (by simp; omega) _) hb2
  obtain ⟨hcl2, hfz2⟩ := bcell hb2
  have s2 : w1.heap.size + 1 < w2.heap.size := by have := hb2.size; simp at this; omega
  have s3 : w1.heap.size < w2.heap.size := by omega
  have s4 : w.heap.size < w2.heap.size := by omega
  have M0 : w2.cell? ⟨w.heap.size, 0, none⟩ = some (.int .u8 0) := by rw [hcl2 _ _ (by simp; omega)]; go_simp
  have M1 : w2.cell? ⟨w.heap.size, 1, none⟩ = some (.int .u8 0) := by rw [hcl2 _ _ (by simp; omega)]; go_simp
  have M2 : w2.cell? ⟨w.heap.size, 2, none⟩ = some (.int .u8 0) := by rw [hcl2 _ _ (by simp; omega)]; go_simp
  have M3 : w2.cell? ⟨w.heap.size, 3, none⟩ = some (.int .i32 0) := by rw [hcl2 _ _ (by simp; omega)]; go_simp
  have L0 : w2.frozen? ⟨w.heap.size, 0, none⟩ = false := by rw [hfz2 _ _ (by simp; omega)]; go_simp
  have L1 : w2.frozen? ⟨w.heap.size, 1, none⟩ = false := by rw [hfz2 _ _ (by simp; omega)]; go_simp
  have L2 : w2.frozen? ⟨w.heap.size, 2, none⟩ = false := by rw [hfz2 _ _ (by simp; omega)]; go_simp
  have L3 : w2.frozen? ⟨w.heap.size, 3, none⟩ = false := by rw [hfz2 _ _ (by simp; omega)]; go_simp
  cases m
  · simp only [Bool.false_eq_true, if_false]
    go_wp2_with fail
    refine bodyPost_ret (v := .tuple #[insV 0 0 0 0, .int .i64 0, .int .i64 21]) ?_ rfl ⟨rfl, ?_⟩
    · unfold insV
      simp [results, Tryd.results17, go_sem, M0, M1, M2, M3]
    · exact (((B2.setCell (by simp) _).setCell (by simp) _).setCell (by simp) _).setCell (by simp) _
  · simp only [if_true]
    go_wp2_with fail
    go_region
    all_goals
      go_wp2_with fail
      refine bodyPost_ret (v := .tuple #[insV x0 (x1 / 16) (x1 % 16) (0), .int .i64 2, .int .i64 0]) ?_ rfl ⟨rfl, ?_⟩
      · unfold insV
        simp [results, Tryd.results17, go_sem, M0, M1, M2, M3]
      · exact ((((B2.drew.setCell (by simp) _).setCell (by simp) _).setCell (by simp) _).setCell (by simp) _)

set_option maxHeartbeats 4000000 in
theorem rdec20010 (host : Bool) (blk off len cap : Nat) (x0 x1 x2 x3 x4 x5 : Int) (w : World) (hx0 : w.cell? ⟨blk, off, none⟩ = some (.int .u8 x0)) (hx1 : w.cell? ⟨blk, off + 1, none⟩ = some (.int .u8 x1))
    (b0 : 0 ≤ x0 ∧ x0 < 256) (b1 : 0 ≤ x1 ∧ x1 < 256) (b2 : 0 ≤ x2 ∧ x2 < 256) (b3 : 0 ≤ x3 ∧ x3 < 256) (b4 : 0 ≤ x4 ∧ x4 < 256) (b5 : 0 ≤ x5 ∧ x5 < 256) (hlen : len ≤ 9223372036854775807) (hn : 2 ≤ len) (hf : fm x0 host = ⟨2, 0, 0, 1, 0⟩) (m : Bool) (hm : mayB ⟨2, 0, 0, 1, 0⟩ (regA ⟨2, 0, 0, 1, 0⟩ x1) (regB ⟨2, 0, 0, 1, 0⟩ x1) (numL ⟨2, 0, 0, 1, 0⟩ x1 x2 x3 x4 x5) = m) :
    Calls Tryd.prog 17 #[.slice (some ⟨blk, off, none⟩) len cap, .bool host] w (if m = true then DecPost x0 (regA ⟨2, 0, 0, 1, 0⟩ x1) (regB ⟨2, 0, 0, 1, 0⟩ x1) (numL ⟨2, 0, 0, 1, 0⟩ x1 x2 x3 x4 x5) 2 0 w else DecPost 0 0 0 0 0 21 w) := by
  have HO0 := fun w => refOf_c x0 host w b0.1 b0.2
  rw [hf] at HO0
  have HO := Lib.hid HO0
  clear HO0
  unfold Fm.rval at HO
  simp only [decide_true, decide_false, Int.reduceEq] at HO
  have hnum : numL ⟨2, 0, 0, 1, 0⟩ x1 x2 x3 x4 x5 = x1 := by simp [numL, numF]; try omega
  simp only [show regA ⟨2, 0, 0, 1, 0⟩ x1 = 0 from rfl, show regB ⟨2, 0, 0, 1, 0⟩ x1 = 0 from rfl, hnum] at hm ⊢
  have HM0 := fun w => refMay_c x0 (0) (0) (x1) host w b0.1 b0.2 (by omega) (by omega) (by omega) (by omega) (by omega) (by omega)
  rw [hf, hm] at HM0
  have HM := Lib.hid HM0
  clear HM0 hf hm hnum
  unfold insV at HM
  have hbw : blk < w.heap.size := World.block_lt_of_cell? w _ hx0
  have hpos : (0 : Int) < (len : Int) := by omega
  have hz0 : ((len : Int) == 0) = false := by simp; omega
  have hl : ((len : Int) < 2) = False := by simp; omega
  go_enter Tryd.func17, Tryd.ntmps17
  go_wp2_with fail
  refine (HO.out _).mono ?_
  rintro e w1 ⟨rfl, hb1⟩
  have B1 := below_box hb1
  obtain ⟨hcl, hfz⟩ := bcell hb1
  have s1 : w.heap.size < w1.heap.size := by have := hb1.size; simp at this; omega
  have hbw1 : blk < w1.heap.size := by omega
  have cx0 : w1.cell? ⟨blk, off, none⟩ = some (.int .u8 x0) := (B1.cell (p := ⟨blk, off, none⟩) hbw).trans hx0
  have cx1 : w1.cell? ⟨blk, off + 1, none⟩ = some (.int .u8 x1) := (B1.cell (p := ⟨blk, off + 1, none⟩) hbw).trans hx1
  go_wp2_with fail
  refine wp_loop_rounds 6 ?_
  rw [rounds_succ]
  go_wp2_with fail
  rw [rounds_succ]
  go_wp2_with fail
  refine (HM.out _).mono ?_
  rintro e w2 ⟨rfl, hb2⟩
  have B2 : Below w.heap.size w w2 := below_next ((B1.alloc B1.size _).alloc (by simp; omega) _) hb2
  obtain ⟨hcl2, hfz2⟩ := bcell hb2
  have s2 : w1.heap.size + 1 < w2.heap.size := by have := hb2.size; simp at this; omega
  have s3 : w1.heap.size < w2.heap.size := by omega
  have s4 : w.heap.size < w2.heap.size := by omega
  have M0 : w2.cell? ⟨w.heap.size, 0, none⟩ = some (.int .u8 0) := by rw [hcl2 _ _ (by simp; omega)]; go_simp
  have M1 : w2.cell? ⟨w.heap.size, 1, none⟩ = some (.int .u8 0) := by rw [hcl2 _ _ (by simp; omega)]; go_simp
  have M2 : w2.cell? ⟨w.heap.size, 2, none⟩ = some (.int .u8 0) := by rw [hcl2 _ _ (by simp; omega)]; go_simp
  have M3 : w2.cell? ⟨w.heap.size, 3, none⟩ = some (.int .i32 0) := by rw [hcl2 _ _ (by simp; omega)]; go_simp
  have L0 : w2.frozen? ⟨w.heap.size, 0, none⟩ = false := by rw [hfz2 _ _ (by simp; omega)]; go_simp
  have L1 : w2.frozen? ⟨w.heap.size, 1, none⟩ = false := by rw [hfz2 _ _ (by simp; omega)]; go_simp
  have L2 : w2.frozen? ⟨w.heap.size, 2, none⟩ = false := by rw [hfz2 _ _ (by simp; omega)]; go_simp
  have L3 : w2.frozen? ⟨w.heap.size, 3, none⟩ = false := by rw [hfz2 _ _ (by simp; omega)]; go_simp
  cases m
  · simp only [Bool.false_eq_true, if_false]
    go_wp2_with fail
    refine bodyPost_ret (v := .tuple #[insV 0 0 0 0, .int .i64 0, .int .i64 21]) ?_ rfl ⟨rfl, ?_⟩
    · unfold insV
      simp [results, Tryd.results17, go_sem, M0, M1, M2, M3]
    · exact (((B2.setCell (by simp) _).setCell (by simp) _).setCell (by simp) _).setCell (by simp) _
  · simp only [if_true]
    go_wp2_with fail
    go_region
    all_goals
      go_wp2_with fail
      refine bodyPost_ret (v := .tuple #[insV x0 (0) (0) (x1), .int .i64 2, .int .i64 0]) ?_ rfl ⟨rfl, ?_⟩
      · unfold insV
        simp [results, Tryd.results17, go_sem, M0, M1, M2, M3]
      · exact ((((B2.drew.setCell (by simp) _).setCell (by simp) _).setCell (by simp) _).setCell (by simp) _)

set_option maxHeartbeats 4000000 in
theorem rdec31011 (host : Bool) (blk off len cap : Nat) (x0 x1 x2 x3 x4 x5 : Int) (w : World) (hx0 : w.cell? ⟨blk, off, none⟩ = some (.int .u8 x0)) (hx1 : w.cell? ⟨blk, off + 1, none⟩ = some (.int .u8 x1)) (hx2 : w.cell? ⟨blk, off + 2, none⟩ = some (.int .u8 x2))
    (b0 : 0 ≤ x0 ∧ x0 < 256) (b1 : 0 ≤ x1 ∧ x1 < 256) (b2 : 0 ≤ x2 ∧ x2 < 256) (b3 : 0 ≤ x3 ∧ x3 < 256) (b4 : 0 ≤ x4 ∧ x4 < 256) (b5 : 0 ≤ x5 ∧ x5 < 256) (hlen : len ≤ 9223372036854775807) (hn : 3 ≤ len) (hf : fm x0 host = ⟨3, 1, 0, 1, 1⟩) (m : Bool) (hm : mayB ⟨3, 1, 0, 1, 1⟩ (regA ⟨3, 1, 0, 1, 1⟩ x1) (regB ⟨3, 1, 0, 1, 1⟩ x1) (numL ⟨3, 1, 0, 1, 1⟩ x1 x2 x3 x4 x5) = m) :
    Calls Tryd.prog 17 #[.slice (some ⟨blk, off, none⟩) len cap, .bool host] w (if m = true then DecPost x0 (regA ⟨3, 1, 0, 1, 1⟩ x1) (regB ⟨3, 1, 0, 1, 1⟩ x1) (numL ⟨3, 1, 0, 1, 1⟩ x1 x2 x3 x4 x5) 3 0 w else DecPost 0 0 0 0 0 21 w) := by
  have HO0 := fun w => refOf_c x0 host w b0.1 b0.2
  rw [hf] at HO0
  have HO := Lib.hid HO0
  clear HO0
  unfold Fm.rval at HO
  simp only [decide_true, decide_false, Int.reduceEq] at HO
  by_cases hs : x2 < 128
  · have hnum : numL ⟨3, 1, 0, 1, 1⟩ x1 x2 x3 x4 x5 = x2 := by simp [numL, numF]; try omega
    simp only [show regA ⟨3, 1, 0, 1, 1⟩ x1 = x1 / 16 from rfl, show regB ⟨3, 1, 0, 1, 1⟩ x1 = x1 % 16 from rfl, hnum] at hm ⊢
    have HM0 := fun w => refMay_c x0 (x1 / 16) (x1 % 16) (x2) host w b0.1 b0.2 (by omega) (by omega) (by omega) (by omega) (by omega) (by omega)
    rw [hf, hm] at HM0
    have HM := Lib.hid HM0
    clear HM0 hf hm hnum
    unfold insV at HM
    have hbw : blk < w.heap.size := World.block_lt_of_cell? w _ hx0
    have hpos : (0 : Int) < (len : Int) := by omega
    have hz0 : ((len : Int) == 0) = false := by simp; omega
    have hl : ((len : Int) < 3) = False := by simp; omega
    go_enter Tryd.func17, Tryd.ntmps17
    go_wp2_with fail
    refine (HO.out _).mono ?_
    rintro e w1 ⟨rfl, hb1⟩
    have B1 := below_box hb1
    obtain ⟨hcl, hfz⟩ := bcell hb1
    have s1 : w.heap.size < w1.heap.size := by have := hb1.size; simp at this; omega
    have hbw1 : blk < w1.heap.size := by omega
    have cx0 : w1.cell? ⟨blk, off, none⟩ = some (.int .u8 x0) := (B1.cell (p := ⟨blk, off, none⟩) hbw).trans hx0
    have cx1 : w1.cell? ⟨blk, off + 1, none⟩ = some (.int .u8 x1) := (B1.cell (p := ⟨blk, off + 1, none⟩) hbw).trans hx1
    have cx2 : w1.cell? ⟨blk, off + 2, none⟩ = some (.int .u8 x2) := (B1.cell (p := ⟨blk, off + 2, none⟩) hbw).trans hx2
    go_wp2_with fail
    refine wp_loop_rounds 6 ?_
    rw [rounds_succ]
    go_wp2_with fail
    rw [rounds_succ]
    go_wp2_with fail
    refine (HM.out _).mono ?_
    rintro e w2 ⟨rfl, hb2⟩
    have B2 : Below w.heap.size w w2 := below_next ((B1.alloc B1.size _).alloc (by simp; omega) _) hb2
    obtain ⟨hcl2, hfz2⟩ := bcell hb2
    have s2 : w1.heap.size + 1 < w2.heap.size := by have := hb2.size; simp at this; omega
    have s3 : w1.heap.size < w2.heap.size := by omega
    have s4 : w.heap.size < w2.heap.size := by omega
    have M0 : w2.cell? ⟨w.heap.size, 0, none⟩ = some (.int .u8 0) := by rw [hcl2 _ _ (by simp; omega)]; go_simp
    have M1 : w2.cell? ⟨w.heap.size, 1, none⟩ = some (.int .u8 0) := by rw [hcl2 _ _ (by simp; omega)]; go_simp
    have M2 : w2.cell? ⟨w.heap.size, 2, none⟩ = some (.int .u8 0) := by rw [hcl2 _ _ (by simp; omega)]; go_simp
    have M3 : w2.cell? ⟨w.heap.size, 3, none⟩ = some (.int .i32 0) := by rw [hcl2 _ _ (by simp; omega)]; go_simp
    have L0 : w2.frozen? ⟨w.heap.size, 0, none⟩ = false := by rw [hfz2 _ _ (by simp; omega)]; go_simp
    have L1 : w2.frozen? ⟨w.heap.size, 1, none⟩ = false := by rw [hfz2 _ _ (by simp; omega)]; go_simp
    have L2 : w2.frozen? ⟨w.heap.size, 2, none⟩ = false := by rw [hfz2 _ _ (by simp; omega)]; go_simp
    have L3 : w2.frozen? ⟨w.heap.size, 3, none⟩ = false := by rw [hfz2 _ _ (by simp; omega)]; go_simp
    cases m
    · simp only [Bool.false_eq_true, if_false]
      go_wp2_with fail
      refine bodyPost_ret (v := .tuple #[insV 0 0 0 0, .int .i64 0, .int .i64 21]) ?_ rfl ⟨rfl, ?_⟩
      · unfold insV
        simp [results, Tryd.results17, go_sem, M0, M1, M2, M3]
      · exact (((B2.setCell (by simp) _).setCell (by simp) _).setCell (by simp) _).setCell (by simp) _
    · simp only [if_true]
      go_wp2_with fail
      go_region
      all_goals
        go_wp2_with fail
        refine bodyPost_ret (v := .tuple #[insV x0 (x1 / 16) (x1 % 16) (x2), .int .i64 3, .int .i64 0]) ?_ rfl ⟨rfl, ?_⟩
        · unfold insV
          simp [results, Tryd.results17, go_sem, M0, M1, M2, M3]
        · exact ((((B2.drew.setCell (by simp) _).setCell (by simp) _).setCell (by simp) _).setCell (by simp) _)
  · replace hs : 128 ≤ x2 := by omega
    have hnum : numL ⟨3, 1, 0, 1, 1⟩ x1 x2 x3 x4 x5 = x2 - 256 := by simp [numL, numF]; try omega
    simp only [show regA ⟨3, 1, 0, 1, 1⟩ x1 = x1 / 16 from rfl, show regB ⟨3, 1, 0, 1, 1⟩ x1 = x1 % 16 from rfl, hnum] at hm ⊢
    have HM0 := fun w => refMay_c x0 (x1 / 16) (x1 % 16) (x2 - 256) host w b0.1 b0.2 (by omega) (by omega) (by omega) (by omega) (by omega) (by omega)
    rw [hf, hm] at HM0
    have HM := Lib.hid HM0
    clear HM0 hf hm hnum
    unfold insV at HM
    have hbw : blk < w.heap.size := World.block_lt_of_cell? w _ hx0
    have hpos : (0 : Int) < (len : Int) := by omega
    have hz0 : ((len : Int) == 0) = false := by simp; omega
    have hl : ((len : Int) < 3) = False := by simp; omega
    go_enter Tryd.func17, Tryd.ntmps17
    go_wp2_with fail
    refine (HO.out _).mono ?_
    rintro e w1 ⟨rfl, hb1⟩
    have B1 := below_box hb1
    obtain ⟨hcl, hfz⟩ := bcell hb1
    have s1 : w.heap.size < w1.heap.size := by have := hb1.size; simp at this; omega
    have hbw1 : blk < w1.heap.size := by omega
    have cx0 : w1.cell? ⟨blk, off, none⟩ = some (.int .u8 x0) := (B1.cell (p := ⟨blk, off, none⟩) hbw).trans hx0
    have cx1 : w1.cell? ⟨blk, off + 1, none⟩ = some (.int .u8 x1) := (B1.cell (p := ⟨blk, off + 1, none⟩) hbw).trans hx1
    have cx2 : w1.cell? ⟨blk, off + 2, none⟩ = some (.int .u8 x2) := (B1.cell (p := ⟨blk, off + 2, none⟩) hbw).trans hx2
    go_wp2_with fail
    refine wp_loop_rounds 6 ?_
    rw [rounds_succ]
    go_wp2_with fail
    rw [rounds_succ]
    go_wp2_with fail
    refine (HM.out _).mono ?_
    rintro e w2 ⟨rfl, hb2⟩
    have B2 : Below w.heap.size w w2 := below_next ((B1.alloc B1.size _).alloc (by simp; omega) _) hb2
    obtain ⟨hcl2, hfz2⟩ := bcell hb2
    have s2 : w1.heap.size + 1 < w2.heap.size := by have := hb2.size; simp at this; omega
    have s3 : w1.heap.size < w2.heap.size := by omega
    have s4 : w.heap.size < w2.heap.size := by omega
    have M0 : w2.cell? ⟨w.heap.size, 0, none⟩ = some (.int .u8 0) := by rw [hcl2 _ _ (by simp; omega)]; go_simp
    have M1 : w2.cell? ⟨w.heap.size, 1, none⟩ = some (.int .u8 0) := by rw [hcl2 _ _ (by simp; omega)]; go_simp
    have M2 : w2.cell? ⟨w.heap.size, 2, none⟩ = some (.int .u8 0) := by rw [hcl2 _ _ (by simp; omega)]; go_simp
    have M3 : w2.cell? ⟨w.heap.size, 3, none⟩ = some (.int .i32 0) := by rw [hcl2 _ _ (by simp; omega)]; go_simp
    have L0 : w2.frozen? ⟨w.heap.size, 0, none⟩ = false := by rw [hfz2 _ _ (by simp; omega)]; go_simp
    have L1 : w2.frozen? ⟨w.heap.size, 1, none⟩ = false := by rw [hfz2 _ _ (by simp; omega)]; go_simp
    have L2 : w2.frozen? ⟨w.heap.size, 2, none⟩ = false := by rw [hfz2 _ _ (by simp; omega)]; go_simp
    have L3 : w2.frozen? ⟨w.heap.size, 3, none⟩ = false := by rw [hfz2 _ _ (by simp; omega)]; go_simp
    cases m
    · simp only [Bool.false_eq_true, if_false]
      go_wp2_with fail
      refine bodyPost_ret (v := .tuple #[insV 0 0 0 0, .int .i64 0, .int .i64 21]) ?_ rfl ⟨rfl, ?_⟩
      · unfold insV
        simp [results, Tryd.results17, go_sem, M0, M1, M2, M3]
      · exact (((B2.setCell (by simp) _).setCell (by simp) _).setCell (by simp) _).setCell (by simp) _
    · simp only [if_true]
      go_wp2_with fail
      go_region
      all_goals
        go_wp2_with fail
        refine bodyPost_ret (v := .tuple #[insV x0 (x1 / 16) (x1 % 16) (x2 - 256), .int .i64 3, .int .i64 0]) ?_ rfl ⟨rfl, ?_⟩
        · unfold insV
          simp [results, Tryd.results17, go_sem, M0, M1, M2, M3]
        · exact ((((B2.drew.setCell (by simp) _).setCell (by simp) _).setCell (by simp) _).setCell (by simp) _)

set_option maxHeartbeats 4000000 in
theorem rdec31111 (host : Bool) (blk off len cap : Nat) (x0 x1 x2 x3 x4 x5 : Int) (w : World) (hx0 : w.cell? ⟨blk, off, none⟩ = some (.int .u8 x0)) (hx1 : w.cell? ⟨blk, off + 1, none⟩ = some (.int .u8 x1)) (hx2 : w.cell? ⟨blk, off + 2, none⟩ = some (.int .u8 x2))
    (b0 : 0 ≤ x0 ∧ x0 < 256) (b1 : 0 ≤ x1 ∧ x1 < 256) (b2 : 0 ≤ x2 ∧ x2 < 256) (b3 : 0 ≤ x3 ∧ x3 < 256) (b4 : 0 ≤ x4 ∧ x4 < 256) (b5 : 0 ≤ x5 ∧ x5 < 256) (hlen : len ≤ 9223372036854775807) (hn : 3 ≤ len) (hf : fm x0 host = ⟨3, 1, 1, 1, 1⟩) (m : Bool) (hm : mayB ⟨3, 1, 1, 1, 1⟩ (regA ⟨3, 1, 1, 1, 1⟩ x1) (regB ⟨3, 1, 1, 1, 1⟩ x1) (numL ⟨3, 1, 1, 1, 1⟩ x1 x2 x3 x4 x5) = m) :
    Calls Tryd.prog 17 #[.slice (some ⟨blk, off, none⟩) len cap, .bool host] w (if m = true then DecPost x0 (regA ⟨3, 1, 1, 1, 1⟩ x1) (regB ⟨3, 1, 1, 1, 1⟩ x1) (numL ⟨3, 1, 1, 1, 1⟩ x1 x2 x3 x4 x5) 3 0 w else DecPost 0 0 0 0 0 21 w) := by
  have HO0 := fun w => refOf_c x0 host w b0.1 b0.2
  rw [hf] at HO0
  have HO := Lib.hid HO0
  clear HO0
  unfold Fm.rval at HO
  simp only [decide_true, decide_false, Int.reduceEq] at HO
  by_cases hs : x2 < 128
  · have hnum : numL ⟨3, 1, 1, 1, 1⟩ x1 x2 x3 x4 x5 = x2 := by simp [numL, numF]; try omega
    simp only [show regA ⟨3, 1, 1, 1, 1⟩ x1 = x1 / 16 from rfl, show regB ⟨3, 1, 1, 1, 1⟩ x1 = x1 % 16 from rfl, hnum] at hm ⊢
    have HM0 := fun w => refMay_c x0 (x1 / 16) (x1 % 16) (x2) host w b0.1 b0.2 (by omega) (by omega) (by omega) (by omega) (by omega) (by omega)
    rw [hf, hm] at HM0
    have HM := Lib.hid HM0
    clear HM0 hf hm hnum
    unfold insV at HM
    have hbw : blk < w.heap.size := World.block_lt_of_cell? w _ hx0
    have hpos : (0 : Int) < (len : Int) := by omega
    have hz0 : ((len : Int) == 0) = false := by simp; omega
    have hl : ((len : Int) < 3) = False := by simp; omega
    go_enter Tryd.func17, Tryd.ntmps17
    go_wp2_with fail
    refine (HO.out _).mono ?_
    rintro e w1 ⟨rfl, hb1⟩
    have B1 := below_box hb1
    obtain ⟨hcl, hfz⟩ := bcell hb1
    have s1 : w.heap.size < w1.heap.size := by have := hb1.size; simp at this; omega
    have hbw1 : blk < w1.heap.size := by omega
    have cx0 : w1.cell? ⟨blk, off, none⟩ = some (.int .u8 x0) := (B1.cell (p := ⟨blk, off, none⟩) hbw).trans hx0
    have cx1 : w1.cell? ⟨blk, off + 1, none⟩ = some (.int .u8 x1) := (B1.cell (p := ⟨blk, off + 1, none⟩) hbw).trans hx1
    have cx2 : w1.cell? ⟨blk, off + 2, none⟩ = some (.int .u8 x2) := (B1.cell (p := ⟨blk, off + 2, none⟩) hbw).trans hx2
    go_wp2_with fail
    refine wp_loop_rounds 6 ?_
    rw [rounds_succ]
    go_wp2_with fail
    rw [rounds_succ]
    go_wp2_with fail
    refine (HM.out _).mono ?_
    rintro e w2 ⟨rfl, hb2⟩
    have B2 : Below w.heap.size w w2 := below_next ((B1.alloc B1.size _).alloc (by simp; omega) _) hb2
    obtain ⟨hcl2, hfz2⟩ := bcell hb2
    have s2 : w1.heap.size + 1 < w2.heap.size := by have := hb2.size; simp at this; omega
    have s3 : w1.heap.size < w2.heap.size := by omega
    have s4 : w.heap.size < w2.heap.size := by omega
    have M0 : w2.cell? ⟨w.heap.size, 0, none⟩ = some (.int .u8 0) := by rw [hcl2 _ _ (by simp; omega)]; go_simp
    have M1 : w2.cell? ⟨w.heap.size, 1, none⟩ = some (.int .u8 0) := by rw [hcl2 _ _ (by simp; omega)]; go_simp
    have M2 : w2.cell? ⟨w.heap.size, 2, none⟩ = some (.int .u8 0) := by rw [hcl2 _ _ (by simp; omega)]; go_simp
    have M3 : w2.cell? ⟨w.heap.size, 3, none⟩ = some (.int .i32 0) := by rw [hcl2 _ _ (by simp; omega)]; go_simp
    have L0 : w2.frozen? ⟨w.heap.size, 0, none⟩ = false := by rw [hfz2 _ _ (by simp; omega)]; go_simp
    have L1 : w2.frozen? ⟨w.heap.size, 1, none⟩ = false := by rw [hfz2 _ _ (by simp; omega)]; go_simp
    have L2 : w2.frozen? ⟨w.heap.size, 2, none⟩ = false := by rw [hfz2 _ _ (by simp; omega)]; go_simp
    have L3 : w2.frozen? ⟨w.heap.size, 3, none⟩ = false := by rw [hfz2 _ _ (by simp; omega)]; go_simp
    cases m
    · simp only [Bool.false_eq_true, if_false]
      go_wp2_with fail
      refine bodyPost_ret (v := .tuple #[insV 0 0 0 0, .int .i64 0, .int .i64 21]) ?_ rfl ⟨rfl, ?_⟩
      · unfold insV
        simp [results, Tryd.results17, go_sem, M0, M1, M2, M3]
      · exact (((B2.setCell (by simp) _).setCell (by simp) _).setCell (by simp) _).setCell (by simp) _
    · simp only [if_true]
      go_wp2_with fail
      go_region
      all_goals
        go_wp2_with fail
        refine bodyPost_ret (v := .tuple #[insV x0 (x1 / 16) (x1 % 16) (x2), .int .i64 3, .int .i64 0]) ?_ rfl ⟨rfl, ?_⟩
        · unfold insV
          simp [results, Tryd.results17, go_sem, M0, M1, M2, M3]
        · exact ((((B2.drew.setCell (by simp) _).setCell (by simp) _).setCell (by simp) _).setCell (by simp) _)
  · replace hs : 128 ≤ x2 := by omega
    have hnum : numL ⟨3, 1, 1, 1, 1⟩ x1 x2 x3 x4 x5 = x2 - 256 := by simp [numL, numF]; try omega
    simp only [show regA ⟨3, 1, 1, 1, 1⟩ x1 = x1 / 16 from rfl, show regB ⟨3, 1, 1, 1, 1⟩ x1 = x1 % 16 from rfl, hnum] at hm ⊢
    have HM0 := fun w => refMay_c x0 (x1 / 16) (x1 % 16) (x2 - 256) host w b0.1 b0.2 (by omega) (by omega) (by omega) (by omega) (by omega) (by omega)
    rw [hf, hm] at HM0
    have HM := Lib.hid HM0
    clear HM0 hf hm hnum
    unfold insV at HM
    have hbw : blk < w.heap.size := World.block_lt_of_cell? w _ hx0
    have hpos : (0 : Int) < (len : Int) := by omega
    have hz0 : ((len : Int) == 0) = false := by simp; omega
    have hl : ((len : Int) < 3) = False := by simp; omega
    go_enter Tryd.func17, Tryd.ntmps17
    go_wp2_with fail
    refine (HO.out _).mono ?_
    rintro e w1 ⟨rfl, hb1⟩
    have B1 := below_box hb1
    obtain ⟨hcl, hfz⟩ := bcell hb1
    have s1 : w.heap.size < w1.heap.size := by have := hb1.size; simp at this; omega
    have hbw1 : blk < w1.heap.size := by omega
    have cx0 : w1.cell? ⟨blk, off, none⟩ = some (.int .u8 x0) := (B1.cell (p := ⟨blk, off, none⟩) hbw).trans hx0
    have cx1 : w1.cell? ⟨blk, off + 1, none⟩ = some (.int .u8 x1) := (B1.cell (p := ⟨blk, off + 1, none⟩) hbw).trans hx1
    have cx2 : w1.cell? ⟨blk, off + 2, none⟩ = some (.int .u8 x2) := (B1.cell (p := ⟨blk, off + 2, none⟩) hbw).trans hx2
    go_wp2_with fail
    refine wp_loop_rounds 6 ?_
    rw [rounds_succ]
    go_wp2_with fail
    rw [rounds_succ]
    go_wp2_with fail
    refine (HM.out _).mono ?_
    rintro e w2 ⟨rfl, hb2⟩
    have B2 : Below w.heap.size w w2 := below_next ((B1.alloc B1.size _).alloc (by simp; omega) _) hb2
    obtain ⟨hcl2, hfz2⟩ := bcell hb2
    have s2 : w1.heap.size + 1 < w2.heap.size := by have := hb2.size; simp at this; omega
    have s3 : w1.heap.size < w2.heap.size := by omega
    have s4 : w.heap.size < w2.heap.size := by omega
    have M0 : w2.cell? ⟨w.heap.size, 0, none⟩ = some (.int .u8 0) := by rw [hcl2 _ _ (by simp; omega)]; go_simp
    have M1 : w2.cell? ⟨w.heap.size, 1, none⟩ = some (.int .u8 0) := by rw [hcl2 _ _ (by simp; omega)]; go_simp
    have M2 : w2.cell? ⟨w.heap.size, 2, none⟩ = some (.int .u8 0) := by rw [hcl2 _ _ (by simp; omega)]; go_simp
    have M3 : w2.cell? ⟨w.heap.size, 3, none⟩ = some (.int .i32 0) := by rw [hcl2 _ _ (by simp; omega)]; go_simp
    have L0 : w2.frozen? ⟨w.heap.size, 0, none⟩ = false := by rw [hfz2 _ _ (by simp; omega)]; go_simp
    have L1 : w2.frozen? ⟨w.heap.size, 1, none⟩ = false := by rw [hfz2 _ _ (by simp; omega)]; go_simp
    have L2 : w2.frozen? ⟨w.heap.size, 2, none⟩ = false := by rw [hfz2 _ _ (by simp; omega)]; go_simp
    have L3 : w2.frozen? ⟨w.heap.size, 3, none⟩ = false := by rw [hfz2 _ _ (by simp; omega)]; go_simp
    cases m
    · simp only [Bool.false_eq_true, if_false]
      go_wp2_with fail
      refine bodyPost_ret (v := .tuple #[insV 0 0 0 0, .int .i64 0, .int .i64 21]) ?_ rfl ⟨rfl, ?_⟩
      · unfold insV
        simp [results, Tryd.results17, go_sem, M0, M1, M2, M3]
      · exact (((B2.setCell (by simp) _).setCell (by simp) _).setCell (by simp) _).setCell (by simp) _
    · simp only [if_true]
      go_wp2_with fail
      go_region
      all_goals
        go_wp2_with fail
        refine bodyPost_ret (v := .tuple #[insV x0 (x1 / 16) (x1 % 16) (x2 - 256), .int .i64 3, .int .i64 0]) ?_ rfl ⟨rfl, ?_⟩
        · unfold insV
          simp [results, Tryd.results17, go_sem, M0, M1, M2, M3]
        · exact ((((B2.drew.setCell (by simp) _).setCell (by simp) _).setCell (by simp) _).setCell (by simp) _)

set_option maxHeartbeats 4000000 in
theorem rdec30021 (host : Bool) (blk off len cap : Nat) (x0 x1 x2 x3 x4 x5 : Int) (w : World) (hx0 : w.cell? ⟨blk, off, none⟩ = some (.int .u8 x0)) (hx1 : w.cell? ⟨blk, off + 1, none⟩ = some (.int .u8 x1)) (hx2 : w.cell? ⟨blk, off + 2, none⟩ = some (.int .u8 x2))
    (b0 : 0 ≤ x0 ∧ x0 < 256) (b1 : 0 ≤ x1 ∧ x1 < 256) (b2 : 0 ≤ x2 ∧ x2 < 256) (b3 : 0 ≤ x3 ∧ x3 < 256) (b4 : 0 ≤ x4 ∧ x4 < 256) (b5 : 0 ≤ x5 ∧ x5 < 256) (hlen : len ≤ 9223372036854775807) (hn : 3 ≤ len) (hf : fm x0 host = ⟨3, 0, 0, 2, 1⟩) (m : Bool) (hm : mayB ⟨3, 0, 0, 2, 1⟩ (regA ⟨3, 0, 0, 2, 1⟩ x1) (regB ⟨3, 0, 0, 2, 1⟩ x1) (numL ⟨3, 0, 0, 2, 1⟩ x1 x2 x3 x4 x5) = m) :
    Calls Tryd.prog 17 #[.slice (some ⟨blk, off, none⟩) len cap, .bool host] w (if m = true then DecPost x0 (regA ⟨3, 0, 0, 2, 1⟩ x1) (regB ⟨3, 0, 0, 2, 1⟩ x1) (numL ⟨3, 0, 0, 2, 1⟩ x1 x2 x3 x4 x5) 3 0 w else DecPost 0 0 0 0 0 21 w) := by
  have HO0 := fun w => refOf_c x0 host w b0.1 b0.2
  rw [hf] at HO0
  have HO := Lib.hid HO0
  clear HO0
  unfold Fm.rval at HO
  simp only [decide_true, decide_false, Int.reduceEq] at HO
  by_cases hs : x1 + 256 * x2 < 32768
  · have hnum : numL ⟨3, 0, 0, 2, 1⟩ x1 x2 x3 x4 x5 = x1 + 256 * x2 := by simp [numL, numF]; try omega
    simp only [show regA ⟨3, 0, 0, 2, 1⟩ x1 = 0 from rfl, show regB ⟨3, 0, 0, 2, 1⟩ x1 = 0 from rfl, hnum] at hm ⊢
    have HM0 := fun w => refMay_c x0 (0) (0) (x1 + 256 * x2) host w b0.1 b0.2 (by omega) (by omega) (by omega) (by omega) (by omega) (by omega)
    rw [hf, hm] at HM0
    have HM := Lib.hid HM0
    clear HM0 hf hm hnum
    unfold insV at HM
    have hbw : blk < w.heap.size := World.block_lt_of_cell? w _ hx0
    have hpos : (0 : Int) < (len : Int) := by omega
    have hz0 : ((len : Int) == 0) = false := by simp; omega
    have hl : ((len : Int) < 3) = False := by simp; omega
    go_enter Tryd.func17, Tryd.ntmps17
    go_wp2_with fail
    refine (HO.out _).mono ?_
    rintro e w1 ⟨rfl, hb1⟩
    have B1 := below_box hb1
    obtain ⟨hcl, hfz⟩ := bcell hb1
    have s1 : w.heap.size < w1.heap.size := by have := hb1.size; simp at this; omega
    have hbw1 : blk < w1.heap.size := by omega
    have cx0 : w1.cell? ⟨blk, off, none⟩ = some (.int .u8 x0) := (B1.cell (p := ⟨blk, off, none⟩) hbw).trans hx0
    have cx1 : w1.cell? ⟨blk, off + 1, none⟩ = some (.int .u8 x1) := (B1.cell (p := ⟨blk, off + 1, none⟩) hbw).trans hx1
    have cx2 : w1.cell? ⟨blk, off + 2, none⟩ = some (.int .u8 x2) := (B1.cell (p := ⟨blk, off + 2, none⟩) hbw).trans hx2
    go_wp2_with fail
    refine wp_loop_rounds 6 ?_
    rw [rounds_succ]
    go_wp2_with fail
    rw [rounds_succ]
    go_wp2_with fail
    rw [rounds_succ]
    go_wp2_with fail
    refine (HM.out _).mono ?_
    rintro e w2 ⟨rfl, hb2⟩
    have B2 : Below w.heap.size w w2 := below_next ((B1.alloc B1.size _).alloc (by simp; omega) _) hb2
    obtain ⟨hcl2, hfz2⟩ := bcell hb2
    have s2 : w1.heap.size + 1 < w2.heap.size := by have := hb2.size; simp at this; omega
    have s3 : w1.heap.size < w2.heap.size := by omega
    have s4 : w.heap.size < w2.heap.size := by omega
    have M0 : w2.cell? ⟨w.heap.size, 0, none⟩ = some (.int .u8 0) := by rw [hcl2 _ _ (by simp; omega)]; go_simp
    have M1 : w2.cell? ⟨w.heap.size, 1, none⟩ = some (.int .u8 0) := by rw [hcl2 _ _ (by simp; omega)]; go_simp
    have M2 : w2.cell? ⟨w.heap.size, 2, none⟩ = some (.int .u8 0) := by rw [hcl2 _ _ (by simp; omega)]; go_simp
    have M3 : w2.cell? ⟨w.heap.size, 3, none⟩ = some (.int .i32 0) := by rw [hcl2 _ _ (by simp; omega)]; go_simp
    have L0 : w2.frozen? ⟨w.heap.size, 0, none⟩ = false := by rw [hfz2 _ _ (by simp; omega)]; go_simp
    have L1 : w2.frozen? ⟨w.heap.size, 1, none⟩ = false := by rw [hfz2 _ _ (by simp; omega)]; go_simp
    have L2 : w2.frozen? ⟨w.heap.size, 2, none⟩ = false := by rw [hfz2 _ _ (by simp; omega)]; go_simp
    have L3 : w2.frozen? ⟨w.heap.size, 3, none⟩ = false := by rw [hfz2 _ _ (by simp; omega)]; go_simp
    cases m
    · simp only [Bool.false_eq_true, if_false]
      go_wp2_with fail
      refine bodyPost_ret (v := .tuple #[insV 0 0 0 0, .int .i64 0, .int .i64 21]) ?_ rfl ⟨rfl, ?_⟩
      · unfold insV
        simp [results, Tryd.results17, go_sem, M0, M1, M2, M3]
      · exact (((B2.setCell (by simp) _).setCell (by simp) _).setCell (by simp) _).setCell (by simp) _
    · simp only [if_true]
      go_wp2_with fail
      go_region
      all_goals
        go_wp2_with fail
        refine bodyPost_ret (v := .tuple #[insV x0 (0) (0) (x1 + 256 * x2), .int .i64 3, .int .i64 0]) ?_ rfl ⟨rfl, ?_⟩
        · unfold insV
          simp [results, Tryd.results17, go_sem, M0, M1, M2, M3]
        · exact ((((B2.drew.setCell (by simp) _).setCell (by simp) _).setCell (by simp) _).setCell (by simp) _)
  · replace hs : 32768 ≤ x1 + 256 * x2 := by omega
    have hnum : numL ⟨3, 0, 0, 2, 1⟩ x1 x2 x3 x4 x5 = x1 + 256 * x2 - 65536 := by simp [numL, numF]; try omega
    simp only [show regA ⟨3, 0, 0, 2, 1⟩ x1 = 0 from rfl, show regB ⟨3, 0, 0, 2, 1⟩ x1 = 0 from rfl, hnum] at hm ⊢
    have HM0 := fun w => refMay_c x0 (0) (0) (x1 + 256 * x2 - 65536) host w b0.1 b0.2 (by omega) (by omega) (by omega) (by omega) (by omega) (by omega)
    rw [hf, hm] at HM0
    have HM := Lib.hid HM0
    clear HM0 hf hm hnum
    unfold insV at HM
    have hbw : blk < w.heap.size := World.block_lt_of_cell? w _ hx0
    have hpos : (0 : Int) < (len : Int) := by omega
    have hz0 : ((len : Int) == 0) = false := by simp; omega
    have hl : ((len : Int) < 3) = False := by simp; omega
    go_enter Tryd.func17, Tryd.ntmps17
    go_wp2_with fail
    refine (HO.out _).mono ?_
    rintro e w1 ⟨rfl, hb1⟩
    have B1 := below_box hb1
    obtain ⟨hcl, hfz⟩ := bcell hb1
    have s1 : w.heap.size < w1.heap.size := by have := hb1.size; simp at this; omega
    have hbw1 : blk < w1.heap.size := by omega
    have cx0 : w1.cell? ⟨blk, off, none⟩ = some (.int .u8 x0) := (B1.cell (p := ⟨blk, off, none⟩) hbw).trans hx0
    have cx1 : w1.cell? ⟨blk, off + 1, none⟩ = some (.int .u8 x1) := (B1.cell (p := ⟨blk, off + 1, none⟩) hbw).trans hx1
    have cx2 : w1.cell? ⟨blk, off + 2, none⟩ = some (.int .u8 x2) := (B1.cell (p := ⟨blk, off + 2, none⟩) hbw).trans hx2
    go_wp2_with fail
    refine wp_loop_rounds 6 ?_
    rw [rounds_succ]
    go_wp2_with fail
    rw [rounds_succ]
    go_wp2_with fail
    rw [rounds_succ]
    go_wp2_with fail
    refine (HM.out _).mono ?_
    rintro e w2 ⟨rfl, hb2⟩
    have B2 : Below w.heap.size w w2 := below_next ((B1.alloc B1.size _).alloc (by simp; omega) _) hb2
    obtain ⟨hcl2, hfz2⟩ := bcell hb2
    have s2 : w1.heap.size + 1 < w2.heap.size := by have := hb2.size; simp at this; omega
    have s3 : w1.heap.size < w2.heap.size := by omega
    have s4 : w.heap.size < w2.heap.size := by omega
    have M0 : w2.cell? ⟨w.heap.size, 0, none⟩ = some (.int .u8 0) := by rw [hcl2 _ _ (by simp; omega)]; go_simp
    have M1 : w2.cell? ⟨w.heap.size, 1, none⟩ = some (.int .u8 0) := by rw [hcl2 _ _ (by simp; omega)]; go_simp
    have M2 : w2.cell? ⟨w.heap.size, 2, none⟩ = some (.int .u8 0) := by rw [hcl2 _ _ (by simp; omega)]; go_simp
    have M3 : w2.cell? ⟨w.heap.size, 3, none⟩ = some (.int .i32 0) := by rw [hcl2 _ _ (by simp; omega)]; go_simp
    have L0 : w2.frozen? ⟨w.heap.size, 0, none⟩ = false := by rw [hfz2 _ _ (by simp; omega)]; go_simp
    have L1 : w2.frozen? ⟨w.heap.size, 1, none⟩ = false := by rw [hfz2 _ _ (by simp; omega)]; go_simp
    have L2 : w2.frozen? ⟨w.heap.size, 2, none⟩ = false := by rw [hfz2 _ _ (by simp; omega)]; go_simp
    have L3 : w2.frozen? ⟨w.heap.size, 3, none⟩ = false := by rw [hfz2 _ _ (by simp; omega)]; go_simp
    cases m
    · simp only [Bool.false_eq_true, if_false]
      go_wp2_with fail
      refine bodyPost_ret (v := .tuple #[insV 0 0 0 0, .int .i64 0, .int .i64 21]) ?_ rfl ⟨rfl, ?_⟩
      · unfold insV
        simp [results, Tryd.results17, go_sem, M0, M1, M2, M3]
      · exact (((B2.setCell (by simp) _).setCell (by simp) _).setCell (by simp) _).setCell (by simp) _
    · simp only [if_true]
      go_wp2_with fail
      go_region
      all_goals
        go_wp2_with fail
        refine bodyPost_ret (v := .tuple #[insV x0 (0) (0) (x1 + 256 * x2 - 65536), .int .i64 3, .int .i64 0]) ?_ rfl ⟨rfl, ?_⟩
        · unfold insV
          simp [results, Tryd.results17, go_sem, M0, M1, M2, M3]
        · exact ((((B2.drew.setCell (by simp) _).setCell (by simp) _).setCell (by simp) _).setCell (by simp) _)

set_option maxHeartbeats 4000000 in
theorem rdec30020 (host : Bool) (blk off len cap : Nat) (x0 x1 x2 x3 x4 x5 : Int) (w : World) (hx0 : w.cell? ⟨blk, off, none⟩ = some (.int .u8 x0)) (hx1 : w.cell? ⟨blk, off + 1, none⟩ = some (.int .u8 x1)) (hx2 : w.cell? ⟨blk, off + 2, none⟩ = some (.int .u8 x2))
    (b0 : 0 ≤ x0 ∧ x0 < 256) (b1 : 0 ≤ x1 ∧ x1 < 256) (b2 : 0 ≤ x2 ∧ x2 < 256) (b3 : 0 ≤ x3 ∧ x3 < 256) (b4 : 0 ≤ x4 ∧ x4 < 256) (b5 : 0 ≤ x5 ∧ x5 < 256) (hlen : len ≤ 9223372036854775807) (hn : 3 ≤ len) (hf : fm x0 host = ⟨3, 0, 0, 2, 0⟩) (m : Bool) (hm : mayB ⟨3, 0, 0, 2, 0⟩ (regA ⟨3, 0, 0, 2, 0⟩ x1) (regB ⟨3, 0, 0, 2, 0⟩ x1) (numL ⟨3, 0, 0, 2, 0⟩ x1 x2 x3 x4 x5) = m) :
    Calls Tryd.prog 17 #[.slice (some ⟨blk, off, none⟩) len cap, .bool host] w (if m = true then DecPost x0 (regA ⟨3, 0, 0, 2, 0⟩ x1) (regB ⟨3, 0, 0, 2, 0⟩ x1) (numL ⟨3, 0, 0, 2, 0⟩ x1 x2 x3 x4 x5) 3 0 w else DecPost 0 0 0 0 0 21 w) := by
  have HO0 := fun w => refOf_c x0 host w b0.1 b0.2
  rw [hf] at HO0
  have HO := Lib.hid HO0
  clear HO0
  unfold Fm.rval at HO
  simp only [decide_true, decide_false, Int.reduceEq] at HO
  have hnum : numL ⟨3, 0, 0, 2, 0⟩ x1 x2 x3 x4 x5 = x1 + 256 * x2 := by simp [numL, numF]; try omega
  simp only [show regA ⟨3, 0, 0, 2, 0⟩ x1 = 0 from rfl, show regB ⟨3, 0, 0, 2, 0⟩ x1 = 0 from rfl, hnum] at hm ⊢
  have HM0 := fun w => refMay_c x0 (0) (0) (x1 + 256 * x2) host w b0.1 b0.2 (by omega) (by omega) (by omega) (by omega) (by omega) (by omega)
  rw [hf, hm] at HM0
  have HM := Lib.hid HM0
  clear HM0 hf hm hnum
  unfold insV at HM
  have hbw : blk < w.heap.size := World.block_lt_of_cell? w _ hx0
  have hpos : (0 : Int) < (len : Int) := by omega
  have hz0 : ((len : Int) == 0) = false := by simp; omega
  have hl : ((len : Int) < 3) = False := by simp; omega
  go_enter Tryd.func17, Tryd.ntmps17
  go_wp2_with fail
  refine (HO.out _).mono ?_
  rintro e w1 ⟨rfl, hb1⟩
  have B1 := below_box hb1
  obtain ⟨hcl, hfz⟩ := bcell hb1
  have s1 : w.heap.size < w1.heap.size := by have := hb1.size; simp at this; omega
  have hbw1 : blk < w1.heap.size := by omega
  have cx0 : w1.cell? ⟨blk, off, none⟩ = some (.int .u8 x0) := (B1.cell (p := ⟨blk, off, none⟩) hbw).trans hx0
  have cx1 : w1.cell? ⟨blk, off + 1, none⟩ = some (.int .u8 x1) := (B1.cell (p := ⟨blk, off + 1, none⟩) hbw).trans hx1
  have cx2 : w1.cell? ⟨blk, off + 2, none⟩ = some (.int .u8 x2) := (B1.cell (p := ⟨blk, off + 2, none⟩) hbw).trans hx2
  go_wp2_with fail
  refine wp_loop_rounds 6 ?_
  rw [rounds_succ]
  go_wp2_with fail
  rw [rounds_succ]
  go_wp2_with fail
  rw [rounds_succ]
  go_wp2_with fail
  refine (HM.out _).mono ?_
  rintro e w2 ⟨rfl, hb2⟩
  have B2 : Below w.heap.size w w2 := below_next ((B1.alloc B1.size _).alloc (by simp; omega) _) hb2
  obtain ⟨hcl2, hfz2⟩ := bcell hb2
  have s2 : w1.heap.size + 1 < w2.heap.size := by have := hb2.size; simp at this; omega
  have s3 : w1.heap.size < w2.heap.size := by omega
  have s4 : w.heap.size < w2.heap.size := by omega
  have M0 : w2.cell? ⟨w.heap.size, 0, none⟩ = some (.int .u8 0) := by rw [hcl2 _ _ (by simp; omega)]; go_simp
  have M1 : w2.cell? ⟨w.heap.size, 1, none⟩ = some (.int .u8 0) := by rw [hcl2 _ _ (by simp; omega)]; go_simp
  have M2 : w2.cell? ⟨w.heap.size, 2, none⟩ = some (.int .u8 0) := by rw [hcl2 _ _ (by simp; omega)]; go_simp
  have M3 : w2.cell? ⟨w.heap.size, 3, none⟩ = some (.int .i32 0) := by rw [hcl2 _ _ (by simp; omega)]; go_simp
  have L0 : w2.frozen? ⟨w.heap.size, 0, none⟩ = false := by rw [hfz2 _ _ (by simp; omega)]; go_simp
  have L1 : w2.frozen? ⟨w.heap.size, 1, none⟩ = false := by rw [hfz2 _ _ (by simp; omega)]; go_simp
  have L2 : w2.frozen? ⟨w.heap.size, 2, none⟩ = false := by rw [hfz2 _ _ (by simp; omega)]; go_simp
  have L3 : w2.frozen? ⟨w.heap.size, 3, none⟩ = false := by rw [hfz2 _ _ (by simp; omega)]; go_simp
  cases m
  · simp only [Bool.false_eq_true, if_false]
    go_wp2_with fail
    refine bodyPost_ret (v := .tuple #[insV 0 0 0 0, .int .i64 0, .int .i64 21]) ?_ rfl ⟨rfl, ?_⟩
    · unfold insV
      simp [results, Tryd.results17, go_sem, M0, M1, M2, M3]
    · exact (((B2.setCell (by simp) _).setCell (by simp) _).setCell (by simp) _).setCell (by simp) _
  · simp only [if_true]
    go_wp2_with fail
    go_region
    all_goals
      go_wp2_with fail
      refine bodyPost_ret (v := .tuple #[insV x0 (0) (0) (x1 + 256 * x2), .int .i64 3, .int .i64 0]) ?_ rfl ⟨rfl, ?_⟩
      · unfold insV
        simp [results, Tryd.results17, go_sem, M0, M1, M2, M3]
      · exact ((((B2.drew.setCell (by simp) _).setCell (by simp) _).setCell (by simp) _).setCell (by simp) _)

set_option maxHeartbeats 4000000 in
theorem rdec61041 (host : Bool) (blk off len cap : Nat) (x0 x1 x2 x3 x4 x5 : Int) (w : World) (hx0 : w.cell? ⟨blk, off, none⟩ = some (.int .u8 x0)) (hx1 : w.cell? ⟨blk, off + 1, none⟩ = some (.int .u8 x1)) (hx2 : w.cell? ⟨blk, off + 2, none⟩ = some (.int .u8 x2)) (hx3 : w.cell? ⟨blk, off + 3, none⟩ = some (.int .u8 x3)) (hx4 : w.cell? ⟨blk, off + 4, none⟩ = some (.int .u8 x4)) (hx5 : w.cell? ⟨blk, off + 5, none⟩ = some (.int .u8 x5))
    (b0 : 0 ≤ x0 ∧ x0 < 256) (b1 : 0 ≤ x1 ∧ x1 < 256) (b2 : 0 ≤ x2 ∧ x2 < 256) (b3 : 0 ≤ x3 ∧ x3 < 256) (b4 : 0 ≤ x4 ∧ x4 < 256) (b5 : 0 ≤ x5 ∧ x5 < 256) (hlen : len ≤ 9223372036854775807) (hn : 6 ≤ len) (hf : fm x0 host = ⟨6, 1, 0, 4, 1⟩) (m : Bool) (hm : mayB ⟨6, 1, 0, 4, 1⟩ (regA ⟨6, 1, 0, 4, 1⟩ x1) (regB ⟨6, 1, 0, 4, 1⟩ x1) (numL ⟨6, 1, 0, 4, 1⟩ x1 x2 x3 x4 x5) = m) :
    Calls Tryd.prog 17 #[.slice (some ⟨blk, off, none⟩) len cap, .bool host] w (if m = true then DecPost x0 (regA ⟨6, 1, 0, 4, 1⟩ x1) (regB ⟨6, 1, 0, 4, 1⟩ x1) (numL ⟨6, 1, 0, 4, 1⟩ x1 x2 x3 x4 x5) 6 0 w else DecPost 0 0 0 0 0 21 w) := by
  have HO0 := fun w => refOf_c x0 host w b0.1 b0.2
  rw [hf] at HO0
  have HO := Lib.hid HO0
  clear HO0
  unfold Fm.rval at HO
  simp only [decide_true, decide_false, Int.reduceEq] at HO
  by_cases hs : x2 + 256 * x3 + 65536 * x4 + 16777216 * x5 < 2147483648
  · have hnum : numL ⟨6, 1, 0, 4, 1⟩ x1 x2 x3 x4 x5 = x2 + 256 * x3 + 65536 * x4 + 16777216 * x5 := by simp [numL, numF]; try omega
    simp only [show regA ⟨6, 1, 0, 4, 1⟩ x1 = x1 / 16 from rfl, show regB ⟨6, 1, 0, 4, 1⟩ x1 = x1 % 16 from rfl, hnum] at hm ⊢
    have HM0 := fun w => refMay_c x0 (x1 / 16) (x1 % 16) (x2 + 256 * x3 + 65536 * x4 + 16777216 * x5) host w b0.1 b0.2 (by omega) (by omega) (by omega) (by omega) (by omega) (by omega)
    rw [hf, hm] at HM0
    have HM := Lib.hid HM0
    clear HM0 hf hm hnum
    unfold insV at HM
    have hbw : blk < w.heap.size := World.block_lt_of_cell? w _ hx0
    have hpos : (0 : Int) < (len : Int) := by omega
    have hz0 : ((len : Int) == 0) = false := by simp; omega
    have hl : ((len : Int) < 6) = False := by simp; omega
    go_enter Tryd.func17, Tryd.ntmps17
    go_wp2_with fail
    refine (HO.out _).mono ?_
    rintro e w1 ⟨rfl, hb1⟩
    have B1 := below_box hb1
    obtain ⟨hcl, hfz⟩ := bcell hb1
    have s1 : w.heap.size < w1.heap.size := by have := hb1.size; simp at this; omega
    have hbw1 : blk < w1.heap.size := by omega
    have cx0 : w1.cell? ⟨blk, off, none⟩ = some (.int .u8 x0) := (B1.cell (p := ⟨blk, off, none⟩) hbw).trans hx0
    have cx1 : w1.cell? ⟨blk, off + 1, none⟩ = some (.int .u8 x1) := (B1.cell (p := ⟨blk, off + 1, none⟩) hbw).trans hx1
    have cx2 : w1.cell? ⟨blk, off + 2, none⟩ = some (.int .u8 x2) := (B1.cell (p := ⟨blk, off + 2, none⟩) hbw).trans hx2
    have cx3 : w1.cell? ⟨blk, off + 3, none⟩ = some (.int .u8 x3) := (B1.cell (p := ⟨blk, off + 3, none⟩) hbw).trans hx3
    have cx4 : w1.cell? ⟨blk, off + 4, none⟩ = some (.int .u8 x4) := (B1.cell (p := ⟨blk, off + 4, none⟩) hbw).trans hx4
    have cx5 : w1.cell? ⟨blk, off + 5, none⟩ = some (.int .u8 x5) := (B1.cell (p := ⟨blk, off + 5, none⟩) hbw).trans hx5
    go_wp2_with fail
    refine wp_loop_rounds 6 ?_
    rw [rounds_succ]
    go_wp2_with fail
    rw [rounds_succ]
    go_wp2_with fail
    rw [rounds_succ]
    go_wp2_with fail
    rw [rounds_succ]
    go_wp2_with fail
    rw [rounds_succ]
    go_wp2_with fail
    refine (HM.out _).mono ?_
    rintro e w2 ⟨rfl, hb2⟩
    have B2 : Below w.heap.size w w2 := below_next ((B1.alloc B1.size _).alloc (by simp; omega) _) hb2
    obtain ⟨hcl2, hfz2⟩ := bcell hb2
    have s2 : w1.heap.size + 1 < w2.heap.size := by have := hb2.size; simp at this; omega
    have s3 : w1.heap.size < w2.heap.size := by omega
    have s4 : w.heap.size < w2.heap.size := by omega
    have M0 : w2.cell? ⟨w.heap.size, 0, none⟩ = some (.int .u8 0) := by rw [hcl2 _ _ (by simp; omega)]; go_simp
    have M1 : w2.cell? ⟨w.heap.size, 1, none⟩ = some (.int .u8 0) := by rw [hcl2 _ _ (by simp; omega)]; go_simp
    have M2 : w2.cell? ⟨w.heap.size, 2, none⟩ = some (.int .u8 0) := by rw [hcl2 _ _ (by simp; omega)]; go_simp
    have M3 : w2.cell? ⟨w.heap.size, 3, none⟩ = some (.int .i32 0) := by rw [hcl2 _ _ (by simp; omega)]; go_simp
    have L0 : w2.frozen? ⟨w.heap.size, 0, none⟩ = false := by rw [hfz2 _ _ (by simp; omega)]; go_simp
    have L1 : w2.frozen? ⟨w.heap.size, 1, none⟩ = false := by rw [hfz2 _ _ (by simp; omega)]; go_simp
    have L2 : w2.frozen? ⟨w.heap.size, 2, none⟩ = false := by rw [hfz2 _ _ (by simp; omega)]; go_simp
    have L3 : w2.frozen? ⟨w.heap.size, 3, none⟩ = false := by rw [hfz2 _ _ (by simp; omega)]; go_simp
    cases m
    · simp only [Bool.false_eq_true, if_false]
      go_wp2_with fail
      refine bodyPost_ret (v := .tuple #[insV 0 0 0 0, .int .i64 0, .int .i64 21]) ?_ rfl ⟨rfl, ?_⟩
      · unfold insV
        simp [results, Tryd.results17, go_sem, M0, M1, M2, M3]
      · exact (((B2.setCell (by simp) _).setCell (by simp) _).setCell (by simp) _).setCell (by simp) _
    · simp only [if_true]
      go_wp2_with fail
      go_region
      all_goals
        go_wp2_with fail
        refine bodyPost_ret (v := .tuple #[insV x0 (x1 / 16) (x1 % 16) (x2 + 256 * x3 + 65536 * x4 + 16777216 * x5), .int .i64 6, .int .i64 0]) ?_ rfl ⟨rfl, ?_⟩
        · unfold insV
          simp [results, Tryd.results17, go_sem, M0, M1, M2, M3]
        · exact ((((B2.drew.setCell (by simp) _).setCell (by simp) _).setCell (by simp) _).setCell (by simp) _)
  · replace hs : 2147483648 ≤ x2 + 256 * x3 + 65536 * x4 + 16777216 * x5 := by omega
    have hnum : numL ⟨6, 1, 0, 4, 1⟩ x1 x2 x3 x4 x5 = x2 + 256 * x3 + 65536 * x4 + 16777216 * x5 - 4294967296 := by simp [numL, numF]; try omega
    simp only [show regA ⟨6, 1, 0, 4, 1⟩ x1 = x1 / 16 from rfl, show regB ⟨6, 1, 0, 4, 1⟩ x1 = x1 % 16 from rfl, hnum] at hm ⊢
    have HM0 := fun w => refMay_c x0 (x1 / 16) (x1 % 16) (x2 + 256 * x3 + 65536 * x4 + 16777216 * x5 - 4294967296) host w b0.1 b0.2 (by omega) (by omega) (by omega) (by omega) (by omega) (by omega)
    rw [hf, hm] at HM0
    have HM := Lib.hid HM0
    clear HM0 hf hm hnum
    unfold insV at HM
    have hbw : blk < w.heap.size := World.block_lt_of_cell? w _ hx0
    have hpos : (0 : Int) < (len : Int) := by omega
    have hz0 : ((len : Int) == 0) = false := by simp; omega
    have hl : ((len : Int) < 6) = False := by simp; omega
    go_enter Tryd.func17, Tryd.ntmps17
    go_wp2_with fail
    refine (HO.out _).mono ?_
    rintro e w1 ⟨rfl, hb1⟩
    have B1 := below_box hb1
    obtain ⟨hcl, hfz⟩ := bcell hb1
    have s1 : w.heap.size < w1.heap.size := by have := hb1.size; simp at this; omega
    have hbw1 : blk < w1.heap.size := by omega
    have cx0 : w1.cell? ⟨blk, off, none⟩ = some (.int .u8 x0) := (B1.cell (p := ⟨blk, off, none⟩) hbw).trans hx0
    have cx1 : w1.cell? ⟨blk, off + 1, none⟩ = some (.int .u8 x1) := (B1.cell (p := ⟨blk, off + 1, none⟩) hbw).trans hx1
    have cx2 : w1.cell? ⟨blk, off + 2, none⟩ = some (.int .u8 x2) := (B1.cell (p := ⟨blk, off + 2, none⟩) hbw).trans hx2
    have cx3 : w1.cell? ⟨blk, off + 3, none⟩ = some (.int .u8 x3) := (B1.cell (p := ⟨blk, off + 3, none⟩) hbw).trans hx3
    have cx4 : w1.cell? ⟨blk, off + 4, none⟩ = some (.int .u8 x4) := (B1.cell (p := ⟨blk, off + 4, none⟩) hbw).trans hx4
    have cx5 : w1.cell? ⟨blk, off + 5, none⟩ = some (.int .u8 x5) := (B1.cell (p := ⟨blk, off + 5, none⟩) hbw).trans hx5
    go_wp2_with fail
    refine wp_loop_rounds 6 ?_
    rw [rounds_succ]
    go_wp2_with fail
    rw [rounds_succ]
    go_wp2_with fail
    rw [rounds_succ]
    go_wp2_with fail
    rw [rounds_succ]
    go_wp2_with fail
    rw [rounds_succ]
    go_wp2_with fail
    refine (HM.out _).mono ?_
    rintro e w2 ⟨rfl, hb2⟩
    have B2 : Below w.heap.size w w2 := below_next ((B1.alloc B1.size _).alloc (by simp; omega) _) hb2
    obtain ⟨hcl2, hfz2⟩ := bcell hb2
    have s2 : w1.heap.size + 1 < w2.heap.size := by have := hb2.size; simp at this; omega
    have s3 : w1.heap.size < w2.heap.size := by omega
    have s4 : w.heap.size < w2.heap.size := by omega
    have M0 : w2.cell? ⟨w.heap.size, 0, none⟩ = some (.int .u8 0) := by rw [hcl2 _ _ (by simp; omega)]; go_simp
    have M1 : w2.cell? ⟨w.heap.size, 1, none⟩ = some (.int .u8 0) := by rw [hcl2 _ _ (by simp; omega)]; go_simp
    have M2 : w2.cell? ⟨w.heap.size, 2, none⟩ = some (.int .u8 0) := by rw [hcl2 _ _ (by simp; omega)]; go_simp
    have M3 : w2.cell? ⟨w.heap.size, 3, none⟩ = some (.int .i32 0) := by rw [hcl2 _ _ (by simp; omega)]; go_simp
    have L0 : w2.frozen? ⟨w.heap.size, 0, none⟩ = false := by rw [hfz2 _ _ (by simp; omega)]; go_simp
    have L1 : w2.frozen? ⟨w.heap.size, 1, none⟩ = false := by rw [hfz2 _ _ (by simp; omega)]; go_simp
    have L2 : w2.frozen? ⟨w.heap.size, 2, none⟩ = false := by rw [hfz2 _ _ (by simp; omega)]; go_simp
    have L3 : w2.frozen? ⟨w.heap.size, 3, none⟩ = false := by rw [hfz2 _ _ (by simp; omega)]; go_simp
    cases m
    · simp only [Bool.false_eq_true, if_false]
      go_wp2_with fail
      refine bodyPost_ret (v := .tuple #[insV 0 0 0 0, .int .i64 0, .int .i64 21]) ?_ rfl ⟨rfl, ?_⟩
      · unfold insV
        simp [results, Tryd.results17, go_sem, M0, M1, M2, M3]
      · exact (((B2.setCell (by simp) _).setCell (by simp) _).setCell (by simp) _).setCell (by simp) _
    · simp only [if_true]
      go_wp2_with fail
      go_region
      all_goals
        go_wp2_with fail
        refine bodyPost_ret (v := .tuple #[insV x0 (x1 / 16) (x1 % 16) (x2 + 256 * x3 + 65536 * x4 + 16777216 * x5 - 4294967296), .int .i64 6, .int .i64 0]) ?_ rfl ⟨rfl, ?_⟩
        · unfold insV
          simp [results, Tryd.results17, go_sem, M0, M1, M2, M3]
        · exact ((((B2.drew.setCell (by simp) _).setCell (by simp) _).setCell (by simp) _).setCell (by simp) _)

end Go.Proofs.YtocgiapkapekdaaDoor.Isa
