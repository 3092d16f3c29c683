/- The walk of isa.Decode. -/
import Derived.Test.YtnoeeediicaooaaGreatDoorIsaD
import Derived.BigQuiet
namespace Go.Proofs.YtnoeeediicaooaaGreatDoor.Isa
open Go.RowKit
set_option linter.unusedSimpArgs false
set_option linter.unusedVariables false

/-- The registers' part of an instruction. -/
def regA (f : Fm) (x : Int) : Int := if f.a = 1 then x / 16 else 0
def regB (f : Fm) (x : Int) : Int := if f.a = 1 then x % 16 else 0
/-- The number's part, of the bytes behind the first. -/
def numL (f : Fm) (x1 x2 x3 x4 x5 : Int) : Int := if f.a = 1 then numF f x2 x3 x4 x5 else numF f x1 x2 x3 x4

/-- What Decode hands back. -/
def DecPost (op a b imm n err : Int) (w : World) (e : Ending) (w' : World) : Prop :=
  e = .returned (.tuple #[insV op a b imm, .int .i64 n, .int .i64 err]) ∧ Below w.heap.size w w'

theorem eqForm (f : Fm) (hf : fmIs f) (w : World) : (binOp .eql 108 f.val (.agg #[.int .i64 0, .int .i64 0, .int .i64 0, .int .i64 0, .int .i64 0])).run Tryz.prog w = .ok (.bool (decide (f.n = 0))) w := by
  rcases hf with rfl | rfl | rfl | rfl | rfl | rfl | rfl | rfl | rfl | rfl
  all_goals kernel_rfl

theorem numF_bd {f : Fm} (hf : fmIs f) {x0 x1 x2 x3 : Int} (b0 : 0 ≤ x0 ∧ x0 < 256) (b1 : 0 ≤ x1 ∧ x1 < 256) (b2 : 0 ≤ x2 ∧ x2 < 256) (b3 : 0 ≤ x3 ∧ x3 < 256) : -2147483648 ≤ numF f x0 x1 x2 x3 ∧ numF f x0 x1 x2 x3 < 2147483648 := by
  rcases hf with rfl | rfl | rfl | rfl | rfl | rfl | rfl | rfl | rfl | rfl
  all_goals
    simp [numF]
    try split
    all_goals omega

theorem and15 {x : Int} (h0 : 0 ≤ x) (h1 : x < 256) : bits .and .u8 x 15 = x % 16 := by
  rw [u8_and _ _ h0 h1 (by omega) (by omega), show (15 : Int).toNat = 15 from rfl, nat_mask4]; omega

theorem gfrozen {w w' : World} {rb : Nat} (h : w.grownBy w' (some rb)) {p : Addr} (hb : p.block < w.heap.size) (hp : p.block ≠ rb) (hc : w.frozen? p = false) : w'.frozen? p = false := by
  rw [World.frozen?_of_block (h.block p.block hb (by simp [hp]))]; exact hc

set_option maxHeartbeats 4000000 in
theorem dec10000 (host : Bool) (blk off len cap : Nat) (x0 x1 x2 x3 x4 x5 : Int) (w : World) (hx0 : w.cell? ⟨blk, off, none⟩ = some (.int .u8 x0))
    (b0 : 0 ≤ x0 ∧ x0 < 256) (b1 : 0 ≤ x1 ∧ x1 < 256) (b2 : 0 ≤ x2 ∧ x2 < 256) (b3 : 0 ≤ x3 ∧ x3 < 256) (b4 : 0 ≤ x4 ∧ x4 < 256) (b5 : 0 ≤ x5 ∧ x5 < 256) (hlen : len ≤ 9223372036854775807) (hn : 1 ≤ len) (hf : fm x0 host = ⟨1, 0, 0, 0, 0⟩) (m : Bool) (hm : mayB ⟨1, 0, 0, 0, 0⟩ (regA ⟨1, 0, 0, 0, 0⟩ x1) (regB ⟨1, 0, 0, 0, 0⟩ x1) (numL ⟨1, 0, 0, 0, 0⟩ x1 x2 x3 x4 x5) = m) :
    Calls Tryz.prog 66 #[.slice (some ⟨blk, off, none⟩) len cap, .bool host] w (if m = true then DecPost x0 (regA ⟨1, 0, 0, 0, 0⟩ x1) (regB ⟨1, 0, 0, 0, 0⟩ x1) (numL ⟨1, 0, 0, 0, 0⟩ x1 x2 x3 x4 x5) 1 0 w else DecPost 0 0 0 0 0 21 w) := by
  have hFI : fmIs ⟨1, 0, 0, 0, 0⟩ := by unfold fmIs; simp
  have HE := eqForm _ hFI
  have h1 := fun w => formOf_c x0 host w b0.1 b0.2
  rw [hf] at h1
  have H1 := Lib.hid h1
  clear h1
  unfold Fm.val at H1 HE
  have hnb := numF_bd hFI b1 b2 b3 b4
  have e1 : regA ⟨1, 0, 0, 0, 0⟩ x1 = 0 := by simp [regA]
  have e2 : regB ⟨1, 0, 0, 0, 0⟩ x1 = 0 := by simp [regB]
  have e3 : numL ⟨1, 0, 0, 0, 0⟩ x1 x2 x3 x4 x5 = (numF ⟨1, 0, 0, 0, 0⟩ x1 x2 x3 x4) := by simp [numL]
  rw [e1, e2, e3] at hm ⊢
  clear e1 e2 e3
  have h5 := fun w => may_c x0 0 0 (numF ⟨1, 0, 0, 0, 0⟩ x1 x2 x3 x4) host w b0.1 b0.2 (by omega) (by omega) (by omega) (by omega) hnb.1 hnb.2
  rw [hf, hm] at h5
  have H5 := Lib.hid h5
  have HF := Lib.hid hf
  clear h5 hm hf
  unfold insV at H5
  have hlt : ¬ ((len : Int) < 1) := by omega
  have hpos : (0 : Int) < (len : Int) := by omega
  have hz0 : ((len : Int) == 0) = false := by simp; omega
  have hbw : blk < w.heap.size := World.block_lt_of_cell? w _ hx0
  have X0 := hx0
  go_enter Tryz.func66, Tryz.ntmps66
  go_wp2_with fail
  refine (H1.out _).mono ?_
  rintro e w1 ⟨rfl, hb1⟩
  have B1 := below_box hb1
  have s1 : w.heap.size < w1.heap.size := by have := hb1.size; simp at this; omega
  have z0 : w1.cell? ⟨w.heap.size, 0, none⟩ = some (.int .u8 0) := by rw [hb1.cell (p := ⟨w.heap.size, 0, none⟩) (by simp)]; go_simp
  have y0 : w1.frozen? ⟨w.heap.size, 0, none⟩ = false := by rw [hb1.frozen (p := ⟨w.heap.size, 0, none⟩) (by simp)]; go_simp
  have z1 : w1.cell? ⟨w.heap.size, 1, none⟩ = some (.int .u8 0) := by rw [hb1.cell (p := ⟨w.heap.size, 1, none⟩) (by simp)]; go_simp
  have y1 : w1.frozen? ⟨w.heap.size, 1, none⟩ = false := by rw [hb1.frozen (p := ⟨w.heap.size, 1, none⟩) (by simp)]; go_simp
  have z2 : w1.cell? ⟨w.heap.size, 2, none⟩ = some (.int .u8 0) := by rw [hb1.cell (p := ⟨w.heap.size, 2, none⟩) (by simp)]; go_simp
  have y2 : w1.frozen? ⟨w.heap.size, 2, none⟩ = false := by rw [hb1.frozen (p := ⟨w.heap.size, 2, none⟩) (by simp)]; go_simp
  have z3 : w1.cell? ⟨w.heap.size, 3, none⟩ = some (.int .i32 0) := by rw [hb1.cell (p := ⟨w.heap.size, 3, none⟩) (by simp)]; go_simp
  have y3 : w1.frozen? ⟨w.heap.size, 3, none⟩ = false := by rw [hb1.frozen (p := ⟨w.heap.size, 3, none⟩) (by simp)]; go_simp
  have Y0 : w1.cell? ⟨blk, off, none⟩ = some (.int .u8 x0) := by
    rw [B1.cell (p := ⟨blk, off, none⟩) hbw]; exact X0
  have hb2' : blk < w1.heap.size := by omega
  clear hb1
  go_wp2_with fail
  have r0 : ReaderAt ((w1.alloc (.cells #[.int .i64 1, .int .i64 0, .int .i64 0, .int .i64 0, .int .i64 0] 108)).alloc (.cells #[.slice (some ⟨blk, off, none⟩) len cap, .int .i64 0] 143)) (w1.heap.size + 1) blk off len cap 0 := ⟨by go_simp, by go_simp, by go_simp⟩
  have Q0 : ((w1.alloc (.cells #[.int .i64 1, .int .i64 0, .int .i64 0, .int .i64 0, .int .i64 0] 108)).alloc (.cells #[.slice (some ⟨blk, off, none⟩) len cap, .int .i64 0] 143)).cell? ⟨blk, off, none⟩ = some (.int .u8 x0) := (cell_past (by simp; omega) _).trans ((cell_past hb2' _).trans Y0)
  clear Y0
  refine (next_c (w1.heap.size + 1) blk off len cap 0 x0 _ r0 (by omega) hlen (by omega) Q0).mono ?_
  rintro e w2 ⟨rfl, g2, r2⟩
  have s2 : w1.heap.size + 1 < w2.heap.size := by have := g2.size; simp at this; omega
  have f0 : w2.cell? ⟨w1.heap.size, 0, none⟩ = some (.int .i64 1) := gcell g2 (by simp) (by go_simp)
  have f1 : w2.cell? ⟨w1.heap.size, 1, none⟩ = some (.int .i64 0) := gcell g2 (by simp) (by go_simp)
  have f2 : w2.cell? ⟨w1.heap.size, 2, none⟩ = some (.int .i64 0) := gcell g2 (by simp) (by go_simp)
  have f3 : w2.cell? ⟨w1.heap.size, 3, none⟩ = some (.int .i64 0) := gcell g2 (by simp) (by go_simp)
  have f4 : w2.cell? ⟨w1.heap.size, 4, none⟩ = some (.int .i64 0) := gcell g2 (by simp) (by go_simp)
  have z0' : w2.cell? ⟨w.heap.size, 0, none⟩ = some (.int .u8 0) := gcell g2 (by simp; omega) (by go_simp)
  have y0' : w2.frozen? ⟨w.heap.size, 0, none⟩ = false := gfrozen g2 (by simp; omega) (by simp; omega) (by go_simp)
  have z1' : w2.cell? ⟨w.heap.size, 1, none⟩ = some (.int .u8 0) := gcell g2 (by simp; omega) (by go_simp)
  have y1' : w2.frozen? ⟨w.heap.size, 1, none⟩ = false := gfrozen g2 (by simp; omega) (by simp; omega) (by go_simp)
  have z2' : w2.cell? ⟨w.heap.size, 2, none⟩ = some (.int .u8 0) := gcell g2 (by simp; omega) (by go_simp)
  have y2' : w2.frozen? ⟨w.heap.size, 2, none⟩ = false := gfrozen g2 (by simp; omega) (by simp; omega) (by go_simp)
  have z3' : w2.cell? ⟨w.heap.size, 3, none⟩ = some (.int .i32 0) := gcell g2 (by simp; omega) (by go_simp)
  have y3' : w2.frozen? ⟨w.heap.size, 3, none⟩ = false := gfrozen g2 (by simp; omega) (by simp; omega) (by go_simp)
  have B2 : Below w.heap.size w w2 := (((B1.alloc (by omega) _).alloc (by simp; omega) _).grown g2 (by simp; omega) (fun k hk => by cases hk; omega))
  clear z0 z1 z2 z3 y0 y1 y2 y3 r0 Q0
  have s2' : w1.heap.size < w2.heap.size := by omega
  have s2'' : w.heap.size < w2.heap.size := by omega
  go_wp2_with fail
  obtain ⟨W4, hW4⟩ : ∃ W4, W4 = (w2.alloc (.cells #[.int .u8 x0, .int .u8 0, .int .u8 0, .int .i32 0] 76)) := ⟨_, rfl⟩
  have r4 : ReaderAt W4 (w1.heap.size + 1) blk off len cap 1 := by rw [hW4]; exact ⟨(cell_past s2 _).trans r2.1, (cell_past s2 _).trans r2.2.1, (frozen_past s2 _).trans r2.2.2⟩
  have F0 : W4.cell? ⟨w1.heap.size, 0, none⟩ = some (.int .i64 1) := by rw [hW4]; exact (cell_past s2' _).trans f0
  have F1 : W4.cell? ⟨w1.heap.size, 1, none⟩ = some (.int .i64 0) := by rw [hW4]; exact (cell_past s2' _).trans f1
  have F2 : W4.cell? ⟨w1.heap.size, 2, none⟩ = some (.int .i64 0) := by rw [hW4]; exact (cell_past s2' _).trans f2
  have F3 : W4.cell? ⟨w1.heap.size, 3, none⟩ = some (.int .i64 0) := by rw [hW4]; exact (cell_past s2' _).trans f3
  have F4 : W4.cell? ⟨w1.heap.size, 4, none⟩ = some (.int .i64 0) := by rw [hW4]; exact (cell_past s2' _).trans f4
  have Z0 : W4.cell? ⟨w.heap.size, 0, none⟩ = some (.int .u8 0) := by rw [hW4]; exact (cell_past s2'' _).trans z0'
  have K0 : W4.frozen? ⟨w.heap.size, 0, none⟩ = false := by rw [hW4]; exact (frozen_past s2'' _).trans y0'
  have Z1 : W4.cell? ⟨w.heap.size, 1, none⟩ = some (.int .u8 0) := by rw [hW4]; exact (cell_past s2'' _).trans z1'
  have K1 : W4.frozen? ⟨w.heap.size, 1, none⟩ = false := by rw [hW4]; exact (frozen_past s2'' _).trans y1'
  have Z2 : W4.cell? ⟨w.heap.size, 2, none⟩ = some (.int .u8 0) := by rw [hW4]; exact (cell_past s2'' _).trans z2'
  have K2 : W4.frozen? ⟨w.heap.size, 2, none⟩ = false := by rw [hW4]; exact (frozen_past s2'' _).trans y2'
  have Z3 : W4.cell? ⟨w.heap.size, 3, none⟩ = some (.int .i32 0) := by rw [hW4]; exact (cell_past s2'' _).trans z3'
  have K3 : W4.frozen? ⟨w.heap.size, 3, none⟩ = false := by rw [hW4]; exact (frozen_past s2'' _).trans y3'
  have I0 : W4.cell? ⟨w2.heap.size, 0, none⟩ = some (.int .u8 x0) := by rw [hW4]; go_simp
  have J0 : W4.frozen? ⟨w2.heap.size, 0, none⟩ = false := by rw [hW4]; go_simp
  have I1 : W4.cell? ⟨w2.heap.size, 1, none⟩ = some (.int .u8 0) := by rw [hW4]; go_simp
  have J1 : W4.frozen? ⟨w2.heap.size, 1, none⟩ = false := by rw [hW4]; go_simp
  have I2 : W4.cell? ⟨w2.heap.size, 2, none⟩ = some (.int .u8 0) := by rw [hW4]; go_simp
  have J2 : W4.frozen? ⟨w2.heap.size, 2, none⟩ = false := by rw [hW4]; go_simp
  have I3 : W4.cell? ⟨w2.heap.size, 3, none⟩ = some (.int .i32 0) := by rw [hW4]; go_simp
  have J3 : W4.frozen? ⟨w2.heap.size, 3, none⟩ = false := by rw [hW4]; go_simp
  have B4 : Below w.heap.size w W4 := by rw [hW4]; exact B2.alloc (by omega) _
  have s4 : w2.heap.size < W4.heap.size := by rw [hW4]; simp
  rw [← hW4]
  clear hW4 f0 z0' y0' f1 z1' y1' f2 z2' y2' f3 z3' y3' f4 r2 
  have n1 : ¬ w2.heap.size = w1.heap.size := by omega
  have n1' : ¬ w1.heap.size = w2.heap.size := by omega
  have hN := number_c ⟨1, 0, 0, 0, 0⟩ hFI (w1.heap.size + 1) blk off len cap 1 x1 x2 x3 x4 W4 r4 hlen (by omega) (by simp; omega) (fun h => absurd h (by decide)) (fun h => absurd h (by decide)) (fun h => absurd h (by decide)) (fun h => absurd h (by decide)) b1 b2 b3 b4 (by omega)
  unfold Fm.val at hN
  refine hN.mono ?_
  clear hN
  rintro e w5 ⟨rfl, g5⟩
  obtain ⟨z, hzz⟩ : ∃ z, z = numF ⟨1, 0, 0, 0, 0⟩ x1 x2 x3 x4 := ⟨_, rfl⟩
  rw [← hzz] at H5 hnb ⊢
  have HZ := Lib.hid hzz
  clear hzz
  have F0' := gcell g5 (p := ⟨w1.heap.size, 0, none⟩) (by simp) F0
  have F1' := gcell g5 (p := ⟨w1.heap.size, 1, none⟩) (by simp) F1
  have F2' := gcell g5 (p := ⟨w1.heap.size, 2, none⟩) (by simp) F2
  have F3' := gcell g5 (p := ⟨w1.heap.size, 3, none⟩) (by simp) F3
  have F4' := gcell g5 (p := ⟨w1.heap.size, 4, none⟩) (by simp) F4
  have Z0' := gcell g5 (p := ⟨w.heap.size, 0, none⟩) (by simp; omega) Z0
  have K0' := gfrozen g5 (p := ⟨w.heap.size, 0, none⟩) (by simp; omega) (by simp; omega) K0
  have I0' := gcell g5 (p := ⟨w2.heap.size, 0, none⟩) (by simp; omega) I0
  have J0' := gfrozen g5 (p := ⟨w2.heap.size, 0, none⟩) (by simp; omega) (by simp; omega) J0
  have Z1' := gcell g5 (p := ⟨w.heap.size, 1, none⟩) (by simp; omega) Z1
  have K1' := gfrozen g5 (p := ⟨w.heap.size, 1, none⟩) (by simp; omega) (by simp; omega) K1
  have I1' := gcell g5 (p := ⟨w2.heap.size, 1, none⟩) (by simp; omega) I1
  have J1' := gfrozen g5 (p := ⟨w2.heap.size, 1, none⟩) (by simp; omega) (by simp; omega) J1
  have Z2' := gcell g5 (p := ⟨w.heap.size, 2, none⟩) (by simp; omega) Z2
  have K2' := gfrozen g5 (p := ⟨w.heap.size, 2, none⟩) (by simp; omega) (by simp; omega) K2
  have I2' := gcell g5 (p := ⟨w2.heap.size, 2, none⟩) (by simp; omega) I2
  have J2' := gfrozen g5 (p := ⟨w2.heap.size, 2, none⟩) (by simp; omega) (by simp; omega) J2
  have Z3' := gcell g5 (p := ⟨w.heap.size, 3, none⟩) (by simp; omega) Z3
  have K3' := gfrozen g5 (p := ⟨w.heap.size, 3, none⟩) (by simp; omega) (by simp; omega) K3
  have I3' := gcell g5 (p := ⟨w2.heap.size, 3, none⟩) (by simp; omega) I3
  have J3' := gfrozen g5 (p := ⟨w2.heap.size, 3, none⟩) (by simp; omega) (by simp; omega) J3
  have B5 : Below w.heap.size w w5 := B4.grown g5 (by omega) (fun k hk => by cases hk; omega)
  have s5 : w2.heap.size < w5.heap.size := Nat.lt_of_lt_of_le s4 g5.size
  clear r4 g5 F0 Z0 K0 I0 J0 F1 Z1 K1 I1 J1 F2 Z2 K2 I2 J2 F3 Z3 K3 I3 J3 F4 
  have n2 : ¬ w2.heap.size = w.heap.size := by omega
  have n2' : ¬ w.heap.size = w2.heap.size := by omega
  go_wp2_with fail
  refine (H5.out _).mono ?_
  rintro e w6 ⟨rfl, b6⟩
  have s6 : w2.heap.size < w6.heap.size := by have := b6.size; simp at this; omega
  have ot : ∀ {p : Addr} {v : Value}, p.block ≠ w2.heap.size → w5.cell? p = some v → w6.cell? p = some v := fun {p v} h hc => by
    rw [b6.cell (by have := World.block_lt_of_cell? w5 p hc; simpa using this), World.cell?_setCell_other _ _ _ _ (fun e => h (by rw [← e]))]; exact hc
  have of : ∀ {p : Addr}, p.block < w5.heap.size → w5.frozen? p = false → w6.frozen? p = false := fun {p} h hc => by rw [b6.frozen (by simpa using h), World.frozen?_setCell]; exact hc
  have G0 := ot (p := ⟨w1.heap.size, 0, none⟩) (by simp; omega) F0'
  have G1 := ot (p := ⟨w1.heap.size, 1, none⟩) (by simp; omega) F1'
  have G2 := ot (p := ⟨w1.heap.size, 2, none⟩) (by simp; omega) F2'
  have G3 := ot (p := ⟨w1.heap.size, 3, none⟩) (by simp; omega) F3'
  have G4 := ot (p := ⟨w1.heap.size, 4, none⟩) (by simp; omega) F4'
  have M0 := ot (p := ⟨w.heap.size, 0, none⟩) (by simp; omega) Z0'
  have L0 := of (p := ⟨w.heap.size, 0, none⟩) (by simp; omega) K0'
  have M1 := ot (p := ⟨w.heap.size, 1, none⟩) (by simp; omega) Z1'
  have L1 := of (p := ⟨w.heap.size, 1, none⟩) (by simp; omega) K1'
  have M2 := ot (p := ⟨w.heap.size, 2, none⟩) (by simp; omega) Z2'
  have L2 := of (p := ⟨w.heap.size, 2, none⟩) (by simp; omega) K2'
  have M3 := ot (p := ⟨w.heap.size, 3, none⟩) (by simp; omega) Z3'
  have L3 := of (p := ⟨w.heap.size, 3, none⟩) (by simp; omega) K3'
  have O0 : w6.cell? ⟨w2.heap.size, 0, none⟩ = some (.int .u8 x0) := by rw [b6.cell (p := ⟨w2.heap.size, 0, none⟩) (by simpa using s5)]; go_simp
  have O1 : w6.cell? ⟨w2.heap.size, 1, none⟩ = some (.int .u8 0) := by rw [b6.cell (p := ⟨w2.heap.size, 1, none⟩) (by simpa using s5)]; go_simp
  have O2 : w6.cell? ⟨w2.heap.size, 2, none⟩ = some (.int .u8 0) := by rw [b6.cell (p := ⟨w2.heap.size, 2, none⟩) (by simpa using s5)]; go_simp
  have O3 : w6.cell? ⟨w2.heap.size, 3, none⟩ = some (.int .i32 z) := by rw [b6.cell (p := ⟨w2.heap.size, 3, none⟩) (by simpa using s5)]; go_simp
  have B6 : Below w.heap.size w w6 := (B5.setCell (by simp; omega) _).trans (b6.mono (by simp; omega))
  clear ot of b6 F0' Z0' K0' I0' J0' F1' Z1' K1' I1' J1' F2' Z2' K2' I2' J2' F3' Z3' K3' I3' J3' F4'
  cases m
  · simp only [Bool.false_eq_true, if_false]
    go_wp2_with fail
    refine bodyPost_ret (v := .tuple #[insV 0 0 0 0, .int .i64 0, .int .i64 21]) ?_ rfl ⟨rfl, ?_⟩
    · unfold insV
      simp [results, Tryz.results66, go_sem, M0, M1, M2, M3]
    · exact (((B6.setCell (by simp) _).setCell (by simp) _).setCell (by simp) _).setCell (by simp) _
  · simp only [if_true]
    go_wp2_with fail
    go_region
    all_goals
      go_wp2_with fail
      refine bodyPost_ret (v := .tuple #[insV x0 0 0 z, .int .i64 1, .int .i64 0]) ?_ rfl ⟨by rw [HZ.out], ?_⟩
      · unfold insV
        simp [results, Tryz.results66, go_sem, M0, M1, M2, M3]
      · first
          | exact ((((B6.drew.setCell (by simp) _).setCell (by simp) _).setCell (by simp) _).setCell (by simp) _)
          | exact ((((B6.setCell (by simp) _).setCell (by simp) _).setCell (by simp) _).setCell (by simp) _).drew

set_option maxHeartbeats 4000000 in
theorem dec21100 (host : Bool) (blk off len cap : Nat) (x0 x1 x2 x3 x4 x5 : Int) (w : World) (hx0 : w.cell? ⟨blk, off, none⟩ = some (.int .u8 x0)) (hx1 : w.cell? ⟨blk, off + 1, none⟩ = some (.int .u8 x1))
    (b0 : 0 ≤ x0 ∧ x0 < 256) (b1 : 0 ≤ x1 ∧ x1 < 256) (b2 : 0 ≤ x2 ∧ x2 < 256) (b3 : 0 ≤ x3 ∧ x3 < 256) (b4 : 0 ≤ x4 ∧ x4 < 256) (b5 : 0 ≤ x5 ∧ x5 < 256) (hlen : len ≤ 9223372036854775807) (hn : 2 ≤ len) (hf : fm x0 host = ⟨2, 1, 1, 0, 0⟩) (m : Bool) (hm : mayB ⟨2, 1, 1, 0, 0⟩ (regA ⟨2, 1, 1, 0, 0⟩ x1) (regB ⟨2, 1, 1, 0, 0⟩ x1) (numL ⟨2, 1, 1, 0, 0⟩ x1 x2 x3 x4 x5) = m) :
    Calls Tryz.prog 66 #[.slice (some ⟨blk, off, none⟩) len cap, .bool host] w (if m = true then DecPost x0 (regA ⟨2, 1, 1, 0, 0⟩ x1) (regB ⟨2, 1, 1, 0, 0⟩ x1) (numL ⟨2, 1, 1, 0, 0⟩ x1 x2 x3 x4 x5) 2 0 w else DecPost 0 0 0 0 0 21 w) := by
  have hFI : fmIs ⟨2, 1, 1, 0, 0⟩ := by unfold fmIs; simp
  have HE := eqForm _ hFI
  have h1 := fun w => formOf_c x0 host w b0.1 b0.2
  rw [hf] at h1
  have H1 := Lib.hid h1
  clear h1
  unfold Fm.val at H1 HE
  have hnb := numF_bd hFI b2 b3 b4 b5
  have e1 : regA ⟨2, 1, 1, 0, 0⟩ x1 = (x1 / 16) := by simp [regA]
  have e2 : regB ⟨2, 1, 1, 0, 0⟩ x1 = (x1 % 16) := by simp [regB]
  have e3 : numL ⟨2, 1, 1, 0, 0⟩ x1 x2 x3 x4 x5 = (numF ⟨2, 1, 1, 0, 0⟩ x2 x3 x4 x5) := by simp [numL]
  rw [e1, e2, e3] at hm ⊢
  clear e1 e2 e3
  have h5 := fun w => may_c x0 (x1 / 16) (x1 % 16) (numF ⟨2, 1, 1, 0, 0⟩ x2 x3 x4 x5) host w b0.1 b0.2 (by omega) (by omega) (by omega) (by omega) hnb.1 hnb.2
  rw [hf, hm] at h5
  have H5 := Lib.hid h5
  have HF := Lib.hid hf
  clear h5 hm hf
  unfold insV at H5
  have hlt : ¬ ((len : Int) < 2) := by omega
  have hpos : (0 : Int) < (len : Int) := by omega
  have hz0 : ((len : Int) == 0) = false := by simp; omega
  have hbw : blk < w.heap.size := World.block_lt_of_cell? w _ hx0
  have X0 := hx0
  have X1 := Lib.hid hx1
  clear hx1
  go_enter Tryz.func66, Tryz.ntmps66
  go_wp2_with fail
  refine (H1.out _).mono ?_
  rintro e w1 ⟨rfl, hb1⟩
  have B1 := below_box hb1
  have s1 : w.heap.size < w1.heap.size := by have := hb1.size; simp at this; omega
  have z0 : w1.cell? ⟨w.heap.size, 0, none⟩ = some (.int .u8 0) := by rw [hb1.cell (p := ⟨w.heap.size, 0, none⟩) (by simp)]; go_simp
  have y0 : w1.frozen? ⟨w.heap.size, 0, none⟩ = false := by rw [hb1.frozen (p := ⟨w.heap.size, 0, none⟩) (by simp)]; go_simp
  have z1 : w1.cell? ⟨w.heap.size, 1, none⟩ = some (.int .u8 0) := by rw [hb1.cell (p := ⟨w.heap.size, 1, none⟩) (by simp)]; go_simp
  have y1 : w1.frozen? ⟨w.heap.size, 1, none⟩ = false := by rw [hb1.frozen (p := ⟨w.heap.size, 1, none⟩) (by simp)]; go_simp
  have z2 : w1.cell? ⟨w.heap.size, 2, none⟩ = some (.int .u8 0) := by rw [hb1.cell (p := ⟨w.heap.size, 2, none⟩) (by simp)]; go_simp
  have y2 : w1.frozen? ⟨w.heap.size, 2, none⟩ = false := by rw [hb1.frozen (p := ⟨w.heap.size, 2, none⟩) (by simp)]; go_simp
  have z3 : w1.cell? ⟨w.heap.size, 3, none⟩ = some (.int .i32 0) := by rw [hb1.cell (p := ⟨w.heap.size, 3, none⟩) (by simp)]; go_simp
  have y3 : w1.frozen? ⟨w.heap.size, 3, none⟩ = false := by rw [hb1.frozen (p := ⟨w.heap.size, 3, none⟩) (by simp)]; go_simp
  have Y0 : w1.cell? ⟨blk, off, none⟩ = some (.int .u8 x0) := by
    rw [B1.cell (p := ⟨blk, off, none⟩) hbw]; exact X0
  have Y1 : w1.cell? ⟨blk, off + 1, none⟩ = some (.int .u8 x1) := by
    rw [B1.cell (p := ⟨blk, off + 1, none⟩) hbw]; exact X1.out
  have hb2' : blk < w1.heap.size := by omega
  clear hb1
  go_wp2_with fail
  have r0 : ReaderAt ((w1.alloc (.cells #[.int .i64 2, .int .i64 1, .int .i64 1, .int .i64 0, .int .i64 0] 108)).alloc (.cells #[.slice (some ⟨blk, off, none⟩) len cap, .int .i64 0] 143)) (w1.heap.size + 1) blk off len cap 0 := ⟨by go_simp, by go_simp, by go_simp⟩
  have Q0 : ((w1.alloc (.cells #[.int .i64 2, .int .i64 1, .int .i64 1, .int .i64 0, .int .i64 0] 108)).alloc (.cells #[.slice (some ⟨blk, off, none⟩) len cap, .int .i64 0] 143)).cell? ⟨blk, off, none⟩ = some (.int .u8 x0) := (cell_past (by simp; omega) _).trans ((cell_past hb2' _).trans Y0)
  have Q1 : ((w1.alloc (.cells #[.int .i64 2, .int .i64 1, .int .i64 1, .int .i64 0, .int .i64 0] 108)).alloc (.cells #[.slice (some ⟨blk, off, none⟩) len cap, .int .i64 0] 143)).cell? ⟨blk, off + 1, none⟩ = some (.int .u8 x1) := (cell_past (by simp; omega) _).trans ((cell_past hb2' _).trans Y1)
  clear Y0 Y1
  refine (next_c (w1.heap.size + 1) blk off len cap 0 x0 _ r0 (by omega) hlen (by omega) Q0).mono ?_
  rintro e w2 ⟨rfl, g2, r2⟩
  have s2 : w1.heap.size + 1 < w2.heap.size := by have := g2.size; simp at this; omega
  have f0 : w2.cell? ⟨w1.heap.size, 0, none⟩ = some (.int .i64 2) := gcell g2 (by simp) (by go_simp)
  have f1 : w2.cell? ⟨w1.heap.size, 1, none⟩ = some (.int .i64 1) := gcell g2 (by simp) (by go_simp)
  have f2 : w2.cell? ⟨w1.heap.size, 2, none⟩ = some (.int .i64 1) := gcell g2 (by simp) (by go_simp)
  have f3 : w2.cell? ⟨w1.heap.size, 3, none⟩ = some (.int .i64 0) := gcell g2 (by simp) (by go_simp)
  have f4 : w2.cell? ⟨w1.heap.size, 4, none⟩ = some (.int .i64 0) := gcell g2 (by simp) (by go_simp)
  have z0' : w2.cell? ⟨w.heap.size, 0, none⟩ = some (.int .u8 0) := gcell g2 (by simp; omega) (by go_simp)
  have y0' : w2.frozen? ⟨w.heap.size, 0, none⟩ = false := gfrozen g2 (by simp; omega) (by simp; omega) (by go_simp)
  have z1' : w2.cell? ⟨w.heap.size, 1, none⟩ = some (.int .u8 0) := gcell g2 (by simp; omega) (by go_simp)
  have y1' : w2.frozen? ⟨w.heap.size, 1, none⟩ = false := gfrozen g2 (by simp; omega) (by simp; omega) (by go_simp)
  have z2' : w2.cell? ⟨w.heap.size, 2, none⟩ = some (.int .u8 0) := gcell g2 (by simp; omega) (by go_simp)
  have y2' : w2.frozen? ⟨w.heap.size, 2, none⟩ = false := gfrozen g2 (by simp; omega) (by simp; omega) (by go_simp)
  have z3' : w2.cell? ⟨w.heap.size, 3, none⟩ = some (.int .i32 0) := gcell g2 (by simp; omega) (by go_simp)
  have y3' : w2.frozen? ⟨w.heap.size, 3, none⟩ = false := gfrozen g2 (by simp; omega) (by simp; omega) (by go_simp)
  have U1 : w2.cell? ⟨blk, off + 1, none⟩ = some (.int .u8 x1) := gcell g2 (by simp; omega) Q1
  have B2 : Below w.heap.size w w2 := (((B1.alloc (by omega) _).alloc (by simp; omega) _).grown g2 (by simp; omega) (fun k hk => by cases hk; omega))
  clear z0 z1 z2 z3 y0 y1 y2 y3 r0 Q0 Q1
  have s2' : w1.heap.size < w2.heap.size := by omega
  have s2'' : w.heap.size < w2.heap.size := by omega
  go_wp2_with fail
  have r2' : ReaderAt (w2.alloc (.cells #[.int .u8 x0, .int .u8 0, .int .u8 0, .int .i32 0] 76)) (w1.heap.size + 1) blk off len cap 1 := ⟨(cell_past s2 _).trans r2.1, (cell_past s2 _).trans r2.2.1, (frozen_past s2 _).trans r2.2.2⟩
  have P1 : (w2.alloc (.cells #[.int .u8 x0, .int .u8 0, .int .u8 0, .int .i32 0] 76)).cell? ⟨blk, off + 1, none⟩ = some (.int .u8 x1) := (cell_past (by omega) _).trans U1
  clear U1
  refine (next_c (w1.heap.size + 1) blk off len cap 1 x1 _ r2' (by omega) hlen (by omega) P1).mono ?_
  rintro e w3 ⟨rfl, g3, r3⟩
  have s3 : w2.heap.size < w3.heap.size := by have := g3.size; simp at this; omega
  have f0' : w3.cell? ⟨w1.heap.size, 0, none⟩ = some (.int .i64 2) := gcell g3 (by simp) ((cell_past s2' _).trans f0)
  have f1' : w3.cell? ⟨w1.heap.size, 1, none⟩ = some (.int .i64 1) := gcell g3 (by simp) ((cell_past s2' _).trans f1)
  have f2' : w3.cell? ⟨w1.heap.size, 2, none⟩ = some (.int .i64 1) := gcell g3 (by simp) ((cell_past s2' _).trans f2)
  have f3' : w3.cell? ⟨w1.heap.size, 3, none⟩ = some (.int .i64 0) := gcell g3 (by simp) ((cell_past s2' _).trans f3)
  have f4' : w3.cell? ⟨w1.heap.size, 4, none⟩ = some (.int .i64 0) := gcell g3 (by simp) ((cell_past s2' _).trans f4)
  have z0'' : w3.cell? ⟨w.heap.size, 0, none⟩ = some (.int .u8 0) := gcell g3 (by simp; omega) ((cell_past s2'' _).trans z0')
  have y0'' : w3.frozen? ⟨w.heap.size, 0, none⟩ = false := gfrozen g3 (by simp; omega) (by simp; omega) ((frozen_past s2'' _).trans y0')
  have z1'' : w3.cell? ⟨w.heap.size, 1, none⟩ = some (.int .u8 0) := gcell g3 (by simp; omega) ((cell_past s2'' _).trans z1')
  have y1'' : w3.frozen? ⟨w.heap.size, 1, none⟩ = false := gfrozen g3 (by simp; omega) (by simp; omega) ((frozen_past s2'' _).trans y1')
  have z2'' : w3.cell? ⟨w.heap.size, 2, none⟩ = some (.int .u8 0) := gcell g3 (by simp; omega) ((cell_past s2'' _).trans z2')
  have y2'' : w3.frozen? ⟨w.heap.size, 2, none⟩ = false := gfrozen g3 (by simp; omega) (by simp; omega) ((frozen_past s2'' _).trans y2')
  have z3'' : w3.cell? ⟨w.heap.size, 3, none⟩ = some (.int .i32 0) := gcell g3 (by simp; omega) ((cell_past s2'' _).trans z3')
  have y3'' : w3.frozen? ⟨w.heap.size, 3, none⟩ = false := gfrozen g3 (by simp; omega) (by simp; omega) ((frozen_past s2'' _).trans y3')
  have i0 : w3.cell? ⟨w2.heap.size, 0, none⟩ = some (.int .u8 x0) := gcell g3 (by simp; omega) (by go_simp)
  have j0 : w3.frozen? ⟨w2.heap.size, 0, none⟩ = false := gfrozen g3 (by simp) (by simp; omega) (by go_simp)
  have i1 : w3.cell? ⟨w2.heap.size, 1, none⟩ = some (.int .u8 0) := gcell g3 (by simp; omega) (by go_simp)
  have j1 : w3.frozen? ⟨w2.heap.size, 1, none⟩ = false := gfrozen g3 (by simp) (by simp; omega) (by go_simp)
  have i2 : w3.cell? ⟨w2.heap.size, 2, none⟩ = some (.int .u8 0) := gcell g3 (by simp; omega) (by go_simp)
  have j2 : w3.frozen? ⟨w2.heap.size, 2, none⟩ = false := gfrozen g3 (by simp) (by simp; omega) (by go_simp)
  have i3 : w3.cell? ⟨w2.heap.size, 3, none⟩ = some (.int .i32 0) := gcell g3 (by simp; omega) (by go_simp)
  have j3 : w3.frozen? ⟨w2.heap.size, 3, none⟩ = false := gfrozen g3 (by simp) (by simp; omega) (by go_simp)
  have B3 : Below w.heap.size w w3 := (B2.alloc (by omega) _).grown g3 (by simp; omega) (fun k hk => by cases hk; omega)
  clear r2' f0 z0' y0' f1 z1' y1' f2 z2' y2' f3 z3' y3' f4 P1
  have n1 : ¬ w2.heap.size = w1.heap.size := by omega
  have n1' : ¬ w1.heap.size = w2.heap.size := by omega
  go_wp2_with fail
  obtain ⟨W4, hW4⟩ : ∃ W4, W4 = (w3.setCell ⟨w2.heap.size, 1, none⟩ (.int .u8 (x1 / 16))).setCell ⟨w2.heap.size, 2, none⟩ (.int .u8 (x1 % 16)) := ⟨_, rfl⟩
  have ot : ∀ {p : Addr} {v : Value}, p.block ≠ w2.heap.size → w3.cell? p = some v → W4.cell? p = some v := fun {p v} h hc => by
    rw [hW4, World.cell?_setCell_other _ _ _ _ (fun e => h (by rw [← e])), World.cell?_setCell_other _ _ _ _ (fun e => h (by rw [← e]))]; exact hc
  have of : ∀ {p : Addr}, w3.frozen? p = false → W4.frozen? p = false := fun {p} hc => by rw [hW4, World.frozen?_setCell, World.frozen?_setCell]; exact hc
  have r4 : ReaderAt W4 (w1.heap.size + 1) blk off len cap 2 := ⟨ot (by simp; omega) r3.1, ot (by simp; omega) r3.2.1, of r3.2.2⟩
  have F0 : W4.cell? ⟨w1.heap.size, 0, none⟩ = some (.int .i64 2) := ot (by simp; omega) f0'
  have F1 : W4.cell? ⟨w1.heap.size, 1, none⟩ = some (.int .i64 1) := ot (by simp; omega) f1'
  have F2 : W4.cell? ⟨w1.heap.size, 2, none⟩ = some (.int .i64 1) := ot (by simp; omega) f2'
  have F3 : W4.cell? ⟨w1.heap.size, 3, none⟩ = some (.int .i64 0) := ot (by simp; omega) f3'
  have F4 : W4.cell? ⟨w1.heap.size, 4, none⟩ = some (.int .i64 0) := ot (by simp; omega) f4'
  have Z0 : W4.cell? ⟨w.heap.size, 0, none⟩ = some (.int .u8 0) := ot (by simp; omega) z0''
  have K0 : W4.frozen? ⟨w.heap.size, 0, none⟩ = false := of y0''
  have Z1 : W4.cell? ⟨w.heap.size, 1, none⟩ = some (.int .u8 0) := ot (by simp; omega) z1''
  have K1 : W4.frozen? ⟨w.heap.size, 1, none⟩ = false := of y1''
  have Z2 : W4.cell? ⟨w.heap.size, 2, none⟩ = some (.int .u8 0) := ot (by simp; omega) z2''
  have K2 : W4.frozen? ⟨w.heap.size, 2, none⟩ = false := of y2''
  have Z3 : W4.cell? ⟨w.heap.size, 3, none⟩ = some (.int .i32 0) := ot (by simp; omega) z3''
  have K3 : W4.frozen? ⟨w.heap.size, 3, none⟩ = false := of y3''
  have I0 : W4.cell? ⟨w2.heap.size, 0, none⟩ = some (.int .u8 x0) := by rw [hW4]; go_simp
  have I1 : W4.cell? ⟨w2.heap.size, 1, none⟩ = some (.int .u8 (x1 / 16)) := by rw [hW4]; go_simp
  have I2 : W4.cell? ⟨w2.heap.size, 2, none⟩ = some (.int .u8 (x1 % 16)) := by rw [hW4]; go_simp
  have I3 : W4.cell? ⟨w2.heap.size, 3, none⟩ = some (.int .i32 0) := by rw [hW4]; go_simp
  have J0 : W4.frozen? ⟨w2.heap.size, 0, none⟩ = false := of j0
  have J1 : W4.frozen? ⟨w2.heap.size, 1, none⟩ = false := of j1
  have J2 : W4.frozen? ⟨w2.heap.size, 2, none⟩ = false := of j2
  have J3 : W4.frozen? ⟨w2.heap.size, 3, none⟩ = false := of j3
  have S4 : W4.heap.size = w3.heap.size := by rw [hW4]; simp
  have B4 : Below w.heap.size w W4 := by rw [hW4]; exact (B3.setCell (by simp; omega) _).setCell (by simp; omega) _
  rw [← hW4]
  clear hW4 ot of f0' z0'' y0'' i0 j0 f1' z1'' y1'' i1 j1 f2' z2'' y2'' i2 j2 f3' z3'' y3'' i3 j3 f4' r3 
  have s4 : w2.heap.size < W4.heap.size := by omega
  clear S4
  have hN := number_c ⟨2, 1, 1, 0, 0⟩ hFI (w1.heap.size + 1) blk off len cap 2 x2 x3 x4 x5 W4 r4 hlen (by omega) (by simp; omega) (fun h => absurd h (by decide)) (fun h => absurd h (by decide)) (fun h => absurd h (by decide)) (fun h => absurd h (by decide)) b2 b3 b4 b5 (by omega)
  unfold Fm.val at hN
  refine hN.mono ?_
  clear hN
  rintro e w5 ⟨rfl, g5⟩
  obtain ⟨z, hzz⟩ : ∃ z, z = numF ⟨2, 1, 1, 0, 0⟩ x2 x3 x4 x5 := ⟨_, rfl⟩
  rw [← hzz] at H5 hnb ⊢
  have HZ := Lib.hid hzz
  clear hzz
  have F0' := gcell g5 (p := ⟨w1.heap.size, 0, none⟩) (by simp) F0
  have F1' := gcell g5 (p := ⟨w1.heap.size, 1, none⟩) (by simp) F1
  have F2' := gcell g5 (p := ⟨w1.heap.size, 2, none⟩) (by simp) F2
  have F3' := gcell g5 (p := ⟨w1.heap.size, 3, none⟩) (by simp) F3
  have F4' := gcell g5 (p := ⟨w1.heap.size, 4, none⟩) (by simp) F4
  have Z0' := gcell g5 (p := ⟨w.heap.size, 0, none⟩) (by simp; omega) Z0
  have K0' := gfrozen g5 (p := ⟨w.heap.size, 0, none⟩) (by simp; omega) (by simp; omega) K0
  have I0' := gcell g5 (p := ⟨w2.heap.size, 0, none⟩) (by simp; omega) I0
  have J0' := gfrozen g5 (p := ⟨w2.heap.size, 0, none⟩) (by simp; omega) (by simp; omega) J0
  have Z1' := gcell g5 (p := ⟨w.heap.size, 1, none⟩) (by simp; omega) Z1
  have K1' := gfrozen g5 (p := ⟨w.heap.size, 1, none⟩) (by simp; omega) (by simp; omega) K1
  have I1' := gcell g5 (p := ⟨w2.heap.size, 1, none⟩) (by simp; omega) I1
  have J1' := gfrozen g5 (p := ⟨w2.heap.size, 1, none⟩) (by simp; omega) (by simp; omega) J1
  have Z2' := gcell g5 (p := ⟨w.heap.size, 2, none⟩) (by simp; omega) Z2
  have K2' := gfrozen g5 (p := ⟨w.heap.size, 2, none⟩) (by simp; omega) (by simp; omega) K2
  have I2' := gcell g5 (p := ⟨w2.heap.size, 2, none⟩) (by simp; omega) I2
  have J2' := gfrozen g5 (p := ⟨w2.heap.size, 2, none⟩) (by simp; omega) (by simp; omega) J2
  have Z3' := gcell g5 (p := ⟨w.heap.size, 3, none⟩) (by simp; omega) Z3
  have K3' := gfrozen g5 (p := ⟨w.heap.size, 3, none⟩) (by simp; omega) (by simp; omega) K3
  have I3' := gcell g5 (p := ⟨w2.heap.size, 3, none⟩) (by simp; omega) I3
  have J3' := gfrozen g5 (p := ⟨w2.heap.size, 3, none⟩) (by simp; omega) (by simp; omega) J3
  have B5 : Below w.heap.size w w5 := B4.grown g5 (by omega) (fun k hk => by cases hk; omega)
  have s5 : w2.heap.size < w5.heap.size := Nat.lt_of_lt_of_le s4 g5.size
  clear r4 g5 F0 Z0 K0 I0 J0 F1 Z1 K1 I1 J1 F2 Z2 K2 I2 J2 F3 Z3 K3 I3 J3 F4 
  have n2 : ¬ w2.heap.size = w.heap.size := by omega
  have n2' : ¬ w.heap.size = w2.heap.size := by omega
  go_wp2_with fail
  refine (H5.out _).mono ?_
  rintro e w6 ⟨rfl, b6⟩
  have s6 : w2.heap.size < w6.heap.size := by have := b6.size; simp at this; omega
  have ot : ∀ {p : Addr} {v : Value}, p.block ≠ w2.heap.size → w5.cell? p = some v → w6.cell? p = some v := fun {p v} h hc => by
    rw [b6.cell (by have := World.block_lt_of_cell? w5 p hc; simpa using this), World.cell?_setCell_other _ _ _ _ (fun e => h (by rw [← e]))]; exact hc
  have of : ∀ {p : Addr}, p.block < w5.heap.size → w5.frozen? p = false → w6.frozen? p = false := fun {p} h hc => by rw [b6.frozen (by simpa using h), World.frozen?_setCell]; exact hc
  have G0 := ot (p := ⟨w1.heap.size, 0, none⟩) (by simp; omega) F0'
  have G1 := ot (p := ⟨w1.heap.size, 1, none⟩) (by simp; omega) F1'
  have G2 := ot (p := ⟨w1.heap.size, 2, none⟩) (by simp; omega) F2'
  have G3 := ot (p := ⟨w1.heap.size, 3, none⟩) (by simp; omega) F3'
  have G4 := ot (p := ⟨w1.heap.size, 4, none⟩) (by simp; omega) F4'
  have M0 := ot (p := ⟨w.heap.size, 0, none⟩) (by simp; omega) Z0'
  have L0 := of (p := ⟨w.heap.size, 0, none⟩) (by simp; omega) K0'
  have M1 := ot (p := ⟨w.heap.size, 1, none⟩) (by simp; omega) Z1'
  have L1 := of (p := ⟨w.heap.size, 1, none⟩) (by simp; omega) K1'
  have M2 := ot (p := ⟨w.heap.size, 2, none⟩) (by simp; omega) Z2'
  have L2 := of (p := ⟨w.heap.size, 2, none⟩) (by simp; omega) K2'
  have M3 := ot (p := ⟨w.heap.size, 3, none⟩) (by simp; omega) Z3'
  have L3 := of (p := ⟨w.heap.size, 3, none⟩) (by simp; omega) K3'
  have O0 : w6.cell? ⟨w2.heap.size, 0, none⟩ = some (.int .u8 x0) := by rw [b6.cell (p := ⟨w2.heap.size, 0, none⟩) (by simpa using s5)]; go_simp
  have O1 : w6.cell? ⟨w2.heap.size, 1, none⟩ = some (.int .u8 (x1 / 16)) := by rw [b6.cell (p := ⟨w2.heap.size, 1, none⟩) (by simpa using s5)]; go_simp
  have O2 : w6.cell? ⟨w2.heap.size, 2, none⟩ = some (.int .u8 (x1 % 16)) := by rw [b6.cell (p := ⟨w2.heap.size, 2, none⟩) (by simpa using s5)]; go_simp
  have O3 : w6.cell? ⟨w2.heap.size, 3, none⟩ = some (.int .i32 z) := by rw [b6.cell (p := ⟨w2.heap.size, 3, none⟩) (by simpa using s5)]; go_simp
  have B6 : Below w.heap.size w w6 := (B5.setCell (by simp; omega) _).trans (b6.mono (by simp; omega))
  clear ot of b6 F0' Z0' K0' I0' J0' F1' Z1' K1' I1' J1' F2' Z2' K2' I2' J2' F3' Z3' K3' I3' J3' F4'
  cases m
  · simp only [Bool.false_eq_true, if_false]
    go_wp2_with fail
    refine bodyPost_ret (v := .tuple #[insV 0 0 0 0, .int .i64 0, .int .i64 21]) ?_ rfl ⟨rfl, ?_⟩
    · unfold insV
      simp [results, Tryz.results66, go_sem, M0, M1, M2, M3]
    · exact (((B6.setCell (by simp) _).setCell (by simp) _).setCell (by simp) _).setCell (by simp) _
  · simp only [if_true]
    go_wp2_with fail
    go_region
    all_goals
      go_wp2_with fail
      refine bodyPost_ret (v := .tuple #[insV x0 (x1 / 16) (x1 % 16) z, .int .i64 2, .int .i64 0]) ?_ rfl ⟨by rw [HZ.out], ?_⟩
      · unfold insV
        simp [results, Tryz.results66, go_sem, M0, M1, M2, M3]
      · first
          | exact ((((B6.drew.setCell (by simp) _).setCell (by simp) _).setCell (by simp) _).setCell (by simp) _)
          | exact ((((B6.setCell (by simp) _).setCell (by simp) _).setCell (by simp) _).setCell (by simp) _).drew

set_option maxHeartbeats 4000000 in
theorem dec21000 (host : Bool) (blk off len cap : Nat) (x0 x1 x2 x3 x4 x5 : Int) (w : World) (hx0 : w.cell? ⟨blk, off, none⟩ = some (.int .u8 x0)) (hx1 : w.cell? ⟨blk, off + 1, none⟩ = some (.int .u8 x1))
    (b0 : 0 ≤ x0 ∧ x0 < 256) (b1 : 0 ≤ x1 ∧ x1 < 256) (b2 : 0 ≤ x2 ∧ x2 < 256) (b3 : 0 ≤ x3 ∧ x3 < 256) (b4 : 0 ≤ x4 ∧ x4 < 256) (b5 : 0 ≤ x5 ∧ x5 < 256) (hlen : len ≤ 9223372036854775807) (hn : 2 ≤ len) (hf : fm x0 host = ⟨2, 1, 0, 0, 0⟩) (m : Bool) (hm : mayB ⟨2, 1, 0, 0, 0⟩ (regA ⟨2, 1, 0, 0, 0⟩ x1) (regB ⟨2, 1, 0, 0, 0⟩ x1) (numL ⟨2, 1, 0, 0, 0⟩ x1 x2 x3 x4 x5) = m) :
    Calls Tryz.prog 66 #[.slice (some ⟨blk, off, none⟩) len cap, .bool host] w (if m = true then DecPost x0 (regA ⟨2, 1, 0, 0, 0⟩ x1) (regB ⟨2, 1, 0, 0, 0⟩ x1) (numL ⟨2, 1, 0, 0, 0⟩ x1 x2 x3 x4 x5) 2 0 w else DecPost 0 0 0 0 0 21 w) := by
  have hFI : fmIs ⟨2, 1, 0, 0, 0⟩ := by unfold fmIs; simp
  have HE := eqForm _ hFI
  have h1 := fun w => formOf_c x0 host w b0.1 b0.2
  rw [hf] at h1
  have H1 := Lib.hid h1
  clear h1
  unfold Fm.val at H1 HE
  have hnb := numF_bd hFI b2 b3 b4 b5
  have e1 : regA ⟨2, 1, 0, 0, 0⟩ x1 = (x1 / 16) := by simp [regA]
  have e2 : regB ⟨2, 1, 0, 0, 0⟩ x1 = (x1 % 16) := by simp [regB]
  have e3 : numL ⟨2, 1, 0, 0, 0⟩ x1 x2 x3 x4 x5 = (numF ⟨2, 1, 0, 0, 0⟩ x2 x3 x4 x5) := by simp [numL]
  rw [e1, e2, e3] at hm ⊢
  clear e1 e2 e3
  have h5 := fun w => may_c x0 (x1 / 16) (x1 % 16) (numF ⟨2, 1, 0, 0, 0⟩ x2 x3 x4 x5) host w b0.1 b0.2 (by omega) (by omega) (by omega) (by omega) hnb.1 hnb.2
  rw [hf, hm] at h5
  have H5 := Lib.hid h5
  have HF := Lib.hid hf
  clear h5 hm hf
  unfold insV at H5
  have hlt : ¬ ((len : Int) < 2) := by omega
  have hpos : (0 : Int) < (len : Int) := by omega
  have hz0 : ((len : Int) == 0) = false := by simp; omega
  have hbw : blk < w.heap.size := World.block_lt_of_cell? w _ hx0
  have X0 := hx0
  have X1 := Lib.hid hx1
  clear hx1
  go_enter Tryz.func66, Tryz.ntmps66
  go_wp2_with fail
  refine (H1.out _).mono ?_
  rintro e w1 ⟨rfl, hb1⟩
  have B1 := below_box hb1
  have s1 : w.heap.size < w1.heap.size := by have := hb1.size; simp at this; omega
  have z0 : w1.cell? ⟨w.heap.size, 0, none⟩ = some (.int .u8 0) := by rw [hb1.cell (p := ⟨w.heap.size, 0, none⟩) (by simp)]; go_simp
  have y0 : w1.frozen? ⟨w.heap.size, 0, none⟩ = false := by rw [hb1.frozen (p := ⟨w.heap.size, 0, none⟩) (by simp)]; go_simp
  have z1 : w1.cell? ⟨w.heap.size, 1, none⟩ = some (.int .u8 0) := by rw [hb1.cell (p := ⟨w.heap.size, 1, none⟩) (by simp)]; go_simp
  have y1 : w1.frozen? ⟨w.heap.size, 1, none⟩ = false := by rw [hb1.frozen (p := ⟨w.heap.size, 1, none⟩) (by simp)]; go_simp
  have z2 : w1.cell? ⟨w.heap.size, 2, none⟩ = some (.int .u8 0) := by rw [hb1.cell (p := ⟨w.heap.size, 2, none⟩) (by simp)]; go_simp
  have y2 : w1.frozen? ⟨w.heap.size, 2, none⟩ = false := by rw [hb1.frozen (p := ⟨w.heap.size, 2, none⟩) (by simp)]; go_simp
  have z3 : w1.cell? ⟨w.heap.size, 3, none⟩ = some (.int .i32 0) := by rw [hb1.cell (p := ⟨w.heap.size, 3, none⟩) (by simp)]; go_simp
  have y3 : w1.frozen? ⟨w.heap.size, 3, none⟩ = false := by rw [hb1.frozen (p := ⟨w.heap.size, 3, none⟩) (by simp)]; go_simp
  have Y0 : w1.cell? ⟨blk, off, none⟩ = some (.int .u8 x0) := by
    rw [B1.cell (p := ⟨blk, off, none⟩) hbw]; exact X0
  have Y1 : w1.cell? ⟨blk, off + 1, none⟩ = some (.int .u8 x1) := by
    rw [B1.cell (p := ⟨blk, off + 1, none⟩) hbw]; exact X1.out
  have hb2' : blk < w1.heap.size := by omega
  clear hb1
  go_wp2_with fail
  have r0 : ReaderAt ((w1.alloc (.cells #[.int .i64 2, .int .i64 1, .int .i64 0, .int .i64 0, .int .i64 0] 108)).alloc (.cells #[.slice (some ⟨blk, off, none⟩) len cap, .int .i64 0] 143)) (w1.heap.size + 1) blk off len cap 0 := ⟨by go_simp, by go_simp, by go_simp⟩
  have Q0 : ((w1.alloc (.cells #[.int .i64 2, .int .i64 1, .int .i64 0, .int .i64 0, .int .i64 0] 108)).alloc (.cells #[.slice (some ⟨blk, off, none⟩) len cap, .int .i64 0] 143)).cell? ⟨blk, off, none⟩ = some (.int .u8 x0) := (cell_past (by simp; omega) _).trans ((cell_past hb2' _).trans Y0)
  have Q1 : ((w1.alloc (.cells #[.int .i64 2, .int .i64 1, .int .i64 0, .int .i64 0, .int .i64 0] 108)).alloc (.cells #[.slice (some ⟨blk, off, none⟩) len cap, .int .i64 0] 143)).cell? ⟨blk, off + 1, none⟩ = some (.int .u8 x1) := (cell_past (by simp; omega) _).trans ((cell_past hb2' _).trans Y1)
  clear Y0 Y1
  refine (next_c (w1.heap.size + 1) blk off len cap 0 x0 _ r0 (by omega) hlen (by omega) Q0).mono ?_
  rintro e w2 ⟨rfl, g2, r2⟩
  have s2 : w1.heap.size + 1 < w2.heap.size := by have := g2.size; simp at this; omega
  have f0 : w2.cell? ⟨w1.heap.size, 0, none⟩ = some (.int .i64 2) := gcell g2 (by simp) (by go_simp)
  have f1 : w2.cell? ⟨w1.heap.size, 1, none⟩ = some (.int .i64 1) := gcell g2 (by simp) (by go_simp)
  have f2 : w2.cell? ⟨w1.heap.size, 2, none⟩ = some (.int .i64 0) := gcell g2 (by simp) (by go_simp)
  have f3 : w2.cell? ⟨w1.heap.size, 3, none⟩ = some (.int .i64 0) := gcell g2 (by simp) (by go_simp)
  have f4 : w2.cell? ⟨w1.heap.size, 4, none⟩ = some (.int .i64 0) := gcell g2 (by simp) (by go_simp)
  have z0' : w2.cell? ⟨w.heap.size, 0, none⟩ = some (.int .u8 0) := gcell g2 (by simp; omega) (by go_simp)
  have y0' : w2.frozen? ⟨w.heap.size, 0, none⟩ = false := gfrozen g2 (by simp; omega) (by simp; omega) (by go_simp)
  have z1' : w2.cell? ⟨w.heap.size, 1, none⟩ = some (.int .u8 0) := gcell g2 (by simp; omega) (by go_simp)
  have y1' : w2.frozen? ⟨w.heap.size, 1, none⟩ = false := gfrozen g2 (by simp; omega) (by simp; omega) (by go_simp)
  have z2' : w2.cell? ⟨w.heap.size, 2, none⟩ = some (.int .u8 0) := gcell g2 (by simp; omega) (by go_simp)
  have y2' : w2.frozen? ⟨w.heap.size, 2, none⟩ = false := gfrozen g2 (by simp; omega) (by simp; omega) (by go_simp)
  have z3' : w2.cell? ⟨w.heap.size, 3, none⟩ = some (.int .i32 0) := gcell g2 (by simp; omega) (by go_simp)
  have y3' : w2.frozen? ⟨w.heap.size, 3, none⟩ = false := gfrozen g2 (by simp; omega) (by simp; omega) (by go_simp)
  have U1 : w2.cell? ⟨blk, off + 1, none⟩ = some (.int .u8 x1) := gcell g2 (by simp; omega) Q1
  have B2 : Below w.heap.size w w2 := (((B1.alloc (by omega) _).alloc (by simp; omega) _).grown g2 (by simp; omega) (fun k hk => by cases hk; omega))
  clear z0 z1 z2 z3 y0 y1 y2 y3 r0 Q0 Q1
  have s2' : w1.heap.size < w2.heap.size := by omega
  have s2'' : w.heap.size < w2.heap.size := by omega
  go_wp2_with fail
  have r2' : ReaderAt (w2.alloc (.cells #[.int .u8 x0, .int .u8 0, .int .u8 0, .int .i32 0] 76)) (w1.heap.size + 1) blk off len cap 1 := ⟨(cell_past s2 _).trans r2.1, (cell_past s2 _).trans r2.2.1, (frozen_past s2 _).trans r2.2.2⟩
  have P1 : (w2.alloc (.cells #[.int .u8 x0, .int .u8 0, .int .u8 0, .int .i32 0] 76)).cell? ⟨blk, off + 1, none⟩ = some (.int .u8 x1) := (cell_past (by omega) _).trans U1
  clear U1
  refine (next_c (w1.heap.size + 1) blk off len cap 1 x1 _ r2' (by omega) hlen (by omega) P1).mono ?_
  rintro e w3 ⟨rfl, g3, r3⟩
  have s3 : w2.heap.size < w3.heap.size := by have := g3.size; simp at this; omega
  have f0' : w3.cell? ⟨w1.heap.size, 0, none⟩ = some (.int .i64 2) := gcell g3 (by simp) ((cell_past s2' _).trans f0)
  have f1' : w3.cell? ⟨w1.heap.size, 1, none⟩ = some (.int .i64 1) := gcell g3 (by simp) ((cell_past s2' _).trans f1)
  have f2' : w3.cell? ⟨w1.heap.size, 2, none⟩ = some (.int .i64 0) := gcell g3 (by simp) ((cell_past s2' _).trans f2)
  have f3' : w3.cell? ⟨w1.heap.size, 3, none⟩ = some (.int .i64 0) := gcell g3 (by simp) ((cell_past s2' _).trans f3)
  have f4' : w3.cell? ⟨w1.heap.size, 4, none⟩ = some (.int .i64 0) := gcell g3 (by simp) ((cell_past s2' _).trans f4)
  have z0'' : w3.cell? ⟨w.heap.size, 0, none⟩ = some (.int .u8 0) := gcell g3 (by simp; omega) ((cell_past s2'' _).trans z0')
  have y0'' : w3.frozen? ⟨w.heap.size, 0, none⟩ = false := gfrozen g3 (by simp; omega) (by simp; omega) ((frozen_past s2'' _).trans y0')
  have z1'' : w3.cell? ⟨w.heap.size, 1, none⟩ = some (.int .u8 0) := gcell g3 (by simp; omega) ((cell_past s2'' _).trans z1')
  have y1'' : w3.frozen? ⟨w.heap.size, 1, none⟩ = false := gfrozen g3 (by simp; omega) (by simp; omega) ((frozen_past s2'' _).trans y1')
  have z2'' : w3.cell? ⟨w.heap.size, 2, none⟩ = some (.int .u8 0) := gcell g3 (by simp; omega) ((cell_past s2'' _).trans z2')
  have y2'' : w3.frozen? ⟨w.heap.size, 2, none⟩ = false := gfrozen g3 (by simp; omega) (by simp; omega) ((frozen_past s2'' _).trans y2')
  have z3'' : w3.cell? ⟨w.heap.size, 3, none⟩ = some (.int .i32 0) := gcell g3 (by simp; omega) ((cell_past s2'' _).trans z3')
  have y3'' : w3.frozen? ⟨w.heap.size, 3, none⟩ = false := gfrozen g3 (by simp; omega) (by simp; omega) ((frozen_past s2'' _).trans y3')
  have i0 : w3.cell? ⟨w2.heap.size, 0, none⟩ = some (.int .u8 x0) := gcell g3 (by simp; omega) (by go_simp)
  have j0 : w3.frozen? ⟨w2.heap.size, 0, none⟩ = false := gfrozen g3 (by simp) (by simp; omega) (by go_simp)
  have i1 : w3.cell? ⟨w2.heap.size, 1, none⟩ = some (.int .u8 0) := gcell g3 (by simp; omega) (by go_simp)
  have j1 : w3.frozen? ⟨w2.heap.size, 1, none⟩ = false := gfrozen g3 (by simp) (by simp; omega) (by go_simp)
  have i2 : w3.cell? ⟨w2.heap.size, 2, none⟩ = some (.int .u8 0) := gcell g3 (by simp; omega) (by go_simp)
  have j2 : w3.frozen? ⟨w2.heap.size, 2, none⟩ = false := gfrozen g3 (by simp) (by simp; omega) (by go_simp)
  have i3 : w3.cell? ⟨w2.heap.size, 3, none⟩ = some (.int .i32 0) := gcell g3 (by simp; omega) (by go_simp)
  have j3 : w3.frozen? ⟨w2.heap.size, 3, none⟩ = false := gfrozen g3 (by simp) (by simp; omega) (by go_simp)
  have B3 : Below w.heap.size w w3 := (B2.alloc (by omega) _).grown g3 (by simp; omega) (fun k hk => by cases hk; omega)
  clear r2' f0 z0' y0' f1 z1' y1' f2 z2' y2' f3 z3' y3' f4 P1
  have n1 : ¬ w2.heap.size = w1.heap.size := by omega
  have n1' : ¬ w1.heap.size = w2.heap.size := by omega
  go_wp2_with fail
  obtain ⟨W4, hW4⟩ : ∃ W4, W4 = (w3.setCell ⟨w2.heap.size, 1, none⟩ (.int .u8 (x1 / 16))).setCell ⟨w2.heap.size, 2, none⟩ (.int .u8 (x1 % 16)) := ⟨_, rfl⟩
  have ot : ∀ {p : Addr} {v : Value}, p.block ≠ w2.heap.size → w3.cell? p = some v → W4.cell? p = some v := fun {p v} h hc => by
    rw [hW4, World.cell?_setCell_other _ _ _ _ (fun e => h (by rw [← e])), World.cell?_setCell_other _ _ _ _ (fun e => h (by rw [← e]))]; exact hc
  have of : ∀ {p : Addr}, w3.frozen? p = false → W4.frozen? p = false := fun {p} hc => by rw [hW4, World.frozen?_setCell, World.frozen?_setCell]; exact hc
  have r4 : ReaderAt W4 (w1.heap.size + 1) blk off len cap 2 := ⟨ot (by simp; omega) r3.1, ot (by simp; omega) r3.2.1, of r3.2.2⟩
  have F0 : W4.cell? ⟨w1.heap.size, 0, none⟩ = some (.int .i64 2) := ot (by simp; omega) f0'
  have F1 : W4.cell? ⟨w1.heap.size, 1, none⟩ = some (.int .i64 1) := ot (by simp; omega) f1'
  have F2 : W4.cell? ⟨w1.heap.size, 2, none⟩ = some (.int .i64 0) := ot (by simp; omega) f2'
  have F3 : W4.cell? ⟨w1.heap.size, 3, none⟩ = some (.int .i64 0) := ot (by simp; omega) f3'
  have F4 : W4.cell? ⟨w1.heap.size, 4, none⟩ = some (.int .i64 0) := ot (by simp; omega) f4'
  have Z0 : W4.cell? ⟨w.heap.size, 0, none⟩ = some (.int .u8 0) := ot (by simp; omega) z0''
  have K0 : W4.frozen? ⟨w.heap.size, 0, none⟩ = false := of y0''
  have Z1 : W4.cell? ⟨w.heap.size, 1, none⟩ = some (.int .u8 0) := ot (by simp; omega) z1''
  have K1 : W4.frozen? ⟨w.heap.size, 1, none⟩ = false := of y1''
  have Z2 : W4.cell? ⟨w.heap.size, 2, none⟩ = some (.int .u8 0) := ot (by simp; omega) z2''
  have K2 : W4.frozen? ⟨w.heap.size, 2, none⟩ = false := of y2''
  have Z3 : W4.cell? ⟨w.heap.size, 3, none⟩ = some (.int .i32 0) := ot (by simp; omega) z3''
  have K3 : W4.frozen? ⟨w.heap.size, 3, none⟩ = false := of y3''
  have I0 : W4.cell? ⟨w2.heap.size, 0, none⟩ = some (.int .u8 x0) := by rw [hW4]; go_simp
  have I1 : W4.cell? ⟨w2.heap.size, 1, none⟩ = some (.int .u8 (x1 / 16)) := by rw [hW4]; go_simp
  have I2 : W4.cell? ⟨w2.heap.size, 2, none⟩ = some (.int .u8 (x1 % 16)) := by rw [hW4]; go_simp
  have I3 : W4.cell? ⟨w2.heap.size, 3, none⟩ = some (.int .i32 0) := by rw [hW4]; go_simp
  have J0 : W4.frozen? ⟨w2.heap.size, 0, none⟩ = false := of j0
  have J1 : W4.frozen? ⟨w2.heap.size, 1, none⟩ = false := of j1
  have J2 : W4.frozen? ⟨w2.heap.size, 2, none⟩ = false := of j2
  have J3 : W4.frozen? ⟨w2.heap.size, 3, none⟩ = false := of j3
  have S4 : W4.heap.size = w3.heap.size := by rw [hW4]; simp
  have B4 : Below w.heap.size w W4 := by rw [hW4]; exact (B3.setCell (by simp; omega) _).setCell (by simp; omega) _
  rw [← hW4]
  clear hW4 ot of f0' z0'' y0'' i0 j0 f1' z1'' y1'' i1 j1 f2' z2'' y2'' i2 j2 f3' z3'' y3'' i3 j3 f4' r3 
  have s4 : w2.heap.size < W4.heap.size := by omega
  clear S4
  have hN := number_c ⟨2, 1, 0, 0, 0⟩ hFI (w1.heap.size + 1) blk off len cap 2 x2 x3 x4 x5 W4 r4 hlen (by omega) (by simp; omega) (fun h => absurd h (by decide)) (fun h => absurd h (by decide)) (fun h => absurd h (by decide)) (fun h => absurd h (by decide)) b2 b3 b4 b5 (by omega)
  unfold Fm.val at hN
  refine hN.mono ?_
  clear hN
  rintro e w5 ⟨rfl, g5⟩
  obtain ⟨z, hzz⟩ : ∃ z, z = numF ⟨2, 1, 0, 0, 0⟩ x2 x3 x4 x5 := ⟨_, rfl⟩
  rw [← hzz] at H5 hnb ⊢
  have HZ := Lib.hid hzz
  clear hzz
  have F0' := gcell g5 (p := ⟨w1.heap.size, 0, none⟩) (by simp) F0
  have F1' := gcell g5 (p := ⟨w1.heap.size, 1, none⟩) (by simp) F1
  have F2' := gcell g5 (p := ⟨w1.heap.size, 2, none⟩) (by simp) F2
  have F3' := gcell g5 (p := ⟨w1.heap.size, 3, none⟩) (by simp) F3
  have F4' := gcell g5 (p := ⟨w1.heap.size, 4, none⟩) (by simp) F4
  have Z0' := gcell g5 (p := ⟨w.heap.size, 0, none⟩) (by simp; omega) Z0
  have K0' := gfrozen g5 (p := ⟨w.heap.size, 0, none⟩) (by simp; omega) (by simp; omega) K0
  have I0' := gcell g5 (p := ⟨w2.heap.size, 0, none⟩) (by simp; omega) I0
  have J0' := gfrozen g5 (p := ⟨w2.heap.size, 0, none⟩) (by simp; omega) (by simp; omega) J0
  have Z1' := gcell g5 (p := ⟨w.heap.size, 1, none⟩) (by simp; omega) Z1
  have K1' := gfrozen g5 (p := ⟨w.heap.size, 1, none⟩) (by simp; omega) (by simp; omega) K1
  have I1' := gcell g5 (p := ⟨w2.heap.size, 1, none⟩) (by simp; omega) I1
  have J1' := gfrozen g5 (p := ⟨w2.heap.size, 1, none⟩) (by simp; omega) (by simp; omega) J1
  have Z2' := gcell g5 (p := ⟨w.heap.size, 2, none⟩) (by simp; omega) Z2
  have K2' := gfrozen g5 (p := ⟨w.heap.size, 2, none⟩) (by simp; omega) (by simp; omega) K2
  have I2' := gcell g5 (p := ⟨w2.heap.size, 2, none⟩) (by simp; omega) I2
  have J2' := gfrozen g5 (p := ⟨w2.heap.size, 2, none⟩) (by simp; omega) (by simp; omega) J2
  have Z3' := gcell g5 (p := ⟨w.heap.size, 3, none⟩) (by simp; omega) Z3
  have K3' := gfrozen g5 (p := ⟨w.heap.size, 3, none⟩) (by simp; omega) (by simp; omega) K3
  have I3' := gcell g5 (p := ⟨w2.heap.size, 3, none⟩) (by simp; omega) I3
  have J3' := gfrozen g5 (p := ⟨w2.heap.size, 3, none⟩) (by simp; omega) (by simp; omega) J3
  have B5 : Below w.heap.size w w5 := B4.grown g5 (by omega) (fun k hk => by cases hk; omega)
  have s5 : w2.heap.size < w5.heap.size := Nat.lt_of_lt_of_le s4 g5.size
  clear r4 g5 F0 Z0 K0 I0 J0 F1 Z1 K1 I1 J1 F2 Z2 K2 I2 J2 F3 Z3 K3 I3 J3 F4 
  have n2 : ¬ w2.heap.size = w.heap.size := by omega
  have n2' : ¬ w.heap.size = w2.heap.size := by omega
  go_wp2_with fail
  refine (H5.out _).mono ?_
  rintro e w6 ⟨rfl, b6⟩
  have s6 : w2.heap.size < w6.heap.size := by have := b6.size; simp at this; omega
  have ot : ∀ {p : Addr} {v : Value}, p.block ≠ w2.heap.size → w5.cell? p = some v → w6.cell? p = some v := fun {p v} h hc => by
    rw [b6.cell (by have := World.block_lt_of_cell? w5 p hc; simpa using this), World.cell?_setCell_other _ _ _ _ (fun e => h (by rw [← e]))]; exact hc
  have of : ∀ {p : Addr}, p.block < w5.heap.size → w5.frozen? p = false → w6.frozen? p = false := fun {p} h hc => by rw [b6.frozen (by simpa using h), World.frozen?_setCell]; exact hc
  have G0 := ot (p := ⟨w1.heap.size, 0, none⟩) (by simp; omega) F0'
  have G1 := ot (p := ⟨w1.heap.size, 1, none⟩) (by simp; omega) F1'
  have G2 := ot (p := ⟨w1.heap.size, 2, none⟩) (by simp; omega) F2'
  have G3 := ot (p := ⟨w1.heap.size, 3, none⟩) (by simp; omega) F3'
  have G4 := ot (p := ⟨w1.heap.size, 4, none⟩) (by simp; omega) F4'
  have M0 := ot (p := ⟨w.heap.size, 0, none⟩) (by simp; omega) Z0'
  have L0 := of (p := ⟨w.heap.size, 0, none⟩) (by simp; omega) K0'
  have M1 := ot (p := ⟨w.heap.size, 1, none⟩) (by simp; omega) Z1'
  have L1 := of (p := ⟨w.heap.size, 1, none⟩) (by simp; omega) K1'
  have M2 := ot (p := ⟨w.heap.size, 2, none⟩) (by simp; omega) Z2'
  have L2 := of (p := ⟨w.heap.size, 2, none⟩) (by simp; omega) K2'
  have M3 := ot (p := ⟨w.heap.size, 3, none⟩) (by simp; omega) Z3'
  have L3 := of (p := ⟨w.heap.size, 3, none⟩) (by simp; omega) K3'
  have O0 : w6.cell? ⟨w2.heap.size, 0, none⟩ = some (.int .u8 x0) := by rw [b6.cell (p := ⟨w2.heap.size, 0, none⟩) (by simpa using s5)]; go_simp
  have O1 : w6.cell? ⟨w2.heap.size, 1, none⟩ = some (.int .u8 (x1 / 16)) := by rw [b6.cell (p := ⟨w2.heap.size, 1, none⟩) (by simpa using s5)]; go_simp
  have O2 : w6.cell? ⟨w2.heap.size, 2, none⟩ = some (.int .u8 (x1 % 16)) := by rw [b6.cell (p := ⟨w2.heap.size, 2, none⟩) (by simpa using s5)]; go_simp
  have O3 : w6.cell? ⟨w2.heap.size, 3, none⟩ = some (.int .i32 z) := by rw [b6.cell (p := ⟨w2.heap.size, 3, none⟩) (by simpa using s5)]; go_simp
  have B6 : Below w.heap.size w w6 := (B5.setCell (by simp; omega) _).trans (b6.mono (by simp; omega))
  clear ot of b6 F0' Z0' K0' I0' J0' F1' Z1' K1' I1' J1' F2' Z2' K2' I2' J2' F3' Z3' K3' I3' J3' F4'
  cases m
  · simp only [Bool.false_eq_true, if_false]
    go_wp2_with fail
    refine bodyPost_ret (v := .tuple #[insV 0 0 0 0, .int .i64 0, .int .i64 21]) ?_ rfl ⟨rfl, ?_⟩
    · unfold insV
      simp [results, Tryz.results66, go_sem, M0, M1, M2, M3]
    · exact (((B6.setCell (by simp) _).setCell (by simp) _).setCell (by simp) _).setCell (by simp) _
  · simp only [if_true]
    go_wp2_with fail
    go_region
    all_goals
      go_wp2_with fail
      refine bodyPost_ret (v := .tuple #[insV x0 (x1 / 16) (x1 % 16) z, .int .i64 2, .int .i64 0]) ?_ rfl ⟨by rw [HZ.out], ?_⟩
      · unfold insV
        simp [results, Tryz.results66, go_sem, M0, M1, M2, M3]
      · first
          | exact ((((B6.drew.setCell (by simp) _).setCell (by simp) _).setCell (by simp) _).setCell (by simp) _)
          | exact ((((B6.setCell (by simp) _).setCell (by simp) _).setCell (by simp) _).setCell (by simp) _).drew

set_option maxHeartbeats 4000000 in
theorem dec20010 (host : Bool) (blk off len cap : Nat) (x0 x1 x2 x3 x4 x5 : Int) (w : World) (hx0 : w.cell? ⟨blk, off, none⟩ = some (.int .u8 x0)) (hx1 : w.cell? ⟨blk, off + 1, none⟩ = some (.int .u8 x1))
    (b0 : 0 ≤ x0 ∧ x0 < 256) (b1 : 0 ≤ x1 ∧ x1 < 256) (b2 : 0 ≤ x2 ∧ x2 < 256) (b3 : 0 ≤ x3 ∧ x3 < 256) (b4 : 0 ≤ x4 ∧ x4 < 256) (b5 : 0 ≤ x5 ∧ x5 < 256) (hlen : len ≤ 9223372036854775807) (hn : 2 ≤ len) (hf : fm x0 host = ⟨2, 0, 0, 1, 0⟩) (m : Bool) (hm : mayB ⟨2, 0, 0, 1, 0⟩ (regA ⟨2, 0, 0, 1, 0⟩ x1) (regB ⟨2, 0, 0, 1, 0⟩ x1) (numL ⟨2, 0, 0, 1, 0⟩ x1 x2 x3 x4 x5) = m) :
    Calls Tryz.prog 66 #[.slice (some ⟨blk, off, none⟩) len cap, .bool host] w (if m = true then DecPost x0 (regA ⟨2, 0, 0, 1, 0⟩ x1) (regB ⟨2, 0, 0, 1, 0⟩ x1) (numL ⟨2, 0, 0, 1, 0⟩ x1 x2 x3 x4 x5) 2 0 w else DecPost 0 0 0 0 0 21 w) := by
  have hFI : fmIs ⟨2, 0, 0, 1, 0⟩ := by unfold fmIs; simp
  have HE := eqForm _ hFI
  have h1 := fun w => formOf_c x0 host w b0.1 b0.2
  rw [hf] at h1
  have H1 := Lib.hid h1
  clear h1
  unfold Fm.val at H1 HE
  have hnb := numF_bd hFI b1 b2 b3 b4
  have e1 : regA ⟨2, 0, 0, 1, 0⟩ x1 = 0 := by simp [regA]
  have e2 : regB ⟨2, 0, 0, 1, 0⟩ x1 = 0 := by simp [regB]
  have e3 : numL ⟨2, 0, 0, 1, 0⟩ x1 x2 x3 x4 x5 = (numF ⟨2, 0, 0, 1, 0⟩ x1 x2 x3 x4) := by simp [numL]
  rw [e1, e2, e3] at hm ⊢
  clear e1 e2 e3
  have h5 := fun w => may_c x0 0 0 (numF ⟨2, 0, 0, 1, 0⟩ x1 x2 x3 x4) host w b0.1 b0.2 (by omega) (by omega) (by omega) (by omega) hnb.1 hnb.2
  rw [hf, hm] at h5
  have H5 := Lib.hid h5
  have HF := Lib.hid hf
  clear h5 hm hf
  unfold insV at H5
  have hlt : ¬ ((len : Int) < 2) := by omega
  have hpos : (0 : Int) < (len : Int) := by omega
  have hz0 : ((len : Int) == 0) = false := by simp; omega
  have hbw : blk < w.heap.size := World.block_lt_of_cell? w _ hx0
  have X0 := hx0
  have X1 := Lib.hid hx1
  clear hx1
  go_enter Tryz.func66, Tryz.ntmps66
  go_wp2_with fail
  refine (H1.out _).mono ?_
  rintro e w1 ⟨rfl, hb1⟩
  have B1 := below_box hb1
  have s1 : w.heap.size < w1.heap.size := by have := hb1.size; simp at this; omega
  have z0 : w1.cell? ⟨w.heap.size, 0, none⟩ = some (.int .u8 0) := by rw [hb1.cell (p := ⟨w.heap.size, 0, none⟩) (by simp)]; go_simp
  have y0 : w1.frozen? ⟨w.heap.size, 0, none⟩ = false := by rw [hb1.frozen (p := ⟨w.heap.size, 0, none⟩) (by simp)]; go_simp
  have z1 : w1.cell? ⟨w.heap.size, 1, none⟩ = some (.int .u8 0) := by rw [hb1.cell (p := ⟨w.heap.size, 1, none⟩) (by simp)]; go_simp
  have y1 : w1.frozen? ⟨w.heap.size, 1, none⟩ = false := by rw [hb1.frozen (p := ⟨w.heap.size, 1, none⟩) (by simp)]; go_simp
  have z2 : w1.cell? ⟨w.heap.size, 2, none⟩ = some (.int .u8 0) := by rw [hb1.cell (p := ⟨w.heap.size, 2, none⟩) (by simp)]; go_simp
  have y2 : w1.frozen? ⟨w.heap.size, 2, none⟩ = false := by rw [hb1.frozen (p := ⟨w.heap.size, 2, none⟩) (by simp)]; go_simp
  have z3 : w1.cell? ⟨w.heap.size, 3, none⟩ = some (.int .i32 0) := by rw [hb1.cell (p := ⟨w.heap.size, 3, none⟩) (by simp)]; go_simp
  have y3 : w1.frozen? ⟨w.heap.size, 3, none⟩ = false := by rw [hb1.frozen (p := ⟨w.heap.size, 3, none⟩) (by simp)]; go_simp
  have Y0 : w1.cell? ⟨blk, off, none⟩ = some (.int .u8 x0) := by
    rw [B1.cell (p := ⟨blk, off, none⟩) hbw]; exact X0
  have Y1 : w1.cell? ⟨blk, off + 1, none⟩ = some (.int .u8 x1) := by
    rw [B1.cell (p := ⟨blk, off + 1, none⟩) hbw]; exact X1.out
  have hb2' : blk < w1.heap.size := by omega
  clear hb1
  go_wp2_with fail
  have r0 : ReaderAt ((w1.alloc (.cells #[.int .i64 2, .int .i64 0, .int .i64 0, .int .i64 1, .int .i64 0] 108)).alloc (.cells #[.slice (some ⟨blk, off, none⟩) len cap, .int .i64 0] 143)) (w1.heap.size + 1) blk off len cap 0 := ⟨by go_simp, by go_simp, by go_simp⟩
  have Q0 : ((w1.alloc (.cells #[.int .i64 2, .int .i64 0, .int .i64 0, .int .i64 1, .int .i64 0] 108)).alloc (.cells #[.slice (some ⟨blk, off, none⟩) len cap, .int .i64 0] 143)).cell? ⟨blk, off, none⟩ = some (.int .u8 x0) := (cell_past (by simp; omega) _).trans ((cell_past hb2' _).trans Y0)
  have Q1 : ((w1.alloc (.cells #[.int .i64 2, .int .i64 0, .int .i64 0, .int .i64 1, .int .i64 0] 108)).alloc (.cells #[.slice (some ⟨blk, off, none⟩) len cap, .int .i64 0] 143)).cell? ⟨blk, off + 1, none⟩ = some (.int .u8 x1) := (cell_past (by simp; omega) _).trans ((cell_past hb2' _).trans Y1)
  clear Y0 Y1
  refine (next_c (w1.heap.size + 1) blk off len cap 0 x0 _ r0 (by omega) hlen (by omega) Q0).mono ?_
  rintro e w2 ⟨rfl, g2, r2⟩
  have s2 : w1.heap.size + 1 < w2.heap.size := by have := g2.size; simp at this; omega
  have f0 : w2.cell? ⟨w1.heap.size, 0, none⟩ = some (.int .i64 2) := gcell g2 (by simp) (by go_simp)
  have f1 : w2.cell? ⟨w1.heap.size, 1, none⟩ = some (.int .i64 0) := gcell g2 (by simp) (by go_simp)
  have f2 : w2.cell? ⟨w1.heap.size, 2, none⟩ = some (.int .i64 0) := gcell g2 (by simp) (by go_simp)
  have f3 : w2.cell? ⟨w1.heap.size, 3, none⟩ = some (.int .i64 1) := gcell g2 (by simp) (by go_simp)
  have f4 : w2.cell? ⟨w1.heap.size, 4, none⟩ = some (.int .i64 0) := gcell g2 (by simp) (by go_simp)
  have z0' : w2.cell? ⟨w.heap.size, 0, none⟩ = some (.int .u8 0) := gcell g2 (by simp; omega) (by go_simp)
  have y0' : w2.frozen? ⟨w.heap.size, 0, none⟩ = false := gfrozen g2 (by simp; omega) (by simp; omega) (by go_simp)
  have z1' : w2.cell? ⟨w.heap.size, 1, none⟩ = some (.int .u8 0) := gcell g2 (by simp; omega) (by go_simp)
  have y1' : w2.frozen? ⟨w.heap.size, 1, none⟩ = false := gfrozen g2 (by simp; omega) (by simp; omega) (by go_simp)
  have z2' : w2.cell? ⟨w.heap.size, 2, none⟩ = some (.int .u8 0) := gcell g2 (by simp; omega) (by go_simp)
  have y2' : w2.frozen? ⟨w.heap.size, 2, none⟩ = false := gfrozen g2 (by simp; omega) (by simp; omega) (by go_simp)
  have z3' : w2.cell? ⟨w.heap.size, 3, none⟩ = some (.int .i32 0) := gcell g2 (by simp; omega) (by go_simp)
  have y3' : w2.frozen? ⟨w.heap.size, 3, none⟩ = false := gfrozen g2 (by simp; omega) (by simp; omega) (by go_simp)
  have U1 : w2.cell? ⟨blk, off + 1, none⟩ = some (.int .u8 x1) := gcell g2 (by simp; omega) Q1
  have B2 : Below w.heap.size w w2 := (((B1.alloc (by omega) _).alloc (by simp; omega) _).grown g2 (by simp; omega) (fun k hk => by cases hk; omega))
  clear z0 z1 z2 z3 y0 y1 y2 y3 r0 Q0 Q1
  have s2' : w1.heap.size < w2.heap.size := by omega
  have s2'' : w.heap.size < w2.heap.size := by omega
  go_wp2_with fail
  obtain ⟨W4, hW4⟩ : ∃ W4, W4 = (w2.alloc (.cells #[.int .u8 x0, .int .u8 0, .int .u8 0, .int .i32 0] 76)) := ⟨_, rfl⟩
  have r4 : ReaderAt W4 (w1.heap.size + 1) blk off len cap 1 := by rw [hW4]; exact ⟨(cell_past s2 _).trans r2.1, (cell_past s2 _).trans r2.2.1, (frozen_past s2 _).trans r2.2.2⟩
  have F0 : W4.cell? ⟨w1.heap.size, 0, none⟩ = some (.int .i64 2) := by rw [hW4]; exact (cell_past s2' _).trans f0
  have F1 : W4.cell? ⟨w1.heap.size, 1, none⟩ = some (.int .i64 0) := by rw [hW4]; exact (cell_past s2' _).trans f1
  have F2 : W4.cell? ⟨w1.heap.size, 2, none⟩ = some (.int .i64 0) := by rw [hW4]; exact (cell_past s2' _).trans f2
  have F3 : W4.cell? ⟨w1.heap.size, 3, none⟩ = some (.int .i64 1) := by rw [hW4]; exact (cell_past s2' _).trans f3
  have F4 : W4.cell? ⟨w1.heap.size, 4, none⟩ = some (.int .i64 0) := by rw [hW4]; exact (cell_past s2' _).trans f4
  have Z0 : W4.cell? ⟨w.heap.size, 0, none⟩ = some (.int .u8 0) := by rw [hW4]; exact (cell_past s2'' _).trans z0'
  have K0 : W4.frozen? ⟨w.heap.size, 0, none⟩ = false := by rw [hW4]; exact (frozen_past s2'' _).trans y0'
  have Z1 : W4.cell? ⟨w.heap.size, 1, none⟩ = some (.int .u8 0) := by rw [hW4]; exact (cell_past s2'' _).trans z1'
  have K1 : W4.frozen? ⟨w.heap.size, 1, none⟩ = false := by rw [hW4]; exact (frozen_past s2'' _).trans y1'
  have Z2 : W4.cell? ⟨w.heap.size, 2, none⟩ = some (.int .u8 0) := by rw [hW4]; exact (cell_past s2'' _).trans z2'
  have K2 : W4.frozen? ⟨w.heap.size, 2, none⟩ = false := by rw [hW4]; exact (frozen_past s2'' _).trans y2'
  have Z3 : W4.cell? ⟨w.heap.size, 3, none⟩ = some (.int .i32 0) := by rw [hW4]; exact (cell_past s2'' _).trans z3'
  have K3 : W4.frozen? ⟨w.heap.size, 3, none⟩ = false := by rw [hW4]; exact (frozen_past s2'' _).trans y3'
  have D1 : W4.cell? ⟨blk, off + 1, none⟩ = some (.int .u8 x1) := by rw [hW4]; exact (cell_past (by omega) _).trans U1
  have I0 : W4.cell? ⟨w2.heap.size, 0, none⟩ = some (.int .u8 x0) := by rw [hW4]; go_simp
  have J0 : W4.frozen? ⟨w2.heap.size, 0, none⟩ = false := by rw [hW4]; go_simp
  have I1 : W4.cell? ⟨w2.heap.size, 1, none⟩ = some (.int .u8 0) := by rw [hW4]; go_simp
  have J1 : W4.frozen? ⟨w2.heap.size, 1, none⟩ = false := by rw [hW4]; go_simp
  have I2 : W4.cell? ⟨w2.heap.size, 2, none⟩ = some (.int .u8 0) := by rw [hW4]; go_simp
  have J2 : W4.frozen? ⟨w2.heap.size, 2, none⟩ = false := by rw [hW4]; go_simp
  have I3 : W4.cell? ⟨w2.heap.size, 3, none⟩ = some (.int .i32 0) := by rw [hW4]; go_simp
  have J3 : W4.frozen? ⟨w2.heap.size, 3, none⟩ = false := by rw [hW4]; go_simp
  have B4 : Below w.heap.size w W4 := by rw [hW4]; exact B2.alloc (by omega) _
  have s4 : w2.heap.size < W4.heap.size := by rw [hW4]; simp
  rw [← hW4]
  clear hW4 f0 z0' y0' f1 z1' y1' f2 z2' y2' f3 z3' y3' f4 r2 U1
  have n1 : ¬ w2.heap.size = w1.heap.size := by omega
  have n1' : ¬ w1.heap.size = w2.heap.size := by omega
  have hN := number_c ⟨2, 0, 0, 1, 0⟩ hFI (w1.heap.size + 1) blk off len cap 1 x1 x2 x3 x4 W4 r4 hlen (by omega) (by simp; omega) (fun _ => D1) (fun h => absurd h (by decide)) (fun h => absurd h (by decide)) (fun h => absurd h (by decide)) b1 b2 b3 b4 (by omega)
  unfold Fm.val at hN
  refine hN.mono ?_
  clear hN
  rintro e w5 ⟨rfl, g5⟩
  obtain ⟨z, hzz⟩ : ∃ z, z = numF ⟨2, 0, 0, 1, 0⟩ x1 x2 x3 x4 := ⟨_, rfl⟩
  rw [← hzz] at H5 hnb ⊢
  have HZ := Lib.hid hzz
  clear hzz
  have F0' := gcell g5 (p := ⟨w1.heap.size, 0, none⟩) (by simp) F0
  have F1' := gcell g5 (p := ⟨w1.heap.size, 1, none⟩) (by simp) F1
  have F2' := gcell g5 (p := ⟨w1.heap.size, 2, none⟩) (by simp) F2
  have F3' := gcell g5 (p := ⟨w1.heap.size, 3, none⟩) (by simp) F3
  have F4' := gcell g5 (p := ⟨w1.heap.size, 4, none⟩) (by simp) F4
  have Z0' := gcell g5 (p := ⟨w.heap.size, 0, none⟩) (by simp; omega) Z0
  have K0' := gfrozen g5 (p := ⟨w.heap.size, 0, none⟩) (by simp; omega) (by simp; omega) K0
  have I0' := gcell g5 (p := ⟨w2.heap.size, 0, none⟩) (by simp; omega) I0
  have J0' := gfrozen g5 (p := ⟨w2.heap.size, 0, none⟩) (by simp; omega) (by simp; omega) J0
  have Z1' := gcell g5 (p := ⟨w.heap.size, 1, none⟩) (by simp; omega) Z1
  have K1' := gfrozen g5 (p := ⟨w.heap.size, 1, none⟩) (by simp; omega) (by simp; omega) K1
  have I1' := gcell g5 (p := ⟨w2.heap.size, 1, none⟩) (by simp; omega) I1
  have J1' := gfrozen g5 (p := ⟨w2.heap.size, 1, none⟩) (by simp; omega) (by simp; omega) J1
  have Z2' := gcell g5 (p := ⟨w.heap.size, 2, none⟩) (by simp; omega) Z2
  have K2' := gfrozen g5 (p := ⟨w.heap.size, 2, none⟩) (by simp; omega) (by simp; omega) K2
  have I2' := gcell g5 (p := ⟨w2.heap.size, 2, none⟩) (by simp; omega) I2
  have J2' := gfrozen g5 (p := ⟨w2.heap.size, 2, none⟩) (by simp; omega) (by simp; omega) J2
  have Z3' := gcell g5 (p := ⟨w.heap.size, 3, none⟩) (by simp; omega) Z3
  have K3' := gfrozen g5 (p := ⟨w.heap.size, 3, none⟩) (by simp; omega) (by simp; omega) K3
  have I3' := gcell g5 (p := ⟨w2.heap.size, 3, none⟩) (by simp; omega) I3
  have J3' := gfrozen g5 (p := ⟨w2.heap.size, 3, none⟩) (by simp; omega) (by simp; omega) J3
  have B5 : Below w.heap.size w w5 := B4.grown g5 (by omega) (fun k hk => by cases hk; omega)
  have s5 : w2.heap.size < w5.heap.size := Nat.lt_of_lt_of_le s4 g5.size
  clear r4 g5 F0 Z0 K0 I0 J0 F1 Z1 K1 I1 J1 F2 Z2 K2 I2 J2 F3 Z3 K3 I3 J3 F4 D1
  have n2 : ¬ w2.heap.size = w.heap.size := by omega
  have n2' : ¬ w.heap.size = w2.heap.size := by omega
  go_wp2_with fail
  refine (H5.out _).mono ?_
  rintro e w6 ⟨rfl, b6⟩
  have s6 : w2.heap.size < w6.heap.size := by have := b6.size; simp at this; omega
  have ot : ∀ {p : Addr} {v : Value}, p.block ≠ w2.heap.size → w5.cell? p = some v → w6.cell? p = some v := fun {p v} h hc => by
    rw [b6.cell (by have := World.block_lt_of_cell? w5 p hc; simpa using this), World.cell?_setCell_other _ _ _ _ (fun e => h (by rw [← e]))]; exact hc
  have of : ∀ {p : Addr}, p.block < w5.heap.size → w5.frozen? p = false → w6.frozen? p = false := fun {p} h hc => by rw [b6.frozen (by simpa using h), World.frozen?_setCell]; exact hc
  have G0 := ot (p := ⟨w1.heap.size, 0, none⟩) (by simp; omega) F0'
  have G1 := ot (p := ⟨w1.heap.size, 1, none⟩) (by simp; omega) F1'
  have G2 := ot (p := ⟨w1.heap.size, 2, none⟩) (by simp; omega) F2'
  have G3 := ot (p := ⟨w1.heap.size, 3, none⟩) (by simp; omega) F3'
  have G4 := ot (p := ⟨w1.heap.size, 4, none⟩) (by simp; omega) F4'
  have M0 := ot (p := ⟨w.heap.size, 0, none⟩) (by simp; omega) Z0'
  have L0 := of (p := ⟨w.heap.size, 0, none⟩) (by simp; omega) K0'
  have M1 := ot (p := ⟨w.heap.size, 1, none⟩) (by simp; omega) Z1'
  have L1 := of (p := ⟨w.heap.size, 1, none⟩) (by simp; omega) K1'
  have M2 := ot (p := ⟨w.heap.size, 2, none⟩) (by simp; omega) Z2'
  have L2 := of (p := ⟨w.heap.size, 2, none⟩) (by simp; omega) K2'
  have M3 := ot (p := ⟨w.heap.size, 3, none⟩) (by simp; omega) Z3'
  have L3 := of (p := ⟨w.heap.size, 3, none⟩) (by simp; omega) K3'
  have O0 : w6.cell? ⟨w2.heap.size, 0, none⟩ = some (.int .u8 x0) := by rw [b6.cell (p := ⟨w2.heap.size, 0, none⟩) (by simpa using s5)]; go_simp
  have O1 : w6.cell? ⟨w2.heap.size, 1, none⟩ = some (.int .u8 0) := by rw [b6.cell (p := ⟨w2.heap.size, 1, none⟩) (by simpa using s5)]; go_simp
  have O2 : w6.cell? ⟨w2.heap.size, 2, none⟩ = some (.int .u8 0) := by rw [b6.cell (p := ⟨w2.heap.size, 2, none⟩) (by simpa using s5)]; go_simp
  have O3 : w6.cell? ⟨w2.heap.size, 3, none⟩ = some (.int .i32 z) := by rw [b6.cell (p := ⟨w2.heap.size, 3, none⟩) (by simpa using s5)]; go_simp
  have B6 : Below w.heap.size w w6 := (B5.setCell (by simp; omega) _).trans (b6.mono (by simp; omega))
  clear ot of b6 F0' Z0' K0' I0' J0' F1' Z1' K1' I1' J1' F2' Z2' K2' I2' J2' F3' Z3' K3' I3' J3' F4'
  cases m
  · simp only [Bool.false_eq_true, if_false]
    go_wp2_with fail
    refine bodyPost_ret (v := .tuple #[insV 0 0 0 0, .int .i64 0, .int .i64 21]) ?_ rfl ⟨rfl, ?_⟩
    · unfold insV
      simp [results, Tryz.results66, go_sem, M0, M1, M2, M3]
    · exact (((B6.setCell (by simp) _).setCell (by simp) _).setCell (by simp) _).setCell (by simp) _
  · simp only [if_true]
    go_wp2_with fail
    go_region
    all_goals
      go_wp2_with fail
      refine bodyPost_ret (v := .tuple #[insV x0 0 0 z, .int .i64 2, .int .i64 0]) ?_ rfl ⟨by rw [HZ.out], ?_⟩
      · unfold insV
        simp [results, Tryz.results66, go_sem, M0, M1, M2, M3]
      · first
          | exact ((((B6.drew.setCell (by simp) _).setCell (by simp) _).setCell (by simp) _).setCell (by simp) _)
          | exact ((((B6.setCell (by simp) _).setCell (by simp) _).setCell (by simp) _).setCell (by simp) _).drew

set_option maxHeartbeats 4000000 in
theorem dec31011 (host : Bool) (blk off len cap : Nat) (x0 x1 x2 x3 x4 x5 : Int) (w : World) (hx0 : w.cell? ⟨blk, off, none⟩ = some (.int .u8 x0)) (hx1 : w.cell? ⟨blk, off + 1, none⟩ = some (.int .u8 x1)) (hx2 : w.cell? ⟨blk, off + 2, none⟩ = some (.int .u8 x2))
    (b0 : 0 ≤ x0 ∧ x0 < 256) (b1 : 0 ≤ x1 ∧ x1 < 256) (b2 : 0 ≤ x2 ∧ x2 < 256) (b3 : 0 ≤ x3 ∧ x3 < 256) (b4 : 0 ≤ x4 ∧ x4 < 256) (b5 : 0 ≤ x5 ∧ x5 < 256) (hlen : len ≤ 9223372036854775807) (hn : 3 ≤ len) (hf : fm x0 host = ⟨3, 1, 0, 1, 1⟩) (m : Bool) (hm : mayB ⟨3, 1, 0, 1, 1⟩ (regA ⟨3, 1, 0, 1, 1⟩ x1) (regB ⟨3, 1, 0, 1, 1⟩ x1) (numL ⟨3, 1, 0, 1, 1⟩ x1 x2 x3 x4 x5) = m) :
    Calls Tryz.prog 66 #[.slice (some ⟨blk, off, none⟩) len cap, .bool host] w (if m = true then DecPost x0 (regA ⟨3, 1, 0, 1, 1⟩ x1) (regB ⟨3, 1, 0, 1, 1⟩ x1) (numL ⟨3, 1, 0, 1, 1⟩ x1 x2 x3 x4 x5) 3 0 w else DecPost 0 0 0 0 0 21 w) := by
  have hFI : fmIs ⟨3, 1, 0, 1, 1⟩ := by unfold fmIs; simp
  have HE := eqForm _ hFI
  have h1 := fun w => formOf_c x0 host w b0.1 b0.2
  rw [hf] at h1
  have H1 := Lib.hid h1
  clear h1
  unfold Fm.val at H1 HE
  have hnb := numF_bd hFI b2 b3 b4 b5
  have e1 : regA ⟨3, 1, 0, 1, 1⟩ x1 = (x1 / 16) := by simp [regA]
  have e2 : regB ⟨3, 1, 0, 1, 1⟩ x1 = (x1 % 16) := by simp [regB]
  have e3 : numL ⟨3, 1, 0, 1, 1⟩ x1 x2 x3 x4 x5 = (numF ⟨3, 1, 0, 1, 1⟩ x2 x3 x4 x5) := by simp [numL]
  rw [e1, e2, e3] at hm ⊢
  clear e1 e2 e3
  have h5 := fun w => may_c x0 (x1 / 16) (x1 % 16) (numF ⟨3, 1, 0, 1, 1⟩ x2 x3 x4 x5) host w b0.1 b0.2 (by omega) (by omega) (by omega) (by omega) hnb.1 hnb.2
  rw [hf, hm] at h5
  have H5 := Lib.hid h5
  have HF := Lib.hid hf
  clear h5 hm hf
  unfold insV at H5
  have hlt : ¬ ((len : Int) < 3) := by omega
  have hpos : (0 : Int) < (len : Int) := by omega
  have hz0 : ((len : Int) == 0) = false := by simp; omega
  have hbw : blk < w.heap.size := World.block_lt_of_cell? w _ hx0
  have X0 := hx0
  have X1 := Lib.hid hx1
  clear hx1
  have X2 := Lib.hid hx2
  clear hx2
  go_enter Tryz.func66, Tryz.ntmps66
  go_wp2_with fail
  refine (H1.out _).mono ?_
  rintro e w1 ⟨rfl, hb1⟩
  have B1 := below_box hb1
  have s1 : w.heap.size < w1.heap.size := by have := hb1.size; simp at this; omega
  have z0 : w1.cell? ⟨w.heap.size, 0, none⟩ = some (.int .u8 0) := by rw [hb1.cell (p := ⟨w.heap.size, 0, none⟩) (by simp)]; go_simp
  have y0 : w1.frozen? ⟨w.heap.size, 0, none⟩ = false := by rw [hb1.frozen (p := ⟨w.heap.size, 0, none⟩) (by simp)]; go_simp
  have z1 : w1.cell? ⟨w.heap.size, 1, none⟩ = some (.int .u8 0) := by rw [hb1.cell (p := ⟨w.heap.size, 1, none⟩) (by simp)]; go_simp
  have y1 : w1.frozen? ⟨w.heap.size, 1, none⟩ = false := by rw [hb1.frozen (p := ⟨w.heap.size, 1, none⟩) (by simp)]; go_simp
  have z2 : w1.cell? ⟨w.heap.size, 2, none⟩ = some (.int .u8 0) := by rw [hb1.cell (p := ⟨w.heap.size, 2, none⟩) (by simp)]; go_simp
  have y2 : w1.frozen? ⟨w.heap.size, 2, none⟩ = false := by rw [hb1.frozen (p := ⟨w.heap.size, 2, none⟩) (by simp)]; go_simp
  have z3 : w1.cell? ⟨w.heap.size, 3, none⟩ = some (.int .i32 0) := by rw [hb1.cell (p := ⟨w.heap.size, 3, none⟩) (by simp)]; go_simp
  have y3 : w1.frozen? ⟨w.heap.size, 3, none⟩ = false := by rw [hb1.frozen (p := ⟨w.heap.size, 3, none⟩) (by simp)]; go_simp
  have Y0 : w1.cell? ⟨blk, off, none⟩ = some (.int .u8 x0) := by
    rw [B1.cell (p := ⟨blk, off, none⟩) hbw]; exact X0
  have Y1 : w1.cell? ⟨blk, off + 1, none⟩ = some (.int .u8 x1) := by
    rw [B1.cell (p := ⟨blk, off + 1, none⟩) hbw]; exact X1.out
  have Y2 : w1.cell? ⟨blk, off + 2, none⟩ = some (.int .u8 x2) := by
    rw [B1.cell (p := ⟨blk, off + 2, none⟩) hbw]; exact X2.out
  have hb2' : blk < w1.heap.size := by omega
  clear hb1
  go_wp2_with fail
  have r0 : ReaderAt ((w1.alloc (.cells #[.int .i64 3, .int .i64 1, .int .i64 0, .int .i64 1, .int .i64 1] 108)).alloc (.cells #[.slice (some ⟨blk, off, none⟩) len cap, .int .i64 0] 143)) (w1.heap.size + 1) blk off len cap 0 := ⟨by go_simp, by go_simp, by go_simp⟩
  have Q0 : ((w1.alloc (.cells #[.int .i64 3, .int .i64 1, .int .i64 0, .int .i64 1, .int .i64 1] 108)).alloc (.cells #[.slice (some ⟨blk, off, none⟩) len cap, .int .i64 0] 143)).cell? ⟨blk, off, none⟩ = some (.int .u8 x0) := (cell_past (by simp; omega) _).trans ((cell_past hb2' _).trans Y0)
  have Q1 : ((w1.alloc (.cells #[.int .i64 3, .int .i64 1, .int .i64 0, .int .i64 1, .int .i64 1] 108)).alloc (.cells #[.slice (some ⟨blk, off, none⟩) len cap, .int .i64 0] 143)).cell? ⟨blk, off + 1, none⟩ = some (.int .u8 x1) := (cell_past (by simp; omega) _).trans ((cell_past hb2' _).trans Y1)
  have Q2 : ((w1.alloc (.cells #[.int .i64 3, .int .i64 1, .int .i64 0, .int .i64 1, .int .i64 1] 108)).alloc (.cells #[.slice (some ⟨blk, off, none⟩) len cap, .int .i64 0] 143)).cell? ⟨blk, off + 2, none⟩ = some (.int .u8 x2) := (cell_past (by simp; omega) _).trans ((cell_past hb2' _).trans Y2)
  clear Y0 Y1 Y2
  refine (next_c (w1.heap.size + 1) blk off len cap 0 x0 _ r0 (by omega) hlen (by omega) Q0).mono ?_
  rintro e w2 ⟨rfl, g2, r2⟩
  have s2 : w1.heap.size + 1 < w2.heap.size := by have := g2.size; simp at this; omega
  have f0 : w2.cell? ⟨w1.heap.size, 0, none⟩ = some (.int .i64 3) := gcell g2 (by simp) (by go_simp)
  have f1 : w2.cell? ⟨w1.heap.size, 1, none⟩ = some (.int .i64 1) := gcell g2 (by simp) (by go_simp)
  have f2 : w2.cell? ⟨w1.heap.size, 2, none⟩ = some (.int .i64 0) := gcell g2 (by simp) (by go_simp)
  have f3 : w2.cell? ⟨w1.heap.size, 3, none⟩ = some (.int .i64 1) := gcell g2 (by simp) (by go_simp)
  have f4 : w2.cell? ⟨w1.heap.size, 4, none⟩ = some (.int .i64 1) := gcell g2 (by simp) (by go_simp)
  have z0' : w2.cell? ⟨w.heap.size, 0, none⟩ = some (.int .u8 0) := gcell g2 (by simp; omega) (by go_simp)
  have y0' : w2.frozen? ⟨w.heap.size, 0, none⟩ = false := gfrozen g2 (by simp; omega) (by simp; omega) (by go_simp)
  have z1' : w2.cell? ⟨w.heap.size, 1, none⟩ = some (.int .u8 0) := gcell g2 (by simp; omega) (by go_simp)
  have y1' : w2.frozen? ⟨w.heap.size, 1, none⟩ = false := gfrozen g2 (by simp; omega) (by simp; omega) (by go_simp)
  have z2' : w2.cell? ⟨w.heap.size, 2, none⟩ = some (.int .u8 0) := gcell g2 (by simp; omega) (by go_simp)
  have y2' : w2.frozen? ⟨w.heap.size, 2, none⟩ = false := gfrozen g2 (by simp; omega) (by simp; omega) (by go_simp)
  have z3' : w2.cell? ⟨w.heap.size, 3, none⟩ = some (.int .i32 0) := gcell g2 (by simp; omega) (by go_simp)
  have y3' : w2.frozen? ⟨w.heap.size, 3, none⟩ = false := gfrozen g2 (by simp; omega) (by simp; omega) (by go_simp)
  have U1 : w2.cell? ⟨blk, off + 1, none⟩ = some (.int .u8 x1) := gcell g2 (by simp; omega) Q1
  have U2 : w2.cell? ⟨blk, off + 2, none⟩ = some (.int .u8 x2) := gcell g2 (by simp; omega) Q2
  have B2 : Below w.heap.size w w2 := (((B1.alloc (by omega) _).alloc (by simp; omega) _).grown g2 (by simp; omega) (fun k hk => by cases hk; omega))
  clear z0 z1 z2 z3 y0 y1 y2 y3 r0 Q0 Q1 Q2
  have s2' : w1.heap.size < w2.heap.size := by omega
  have s2'' : w.heap.size < w2.heap.size := by omega
  go_wp2_with fail
  have r2' : ReaderAt (w2.alloc (.cells #[.int .u8 x0, .int .u8 0, .int .u8 0, .int .i32 0] 76)) (w1.heap.size + 1) blk off len cap 1 := ⟨(cell_past s2 _).trans r2.1, (cell_past s2 _).trans r2.2.1, (frozen_past s2 _).trans r2.2.2⟩
  have P1 : (w2.alloc (.cells #[.int .u8 x0, .int .u8 0, .int .u8 0, .int .i32 0] 76)).cell? ⟨blk, off + 1, none⟩ = some (.int .u8 x1) := (cell_past (by omega) _).trans U1
  have P2 : (w2.alloc (.cells #[.int .u8 x0, .int .u8 0, .int .u8 0, .int .i32 0] 76)).cell? ⟨blk, off + 2, none⟩ = some (.int .u8 x2) := (cell_past (by omega) _).trans U2
  clear U1 U2
  refine (next_c (w1.heap.size + 1) blk off len cap 1 x1 _ r2' (by omega) hlen (by omega) P1).mono ?_
  rintro e w3 ⟨rfl, g3, r3⟩
  have s3 : w2.heap.size < w3.heap.size := by have := g3.size; simp at this; omega
  have f0' : w3.cell? ⟨w1.heap.size, 0, none⟩ = some (.int .i64 3) := gcell g3 (by simp) ((cell_past s2' _).trans f0)
  have f1' : w3.cell? ⟨w1.heap.size, 1, none⟩ = some (.int .i64 1) := gcell g3 (by simp) ((cell_past s2' _).trans f1)
  have f2' : w3.cell? ⟨w1.heap.size, 2, none⟩ = some (.int .i64 0) := gcell g3 (by simp) ((cell_past s2' _).trans f2)
  have f3' : w3.cell? ⟨w1.heap.size, 3, none⟩ = some (.int .i64 1) := gcell g3 (by simp) ((cell_past s2' _).trans f3)
  have f4' : w3.cell? ⟨w1.heap.size, 4, none⟩ = some (.int .i64 1) := gcell g3 (by simp) ((cell_past s2' _).trans f4)
  have z0'' : w3.cell? ⟨w.heap.size, 0, none⟩ = some (.int .u8 0) := gcell g3 (by simp; omega) ((cell_past s2'' _).trans z0')
  have y0'' : w3.frozen? ⟨w.heap.size, 0, none⟩ = false := gfrozen g3 (by simp; omega) (by simp; omega) ((frozen_past s2'' _).trans y0')
  have z1'' : w3.cell? ⟨w.heap.size, 1, none⟩ = some (.int .u8 0) := gcell g3 (by simp; omega) ((cell_past s2'' _).trans z1')
  have y1'' : w3.frozen? ⟨w.heap.size, 1, none⟩ = false := gfrozen g3 (by simp; omega) (by simp; omega) ((frozen_past s2'' _).trans y1')
  have z2'' : w3.cell? ⟨w.heap.size, 2, none⟩ = some (.int .u8 0) := gcell g3 (by simp; omega) ((cell_past s2'' _).trans z2')
  have y2'' : w3.frozen? ⟨w.heap.size, 2, none⟩ = false := gfrozen g3 (by simp; omega) (by simp; omega) ((frozen_past s2'' _).trans y2')
  have z3'' : w3.cell? ⟨w.heap.size, 3, none⟩ = some (.int .i32 0) := gcell g3 (by simp; omega) ((cell_past s2'' _).trans z3')
  have y3'' : w3.frozen? ⟨w.heap.size, 3, none⟩ = false := gfrozen g3 (by simp; omega) (by simp; omega) ((frozen_past s2'' _).trans y3')
  have i0 : w3.cell? ⟨w2.heap.size, 0, none⟩ = some (.int .u8 x0) := gcell g3 (by simp; omega) (by go_simp)
  have j0 : w3.frozen? ⟨w2.heap.size, 0, none⟩ = false := gfrozen g3 (by simp) (by simp; omega) (by go_simp)
  have i1 : w3.cell? ⟨w2.heap.size, 1, none⟩ = some (.int .u8 0) := gcell g3 (by simp; omega) (by go_simp)
  have j1 : w3.frozen? ⟨w2.heap.size, 1, none⟩ = false := gfrozen g3 (by simp) (by simp; omega) (by go_simp)
  have i2 : w3.cell? ⟨w2.heap.size, 2, none⟩ = some (.int .u8 0) := gcell g3 (by simp; omega) (by go_simp)
  have j2 : w3.frozen? ⟨w2.heap.size, 2, none⟩ = false := gfrozen g3 (by simp) (by simp; omega) (by go_simp)
  have i3 : w3.cell? ⟨w2.heap.size, 3, none⟩ = some (.int .i32 0) := gcell g3 (by simp; omega) (by go_simp)
  have j3 : w3.frozen? ⟨w2.heap.size, 3, none⟩ = false := gfrozen g3 (by simp) (by simp; omega) (by go_simp)
  have U2 : w3.cell? ⟨blk, off + 2, none⟩ = some (.int .u8 x2) := gcell g3 (by simp; omega) P2
  have B3 : Below w.heap.size w w3 := (B2.alloc (by omega) _).grown g3 (by simp; omega) (fun k hk => by cases hk; omega)
  clear r2' f0 z0' y0' f1 z1' y1' f2 z2' y2' f3 z3' y3' f4 P1 P2
  have n1 : ¬ w2.heap.size = w1.heap.size := by omega
  have n1' : ¬ w1.heap.size = w2.heap.size := by omega
  go_wp2_with fail
  obtain ⟨W4, hW4⟩ : ∃ W4, W4 = (w3.setCell ⟨w2.heap.size, 1, none⟩ (.int .u8 (x1 / 16))).setCell ⟨w2.heap.size, 2, none⟩ (.int .u8 (x1 % 16)) := ⟨_, rfl⟩
  have ot : ∀ {p : Addr} {v : Value}, p.block ≠ w2.heap.size → w3.cell? p = some v → W4.cell? p = some v := fun {p v} h hc => by
    rw [hW4, World.cell?_setCell_other _ _ _ _ (fun e => h (by rw [← e])), World.cell?_setCell_other _ _ _ _ (fun e => h (by rw [← e]))]; exact hc
  have of : ∀ {p : Addr}, w3.frozen? p = false → W4.frozen? p = false := fun {p} hc => by rw [hW4, World.frozen?_setCell, World.frozen?_setCell]; exact hc
  have r4 : ReaderAt W4 (w1.heap.size + 1) blk off len cap 2 := ⟨ot (by simp; omega) r3.1, ot (by simp; omega) r3.2.1, of r3.2.2⟩
  have F0 : W4.cell? ⟨w1.heap.size, 0, none⟩ = some (.int .i64 3) := ot (by simp; omega) f0'
  have F1 : W4.cell? ⟨w1.heap.size, 1, none⟩ = some (.int .i64 1) := ot (by simp; omega) f1'
  have F2 : W4.cell? ⟨w1.heap.size, 2, none⟩ = some (.int .i64 0) := ot (by simp; omega) f2'
  have F3 : W4.cell? ⟨w1.heap.size, 3, none⟩ = some (.int .i64 1) := ot (by simp; omega) f3'
  have F4 : W4.cell? ⟨w1.heap.size, 4, none⟩ = some (.int .i64 1) := ot (by simp; omega) f4'
  have Z0 : W4.cell? ⟨w.heap.size, 0, none⟩ = some (.int .u8 0) := ot (by simp; omega) z0''
  have K0 : W4.frozen? ⟨w.heap.size, 0, none⟩ = false := of y0''
  have Z1 : W4.cell? ⟨w.heap.size, 1, none⟩ = some (.int .u8 0) := ot (by simp; omega) z1''
  have K1 : W4.frozen? ⟨w.heap.size, 1, none⟩ = false := of y1''
  have Z2 : W4.cell? ⟨w.heap.size, 2, none⟩ = some (.int .u8 0) := ot (by simp; omega) z2''
  have K2 : W4.frozen? ⟨w.heap.size, 2, none⟩ = false := of y2''
  have Z3 : W4.cell? ⟨w.heap.size, 3, none⟩ = some (.int .i32 0) := ot (by simp; omega) z3''
  have K3 : W4.frozen? ⟨w.heap.size, 3, none⟩ = false := of y3''
  have D2 : W4.cell? ⟨blk, off + 2, none⟩ = some (.int .u8 x2) := ot (by simp; omega) U2
  have I0 : W4.cell? ⟨w2.heap.size, 0, none⟩ = some (.int .u8 x0) := by rw [hW4]; go_simp
  have I1 : W4.cell? ⟨w2.heap.size, 1, none⟩ = some (.int .u8 (x1 / 16)) := by rw [hW4]; go_simp
  have I2 : W4.cell? ⟨w2.heap.size, 2, none⟩ = some (.int .u8 (x1 % 16)) := by rw [hW4]; go_simp
  have I3 : W4.cell? ⟨w2.heap.size, 3, none⟩ = some (.int .i32 0) := by rw [hW4]; go_simp
  have J0 : W4.frozen? ⟨w2.heap.size, 0, none⟩ = false := of j0
  have J1 : W4.frozen? ⟨w2.heap.size, 1, none⟩ = false := of j1
  have J2 : W4.frozen? ⟨w2.heap.size, 2, none⟩ = false := of j2
  have J3 : W4.frozen? ⟨w2.heap.size, 3, none⟩ = false := of j3
  have S4 : W4.heap.size = w3.heap.size := by rw [hW4]; simp
  have B4 : Below w.heap.size w W4 := by rw [hW4]; exact (B3.setCell (by simp; omega) _).setCell (by simp; omega) _
  rw [← hW4]
  clear hW4 ot of f0' z0'' y0'' i0 j0 f1' z1'' y1'' i1 j1 f2' z2'' y2'' i2 j2 f3' z3'' y3'' i3 j3 f4' r3 U2
  have s4 : w2.heap.size < W4.heap.size := by omega
  clear S4
  have hN := number_c ⟨3, 1, 0, 1, 1⟩ hFI (w1.heap.size + 1) blk off len cap 2 x2 x3 x4 x5 W4 r4 hlen (by omega) (by simp; omega) (fun _ => D2) (fun h => absurd h (by decide)) (fun h => absurd h (by decide)) (fun h => absurd h (by decide)) b2 b3 b4 b5 (by omega)
  unfold Fm.val at hN
  refine hN.mono ?_
  clear hN
  rintro e w5 ⟨rfl, g5⟩
  obtain ⟨z, hzz⟩ : ∃ z, z = numF ⟨3, 1, 0, 1, 1⟩ x2 x3 x4 x5 := ⟨_, rfl⟩
  rw [← hzz] at H5 hnb ⊢
  have HZ := Lib.hid hzz
  clear hzz
  have F0' := gcell g5 (p := ⟨w1.heap.size, 0, none⟩) (by simp) F0
  have F1' := gcell g5 (p := ⟨w1.heap.size, 1, none⟩) (by simp) F1
  have F2' := gcell g5 (p := ⟨w1.heap.size, 2, none⟩) (by simp) F2
  have F3' := gcell g5 (p := ⟨w1.heap.size, 3, none⟩) (by simp) F3
  have F4' := gcell g5 (p := ⟨w1.heap.size, 4, none⟩) (by simp) F4
  have Z0' := gcell g5 (p := ⟨w.heap.size, 0, none⟩) (by simp; omega) Z0
  have K0' := gfrozen g5 (p := ⟨w.heap.size, 0, none⟩) (by simp; omega) (by simp; omega) K0
  have I0' := gcell g5 (p := ⟨w2.heap.size, 0, none⟩) (by simp; omega) I0
  have J0' := gfrozen g5 (p := ⟨w2.heap.size, 0, none⟩) (by simp; omega) (by simp; omega) J0
  have Z1' := gcell g5 (p := ⟨w.heap.size, 1, none⟩) (by simp; omega) Z1
  have K1' := gfrozen g5 (p := ⟨w.heap.size, 1, none⟩) (by simp; omega) (by simp; omega) K1
  have I1' := gcell g5 (p := ⟨w2.heap.size, 1, none⟩) (by simp; omega) I1
  have J1' := gfrozen g5 (p := ⟨w2.heap.size, 1, none⟩) (by simp; omega) (by simp; omega) J1
  have Z2' := gcell g5 (p := ⟨w.heap.size, 2, none⟩) (by simp; omega) Z2
  have K2' := gfrozen g5 (p := ⟨w.heap.size, 2, none⟩) (by simp; omega) (by simp; omega) K2
  have I2' := gcell g5 (p := ⟨w2.heap.size, 2, none⟩) (by simp; omega) I2
  have J2' := gfrozen g5 (p := ⟨w2.heap.size, 2, none⟩) (by simp; omega) (by simp; omega) J2
  have Z3' := gcell g5 (p := ⟨w.heap.size, 3, none⟩) (by simp; omega) Z3
  have K3' := gfrozen g5 (p := ⟨w.heap.size, 3, none⟩) (by simp; omega) (by simp; omega) K3
  have I3' := gcell g5 (p := ⟨w2.heap.size, 3, none⟩) (by simp; omega) I3
  have J3' := gfrozen g5 (p := ⟨w2.heap.size, 3, none⟩) (by simp; omega) (by simp; omega) J3
  have B5 : Below w.heap.size w w5 := B4.grown g5 (by omega) (fun k hk => by cases hk; omega)
  have s5 : w2.heap.size < w5.heap.size := Nat.lt_of_lt_of_le s4 g5.size
  clear r4 g5 F0 Z0 K0 I0 J0 F1 Z1 K1 I1 J1 F2 Z2 K2 I2 J2 F3 Z3 K3 I3 J3 F4 D2
  have n2 : ¬ w2.heap.size = w.heap.size := by omega
  have n2' : ¬ w.heap.size = w2.heap.size := by omega
  go_wp2_with fail
  refine (H5.out _).mono ?_
  rintro e w6 ⟨rfl, b6⟩
  have s6 : w2.heap.size < w6.heap.size := by have := b6.size; simp at this; omega
  have ot : ∀ {p : Addr} {v : Value}, p.block ≠ w2.heap.size → w5.cell? p = some v → w6.cell? p = some v := fun {p v} h hc => by
    rw [b6.cell (by have := World.block_lt_of_cell? w5 p hc; simpa using this), World.cell?_setCell_other _ _ _ _ (fun e => h (by rw [← e]))]; exact hc
  have of : ∀ {p : Addr}, p.block < w5.heap.size → w5.frozen? p = false → w6.frozen? p = false := fun {p} h hc => by rw [b6.frozen (by simpa using h), World.frozen?_setCell]; exact hc
  have G0 := ot (p := ⟨w1.heap.size, 0, none⟩) (by simp; omega) F0'
  have G1 := ot (p := ⟨w1.heap.size, 1, none⟩) (by simp; omega) F1'
  have G2 := ot (p := ⟨w1.heap.size, 2, none⟩) (by simp; omega) F2'
  have G3 := ot (p := ⟨w1.heap.size, 3, none⟩) (by simp; omega) F3'
  have G4 := ot (p := ⟨w1.heap.size, 4, none⟩) (by simp; omega) F4'
  have M0 := ot (p := ⟨w.heap.size, 0, none⟩) (by simp; omega) Z0'
  have L0 := of (p := ⟨w.heap.size, 0, none⟩) (by simp; omega) K0'
  have M1 := ot (p := ⟨w.heap.size, 1, none⟩) (by simp; omega) Z1'
  have L1 := of (p := ⟨w.heap.size, 1, none⟩) (by simp; omega) K1'
  have M2 := ot (p := ⟨w.heap.size, 2, none⟩) (by simp; omega) Z2'
  have L2 := of (p := ⟨w.heap.size, 2, none⟩) (by simp; omega) K2'
  have M3 := ot (p := ⟨w.heap.size, 3, none⟩) (by simp; omega) Z3'
  have L3 := of (p := ⟨w.heap.size, 3, none⟩) (by simp; omega) K3'
  have O0 : w6.cell? ⟨w2.heap.size, 0, none⟩ = some (.int .u8 x0) := by rw [b6.cell (p := ⟨w2.heap.size, 0, none⟩) (by simpa using s5)]; go_simp
  have O1 : w6.cell? ⟨w2.heap.size, 1, none⟩ = some (.int .u8 (x1 / 16)) := by rw [b6.cell (p := ⟨w2.heap.size, 1, none⟩) (by simpa using s5)]; go_simp
  have O2 : w6.cell? ⟨w2.heap.size, 2, none⟩ = some (.int .u8 (x1 % 16)) := by rw [b6.cell (p := ⟨w2.heap.size, 2, none⟩) (by simpa using s5)]; go_simp
  have O3 : w6.cell? ⟨w2.heap.size, 3, none⟩ = some (.int .i32 z) := by rw [b6.cell (p := ⟨w2.heap.size, 3, none⟩) (by simpa using s5)]; go_simp
  have B6 : Below w.heap.size w w6 := (B5.setCell (by simp; omega) _).trans (b6.mono (by simp; omega))
  clear ot of b6 F0' Z0' K0' I0' J0' F1' Z1' K1' I1' J1' F2' Z2' K2' I2' J2' F3' Z3' K3' I3' J3' F4'
  cases m
  · simp only [Bool.false_eq_true, if_false]
    go_wp2_with fail
    refine bodyPost_ret (v := .tuple #[insV 0 0 0 0, .int .i64 0, .int .i64 21]) ?_ rfl ⟨rfl, ?_⟩
    · unfold insV
      simp [results, Tryz.results66, go_sem, M0, M1, M2, M3]
    · exact (((B6.setCell (by simp) _).setCell (by simp) _).setCell (by simp) _).setCell (by simp) _
  · simp only [if_true]
    go_wp2_with fail
    go_region
    all_goals
      go_wp2_with fail
      refine bodyPost_ret (v := .tuple #[insV x0 (x1 / 16) (x1 % 16) z, .int .i64 3, .int .i64 0]) ?_ rfl ⟨by rw [HZ.out], ?_⟩
      · unfold insV
        simp [results, Tryz.results66, go_sem, M0, M1, M2, M3]
      · first
          | exact ((((B6.drew.setCell (by simp) _).setCell (by simp) _).setCell (by simp) _).setCell (by simp) _)
          | exact ((((B6.setCell (by simp) _).setCell (by simp) _).setCell (by simp) _).setCell (by simp) _).drew

set_option maxHeartbeats 4000000 in
theorem dec31111 (host : Bool) (blk off len cap : Nat) (x0 x1 x2 x3 x4 x5 : Int) (w : World) (hx0 : w.cell? ⟨blk, off, none⟩ = some (.int .u8 x0)) (hx1 : w.cell? ⟨blk, off + 1, none⟩ = some (.int .u8 x1)) (hx2 : w.cell? ⟨blk, off + 2, none⟩ = some (.int .u8 x2))
    (b0 : 0 ≤ x0 ∧ x0 < 256) (b1 : 0 ≤ x1 ∧ x1 < 256) (b2 : 0 ≤ x2 ∧ x2 < 256) (b3 : 0 ≤ x3 ∧ x3 < 256) (b4 : 0 ≤ x4 ∧ x4 < 256) (b5 : 0 ≤ x5 ∧ x5 < 256) (hlen : len ≤ 9223372036854775807) (hn : 3 ≤ len) (hf : fm x0 host = ⟨3, 1, 1, 1, 1⟩) (m : Bool) (hm : mayB ⟨3, 1, 1, 1, 1⟩ (regA ⟨3, 1, 1, 1, 1⟩ x1) (regB ⟨3, 1, 1, 1, 1⟩ x1) (numL ⟨3, 1, 1, 1, 1⟩ x1 x2 x3 x4 x5) = m) :
    Calls Tryz.prog 66 #[.slice (some ⟨blk, off, none⟩) len cap, .bool host] w (if m = true then DecPost x0 (regA ⟨3, 1, 1, 1, 1⟩ x1) (regB ⟨3, 1, 1, 1, 1⟩ x1) (numL ⟨3, 1, 1, 1, 1⟩ x1 x2 x3 x4 x5) 3 0 w else DecPost 0 0 0 0 0 21 w) := by
  have hFI : fmIs ⟨3, 1, 1, 1, 1⟩ := by unfold fmIs; simp
  have HE := eqForm _ hFI
  have h1 := fun w => formOf_c x0 host w b0.1 b0.2
  rw [hf] at h1
  have H1 := Lib.hid h1
  clear h1
  unfold Fm.val at H1 HE
  have hnb := numF_bd hFI b2 b3 b4 b5
  have e1 : regA ⟨3, 1, 1, 1, 1⟩ x1 = (x1 / 16) := by simp [regA]
  have e2 : regB ⟨3, 1, 1, 1, 1⟩ x1 = (x1 % 16) := by simp [regB]
  have e3 : numL ⟨3, 1, 1, 1, 1⟩ x1 x2 x3 x4 x5 = (numF ⟨3, 1, 1, 1, 1⟩ x2 x3 x4 x5) := by simp [numL]
  rw [e1, e2, e3] at hm ⊢
  clear e1 e2 e3
  have h5 := fun w => may_c x0 (x1 / 16) (x1 % 16) (numF ⟨3, 1, 1, 1, 1⟩ x2 x3 x4 x5) host w b0.1 b0.2 (by omega) (by omega) (by omega) (by omega) hnb.1 hnb.2
  rw [hf, hm] at h5
  have H5 := Lib.hid h5
  have HF := Lib.hid hf
  clear h5 hm hf
  unfold insV at H5
  have hlt : ¬ ((len : Int) < 3) := by omega
  have hpos : (0 : Int) < (len : Int) := by omega
  have hz0 : ((len : Int) == 0) = false := by simp; omega
  have hbw : blk < w.heap.size := World.block_lt_of_cell? w _ hx0
  have X0 := hx0
  have X1 := Lib.hid hx1
  clear hx1
  have X2 := Lib.hid hx2
  clear hx2
  go_enter Tryz.func66, Tryz.ntmps66
  go_wp2_with fail
  refine (H1.out _).mono ?_
  rintro e w1 ⟨rfl, hb1⟩
  have B1 := below_box hb1
  have s1 : w.heap.size < w1.heap.size := by have := hb1.size; simp at this; omega
  have z0 : w1.cell? ⟨w.heap.size, 0, none⟩ = some (.int .u8 0) := by rw [hb1.cell (p := ⟨w.heap.size, 0, none⟩) (by simp)]; go_simp
  have y0 : w1.frozen? ⟨w.heap.size, 0, none⟩ = false := by rw [hb1.frozen (p := ⟨w.heap.size, 0, none⟩) (by simp)]; go_simp
  have z1 : w1.cell? ⟨w.heap.size, 1, none⟩ = some (.int .u8 0) := by rw [hb1.cell (p := ⟨w.heap.size, 1, none⟩) (by simp)]; go_simp
  have y1 : w1.frozen? ⟨w.heap.size, 1, none⟩ = false := by rw [hb1.frozen (p := ⟨w.heap.size, 1, none⟩) (by simp)]; go_simp
  have z2 : w1.cell? ⟨w.heap.size, 2, none⟩ = some (.int .u8 0) := by rw [hb1.cell (p := ⟨w.heap.size, 2, none⟩) (by simp)]; go_simp
  have y2 : w1.frozen? ⟨w.heap.size, 2, none⟩ = false := by rw [hb1.frozen (p := ⟨w.heap.size, 2, none⟩) (by simp)]; go_simp
  have z3 : w1.cell? ⟨w.heap.size, 3, none⟩ = some (.int .i32 0) := by rw [hb1.cell (p := ⟨w.heap.size, 3, none⟩) (by simp)]; go_simp
  have y3 : w1.frozen? ⟨w.heap.size, 3, none⟩ = false := by rw [hb1.frozen (p := ⟨w.heap.size, 3, none⟩) (by simp)]; go_simp
  have Y0 : w1.cell? ⟨blk, off, none⟩ = some (.int .u8 x0) := by
    rw [B1.cell (p := ⟨blk, off, none⟩) hbw]; exact X0
  have Y1 : w1.cell? ⟨blk, off + 1, none⟩ = some (.int .u8 x1) := by
    rw [B1.cell (p := ⟨blk, off + 1, none⟩) hbw]; exact X1.out
  have Y2 : w1.cell? ⟨blk, off + 2, none⟩ = some (.int .u8 x2) := by
    rw [B1.cell (p := ⟨blk, off + 2, none⟩) hbw]; exact X2.out
  have hb2' : blk < w1.heap.size := by omega
  clear hb1
  go_wp2_with fail
  have r0 : ReaderAt ((w1.alloc (.cells #[.int .i64 3, .int .i64 1, .int .i64 1, .int .i64 1, .int .i64 1] 108)).alloc (.cells #[.slice (some ⟨blk, off, none⟩) len cap, .int .i64 0] 143)) (w1.heap.size + 1) blk off len cap 0 := ⟨by go_simp, by go_simp, by go_simp⟩
  have Q0 : ((w1.alloc (.cells #[.int .i64 3, .int .i64 1, .int .i64 1, .int .i64 1, .int .i64 1] 108)).alloc (.cells #[.slice (some ⟨blk, off, none⟩) len cap, .int .i64 0] 143)).cell? ⟨blk, off, none⟩ = some (.int .u8 x0) := (cell_past (by simp; omega) _).trans ((cell_past hb2' _).trans Y0)
  have Q1 : ((w1.alloc (.cells #[.int .i64 3, .int .i64 1, .int .i64 1, .int .i64 1, .int .i64 1] 108)).alloc (.cells #[.slice (some ⟨blk, off, none⟩) len cap, .int .i64 0] 143)).cell? ⟨blk, off + 1, none⟩ = some (.int .u8 x1) := (cell_past (by simp; omega) _).trans ((cell_past hb2' _).trans Y1)
  have Q2 : ((w1.alloc (.cells #[.int .i64 3, .int .i64 1, .int .i64 1, .int .i64 1, .int .i64 1] 108)).alloc (.cells #[.slice (some ⟨blk, off, none⟩) len cap, .int .i64 0] 143)).cell? ⟨blk, off + 2, none⟩ = some (.int .u8 x2) := (cell_past (by simp; omega) _).trans ((cell_past hb2' _).trans Y2)
  clear Y0 Y1 Y2
  refine (next_c (w1.heap.size + 1) blk off len cap 0 x0 _ r0 (by omega) hlen (by omega) Q0).mono ?_
  rintro e w2 ⟨rfl, g2, r2⟩
  have s2 : w1.heap.size + 1 < w2.heap.size := by have := g2.size; simp at this; omega
  have f0 : w2.cell? ⟨w1.heap.size, 0, none⟩ = some (.int .i64 3) := gcell g2 (by simp) (by go_simp)
  have f1 : w2.cell? ⟨w1.heap.size, 1, none⟩ = some (.int .i64 1) := gcell g2 (by simp) (by go_simp)
  have f2 : w2.cell? ⟨w1.heap.size, 2, none⟩ = some (.int .i64 1) := gcell g2 (by simp) (by go_simp)
  have f3 : w2.cell? ⟨w1.heap.size, 3, none⟩ = some (.int .i64 1) := gcell g2 (by simp) (by go_simp)
  have f4 : w2.cell? ⟨w1.heap.size, 4, none⟩ = some (.int .i64 1) := gcell g2 (by simp) (by go_simp)
  have z0' : w2.cell? ⟨w.heap.size, 0, none⟩ = some (.int .u8 0) := gcell g2 (by simp; omega) (by go_simp)
  have y0' : w2.frozen? ⟨w.heap.size, 0, none⟩ = false := gfrozen g2 (by simp; omega) (by simp; omega) (by go_simp)
  have z1' : w2.cell? ⟨w.heap.size, 1, none⟩ = some (.int .u8 0) := gcell g2 (by simp; omega) (by go_simp)
  have y1' : w2.frozen? ⟨w.heap.size, 1, none⟩ = false := gfrozen g2 (by simp; omega) (by simp; omega) (by go_simp)
  have z2' : w2.cell? ⟨w.heap.size, 2, none⟩ = some (.int .u8 0) := gcell g2 (by simp; omega) (by go_simp)
  have y2' : w2.frozen? ⟨w.heap.size, 2, none⟩ = false := gfrozen g2 (by simp; omega) (by simp; omega) (by go_simp)
  have z3' : w2.cell? ⟨w.heap.size, 3, none⟩ = some (.int .i32 0) := gcell g2 (by simp; omega) (by go_simp)
  have y3' : w2.frozen? ⟨w.heap.size, 3, none⟩ = false := gfrozen g2 (by simp; omega) (by simp; omega) (by go_simp)
  have U1 : w2.cell? ⟨blk, off + 1, none⟩ = some (.int .u8 x1) := gcell g2 (by simp; omega) Q1
  have U2 : w2.cell? ⟨blk, off + 2, none⟩ = some (.int .u8 x2) := gcell g2 (by simp; omega) Q2
  have B2 : Below w.heap.size w w2 := (((B1.alloc (by omega) _).alloc (by simp; omega) _).grown g2 (by simp; omega) (fun k hk => by cases hk; omega))
  clear z0 z1 z2 z3 y0 y1 y2 y3 r0 Q0 Q1 Q2
  have s2' : w1.heap.size < w2.heap.size := by omega
  have s2'' : w.heap.size < w2.heap.size := by omega
  go_wp2_with fail
  have r2' : ReaderAt (w2.alloc (.cells #[.int .u8 x0, .int .u8 0, .int .u8 0, .int .i32 0] 76)) (w1.heap.size + 1) blk off len cap 1 := ⟨(cell_past s2 _).trans r2.1, (cell_past s2 _).trans r2.2.1, (frozen_past s2 _).trans r2.2.2⟩
  have P1 : (w2.alloc (.cells #[.int .u8 x0, .int .u8 0, .int .u8 0, .int .i32 0] 76)).cell? ⟨blk, off + 1, none⟩ = some (.int .u8 x1) := (cell_past (by omega) _).trans U1
  have P2 : (w2.alloc (.cells #[.int .u8 x0, .int .u8 0, .int .u8 0, .int .i32 0] 76)).cell? ⟨blk, off + 2, none⟩ = some (.int .u8 x2) := (cell_past (by omega) _).trans U2
  clear U1 U2
  refine (next_c (w1.heap.size + 1) blk off len cap 1 x1 _ r2' (by omega) hlen (by omega) P1).mono ?_
  rintro e w3 ⟨rfl, g3, r3⟩
  have s3 : w2.heap.size < w3.heap.size := by have := g3.size; simp at this; omega
  have f0' : w3.cell? ⟨w1.heap.size, 0, none⟩ = some (.int .i64 3) := gcell g3 (by simp) ((cell_past s2' _).trans f0)
  have f1' : w3.cell? ⟨w1.heap.size, 1, none⟩ = some (.int .i64 1) := gcell g3 (by simp) ((cell_past s2' _).trans f1)
  have f2' : w3.cell? ⟨w1.heap.size, 2, none⟩ = some (.int .i64 1) := gcell g3 (by simp) ((cell_past s2' _).trans f2)
  have f3' : w3.cell? ⟨w1.heap.size, 3, none⟩ = some (.int .i64 1) := gcell g3 (by simp) ((cell_past s2' _).trans f3)
  have f4' : w3.cell? ⟨w1.heap.size, 4, none⟩ = some (.int .i64 1) := gcell g3 (by simp) ((cell_past s2' _).trans f4)
  have z0'' : w3.cell? ⟨w.heap.size, 0, none⟩ = some (.int .u8 0) := gcell g3 (by simp; omega) ((cell_past s2'' _).trans z0')
  have y0'' : w3.frozen? ⟨w.heap.size, 0, none⟩ = false := gfrozen g3 (by simp; omega) (by simp; omega) ((frozen_past s2'' _).trans y0')
  have z1'' : w3.cell? ⟨w.heap.size, 1, none⟩ = some (.int .u8 0) := gcell g3 (by simp; omega) ((cell_past s2'' _).trans z1')
  have y1'' : w3.frozen? ⟨w.heap.size, 1, none⟩ = false := gfrozen g3 (by simp; omega) (by simp; omega) ((frozen_past s2'' _).trans y1')
  have z2'' : w3.cell? ⟨w.heap.size, 2, none⟩ = some (.int .u8 0) := gcell g3 (by simp; omega) ((cell_past s2'' _).trans z2')
  have y2'' : w3.frozen? ⟨w.heap.size, 2, none⟩ = false := gfrozen g3 (by simp; omega) (by simp; omega) ((frozen_past s2'' _).trans y2')
  have z3'' : w3.cell? ⟨w.heap.size, 3, none⟩ = some (.int .i32 0) := gcell g3 (by simp; omega) ((cell_past s2'' _).trans z3')
  have y3'' : w3.frozen? ⟨w.heap.size, 3, none⟩ = false := gfrozen g3 (by simp; omega) (by simp; omega) ((frozen_past s2'' _).trans y3')
  have i0 : w3.cell? ⟨w2.heap.size, 0, none⟩ = some (.int .u8 x0) := gcell g3 (by simp; omega) (by go_simp)
  have j0 : w3.frozen? ⟨w2.heap.size, 0, none⟩ = false := gfrozen g3 (by simp) (by simp; omega) (by go_simp)
  have i1 : w3.cell? ⟨w2.heap.size, 1, none⟩ = some (.int .u8 0) := gcell g3 (by simp; omega) (by go_simp)
  have j1 : w3.frozen? ⟨w2.heap.size, 1, none⟩ = false := gfrozen g3 (by simp) (by simp; omega) (by go_simp)
  have i2 : w3.cell? ⟨w2.heap.size, 2, none⟩ = some (.int .u8 0) := gcell g3 (by simp; omega) (by go_simp)
  have j2 : w3.frozen? ⟨w2.heap.size, 2, none⟩ = false := gfrozen g3 (by simp) (by simp; omega) (by go_simp)
  have i3 : w3.cell? ⟨w2.heap.size, 3, none⟩ = some (.int .i32 0) := gcell g3 (by simp; omega) (by go_simp)
  have j3 : w3.frozen? ⟨w2.heap.size, 3, none⟩ = false := gfrozen g3 (by simp) (by simp; omega) (by go_simp)
  have U2 : w3.cell? ⟨blk, off + 2, none⟩ = some (.int .u8 x2) := gcell g3 (by simp; omega) P2
  have B3 : Below w.heap.size w w3 := (B2.alloc (by omega) _).grown g3 (by simp; omega) (fun k hk => by cases hk; omega)
  clear r2' f0 z0' y0' f1 z1' y1' f2 z2' y2' f3 z3' y3' f4 P1 P2
  have n1 : ¬ w2.heap.size = w1.heap.size := by omega
  have n1' : ¬ w1.heap.size = w2.heap.size := by omega
  go_wp2_with fail
  obtain ⟨W4, hW4⟩ : ∃ W4, W4 = (w3.setCell ⟨w2.heap.size, 1, none⟩ (.int .u8 (x1 / 16))).setCell ⟨w2.heap.size, 2, none⟩ (.int .u8 (x1 % 16)) := ⟨_, rfl⟩
  have ot : ∀ {p : Addr} {v : Value}, p.block ≠ w2.heap.size → w3.cell? p = some v → W4.cell? p = some v := fun {p v} h hc => by
    rw [hW4, World.cell?_setCell_other _ _ _ _ (fun e => h (by rw [← e])), World.cell?_setCell_other _ _ _ _ (fun e => h (by rw [← e]))]; exact hc
  have of : ∀ {p : Addr}, w3.frozen? p = false → W4.frozen? p = false := fun {p} hc => by rw [hW4, World.frozen?_setCell, World.frozen?_setCell]; exact hc
  have r4 : ReaderAt W4 (w1.heap.size + 1) blk off len cap 2 := ⟨ot (by simp; omega) r3.1, ot (by simp; omega) r3.2.1, of r3.2.2⟩
  have F0 : W4.cell? ⟨w1.heap.size, 0, none⟩ = some (.int .i64 3) := ot (by simp; omega) f0'
  have F1 : W4.cell? ⟨w1.heap.size, 1, none⟩ = some (.int .i64 1) := ot (by simp; omega) f1'
  have F2 : W4.cell? ⟨w1.heap.size, 2, none⟩ = some (.int .i64 1) := ot (by simp; omega) f2'
  have F3 : W4.cell? ⟨w1.heap.size, 3, none⟩ = some (.int .i64 1) := ot (by simp; omega) f3'
  have F4 : W4.cell? ⟨w1.heap.size, 4, none⟩ = some (.int .i64 1) := ot (by simp; omega) f4'
  have Z0 : W4.cell? ⟨w.heap.size, 0, none⟩ = some (.int .u8 0) := ot (by simp; omega) z0''
  have K0 : W4.frozen? ⟨w.heap.size, 0, none⟩ = false := of y0''
  have Z1 : W4.cell? ⟨w.heap.size, 1, none⟩ = some (.int .u8 0) := ot (by simp; omega) z1''
  have K1 : W4.frozen? ⟨w.heap.size, 1, none⟩ = false := of y1''
  have Z2 : W4.cell? ⟨w.heap.size, 2, none⟩ = some (.int .u8 0) := ot (by simp; omega) z2''
  have K2 : W4.frozen? ⟨w.heap.size, 2, none⟩ = false := of y2''
  have Z3 : W4.cell? ⟨w.heap.size, 3, none⟩ = some (.int .i32 0) := ot (by simp; omega) z3''
  have K3 : W4.frozen? ⟨w.heap.size, 3, none⟩ = false := of y3''
  have D2 : W4.cell? ⟨blk, off + 2, none⟩ = some (.int .u8 x2) := ot (by simp; omega) U2
  have I0 : W4.cell? ⟨w2.heap.size, 0, none⟩ = some (.int .u8 x0) := by rw [hW4]; go_simp
  have I1 : W4.cell? ⟨w2.heap.size, 1, none⟩ = some (.int .u8 (x1 / 16)) := by rw [hW4]; go_simp
  have I2 : W4.cell? ⟨w2.heap.size, 2, none⟩ = some (.int .u8 (x1 % 16)) := by rw [hW4]; go_simp
  have I3 : W4.cell? ⟨w2.heap.size, 3, none⟩ = some (.int .i32 0) := by rw [hW4]; go_simp
  have J0 : W4.frozen? ⟨w2.heap.size, 0, none⟩ = false := of j0
  have J1 : W4.frozen? ⟨w2.heap.size, 1, none⟩ = false := of j1
  have J2 : W4.frozen? ⟨w2.heap.size, 2, none⟩ = false := of j2
  have J3 : W4.frozen? ⟨w2.heap.size, 3, none⟩ = false := of j3
  have S4 : W4.heap.size = w3.heap.size := by rw [hW4]; simp
  have B4 : Below w.heap.size w W4 := by rw [hW4]; exact (B3.setCell (by simp; omega) _).setCell (by simp; omega) _
  rw [← hW4]
  clear hW4 ot of f0' z0'' y0'' i0 j0 f1' z1'' y1'' i1 j1 f2' z2'' y2'' i2 j2 f3' z3'' y3'' i3 j3 f4' r3 U2
  have s4 : w2.heap.size < W4.heap.size := by omega
  clear S4
  have hN := number_c ⟨3, 1, 1, 1, 1⟩ hFI (w1.heap.size + 1) blk off len cap 2 x2 x3 x4 x5 W4 r4 hlen (by omega) (by simp; omega) (fun _ => D2) (fun h => absurd h (by decide)) (fun h => absurd h (by decide)) (fun h => absurd h (by decide)) b2 b3 b4 b5 (by omega)
  unfold Fm.val at hN
  refine hN.mono ?_
  clear hN
  rintro e w5 ⟨rfl, g5⟩
  obtain ⟨z, hzz⟩ : ∃ z, z = numF ⟨3, 1, 1, 1, 1⟩ x2 x3 x4 x5 := ⟨_, rfl⟩
  rw [← hzz] at H5 hnb ⊢
  have HZ := Lib.hid hzz
  clear hzz
  have F0' := gcell g5 (p := ⟨w1.heap.size, 0, none⟩) (by simp) F0
  have F1' := gcell g5 (p := ⟨w1.heap.size, 1, none⟩) (by simp) F1
  have F2' := gcell g5 (p := ⟨w1.heap.size, 2, none⟩) (by simp) F2
  have F3' := gcell g5 (p := ⟨w1.heap.size, 3, none⟩) (by simp) F3
  have F4' := gcell g5 (p := ⟨w1.heap.size, 4, none⟩) (by simp) F4
  have Z0' := gcell g5 (p := ⟨w.heap.size, 0, none⟩) (by simp; omega) Z0
  have K0' := gfrozen g5 (p := ⟨w.heap.size, 0, none⟩) (by simp; omega) (by simp; omega) K0
  have I0' := gcell g5 (p := ⟨w2.heap.size, 0, none⟩) (by simp; omega) I0
  have J0' := gfrozen g5 (p := ⟨w2.heap.size, 0, none⟩) (by simp; omega) (by simp; omega) J0
  have Z1' := gcell g5 (p := ⟨w.heap.size, 1, none⟩) (by simp; omega) Z1
  have K1' := gfrozen g5 (p := ⟨w.heap.size, 1, none⟩) (by simp; omega) (by simp; omega) K1
  have I1' := gcell g5 (p := ⟨w2.heap.size, 1, none⟩) (by simp; omega) I1
  have J1' := gfrozen g5 (p := ⟨w2.heap.size, 1, none⟩) (by simp; omega) (by simp; omega) J1
  have Z2' := gcell g5 (p := ⟨w.heap.size, 2, none⟩) (by simp; omega) Z2
  have K2' := gfrozen g5 (p := ⟨w.heap.size, 2, none⟩) (by simp; omega) (by simp; omega) K2
  have I2' := gcell g5 (p := ⟨w2.heap.size, 2, none⟩) (by simp; omega) I2
  have J2' := gfrozen g5 (p := ⟨w2.heap.size, 2, none⟩) (by simp; omega) (by simp; omega) J2
  have Z3' := gcell g5 (p := ⟨w.heap.size, 3, none⟩) (by simp; omega) Z3
  have K3' := gfrozen g5 (p := ⟨w.heap.size, 3, none⟩) (by simp; omega) (by simp; omega) K3
  have I3' := gcell g5 (p := ⟨w2.heap.size, 3, none⟩) (by simp; omega) I3
  have J3' := gfrozen g5 (p := ⟨w2.heap.size, 3, none⟩) (by simp; omega) (by simp; omega) J3
  have B5 : Below w.heap.size w w5 := B4.grown g5 (by omega) (fun k hk => by cases hk; omega)
  have s5 : w2.heap.size < w5.heap.size := Nat.lt_of_lt_of_le s4 g5.size
  clear r4 g5 F0 Z0 K0 I0 J0 F1 Z1 K1 I1 J1 F2 Z2 K2 I2 J2 F3 Z3 K3 I3 J3 F4 D2
  have n2 : ¬ w2.heap.size = w.heap.size := by omega
  have n2' : ¬ w.heap.size = w2.heap.size := by omega
  go_wp2_with fail
  refine (H5.out _).mono ?_
  rintro e w6 ⟨rfl, b6⟩
  have s6 : w2.heap.size < w6.heap.size := by have := b6.size; simp at this; omega
  have ot : ∀ {p : Addr} {v : Value}, p.block ≠ w2.heap.size → w5.cell? p = some v → w6.cell? p = some v := fun {p v} h hc => by
    rw [b6.cell (by have := World.block_lt_of_cell? w5 p hc; simpa using this), World.cell?_setCell_other _ _ _ _ (fun e => h (by rw [← e]))]; exact hc
  have of : ∀ {p : Addr}, p.block < w5.heap.size → w5.frozen? p = false → w6.frozen? p = false := fun {p} h hc => by rw [b6.frozen (by simpa using h), World.frozen?_setCell]; exact hc
  have G0 := ot (p := ⟨w1.heap.size, 0, none⟩) (by simp; omega) F0'
  have G1 := ot (p := ⟨w1.heap.size, 1, none⟩) (by simp; omega) F1'
  have G2 := ot (p := ⟨w1.heap.size, 2, none⟩) (by simp; omega) F2'
  have G3 := ot (p := ⟨w1.heap.size, 3, none⟩) (by simp; omega) F3'
  have G4 := ot (p := ⟨w1.heap.size, 4, none⟩) (by simp; omega) F4'
  have M0 := ot (p := ⟨w.heap.size, 0, none⟩) (by simp; omega) Z0'
  have L0 := of (p := ⟨w.heap.size, 0, none⟩) (by simp; omega) K0'
  have M1 := ot (p := ⟨w.heap.size, 1, none⟩) (by simp; omega) Z1'
  have L1 := of (p := ⟨w.heap.size, 1, none⟩) (by simp; omega) K1'
  have M2 := ot (p := ⟨w.heap.size, 2, none⟩) (by simp; omega) Z2'
  have L2 := of (p := ⟨w.heap.size, 2, none⟩) (by simp; omega) K2'
  have M3 := ot (p := ⟨w.heap.size, 3, none⟩) (by simp; omega) Z3'
  have L3 := of (p := ⟨w.heap.size, 3, none⟩) (by simp; omega) K3'
  have O0 : w6.cell? ⟨w2.heap.size, 0, none⟩ = some (.int .u8 x0) := by rw [b6.cell (p := ⟨w2.heap.size, 0, none⟩) (by simpa using s5)]; go_simp
  have O1 : w6.cell? ⟨w2.heap.size, 1, none⟩ = some (.int .u8 (x1 / 16)) := by rw [b6.cell (p := ⟨w2.heap.size, 1, none⟩) (by simpa using s5)]; go_simp
  have O2 : w6.cell? ⟨w2.heap.size, 2, none⟩ = some (.int .u8 (x1 % 16)) := by rw [b6.cell (p := ⟨w2.heap.size, 2, none⟩) (by simpa using s5)]; go_simp
  have O3 : w6.cell? ⟨w2.heap.size, 3, none⟩ = some (.int .i32 z) := by rw [b6.cell (p := ⟨w2.heap.size, 3, none⟩) (by simpa using s5)]; go_simp
  have B6 : Below w.heap.size w w6 := (B5.setCell (by simp; omega) _).trans (b6.mono (by simp; omega))
  clear ot of b6 F0' Z0' K0' I0' J0' F1' Z1' K1' I1' J1' F2' Z2' K2' I2' J2' F3' Z3' K3' I3' J3' F4'
  cases m
  · simp only [Bool.false_eq_true, if_false]
    go_wp2_with fail
    refine bodyPost_ret (v := .tuple #[insV 0 0 0 0, .int .i64 0, .int .i64 21]) ?_ rfl ⟨rfl, ?_⟩
    · unfold insV
      simp [results, Tryz.results66, go_sem, M0, M1, M2, M3]
    · exact (((B6.setCell (by simp) _).setCell (by simp) _).setCell (by simp) _).setCell (by simp) _
  · simp only [if_true]
    go_wp2_with fail
    go_region
    all_goals
      go_wp2_with fail
      refine bodyPost_ret (v := .tuple #[insV x0 (x1 / 16) (x1 % 16) z, .int .i64 3, .int .i64 0]) ?_ rfl ⟨by rw [HZ.out], ?_⟩
      · unfold insV
        simp [results, Tryz.results66, go_sem, M0, M1, M2, M3]
      · first
          | exact ((((B6.drew.setCell (by simp) _).setCell (by simp) _).setCell (by simp) _).setCell (by simp) _)
          | exact ((((B6.setCell (by simp) _).setCell (by simp) _).setCell (by simp) _).setCell (by simp) _).drew

set_option maxHeartbeats 4000000 in
theorem dec30021 (host : Bool) (blk off len cap : Nat) (x0 x1 x2 x3 x4 x5 : Int) (w : World) (hx0 : w.cell? ⟨blk, off, none⟩ = some (.int .u8 x0)) (hx1 : w.cell? ⟨blk, off + 1, none⟩ = some (.int .u8 x1)) (hx2 : w.cell? ⟨blk, off + 2, none⟩ = some (.int .u8 x2))
    (b0 : 0 ≤ x0 ∧ x0 < 256) (b1 : 0 ≤ x1 ∧ x1 < 256) (b2 : 0 ≤ x2 ∧ x2 < 256) (b3 : 0 ≤ x3 ∧ x3 < 256) (b4 : 0 ≤ x4 ∧ x4 < 256) (b5 : 0 ≤ x5 ∧ x5 < 256) (hlen : len ≤ 9223372036854775807) (hn : 3 ≤ len) (hf : fm x0 host = ⟨3, 0, 0, 2, 1⟩) (m : Bool) (hm : mayB ⟨3, 0, 0, 2, 1⟩ (regA ⟨3, 0, 0, 2, 1⟩ x1) (regB ⟨3, 0, 0, 2, 1⟩ x1) (numL ⟨3, 0, 0, 2, 1⟩ x1 x2 x3 x4 x5) = m) :
    Calls Tryz.prog 66 #[.slice (some ⟨blk, off, none⟩) len cap, .bool host] w (if m = true then DecPost x0 (regA ⟨3, 0, 0, 2, 1⟩ x1) (regB ⟨3, 0, 0, 2, 1⟩ x1) (numL ⟨3, 0, 0, 2, 1⟩ x1 x2 x3 x4 x5) 3 0 w else DecPost 0 0 0 0 0 21 w) := by
  have hFI : fmIs ⟨3, 0, 0, 2, 1⟩ := by unfold fmIs; simp
  have HE := eqForm _ hFI
  have h1 := fun w => formOf_c x0 host w b0.1 b0.2
  rw [hf] at h1
  have H1 := Lib.hid h1
  clear h1
  unfold Fm.val at H1 HE
  have hnb := numF_bd hFI b1 b2 b3 b4
  have e1 : regA ⟨3, 0, 0, 2, 1⟩ x1 = 0 := by simp [regA]
  have e2 : regB ⟨3, 0, 0, 2, 1⟩ x1 = 0 := by simp [regB]
  have e3 : numL ⟨3, 0, 0, 2, 1⟩ x1 x2 x3 x4 x5 = (numF ⟨3, 0, 0, 2, 1⟩ x1 x2 x3 x4) := by simp [numL]
  rw [e1, e2, e3] at hm ⊢
  clear e1 e2 e3
  have h5 := fun w => may_c x0 0 0 (numF ⟨3, 0, 0, 2, 1⟩ x1 x2 x3 x4) host w b0.1 b0.2 (by omega) (by omega) (by omega) (by omega) hnb.1 hnb.2
  rw [hf, hm] at h5
  have H5 := Lib.hid h5
  have HF := Lib.hid hf
  clear h5 hm hf
  unfold insV at H5
  have hlt : ¬ ((len : Int) < 3) := by omega
  have hpos : (0 : Int) < (len : Int) := by omega
  have hz0 : ((len : Int) == 0) = false := by simp; omega
  have hbw : blk < w.heap.size := World.block_lt_of_cell? w _ hx0
  have X0 := hx0
  have X1 := Lib.hid hx1
  clear hx1
  have X2 := Lib.hid hx2
  clear hx2
  go_enter Tryz.func66, Tryz.ntmps66
  go_wp2_with fail
  refine (H1.out _).mono ?_
  rintro e w1 ⟨rfl, hb1⟩
  have B1 := below_box hb1
  have s1 : w.heap.size < w1.heap.size := by have := hb1.size; simp at this; omega
  have z0 : w1.cell? ⟨w.heap.size, 0, none⟩ = some (.int .u8 0) := by rw [hb1.cell (p := ⟨w.heap.size, 0, none⟩) (by simp)]; go_simp
  have y0 : w1.frozen? ⟨w.heap.size, 0, none⟩ = false := by rw [hb1.frozen (p := ⟨w.heap.size, 0, none⟩) (by simp)]; go_simp
  have z1 : w1.cell? ⟨w.heap.size, 1, none⟩ = some (.int .u8 0) := by rw [hb1.cell (p := ⟨w.heap.size, 1, none⟩) (by simp)]; go_simp
  have y1 : w1.frozen? ⟨w.heap.size, 1, none⟩ = false := by rw [hb1.frozen (p := ⟨w.heap.size, 1, none⟩) (by simp)]; go_simp
  have z2 : w1.cell? ⟨w.heap.size, 2, none⟩ = some (.int .u8 0) := by rw [hb1.cell (p := ⟨w.heap.size, 2, none⟩) (by simp)]; go_simp
  have y2 : w1.frozen? ⟨w.heap.size, 2, none⟩ = false := by rw [hb1.frozen (p := ⟨w.heap.size, 2, none⟩) (by simp)]; go_simp
  have z3 : w1.cell? ⟨w.heap.size, 3, none⟩ = some (.int .i32 0) := by rw [hb1.cell (p := ⟨w.heap.size, 3, none⟩) (by simp)]; go_simp
  have y3 : w1.frozen? ⟨w.heap.size, 3, none⟩ = false := by rw [hb1.frozen (p := ⟨w.heap.size, 3, none⟩) (by simp)]; go_simp
  have Y0 : w1.cell? ⟨blk, off, none⟩ = some (.int .u8 x0) := by
    rw [B1.cell (p := ⟨blk, off, none⟩) hbw]; exact X0
  have Y1 : w1.cell? ⟨blk, off + 1, none⟩ = some (.int .u8 x1) := by
    rw [B1.cell (p := ⟨blk, off + 1, none⟩) hbw]; exact X1.out
  have Y2 : w1.cell? ⟨blk, off + 2, none⟩ = some (.int .u8 x2) := by
    rw [B1.cell (p := ⟨blk, off + 2, none⟩) hbw]; exact X2.out
  have hb2' : blk < w1.heap.size := by omega
  clear hb1
  go_wp2_with fail
  have r0 : ReaderAt ((w1.alloc (.cells #[.int .i64 3, .int .i64 0, .int .i64 0, .int .i64 2, .int .i64 1] 108)).alloc (.cells #[.slice (some ⟨blk, off, none⟩) len cap, .int .i64 0] 143)) (w1.heap.size + 1) blk off len cap 0 := ⟨by go_simp, by go_simp, by go_simp⟩
  have Q0 : ((w1.alloc (.cells #[.int .i64 3, .int .i64 0, .int .i64 0, .int .i64 2, .int .i64 1] 108)).alloc (.cells #[.slice (some ⟨blk, off, none⟩) len cap, .int .i64 0] 143)).cell? ⟨blk, off, none⟩ = some (.int .u8 x0) := (cell_past (by simp; omega) _).trans ((cell_past hb2' _).trans Y0)
  have Q1 : ((w1.alloc (.cells #[.int .i64 3, .int .i64 0, .int .i64 0, .int .i64 2, .int .i64 1] 108)).alloc (.cells #[.slice (some ⟨blk, off, none⟩) len cap, .int .i64 0] 143)).cell? ⟨blk, off + 1, none⟩ = some (.int .u8 x1) := (cell_past (by simp; omega) _).trans ((cell_past hb2' _).trans Y1)
  have Q2 : ((w1.alloc (.cells #[.int .i64 3, .int .i64 0, .int .i64 0, .int .i64 2, .int .i64 1] 108)).alloc (.cells #[.slice (some ⟨blk, off, none⟩) len cap, .int .i64 0] 143)).cell? ⟨blk, off + 2, none⟩ = some (.int .u8 x2) := (cell_past (by simp; omega) _).trans ((cell_past hb2' _).trans Y2)
  clear Y0 Y1 Y2
  refine (next_c (w1.heap.size + 1) blk off len cap 0 x0 _ r0 (by omega) hlen (by omega) Q0).mono ?_
  rintro e w2 ⟨rfl, g2, r2⟩
  have s2 : w1.heap.size + 1 < w2.heap.size := by have := g2.size; simp at this; omega
  have f0 : w2.cell? ⟨w1.heap.size, 0, none⟩ = some (.int .i64 3) := gcell g2 (by simp) (by go_simp)
  have f1 : w2.cell? ⟨w1.heap.size, 1, none⟩ = some (.int .i64 0) := gcell g2 (by simp) (by go_simp)
  have f2 : w2.cell? ⟨w1.heap.size, 2, none⟩ = some (.int .i64 0) := gcell g2 (by simp) (by go_simp)
  have f3 : w2.cell? ⟨w1.heap.size, 3, none⟩ = some (.int .i64 2) := gcell g2 (by simp) (by go_simp)
  have f4 : w2.cell? ⟨w1.heap.size, 4, none⟩ = some (.int .i64 1) := gcell g2 (by simp) (by go_simp)
  have z0' : w2.cell? ⟨w.heap.size, 0, none⟩ = some (.int .u8 0) := gcell g2 (by simp; omega) (by go_simp)
  have y0' : w2.frozen? ⟨w.heap.size, 0, none⟩ = false := gfrozen g2 (by simp; omega) (by simp; omega) (by go_simp)
  have z1' : w2.cell? ⟨w.heap.size, 1, none⟩ = some (.int .u8 0) := gcell g2 (by simp; omega) (by go_simp)
  have y1' : w2.frozen? ⟨w.heap.size, 1, none⟩ = false := gfrozen g2 (by simp; omega) (by simp; omega) (by go_simp)
  have z2' : w2.cell? ⟨w.heap.size, 2, none⟩ = some (.int .u8 0) := gcell g2 (by simp; omega) (by go_simp)
  have y2' : w2.frozen? ⟨w.heap.size, 2, none⟩ = false := gfrozen g2 (by simp; omega) (by simp; omega) (by go_simp)
  have z3' : w2.cell? ⟨w.heap.size, 3, none⟩ = some (.int .i32 0) := gcell g2 (by simp; omega) (by go_simp)
  have y3' : w2.frozen? ⟨w.heap.size, 3, none⟩ = false := gfrozen g2 (by simp; omega) (by simp; omega) (by go_simp)
  have U1 : w2.cell? ⟨blk, off + 1, none⟩ = some (.int .u8 x1) := gcell g2 (by simp; omega) Q1
  have U2 : w2.cell? ⟨blk, off + 2, none⟩ = some (.int .u8 x2) := gcell g2 (by simp; omega) Q2
  have B2 : Below w.heap.size w w2 := (((B1.alloc (by omega) _).alloc (by simp; omega) _).grown g2 (by simp; omega) (fun k hk => by cases hk; omega))
  clear z0 z1 z2 z3 y0 y1 y2 y3 r0 Q0 Q1 Q2
  have s2' : w1.heap.size < w2.heap.size := by omega
  have s2'' : w.heap.size < w2.heap.size := by omega
  go_wp2_with fail
  obtain ⟨W4, hW4⟩ : ∃ W4, W4 = (w2.alloc (.cells #[.int .u8 x0, .int .u8 0, .int .u8 0, .int .i32 0] 76)) := ⟨_, rfl⟩
  have r4 : ReaderAt W4 (w1.heap.size + 1) blk off len cap 1 := by rw [hW4]; exact ⟨(cell_past s2 _).trans r2.1, (cell_past s2 _).trans r2.2.1, (frozen_past s2 _).trans r2.2.2⟩
  have F0 : W4.cell? ⟨w1.heap.size, 0, none⟩ = some (.int .i64 3) := by rw [hW4]; exact (cell_past s2' _).trans f0
  have F1 : W4.cell? ⟨w1.heap.size, 1, none⟩ = some (.int .i64 0) := by rw [hW4]; exact (cell_past s2' _).trans f1
  have F2 : W4.cell? ⟨w1.heap.size, 2, none⟩ = some (.int .i64 0) := by rw [hW4]; exact (cell_past s2' _).trans f2
  have F3 : W4.cell? ⟨w1.heap.size, 3, none⟩ = some (.int .i64 2) := by rw [hW4]; exact (cell_past s2' _).trans f3
  have F4 : W4.cell? ⟨w1.heap.size, 4, none⟩ = some (.int .i64 1) := by rw [hW4]; exact (cell_past s2' _).trans f4
  have Z0 : W4.cell? ⟨w.heap.size, 0, none⟩ = some (.int .u8 0) := by rw [hW4]; exact (cell_past s2'' _).trans z0'
  have K0 : W4.frozen? ⟨w.heap.size, 0, none⟩ = false := by rw [hW4]; exact (frozen_past s2'' _).trans y0'
  have Z1 : W4.cell? ⟨w.heap.size, 1, none⟩ = some (.int .u8 0) := by rw [hW4]; exact (cell_past s2'' _).trans z1'
  have K1 : W4.frozen? ⟨w.heap.size, 1, none⟩ = false := by rw [hW4]; exact (frozen_past s2'' _).trans y1'
  have Z2 : W4.cell? ⟨w.heap.size, 2, none⟩ = some (.int .u8 0) := by rw [hW4]; exact (cell_past s2'' _).trans z2'
  have K2 : W4.frozen? ⟨w.heap.size, 2, none⟩ = false := by rw [hW4]; exact (frozen_past s2'' _).trans y2'
  have Z3 : W4.cell? ⟨w.heap.size, 3, none⟩ = some (.int .i32 0) := by rw [hW4]; exact (cell_past s2'' _).trans z3'
  have K3 : W4.frozen? ⟨w.heap.size, 3, none⟩ = false := by rw [hW4]; exact (frozen_past s2'' _).trans y3'
  have D1 : W4.cell? ⟨blk, off + 1, none⟩ = some (.int .u8 x1) := by rw [hW4]; exact (cell_past (by omega) _).trans U1
  have D2 : W4.cell? ⟨blk, off + 2, none⟩ = some (.int .u8 x2) := by rw [hW4]; exact (cell_past (by omega) _).trans U2
  have I0 : W4.cell? ⟨w2.heap.size, 0, none⟩ = some (.int .u8 x0) := by rw [hW4]; go_simp
  have J0 : W4.frozen? ⟨w2.heap.size, 0, none⟩ = false := by rw [hW4]; go_simp
  have I1 : W4.cell? ⟨w2.heap.size, 1, none⟩ = some (.int .u8 0) := by rw [hW4]; go_simp
  have J1 : W4.frozen? ⟨w2.heap.size, 1, none⟩ = false := by rw [hW4]; go_simp
  have I2 : W4.cell? ⟨w2.heap.size, 2, none⟩ = some (.int .u8 0) := by rw [hW4]; go_simp
  have J2 : W4.frozen? ⟨w2.heap.size, 2, none⟩ = false := by rw [hW4]; go_simp
  have I3 : W4.cell? ⟨w2.heap.size, 3, none⟩ = some (.int .i32 0) := by rw [hW4]; go_simp
  have J3 : W4.frozen? ⟨w2.heap.size, 3, none⟩ = false := by rw [hW4]; go_simp
  have B4 : Below w.heap.size w W4 := by rw [hW4]; exact B2.alloc (by omega) _
  have s4 : w2.heap.size < W4.heap.size := by rw [hW4]; simp
  rw [← hW4]
  clear hW4 f0 z0' y0' f1 z1' y1' f2 z2' y2' f3 z3' y3' f4 r2 U1 U2
  have n1 : ¬ w2.heap.size = w1.heap.size := by omega
  have n1' : ¬ w1.heap.size = w2.heap.size := by omega
  have hN := number_c ⟨3, 0, 0, 2, 1⟩ hFI (w1.heap.size + 1) blk off len cap 1 x1 x2 x3 x4 W4 r4 hlen (by omega) (by simp; omega) (fun _ => D1) (fun _ => D2) (fun h => absurd h (by decide)) (fun h => absurd h (by decide)) b1 b2 b3 b4 (by omega)
  unfold Fm.val at hN
  refine hN.mono ?_
  clear hN
  rintro e w5 ⟨rfl, g5⟩
  obtain ⟨z, hzz⟩ : ∃ z, z = numF ⟨3, 0, 0, 2, 1⟩ x1 x2 x3 x4 := ⟨_, rfl⟩
  rw [← hzz] at H5 hnb ⊢
  have HZ := Lib.hid hzz
  clear hzz
  have F0' := gcell g5 (p := ⟨w1.heap.size, 0, none⟩) (by simp) F0
  have F1' := gcell g5 (p := ⟨w1.heap.size, 1, none⟩) (by simp) F1
  have F2' := gcell g5 (p := ⟨w1.heap.size, 2, none⟩) (by simp) F2
  have F3' := gcell g5 (p := ⟨w1.heap.size, 3, none⟩) (by simp) F3
  have F4' := gcell g5 (p := ⟨w1.heap.size, 4, none⟩) (by simp) F4
  have Z0' := gcell g5 (p := ⟨w.heap.size, 0, none⟩) (by simp; omega) Z0
  have K0' := gfrozen g5 (p := ⟨w.heap.size, 0, none⟩) (by simp; omega) (by simp; omega) K0
  have I0' := gcell g5 (p := ⟨w2.heap.size, 0, none⟩) (by simp; omega) I0
  have J0' := gfrozen g5 (p := ⟨w2.heap.size, 0, none⟩) (by simp; omega) (by simp; omega) J0
  have Z1' := gcell g5 (p := ⟨w.heap.size, 1, none⟩) (by simp; omega) Z1
  have K1' := gfrozen g5 (p := ⟨w.heap.size, 1, none⟩) (by simp; omega) (by simp; omega) K1
  have I1' := gcell g5 (p := ⟨w2.heap.size, 1, none⟩) (by simp; omega) I1
  have J1' := gfrozen g5 (p := ⟨w2.heap.size, 1, none⟩) (by simp; omega) (by simp; omega) J1
  have Z2' := gcell g5 (p := ⟨w.heap.size, 2, none⟩) (by simp; omega) Z2
  have K2' := gfrozen g5 (p := ⟨w.heap.size, 2, none⟩) (by simp; omega) (by simp; omega) K2
  have I2' := gcell g5 (p := ⟨w2.heap.size, 2, none⟩) (by simp; omega) I2
  have J2' := gfrozen g5 (p := ⟨w2.heap.size, 2, none⟩) (by simp; omega) (by simp; omega) J2
  have Z3' := gcell g5 (p := ⟨w.heap.size, 3, none⟩) (by simp; omega) Z3
  have K3' := gfrozen g5 (p := ⟨w.heap.size, 3, none⟩) (by simp; omega) (by simp; omega) K3
  have I3' := gcell g5 (p := ⟨w2.heap.size, 3, none⟩) (by simp; omega) I3
  have J3' := gfrozen g5 (p := ⟨w2.heap.size, 3, none⟩) (by simp; omega) (by simp; omega) J3
  have B5 : Below w.heap.size w w5 := B4.grown g5 (by omega) (fun k hk => by cases hk; omega)
  have s5 : w2.heap.size < w5.heap.size := Nat.lt_of_lt_of_le s4 g5.size
  clear r4 g5 F0 Z0 K0 I0 J0 F1 Z1 K1 I1 J1 F2 Z2 K2 I2 J2 F3 Z3 K3 I3 J3 F4 D1 D2
  have n2 : ¬ w2.heap.size = w.heap.size := by omega
  have n2' : ¬ w.heap.size = w2.heap.size := by omega
  go_wp2_with fail
  refine (H5.out _).mono ?_
  rintro e w6 ⟨rfl, b6⟩
  have s6 : w2.heap.size < w6.heap.size := by have := b6.size; simp at this; omega
  have ot : ∀ {p : Addr} {v : Value}, p.block ≠ w2.heap.size → w5.cell? p = some v → w6.cell? p = some v := fun {p v} h hc => by
    rw [b6.cell (by have := World.block_lt_of_cell? w5 p hc; simpa using this), World.cell?_setCell_other _ _ _ _ (fun e => h (by rw [← e]))]; exact hc
  have of : ∀ {p : Addr}, p.block < w5.heap.size → w5.frozen? p = false → w6.frozen? p = false := fun {p} h hc => by rw [b6.frozen (by simpa using h), World.frozen?_setCell]; exact hc
  have G0 := ot (p := ⟨w1.heap.size, 0, none⟩) (by simp; omega) F0'
  have G1 := ot (p := ⟨w1.heap.size, 1, none⟩) (by simp; omega) F1'
  have G2 := ot (p := ⟨w1.heap.size, 2, none⟩) (by simp; omega) F2'
  have G3 := ot (p := ⟨w1.heap.size, 3, none⟩) (by simp; omega) F3'
  have G4 := ot (p := ⟨w1.heap.size, 4, none⟩) (by simp; omega) F4'
  have M0 := ot (p := ⟨w.heap.size, 0, none⟩) (by simp; omega) Z0'
  have L0 := of (p := ⟨w.heap.size, 0, none⟩) (by simp; omega) K0'
  have M1 := ot (p := ⟨w.heap.size, 1, none⟩) (by simp; omega) Z1'
  have L1 := of (p := ⟨w.heap.size, 1, none⟩) (by simp; omega) K1'
  have M2 := ot (p := ⟨w.heap.size, 2, none⟩) (by simp; omega) Z2'
  have L2 := of (p := ⟨w.heap.size, 2, none⟩) (by simp; omega) K2'
  have M3 := ot (p := ⟨w.heap.size, 3, none⟩) (by simp; omega) Z3'
  have L3 := of (p := ⟨w.heap.size, 3, none⟩) (by simp; omega) K3'
  have O0 : w6.cell? ⟨w2.heap.size, 0, none⟩ = some (.int .u8 x0) := by rw [b6.cell (p := ⟨w2.heap.size, 0, none⟩) (by simpa using s5)]; go_simp
  have O1 : w6.cell? ⟨w2.heap.size, 1, none⟩ = some (.int .u8 0) := by rw [b6.cell (p := ⟨w2.heap.size, 1, none⟩) (by simpa using s5)]; go_simp
  have O2 : w6.cell? ⟨w2.heap.size, 2, none⟩ = some (.int .u8 0) := by rw [b6.cell (p := ⟨w2.heap.size, 2, none⟩) (by simpa using s5)]; go_simp
  have O3 : w6.cell? ⟨w2.heap.size, 3, none⟩ = some (.int .i32 z) := by rw [b6.cell (p := ⟨w2.heap.size, 3, none⟩) (by simpa using s5)]; go_simp
  have B6 : Below w.heap.size w w6 := (B5.setCell (by simp; omega) _).trans (b6.mono (by simp; omega))
  clear ot of b6 F0' Z0' K0' I0' J0' F1' Z1' K1' I1' J1' F2' Z2' K2' I2' J2' F3' Z3' K3' I3' J3' F4'
  cases m
  · simp only [Bool.false_eq_true, if_false]
    go_wp2_with fail
    refine bodyPost_ret (v := .tuple #[insV 0 0 0 0, .int .i64 0, .int .i64 21]) ?_ rfl ⟨rfl, ?_⟩
    · unfold insV
      simp [results, Tryz.results66, go_sem, M0, M1, M2, M3]
    · exact (((B6.setCell (by simp) _).setCell (by simp) _).setCell (by simp) _).setCell (by simp) _
  · simp only [if_true]
    go_wp2_with fail
    go_region
    all_goals
      go_wp2_with fail
      refine bodyPost_ret (v := .tuple #[insV x0 0 0 z, .int .i64 3, .int .i64 0]) ?_ rfl ⟨by rw [HZ.out], ?_⟩
      · unfold insV
        simp [results, Tryz.results66, go_sem, M0, M1, M2, M3]
      · first
          | exact ((((B6.drew.setCell (by simp) _).setCell (by simp) _).setCell (by simp) _).setCell (by simp) _)
          | exact ((((B6.setCell (by simp) _).setCell (by simp) _).setCell (by simp) _).setCell (by simp) _).drew

set_option maxHeartbeats 4000000 in
theorem dec30020 (host : Bool) (blk off len cap : Nat) (x0 x1 x2 x3 x4 x5 : Int) (w : World) (hx0 : w.cell? ⟨blk, off, none⟩ = some (.int .u8 x0)) (hx1 : w.cell? ⟨blk, off + 1, none⟩ = some (.int .u8 x1)) (hx2 : w.cell? ⟨blk, off + 2, none⟩ = some (.int .u8 x2))
    (b0 : 0 ≤ x0 ∧ x0 < 256) (b1 : 0 ≤ x1 ∧ x1 < 256) (b2 : 0 ≤ x2 ∧ x2 < 256) (b3 : 0 ≤ x3 ∧ x3 < 256) (b4 : 0 ≤ x4 ∧ x4 < 256) (b5 : 0 ≤ x5 ∧ x5 < 256) (hlen : len ≤ 9223372036854775807) (hn : 3 ≤ len) (hf : fm x0 host = ⟨3, 0, 0, 2, 0⟩) (m : Bool) (hm : mayB ⟨3, 0, 0, 2, 0⟩ (regA ⟨3, 0, 0, 2, 0⟩ x1) (regB ⟨3, 0, 0, 2, 0⟩ x1) (numL ⟨3, 0, 0, 2, 0⟩ x1 x2 x3 x4 x5) = m) :
    Calls Tryz.prog 66 #[.slice (some ⟨blk, off, none⟩) len cap, .bool host] w (if m = true then DecPost x0 (regA ⟨3, 0, 0, 2, 0⟩ x1) (regB ⟨3, 0, 0, 2, 0⟩ x1) (numL ⟨3, 0, 0, 2, 0⟩ x1 x2 x3 x4 x5) 3 0 w else DecPost 0 0 0 0 0 21 w) := by
  have hFI : fmIs ⟨3, 0, 0, 2, 0⟩ := by unfold fmIs; simp
  have HE := eqForm _ hFI
  have h1 := fun w => formOf_c x0 host w b0.1 b0.2
  rw [hf] at h1
  have H1 := Lib.hid h1
  clear h1
  unfold Fm.val at H1 HE
  have hnb := numF_bd hFI b1 b2 b3 b4
  have e1 : regA ⟨3, 0, 0, 2, 0⟩ x1 = 0 := by simp [regA]
  have e2 : regB ⟨3, 0, 0, 2, 0⟩ x1 = 0 := by simp [regB]
  have e3 : numL ⟨3, 0, 0, 2, 0⟩ x1 x2 x3 x4 x5 = (numF ⟨3, 0, 0, 2, 0⟩ x1 x2 x3 x4) := by simp [numL]
  rw [e1, e2, e3] at hm ⊢
  clear e1 e2 e3
  have h5 := fun w => may_c x0 0 0 (numF ⟨3, 0, 0, 2, 0⟩ x1 x2 x3 x4) host w b0.1 b0.2 (by omega) (by omega) (by omega) (by omega) hnb.1 hnb.2
  rw [hf, hm] at h5
  have H5 := Lib.hid h5
  have HF := Lib.hid hf
  clear h5 hm hf
  unfold insV at H5
  have hlt : ¬ ((len : Int) < 3) := by omega
  have hpos : (0 : Int) < (len : Int) := by omega
  have hz0 : ((len : Int) == 0) = false := by simp; omega
  have hbw : blk < w.heap.size := World.block_lt_of_cell? w _ hx0
  have X0 := hx0
  have X1 := Lib.hid hx1
  clear hx1
  have X2 := Lib.hid hx2
  clear hx2
  go_enter Tryz.func66, Tryz.ntmps66
  go_wp2_with fail
  refine (H1.out _).mono ?_
  rintro e w1 ⟨rfl, hb1⟩
  have B1 := below_box hb1
  have s1 : w.heap.size < w1.heap.size := by have := hb1.size; simp at this; omega
  have z0 : w1.cell? ⟨w.heap.size, 0, none⟩ = some (.int .u8 0) := by rw [hb1.cell (p := ⟨w.heap.size, 0, none⟩) (by simp)]; go_simp
  have y0 : w1.frozen? ⟨w.heap.size, 0, none⟩ = false := by rw [hb1.frozen (p := ⟨w.heap.size, 0, none⟩) (by simp)]; go_simp
  have z1 : w1.cell? ⟨w.heap.size, 1, none⟩ = some (.int .u8 0) := by rw [hb1.cell (p := ⟨w.heap.size, 1, none⟩) (by simp)]; go_simp
  have y1 : w1.frozen? ⟨w.heap.size, 1, none⟩ = false := by rw [hb1.frozen (p := ⟨w.heap.size, 1, none⟩) (by simp)]; go_simp
  have z2 : w1.cell? ⟨w.heap.size, 2, none⟩ = some (.int .u8 0) := by rw [hb1.cell (p := ⟨w.heap.size, 2, none⟩) (by simp)]; go_simp
  have y2 : w1.frozen? ⟨w.heap.size, 2, none⟩ = false := by rw [hb1.frozen (p := ⟨w.heap.size, 2, none⟩) (by simp)]; go_simp
  have z3 : w1.cell? ⟨w.heap.size, 3, none⟩ = some (.int .i32 0) := by rw [hb1.cell (p := ⟨w.heap.size, 3, none⟩) (by simp)]; go_simp
  have y3 : w1.frozen? ⟨w.heap.size, 3, none⟩ = false := by rw [hb1.frozen (p := ⟨w.heap.size, 3, none⟩) (by simp)]; go_simp
  have Y0 : w1.cell? ⟨blk, off, none⟩ = some (.int .u8 x0) := by
    rw [B1.cell (p := ⟨blk, off, none⟩) hbw]; exact X0
  have Y1 : w1.cell? ⟨blk, off + 1, none⟩ = some (.int .u8 x1) := by
    rw [B1.cell (p := ⟨blk, off + 1, none⟩) hbw]; exact X1.out
  have Y2 : w1.cell? ⟨blk, off + 2, none⟩ = some (.int .u8 x2) := by
    rw [B1.cell (p := ⟨blk, off + 2, none⟩) hbw]; exact X2.out
  have hb2' : blk < w1.heap.size := by omega
  clear hb1
  go_wp2_with fail
  have r0 : ReaderAt ((w1.alloc (.cells #[.int .i64 3, .int .i64 0, .int .i64 0, .int .i64 2, .int .i64 0] 108)).alloc (.cells #[.slice (some ⟨blk, off, none⟩) len cap, .int .i64 0] 143)) (w1.heap.size + 1) blk off len cap 0 := ⟨by go_simp, by go_simp, by go_simp⟩
  have Q0 : ((w1.alloc (.cells #[.int .i64 3, .int .i64 0, .int .i64 0, .int .i64 2, .int .i64 0] 108)).alloc (.cells #[.slice (some ⟨blk, off, none⟩) len cap, .int .i64 0] 143)).cell? ⟨blk, off, none⟩ = some (.int .u8 x0) := (cell_past (by simp; omega) _).trans ((cell_past hb2' _).trans Y0)
  have Q1 : ((w1.alloc (.cells #[.int .i64 3, .int .i64 0, .int .i64 0, .int .i64 2, .int .i64 0] 108)).alloc (.cells #[.slice (some ⟨blk, off, none⟩) len cap, .int .i64 0] 143)).cell? ⟨blk, off + 1, none⟩ = some (.int .u8 x1) := (cell_past (by simp; omega) _).trans ((cell_past hb2' _).trans Y1)
  have Q2 : ((w1.alloc (.cells #[.int .i64 3, .int .i64 0, .int .i64 0, .int .i64 2, .int .i64 0] 108)).alloc (.cells #[.slice (some ⟨blk, off, none⟩) len cap, .int .i64 0] 143)).cell? ⟨blk, off + 2, none⟩ = some (.int .u8 x2) := (cell_past (by simp; omega) _).trans ((cell_past hb2' _).trans Y2)
  clear Y0 Y1 Y2
  refine (next_c (w1.heap.size + 1) blk off len cap 0 x0 _ r0 (by omega) hlen (by omega) Q0).mono ?_
  rintro e w2 ⟨rfl, g2, r2⟩
  have s2 : w1.heap.size + 1 < w2.heap.size := by have := g2.size; simp at this; omega
  have f0 : w2.cell? ⟨w1.heap.size, 0, none⟩ = some (.int .i64 3) := gcell g2 (by simp) (by go_simp)
  have f1 : w2.cell? ⟨w1.heap.size, 1, none⟩ = some (.int .i64 0) := gcell g2 (by simp) (by go_simp)
  have f2 : w2.cell? ⟨w1.heap.size, 2, none⟩ = some (.int .i64 0) := gcell g2 (by simp) (by go_simp)
  have f3 : w2.cell? ⟨w1.heap.size, 3, none⟩ = some (.int .i64 2) := gcell g2 (by simp) (by go_simp)
  have f4 : w2.cell? ⟨w1.heap.size, 4, none⟩ = some (.int .i64 0) := gcell g2 (by simp) (by go_simp)
  have z0' : w2.cell? ⟨w.heap.size, 0, none⟩ = some (.int .u8 0) := gcell g2 (by simp; omega) (by go_simp)
  have y0' : w2.frozen? ⟨w.heap.size, 0, none⟩ = false := gfrozen g2 (by simp; omega) (by simp; omega) (by go_simp)
  have z1' : w2.cell? ⟨w.heap.size, 1, none⟩ = some (.int .u8 0) := gcell g2 (by simp; omega) (by go_simp)
  have y1' : w2.frozen? ⟨w.heap.size, 1, none⟩ = false := gfrozen g2 (by simp; omega) (by simp; omega) (by go_simp)
  have z2' : w2.cell? ⟨w.heap.size, 2, none⟩ = some (.int .u8 0) := gcell g2 (by simp; omega) (by go_simp)
  have y2' : w2.frozen? ⟨w.heap.size, 2, none⟩ = false := gfrozen g2 (by simp; omega) (by simp; omega) (by go_simp)
  have z3' : w2.cell? ⟨w.heap.size, 3, none⟩ = some (.int .i32 0) := gcell g2 (by simp; omega) (by go_simp)
  have y3' : w2.frozen? ⟨w.heap.size, 3, none⟩ = false := gfrozen g2 (by simp; omega) (by simp; omega) (by go_simp)
  have U1 : w2.cell? ⟨blk, off + 1, none⟩ = some (.int .u8 x1) := gcell g2 (by simp; omega) Q1
  have U2 : w2.cell? ⟨blk, off + 2, none⟩ = some (.int .u8 x2) := gcell g2 (by simp; omega) Q2
  have B2 : Below w.heap.size w w2 := (((B1.alloc (by omega) _).alloc (by simp; omega) _).grown g2 (by simp; omega) (fun k hk => by cases hk; omega))
  clear z0 z1 z2 z3 y0 y1 y2 y3 r0 Q0 Q1 Q2
  have s2' : w1.heap.size < w2.heap.size := by omega
  have s2'' : w.heap.size < w2.heap.size := by omega
  go_wp2_with fail
  obtain ⟨W4, hW4⟩ : ∃ W4, W4 = (w2.alloc (.cells #[.int .u8 x0, .int .u8 0, .int .u8 0, .int .i32 0] 76)) := ⟨_, rfl⟩
  have r4 : ReaderAt W4 (w1.heap.size + 1) blk off len cap 1 := by rw [hW4]; exact ⟨(cell_past s2 _).trans r2.1, (cell_past s2 _).trans r2.2.1, (frozen_past s2 _).trans r2.2.2⟩
  have F0 : W4.cell? ⟨w1.heap.size, 0, none⟩ = some (.int .i64 3) := by rw [hW4]; exact (cell_past s2' _).trans f0
  have F1 : W4.cell? ⟨w1.heap.size, 1, none⟩ = some (.int .i64 0) := by rw [hW4]; exact (cell_past s2' _).trans f1
  have F2 : W4.cell? ⟨w1.heap.size, 2, none⟩ = some (.int .i64 0) := by rw [hW4]; exact (cell_past s2' _).trans f2
  have F3 : W4.cell? ⟨w1.heap.size, 3, none⟩ = some (.int .i64 2) := by rw [hW4]; exact (cell_past s2' _).trans f3
  have F4 : W4.cell? ⟨w1.heap.size, 4, none⟩ = some (.int .i64 0) := by rw [hW4]; exact (cell_past s2' _).trans f4
  have Z0 : W4.cell? ⟨w.heap.size, 0, none⟩ = some (.int .u8 0) := by rw [hW4]; exact (cell_past s2'' _).trans z0'
  have K0 : W4.frozen? ⟨w.heap.size, 0, none⟩ = false := by rw [hW4]; exact (frozen_past s2'' _).trans y0'
  have Z1 : W4.cell? ⟨w.heap.size, 1, none⟩ = some (.int .u8 0) := by rw [hW4]; exact (cell_past s2'' _).trans z1'
  have K1 : W4.frozen? ⟨w.heap.size, 1, none⟩ = false := by rw [hW4]; exact (frozen_past s2'' _).trans y1'
  have Z2 : W4.cell? ⟨w.heap.size, 2, none⟩ = some (.int .u8 0) := by rw [hW4]; exact (cell_past s2'' _).trans z2'
  have K2 : W4.frozen? ⟨w.heap.size, 2, none⟩ = false := by rw [hW4]; exact (frozen_past s2'' _).trans y2'
  have Z3 : W4.cell? ⟨w.heap.size, 3, none⟩ = some (.int .i32 0) := by rw [hW4]; exact (cell_past s2'' _).trans z3'
  have K3 : W4.frozen? ⟨w.heap.size, 3, none⟩ = false := by rw [hW4]; exact (frozen_past s2'' _).trans y3'
  have D1 : W4.cell? ⟨blk, off + 1, none⟩ = some (.int .u8 x1) := by rw [hW4]; exact (cell_past (by omega) _).trans U1
  have D2 : W4.cell? ⟨blk, off + 2, none⟩ = some (.int .u8 x2) := by rw [hW4]; exact (cell_past (by omega) _).trans U2
  have I0 : W4.cell? ⟨w2.heap.size, 0, none⟩ = some (.int .u8 x0) := by rw [hW4]; go_simp
  have J0 : W4.frozen? ⟨w2.heap.size, 0, none⟩ = false := by rw [hW4]; go_simp
  have I1 : W4.cell? ⟨w2.heap.size, 1, none⟩ = some (.int .u8 0) := by rw [hW4]; go_simp
  have J1 : W4.frozen? ⟨w2.heap.size, 1, none⟩ = false := by rw [hW4]; go_simp
  have I2 : W4.cell? ⟨w2.heap.size, 2, none⟩ = some (.int .u8 0) := by rw [hW4]; go_simp
  have J2 : W4.frozen? ⟨w2.heap.size, 2, none⟩ = false := by rw [hW4]; go_simp
  have I3 : W4.cell? ⟨w2.heap.size, 3, none⟩ = some (.int .i32 0) := by rw [hW4]; go_simp
  have J3 : W4.frozen? ⟨w2.heap.size, 3, none⟩ = false := by rw [hW4]; go_simp
  have B4 : Below w.heap.size w W4 := by rw [hW4]; exact B2.alloc (by omega) _
  have s4 : w2.heap.size < W4.heap.size := by rw [hW4]; simp
  rw [← hW4]
  clear hW4 f0 z0' y0' f1 z1' y1' f2 z2' y2' f3 z3' y3' f4 r2 U1 U2
  have n1 : ¬ w2.heap.size = w1.heap.size := by omega
  have n1' : ¬ w1.heap.size = w2.heap.size := by omega
  have hN := number_c ⟨3, 0, 0, 2, 0⟩ hFI (w1.heap.size + 1) blk off len cap 1 x1 x2 x3 x4 W4 r4 hlen (by omega) (by simp; omega) (fun _ => D1) (fun _ => D2) (fun h => absurd h (by decide)) (fun h => absurd h (by decide)) b1 b2 b3 b4 (by omega)
  unfold Fm.val at hN
  refine hN.mono ?_
  clear hN
  rintro e w5 ⟨rfl, g5⟩
  obtain ⟨z, hzz⟩ : ∃ z, z = numF ⟨3, 0, 0, 2, 0⟩ x1 x2 x3 x4 := ⟨_, rfl⟩
  rw [← hzz] at H5 hnb ⊢
  have HZ := Lib.hid hzz
  clear hzz
  have F0' := gcell g5 (p := ⟨w1.heap.size, 0, none⟩) (by simp) F0
  have F1' := gcell g5 (p := ⟨w1.heap.size, 1, none⟩) (by simp) F1
  have F2' := gcell g5 (p := ⟨w1.heap.size, 2, none⟩) (by simp) F2
  have F3' := gcell g5 (p := ⟨w1.heap.size, 3, none⟩) (by simp) F3
  have F4' := gcell g5 (p := ⟨w1.heap.size, 4, none⟩) (by simp) F4
  have Z0' := gcell g5 (p := ⟨w.heap.size, 0, none⟩) (by simp; omega) Z0
  have K0' := gfrozen g5 (p := ⟨w.heap.size, 0, none⟩) (by simp; omega) (by simp; omega) K0
  have I0' := gcell g5 (p := ⟨w2.heap.size, 0, none⟩) (by simp; omega) I0
  have J0' := gfrozen g5 (p := ⟨w2.heap.size, 0, none⟩) (by simp; omega) (by simp; omega) J0
  have Z1' := gcell g5 (p := ⟨w.heap.size, 1, none⟩) (by simp; omega) Z1
  have K1' := gfrozen g5 (p := ⟨w.heap.size, 1, none⟩) (by simp; omega) (by simp; omega) K1
  have I1' := gcell g5 (p := ⟨w2.heap.size, 1, none⟩) (by simp; omega) I1
  have J1' := gfrozen g5 (p := ⟨w2.heap.size, 1, none⟩) (by simp; omega) (by simp; omega) J1
  have Z2' := gcell g5 (p := ⟨w.heap.size, 2, none⟩) (by simp; omega) Z2
  have K2' := gfrozen g5 (p := ⟨w.heap.size, 2, none⟩) (by simp; omega) (by simp; omega) K2
  have I2' := gcell g5 (p := ⟨w2.heap.size, 2, none⟩) (by simp; omega) I2
  have J2' := gfrozen g5 (p := ⟨w2.heap.size, 2, none⟩) (by simp; omega) (by simp; omega) J2
  have Z3' := gcell g5 (p := ⟨w.heap.size, 3, none⟩) (by simp; omega) Z3
  have K3' := gfrozen g5 (p := ⟨w.heap.size, 3, none⟩) (by simp; omega) (by simp; omega) K3
  have I3' := gcell g5 (p := ⟨w2.heap.size, 3, none⟩) (by simp; omega) I3
  have J3' := gfrozen g5 (p := ⟨w2.heap.size, 3, none⟩) (by simp; omega) (by simp; omega) J3
  have B5 : Below w.heap.size w w5 := B4.grown g5 (by omega) (fun k hk => by cases hk; omega)
  have s5 : w2.heap.size < w5.heap.size := Nat.lt_of_lt_of_le s4 g5.size
  clear r4 g5 F0 Z0 K0 I0 J0 F1 Z1 K1 I1 J1 F2 Z2 K2 I2 J2 F3 Z3 K3 I3 J3 F4 D1 D2
  have n2 : ¬ w2.heap.size = w.heap.size := by omega
  have n2' : ¬ w.heap.size = w2.heap.size := by omega
  go_wp2_with fail
  refine (H5.out _).mono ?_
  rintro e w6 ⟨rfl, b6⟩
  have s6 : w2.heap.size < w6.heap.size := by have := b6.size; simp at this; omega
  have ot : ∀ {p : Addr} {v : Value}, p.block ≠ w2.heap.size → w5.cell? p = some v → w6.cell? p = some v := fun {p v} h hc => by
    rw [b6.cell (by have := World.block_lt_of_cell? w5 p hc; simpa using this), World.cell?_setCell_other _ _ _ _ (fun e => h (by rw [← e]))]; exact hc
  have of : ∀ {p : Addr}, p.block < w5.heap.size → w5.frozen? p = false → w6.frozen? p = false := fun {p} h hc => by rw [b6.frozen (by simpa using h), World.frozen?_setCell]; exact hc
  have G0 := ot (p := ⟨w1.heap.size, 0, none⟩) (by simp; omega) F0'
  have G1 := ot (p := ⟨w1.heap.size, 1, none⟩) (by simp; omega) F1'
  have G2 := ot (p := ⟨w1.heap.size, 2, none⟩) (by simp; omega) F2'
  have G3 := ot (p := ⟨w1.heap.size, 3, none⟩) (by simp; omega) F3'
  have G4 := ot (p := ⟨w1.heap.size, 4, none⟩) (by simp; omega) F4'
  have M0 := ot (p := ⟨w.heap.size, 0, none⟩) (by simp; omega) Z0'
  have L0 := of (p := ⟨w.heap.size, 0, none⟩) (by simp; omega) K0'
  have M1 := ot (p := ⟨w.heap.size, 1, none⟩) (by simp; omega) Z1'
  have L1 := of (p := ⟨w.heap.size, 1, none⟩) (by simp; omega) K1'
  have M2 := ot (p := ⟨w.heap.size, 2, none⟩) (by simp; omega) Z2'
  have L2 := of (p := ⟨w.heap.size, 2, none⟩) (by simp; omega) K2'
  have M3 := ot (p := ⟨w.heap.size, 3, none⟩) (by simp; omega) Z3'
  have L3 := of (p := ⟨w.heap.size, 3, none⟩) (by simp; omega) K3'
  have O0 : w6.cell? ⟨w2.heap.size, 0, none⟩ = some (.int .u8 x0) := by rw [b6.cell (p := ⟨w2.heap.size, 0, none⟩) (by simpa using s5)]; go_simp
  have O1 : w6.cell? ⟨w2.heap.size, 1, none⟩ = some (.int .u8 0) := by rw [b6.cell (p := ⟨w2.heap.size, 1, none⟩) (by simpa using s5)]; go_simp
  have O2 : w6.cell? ⟨w2.heap.size, 2, none⟩ = some (.int .u8 0) := by rw [b6.cell (p := ⟨w2.heap.size, 2, none⟩) (by simpa using s5)]; go_simp
  have O3 : w6.cell? ⟨w2.heap.size, 3, none⟩ = some (.int .i32 z) := by rw [b6.cell (p := ⟨w2.heap.size, 3, none⟩) (by simpa using s5)]; go_simp
  have B6 : Below w.heap.size w w6 := (B5.setCell (by simp; omega) _).trans (b6.mono (by simp; omega))
  clear ot of b6 F0' Z0' K0' I0' J0' F1' Z1' K1' I1' J1' F2' Z2' K2' I2' J2' F3' Z3' K3' I3' J3' F4'
  cases m
  · simp only [Bool.false_eq_true, if_false]
    go_wp2_with fail
    refine bodyPost_ret (v := .tuple #[insV 0 0 0 0, .int .i64 0, .int .i64 21]) ?_ rfl ⟨rfl, ?_⟩
    · unfold insV
      simp [results, Tryz.results66, go_sem, M0, M1, M2, M3]
    · exact (((B6.setCell (by simp) _).setCell (by simp) _).setCell (by simp) _).setCell (by simp) _
  · simp only [if_true]
    go_wp2_with fail
    go_region
    all_goals
      go_wp2_with fail
      refine bodyPost_ret (v := .tuple #[insV x0 0 0 z, .int .i64 3, .int .i64 0]) ?_ rfl ⟨by rw [HZ.out], ?_⟩
      · unfold insV
        simp [results, Tryz.results66, go_sem, M0, M1, M2, M3]
      · first
          | exact ((((B6.drew.setCell (by simp) _).setCell (by simp) _).setCell (by simp) _).setCell (by simp) _)
          | exact ((((B6.setCell (by simp) _).setCell (by simp) _).setCell (by simp) _).setCell (by simp) _).drew

set_option maxHeartbeats 4000000 in
theorem dec61041 (host : Bool) (blk off len cap : Nat) (x0 x1 x2 x3 x4 x5 : Int) (w : World) (hx0 : w.cell? ⟨blk, off, none⟩ = some (.int .u8 x0)) (hx1 : w.cell? ⟨blk, off + 1, none⟩ = some (.int .u8 x1)) (hx2 : w.cell? ⟨blk, off + 2, none⟩ = some (.int .u8 x2)) (hx3 : w.cell? ⟨blk, off + 3, none⟩ = some (.int .u8 x3)) (hx4 : w.cell? ⟨blk, off + 4, none⟩ = some (.int .u8 x4)) (hx5 : w.cell? ⟨blk, off + 5, none⟩ = some (.int .u8 x5))
    (b0 : 0 ≤ x0 ∧ x0 < 256) (b1 : 0 ≤ x1 ∧ x1 < 256) (b2 : 0 ≤ x2 ∧ x2 < 256) (b3 : 0 ≤ x3 ∧ x3 < 256) (b4 : 0 ≤ x4 ∧ x4 < 256) (b5 : 0 ≤ x5 ∧ x5 < 256) (hlen : len ≤ 9223372036854775807) (hn : 6 ≤ len) (hf : fm x0 host = ⟨6, 1, 0, 4, 1⟩) (m : Bool) (hm : mayB ⟨6, 1, 0, 4, 1⟩ (regA ⟨6, 1, 0, 4, 1⟩ x1) (regB ⟨6, 1, 0, 4, 1⟩ x1) (numL ⟨6, 1, 0, 4, 1⟩ x1 x2 x3 x4 x5) = m) :
    Calls Tryz.prog 66 #[.slice (some ⟨blk, off, none⟩) len cap, .bool host] w (if m = true then DecPost x0 (regA ⟨6, 1, 0, 4, 1⟩ x1) (regB ⟨6, 1, 0, 4, 1⟩ x1) (numL ⟨6, 1, 0, 4, 1⟩ x1 x2 x3 x4 x5) 6 0 w else DecPost 0 0 0 0 0 21 w) := by
  have hFI : fmIs ⟨6, 1, 0, 4, 1⟩ := by unfold fmIs; simp
  have HE := eqForm _ hFI
  have h1 := fun w => formOf_c x0 host w b0.1 b0.2
  rw [hf] at h1
  have H1 := Lib.hid h1
  clear h1
  unfold Fm.val at H1 HE
  have hnb := numF_bd hFI b2 b3 b4 b5
  have e1 : regA ⟨6, 1, 0, 4, 1⟩ x1 = (x1 / 16) := by simp [regA]
  have e2 : regB ⟨6, 1, 0, 4, 1⟩ x1 = (x1 % 16) := by simp [regB]
  have e3 : numL ⟨6, 1, 0, 4, 1⟩ x1 x2 x3 x4 x5 = (numF ⟨6, 1, 0, 4, 1⟩ x2 x3 x4 x5) := by simp [numL]
  rw [e1, e2, e3] at hm ⊢
  clear e1 e2 e3
  have h5 := fun w => may_c x0 (x1 / 16) (x1 % 16) (numF ⟨6, 1, 0, 4, 1⟩ x2 x3 x4 x5) host w b0.1 b0.2 (by omega) (by omega) (by omega) (by omega) hnb.1 hnb.2
  rw [hf, hm] at h5
  have H5 := Lib.hid h5
  have HF := Lib.hid hf
  clear h5 hm hf
  unfold insV at H5
  have hlt : ¬ ((len : Int) < 6) := by omega
  have hpos : (0 : Int) < (len : Int) := by omega
  have hz0 : ((len : Int) == 0) = false := by simp; omega
  have hbw : blk < w.heap.size := World.block_lt_of_cell? w _ hx0
  have X0 := hx0
  have X1 := Lib.hid hx1
  clear hx1
  have X2 := Lib.hid hx2
  clear hx2
  have X3 := Lib.hid hx3
  clear hx3
  have X4 := Lib.hid hx4
  clear hx4
  have X5 := Lib.hid hx5
  clear hx5
  go_enter Tryz.func66, Tryz.ntmps66
  go_wp2_with fail
  refine (H1.out _).mono ?_
  rintro e w1 ⟨rfl, hb1⟩
  have B1 := below_box hb1
  have s1 : w.heap.size < w1.heap.size := by have := hb1.size; simp at this; omega
  have z0 : w1.cell? ⟨w.heap.size, 0, none⟩ = some (.int .u8 0) := by rw [hb1.cell (p := ⟨w.heap.size, 0, none⟩) (by simp)]; go_simp
  have y0 : w1.frozen? ⟨w.heap.size, 0, none⟩ = false := by rw [hb1.frozen (p := ⟨w.heap.size, 0, none⟩) (by simp)]; go_simp
  have z1 : w1.cell? ⟨w.heap.size, 1, none⟩ = some (.int .u8 0) := by rw [hb1.cell (p := ⟨w.heap.size, 1, none⟩) (by simp)]; go_simp
  have y1 : w1.frozen? ⟨w.heap.size, 1, none⟩ = false := by rw [hb1.frozen (p := ⟨w.heap.size, 1, none⟩) (by simp)]; go_simp
  have z2 : w1.cell? ⟨w.heap.size, 2, none⟩ = some (.int .u8 0) := by rw [hb1.cell (p := ⟨w.heap.size, 2, none⟩) (by simp)]; go_simp
  have y2 : w1.frozen? ⟨w.heap.size, 2, none⟩ = false := by rw [hb1.frozen (p := ⟨w.heap.size, 2, none⟩) (by simp)]; go_simp
  have z3 : w1.cell? ⟨w.heap.size, 3, none⟩ = some (.int .i32 0) := by rw [hb1.cell (p := ⟨w.heap.size, 3, none⟩) (by simp)]; go_simp
  have y3 : w1.frozen? ⟨w.heap.size, 3, none⟩ = false := by rw [hb1.frozen (p := ⟨w.heap.size, 3, none⟩) (by simp)]; go_simp
  have Y0 : w1.cell? ⟨blk, off, none⟩ = some (.int .u8 x0) := by
    rw [B1.cell (p := ⟨blk, off, none⟩) hbw]; exact X0
  have Y1 : w1.cell? ⟨blk, off + 1, none⟩ = some (.int .u8 x1) := by
    rw [B1.cell (p := ⟨blk, off + 1, none⟩) hbw]; exact X1.out
  have Y2 : w1.cell? ⟨blk, off + 2, none⟩ = some (.int .u8 x2) := by
    rw [B1.cell (p := ⟨blk, off + 2, none⟩) hbw]; exact X2.out
  have Y3 : w1.cell? ⟨blk, off + 3, none⟩ = some (.int .u8 x3) := by
    rw [B1.cell (p := ⟨blk, off + 3, none⟩) hbw]; exact X3.out
  have Y4 : w1.cell? ⟨blk, off + 4, none⟩ = some (.int .u8 x4) := by
    rw [B1.cell (p := ⟨blk, off + 4, none⟩) hbw]; exact X4.out
  have Y5 : w1.cell? ⟨blk, off + 5, none⟩ = some (.int .u8 x5) := by
    rw [B1.cell (p := ⟨blk, off + 5, none⟩) hbw]; exact X5.out
  have hb2' : blk < w1.heap.size := by omega
  clear hb1
  go_wp2_with fail
  have r0 : ReaderAt ((w1.alloc (.cells #[.int .i64 6, .int .i64 1, .int .i64 0, .int .i64 4, .int .i64 1] 108)).alloc (.cells #[.slice (some ⟨blk, off, none⟩) len cap, .int .i64 0] 143)) (w1.heap.size + 1) blk off len cap 0 := ⟨by go_simp, by go_simp, by go_simp⟩
  have Q0 : ((w1.alloc (.cells #[.int .i64 6, .int .i64 1, .int .i64 0, .int .i64 4, .int .i64 1] 108)).alloc (.cells #[.slice (some ⟨blk, off, none⟩) len cap, .int .i64 0] 143)).cell? ⟨blk, off, none⟩ = some (.int .u8 x0) := (cell_past (by simp; omega) _).trans ((cell_past hb2' _).trans Y0)
  have Q1 : ((w1.alloc (.cells #[.int .i64 6, .int .i64 1, .int .i64 0, .int .i64 4, .int .i64 1] 108)).alloc (.cells #[.slice (some ⟨blk, off, none⟩) len cap, .int .i64 0] 143)).cell? ⟨blk, off + 1, none⟩ = some (.int .u8 x1) := (cell_past (by simp; omega) _).trans ((cell_past hb2' _).trans Y1)
  have Q2 : ((w1.alloc (.cells #[.int .i64 6, .int .i64 1, .int .i64 0, .int .i64 4, .int .i64 1] 108)).alloc (.cells #[.slice (some ⟨blk, off, none⟩) len cap, .int .i64 0] 143)).cell? ⟨blk, off + 2, none⟩ = some (.int .u8 x2) := (cell_past (by simp; omega) _).trans ((cell_past hb2' _).trans Y2)
  have Q3 : ((w1.alloc (.cells #[.int .i64 6, .int .i64 1, .int .i64 0, .int .i64 4, .int .i64 1] 108)).alloc (.cells #[.slice (some ⟨blk, off, none⟩) len cap, .int .i64 0] 143)).cell? ⟨blk, off + 3, none⟩ = some (.int .u8 x3) := (cell_past (by simp; omega) _).trans ((cell_past hb2' _).trans Y3)
  have Q4 : ((w1.alloc (.cells #[.int .i64 6, .int .i64 1, .int .i64 0, .int .i64 4, .int .i64 1] 108)).alloc (.cells #[.slice (some ⟨blk, off, none⟩) len cap, .int .i64 0] 143)).cell? ⟨blk, off + 4, none⟩ = some (.int .u8 x4) := (cell_past (by simp; omega) _).trans ((cell_past hb2' _).trans Y4)
  have Q5 : ((w1.alloc (.cells #[.int .i64 6, .int .i64 1, .int .i64 0, .int .i64 4, .int .i64 1] 108)).alloc (.cells #[.slice (some ⟨blk, off, none⟩) len cap, .int .i64 0] 143)).cell? ⟨blk, off + 5, none⟩ = some (.int .u8 x5) := (cell_past (by simp; omega) _).trans ((cell_past hb2' _).trans Y5)
  clear Y0 Y1 Y2 Y3 Y4 Y5
  refine (next_c (w1.heap.size + 1) blk off len cap 0 x0 _ r0 (by omega) hlen (by omega) Q0).mono ?_
  rintro e w2 ⟨rfl, g2, r2⟩
  have s2 : w1.heap.size + 1 < w2.heap.size := by have := g2.size; simp at this; omega
  have f0 : w2.cell? ⟨w1.heap.size, 0, none⟩ = some (.int .i64 6) := gcell g2 (by simp) (by go_simp)
  have f1 : w2.cell? ⟨w1.heap.size, 1, none⟩ = some (.int .i64 1) := gcell g2 (by simp) (by go_simp)
  have f2 : w2.cell? ⟨w1.heap.size, 2, none⟩ = some (.int .i64 0) := gcell g2 (by simp) (by go_simp)
  have f3 : w2.cell? ⟨w1.heap.size, 3, none⟩ = some (.int .i64 4) := gcell g2 (by simp) (by go_simp)
  have f4 : w2.cell? ⟨w1.heap.size, 4, none⟩ = some (.int .i64 1) := gcell g2 (by simp) (by go_simp)
  have z0' : w2.cell? ⟨w.heap.size, 0, none⟩ = some (.int .u8 0) := gcell g2 (by simp; omega) (by go_simp)
  have y0' : w2.frozen? ⟨w.heap.size, 0, none⟩ = false := gfrozen g2 (by simp; omega) (by simp; omega) (by go_simp)
  have z1' : w2.cell? ⟨w.heap.size, 1, none⟩ = some (.int .u8 0) := gcell g2 (by simp; omega) (by go_simp)
  have y1' : w2.frozen? ⟨w.heap.size, 1, none⟩ = false := gfrozen g2 (by simp; omega) (by simp; omega) (by go_simp)
  have z2' : w2.cell? ⟨w.heap.size, 2, none⟩ = some (.int .u8 0) := gcell g2 (by simp; omega) (by go_simp)
  have y2' : w2.frozen? ⟨w.heap.size, 2, none⟩ = false := gfrozen g2 (by simp; omega) (by simp; omega) (by go_simp)
  have z3' : w2.cell? ⟨w.heap.size, 3, none⟩ = some (.int .i32 0) := gcell g2 (by simp; omega) (by go_simp)
  have y3' : w2.frozen? ⟨w.heap.size, 3, none⟩ = false := gfrozen g2 (by simp; omega) (by simp; omega) (by go_simp)
  have U1 : w2.cell? ⟨blk, off + 1, none⟩ = some (.int .u8 x1) := gcell g2 (by simp; omega) Q1
  have U2 : w2.cell? ⟨blk, off + 2, none⟩ = some (.int .u8 x2) := gcell g2 (by simp; omega) Q2
  have U3 : w2.cell? ⟨blk, off + 3, none⟩ = some (.int .u8 x3) := gcell g2 (by simp; omega) Q3
  have U4 : w2.cell? ⟨blk, off + 4, none⟩ = some (.int .u8 x4) := gcell g2 (by simp; omega) Q4
  have U5 : w2.cell? ⟨blk, off + 5, none⟩ = some (.int .u8 x5) := gcell g2 (by simp; omega) Q5
  have B2 : Below w.heap.size w w2 := (((B1.alloc (by omega) _).alloc (by simp; omega) _).grown g2 (by simp; omega) (fun k hk => by cases hk; omega))
  clear z0 z1 z2 z3 y0 y1 y2 y3 r0 Q0 Q1 Q2 Q3 Q4 Q5
  have s2' : w1.heap.size < w2.heap.size := by omega
  have s2'' : w.heap.size < w2.heap.size := by omega
  go_wp2_with fail
  have r2' : ReaderAt (w2.alloc (.cells #[.int .u8 x0, .int .u8 0, .int .u8 0, .int .i32 0] 76)) (w1.heap.size + 1) blk off len cap 1 := ⟨(cell_past s2 _).trans r2.1, (cell_past s2 _).trans r2.2.1, (frozen_past s2 _).trans r2.2.2⟩
  have P1 : (w2.alloc (.cells #[.int .u8 x0, .int .u8 0, .int .u8 0, .int .i32 0] 76)).cell? ⟨blk, off + 1, none⟩ = some (.int .u8 x1) := (cell_past (by omega) _).trans U1
  have P2 : (w2.alloc (.cells #[.int .u8 x0, .int .u8 0, .int .u8 0, .int .i32 0] 76)).cell? ⟨blk, off + 2, none⟩ = some (.int .u8 x2) := (cell_past (by omega) _).trans U2
  have P3 : (w2.alloc (.cells #[.int .u8 x0, .int .u8 0, .int .u8 0, .int .i32 0] 76)).cell? ⟨blk, off + 3, none⟩ = some (.int .u8 x3) := (cell_past (by omega) _).trans U3
  have P4 : (w2.alloc (.cells #[.int .u8 x0, .int .u8 0, .int .u8 0, .int .i32 0] 76)).cell? ⟨blk, off + 4, none⟩ = some (.int .u8 x4) := (cell_past (by omega) _).trans U4
  have P5 : (w2.alloc (.cells #[.int .u8 x0, .int .u8 0, .int .u8 0, .int .i32 0] 76)).cell? ⟨blk, off + 5, none⟩ = some (.int .u8 x5) := (cell_past (by omega) _).trans U5
  clear U1 U2 U3 U4 U5
  refine (next_c (w1.heap.size + 1) blk off len cap 1 x1 _ r2' (by omega) hlen (by omega) P1).mono ?_
  rintro e w3 ⟨rfl, g3, r3⟩
  have s3 : w2.heap.size < w3.heap.size := by have := g3.size; simp at this; omega
  have f0' : w3.cell? ⟨w1.heap.size, 0, none⟩ = some (.int .i64 6) := gcell g3 (by simp) ((cell_past s2' _).trans f0)
  have f1' : w3.cell? ⟨w1.heap.size, 1, none⟩ = some (.int .i64 1) := gcell g3 (by simp) ((cell_past s2' _).trans f1)
  have f2' : w3.cell? ⟨w1.heap.size, 2, none⟩ = some (.int .i64 0) := gcell g3 (by simp) ((cell_past s2' _).trans f2)
  have f3' : w3.cell? ⟨w1.heap.size, 3, none⟩ = some (.int .i64 4) := gcell g3 (by simp) ((cell_past s2' _).trans f3)
  have f4' : w3.cell? ⟨w1.heap.size, 4, none⟩ = some (.int .i64 1) := gcell g3 (by simp) ((cell_past s2' _).trans f4)
  have z0'' : w3.cell? ⟨w.heap.size, 0, none⟩ = some (.int .u8 0) := gcell g3 (by simp; omega) ((cell_past s2'' _).trans z0')
  have y0'' : w3.frozen? ⟨w.heap.size, 0, none⟩ = false := gfrozen g3 (by simp; omega) (by simp; omega) ((frozen_past s2'' _).trans y0')
  have z1'' : w3.cell? ⟨w.heap.size, 1, none⟩ = some (.int .u8 0) := gcell g3 (by simp; omega) ((cell_past s2'' _).trans z1')
  have y1'' : w3.frozen? ⟨w.heap.size, 1, none⟩ = false := gfrozen g3 (by simp; omega) (by simp; omega) ((frozen_past s2'' _).trans y1')
  have z2'' : w3.cell? ⟨w.heap.size, 2, none⟩ = some (.int .u8 0) := gcell g3 (by simp; omega) ((cell_past s2'' _).trans z2')
  have y2'' : w3.frozen? ⟨w.heap.size, 2, none⟩ = false := gfrozen g3 (by simp; omega) (by simp; omega) ((frozen_past s2'' _).trans y2')
  have z3'' : w3.cell? ⟨w.heap.size, 3, none⟩ = some (.int .i32 0) := gcell g3 (by simp; omega) ((cell_past s2'' _).trans z3')
  have y3'' : w3.frozen? ⟨w.heap.size, 3, none⟩ = false := gfrozen g3 (by simp; omega) (by simp; omega) ((frozen_past s2'' _).trans y3')
  have i0 : w3.cell? ⟨w2.heap.size, 0, none⟩ = some (.int .u8 x0) := gcell g3 (by simp; omega) (by go_simp)
  have j0 : w3.frozen? ⟨w2.heap.size, 0, none⟩ = false := gfrozen g3 (by simp) (by simp; omega) (by go_simp)
  have i1 : w3.cell? ⟨w2.heap.size, 1, none⟩ = some (.int .u8 0) := gcell g3 (by simp; omega) (by go_simp)
  have j1 : w3.frozen? ⟨w2.heap.size, 1, none⟩ = false := gfrozen g3 (by simp) (by simp; omega) (by go_simp)
  have i2 : w3.cell? ⟨w2.heap.size, 2, none⟩ = some (.int .u8 0) := gcell g3 (by simp; omega) (by go_simp)
  have j2 : w3.frozen? ⟨w2.heap.size, 2, none⟩ = false := gfrozen g3 (by simp) (by simp; omega) (by go_simp)
  have i3 : w3.cell? ⟨w2.heap.size, 3, none⟩ = some (.int .i32 0) := gcell g3 (by simp; omega) (by go_simp)
  have j3 : w3.frozen? ⟨w2.heap.size, 3, none⟩ = false := gfrozen g3 (by simp) (by simp; omega) (by go_simp)
  have U2 : w3.cell? ⟨blk, off + 2, none⟩ = some (.int .u8 x2) := gcell g3 (by simp; omega) P2
  have U3 : w3.cell? ⟨blk, off + 3, none⟩ = some (.int .u8 x3) := gcell g3 (by simp; omega) P3
  have U4 : w3.cell? ⟨blk, off + 4, none⟩ = some (.int .u8 x4) := gcell g3 (by simp; omega) P4
  have U5 : w3.cell? ⟨blk, off + 5, none⟩ = some (.int .u8 x5) := gcell g3 (by simp; omega) P5
  have B3 : Below w.heap.size w w3 := (B2.alloc (by omega) _).grown g3 (by simp; omega) (fun k hk => by cases hk; omega)
  clear r2' f0 z0' y0' f1 z1' y1' f2 z2' y2' f3 z3' y3' f4 P1 P2 P3 P4 P5
  have n1 : ¬ w2.heap.size = w1.heap.size := by omega
  have n1' : ¬ w1.heap.size = w2.heap.size := by omega
  go_wp2_with fail
  obtain ⟨W4, hW4⟩ : ∃ W4, W4 = (w3.setCell ⟨w2.heap.size, 1, none⟩ (.int .u8 (x1 / 16))).setCell ⟨w2.heap.size, 2, none⟩ (.int .u8 (x1 % 16)) := ⟨_, rfl⟩
  have ot : ∀ {p : Addr} {v : Value}, p.block ≠ w2.heap.size → w3.cell? p = some v → W4.cell? p = some v := fun {p v} h hc => by
    rw [hW4, World.cell?_setCell_other _ _ _ _ (fun e => h (by rw [← e])), World.cell?_setCell_other _ _ _ _ (fun e => h (by rw [← e]))]; exact hc
  have of : ∀ {p : Addr}, w3.frozen? p = false → W4.frozen? p = false := fun {p} hc => by rw [hW4, World.frozen?_setCell, World.frozen?_setCell]; exact hc
  have r4 : ReaderAt W4 (w1.heap.size + 1) blk off len cap 2 := ⟨ot (by simp; omega) r3.1, ot (by simp; omega) r3.2.1, of r3.2.2⟩
  have F0 : W4.cell? ⟨w1.heap.size, 0, none⟩ = some (.int .i64 6) := ot (by simp; omega) f0'
  have F1 : W4.cell? ⟨w1.heap.size, 1, none⟩ = some (.int .i64 1) := ot (by simp; omega) f1'
  have F2 : W4.cell? ⟨w1.heap.size, 2, none⟩ = some (.int .i64 0) := ot (by simp; omega) f2'
  have F3 : W4.cell? ⟨w1.heap.size, 3, none⟩ = some (.int .i64 4) := ot (by simp; omega) f3'
  have F4 : W4.cell? ⟨w1.heap.size, 4, none⟩ = some (.int .i64 1) := ot (by simp; omega) f4'
  have Z0 : W4.cell? ⟨w.heap.size, 0, none⟩ = some (.int .u8 0) := ot (by simp; omega) z0''
  have K0 : W4.frozen? ⟨w.heap.size, 0, none⟩ = false := of y0''
  have Z1 : W4.cell? ⟨w.heap.size, 1, none⟩ = some (.int .u8 0) := ot (by simp; omega) z1''
  have K1 : W4.frozen? ⟨w.heap.size, 1, none⟩ = false := of y1''
  have Z2 : W4.cell? ⟨w.heap.size, 2, none⟩ = some (.int .u8 0) := ot (by simp; omega) z2''
  have K2 : W4.frozen? ⟨w.heap.size, 2, none⟩ = false := of y2''
  have Z3 : W4.cell? ⟨w.heap.size, 3, none⟩ = some (.int .i32 0) := ot (by simp; omega) z3''
  have K3 : W4.frozen? ⟨w.heap.size, 3, none⟩ = false := of y3''
  have D2 : W4.cell? ⟨blk, off + 2, none⟩ = some (.int .u8 x2) := ot (by simp; omega) U2
  have D3 : W4.cell? ⟨blk, off + 3, none⟩ = some (.int .u8 x3) := ot (by simp; omega) U3
  have D4 : W4.cell? ⟨blk, off + 4, none⟩ = some (.int .u8 x4) := ot (by simp; omega) U4
  have D5 : W4.cell? ⟨blk, off + 5, none⟩ = some (.int .u8 x5) := ot (by simp; omega) U5
  have I0 : W4.cell? ⟨w2.heap.size, 0, none⟩ = some (.int .u8 x0) := by rw [hW4]; go_simp
  have I1 : W4.cell? ⟨w2.heap.size, 1, none⟩ = some (.int .u8 (x1 / 16)) := by rw [hW4]; go_simp
  have I2 : W4.cell? ⟨w2.heap.size, 2, none⟩ = some (.int .u8 (x1 % 16)) := by rw [hW4]; go_simp
  have I3 : W4.cell? ⟨w2.heap.size, 3, none⟩ = some (.int .i32 0) := by rw [hW4]; go_simp
  have J0 : W4.frozen? ⟨w2.heap.size, 0, none⟩ = false := of j0
  have J1 : W4.frozen? ⟨w2.heap.size, 1, none⟩ = false := of j1
  have J2 : W4.frozen? ⟨w2.heap.size, 2, none⟩ = false := of j2
  have J3 : W4.frozen? ⟨w2.heap.size, 3, none⟩ = false := of j3
  have S4 : W4.heap.size = w3.heap.size := by rw [hW4]; simp
  have B4 : Below w.heap.size w W4 := by rw [hW4]; exact (B3.setCell (by simp; omega) _).setCell (by simp; omega) _
  rw [← hW4]
  clear hW4 ot of f0' z0'' y0'' i0 j0 f1' z1'' y1'' i1 j1 f2' z2'' y2'' i2 j2 f3' z3'' y3'' i3 j3 f4' r3 U2 U3 U4 U5
  have s4 : w2.heap.size < W4.heap.size := by omega
  clear S4
  have hN := number_c ⟨6, 1, 0, 4, 1⟩ hFI (w1.heap.size + 1) blk off len cap 2 x2 x3 x4 x5 W4 r4 hlen (by omega) (by simp; omega) (fun _ => D2) (fun _ => D3) (fun _ => D4) (fun _ => D5) b2 b3 b4 b5 (by omega)
  unfold Fm.val at hN
  refine hN.mono ?_
  clear hN
  rintro e w5 ⟨rfl, g5⟩
  obtain ⟨z, hzz⟩ : ∃ z, z = numF ⟨6, 1, 0, 4, 1⟩ x2 x3 x4 x5 := ⟨_, rfl⟩
  rw [← hzz] at H5 hnb ⊢
  have HZ := Lib.hid hzz
  clear hzz
  have F0' := gcell g5 (p := ⟨w1.heap.size, 0, none⟩) (by simp) F0
  have F1' := gcell g5 (p := ⟨w1.heap.size, 1, none⟩) (by simp) F1
  have F2' := gcell g5 (p := ⟨w1.heap.size, 2, none⟩) (by simp) F2
  have F3' := gcell g5 (p := ⟨w1.heap.size, 3, none⟩) (by simp) F3
  have F4' := gcell g5 (p := ⟨w1.heap.size, 4, none⟩) (by simp) F4
  have Z0' := gcell g5 (p := ⟨w.heap.size, 0, none⟩) (by simp; omega) Z0
  have K0' := gfrozen g5 (p := ⟨w.heap.size, 0, none⟩) (by simp; omega) (by simp; omega) K0
  have I0' := gcell g5 (p := ⟨w2.heap.size, 0, none⟩) (by simp; omega) I0
  have J0' := gfrozen g5 (p := ⟨w2.heap.size, 0, none⟩) (by simp; omega) (by simp; omega) J0
  have Z1' := gcell g5 (p := ⟨w.heap.size, 1, none⟩) (by simp; omega) Z1
  have K1' := gfrozen g5 (p := ⟨w.heap.size, 1, none⟩) (by simp; omega) (by simp; omega) K1
  have I1' := gcell g5 (p := ⟨w2.heap.size, 1, none⟩) (by simp; omega) I1
  have J1' := gfrozen g5 (p := ⟨w2.heap.size, 1, none⟩) (by simp; omega) (by simp; omega) J1
  have Z2' := gcell g5 (p := ⟨w.heap.size, 2, none⟩) (by simp; omega) Z2
  have K2' := gfrozen g5 (p := ⟨w.heap.size, 2, none⟩) (by simp; omega) (by simp; omega) K2
  have I2' := gcell g5 (p := ⟨w2.heap.size, 2, none⟩) (by simp; omega) I2
  have J2' := gfrozen g5 (p := ⟨w2.heap.size, 2, none⟩) (by simp; omega) (by simp; omega) J2
  have Z3' := gcell g5 (p := ⟨w.heap.size, 3, none⟩) (by simp; omega) Z3
  have K3' := gfrozen g5 (p := ⟨w.heap.size, 3, none⟩) (by simp; omega) (by simp; omega) K3
  have I3' := gcell g5 (p := ⟨w2.heap.size, 3, none⟩) (by simp; omega) I3
  have J3' := gfrozen g5 (p := ⟨w2.heap.size, 3, none⟩) (by simp; omega) (by simp; omega) J3
  have B5 : Below w.heap.size w w5 := B4.grown g5 (by omega) (fun k hk => by cases hk; omega)
  have s5 : w2.heap.size < w5.heap.size := Nat.lt_of_lt_of_le s4 g5.size
  clear r4 g5 F0 Z0 K0 I0 J0 F1 Z1 K1 I1 J1 F2 Z2 K2 I2 J2 F3 Z3 K3 I3 J3 F4 D2 D3 D4 D5
  have n2 : ¬ w2.heap.size = w.heap.size := by omega
  have n2' : ¬ w.heap.size = w2.heap.size := by omega
  go_wp2_with fail
  refine (H5.out _).mono ?_
  rintro e w6 ⟨rfl, b6⟩
  have s6 : w2.heap.size < w6.heap.size := by have := b6.size; simp at this; omega
  have ot : ∀ {p : Addr} {v : Value}, p.block ≠ w2.heap.size → w5.cell? p = some v → w6.cell? p = some v := fun {p v} h hc => by
    rw [b6.cell (by have := World.block_lt_of_cell? w5 p hc; simpa using this), World.cell?_setCell_other _ _ _ _ (fun e => h (by rw [← e]))]; exact hc
  have of : ∀ {p : Addr}, p.block < w5.heap.size → w5.frozen? p = false → w6.frozen? p = false := fun {p} h hc => by rw [b6.frozen (by simpa using h), World.frozen?_setCell]; exact hc
  have G0 := ot (p := ⟨w1.heap.size, 0, none⟩) (by simp; omega) F0'
  have G1 := ot (p := ⟨w1.heap.size, 1, none⟩) (by simp; omega) F1'
  have G2 := ot (p := ⟨w1.heap.size, 2, none⟩) (by simp; omega) F2'
  have G3 := ot (p := ⟨w1.heap.size, 3, none⟩) (by simp; omega) F3'
  have G4 := ot (p := ⟨w1.heap.size, 4, none⟩) (by simp; omega) F4'
  have M0 := ot (p := ⟨w.heap.size, 0, none⟩) (by simp; omega) Z0'
  have L0 := of (p := ⟨w.heap.size, 0, none⟩) (by simp; omega) K0'
  have M1 := ot (p := ⟨w.heap.size, 1, none⟩) (by simp; omega) Z1'
  have L1 := of (p := ⟨w.heap.size, 1, none⟩) (by simp; omega) K1'
  have M2 := ot (p := ⟨w.heap.size, 2, none⟩) (by simp; omega) Z2'
  have L2 := of (p := ⟨w.heap.size, 2, none⟩) (by simp; omega) K2'
  have M3 := ot (p := ⟨w.heap.size, 3, none⟩) (by simp; omega) Z3'
  have L3 := of (p := ⟨w.heap.size, 3, none⟩) (by simp; omega) K3'
  have O0 : w6.cell? ⟨w2.heap.size, 0, none⟩ = some (.int .u8 x0) := by rw [b6.cell (p := ⟨w2.heap.size, 0, none⟩) (by simpa using s5)]; go_simp
  have O1 : w6.cell? ⟨w2.heap.size, 1, none⟩ = some (.int .u8 (x1 / 16)) := by rw [b6.cell (p := ⟨w2.heap.size, 1, none⟩) (by simpa using s5)]; go_simp
  have O2 : w6.cell? ⟨w2.heap.size, 2, none⟩ = some (.int .u8 (x1 % 16)) := by rw [b6.cell (p := ⟨w2.heap.size, 2, none⟩) (by simpa using s5)]; go_simp
  have O3 : w6.cell? ⟨w2.heap.size, 3, none⟩ = some (.int .i32 z) := by rw [b6.cell (p := ⟨w2.heap.size, 3, none⟩) (by simpa using s5)]; go_simp
  have B6 : Below w.heap.size w w6 := (B5.setCell (by simp; omega) _).trans (b6.mono (by simp; omega))
  clear ot of b6 F0' Z0' K0' I0' J0' F1' Z1' K1' I1' J1' F2' Z2' K2' I2' J2' F3' Z3' K3' I3' J3' F4'
  cases m
  · simp only [Bool.false_eq_true, if_false]
    go_wp2_with fail
    refine bodyPost_ret (v := .tuple #[insV 0 0 0 0, .int .i64 0, .int .i64 21]) ?_ rfl ⟨rfl, ?_⟩
    · unfold insV
      simp [results, Tryz.results66, go_sem, M0, M1, M2, M3]
    · exact (((B6.setCell (by simp) _).setCell (by simp) _).setCell (by simp) _).setCell (by simp) _
  · simp only [if_true]
    go_wp2_with fail
    go_region
    all_goals
      go_wp2_with fail
      refine bodyPost_ret (v := .tuple #[insV x0 (x1 / 16) (x1 % 16) z, .int .i64 6, .int .i64 0]) ?_ rfl ⟨by rw [HZ.out], ?_⟩
      · unfold insV
        simp [results, Tryz.results66, go_sem, M0, M1, M2, M3]
      · first
          | exact ((((B6.drew.setCell (by simp) _).setCell (by simp) _).setCell (by simp) _).setCell (by simp) _)
          | exact ((((B6.setCell (by simp) _).setCell (by simp) _).setCell (by simp) _).setCell (by simp) _).drew

end Go.Proofs.YtnoeeediicaooaaGreatDoor.Isa
