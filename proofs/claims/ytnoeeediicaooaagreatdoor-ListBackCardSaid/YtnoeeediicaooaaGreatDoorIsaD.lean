/- The walks of isa's reader (next) and of number. -/
import Derived.Test.YtnoeeediicaooaaGreatDoorIsaM
import Derived.RegionTactic
import Derived.BigRegion
namespace Go.Proofs.YtnoeeediicaooaaGreatDoor.Isa
open Go.RowKit
set_option linter.unusedSimpArgs false
set_option linter.unusedVariables false

/-- The bytes L lie at a place. -/
def BytesAt (w : World) (blk off : Nat) (L : List Int) : Prop := ∀ i, i < L.length → w.cell? ⟨blk, off + i, none⟩ = some (.int .u8 (L.getD i 0))

/-- A reader over these bytes, k of them handed out. -/
def ReaderAt (w : World) (rb blk off len cap k : Nat) : Prop :=
  w.cell? ⟨rb, 0, none⟩ = some (.slice (some ⟨blk, off, none⟩) len cap) ∧ w.cell? ⟨rb, 1, none⟩ = some (.int .i64 k) ∧ w.frozen? ⟨rb, 1, none⟩ = false

def NextPost (rb blk off len cap k : Nat) (x : Int) (w : World) (e : Ending) (w' : World) : Prop :=
  e = .returned (.int .u8 x) ∧ w.grownBy w' (some rb) ∧ ReaderAt w' rb blk off len cap (k + 1)

theorem grownBy_setCell (w : World) (p : Addr) (v : Value) : w.grownBy (w.setCell p v).drew (some p.block) := by
  refine ⟨rfl, rfl, rfl, ?_, fun k hk hne => ?_⟩
  · simp
  · exact Below.heap_setCell w p v k (fun h => hne (by rw [h]))

set_option maxHeartbeats 1000000 in
theorem next_c (rb blk off len cap k : Nat) (x : Int) (w : World) (hr : ReaderAt w rb blk off len cap k) (hk : k < len) (hlen : len ≤ 9223372036854775807) (hne : rb ≠ blk) (hx : w.cell? ⟨blk, off + k, none⟩ = some (.int .u8 x)) :
    Calls Tryz.prog 82 #[.pointer (some ⟨rb, 0, none⟩)] w (NextPost rb blk off len cap k x w) := by
  obtain ⟨h0, h1, hf⟩ := hr
  have hlt : (k : Int) < (len : Int) := by omega
  have hk0 : (0 : Int) ≤ (k : Int) := by omega
  have hne' : ¬ rb = blk := hne
  have hx' : (w.setCell ⟨rb, 1, none⟩ (.int .i64 ((k : Int) + 1))).cell? ⟨blk, off + k, none⟩ = some (.int .u8 x) := by
    rw [World.cell?_setCell_other _ _ _ _ (by simp [hne])]; exact hx
  go_enter Tryz.func82, Tryz.ntmps82
  go_wp2
  go_region
  all_goals
    go_wp2
    go_ret
    refine ⟨rfl, grownBy_setCell w ⟨rb, 1, none⟩ _, ?_, ?_, ?_⟩
    · exact (World.cell?_setCell_other _ _ _ _ (by simp)).trans h0
    · exact (World.cell?_setCell_same _ _ _ h1).trans (by simp)
    · exact (World.frozen?_setCell _ _ _ _).trans hf

/-- The number that bytes are, of a form. -/
def numF (f : Fm) (x0 x1 x2 x3 : Int) : Int :=
  if f.k = 0 then 0 else if f.k = 1 then (if f.s = 1 ∧ 128 ≤ x0 then x0 - 256 else x0)
  else if f.k = 2 then (if f.s = 1 ∧ 32768 ≤ x0 + 256 * x1 then x0 + 256 * x1 - 65536 else x0 + 256 * x1)
  else (if f.s = 1 ∧ 2147483648 ≤ x0 + 256 * x1 + 65536 * x2 + 16777216 * x3 then x0 + 256 * x1 + 65536 * x2 + 16777216 * x3 - 4294967296 else x0 + 256 * x1 + 65536 * x2 + 16777216 * x3)

def NumPost (rb blk off len cap k : Nat) (f : Fm) (z : Int) (w : World) (e : Ending) (w' : World) : Prop :=
  e = .returned (.int .i32 z) ∧ w.grownBy w' (some rb)

theorem grownBy_trans {a b c : World} {r : Option Nat} (h : a.grownBy b r) (k : b.grownBy c r) : a.grownBy c r :=
  ⟨k.os.trans h.os, k.tape.trans h.tape, k.output.trans h.output, Nat.le_trans h.size k.size, fun i hi hne => (k.block i (Nat.lt_of_lt_of_le hi h.size) hne).trans (h.block i hi hne)⟩
theorem grownBy_alloc (w : World) (o : Obj) (r : Option Nat) : w.grownBy (w.alloc o) r :=
  ⟨rfl, rfl, rfl, by simp, fun k hk _ => Below.heap_alloc w o k hk⟩
theorem gcell {w w' : World} {rb : Nat} (h : w.grownBy w' (some rb)) {p : Addr} {v : Value} (hp : p.block ≠ rb) (hc : w.cell? p = some v) : w'.cell? p = some v := by
  rw [World.cell?_of_block (h.block p.block (World.block_lt_of_cell? w p hc) (by simp [hp]))]; exact hc

theorem cell_past {w : World} {b o : Nat} (h : b < w.heap.size) (x : Obj) : (w.alloc x).cell? ⟨b, o, none⟩ = w.cell? ⟨b, o, none⟩ := World.cell?_of_block (Below.heap_alloc w x b h)
theorem frozen_past {w : World} {b o : Nat} (h : b < w.heap.size) (x : Obj) : (w.alloc x).frozen? ⟨b, o, none⟩ = w.frozen? ⟨b, o, none⟩ := World.frozen?_of_block (Below.heap_alloc w x b h)

theorem or0 {x : Int} (h0 : 0 ≤ x) (h1 : x < 4294967296) : bits .or .u32 0 x = x := by
  rw [u32_or _ _ (by omega) (by omega) h0 h1]; simp; omega
theorem or8 {x y : Int} (h0 : 0 ≤ x) (h1 : x < 256) (h2 : 0 ≤ y) (h3 : y < 256) : bits .or .u32 x (y * 256) = x + y * 256 := by
  rw [u32_or _ _ (by omega) (by omega) (by omega) (by omega), Nat.or_comm, nat_join 8 _ _ (by omega) (by omega)]; omega
theorem or16 {x y : Int} (h0 : 0 ≤ x) (h1 : x < 65536) (h2 : 0 ≤ y) (h3 : y < 256) : bits .or .u32 x (y * 65536) = x + y * 65536 := by
  rw [u32_or _ _ (by omega) (by omega) (by omega) (by omega), Nat.or_comm, nat_join 16 _ _ (by omega) (by omega)]; omega
theorem or24 {x y : Int} (h0 : 0 ≤ x) (h1 : x < 16777216) (h2 : 0 ≤ y) (h3 : y < 256) : bits .or .u32 x (y * 16777216) = x + y * 16777216 := by
  rw [u32_or _ _ (by omega) (by omega) (by omega) (by omega), Nat.or_comm, nat_join 24 _ _ (by omega) (by omega)]; omega

set_option maxHeartbeats 4000000 in
theorem number_c (f : Fm) (hF : fmIs f) (rb blk off len cap k : Nat) (x0 x1 x2 x3 : Int) (w : World) (hr : ReaderAt w rb blk off len cap k) (hlen : len ≤ 9223372036854775807) (hne : rb ≠ blk) (hk : k + f.k.toNat ≤ len)
    (hx0 : 0 < f.k → w.cell? ⟨blk, off + k, none⟩ = some (.int .u8 x0)) (hx1 : 1 < f.k → w.cell? ⟨blk, off + (k + 1), none⟩ = some (.int .u8 x1)) (hx2 : 2 < f.k → w.cell? ⟨blk, off + (k + 1 + 1), none⟩ = some (.int .u8 x2)) (hx3 : 3 < f.k → w.cell? ⟨blk, off + (k + 1 + 1 + 1), none⟩ = some (.int .u8 x3))
    (b0 : 0 ≤ x0 ∧ x0 < 256) (b1 : 0 ≤ x1 ∧ x1 < 256) (b2 : 0 ≤ x2 ∧ x2 < 256) (b3 : 0 ≤ x3 ∧ x3 < 256) (hrb : rb < w.heap.size) :
    Calls Tryz.prog 83 #[f.val, .func (.func 82) #[.pointer (some ⟨rb, 0, none⟩)] #[]] w (NumPost rb blk off len cap k f (numF f x0 x1 x2 x3) w) := by
  have HR := Lib.hid hr
  have H0 := Lib.hid hx0
  have H1 := Lib.hid hx1
  have H2 := Lib.hid hx2
  have H3 := Lib.hid hx3
  clear hr hx0 hx1 hx2 hx3
  rcases hF with rfl | rfl | rfl | rfl | rfl | rfl | rfl | rfl | rfl | rfl
  next =>
    unfold Fm.val
    have hblk : blk < w.heap.size ∨ 0 = 0 := by first | exact .inr rfl | exact .inl (World.block_lt_of_cell? w _ (H0.out (by decide)))
    have hfb : (w.heap.size : Nat) ≠ rb := by omega
    go_enter Tryz.func83, Tryz.ntmps83
    go_wp2_with fail
    refine wp_loop_rounds 6 ?_
    rw [rounds_succ]
    go_wp2_with fail
    go_ret
    refine ⟨ret_int ?_, (grownBy_alloc _ _ _)⟩
    simp only [numF]
    rfl
  next =>
    unfold Fm.val
    have hblk : blk < w.heap.size ∨ 0 = 0 := by first | exact .inr rfl | exact .inl (World.block_lt_of_cell? w _ (H0.out (by decide)))
    have hfb : (w.heap.size : Nat) ≠ rb := by omega
    go_enter Tryz.func83, Tryz.ntmps83
    go_wp2_with fail
    refine wp_loop_rounds 6 ?_
    rw [rounds_succ]
    go_wp2_with fail
    go_ret
    refine ⟨ret_int ?_, (grownBy_alloc _ _ _)⟩
    simp only [numF]
    rfl
  next =>
    unfold Fm.val
    have hblk : blk < w.heap.size ∨ 0 = 0 := by first | exact .inr rfl | exact .inl (World.block_lt_of_cell? w _ (H0.out (by decide)))
    have hfb : (w.heap.size : Nat) ≠ rb := by omega
    go_enter Tryz.func83, Tryz.ntmps83
    go_wp2_with fail
    refine wp_loop_rounds 6 ?_
    rw [rounds_succ]
    go_wp2_with fail
    go_ret
    refine ⟨ret_int ?_, (grownBy_alloc _ _ _)⟩
    simp only [numF]
    rfl
  next =>
    unfold Fm.val
    have hblk : blk < w.heap.size ∨ 0 = 0 := by first | exact .inr rfl | exact .inl (World.block_lt_of_cell? w _ (H0.out (by decide)))
    have hfb : (w.heap.size : Nat) ≠ rb := by omega
    go_enter Tryz.func83, Tryz.ntmps83
    go_wp2_with fail
    refine wp_loop_rounds 6 ?_
    rw [rounds_succ]
    go_wp2_with fail
    go_ret
    refine ⟨ret_int ?_, (grownBy_alloc _ _ _)⟩
    simp only [numF]
    rfl
  next =>
    unfold Fm.val
    have hblk : blk < w.heap.size ∨ 0 = 1 := by first | exact .inr rfl | exact .inl (World.block_lt_of_cell? w _ (H0.out (by decide)))
    have hfb : (w.heap.size : Nat) ≠ rb := by omega
    go_enter Tryz.func83, Tryz.ntmps83
    go_wp2_with fail
    refine wp_loop_rounds 6 ?_
    rw [rounds_succ]
    go_wp2_with fail
    have f3 : (w.alloc (.cells #[.int .i64 2, .int .i64 0, .int .i64 0, .int .i64 1, .int .i64 0] 108)).cell? ⟨w.heap.size, 3, none⟩ = some (.int .i64 1) := by go_simp
    have f4 : (w.alloc (.cells #[.int .i64 2, .int .i64 0, .int .i64 0, .int .i64 1, .int .i64 0] 108)).cell? ⟨w.heap.size, 4, none⟩ = some (.int .i64 0) := by go_simp
    generalize hW0 : w.alloc _ = W0 at f3 f4 ⊢
    have g0 : w.grownBy W0 (some rb) := by rw [← hW0]; exact grownBy_alloc _ _ _
    have r0 : ReaderAt W0 rb blk off len cap k := by
      rw [← hW0]
      obtain ⟨a1, a2, a3⟩ := HR.out
      exact ⟨(cell_past hrb _).trans a1, (cell_past hrb _).trans a2, (frozen_past hrb _).trans a3⟩
    have x0_0 : W0.cell? ⟨blk, off + k, none⟩ = some (.int .u8 x0) := by
      rw [← hW0]
      exact (cell_past (by omega) _).trans (H0.out (by decide))
    clear hW0
    refine (next_c rb blk off len cap (k) x0 _ r0 (by simp at hk; omega) hlen hne x0_0).mono ?_
    rintro e W1 ⟨rfl, n1, r1⟩
    have g1 := grownBy_trans g0 n1
    have f3_1 := gcell n1 (p := ⟨w.heap.size, 3, none⟩) hfb f3
    have f4_1 := gcell n1 (p := ⟨w.heap.size, 4, none⟩) hfb f4
    go_wp2_with fail
    rw [rounds_succ]
    go_wp2_with fail
    go_ret
    refine ⟨ret_int ?_, g1⟩
    simp only [numF]
    rw [or0 b0.1 (by omega)]
    simp only [wrap32]
    obtain ⟨b00, b01⟩ := b0
    obtain ⟨b10, b11⟩ := b1
    obtain ⟨b20, b21⟩ := b2
    obtain ⟨b30, b31⟩ := b3
    simp
    try split
    all_goals omega
  next =>
    unfold Fm.val
    have hblk : blk < w.heap.size ∨ 0 = 1 := by first | exact .inr rfl | exact .inl (World.block_lt_of_cell? w _ (H0.out (by decide)))
    have hfb : (w.heap.size : Nat) ≠ rb := by omega
    go_enter Tryz.func83, Tryz.ntmps83
    go_wp2_with fail
    refine wp_loop_rounds 6 ?_
    rw [rounds_succ]
    go_wp2_with fail
    have f3 : (w.alloc (.cells #[.int .i64 3, .int .i64 1, .int .i64 0, .int .i64 1, .int .i64 1] 108)).cell? ⟨w.heap.size, 3, none⟩ = some (.int .i64 1) := by go_simp
    have f4 : (w.alloc (.cells #[.int .i64 3, .int .i64 1, .int .i64 0, .int .i64 1, .int .i64 1] 108)).cell? ⟨w.heap.size, 4, none⟩ = some (.int .i64 1) := by go_simp
    generalize hW0 : w.alloc _ = W0 at f3 f4 ⊢
    have g0 : w.grownBy W0 (some rb) := by rw [← hW0]; exact grownBy_alloc _ _ _
    have r0 : ReaderAt W0 rb blk off len cap k := by
      rw [← hW0]
      obtain ⟨a1, a2, a3⟩ := HR.out
      exact ⟨(cell_past hrb _).trans a1, (cell_past hrb _).trans a2, (frozen_past hrb _).trans a3⟩
    have x0_0 : W0.cell? ⟨blk, off + k, none⟩ = some (.int .u8 x0) := by
      rw [← hW0]
      exact (cell_past (by omega) _).trans (H0.out (by decide))
    clear hW0
    refine (next_c rb blk off len cap (k) x0 _ r0 (by simp at hk; omega) hlen hne x0_0).mono ?_
    rintro e W1 ⟨rfl, n1, r1⟩
    have g1 := grownBy_trans g0 n1
    have f3_1 := gcell n1 (p := ⟨w.heap.size, 3, none⟩) hfb f3
    have f4_1 := gcell n1 (p := ⟨w.heap.size, 4, none⟩) hfb f4
    go_wp2_with fail
    rw [rounds_succ]
    go_wp2_with fail
    go_ret
    refine ⟨ret_int ?_, g1⟩
    simp only [numF]
    rw [or0 b0.1 (by omega)]
    simp only [wrap32]
    obtain ⟨b00, b01⟩ := b0
    obtain ⟨b10, b11⟩ := b1
    obtain ⟨b20, b21⟩ := b2
    obtain ⟨b30, b31⟩ := b3
    simp
    try split
    all_goals omega
  next =>
    unfold Fm.val
    have hblk : blk < w.heap.size ∨ 0 = 1 := by first | exact .inr rfl | exact .inl (World.block_lt_of_cell? w _ (H0.out (by decide)))
    have hfb : (w.heap.size : Nat) ≠ rb := by omega
    go_enter Tryz.func83, Tryz.ntmps83
    go_wp2_with fail
    refine wp_loop_rounds 6 ?_
    rw [rounds_succ]
    go_wp2_with fail
    have f3 : (w.alloc (.cells #[.int .i64 3, .int .i64 1, .int .i64 1, .int .i64 1, .int .i64 1] 108)).cell? ⟨w.heap.size, 3, none⟩ = some (.int .i64 1) := by go_simp
    have f4 : (w.alloc (.cells #[.int .i64 3, .int .i64 1, .int .i64 1, .int .i64 1, .int .i64 1] 108)).cell? ⟨w.heap.size, 4, none⟩ = some (.int .i64 1) := by go_simp
    generalize hW0 : w.alloc _ = W0 at f3 f4 ⊢
    have g0 : w.grownBy W0 (some rb) := by rw [← hW0]; exact grownBy_alloc _ _ _
    have r0 : ReaderAt W0 rb blk off len cap k := by
      rw [← hW0]
      obtain ⟨a1, a2, a3⟩ := HR.out
      exact ⟨(cell_past hrb _).trans a1, (cell_past hrb _).trans a2, (frozen_past hrb _).trans a3⟩
    have x0_0 : W0.cell? ⟨blk, off + k, none⟩ = some (.int .u8 x0) := by
      rw [← hW0]
      exact (cell_past (by omega) _).trans (H0.out (by decide))
    clear hW0
    refine (next_c rb blk off len cap (k) x0 _ r0 (by simp at hk; omega) hlen hne x0_0).mono ?_
    rintro e W1 ⟨rfl, n1, r1⟩
    have g1 := grownBy_trans g0 n1
    have f3_1 := gcell n1 (p := ⟨w.heap.size, 3, none⟩) hfb f3
    have f4_1 := gcell n1 (p := ⟨w.heap.size, 4, none⟩) hfb f4
    go_wp2_with fail
    rw [rounds_succ]
    go_wp2_with fail
    go_ret
    refine ⟨ret_int ?_, g1⟩
    simp only [numF]
    rw [or0 b0.1 (by omega)]
    simp only [wrap32]
    obtain ⟨b00, b01⟩ := b0
    obtain ⟨b10, b11⟩ := b1
    obtain ⟨b20, b21⟩ := b2
    obtain ⟨b30, b31⟩ := b3
    simp
    try split
    all_goals omega
  next =>
    unfold Fm.val
    have hblk : blk < w.heap.size ∨ 0 = 2 := by first | exact .inr rfl | exact .inl (World.block_lt_of_cell? w _ (H0.out (by decide)))
    have hfb : (w.heap.size : Nat) ≠ rb := by omega
    go_enter Tryz.func83, Tryz.ntmps83
    go_wp2_with fail
    refine wp_loop_rounds 6 ?_
    rw [rounds_succ]
    go_wp2_with fail
    have f3 : (w.alloc (.cells #[.int .i64 3, .int .i64 0, .int .i64 0, .int .i64 2, .int .i64 1] 108)).cell? ⟨w.heap.size, 3, none⟩ = some (.int .i64 2) := by go_simp
    have f4 : (w.alloc (.cells #[.int .i64 3, .int .i64 0, .int .i64 0, .int .i64 2, .int .i64 1] 108)).cell? ⟨w.heap.size, 4, none⟩ = some (.int .i64 1) := by go_simp
    generalize hW0 : w.alloc _ = W0 at f3 f4 ⊢
    have g0 : w.grownBy W0 (some rb) := by rw [← hW0]; exact grownBy_alloc _ _ _
    have r0 : ReaderAt W0 rb blk off len cap k := by
      rw [← hW0]
      obtain ⟨a1, a2, a3⟩ := HR.out
      exact ⟨(cell_past hrb _).trans a1, (cell_past hrb _).trans a2, (frozen_past hrb _).trans a3⟩
    have x0_0 : W0.cell? ⟨blk, off + k, none⟩ = some (.int .u8 x0) := by
      rw [← hW0]
      exact (cell_past (by omega) _).trans (H0.out (by decide))
    have x1_0 : W0.cell? ⟨blk, off + (k + 1), none⟩ = some (.int .u8 x1) := by
      rw [← hW0]
      exact (cell_past (by omega) _).trans (H1.out (by decide))
    clear hW0
    refine (next_c rb blk off len cap (k) x0 _ r0 (by simp at hk; omega) hlen hne x0_0).mono ?_
    rintro e W1 ⟨rfl, n1, r1⟩
    have g1 := grownBy_trans g0 n1
    have f3_1 := gcell n1 (p := ⟨w.heap.size, 3, none⟩) hfb f3
    have f4_1 := gcell n1 (p := ⟨w.heap.size, 4, none⟩) hfb f4
    have x1_1 := gcell n1 (Ne.symm hne) x1_0
    go_wp2_with fail
    rw [rounds_succ]
    go_wp2_with fail
    refine (next_c rb blk off len cap (k + 1) x1 _ r1 (by simp at hk; omega) hlen hne x1_1).mono ?_
    rintro e W2 ⟨rfl, n2, r2⟩
    have g2 := grownBy_trans g1 n2
    have f3_2 := gcell n2 (p := ⟨w.heap.size, 3, none⟩) hfb f3_1
    have f4_2 := gcell n2 (p := ⟨w.heap.size, 4, none⟩) hfb f4_1
    go_wp2_with fail
    rw [rounds_succ]
    go_wp2_with fail
    go_ret
    refine ⟨ret_int ?_, g2⟩
    simp only [numF]
    rw [or0 b0.1 (by omega), or8 b0.1 b0.2 b1.1 b1.2]
    simp only [wrap32]
    obtain ⟨b00, b01⟩ := b0
    obtain ⟨b10, b11⟩ := b1
    obtain ⟨b20, b21⟩ := b2
    obtain ⟨b30, b31⟩ := b3
    simp
    try split
    all_goals omega
  next =>
    unfold Fm.val
    have hblk : blk < w.heap.size ∨ 0 = 2 := by first | exact .inr rfl | exact .inl (World.block_lt_of_cell? w _ (H0.out (by decide)))
    have hfb : (w.heap.size : Nat) ≠ rb := by omega
    go_enter Tryz.func83, Tryz.ntmps83
    go_wp2_with fail
    refine wp_loop_rounds 6 ?_
    rw [rounds_succ]
    go_wp2_with fail
    have f3 : (w.alloc (.cells #[.int .i64 3, .int .i64 0, .int .i64 0, .int .i64 2, .int .i64 0] 108)).cell? ⟨w.heap.size, 3, none⟩ = some (.int .i64 2) := by go_simp
    have f4 : (w.alloc (.cells #[.int .i64 3, .int .i64 0, .int .i64 0, .int .i64 2, .int .i64 0] 108)).cell? ⟨w.heap.size, 4, none⟩ = some (.int .i64 0) := by go_simp
    generalize hW0 : w.alloc _ = W0 at f3 f4 ⊢
    have g0 : w.grownBy W0 (some rb) := by rw [← hW0]; exact grownBy_alloc _ _ _
    have r0 : ReaderAt W0 rb blk off len cap k := by
      rw [← hW0]
      obtain ⟨a1, a2, a3⟩ := HR.out
      exact ⟨(cell_past hrb _).trans a1, (cell_past hrb _).trans a2, (frozen_past hrb _).trans a3⟩
    have x0_0 : W0.cell? ⟨blk, off + k, none⟩ = some (.int .u8 x0) := by
      rw [← hW0]
      exact (cell_past (by omega) _).trans (H0.out (by decide))
    have x1_0 : W0.cell? ⟨blk, off + (k + 1), none⟩ = some (.int .u8 x1) := by
      rw [← hW0]
      exact (cell_past (by omega) _).trans (H1.out (by decide))
    clear hW0
    refine (next_c rb blk off len cap (k) x0 _ r0 (by simp at hk; omega) hlen hne x0_0).mono ?_
    rintro e W1 ⟨rfl, n1, r1⟩
    have g1 := grownBy_trans g0 n1
    have f3_1 := gcell n1 (p := ⟨w.heap.size, 3, none⟩) hfb f3
    have f4_1 := gcell n1 (p := ⟨w.heap.size, 4, none⟩) hfb f4
    have x1_1 := gcell n1 (Ne.symm hne) x1_0
    go_wp2_with fail
    rw [rounds_succ]
    go_wp2_with fail
    refine (next_c rb blk off len cap (k + 1) x1 _ r1 (by simp at hk; omega) hlen hne x1_1).mono ?_
    rintro e W2 ⟨rfl, n2, r2⟩
    have g2 := grownBy_trans g1 n2
    have f3_2 := gcell n2 (p := ⟨w.heap.size, 3, none⟩) hfb f3_1
    have f4_2 := gcell n2 (p := ⟨w.heap.size, 4, none⟩) hfb f4_1
    go_wp2_with fail
    rw [rounds_succ]
    go_wp2_with fail
    go_ret
    refine ⟨ret_int ?_, g2⟩
    simp only [numF]
    rw [or0 b0.1 (by omega), or8 b0.1 b0.2 b1.1 b1.2]
    simp only [wrap32]
    obtain ⟨b00, b01⟩ := b0
    obtain ⟨b10, b11⟩ := b1
    obtain ⟨b20, b21⟩ := b2
    obtain ⟨b30, b31⟩ := b3
    simp
    try split
    all_goals omega
  next =>
    unfold Fm.val
    have hblk : blk < w.heap.size ∨ 0 = 4 := by first | exact .inr rfl | exact .inl (World.block_lt_of_cell? w _ (H0.out (by decide)))
    have hfb : (w.heap.size : Nat) ≠ rb := by omega
    go_enter Tryz.func83, Tryz.ntmps83
    go_wp2_with fail
    refine wp_loop_rounds 6 ?_
    rw [rounds_succ]
    go_wp2_with fail
    have f3 : (w.alloc (.cells #[.int .i64 6, .int .i64 1, .int .i64 0, .int .i64 4, .int .i64 1] 108)).cell? ⟨w.heap.size, 3, none⟩ = some (.int .i64 4) := by go_simp
    have f4 : (w.alloc (.cells #[.int .i64 6, .int .i64 1, .int .i64 0, .int .i64 4, .int .i64 1] 108)).cell? ⟨w.heap.size, 4, none⟩ = some (.int .i64 1) := by go_simp
    generalize hW0 : w.alloc _ = W0 at f3 f4 ⊢
    have g0 : w.grownBy W0 (some rb) := by rw [← hW0]; exact grownBy_alloc _ _ _
    have r0 : ReaderAt W0 rb blk off len cap k := by
      rw [← hW0]
      obtain ⟨a1, a2, a3⟩ := HR.out
      exact ⟨(cell_past hrb _).trans a1, (cell_past hrb _).trans a2, (frozen_past hrb _).trans a3⟩
    have x0_0 : W0.cell? ⟨blk, off + k, none⟩ = some (.int .u8 x0) := by
      rw [← hW0]
      exact (cell_past (by omega) _).trans (H0.out (by decide))
    have x1_0 : W0.cell? ⟨blk, off + (k + 1), none⟩ = some (.int .u8 x1) := by
      rw [← hW0]
      exact (cell_past (by omega) _).trans (H1.out (by decide))
    have x2_0 : W0.cell? ⟨blk, off + (k + 1 + 1), none⟩ = some (.int .u8 x2) := by
      rw [← hW0]
      exact (cell_past (by omega) _).trans (H2.out (by decide))
    have x3_0 : W0.cell? ⟨blk, off + (k + 1 + 1 + 1), none⟩ = some (.int .u8 x3) := by
      rw [← hW0]
      exact (cell_past (by omega) _).trans (H3.out (by decide))
    clear hW0
    refine (next_c rb blk off len cap (k) x0 _ r0 (by simp at hk; omega) hlen hne x0_0).mono ?_
    rintro e W1 ⟨rfl, n1, r1⟩
    have g1 := grownBy_trans g0 n1
    have f3_1 := gcell n1 (p := ⟨w.heap.size, 3, none⟩) hfb f3
    have f4_1 := gcell n1 (p := ⟨w.heap.size, 4, none⟩) hfb f4
    have x1_1 := gcell n1 (Ne.symm hne) x1_0
    have x2_1 := gcell n1 (Ne.symm hne) x2_0
    have x3_1 := gcell n1 (Ne.symm hne) x3_0
    go_wp2_with fail
    rw [rounds_succ]
    go_wp2_with fail
    refine (next_c rb blk off len cap (k + 1) x1 _ r1 (by simp at hk; omega) hlen hne x1_1).mono ?_
    rintro e W2 ⟨rfl, n2, r2⟩
    have g2 := grownBy_trans g1 n2
    have f3_2 := gcell n2 (p := ⟨w.heap.size, 3, none⟩) hfb f3_1
    have f4_2 := gcell n2 (p := ⟨w.heap.size, 4, none⟩) hfb f4_1
    have x2_2 := gcell n2 (Ne.symm hne) x2_1
    have x3_2 := gcell n2 (Ne.symm hne) x3_1
    go_wp2_with fail
    rw [rounds_succ]
    go_wp2_with fail
    refine (next_c rb blk off len cap (k + 1 + 1) x2 _ r2 (by simp at hk; omega) hlen hne x2_2).mono ?_
    rintro e W3 ⟨rfl, n3, r3⟩
    have g3 := grownBy_trans g2 n3
    have f3_3 := gcell n3 (p := ⟨w.heap.size, 3, none⟩) hfb f3_2
    have f4_3 := gcell n3 (p := ⟨w.heap.size, 4, none⟩) hfb f4_2
    have x3_3 := gcell n3 (Ne.symm hne) x3_2
    go_wp2_with fail
    rw [rounds_succ]
    go_wp2_with fail
    refine (next_c rb blk off len cap (k + 1 + 1 + 1) x3 _ r3 (by simp at hk; omega) hlen hne x3_3).mono ?_
    rintro e W4 ⟨rfl, n4, r4⟩
    have g4 := grownBy_trans g3 n4
    have f3_4 := gcell n4 (p := ⟨w.heap.size, 3, none⟩) hfb f3_3
    have f4_4 := gcell n4 (p := ⟨w.heap.size, 4, none⟩) hfb f4_3
    go_wp2_with fail
    rw [rounds_succ]
    go_wp2_with fail
    go_ret
    refine ⟨ret_int ?_, g4⟩
    simp only [numF]
    rw [or0 b0.1 (by omega), or8 b0.1 b0.2 b1.1 b1.2, or16 (by omega) (by omega) b2.1 b2.2, or24 (by omega) (by omega) b3.1 b3.2]
    simp only [wrap32]
    obtain ⟨b00, b01⟩ := b0
    obtain ⟨b10, b11⟩ := b1
    obtain ⟨b20, b21⟩ := b2
    obtain ⟨b30, b31⟩ := b3
    simp
    try split
    all_goals omega
end Go.Proofs.YtnoeeediicaooaaGreatDoor.Isa
