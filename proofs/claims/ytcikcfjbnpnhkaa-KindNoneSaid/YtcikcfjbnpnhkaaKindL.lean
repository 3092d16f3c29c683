/- The walk of KindNone. (Written by mkKL.py.) -/
import Derived.Test.YtcikcfjbnpnhkaaKindK
import Derived.Test.YtcikcfjbnpnhkaaFlat
namespace Go.Proofs.Ytcikcfjbnpnhkaa
open Go.RowKit
set_option linter.unusedSimpArgs false
set_option linter.unusedVariables false

theorem below_of {w w' : World} (h : w.grownBy w' none) : Below w.heap.size w w' := ⟨h.os, h.tape, h.output, h.size, fun k hk => h.block k hk (by simp)⟩

theorem reads0 (m : Bool) (a b : Int) : readsF ⟨0, []⟩ m a b = 0 := by
  unfold readsF
  cases m <;> rfl
theorem writes0 (m : Bool) (a b : Int) : writesF ⟨0, []⟩ m a b = 0 := by
  unfold writesF
  cases m <;> rfl

set_option maxHeartbeats 8000000 in
theorem kindNone_in (op a b imm : Int) (w : World) (h0 : 0 ≤ op) (h1 : op < 256) (h2 : 0 ≤ a) (h3 : a < 256) (h4 : 0 ≤ b) (h5 : b < 256) (h6 : -2147483648 ≤ imm) (h7 : imm < 2147483648) :
    Calls Try.prog 8 #[Isa.insV op a b imm] w fun e w' => e = .returned (.bool true) ∧ Below w.heap.size w w' := by
  have e0 : (knownF 0).cls = 1 := by decide +kernel
  have HC0 := Lib.hid fun (tb : Nat) (w : World) (h : TabIs w tb) => class_c tb 0 w h (by decide) (by decide)
  rw [e0] at HC0
  have HN := Lib.hid new_c
  have HNClass := Lib.hid (fun (w : World) (h : True) => show Calls Try.prog 11 #[.pointer none, .int .u8 op] w (fun e w' => e = .returned (.int .i64 0) ∧ Below w.heap.size w w') from (tl_class tl_none op w h h0 h1).mono fun _ _ ⟨e, _, g⟩ => ⟨e, below_of g⟩)
  have HNReads := Lib.hid (fun (w : World) (h : True) => show Calls Try.prog 17 #[.pointer none, .agg #[.int .u8 op, .int .u8 a, .int .u8 b, .int .i32 imm]] w (fun e w' => e = .returned (.int .u8 0) ∧ Below w.heap.size w w') from (tl_reads tl_none op a b imm w h h0 h1 h2 h3 h4 h5 h6 h7 (fun k hk => by cases hk)).mono fun _ _ ⟨e, _, g⟩ => ⟨e.trans (by rw [reads0]), below_of g⟩)
  have HNWrites := Lib.hid (fun (w : World) (h : True) => show Calls Try.prog 18 #[.pointer none, .agg #[.int .u8 op, .int .u8 a, .int .u8 b, .int .i32 imm]] w (fun e w' => e = .returned (.int .u8 0) ∧ Below w.heap.size w w') from (tl_writes tl_none op a b imm w h h0 h1 h2 h3 h4 h5 h6 h7 (fun k hk => by cases hk)).mono fun _ _ ⟨e, _, g⟩ => ⟨e.trans (by rw [writes0]), below_of g⟩)
  have HNTurns := Lib.hid (fun (w : World) (h : True) => show Calls Try.prog 13 #[.pointer none, .int .u8 op] w (fun e w' => e = .returned (.bool false) ∧ Below w.heap.size w w') from (tl_turns tl_none op w h h0 h1).mono fun _ _ ⟨e, _, g⟩ => ⟨e, below_of g⟩)
  have HNFails := Lib.hid (fun (w : World) (h : True) => show Calls Try.prog 14 #[.pointer none, .int .u8 op] w (fun e w' => e = .returned (.bool false) ∧ Below w.heap.size w w') from (tl_fails tl_none op w h h0 h1).mono fun _ _ ⟨e, _, g⟩ => ⟨e, below_of g⟩)
  have HNSilent := Lib.hid (fun (w : World) (h : True) => show Calls Try.prog 15 #[.pointer none, .int .u8 op] w (fun e w' => e = .returned (.bool false) ∧ Below w.heap.size w w') from (tl_silent tl_none op w h h0 h1).mono fun _ _ ⟨e, _, g⟩ => ⟨e, below_of g⟩)
  have HNEnds := Lib.hid (fun (w : World) (h : True) => show Calls Try.prog 12 #[.pointer none, .int .u8 op] w (fun e w' => e = .returned (.bool false) ∧ Below w.heap.size w w') from (tl_ends tl_none op w h h0 h1).mono fun _ _ ⟨e, _, g⟩ => ⟨e, below_of g⟩)
  have HUClass := Lib.hid (fun (ub : Nat) (w : World) (h : w.cell? ⟨ub, 0, none⟩ = some (.bool false)) => show Calls Try.prog 11 #[.pointer (some ⟨ub, 0, none⟩), .int .u8 op] w (fun e w' => e = .returned (.int .i64 0) ∧ Below w.heap.size w w') from (tl_class (tl_unmade ub) op w h h0 h1).mono fun _ _ ⟨e, _, g⟩ => ⟨e, below_of g⟩)
  have HUReads := Lib.hid (fun (ub : Nat) (w : World) (h : w.cell? ⟨ub, 0, none⟩ = some (.bool false)) => show Calls Try.prog 17 #[.pointer (some ⟨ub, 0, none⟩), .agg #[.int .u8 op, .int .u8 a, .int .u8 b, .int .i32 imm]] w (fun e w' => e = .returned (.int .u8 0) ∧ Below w.heap.size w w') from (tl_reads (tl_unmade ub) op a b imm w h h0 h1 h2 h3 h4 h5 h6 h7 (fun k hk => by cases hk)).mono fun _ _ ⟨e, _, g⟩ => ⟨e.trans (by rw [reads0]), below_of g⟩)
  have HUWrites := Lib.hid (fun (ub : Nat) (w : World) (h : w.cell? ⟨ub, 0, none⟩ = some (.bool false)) => show Calls Try.prog 18 #[.pointer (some ⟨ub, 0, none⟩), .agg #[.int .u8 op, .int .u8 a, .int .u8 b, .int .i32 imm]] w (fun e w' => e = .returned (.int .u8 0) ∧ Below w.heap.size w w') from (tl_writes (tl_unmade ub) op a b imm w h h0 h1 h2 h3 h4 h5 h6 h7 (fun k hk => by cases hk)).mono fun _ _ ⟨e, _, g⟩ => ⟨e.trans (by rw [writes0]), below_of g⟩)
  have HUTurns := Lib.hid (fun (ub : Nat) (w : World) (h : w.cell? ⟨ub, 0, none⟩ = some (.bool false)) => show Calls Try.prog 13 #[.pointer (some ⟨ub, 0, none⟩), .int .u8 op] w (fun e w' => e = .returned (.bool false) ∧ Below w.heap.size w w') from (tl_turns (tl_unmade ub) op w h h0 h1).mono fun _ _ ⟨e, _, g⟩ => ⟨e, below_of g⟩)
  have HUFails := Lib.hid (fun (ub : Nat) (w : World) (h : w.cell? ⟨ub, 0, none⟩ = some (.bool false)) => show Calls Try.prog 14 #[.pointer (some ⟨ub, 0, none⟩), .int .u8 op] w (fun e w' => e = .returned (.bool false) ∧ Below w.heap.size w w') from (tl_fails (tl_unmade ub) op w h h0 h1).mono fun _ _ ⟨e, _, g⟩ => ⟨e, below_of g⟩)
  have HUSilent := Lib.hid (fun (ub : Nat) (w : World) (h : w.cell? ⟨ub, 0, none⟩ = some (.bool false)) => show Calls Try.prog 15 #[.pointer (some ⟨ub, 0, none⟩), .int .u8 op] w (fun e w' => e = .returned (.bool false) ∧ Below w.heap.size w w') from (tl_silent (tl_unmade ub) op w h h0 h1).mono fun _ _ ⟨e, _, g⟩ => ⟨e, below_of g⟩)
  have HUEnds := Lib.hid (fun (ub : Nat) (w : World) (h : w.cell? ⟨ub, 0, none⟩ = some (.bool false)) => show Calls Try.prog 12 #[.pointer (some ⟨ub, 0, none⟩), .int .u8 op] w (fun e w' => e = .returned (.bool false) ∧ Below w.heap.size w w') from (tl_ends (tl_unmade ub) op w h h0 h1).mono fun _ _ ⟨e, _, g⟩ => ⟨e, below_of g⟩)
  clear e0
  unfold Isa.insV
  go_enter Try.func8, Try.ntmps8
  go_wp2_with fail
  refine (HN.out _).mono ?_
  rintro e w1 ⟨rfl, hT1, hs1, hb1⟩
  have HT1 : Hid (TabIs w1 (w.heap.size + 1)) := Lib.hid (by simpa using hT1)
  clear hT1
  have i0 : w1.cell? ⟨w.heap.size, 0, none⟩ = some (.int .u8 op) := keepK hb1 (by go_simp)
  have i1 : w1.cell? ⟨w.heap.size, 1, none⟩ = some (.int .u8 a) := keepK hb1 (by go_simp)
  have i2 : w1.cell? ⟨w.heap.size, 2, none⟩ = some (.int .u8 b) := keepK hb1 (by go_simp)
  have i3 : w1.cell? ⟨w.heap.size, 3, none⟩ = some (.int .i32 imm) := keepK hb1 (by go_simp)
  have hb2 : Below w.heap.size w w1 := (kbelow_alloc1 w _).trans (hb1.mono (by simp))
  have hs2 : w.heap.size + 1 < w1.heap.size := by simpa using hs1
  clear hb1 hs1
  have HC0' : Hid (∀ w1 : World, TabIs w1 (w.heap.size + 1) → Calls Try.prog 11 #[.pointer (some ⟨w.heap.size + 1, 0, none⟩), .int .u8 0] w1 (TabPost w1 (w.heap.size + 1) (.int .i64 1))) := Lib.hid fun w1 h => HC0.out _ w1 h
  clear HC0
  go_wp2_with fail
  refine (HC0'.out _ HT1.out).mono ?_
  rintro e w2 ⟨rfl, -, hG⟩
  have hne : some w.heap.size ≠ some (w.heap.size + 1) := by simp
  have i0 := hG.cell i0 hne
  have i1 := hG.cell i1 hne
  have i2 := hG.cell i2 hne
  have i3 := hG.cell i3 hne
  have HB2 := Lib.hid (show Below w.heap.size w w2 from hb2.grown hG hb2.size (fun k hk => by cases hk; omega))
  have hs3 : w.heap.size < w2.heap.size := by have := hG.size; omega
  clear hG hb2 hs2 hne HC0' HT1 HN
  go_wp2_with fail
  obtain ⟨W0, hW0⟩ : ∃ W0, W0 = (w2.alloc (.cells #[.bool false, .int .u32 0, .int .i32 0, .int .u32 0, .map none] 51)).alloc (.cells #[.pointer none, .pointer (some ⟨w2.heap.size, 0, none⟩)] 22) := ⟨_, rfl⟩
  have HI0 := Lib.hid (show W0.cell? ⟨w.heap.size, 0, none⟩ = some (.int .u8 op) from by rw [hW0]; go_simp)
  have HI1 := Lib.hid (show W0.cell? ⟨w.heap.size, 1, none⟩ = some (.int .u8 a) from by rw [hW0]; go_simp)
  have HI2 := Lib.hid (show W0.cell? ⟨w.heap.size, 2, none⟩ = some (.int .u8 b) from by rw [hW0]; go_simp)
  have HI3 := Lib.hid (show W0.cell? ⟨w.heap.size, 3, none⟩ = some (.int .i32 imm) from by rw [hW0]; go_simp)
  have HL0 := Lib.hid (show W0.cell? ⟨w2.heap.size + 1, 0, none⟩ = some (.pointer none) from by rw [hW0]; go_simp)
  have HL1 := Lib.hid (show W0.cell? ⟨w2.heap.size + 1, 1, none⟩ = some (.pointer (some ⟨w2.heap.size, 0, none⟩)) from by rw [hW0]; go_simp)
  have HU0 := Lib.hid (show W0.cell? ⟨w2.heap.size, 0, none⟩ = some (.bool false) from by rw [hW0]; go_simp)
  have HB0 := Lib.hid (show Below w.heap.size w W0 from by rw [hW0]; exact (HB2.out.alloc HB2.out.size _).alloc (by have := HB2.out.size; simp; omega) _)
  rw [← hW0]
  clear hW0 i0 i1 i2 i3 HB2
  generalize w2.heap.size = ub at *
  go_loopg [5] 2 (fun gk vi wr => ∃ (n : Nat) (z : Int), gk + n = 2 ∧ z = (n : Int) ∧ vi = .int .i64 z ∧ Below W0.heap.size W0 wr)
  case atStart => exact ⟨0, 0, rfl, rfl, rfl, Below.refl _ _⟩
  case round =>
    obtain ⟨n, z, hn, hz, rfl, hB⟩ := hrel
    have hq : n = 0 ∨ n = 1 ∨ n = 2 := by omega
    have l0 := keepK hB HL0.out
    have l1 := keepK hB HL1.out
    have j0 := keepK hB HI0.out
    rcases hq with rfl | rfl | rfl
    · obtain rfl : z = 0 := hz
      go_wp2_with fail
      refine (HNClass.out _ trivial).mono ?_
      rintro e v00 ⟨rfl, hb⟩
      have hB := below_nextK hB hb
      have j0 := keepK hB HI0.out
      have j1 := keepK hB HI1.out
      have j2 := keepK hB HI2.out
      have j3 := keepK hB HI3.out
      clear hb
      go_wp2_with fail
      refine (HNReads.out _ trivial).mono ?_
      rintro e v01 ⟨rfl, hb⟩
      have hB := below_nextK hB hb
      have j0 := keepK hB HI0.out
      have j1 := keepK hB HI1.out
      have j2 := keepK hB HI2.out
      have j3 := keepK hB HI3.out
      clear hb
      go_wp2_with fail
      refine (HNWrites.out _ trivial).mono ?_
      rintro e v02 ⟨rfl, hb⟩
      have hB := below_nextK hB hb
      have j0 := keepK hB HI0.out
      have j1 := keepK hB HI1.out
      have j2 := keepK hB HI2.out
      have j3 := keepK hB HI3.out
      clear hb
      go_wp2_with fail
      refine (HNTurns.out _ trivial).mono ?_
      rintro e v03 ⟨rfl, hb⟩
      have hB := below_nextK hB hb
      have j0 := keepK hB HI0.out
      have j1 := keepK hB HI1.out
      have j2 := keepK hB HI2.out
      have j3 := keepK hB HI3.out
      clear hb
      go_wp2_with fail
      refine (HNFails.out _ trivial).mono ?_
      rintro e v04 ⟨rfl, hb⟩
      have hB := below_nextK hB hb
      have j0 := keepK hB HI0.out
      have j1 := keepK hB HI1.out
      have j2 := keepK hB HI2.out
      have j3 := keepK hB HI3.out
      clear hb
      go_wp2_with fail
      refine (HNSilent.out _ trivial).mono ?_
      rintro e v05 ⟨rfl, hb⟩
      have hB := below_nextK hB hb
      have j0 := keepK hB HI0.out
      have j1 := keepK hB HI1.out
      have j2 := keepK hB HI2.out
      have j3 := keepK hB HI3.out
      clear hb
      go_wp2_with fail
      refine (HNEnds.out _ trivial).mono ?_
      rintro e v06 ⟨rfl, hb⟩
      have hB := below_nextK hB hb
      have j0 := keepK hB HI0.out
      have j1 := keepK hB HI1.out
      have j2 := keepK hB HI2.out
      have j3 := keepK hB HI3.out
      clear hb
      go_wp2_with fail
      go_roundg (gk - 1)
      case measure => omega
      case rel => exact ⟨1, _, by omega, rfl, rfl, hB⟩
    · obtain rfl : z = 1 := hz
      go_wp2_with fail
      refine (HUClass.out _ _ (keepK hB HU0.out)).mono ?_
      rintro e v10 ⟨rfl, hb⟩
      have hB := below_nextK hB hb
      have j0 := keepK hB HI0.out
      have j1 := keepK hB HI1.out
      have j2 := keepK hB HI2.out
      have j3 := keepK hB HI3.out
      clear hb
      go_wp2_with fail
      refine (HUReads.out _ _ (keepK hB HU0.out)).mono ?_
      rintro e v11 ⟨rfl, hb⟩
      have hB := below_nextK hB hb
      have j0 := keepK hB HI0.out
      have j1 := keepK hB HI1.out
      have j2 := keepK hB HI2.out
      have j3 := keepK hB HI3.out
      clear hb
      go_wp2_with fail
      refine (HUWrites.out _ _ (keepK hB HU0.out)).mono ?_
      rintro e v12 ⟨rfl, hb⟩
      have hB := below_nextK hB hb
      have j0 := keepK hB HI0.out
      have j1 := keepK hB HI1.out
      have j2 := keepK hB HI2.out
      have j3 := keepK hB HI3.out
      clear hb
      go_wp2_with fail
      refine (HUTurns.out _ _ (keepK hB HU0.out)).mono ?_
      rintro e v13 ⟨rfl, hb⟩
      have hB := below_nextK hB hb
      have j0 := keepK hB HI0.out
      have j1 := keepK hB HI1.out
      have j2 := keepK hB HI2.out
      have j3 := keepK hB HI3.out
      clear hb
      go_wp2_with fail
      refine (HUFails.out _ _ (keepK hB HU0.out)).mono ?_
      rintro e v14 ⟨rfl, hb⟩
      have hB := below_nextK hB hb
      have j0 := keepK hB HI0.out
      have j1 := keepK hB HI1.out
      have j2 := keepK hB HI2.out
      have j3 := keepK hB HI3.out
      clear hb
      go_wp2_with fail
      refine (HUSilent.out _ _ (keepK hB HU0.out)).mono ?_
      rintro e v15 ⟨rfl, hb⟩
      have hB := below_nextK hB hb
      have j0 := keepK hB HI0.out
      have j1 := keepK hB HI1.out
      have j2 := keepK hB HI2.out
      have j3 := keepK hB HI3.out
      clear hb
      go_wp2_with fail
      refine (HUEnds.out _ _ (keepK hB HU0.out)).mono ?_
      rintro e v16 ⟨rfl, hb⟩
      have hB := below_nextK hB hb
      have j0 := keepK hB HI0.out
      have j1 := keepK hB HI1.out
      have j2 := keepK hB HI2.out
      have j3 := keepK hB HI3.out
      clear hb
      go_wp2_with fail
      go_roundg (gk - 1)
      case measure => omega
      case rel => exact ⟨2, _, by omega, rfl, rfl, hB⟩
    · obtain rfl : z = 2 := hz
      go_wp2_with fail
      go_ret
      exact ⟨rfl, HB0.out.trans (hB.mono HB0.out.size)⟩

theorem kindNone_walk (op : Int) (wo : (Lit.int .u8 op).wf = true) (a : Int) (wa : (Lit.int .u8 a).wf = true) (b : Int) (wb : (Lit.int .u8 b).wf = true) (imm : Int) (wi : (Lit.int .i32 imm).wf = true) (w : World) :
    Calls Try.prog 8 #[Isa.insV op a b imm] w fun e w' => e = .returned (.bool true) ∧ Below w.heap.size w w' := by
  obtain ⟨h0, h1⟩ := bd_u8 wo
  obtain ⟨h2, h3⟩ := bd_u8 wa
  obtain ⟨h4, h5⟩ := bd_u8 wb
  obtain ⟨h6, h7⟩ := bd_i32 wi
  exact kindNone_in op a b imm w h0 h1 h2 h3 h4 h5 h6 h7
end Go.Proofs.Ytcikcfjbnpnhkaa
