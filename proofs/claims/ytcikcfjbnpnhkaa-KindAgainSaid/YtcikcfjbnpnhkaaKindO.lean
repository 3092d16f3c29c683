/- The walk of KindAgain. -/
import Derived.Test.YtcikcfjbnpnhkaaKindK
import Derived.Test.YtcikcfjbnpnhkaaInsO
namespace Go.Proofs.Ytcikcfjbnpnhkaa
open Go.RowKit
set_option linter.unusedSimpArgs false
set_option linter.unusedVariables false

theorem tab_lt {w : World} {tb : Nat} (h : TabIs w tb) : tb < w.heap.size := World.block_lt_of_cell? w ⟨tb, 0, none⟩ (tab_made h)

/-- What one table is does not hang on another. -/
theorem tab_other {w w' : World} {tb ub : Nat} {x : Value} (h : TabIs w ub) (hg : w.grownBy w' (some tb)) (hx : w.cell? ⟨tb, 0, none⟩ = some x) (hne : ub ≠ tb) : TabIs w' ub := by
  have hlt := tab_lt h
  have hn : some ub ≠ some tb := by simpa using hne
  rcases h with ⟨h0, h1, h2, h4, hf⟩ | h
  · exact .inl ⟨hg.cell h0 hn, hg.cell h1 hn, hg.cell h2 hn, hg.cell h4 hn, fun j => (hg.frozen_far ⟨ub, j, none⟩ hlt hn).trans (hf j)⟩
  · exact .inr (filled_kept h hg hx hne)

def AR (w : World) (tb ub : Nat) (w' : World) : Prop := TabIs w' tb ∧ TabIs w' ub ∧ Below w.heap.size w w'

theorem ag_t {w w1 w' : World} {tb ub ib : Nat} {x0 x1 x2 x3 : Value} (hS : w1.cell? ⟨ib, 0, none⟩ = some x0 ∧ w1.cell? ⟨ib, 1, none⟩ = some x1 ∧ w1.cell? ⟨ib, 2, none⟩ = some x2 ∧ w1.cell? ⟨ib, 3, none⟩ = some x3 ∧ AR w tb ub w1)
    (hT : TabIs w' tb) (hG : w1.grownBy w' (some tb)) (h1 : ib ≠ tb) (h2 : ub ≠ tb) (h3 : w.heap.size ≤ tb) :
    w'.cell? ⟨ib, 0, none⟩ = some x0 ∧ w'.cell? ⟨ib, 1, none⟩ = some x1 ∧ w'.cell? ⟨ib, 2, none⟩ = some x2 ∧ w'.cell? ⟨ib, 3, none⟩ = some x3 ∧ AR w tb ub w' := by
  obtain ⟨c0, c1, c2, c3, t1, t2, hB⟩ := hS
  have hn : some ib ≠ some tb := by simpa using h1
  exact ⟨hG.cell c0 hn, hG.cell c1 hn, hG.cell c2 hn, hG.cell c3 hn, hT, tab_other t2 hG (tab_made t1) h2, hB.grown hG hB.size (fun k hk => by cases hk; exact h3)⟩

theorem ag_u {w w1 w' : World} {tb ub ib : Nat} {x0 x1 x2 x3 : Value} (hS : w1.cell? ⟨ib, 0, none⟩ = some x0 ∧ w1.cell? ⟨ib, 1, none⟩ = some x1 ∧ w1.cell? ⟨ib, 2, none⟩ = some x2 ∧ w1.cell? ⟨ib, 3, none⟩ = some x3 ∧ AR w tb ub w1)
    (hT : TabIs w' ub) (hG : w1.grownBy w' (some ub)) (h1 : ib ≠ ub) (h2 : ub ≠ tb) (h3 : w.heap.size ≤ ub) :
    w'.cell? ⟨ib, 0, none⟩ = some x0 ∧ w'.cell? ⟨ib, 1, none⟩ = some x1 ∧ w'.cell? ⟨ib, 2, none⟩ = some x2 ∧ w'.cell? ⟨ib, 3, none⟩ = some x3 ∧ AR w tb ub w' := by
  obtain ⟨c0, c1, c2, c3, t1, t2, hB⟩ := hS
  have hn : some ib ≠ some ub := by simpa using h1
  exact ⟨hG.cell c0 hn, hG.cell c1 hn, hG.cell c2 hn, hG.cell c3 hn, tab_other t1 hG (tab_made t2) h2.symm, hT, hB.grown hG hB.size (fun k hk => by cases hk; exact h3)⟩

theorem ag1 {w w1 : World} {tb ub ib : Nat} {x0 x1 x2 x3 : Value} (hS : w1.cell? ⟨ib, 0, none⟩ = some x0 ∧ w1.cell? ⟨ib, 1, none⟩ = some x1 ∧ w1.cell? ⟨ib, 2, none⟩ = some x2 ∧ w1.cell? ⟨ib, 3, none⟩ = some x3 ∧ AR w tb ub w1) : TabIs w1 tb := hS.2.2.2.2.1
theorem ag2 {w w1 : World} {tb ub ib : Nat} {x0 x1 x2 x3 : Value} (hS : w1.cell? ⟨ib, 0, none⟩ = some x0 ∧ w1.cell? ⟨ib, 1, none⟩ = some x1 ∧ w1.cell? ⟨ib, 2, none⟩ = some x2 ∧ w1.cell? ⟨ib, 3, none⟩ = some x3 ∧ AR w tb ub w1) : TabIs w1 ub := hS.2.2.2.2.2.1

set_option maxRecDepth 100000 in
set_option maxHeartbeats 8000000 in
theorem kindAgain_in (ao : Option Addr) (len cap : Nat) (L : List InsR) (w : World) (hL : L.length = len) (hl : len ≤ 9223372036854775807) (hI : InssIn w ao L) :
    Calls Try.prog 7 #[.slice ao len cap] w fun e w' => e = .returned (.bool true) ∧ Below w.heap.size w w' := by
  have e0 : (knownF 0).cls = 1 := by decide +kernel
  have HC0 := Lib.hid fun (tb : Nat) (w : World) (h : TabIs w tb) => class_c tb 0 w h (by decide) (by decide)
  rw [e0] at HC0
  have HN := Lib.hid new_c
  have HI := Lib.hid hI
  have HL := Lib.hid hL
  clear hL hI e0
  go_enter Try.func7, Try.ntmps7
  go_wp2_with fail
  refine (HN.out _).mono ?_
  rintro e w1 ⟨rfl, hT1, hs1, hb1⟩
  have HT1 := Lib.hid hT1
  clear hT1
  go_wp2_with fail
  go_loopg [4] len (fun gk vk wr => ∃ k : Nat, gk + k = len ∧ vk = .int .i64 (k : Int) ∧ Hid (TabIs wr w.heap.size) ∧ Below w.heap.size w wr)
  case atStart => exact ⟨0, rfl, rfl, HT1, hb1⟩
  case round =>
    obtain ⟨k, hk, rfl, HT, hB⟩ := hrel
    have hlt := tab_lt HT.out
    by_cases c1 : k < len ∧ k < 50
    · obtain ⟨c1, c2⟩ := c1
      obtain ⟨r, hr⟩ : ∃ r, L[k]? = some r := ⟨_, List.getElem?_eq_getElem (by rw [HL.out]; exact c1)⟩
      obtain ⟨blk, off, rfl, x0, x1, x2, x3⟩ : ∃ blk off, ao = some ⟨blk, off, none⟩ ∧ w.cell? ⟨blk, off + k * 4, none⟩ = some (.int .u8 r.op) ∧ w.cell? ⟨blk, off + k * 4 + 1, none⟩ = some (.int .u8 r.a) ∧ w.cell? ⟨blk, off + k * 4 + 2, none⟩ = some (.int .u8 r.b) ∧ w.cell? ⟨blk, off + k * 4 + 3, none⟩ = some (.int .i32 r.imm) := by
        rcases HI.out with h | ⟨blk, off, h1, h2⟩
        · rw [h] at hr; cases hr
        · exact ⟨blk, off, h1, h2 k r hr⟩
      have i1 : (k : Int) < (len : Int) := by omega
      have i2 : (k : Int) < 50 := by omega
      obtain ⟨op, a, b, imm, h0, h1, h2, h3, h4, h5, h6, h7⟩ := r
      simp only at x0 x1 x2 x3
      clear hr
      have HA := fun (tb : Nat) (w : World) (h : TabIs w tb) => tl_reads (tl_made tb) op a b imm w h h0 h1 h2 h3 h4 h5 h6 h7 (fun k hk => by cases hk; exact tab_lt h)
      have HW := fun (tb : Nat) (w : World) (h : TabIs w tb) => tl_writes (tl_made tb) op a b imm w h h0 h1 h2 h3 h4 h5 h6 h7 (fun k hk => by cases hk; exact tab_lt h)
      have HC := Lib.hid fun (tb : Nat) (w : World) (h : TabIs w tb) => tl_class (tl_made tb) op w h h0 h1
      have HF := Lib.hid fun (tb : Nat) (w : World) (h : TabIs w tb) => tl_turns (tl_made tb) op w h h0 h1
      unfold Isa.insV at HA HW
      have HA := Lib.hid HA
      have HW := Lib.hid HW
      generalize readsF (knownF op) (Isa.mayB (Isa.fm op true) a b imm) a b = rv at HA
      generalize writesF (knownF op) (Isa.mayB (Isa.fm op true) a b imm) a b = wv at HW
      generalize (knownF op).cls = cv at HC
      generalize hasB (knownF op) 102 = tv at HF
      have X0 := Lib.hid x0
      have X1 := Lib.hid x1
      have X2 := Lib.hid x2
      have X3 := Lib.hid x3
      clear x0 x1 x2 x3 h0 h1 h2 h3 h4 h5 h6 h7
      go_wp2_with fail
      refine (HN.out _).mono ?_
      rintro e w2 ⟨rfl, hT2, hs2, hb2⟩
      have HTB := Lib.hid (tab_below HT.out hb2)
      have HTU := Lib.hid hT2
      have hB2 := kbelow_next hB hb2
      have y0 := keepK hB2 X0.out
      have y1 := keepK hB2 X1.out
      have y2 := keepK hB2 X2.out
      have y3 := keepK hB2 X3.out
      have hbl := World.block_lt_of_cell? w2 _ y0
      simp only at hbl
      have n1 : w2.heap.size ≠ w.heap.size := by omega
      have n2 : w2.heap.size ≠ wr.heap.size := by omega
      have n3 : wr.heap.size ≠ w.heap.size := by omega
      have n4 : w.heap.size ≤ wr.heap.size := by omega
      clear hT2 hb2
      go_wp2_with fail
      have HTB3 := Lib.hid (tab_kept HTB.out (World.grownBy_alloc w2 (.cells #[.int .u8 op, .int .u8 a, .int .u8 b, .int .i32 imm] 30) none))
      have HTU3 := Lib.hid (tab_kept HTU.out (World.grownBy_alloc w2 (.cells #[.int .u8 op, .int .u8 a, .int .u8 b, .int .i32 imm] 30) none))
      have hB3 := hB2.alloc hB2.size (.cells #[.int .u8 op, .int .u8 a, .int .u8 b, .int .i32 imm] 30)
      clear y0 y1 y2 y3
      go_region_held3 (fun w' => w'.cell? ⟨w2.heap.size, 0, none⟩ = some (.int .u8 op) ∧ w'.cell? ⟨w2.heap.size, 1, none⟩ = some (.int .u8 a) ∧ w'.cell? ⟨w2.heap.size, 2, none⟩ = some (.int .u8 b) ∧ w'.cell? ⟨w2.heap.size, 3, none⟩ = some (.int .i32 imm) ∧ AR w w.heap.size wr.heap.size w')
        (first | exact ⟨by go_simp, by go_simp, by go_simp, by go_simp, tab_kept HTB3.out ⟨rfl, rfl, rfl, Nat.le_refl _, fun _ _ _ => rfl⟩, tab_kept HTU3.out ⟨rfl, rfl, rfl, Nat.le_refl _, fun _ _ _ => rfl⟩, hB3.drew⟩ | exact ag_t ‹_› ‹_› ‹_› n1 n3 (Nat.le_refl _) | exact ag_u ‹_› ‹_› ‹_› n2 n3 n4)
        (first
          | (go_at_call 11; ((with_reducible refine (HC.out w.heap.size _ (ag1 ‹_›)).mono ?_); rintro e w4 ⟨rfl, hT4, hG4⟩))
          | (go_at_call 11; ((with_reducible refine (HC.out wr.heap.size _ (ag2 ‹_›)).mono ?_); rintro e w4 ⟨rfl, hT4, hG4⟩))
          | (go_at_call 17; ((with_reducible refine (HA.out w.heap.size _ (ag1 ‹_›)).mono ?_); rintro e w4 ⟨rfl, hT4, hG4⟩))
          | (go_at_call 17; ((with_reducible refine (HA.out wr.heap.size _ (ag2 ‹_›)).mono ?_); rintro e w4 ⟨rfl, hT4, hG4⟩))
          | (go_at_call 18; ((with_reducible refine (HW.out w.heap.size _ (ag1 ‹_›)).mono ?_); rintro e w4 ⟨rfl, hT4, hG4⟩))
          | (go_at_call 18; ((with_reducible refine (HW.out wr.heap.size _ (ag2 ‹_›)).mono ?_); rintro e w4 ⟨rfl, hT4, hG4⟩))
          | (go_at_call 13; ((with_reducible refine (HF.out w.heap.size _ (ag1 ‹_›)).mono ?_); rintro e w4 ⟨rfl, hT4, hG4⟩))
          | (go_at_call 13; ((with_reducible refine (HF.out wr.heap.size _ (ag2 ‹_›)).mono ?_); rintro e w4 ⟨rfl, hT4, hG4⟩)))
      all_goals
        have hS : AR w w.heap.size wr.heap.size _ := And.right (And.right (And.right (And.right ‹_›)))
        have HS := Lib.hid hS
        clear hS
        go_wp2_with fail
        go_roundg (gk - 1)
        case measure => omega
        case rel => exact ⟨k + 1, by omega, rfl, Lib.hid HS.out.1, HS.out.2.2⟩
    · by_cases c2 : k < len
      · have i1 : (k : Int) < (len : Int) := by omega
        have i2 : ¬ (k : Int) < 50 := by omega
        go_wp2_with fail
        refine (HC0.out _ _ HT.out).mono ?_
        rintro e w5 ⟨rfl, hT, hG⟩
        have hB5 := hB.grown hG hB.size (fun k hk => by cases hk; exact Nat.le_refl _)
        clear hT hG
        go_wp2_with fail
        go_ret
        exact ⟨rfl, hB5⟩
      · have i1 : ¬ (k : Int) < (len : Int) := by omega
        go_wp2_with fail
        refine (HC0.out _ _ HT.out).mono ?_
        rintro e w5 ⟨rfl, hT, hG⟩
        have hB5 := hB.grown hG hB.size (fun k hk => by cases hk; exact Nat.le_refl _)
        clear hT hG
        go_wp2_with fail
        go_ret
        exact ⟨rfl, hB5⟩
end Go.Proofs.Ytcikcfjbnpnhkaa
