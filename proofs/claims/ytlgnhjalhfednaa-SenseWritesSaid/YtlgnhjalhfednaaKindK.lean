/- What a table says, of any kind: filled or fresh, not there, made by no call; kind.Table.set, Reads and Writes. (Written by mkKK.py.) -/
import Derived.Test.YtlgnhjalhfednaaKindG
import Derived.Test.YtlgnhjalhfednaaIsaM
import Derived.Deep.RegionHeld3
import Derived.Laws.BitsAllLaws
namespace Go.Proofs.Ytlgnhjalhfednaa
open Go.RowKit
set_option maxRecDepth 100000
set_option linter.unusedSimpArgs false
set_option linter.unusedVariables false

theorem wreg_c (a b : Int) (bi : Nat) (c : Int) (w : World) (x1 : w.cell? ⟨bi, 1, none⟩ = some (.int .u8 a)) (x2 : w.cell? ⟨bi, 2, none⟩ = some (.int .u8 b)) (hc : c = 65 ∨ c = 76 ∨ c = 80) :
    Calls Try.prog 27 #[.int .u8 c, .pointer (some ⟨bi, 0, none⟩)] w fun e w' => e = .returned (.int .u8 (if c = 65 then a else if c = 76 then 6 else 7)) ∧ w = w' := by
  rcases hc with rfl | rfl | rfl
  all_goals
    go_enter Try.func27, Try.ntmps27
    go_wp2_with fail
    go_ret
    exact ⟨rfl, rfl⟩

/-- A register's bit, if it is to be. -/
def bitIf (x : Bool) (s r : Int) : Int := if x = true then bits .or .u8 s (2 ^ r.toNat % 256) else s

theorem keepK {W w1 : World} (hb : Below W.heap.size W w1) {p : Addr} {v : Value} (h : W.cell? p = some v) : w1.cell? p = some v := (hb.cell (World.block_lt_of_cell? W p h)).trans h
theorem below_nextK {a w w1 : World} (h : Below a.heap.size a w) (h1 : Below w.heap.size w w1) : Below a.heap.size a w1 := h.trans (h1.mono h.size)
theorem below_grown {w w' : World} (hb : Below w.heap.size w w') (row : Option Nat) : w.grownBy w' row := ⟨hb.os, hb.tape, hb.output, hb.size, fun k hk _ => hb.block k hk⟩

def setRAt (ra rb rp : Bool) (a b : Int) : Nat → Int
  | 0 => 0
  | 1 => bitIf ra 0 a
  | 2 => bitIf rb (bitIf ra 0 a) b
  | _ => bitIf rp (bitIf rb (bitIf ra 0 a) b) 7

def setWAt (ra rb rp : Bool) (a b : Int) : Nat → Int
  | 0 => 0
  | 1 => bitIf ra 0 a
  | 2 => bitIf rb (bitIf ra 0 a) 6
  | _ => bitIf rp (bitIf rb (bitIf ra 0 a) 6) 7

theorem may_lt {op a b imm : Int} (h : Isa.mayB (Isa.fm op true) a b imm = true) : a < 8 ∧ b < 8 := by
  have hF := Isa.fm_is op true
  simp only [Isa.mayB, Bool.and_eq_true, decide_eq_true_eq] at h
  obtain ⟨-, ha, hb, -⟩ := h
  rcases hF with e | e | e | e | e | e | e | e | e | e <;> rw [e] at ha hb <;> simp only at ha hb <;> omega

def readsF (k : Kn) (m : Bool) (a b : Int) : Int := if m = true then setRAt (hasB k 97) (hasB k 98) (hasB k 112) a b 3 else 0
def writesF (k : Kn) (m : Bool) (a b : Int) : Int := if m = true then setWAt (hasB k 65) (hasB k 76) (hasB k 80) a b 3 else 0

/-- A table of some kind: what of it stays, and what it says. -/
structure TabLike (pv : Option Addr) (row : Option Nat) (T : World → Prop) (kf : Int → Kn) : Prop where
  below : ∀ w w', T w → Below w.heap.size w w' → T w'
  ask : ∀ op w, 0 ≤ op → op < 256 → T w → Calls Try.prog 24 #[.pointer pv, .int .u8 op] w fun e w' => e = .returned (kf op).val ∧ T w' ∧ w.grownBy w' row
  len : ∀ op, 0 ≤ op → op < 256 → (kf op).is.length ≤ 100

theorem tl_made (tb : Nat) : TabLike (some ⟨tb, 0, none⟩) (some tb) (fun w => TabIs w tb) knownF :=
  ⟨fun _ _ h hb => tab_below h hb, fun op w h0 h1 h => (of_c tb op w h h0 h1).mono fun _ _ ⟨he, hF, hG⟩ => ⟨he, .inr hF, hG⟩, fun op h0 h1 => known_len op h0 h1⟩
theorem tl_none : TabLike none none (fun _ => True) (fun _ => ⟨0, []⟩) :=
  ⟨fun _ _ _ _ => trivial, fun op w h0 h1 h => (of_none w op).mono fun _ _ ⟨he, hb⟩ => ⟨he, trivial, below_grown hb none⟩, fun op h0 h1 => by simp⟩
theorem tl_unmade (tb : Nat) : TabLike (some ⟨tb, 0, none⟩) none (fun w => w.cell? ⟨tb, 0, none⟩ = some (.bool false)) (fun _ => ⟨0, []⟩) :=
  ⟨fun _ _ h hb => keepK hb h, fun op w h0 h1 h => (of_unmade w tb h op).mono fun _ _ ⟨he, hb⟩ => ⟨he, keepK hb h, below_grown hb none⟩, fun op h0 h1 => by simp⟩

def TLPost (row : Option Nat) (T : World → Prop) (w : World) (v : Value) (e : Ending) (w' : World) : Prop := e = .returned v ∧ T w' ∧ w.grownBy w' row

section
variable {pv : Option Addr} {row : Option Nat} {T : World → Prop} {kf : Int → Kn} (X : TabLike pv row T kf)
include X

set_option maxHeartbeats 1000000 in
theorem tl_class (op : Int) (w : World) (h : T w) (h0 : 0 ≤ op) (h1 : op < 256) :
    Calls Try.prog 13 #[.pointer pv, .int .u8 op] w (TLPost row T w (.int .i64 (kf op).cls)) := by
  have hO := Lib.hid (X.ask op w h0 h1 h)
  have hfl : ∀ (c : Int) (s : ByteArray) (w : World), (Instr.field 71 (.agg #[.int .i64 c, .string s]) 0).run Try.prog w = .ok (.int .i64 c) w := fun _ _ _ => by kernel_rfl
  clear h X
  go_enter Try.func13, Try.ntmps13
  go_wp2_with fail
  refine hO.out.mono ?_
  rintro e w1 ⟨rfl, hF, hG⟩
  have HF := Lib.hid hF
  have HG := Lib.hid hG
  clear hF hG
  unfold Kn.val
  go_wp2_with fail
  go_ret
  exact ⟨rfl, HF.out, HG.out⟩

set_option maxHeartbeats 1000000 in
theorem tl_silent (op : Int) (w : World) (h : T w) (h0 : 0 ≤ op) (h1 : op < 256) :
    Calls Try.prog 14 #[.pointer pv, .int .u8 op] w (TLPost row T w (.bool (hasB (kf op) 115))) := by
  have hO := Lib.hid (X.ask op w h0 h1 h)
  have hH := Lib.hid fun w => has_c (kf op) (X.len op h0 h1) 115 w (by decide) (by decide)
  have hX := Lib.hid X.below
  clear h X
  go_enter Try.func14, Try.ntmps14
  go_wp2_with fail
  refine hO.out.mono ?_
  rintro e w1 ⟨rfl, hF, hG⟩
  have HF := Lib.hid hF
  have HG := Lib.hid hG
  clear hF hG
  go_wp2_with fail
  refine (hH.out _).mono ?_
  rintro e w2 ⟨rfl, hb⟩
  have HF2 := Lib.hid (hX.out _ _ HF.out hb)
  have HG2 := Lib.hid (HG.out.trans (below_grown hb row))
  clear hb
  go_wp2_with fail
  go_ret
  exact ⟨rfl, HF2.out, HG2.out⟩

set_option maxHeartbeats 8000000 in
theorem setW_c (op a b imm : Int) (bi : Nat) (w : World) (h : T w) (h0 : 0 ≤ op) (h1 : op < 256) (h2 : 0 ≤ a) (h3 : a < 256) (h4 : 0 ≤ b) (h5 : b < 256) (h6 : -2147483648 ≤ imm) (h7 : imm < 2147483648)
    (m : Bool) (hm : Isa.mayB (Isa.fm op true) a b imm = m) (ha : m = true → a < 8) (hb8 : m = true → b < 8) (hbt : some bi ≠ row) (x1 : w.cell? ⟨bi, 1, none⟩ = some (.int .u8 a)) (x2 : w.cell? ⟨bi, 2, none⟩ = some (.int .u8 b)) :
    Calls Try.prog 26 #[.pointer pv, Isa.insV op a b imm, .string ⟨#[65, 76, 80]⟩, .func (.func 27) #[] #[.pointer (some ⟨bi, 0, none⟩)]] w
      (TLPost row T w (.int .u8 (if m = true then setWAt (hasB (kf op) 65) (hasB (kf op) 76) (hasB (kf op) 80) a b 3 else 0))) := by
  have HM := Lib.hid fun w => Isa.may_c op a b imm true w h0 h1 h2 h3 h4 h5 h6 h7
  rw [hm] at HM
  have HO := Lib.hid fun (w : World) (h : T w) => X.ask op w h0 h1 h
  have HA := Lib.hid fun w => has_c (kf op) (X.len op h0 h1) 65 w (by decide) (by decide)
  have HB := Lib.hid fun w => has_c (kf op) (X.len op h0 h1) 76 w (by decide) (by decide)
  have HP := Lib.hid fun w => has_c (kf op) (X.len op h0 h1) 80 w (by decide) (by decide)
  have HX := Lib.hid X.below
  have HT := Lib.hid h
  have X1 := Lib.hid x1
  have X2 := Lib.hid x2
  have HBT := Lib.hid hbt
  have l1 := World.block_lt_of_cell? w _ x1
  simp only at l1
  clear hm h x1 x2 X hbt
  generalize hasB (kf op) 65 = ra at HA ⊢
  generalize hasB (kf op) 76 = rb at HB ⊢
  generalize hasB (kf op) 80 = rp at HP ⊢
  generalize kf op = k at HO HA HB HP
  obtain ⟨cls, l⟩ := k
  unfold Isa.insV at HM ⊢
  unfold Kn.val at HA HB HP
  cases m
  · rw [if_neg (by decide)]
    go_enter Try.func26, Try.ntmps26
    go_wp2_with fail
    refine (HM.out _).mono ?_
    rintro e w1 ⟨rfl, hb1⟩
    have hb0 := (kbelow_alloc1 w (.cells #[.int .u8 op, .int .u8 a, .int .u8 b, .int .i32 imm] 27)).trans (hb1.mono (by simp))
    have HT1 := Lib.hid (HX.out _ _ HT.out hb0)
    have c0 : w1.cell? ⟨w.heap.size, 0, none⟩ = some (.int .u8 op) := keepK hb1 (by go_simp)
    have G1 := Lib.hid (below_grown hb0 row)
    have q1 : w1.cell? ⟨bi, 1, none⟩ = some (.int .u8 a) := keepK hb0 X1.out
    have q2 : w1.cell? ⟨bi, 2, none⟩ = some (.int .u8 b) := keepK hb0 X2.out
    have Q1 := Lib.hid q1
    have Q2 := Lib.hid q2
    clear hb1 q1 q2 hb0
    go_wp2_with fail
    go_ret
    exact ⟨rfl, HT1.out, G1.out⟩
  have ha := ha rfl
  have hb8 := hb8 rfl
  rw [if_pos rfl]
  go_enter Try.func26, Try.ntmps26
  go_wp2_with fail
  refine (HM.out _).mono ?_
  rintro e w1 ⟨rfl, hb1⟩
  have hb0 := (kbelow_alloc1 w (.cells #[.int .u8 op, .int .u8 a, .int .u8 b, .int .i32 imm] 27)).trans (hb1.mono (by simp))
  have HT1 := Lib.hid (HX.out _ _ HT.out hb0)
  have c0 : w1.cell? ⟨w.heap.size, 0, none⟩ = some (.int .u8 op) := keepK hb1 (by go_simp)
  have G1 := Lib.hid (below_grown hb0 row)
  have q1 : w1.cell? ⟨bi, 1, none⟩ = some (.int .u8 a) := keepK hb0 X1.out
  have q2 : w1.cell? ⟨bi, 2, none⟩ = some (.int .u8 b) := keepK hb0 X2.out
  have Q1 := Lib.hid q1
  have Q2 := Lib.hid q2
  clear hb1 q1 q2 hb0
  go_wp2_with fail
  refine (HO.out _ HT1.out).mono ?_
  rintro e w2 ⟨rfl, hF, hG⟩
  unfold Kn.val
  have Q1 := Lib.hid (hG.cell Q1.out HBT.out)
  have Q2 := Lib.hid (hG.cell Q2.out HBT.out)
  have GF := Lib.hid (G1.out.trans hG)
  have HF := Lib.hid hF
  clear hF hG
  go_wp2_with fail
  have Q1 := Lib.hid ((World.grownBy_alloc w2 (.cells #[.int .i64 cls, .string ⟨l.toArray⟩] 71) none).cell Q1.out (by simp))
  have Q2 := Lib.hid ((World.grownBy_alloc w2 (.cells #[.int .i64 cls, .string ⟨l.toArray⟩] 71) none).cell Q2.out (by simp))
  have HK0 := Lib.hid (show (w2.alloc (.cells #[.int .i64 cls, .string ⟨l.toArray⟩] 71)).cell? ⟨w2.heap.size, 0, none⟩ = some (.int .i64 cls) from by go_simp)
  have HK1 := Lib.hid (show (w2.alloc (.cells #[.int .i64 cls, .string ⟨l.toArray⟩] 71)).cell? ⟨w2.heap.size, 1, none⟩ = some (.string ⟨l.toArray⟩) from by go_simp)
  have HB3 := Lib.hid (kbelow_alloc1 w2 (.cells #[.int .i64 cls, .string ⟨l.toArray⟩] 71))
  generalize w2.alloc (.cells #[.int .i64 cls, .string ⟨l.toArray⟩] 71) = w3 at *
  clear c0
  go_loopg [9, 21] 3 (fun gk vs vi wr => ∃ (n : Nat) (z : Int), gk + n = 3 ∧ z = (n : Int) ∧ vi = .int .i64 z ∧ vs = .int .u8 (setWAt ra rb rp a b n) ∧ Below w3.heap.size w3 wr)
  case atStart => exact ⟨0, 0, rfl, rfl, rfl, rfl, Below.refl _ _⟩
  case round =>
    obtain ⟨n, z, hn, hz, rfl, rfl, hB⟩ := hrel
    have k0 := keepK hB HK0.out
    have k1 := keepK hB HK1.out
    have hq : n = 0 ∨ n = 1 ∨ n = 2 ∨ n = 3 := by omega
    rcases hq with rfl | rfl | rfl | rfl
    · obtain rfl : z = 0 := hz
      have hix : ∀ w : World, (Instr.index 9 (.string ⟨#[65, 76, 80]⟩) (.int .i64 0)).run Try.prog w = .ok (.int .u8 65) w := fun _ => by kernel_rfl
      obtain ⟨s0, hs0⟩ : ∃ s0, setWAt ra rb rp a b 0 = s0 := ⟨_, rfl⟩
      rw [hs0]
      have HS0 := Lib.hid hs0
      clear hs0
      go_wp2_with fail
      go_region_held3 (fun w' => w'.cell? ⟨w2.heap.size, 0, none⟩ = some (.int .i64 cls) ∧ w'.cell? ⟨w2.heap.size, 1, none⟩ = some (.string ⟨l.toArray⟩) ∧ Below w3.heap.size w3 w')
        (first | exact ⟨by go_simp, by go_simp, hB.drew⟩ | exact ⟨keepK ‹_› (And.left ‹_›), keepK ‹_› (And.left (And.right ‹_›)), below_nextK (And.right (And.right ‹_›)) ‹_›⟩)
        (first | (go_at_call 25; ((with_reducible refine (HA.out _).mono ?_); rintro e w4 ⟨rfl, hb4⟩)))
      have hB4 : Below w3.heap.size w3 w4 := And.right (And.right ‹_›)
      have q1 := keepK hB4 Q1.out
      have q2 := keepK hB4 Q2.out
      cases ra
      · go_wp2_with fail
        go_roundg (gk - 1)
        case measure => omega
        case rel => exact ⟨1, _, by omega, rfl, rfl, by rw [← HS0.out]; first | rfl | (simp [setWAt, bitIf]; done), hB4⟩
      · go_wp2_with fail
        refine (wreg_c a b bi 65 _ q1 q2 (by decide)).mono ?_
        rintro e w5 ⟨rfl, rfl⟩
        simp only [if_true, if_false, Int.reduceEq]
        go_wp2_with fail
        go_roundg (gk - 1)
        case measure => omega
        case rel => exact ⟨1, _, by omega, rfl, rfl, by rw [← HS0.out]; first | rfl | (simp [setWAt, bitIf]; done), hB4⟩
    · obtain rfl : z = 1 := hz
      have hix : ∀ w : World, (Instr.index 9 (.string ⟨#[65, 76, 80]⟩) (.int .i64 1)).run Try.prog w = .ok (.int .u8 76) w := fun _ => by kernel_rfl
      obtain ⟨s0, hs0⟩ : ∃ s0, setWAt ra rb rp a b 1 = s0 := ⟨_, rfl⟩
      rw [hs0]
      have HS0 := Lib.hid hs0
      clear hs0
      go_wp2_with fail
      go_region_held3 (fun w' => w'.cell? ⟨w2.heap.size, 0, none⟩ = some (.int .i64 cls) ∧ w'.cell? ⟨w2.heap.size, 1, none⟩ = some (.string ⟨l.toArray⟩) ∧ Below w3.heap.size w3 w')
        (first | exact ⟨by go_simp, by go_simp, hB.drew⟩ | exact ⟨keepK ‹_› (And.left ‹_›), keepK ‹_› (And.left (And.right ‹_›)), below_nextK (And.right (And.right ‹_›)) ‹_›⟩)
        (first | (go_at_call 25; ((with_reducible refine (HB.out _).mono ?_); rintro e w4 ⟨rfl, hb4⟩)))
      have hB4 : Below w3.heap.size w3 w4 := And.right (And.right ‹_›)
      have q1 := keepK hB4 Q1.out
      have q2 := keepK hB4 Q2.out
      cases rb
      · go_wp2_with fail
        go_roundg (gk - 1)
        case measure => omega
        case rel => exact ⟨2, _, by omega, rfl, rfl, by rw [← HS0.out]; first | rfl | (simp [setWAt, bitIf]; done), hB4⟩
      · go_wp2_with fail
        refine (wreg_c a b bi 76 _ q1 q2 (by decide)).mono ?_
        rintro e w5 ⟨rfl, rfl⟩
        simp only [if_true, if_false, Int.reduceEq]
        go_wp2_with fail
        go_roundg (gk - 1)
        case measure => omega
        case rel => exact ⟨2, _, by omega, rfl, rfl, by rw [← HS0.out]; first | rfl | (simp [setWAt, bitIf]; done), hB4⟩
    · obtain rfl : z = 2 := hz
      have hix : ∀ w : World, (Instr.index 9 (.string ⟨#[65, 76, 80]⟩) (.int .i64 2)).run Try.prog w = .ok (.int .u8 80) w := fun _ => by kernel_rfl
      obtain ⟨s0, hs0⟩ : ∃ s0, setWAt ra rb rp a b 2 = s0 := ⟨_, rfl⟩
      rw [hs0]
      have HS0 := Lib.hid hs0
      clear hs0
      go_wp2_with fail
      go_region_held3 (fun w' => w'.cell? ⟨w2.heap.size, 0, none⟩ = some (.int .i64 cls) ∧ w'.cell? ⟨w2.heap.size, 1, none⟩ = some (.string ⟨l.toArray⟩) ∧ Below w3.heap.size w3 w')
        (first | exact ⟨by go_simp, by go_simp, hB.drew⟩ | exact ⟨keepK ‹_› (And.left ‹_›), keepK ‹_› (And.left (And.right ‹_›)), below_nextK (And.right (And.right ‹_›)) ‹_›⟩)
        (first | (go_at_call 25; ((with_reducible refine (HP.out _).mono ?_); rintro e w4 ⟨rfl, hb4⟩)))
      have hB4 : Below w3.heap.size w3 w4 := And.right (And.right ‹_›)
      have q1 := keepK hB4 Q1.out
      have q2 := keepK hB4 Q2.out
      cases rp
      · go_wp2_with fail
        go_roundg (gk - 1)
        case measure => omega
        case rel => exact ⟨3, _, by omega, rfl, rfl, by rw [← HS0.out]; first | rfl | (simp [setWAt, bitIf]; done), hB4⟩
      · go_wp2_with fail
        refine (wreg_c a b bi 80 _ q1 q2 (by decide)).mono ?_
        rintro e w5 ⟨rfl, rfl⟩
        simp only [if_true, if_false, Int.reduceEq]
        go_wp2_with fail
        go_roundg (gk - 1)
        case measure => omega
        case rel => exact ⟨3, _, by omega, rfl, rfl, by rw [← HS0.out]; first | rfl | (simp [setWAt, bitIf]; done), hB4⟩
    · obtain rfl : z = 3 := hz
      go_wp2_with fail
      go_ret
      exact ⟨rfl, HX.out _ _ (HX.out _ _ HF.out HB3.out) hB, (GF.out.trans (below_grown HB3.out row)).trans (below_grown hB row)⟩

set_option maxHeartbeats 2000000 in
theorem tl_writes (op a b imm : Int) (w : World) (h : T w) (h0 : 0 ≤ op) (h1 : op < 256) (h2 : 0 ≤ a) (h3 : a < 256) (h4 : 0 ≤ b) (h5 : b < 256) (h6 : -2147483648 ≤ imm) (h7 : imm < 2147483648) (hrow : ∀ k, row = some k → k < w.heap.size) :
    Calls Try.prog 15 #[.pointer pv, Isa.insV op a b imm] w (TLPost row T w (.int .u8 (writesF (kf op) (Isa.mayB (Isa.fm op true) a b imm) a b))) := by
  have hmf : ∀ (fn : Fn) (first cap : Array Value) (w : World), (Instr.makeFunc fn first cap).run Try.prog w = .ok (.func fn first cap) w := fun _ _ _ _ => rfl
  have hne : some w.heap.size ≠ row := fun e => by have := hrow w.heap.size e.symm; omega
  have HS := Lib.hid (setW_c X op a b imm w.heap.size (w.alloc (.cells #[.int .u8 op, .int .u8 a, .int .u8 b, .int .i32 imm] 27)) (X.below _ _ h (kbelow_alloc1 _ _)) h0 h1 h2 h3 h4 h5 h6 h7 _ rfl (fun hm => (may_lt hm).1) (fun hm => (may_lt hm).2) hne (by go_simp) (by go_simp))
  clear h X hrow hne
  unfold writesF
  unfold Isa.insV at HS ⊢
  generalize (if Isa.mayB (Isa.fm op true) a b imm = true then setWAt (hasB (kf op) 65) (hasB (kf op) 76) (hasB (kf op) 80) a b 3 else 0) = r at HS ⊢
  go_enter Try.func15, Try.ntmps15
  go_wp2_with fail
  refine HS.out.mono ?_
  rintro e w1 ⟨rfl, hT, hG⟩
  have HT := Lib.hid hT
  have HG := Lib.hid hG
  clear hT hG
  go_wp2_with fail
  go_ret
  exact ⟨rfl, HT.out, (World.grownBy_alloc w _ row).trans HG.out⟩

end
end Go.Proofs.Ytlgnhjalhfednaa
