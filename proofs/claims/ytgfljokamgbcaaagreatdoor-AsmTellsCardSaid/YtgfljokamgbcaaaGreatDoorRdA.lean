/- text.Read's small parts: a register's word, digits one by one, a number's word, how many words there are. -/
import Derived.Test.YtgfljokamgbcaaaGreatDoorTxtB
import Derived.Test.YtgfljokamgbcaaaGreatDoorTxtG
import Derived.IntWalk
namespace Go.Proofs.YtgfljokamgbcaaaGreatDoor
open Go.RowKit
set_option linter.unusedSimpArgs false
set_option linter.unusedVariables false
set_option maxRecDepth 100000

theorem u8_lt (c : UInt8) : c.toNat < 256 := by have := c.toNat_lt; simpa using this
/-- A register's word: its letter, and 0 to 7. -/
def regF (l : List UInt8) (letter : Int) : Option Int := match l with
  | [x, y] => if (x.toNat : Int) = letter ∧ 48 ≤ y.toNat ∧ y.toNat ≤ 55 then some ((y.toNat : Int) - 48) else none
  | _ => none

set_option maxHeartbeats 4000000 in
theorem reg_c (l : List UInt8) (letter : Int) (w : World) :
    Calls Tryz.prog 92 #[.string ⟨l.toArray⟩, .int .u8 letter] w fun e w' => e = .returned (.tuple #[.int .u8 ((regF l letter).getD 0), .bool (regF l letter).isSome]) ∧ w' = w := by
  by_cases c2 : l.length = 2
  · obtain ⟨x, y, rfl⟩ : ∃ x y, l = [x, y] := by
      match l, c2 with
      | [x, y], _ => exact ⟨x, y, rfl⟩
    have s0 : (⟨[x, y].toArray⟩ : ByteArray).size = 2 := rfl
    have e0 : ∀ h, (⟨[x, y].toArray⟩ : ByteArray)[0]'h = x := fun _ => rfl
    have e1 : ∀ h, (⟨[x, y].toArray⟩ : ByteArray)[1]'h = y := fun _ => rfl
    have hx := u8_lt x
    have hy := u8_lt y
    have HR : ∀ r, (if (x.toNat : Int) = letter ∧ 48 ≤ y.toNat ∧ y.toNat ≤ 55 then some ((y.toNat : Int) - 48) else none) = r → regF [x, y] letter = r := fun r h => h
    generalize (⟨[x, y].toArray⟩ : ByteArray) = s at s0 e0 e1
    by_cases c3 : (x.toNat : Int) = letter
    · have i3 : ((x.toNat : Int) != letter) = false := by simp [c3]
      by_cases c4 : 48 ≤ y.toNat
      · have i4 : ¬ (y.toNat : Int) < 48 := by omega
        by_cases c5 : y.toNat ≤ 55
        · have i5 : ¬ (55 : Int) < (y.toNat : Int) := by omega
          have hw : IntKind.u8.wrap ((y.toNat : Int) - 48) = (y.toNat : Int) - 48 := by rw [IntWalk.u8_in _ (by omega)]
          rw [HR _ (if_pos ⟨c3, c4, c5⟩)]
          go_enter Tryz.func92, Tryz.ntmps92
          go_wp2_with fail
          refine bodyPost_ret (v := .tuple #[.int .u8 ((y.toNat : Int) - 48), .bool true]) (by simp [results, Tryz.results92, go_sem]) rfl ⟨rfl, rfl⟩
        · have i5 : (55 : Int) < (y.toNat : Int) := by omega
          rw [HR _ (if_neg (by omega))]
          go_enter Tryz.func92, Tryz.ntmps92
          go_wp2_with fail
          refine bodyPost_ret (v := .tuple #[.int .u8 0, .bool false]) (by simp [results, Tryz.results92, go_sem]) rfl ⟨rfl, rfl⟩
      · have i4 : (y.toNat : Int) < 48 := by omega
        rw [HR _ (if_neg (by omega))]
        go_enter Tryz.func92, Tryz.ntmps92
        go_wp2_with fail
        refine bodyPost_ret (v := .tuple #[.int .u8 0, .bool false]) (by simp [results, Tryz.results92, go_sem]) rfl ⟨rfl, rfl⟩
    · have i3 : ((x.toNat : Int) != letter) = true := by simp [c3]
      rw [HR _ (if_neg (by omega))]
      go_enter Tryz.func92, Tryz.ntmps92
      go_wp2_with fail
      refine bodyPost_ret (v := .tuple #[.int .u8 0, .bool false]) (by simp [results, Tryz.results92, go_sem]) rfl ⟨rfl, rfl⟩
  · have hr : regF l letter = none := by
      unfold regF
      split
      · simp at c2
      · rfl
    have s0 : ((⟨l.toArray⟩ : ByteArray).size : Int) ≠ 2 := by show ((l.toArray.size : Nat) : Int) ≠ 2; simp; omega
    have i0 : (((⟨l.toArray⟩ : ByteArray).size : Int) != 2) = true := by simpa using s0
    rw [hr]
    generalize (⟨l.toArray⟩ : ByteArray) = s at s0 i0
    go_enter Tryz.func92, Tryz.ntmps92
    go_wp2_with fail
    refine bodyPost_ret (v := .tuple #[.int .u8 0, .bool false]) (by simp [results, Tryz.results92, go_sem]) rfl ⟨rfl, rfl⟩

/-- One digit more. -/
def digOk (n c : Int) : Bool := decide (48 ≤ c) && (decide (c ≤ 57) && decide (10 * n + c - 48 ≤ 2147483648))
set_option maxHeartbeats 4000000 in
theorem dig1_c (b : Nat) (n c : Int) (h0 : 0 ≤ n) (h1 : n ≤ 2147483648) (c0 : 0 ≤ c) (c1 : c < 256) (w : World) (hb : w.heap[b]? = some (.cells #[.int .i64 n] 2 (0, 0))) :
    Calls Tryz.prog 113 #[.int .u8 c, .pointer (some ⟨b, 0, none⟩)] w fun e w' => e = .returned (.bool (digOk n c)) ∧ w' = w.setCell ⟨b, 0, none⟩ (.int .i64 (10 * n + c - 48)) := by
  have k0 := (cell_of_row w b 0 _ _ _ hb).trans rfl
  have f0 := frozen_of_row w b 0 _ _ hb
  have w1 : IntKind.i64.wrap (10 * n) = 10 * n := IntWalk.i64_in _ (by omega)
  have w2 : IntKind.i64.wrap c = c := IntWalk.i64_in _ (by omega)
  have w3 : IntKind.i64.wrap (10 * n + c) = 10 * n + c := IntWalk.i64_in _ (by omega)
  have w4 : IntKind.i64.wrap (10 * n + c - 48) = 10 * n + c - 48 := IntWalk.i64_in _ (by omega)
  obtain ⟨r, hr⟩ : ∃ r, r = digOk n c := ⟨_, rfl⟩
  rw [← hr]
  have HR := Lib.hid hr
  have k1 : (w.setCell ⟨b, 0, none⟩ (.int .i64 (10 * n + c - 48))).cell? ⟨b, 0, none⟩ = some (.int .i64 (10 * n + c - 48)) := World.cell?_setCell_same' _ _ _ (by rw [k0]; rfl)
  clear hb hr
  by_cases d0 : 48 ≤ c
  · by_cases d1 : c ≤ 57
    · by_cases d2 : 10 * n + c - 48 ≤ 2147483648
      · obtain rfl : r = true := by rw [HR.out]; simp [digOk, d0, d1, d2]
        go_enter Tryz.func113, Tryz.ntmps113
        go_wp2_with fail
        go_ret
        exact ⟨rfl, rfl⟩
      · obtain rfl : r = false := by rw [HR.out]; simp [digOk, d0, d1, d2]
        go_enter Tryz.func113, Tryz.ntmps113
        go_wp2_with fail
        go_ret
        exact ⟨rfl, rfl⟩
    · obtain rfl : r = false := by rw [HR.out]; simp [digOk, d0, d1]
      go_enter Tryz.func113, Tryz.ntmps113
      go_wp2_with fail
      go_ret
      exact ⟨rfl, rfl⟩
  · obtain rfl : r = false := by rw [HR.out]; simp [digOk, d0]
    go_enter Tryz.func113, Tryz.ntmps113
    go_wp2_with fail
    go_ret
    exact ⟨rfl, rfl⟩
theorem dig2_c (b : Nat) (n : Int) (w : World) (hb : w.heap[b]? = some (.cells #[.int .i64 n] 2 (0, 0))) :
    Calls Tryz.prog 114 #[.pointer (some ⟨b, 0, none⟩)] w fun e w' => e = .returned (.int .i64 n) ∧ w' = w := by
  have k0 := (cell_of_row w b 0 _ _ _ hb).trans rfl
  clear hb
  go_enter Tryz.func114, Tryz.ntmps114
  go_wp2_with fail
  go_ret
  exact ⟨rfl, rfl⟩
theorem digits_c (w : World) :
    Calls Tryz.prog 105 #[] w fun e w' => e = .returned (.tuple #[.func (.func 113) #[] #[.pointer (some ⟨w.heap.size, 0, none⟩)], .func (.func 114) #[] #[.pointer (some ⟨w.heap.size, 0, none⟩)]]) ∧
      w' = w.alloc (.cells #[.int .i64 0] 2) := by
  go_enter Tryz.func105, Tryz.ntmps105
  go_wp2_with fail
  refine bodyPost_ret (v := .tuple #[.func (.func 113) #[] #[.pointer (some ⟨w.heap.size, 0, none⟩)], .func (.func 114) #[] #[.pointer (some ⟨w.heap.size, 0, none⟩)]]) (by simp [results, Tryz.results105, go_sem]) rfl ⟨rfl, rfl⟩

/-- How many words an instruction has. -/
def Nm.want (n : Nm) : Nat := 1 + (n.a != 0).toNat + (n.b != 0).toNat + n.imm.toNat
def cnt3 (x y z : Bool) (k : Nat) : Nat := if k = 0 then 1 else if k = 1 then 1 + x.toNat else if k = 2 then 1 + x.toNat + y.toNat else 1 + x.toNat + y.toNat + z.toNat
set_option maxHeartbeats 4000000 in
theorem want_c (n : Nm) (w : World) :
    Calls Tryz.prog 91 #[.agg n.cells.toArray] w fun e w' => e = .returned (.int .i64 (n.want : Int)) ∧ Below w.heap.size w w' := by
  obtain ⟨word, op, a, b, imm⟩ := n
  unfold Nm.cells Nm.want
  simp only
  generalize (⟨word.toArray⟩ : ByteArray) = s
  have hx : (a != 0) = (a != 0) := rfl
  obtain ⟨x, hx⟩ : ∃ x, x = (a != 0) := ⟨_, rfl⟩
  obtain ⟨y, hy⟩ : ∃ y, y = (b != 0) := ⟨_, rfl⟩
  rw [← hx, ← hy]
  obtain ⟨t, ht⟩ : ∃ t, t = 1 + x.toNat + y.toNat + imm.toNat := ⟨_, rfl⟩
  rw [← ht]
  have HT := Lib.hid ht
  have HX := Lib.hid hx
  have HY := Lib.hid hy
  clear ht hx hy
  go_enter Tryz.func91, Tryz.ntmps91
  go_wp2_with fail
  rw [← HX.out, ← HY.out]
  have B1 := (((Below.refl w.heap.size w).alloc (Nat.le_refl _) (.cells #[.string s, .int .u8 op, .int .u8 a, .int .u8 b, .bool imm] 104)).alloc (by simp) (.cells #[.bool x, .bool y, .bool imm] 4))
  have q : ∀ k v, (#[Value.bool x, Value.bool y, Value.bool imm])[k]? = some v → ((w.alloc (.cells #[.string s, .int .u8 op, .int .u8 a, .int .u8 b, .bool imm] 104)).alloc (.cells #[.bool x, .bool y, .bool imm] 4)).cell? ⟨w.heap.size + 1, k, none⟩ = some v := fun k v hv =>
    (cell_of_row _ _ k _ _ _ (heap_newT (k := w.heap.size + 1) (by simp))).trans hv
  have q0 := q 0 _ rfl
  have q1 := q 1 _ rfl
  have q2 := q 2 _ rfl
  clear q
  go_loopg [3, 16] 3 (fun gk v3 vk wr => ∃ k : Nat, gk + k = 3 ∧ vk = .int .i64 (k : Int) ∧ v3 = .int .i64 (cnt3 x y imm k : Int) ∧ wr = ((w.alloc (.cells #[.string s, .int .u8 op, .int .u8 a, .int .u8 b, .bool imm] 104)).alloc (.cells #[.bool x, .bool y, .bool imm] 4)))
  case atStart => exact ⟨0, rfl, rfl, rfl, rfl⟩
  case round =>
    obtain ⟨k, hk, rfl, rfl, rfl⟩ := hrel
    rcases (by omega : k = 0 ∨ k = 1 ∨ k = 2 ∨ k = 3) with rfl | rfl | rfl | rfl
    · cases x
      all_goals
        go_wp2_with fail
        go_roundg (gk - 1)
        case measure => omega
        case rel => exact ⟨1, by omega, rfl, by first | rfl | (simp [cnt3]; done) | (simp [cnt3]; exact IntWalk.wrap64_in _ (by decide)) | (simp [cnt3]; rfl), rfl⟩
    · cases y <;> cases x
      all_goals
        go_wp2_with fail
        go_roundg (gk - 1)
        case measure => omega
        case rel => exact ⟨2, by omega, rfl, by first | rfl | (simp [cnt3]; done) | (simp [cnt3]; exact IntWalk.wrap64_in _ (by decide)) | (simp [cnt3]; rfl), rfl⟩
    · cases imm <;> cases x <;> cases y
      all_goals
        go_wp2_with fail
        go_roundg (gk - 1)
        case measure => omega
        case rel => exact ⟨3, by omega, rfl, by first | rfl | (simp [cnt3]; done) | (simp [cnt3]; exact IntWalk.wrap64_in _ (by decide)) | (simp [cnt3]; rfl), rfl⟩
    · go_wp2_with fail
      go_ret
      exact ⟨by rw [HT.out]; rfl, B1⟩
end Go.Proofs.YtgfljokamgbcaaaGreatDoor
