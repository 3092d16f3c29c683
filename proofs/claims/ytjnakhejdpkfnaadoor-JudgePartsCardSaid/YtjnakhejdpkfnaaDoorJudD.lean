/- judge: numbers in digits, a pair, the teller. -/
import Derived.Test.YtjnakhejdpkfnaaDoorJudB
import Derived.Test.YtjnakhejdpkfnaaDoorShelf
import Derived.Lib.AppendIntMem
import Derived.Lib.ItoaNum
import Derived.IntWalk
import Derived.WalkSpells
namespace Go.Proofs.YtjnakhejdpkfnaaDoor
open Go.RowKit
set_option linter.unusedSimpArgs false
set_option linter.unusedVariables false
set_option maxRecDepth 100000

theorem dec_lenJ : ∀ (k u : Nat), u < 10 ^ (k + 1) → (Lib.decDigits u).length ≤ k + 1
  | 0, u, h => by
    unfold Lib.decDigits
    rw [dif_pos (by simpa using h)]; simp
  | k + 1, u, h => by
    unfold Lib.decDigits
    split
    · simp
    · have := dec_lenJ k (u / 10) (by rw [Nat.pow_succ] at h; omega)
      simp; omega
theorem itoa_lenJ (n : Int) (h0 : -9223372036854775808 ≤ n) (h1 : n ≤ 9223372036854775807) : (Lib.itoa n).length ≤ 20 := by
  unfold Lib.itoa
  split
  · have := dec_lenJ 18 n.natAbs (by omega)
    simp; omega
  · have := dec_lenJ 18 n.toNat (by omega)
    omega

abbrev pTab (w : World) : Prop := Lib.TabBelow Tryd.prog w.heap.size w "internal/strconv.uint64pow10" .u64 Lib.pow10Tab

theorem below_growJ (w : World) (q : Nat) (os : Array Obj) : Below w.heap.size w (Sort.grow (w.drewN q) os) :=
  ⟨rfl, rfl, rfl, by simp [Sort.grow], fun i hi => by
    show ((w.drewN q).heap ++ os)[i]? = _
    rw [Array.getElem?_append_left (by show i < w.heap.size; omega)]
    rfl⟩
theorem itoa_c (n : Int) (h0 : -9223372036854775808 ≤ n) (h1 : n ≤ 9223372036854775807) (w : World) (ht : Lib.TabIs Tryd.prog w "internal/strconv.uint64pow10" .u64 Lib.pow10Tab) :
    Calls Tryd.prog 47 #[.int .i64 n] w fun e w' => e = .returned (.string ⟨(Lib.itoa n).toArray⟩) ∧ Below w.heap.size w w' :=
  (Tryd.strconv_Itoa n h0 h1 w ht).mono fun e w' ⟨he, k, os, hw⟩ => ⟨he, by rw [hw]; exact below_growJ _ _ _⟩

/-- A number in digits. -/
def numS (n : Int) : ByteArray := ⟨(Lib.itoa n).toArray⟩
theorem numS_size (n : Int) (h0 : -9223372036854775808 ≤ n) (h1 : n ≤ 9223372036854775807) : (numS n).size ≤ 20 := by
  unfold numS; simpa [ByteArray.size] using itoa_lenJ n h0 h1
def bothS (a b : ByteArray) : ByteArray := a ++ ⟨#[44, 32]⟩ ++ b
theorem below_nextJ {a w w1 : World} (h : Below a.heap.size a w) (h1 : Below w.heap.size w w1) : Below a.heap.size a w1 := h.trans (h1.mono h.size)

theorem number_c (n : Int) (h0 : -9223372036854775808 ≤ n) (h1 : n ≤ 9223372036854775807) (w : World) (ht : Lib.TabIs Tryd.prog w "internal/strconv.uint64pow10" .u64 Lib.pow10Tab) :
    Calls Tryd.prog 50 #[.int .i64 n] w fun e w' => e = .returned (.string (numS n)) ∧ Below w.heap.size w w' := by
  have HI := Lib.hid (itoa_c n h0 h1 w ht)
  unfold numS
  generalize (⟨(Lib.itoa n).toArray⟩ : ByteArray) = s at HI
  clear ht
  go_enter Tryd.func50, Tryd.ntmps50
  go_wp2_with fail
  refine HI.out.mono ?_
  rintro e w1 ⟨rfl, hb⟩
  go_wp2_with fail
  go_ret
  exact ⟨rfl, hb⟩

theorem both_c (a b : ByteArray) (ha : a.size ≤ 1000) (hb : b.size ≤ 1000) (w : World) :
    Calls Tryd.prog 49 #[.string a, .string b] w fun e w' => e = .returned (.string (bothS a b)) ∧ w' = w := by
  have z1 : (a ++ (⟨#[44, 32]⟩ : ByteArray)).size ≤ 1002 := by rw [ByteArray.size_append]; show a.size + 2 ≤ 1002; omega
  go_enter Tryd.func49, Tryd.ntmps49
  go_wp2_with fail
  go_ret
  exact ⟨rfl, rfl⟩

/-- What the teller puts behind what it has. -/
def sayS (s x : ByteArray) : ByteArray := if s.toList = [] then s ++ x else s ++ ⟨#[32]⟩ ++ x

/-- The teller's box. -/
structure TBox (w : World) (bt : Nat) (s : ByteArray) : Prop where
  t : w.heap[bt]? = some (.cells #[.string s] 64 (0, 0))

theorem row_setJ {w : World} {b : Nat} {A : Array Value} {t : TypeId} {f : Nat × Nat} (h : w.heap[b]? = some (.cells A t f)) (j : Nat) (v : Value) : (w.setCell ⟨b, j, none⟩ v).heap[b]? = some (.cells (A.setIfInBounds j v) t f) := by
  show (w.heap.modify b _)[b]? = _
  rw [Array.getElem?_modify, if_pos rfl, h]
  rfl
theorem TBox.set {w : World} {bt : Nat} {s : ByteArray} (h : TBox w bt s) (x : ByteArray) : TBox (w.setCell ⟨bt, 0, none⟩ (.string x)) bt x := ⟨row_setJ h.t 0 (.string x)⟩
theorem grownBy_setJ (w : World) (tb j : Nat) (v : Value) : w.grownBy (w.setCell ⟨tb, j, none⟩ v) (some tb) :=
  ⟨rfl, rfl, rfl, by simp [World.setCell], fun k hk hr => Below.heap_setCell w ⟨tb, j, none⟩ v k (fun e => hr (by simp [e]))⟩
theorem grownBy_thenJ {a b c : World} {r : Option Nat} (h : a.grownBy b r) (k : b.grownBy c r) : a.grownBy c r :=
  ⟨k.os.trans h.os, k.tape.trans h.tape, k.output.trans h.output, Nat.le_trans h.size k.size, fun i hi hr => (k.block i (Nat.lt_of_lt_of_le hi h.size) hr).trans (h.block i hi hr)⟩

set_option maxHeartbeats 2000000 in
theorem say_c (s x : ByteArray) (bt : Nat) (hs : s.size ≤ 1000) (hx : x.size ≤ 1000) (w : World) (hb : TBox w bt s) :
    Calls Tryd.prog 31 #[.pointer (some ⟨bt, 0, none⟩), .string x] w fun e w' => (∃ v, e = .returned v) ∧ TBox w' bt (sayS s x) ∧ w.grownBy w' (some bt) := by
  have k0 : w.cell? ⟨bt, 0, none⟩ = some (.string s) := (cell_of_row w _ _ _ _ _ hb.t).trans rfl
  have f0 := frozen_of_row w bt 0 _ _ hb.t
  have z1 : (s ++ (⟨#[32]⟩ : ByteArray)).size ≤ 1001 := by rw [ByteArray.size_append]; show s.size + 1 ≤ 1001; omega
  unfold sayS
  have HB := Lib.hid hb
  clear hb
  by_cases c : s.toList = []
  · rw [if_pos c]
    have hz : s.toList.isEmpty = true := by rw [c]; rfl
    go_enter Tryd.func31, Tryd.ntmps31
    go_wp2_with fail
    go_end0
    exact ⟨⟨_, rfl⟩, HB.out.set _, grownBy_setJ _ _ _ _⟩
  · rw [if_neg c]
    have hz : s.toList.isEmpty = false := by cases h : s.toList; exact absurd h c; rfl
    go_enter Tryd.func31, Tryd.ntmps31
    go_wp2_with fail
    go_end0
    exact ⟨⟨_, rfl⟩, (HB.out.set _).set _, grownBy_thenJ (grownBy_setJ _ _ _ _) (grownBy_setJ _ _ _ _)⟩
end Go.Proofs.YtjnakhejdpkfnaaDoor
