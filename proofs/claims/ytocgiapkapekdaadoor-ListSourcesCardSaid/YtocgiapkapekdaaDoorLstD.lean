/- list.hex -/
import Derived.Test.YtocgiapkapekdaaDoorLstC
import Derived.Test.YtocgiapkapekdaaDoorBytes
import Derived.Deep.LoopGhost
import Derived.IntWalk
import Derived.Laws.BytesArg
import Derived.Laws.MakeOwn
namespace Go.Proofs.YtocgiapkapekdaaDoor
open Go.RowKit
set_option linter.unusedSimpArgs false
set_option linter.unusedVariables false
set_option maxRecDepth 100000

theorem made_bytes : ∀ d : Nat, madeCells (Value.int .u8 0).cells d = Array.replicate d (.int .u8 0) := by
  intro d
  apply Array.ext
  · simp [madeCells, Value.cells]
  · intro i h1 h2
    simp [madeCells, Value.cells, Nat.mod_one]
theorem mk_bytes (d : Nat) (hd : d ≤ 1000) (w : World) : (Instr.makeSlice 22 (.int .i64 (d : Int)) (.int .i64 (d : Int))).run Tryd.prog w = .ok (.slice (some ⟨w.heap.size, 0, none⟩) d d) (w.alloc (.cells (Array.replicate d (.int .u8 0)) 5)) := by
  obtain ⟨i0, hi, hz0, hz1, hz2⟩ := info_parts Tryd.infoByteB
  have h := run_makeSlice (P := Tryd.prog) w 22 5 i0 _ Tryd.underlying22 hi hz0 .i64 .i64 (d : Int) (d : Int) (by omega) (by omega) (by rw [hz1]; simp; omega) (by rw [hz2]; omega) (by omega)
  rw [h, hz1, Nat.mul_one]
  simp only [Int.toNat_natCast]
  rw [made_bytes]

theorem heap_newH {w : World} {o : Obj} {k : Nat} (hk : k = w.heap.size) : (w.alloc o).heap[k]? = some o := by subst hk; exact heap_alloc_new w o
theorem heap_oldH {w : World} {o x : Obj} {k : Nat} (h : w.heap[k]? = some x) : (w.alloc o).heap[k]? = some x := by
  have hk : k < w.heap.size := (Array.getElem?_eq_some_iff.1 h).1
  rw [heap_alloc_old w o hk]; exact h
theorem row_setH {w : World} {b : Nat} {A : Array Value} {t : TypeId} {f : Nat × Nat} (h : w.heap[b]? = some (.cells A t f)) (j : Nat) (v : Value) : (w.setCell ⟨b, j, none⟩ v).heap[b]? = some (.cells (A.setIfInBounds j v) t f) := by
  show (w.heap.modify b _)[b]? = _
  rw [Array.getElem?_modify, if_pos rfl, h]
  rfl
theorem and15 (m : Nat) (h : m < 4294967296) : bits .and .u32 (m : Int) 15 = ((m % 16 : Nat) : Int) := by
  have h2 : m &&& (2 ^ 4 - 1 : Nat) = m % 2 ^ 4 := Nat.and_two_pow_sub_one_eq_mod _ _
  rw [u32_and _ _ (by omega) (by omega) (by omega) (by omega)]
  simp only [Int.toNat_natCast, show (15 : Int).toNat = 15 from rfl]
  simp at h2
  rw [h2]
theorem ba_extH {x y : ByteArray} (h : x.data.toList = y.data.toList) : x = y := by
  cases x; cases y
  simp only [ByteArray.mk.injEq]
  exact Array.toList_inj.1 h
theorem cv_row (W : World) (b len cap : Nat) (l : List UInt8) (hl : l.length = len) (t : TypeId) (f : Nat × Nat) (h : W.heap[b]? = some (.cells (Lib.byteCells l).toArray t f)) :
    (convert 22 9 (.slice (some ⟨b, 0, none⟩) len cap)).run Tryd.prog W = .ok (.string ⟨l.toArray⟩) W := by
  have e : strOfNums (l.map fun b => (b.toNat : Int)) = ⟨l.toArray⟩ := by
    apply ba_extH
    rw [strOfNums_data, List.map_map]
    show l.map _ = l
    conv => rhs; rw [← List.map_id l]
    apply List.map_congr_left
    intro c _
    simp
  rw [← e]
  refine run_convert_bytes_arg W 22 5 Tryd.underlying22 Tryd.underlying5 b 0 len cap _ (by simpa using hl) (fun i hi => ?_) 9 Tryd.underlying9
  refine (cell_of_row W b (0 + i) _ _ _ h).trans ?_
  rw [Nat.zero_add, List.getElem?_toArray]
  unfold Lib.byteCells
  rw [List.getElem?_map, List.getElem?_eq_getElem (by omega)]
  simp [List.getElem?_eq_getElem (show i < l.length by omega)]
/-- A digit to the base 16. -/
def hxD (x : Nat) : UInt8 := UInt8.ofNat (if x < 10 then 48 + x else 87 + x)
/-- A number's lowest digits. -/
def hexL (n d : Nat) : List UInt8 := (List.range d).map fun j => hxD (n / 16 ^ (d - 1 - j) % 16)
abbrev hxS : ByteArray := ⟨#[48, 49, 50, 51, 52, 53, 54, 55, 56, 57, 97, 98, 99, 100, 101, 102]⟩
theorem hx_at : ∀ (x : Nat) (h : x < 16), ∀ h', hxS[x]'h' = hxD x := by
  intro x h h'
  have key : ∀ i : Fin 16, hxS.data[i.val]? = some (hxD i.val) := by decide +kernel
  have := key ⟨x, h⟩
  obtain ⟨h1, h2⟩ := Array.getElem?_eq_some_iff.1 this
  exact h2
def rowH (n d k : Nat) : Array Value := ((List.range d).map fun j => Value.int .u8 (if d - k ≤ j then ((hxD (n / 16 ^ (d - 1 - j) % 16)).toNat : Int) else 0)).toArray
theorem rowH_zero (n d : Nat) : rowH n d 0 = Array.replicate d (.int .u8 0) := by
  unfold rowH
  apply Array.ext
  · simp
  · intro i h1 h2
    have : i < d := by simpa using h2
    simp; omega
theorem rowH_set (n d k : Nat) (hk : k < d) : (rowH n d k).setIfInBounds (d - 1 - k) (.int .u8 ((hxD (n / 16 ^ k % 16)).toNat : Int)) = rowH n d (k + 1) := by
  unfold rowH
  apply Array.toList_inj.1
  rw [Array.toList_setIfInBounds]
  simp only
  apply List.ext_getElem?
  intro i
  rw [List.getElem?_set, List.getElem?_map, List.getElem?_map]
  by_cases hi : i < d
  · rw [List.getElem?_range hi]
    by_cases c : d - 1 - k = i
    · have e : d - 1 - i = k := by omega
      rw [if_pos c, if_pos (by simp; omega)]
      simp only [Option.map_some, e]
      rw [if_pos (by omega)]
    · rw [if_neg c]
      simp only [Option.map_some]
      by_cases c2 : d - k ≤ i
      · rw [if_pos c2, if_pos (by omega)]
      · rw [if_neg c2, if_neg (by omega)]
  · rw [if_neg (by omega), List.getElem?_eq_none (by simpa using hi)]
    rfl
theorem rowH_at (n d k j : Nat) (hj : j < d) : ∃ v, (rowH n d k)[j]? = some (.int .u8 v) := by
  unfold rowH
  rw [List.getElem?_toArray, List.getElem?_map, List.getElem?_range hj]
  exact ⟨_, rfl⟩
theorem rowH_full (n d : Nat) : rowH n d d = (Lib.byteCells (hexL n d)).toArray := by
  unfold rowH hexL Lib.byteCells
  rw [List.map_map]
  congr 1
  apply List.map_congr_left
  intro j _
  simp

set_option maxHeartbeats 4000000 in
set_option maxRecDepth 100000 in
theorem hex_c (n d : Nat) (hn : n < 4294967296) (hd : d ≤ 100) (w : World) :
    Calls Tryd.prog 39 #[.int .u32 (n : Int), .int .i64 (d : Int)] w fun e w' => e = .returned (.string ⟨(hexL n d).toArray⟩) ∧ Below w.heap.size w w' := by
  have hmk := mk_bytes d (by omega) w
  go_enter Tryd.func39, Tryd.ntmps39
  go_wp2_with fail
  go_loopg [0, 10] d (fun gk v0 vk wr => ∃ (k : Nat), gk + k = d ∧ vk = .int .i64 (k : Int) ∧ v0 = .int .u32 ((n / 16 ^ k : Nat) : Int) ∧ wr.heap[w.heap.size]? = some (.cells (rowH n d k) 5 (0, 0)) ∧ Below w.heap.size w wr)
  case atStart => exact ⟨0, by omega, rfl, by simp, by rw [rowH_zero]; exact heap_newH rfl, (Below.refl _ _).alloc (Nat.le_refl _) _⟩
  case round =>
    obtain ⟨k, hk, rfl, rfl, hrow, hB⟩ := hrel
    have HR := Lib.hid hrow
    clear hrow
    have hm : n / 16 ^ k < 4294967296 := Nat.lt_of_le_of_lt (Nat.div_le_self _ _) hn
    by_cases c : k < d
    · have i1 : (k : Int) < (d : Int) := by omega
      have ea : bits .and .u32 ((n / 16 ^ k : Nat) : Int) 15 = ((n / 16 ^ k % 16 : Nat) : Int) := and15 _ hm
      have eh := hx_at (n / 16 ^ k % 16) (Nat.mod_lt _ (by decide))
      have hd2 : n / 16 ^ (k + 1) = n / 16 ^ k / 16 := by rw [Nat.pow_succ, Nat.div_div_eq_div_mul]
      have hmod : n / 16 ^ k % 16 < 16 := Nat.mod_lt _ (by decide)
      have HS := Lib.hid (rowH_set n d k c)
      have HD2 := Lib.hid hd2
      obtain ⟨v0, hv0⟩ := rowH_at n d k (d - 1 - k) (by omega)
      have k0 := (cell_of_row wr w.heap.size (d - 1 - k) _ _ _ HR.out).trans hv0
      have f0 := frozen_of_row wr w.heap.size (d - 1 - k) _ _ HR.out
      clear hd2 hv0
      generalize n / 16 ^ k = m at ea eh hm hmod HS HD2
      go_wp2_with fail
      go_roundg (gk - 1)
      case measure => omega
      case rel => exact ⟨k + 1, by omega, by go_num, by rw [HD2.out]; simp, by have := row_setH HR.out (d - 1 - k) (.int .u8 ((hxD (m % 16)).toNat : Int)); rw [HS.out] at this; exact this, hB.setCell (p := ⟨w.heap.size, d - 1 - k, none⟩) (Nat.le_refl _) _⟩
    · have i1 : ¬ (k : Int) < (d : Int) := by omega
      obtain rfl : k = d := by omega
      have hrow := HR.out
      rw [rowH_full] at hrow
      have hcv := cv_row wr w.heap.size k k (hexL n k) (by simp [hexL]) _ _ hrow
      go_wp2_with fail
      go_ret
      exact ⟨rfl, hB⟩
end Go.Proofs.YtocgiapkapekdaaDoor
