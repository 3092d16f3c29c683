/- list.Dump; the document's digits and Dump. -/
import Derived.Test.YtocgiapkapekdaaDoorLstE
import Derived.Lib.FrozenHead
namespace Go.Proofs.YtocgiapkapekdaaDoor
open Go.RowKit
set_option linter.unusedSimpArgs false
set_option linter.unusedVariables false
set_option maxRecDepth 100000

/-- The first lines of a dump, of sixteen bytes each. -/
def dumpL (L : List Int) (from' : Nat) (n : Nat) : List UInt8 := (List.range n).flatMap fun r => rowL ((L.drop (r * 16)).take 16) ((from' + r * 16) % 4294967296)
theorem dumpL_succ (L : List Int) (from' n : Nat) : dumpL L from' (n + 1) = dumpL L from' n ++ rowL ((L.drop (n * 16)).take 16) ((from' + n * 16) % 4294967296) := by
  unfold dumpL
  rw [List.range_succ, List.flatMap_append]
  simp
theorem row_len (L : List Int) (hL : L.length ≤ 16) (n : Nat) : (rowL L n).length ≤ 100 := by
  have h1 := join_le (L.map fun x => hexL x.toNat 2) 2 (fun x hx => by
    obtain ⟨y, -, rfl⟩ := List.mem_map.1 hx
    rw [dig_len]; omega)
  rw [List.length_map] at h1
  unfold rowL lineL
  simp only [List.flatten_cons, List.flatten_nil, List.length_append, List.length_cons, List.length_nil, List.length_map, dig_len]
  omega
theorem dump_len (L : List Int) (from' : Nat) : ∀ n, (dumpL L from' n).length ≤ n * 100
  | 0 => by simp [dumpL]
  | n + 1 => by
    have := dump_len L from' n
    have h := row_len ((L.drop (n * 16)).take 16) (by simp; omega) ((from' + n * 16) % 4294967296)
    rw [dumpL_succ, List.length_append]; omega
theorem isB_keepH {T e : TypeId} {B b : Nat} {bs : List Value} {w w' : World} (h : Lib.IsBuilderF T e B b bs w) (hb : Below w.heap.size w w') : Lib.IsBuilderF T e B b bs w' := by
  have key : ∀ p, Lib.BuilderAtF T e B b p bs w → Lib.BuilderAtF T e B b p bs w' := fun p h => by
    obtain ⟨h1, v, h2, h3, h4⟩ := h
    refine ⟨h1, v, (hb.block _ (Array.getElem?_eq_some_iff.1 h2).1).trans h2, ?_, h4⟩
    refine ⟨h3.1, ?_⟩
    rcases h3.2 with h | ⟨g, cap, cur, fz, q1, q2, q3, q4⟩
    · exact .inl h
    · exact .inr ⟨g, cap, cur, fz, q1, q2, (hb.block _ (Array.getElem?_eq_some_iff.1 q3).1).trans q3, q4⟩
  rcases h with h | h
  · exact .inl (key _ h)
  · exact .inr (key _ h)
theorem ByteArg.belowH {w w' : World} {ao : Option Addr} {len cap : Nat} {L : List Int} (h : ByteArg w ao len cap L) (hb : Below w.heap.size w w') : ByteArg w' ao len cap L := by
  refine ⟨h.1, h.2.1, h.2.2.1, h.2.2.2.1, ?_⟩
  rcases h.2.2.2.2 with h | ⟨blk, off, e, h⟩
  · exact .inl h
  · exact .inr ⟨blk, off, e, fun i hi => by
      have := h i hi
      exact (hb.cell (World.block_lt_of_cell? w _ this)).trans this⟩
theorem sub_arg {w : World} {blk off la ca : Nat} {L : List Int} (h : ByteArg w (some ⟨blk, off, none⟩) la ca L) (o : Nat) (ho : o < L.length) : ByteArg w (some ⟨blk, off + o, none⟩) ((L.drop o).take 16).length (ca - o) ((L.drop o).take 16) := by
  obtain ⟨h1, h2, h3, h4, h5⟩ := h
  refine ⟨rfl, by simp; omega, by omega, fun x hx => h4 x (List.mem_of_mem_drop (List.mem_of_mem_take hx)), .inr ⟨blk, off + o, rfl, fun i hi => ?_⟩⟩
  rcases h5 with h | ⟨b, o', e, h⟩
  · rw [h] at ho; simp at ho
  · cases e
    have hi2 : o + i < L.length := by simp at hi; omega
    have := h (o + i) hi2
    rw [Nat.add_assoc, this]
    have hi : i < 16 := by simp at hi; omega
    have e : ((L.drop o).take 16)[i]? = L[o + i]? := by rw [List.getElem?_take, if_pos (by omega), List.getElem?_drop]
    rw [List.getD_eq_getElem?_getD, List.getD_eq_getElem?_getD, e]
theorem cells_app (l : List UInt8) (x : List UInt8) : Lib.byteCells l ++ Lib.strCells (sH x) = Lib.byteCells (l ++ x) := by
  unfold Lib.byteCells Lib.strCells
  simp

set_option maxHeartbeats 8000000 in
theorem dump_c (blk off la ca : Nat) (L : List Int) (from' : Nat) (hf : from' < 4294967296) (hL : L.length ≤ 400) (w : World) (hA : ByteArg w (some ⟨blk, off, none⟩) la ca L) (hne : L ≠ []) :
    Calls Tryd.prog 12 #[.slice (some ⟨blk, off, none⟩) la ca, .int .u32 (from' : Int)] w fun e w' => e = .returned (.string (sH (dumpL L from' ((L.length + 15) / 16)))) ∧ Below w.heap.size w w' := by
  have hR := Lib.hid fun (W : World) (hb : Below w.heap.size w W) (r : Nat) (hr : r * 16 < L.length) =>
    row_c (some ⟨blk, off + r * 16, none⟩) ((L.drop (r * 16)).take 16).length (ca - r * 16) ((L.drop (r * 16)).take 16) ((from' + r * 16) % 4294967296) (Nat.mod_lt _ (by decide)) (by simp; omega) (by
      intro h
      have := congrArg List.length h
      simp at this
      omega) W (sub_arg (hA.belowH hb) (r * 16) hr)
  have HWr := Lib.hid fun (bs : List Value) (s : ByteArray) (W : World) (h : Lib.IsBuilderF tB 5 w.heap.size w.heap.size bs W) (hlen : bs.length + s.size ≤ 140737488355328) (hBw : w.heap.size ≤ W.heap.size) => write_c w.heap.size w.heap.size bs s W h hlen hBw
  have HSt := Lib.hid fun (l : List UInt8) (W : World) (h : Lib.IsBuilderF tB 5 w.heap.size w.heap.size (Lib.byteCells l) W) (hBw : w.heap.size ≤ W.heap.size) => Tryd.Builder_String_any_f w.heap.size w.heap.size l W h hBw
  obtain ⟨a1, a2, a3, -⟩ := hA
  subst a1
  have hpos : 0 < L.length := List.length_pos_iff.2 hne
  go_enter Tryd.func12, Tryd.ntmps12
  go_wp2_with fail
  have hB0 : Lib.IsBuilderF tB 5 w.heap.size w.heap.size (Lib.byteCells (dumpL L from' 0)) (w.alloc (.cells #[.pointer none, .slice none 0 0] tB)) := Lib.IsBuilderF.of (Lib.fresh_isBuilder tB 5 w)
  have hHB := Lib.hid hB0
  clear hB0
  go_loopg [6] ((L.length + 15) / 16) (fun gk vk wr => ∃ k : Nat, gk + k = (L.length + 15) / 16 ∧ vk = .int .i64 ((k * 16 : Nat) : Int) ∧ Hid (Lib.IsBuilderF tB 5 w.heap.size w.heap.size (Lib.byteCells (dumpL L from' k)) wr) ∧ Below w.heap.size w wr)
  case atStart => exact ⟨0, by omega, rfl, hHB, (Below.refl _ _).alloc (Nat.le_refl _) _⟩
  case round =>
    obtain ⟨k, hk, rfl, HI, hB⟩ := hrel
    by_cases c : k * 16 < L.length
    · have i1 : ((k * 16 : Nat) : Int) < (L.length : Int) := by omega
      have hRk := hR.out
      have hRk2 := hRk wr hB k c
      have e1 : ((min ((k : Int) * 16 + 16) (L.length : Int)).toNat - k * 16) = ((L.drop (k * 16)).take 16).length := by simp; omega
      have e2 : ((from' : Int) + (k : Int) * 16) % 4294967296 = (((from' + k * 16) % 4294967296 : Nat) : Int) := by omega
      rw [← e1, ← e2] at hRk2
      have hRk2 := Lib.hid hRk2
      have hdl := dump_len L from' k
      have hrl := row_len ((L.drop (k * 16)).take 16) (by simp; omega) ((from' + k * 16) % 4294967296)
      have hds := Lib.hid (dumpL_succ L from' k)
      clear hRk e1 e2
      generalize rowL ((L.drop (k * 16)).take 16) ((from' + k * 16) % 4294967296) = rl at hRk2 hrl hds
      have hsz : (sH rl).size ≤ 100 := by show rl.toArray.size ≤ 100; simpa using hrl
      go_wp2_with fail
      refine (hRk2.out).mono ?_
      rintro e w1 ⟨rfl, hb1⟩
      have hI1 := isB_keepH HI.out hb1
      have hB1 := hB.trans (hb1.mono hB.size)
      have HW1 := HWr.out _ (sH rl) w1 hI1 (by rw [Lib.byteCells_length]; omega) hB1.size
      rw [cells_app, ← hds.out] at HW1
      have HW1 := Lib.hid HW1
      clear hI1
      generalize sH rl = s at HW1 hsz
      go_wp2_with fail
      refine (HW1.out).mono ?_
      rintro e w2 ⟨rfl, hI2, hb2⟩
      have hI2 := Lib.hid hI2
      go_wp2_with fail
      go_roundg (gk - 1)
      case measure => omega
      case rel => exact ⟨k + 1, by omega, by go_num, hI2, hB1.trans hb2⟩
    · have i1 : ¬ ((k * 16 : Nat) : Int) < (L.length : Int) := by omega
      have hkn : k = (L.length + 15) / 16 := by omega
      go_wp2_with fail
      refine (HSt.out _ _ HI.out hB.size).mono ?_
      rintro e w1 ⟨rfl, -, hb1⟩
      go_wp2_with fail
      go_ret
      exact ⟨rfl, hB.trans hb1⟩
end Go.Proofs.YtocgiapkapekdaaDoor
