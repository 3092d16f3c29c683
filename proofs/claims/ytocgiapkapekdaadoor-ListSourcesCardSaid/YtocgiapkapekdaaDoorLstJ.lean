/- list.places: what stands at each place, as it comes one by one. -/
import Derived.RangeFuncNested
import Derived.RangeFuncBound
import Derived.RangeFuncCalls
import Derived.RangeFuncLeaves
import Derived.Shelf.Abstract
import Derived.Shelf.RegionOpen
import Derived.WalkKit
import Derived.OwnWalkIn
import Derived.TacticsInMore
import Derived.LoopNIn
import Derived.LoopIn
import Derived.Test.YtocgiapkapekdaaDoorLstI
namespace Go.Proofs.YtocgiapkapekdaaDoor
open Go.RowKit Go.Shelf
set_option linter.unusedSimpArgs false
set_option linter.unusedVariables false
set_option maxRecDepth 100000
attribute [local go_sem] Oper.semAt_some

/-- A line's text: of at most 100 bytes. -/
abbrev PlT := { t : List UInt8 // t.length ≤ 100 }
def plT (L : List Int) (a : Nat) : PlT := ⟨(oneT L a).take 100, by simp; omega⟩
theorem show_len100 {op a b imm : Int} (h6 : -2147483648 ≤ imm) (h7 : imm < 2147483648) : (showL op a b imm).length ≤ 100 := by
  unfold showL
  split
  · split
    · rename_i n hf
      obtain ⟨k, hk⟩ := List.getElem?_of_mem (List.mem_of_find?_eq_some hf)
      obtain ⟨_, _, _, _, hw⟩ := nm_is hk
      have hi := itoa_len imm h6 h7
      unfold Nm.show regL numL
      simp only [List.length_append]
      split <;> split <;> split <;> simp <;> omega
    · simp
  · simp
theorem oneT_len {L : List Int} (hb : ∀ x ∈ L, 0 ≤ x ∧ x < 256) {a : Nat} (ha : a < L.length) : (oneT L a).length ≤ 100 := by
  unfold oneT
  split
  · have := decR_bd (L.drop a) (fun x hx => hb x (List.mem_of_mem_drop hx))
    exact show_len100 (by omega) (by omega)
  · have hx : 0 ≤ L.getD a 0 ∧ L.getD a 0 < 256 := by
      have : L.getD a 0 = L[a] := by simp [List.getD, List.getElem?_eq_getElem ha]
      rw [this]; exact hb _ (List.getElem_mem ha)
    have hi := itoa_len (L.getD a 0) (by omega) (by omega)
    simp only [List.length_append, List.length_cons, List.length_nil]; omega
theorem plT_eq {L : List Int} (hb : ∀ x ∈ L, 0 ≤ x ∧ x < 256) {a : Nat} (ha : a < L.length) : (plT L a).1 = oneT L a := List.take_of_length_le (oneT_len hb ha)
/-- What stands at the places from one on. -/
def srcL (L : List Int) : Nat → Nat → List (Nat × PlT)
  | 0, _ => []
  | f + 1, a => if a < L.length then (a, plT L a) :: srcL L f (a + (oneN L a).toNat) else []
theorem srcL_end (L : List Int) (f a : Nat) (h : L.length ≤ a) : srcL L f a = [] := by
  cases f
  · rfl
  · rw [srcL, if_neg (by omega)]
theorem srcL_fuel (L : List Int) : ∀ (f g a : Nat), L.length - a ≤ f → L.length - a ≤ g → srcL L f a = srcL L g a
  | 0, g, a, h1, _ => by rw [srcL_end L g a (by omega)]; rfl
  | f + 1, 0, a, _, h2 => by rw [srcL_end L (f + 1) a (by omega)]; rfl
  | f + 1, g + 1, a, h1, h2 => by
    rw [srcL, srcL]
    by_cases c : a < L.length
    · rw [if_pos c, if_pos c]
      have := oneN_bd c
      rw [srcL_fuel L f g _ (by omega) (by omega)]
    · rw [if_neg c, if_neg c]
theorem srcL_step (L : List Int) {a : Nat} (h : a < L.length) : srcL L (L.length - a) a = (a, plT L a) :: srcL L (L.length - (a + (oneN L a).toNat)) (a + (oneN L a).toNat) := by
  obtain ⟨f, hf⟩ : ∃ f, L.length - a = f + 1 := ⟨L.length - a - 1, by omega⟩
  have := oneN_bd h
  rw [hf, srcL, if_pos h]
  rw [srcL_fuel L f (L.length - (a + (oneN L a).toNat)) _ (by omega) (by omega)]

/-- What a round keeps: what lay below, and the box of the bytes. -/
def KpP (n₀ Bs : Nat) (W W' : World) : Prop := Below n₀ W W' ∧ ∀ v, W.cell? ⟨Bs, 0, none⟩ = some v → W'.cell? ⟨Bs, 0, none⟩ = some v
theorem kpp_t {n₀ Bs : Nat} {A B C : World} (h : KpP n₀ Bs A B) (k : KpP n₀ Bs B C) : KpP n₀ Bs A C := ⟨h.1.trans k.1, fun v hv => k.2 v (h.2 v hv)⟩
theorem kpp_b {n₀ Bs : Nat} {w : World} (h0 : n₀ ≤ w.heap.size) (hn : Bs < w.heap.size) (W : World) (l : Nat) (o o' : Obj) (hl : w.heap.size ≤ l) (h : W.heap[l]? = some o) (h1 : o.isCells = false) (h2 : o.isWalk = false) : KpP n₀ Bs W (W.putObj l o') :=
  ⟨belowK_b h0 W l o o' hl h h1 h2, fun v hv => by
    have hlt : Bs < W.heap.size := by have := (Array.getElem?_eq_some_iff.1 h).1; omega
    exact (World.cell?_of_block (a := ⟨Bs, 0, none⟩) ((grownBy_putObj' W l o').block Bs hlt (fun e => by cases e; omega))).trans hv⟩
abbrev plE (x : Nat × PlT) : Array Value := #[.int .i64 (x.1 : Int), .string ⟨x.2.1.toArray⟩]
theorem grown_noneP {w w1 : World} (hb : Below w.heap.size w w1) : w.grownBy w1 none := ⟨hb.os, hb.tape, hb.output, hb.size, fun k hk _ => hb.block k hk⟩
theorem pTab_onP {w w1 : World} (HT : Hid (pTab w)) (hb : Below w.heap.size w w1) : Hid (pTab w1) := Lib.hid (fun w' h => HT.out w' (hb.trans (h.mono hb.size)))

set_option maxHeartbeats 8000000 in
theorem places1_in (n : Nat) (hn : 2 ≤ n) (l Bs : Nat) (w0 : World) (ao : Option Addr) (la ca : Nat) (L : List Int) (hA : ByteArg w0 ao la ca L) (HT : Hid (pTab w0)) (B : Nat) (J Jx : List (Nat × PlT) → World → Prop) (hJ : AbidesFrom B J)
    (hY : ∀ pre x W, J pre W → pre.length < (srcL L L.length 0).length → YieldAt Fence.wide (n - 1) Tryd.prog l (plE x) W fun e W' =>
      (e = .returned (.bool true) ∧ J (pre ++ [x]) W' ∧ KpP w0.heap.size Bs W W') ∨ (e = .returned (.bool false) ∧ Jx (pre ++ [x]) W'))
    (W : World) (hW0 : Below w0.heap.size w0 W) (hBs : W.cell? ⟨Bs, 0, none⟩ = some (.slice ao la ca)) (h0 : J [] W) :
    CallsIn Fence.wide n Tryd.prog 36 #[.func (.yield l) #[] #[], .pointer (some ⟨Bs, 0, none⟩)] W fun e W' => (∃ v, e = .returned v) ∧
      ((∃ ys, ys = srcL L L.length 0 ∧ J ys W') ∨ (∃ pre, pre <+: srcL L L.length 0 ∧ Jx pre W')) := by
  have HY := Lib.hid hY
  have hla : L.length = la := hA.1
  have hcap : la ≤ 9223372036854775807 := Nat.le_trans hA.2.1 hA.2.2.1
  have HO := Lib.hid fun (a : Nat) (ha : a < la) (V : World) (hb : Below w0.heap.size w0 V) => one_in ao la ca L a ha V (hA.belowH hb) (pTab_onP HT hb)
  have HBy := Lib.hid hA.2.2.2.1
  subst hla
  clear hY hA HT
  refine callsIn_of_wp Tryd.func36 rfl trivial ?_ rfl
  simp only [Tryd.ntmps36, List.size_toArray, List.length_cons, List.length_nil, Nat.reduceAdd, Nat.reduceSub, Array.replicate_succ, Array.replicate_zero, List.push_toArray, List.append_toArray, List.nil_append, List.cons_append]
  gi_wp2
  gi_loopw [3] (fun v3 wr => ∃ (a : Nat) (pre : List (Nat × PlT)), v3 = .int .i64 (a : Int) ∧ a ≤ L.length ∧ J pre wr ∧ wr.cell? ⟨Bs, 0, none⟩ = some (.slice ao L.length ca) ∧ Below w0.heap.size w0 wr ∧ Hid (pre ++ srcL L (L.length - a) a = srcL L L.length 0))
    (fun v3 _ => L.length - (intOf v3).toNat)
  case atStart => exact ⟨0, [], rfl, Nat.zero_le _, h0, hBs, hW0, Lib.hid rfl⟩
  case round =>
    obtain ⟨a, pre, rfl, haL, hJs, hcx, hB0, HP⟩ := hrel
    by_cases ck : a < L.length
    · have ik : (a : Int) < (L.length : Int) := by omega
      have hbd := oneN_bd ck
      have hpt := plT_eq HBy.out ck
      have hst := Lib.hid (srcL_step L ck)
      have HOa := Lib.hid (HO.out a ck wr hB0)
      have hlt : pre.length < (srcL L L.length 0).length := by
        rw [← HP.out, List.length_append, hst.out]; simp
      obtain ⟨m, hm⟩ : ∃ m : Nat, oneN L a = (m : Int) := ⟨(oneN L a).toNat, by omega⟩
      rw [hm] at HOa hbd
      have hst : Hid (srcL L (L.length - a) a = (a, plT L a) :: srcL L (L.length - (a + m)) (a + m)) := Lib.hid (by rw [hst.out, hm]; rfl)
      clear hm
      have h1n : 1 ≤ n := Nat.le_trans (by decide) hn
      gi_wp2_with (refine ⟨trivial, ?_⟩; gi_at_call 6; refine (callsIn_wide.2 HOa.out).mono ?_; rintro e w1 ⟨rfl, hb1⟩; have hJ1 := hJ pre wr w1 none hJs (grown_noneP hb1) (fun r e => by cases e); have hcx1 := (hb1.cell (p := ⟨Bs, 0, none⟩) (World.block_lt_of_cell? _ _ hcx)).trans hcx; obtain ⟨fn, tmps, assign, body, hy, hR⟩ := HY.out pre (a, plT L a) w1 hJ1 hlt; dsimp only [plE] at hy; rw [hpt] at hy)
      refine hR.mono ?_
      rintro e W3 (⟨rfl, hJ3, hk3⟩ | ⟨rfl, hJx3⟩)
      · gi_wp2
        go_roundw
        case rel => exact ⟨a + m, pre ++ [(a, plT L a)], by go_num, by omega, hJ3, hk3.2 _ hcx1, (hB0.trans (hb1.mono hB0.size)).trans hk3.1, Lib.hid (by rw [List.append_assoc, ← HP.out, hst.out]; rfl)⟩
        case measure => simp [intOf]; omega
      · gi_wp2
        refine bodyPost_ret (results_none rfl _ _ _) rfl ?_
        exact ⟨⟨_, rfl⟩, .inr ⟨_, ⟨srcL L (L.length - (a + m)) (a + m), by rw [List.append_assoc, ← HP.out, hst.out]; rfl⟩, hJx3⟩⟩
    · obtain rfl : a = L.length := by omega
      gi_wp2
      go_end0
      exact ⟨⟨_, rfl⟩, .inl ⟨pre, by rw [← HP.out, srcL_end _ _ _ (Nat.le_refl _), List.append_nil], hJs⟩⟩

theorem places_in (n : Nat) (v : Value) (hv : ∃ a l c, v = .slice a l c) (w : World) :
    CallsIn Fence.wide n Tryd.prog 20 #[v] w fun e w' => e = .returned (.func (.func 36) #[] #[.pointer (some ⟨w.heap.size, 0, none⟩)]) ∧ w' = w.alloc (.cells #[v] 22) := by
  obtain ⟨a, l, c, rfl⟩ := hv
  refine callsIn_of_wp Tryd.func20 rfl trivial ?_ rfl
  simp only [Tryd.ntmps20, List.size_toArray, List.length_cons, List.length_nil, Nat.reduceAdd, Nat.reduceSub, Array.replicate_succ, Array.replicate_zero, List.push_toArray, List.append_toArray, List.nil_append, List.cons_append]
  gi_wp2
  go_ret
  exact ⟨rfl, rfl⟩
end Go.Proofs.YtocgiapkapekdaaDoor
