/- strings.SplitSeq at a new line, as an iterator. -/
import Derived.Test.YtgfljokamgbcaaaGreatDoorAsU
import Derived.Test.YtgfljokamgbcaaaGreatDoorAsL
import Derived.Test.YtgfljokamgbcaaaGreatDoorAsJ
namespace Go.Proofs.YtgfljokamgbcaaaGreatDoor
open Go.RowKit Go.Shelf
set_option linter.unusedSimpArgs false
set_option linter.unusedVariables false
set_option maxRecDepth 100000

def szOf (w : World) (b : Nat) : Nat := match w.cell? ⟨b, 0, none⟩ with
  | some (.string s) => s.size
  | _ => 0
abbrev TsS : List TypeId := [9, 3, 71]
abbrev strC (L : List UInt8) : Obj := .cells #[.string ⟨L.toArray⟩] 9 (0, 0)

set_option maxHeartbeats 8000000 in
theorem split1_in (n : Nat) (hn : 1 ≤ n) (l sb eb kb B HZ : Nat) (L : List UInt8) (hL : L.length ≤ 100000) (J Jx : List Wd → World → Prop) (hSt : Stb TsS B J)
    (hY : ∀ pre x W, J pre W → (∃ r, pre ++ x :: r = splitC 10 L) → YieldAt Fence.wide (n - 1) Tryz.prog l (wdE x) W fun e W' => KeepsFrom HZ W W' ∧
      ((e = .returned (.bool true) ∧ J (pre ++ [x]) W' ∧ KpT TsS B W W') ∨ (e = .returned (.bool false) ∧ Jx (pre ++ [x]) W')))
    (W : World) (hs : W.heap[sb]? = some (strC L)) (he : W.heap[eb]? = some (strC [10])) (hk : W.heap[kb]? = some (.cells #[.int .i64 0] 3 (0, 0))) (hB : B ≤ sb ∧ B ≤ eb ∧ B ≤ kb) (hne : eb ≠ sb) (h0 : J [] W) :
    CallsIn Fence.wide n Tryz.prog 67 #[.func (.yield l) #[] #[], .pointer (some ⟨eb, 0, none⟩), .pointer (some ⟨sb, 0, none⟩), .pointer (some ⟨kb, 0, none⟩)] W fun e W' => (∃ v, e = .returned v) ∧
      ((∃ ys, ys = splitC 10 L ∧ J ys W') ∨ (∃ pre, (∃ r, pre ++ r = splitC 10 L) ∧ Jx pre W')) := by
  have HY := Lib.hid hY
  have HI := Lib.hid fun (L : List UInt8) (w : World) => (show Calls Tryz.prog 37 #[.string ⟨L.toArray⟩, .string ⟨#[10]⟩] w fun e w' => e = .returned (.int .i64 (Lib.indexByte L 10)) ∧ w' = w from Tryz.strings_Index_one ⟨L.toArray⟩ 10 w)
  have HSt := Lib.hid hSt
  have k1 := cell_of_row W _ 0 _ _ _ he
  have HS0 := Lib.hid hs
  have HE0 := Lib.hid he
  have HK0 := Lib.hid hk
  have s1 : (⟨#[10]⟩ : ByteArray).size = 1 := rfl
  have hkn : kb ≠ sb := fun e => by
    subst e
    rw [hs] at hk
    cases hk
  clear hs he hk hY hSt
  refine callsIn_of_wp Tryz.func67 rfl trivial ?_ rfl
  simp only [Tryz.ntmps67, List.size_toArray, List.length_cons, List.length_nil, Nat.reduceAdd, Nat.reduceSub, Array.replicate_succ, Array.replicate_zero, List.push_toArray, List.append_toArray, List.nil_append, List.cons_append]
  gi_wp2
  gi_loopw [7] (fun v7 wr => ∃ (k : Nat) (pre : List Wd), k ≤ L.length ∧ J pre wr ∧ wr.heap[sb]? = some (strC (L.drop k)) ∧ wr.heap[eb]? = some (strC [10]) ∧ wr.heap[kb]? = some (.cells #[.int .i64 0] 3 (0, 0)) ∧ Hid (pre ++ splitC 10 (L.drop k) = splitC 10 L))
    (fun v7 wr => szOf wr sb)
  case atStart => exact ⟨0, [], Nat.zero_le _, h0, HS0.out, HE0.out, HK0.out, Lib.hid rfl⟩
  case round =>
    obtain ⟨k, pre, hkL, hJ, hs, he, hk, HP⟩ := hrel
    obtain ⟨M, hM⟩ : ∃ M, L.drop k = M := ⟨_, rfl⟩
    rw [hM] at hs HP
    have HMl := Lib.hid (show M.length = L.length - k by rw [← hM]; simp)
    have hMl : M.length ≤ 100000 := by have := HMl.out; omega
    have HMk := Lib.hid hM
    clear hM
    have c1 := cell_of_row wr _ 0 _ _ _ hs
    have c2 := cell_of_row wr _ 0 _ _ _ he
    have c3 := cell_of_row wr _ 0 _ _ _ hk
    have f1 := frozen_of_row wr _ 0 _ _ hs
    have hlt := heap_ltA hs
    have hszo : szOf wr sb = M.length := by unfold szOf; rw [c1]; exact ba_size M
    have sz := ba_size M
    have HS := Lib.hid hs
    have HE := Lib.hid he
    have HK := Lib.hid hk
    clear hs he hk
    have HIM := Lib.hid fun w => HI.out M w
    rcases idx_cases M 10 with ⟨h1, h2⟩ | ⟨j, h1, h2, h3, h4⟩
    · rw [h1] at HIM
      have hsp : splitC 10 M = [M] := splitC_none fun c hc e => by
        obtain ⟨i, hi⟩ := List.getElem?_of_mem hc
        exact h2 i (by rw [hi, e])
      rw [hsp] at HP
      obtain ⟨fn, tmps, assign, body, hy, hR⟩ := HY.out pre M wr hJ ⟨[], HP.out⟩
      dsimp only [wdE] at hy
      clear h1 h2 hsp hszo
      gi_wp2
      refine ⟨trivial, CallsIn.mono ((callsIn_wide (n := _)).2 (HIM.out _)) ?_⟩
      rintro e w2 ⟨rfl, rfl⟩
      gi_wp2
      refine hR.mono ?_
      rintro e W3 ⟨-, ⟨rfl, hJ3, hk3⟩ | ⟨rfl, hJx3⟩⟩
      · gi_wp2
        go_end0
        exact ⟨⟨_, rfl⟩, .inl ⟨_, HP.out, hJ3⟩⟩
      · gi_wp2
        go_end0
        exact ⟨⟨_, rfl⟩, .inr ⟨_, ⟨[], by rw [← HP.out]; simp⟩, hJx3⟩⟩
    · rw [h1] at HIM
      have hsp : splitC 10 M = M.take j :: splitC 10 (M.drop (j + 1)) := splitC_at h4 h3
      rw [hsp] at HP
      obtain ⟨fn, tmps, assign, body, hy, hR⟩ := HY.out pre (M.take j) wr hJ ⟨_, HP.out⟩
      dsimp only [wdE] at hy
      have ex := ba_extract M 0 j
      rw [List.drop_zero, Nat.sub_zero] at ex
      have ey := ba_extract M (j + 1) M.length
      rw [List.take_of_length_le (by simp)] at ey
      have i1 : (0 : Int) ≤ (j : Int) ∧ (j : Int) ≤ (M.length : Int) := by omega
      have i2 : IntKind.i64.wrap ((j : Int) + 0) = (j : Int) := by rw [Int.add_zero]; exact IntWalk.i64_in _ ⟨by omega, by omega⟩
      have i3 : IntKind.i64.wrap ((j : Int) + 1) = (j : Int) + 1 := IntWalk.i64_in _ ⟨by omega, by omega⟩
      have i4 : (0 : Int) ≤ (j : Int) + 1 ∧ (j : Int) + 1 ≤ (M.length : Int) := by omega
      have i5 : j ≤ M.length := by omega
      have i6 : j + 1 ≤ M.length := by omega
      have i7 : ((j : Int) + 1).toNat = j + 1 := by omega
      clear h1 h3 h4 hsp
      gi_wp2
      refine ⟨trivial, CallsIn.mono ((callsIn_wide (n := _)).2 (HIM.out _)) ?_⟩
      rintro e w2 ⟨rfl, rfl⟩
      gi_wp2
      refine hR.mono ?_
      rintro e W3 ⟨-, ⟨rfl, hJ3, hk3⟩ | ⟨rfl, hJx3⟩⟩
      · have hs3 := hk3.2 _ _ _ hB.1 (by simp) HS.out
        have he3 := hk3.2 _ _ _ hB.2.1 (by simp) HE.out
        have hq3 := hk3.2 _ _ _ hB.2.2 (by simp) HK.out
        have d1 := cell_of_row W3 _ 0 _ _ _ hs3
        have d2 := cell_of_row W3 _ 0 _ _ _ he3
        have d4 := frozen_of_row W3 _ 0 _ _ hs3
        have hlt3 := heap_ltA hs3
        have hset := heap_setA (i := 0) hs3 (.string ⟨(M.drop (j + 1)).toArray⟩) (by simp)
        have HS3 := Lib.hid hset
        have HE3 := Lib.hid ((Below.heap_setCell W3 ⟨sb, 0, none⟩ (.string ⟨(M.drop (j + 1)).toArray⟩) eb hne).trans he3)
        have HK3 := Lib.hid ((Below.heap_setCell W3 ⟨sb, 0, none⟩ (.string ⟨(M.drop (j + 1)).toArray⟩) kb hkn).trans hq3)
        have HJ3 := Lib.hid (HSt.out _ W3 (W3.setCell ⟨sb, 0, none⟩ (.string ⟨(M.drop (j + 1)).toArray⟩)) hJ3 (.inr ⟨sb, _, _, _, hB.1, by simp, hs3, rfl⟩))
        have HDK := Lib.hid (show L.drop (k + (j + 1)) = M.drop (j + 1) by rw [← List.drop_drop, HMk.out])
        clear hs3 he3 hq3 hset c1 c2 c3 f1 hlt
        gi_wp2
        go_roundw
        case rel => exact ⟨k + (j + 1), pre ++ [M.take j], by have := HMl.out; omega, HJ3.out, by rw [HDK.out]; simpa using HS3.out, HE3.out, HK3.out, Lib.hid (by rw [HDK.out, List.append_assoc]; exact HP.out)⟩
        case measure =>
          have hnew : szOf (W3.setCell ⟨sb, 0, none⟩ (.string ⟨(M.drop (j + 1)).toArray⟩)) sb = M.length - (j + 1) := by
            unfold szOf
            rw [cell_of_row _ _ 0 _ _ _ HS3.out]
            have := ba_size (M.drop (j + 1))
            rw [List.length_drop] at this
            exact this
          rw [hnew, hszo]
          omega
      · gi_wp2
        refine bodyPost_ret (results_none rfl _ _ _) rfl ?_
        exact ⟨⟨_, rfl⟩, .inr ⟨_, ⟨splitC 10 (M.drop (j + 1)), by rw [List.append_assoc, ← HP.out]; rfl⟩, hJx3⟩⟩
end Go.Proofs.YtgfljokamgbcaaaGreatDoor
