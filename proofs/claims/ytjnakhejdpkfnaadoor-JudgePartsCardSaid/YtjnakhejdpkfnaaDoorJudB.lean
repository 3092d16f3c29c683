/- Where two rows of bytes differ: judge.Bytes, the document's Bytes. (Written by mkJB.py.) -/
import Derived.Test.YtjnakhejdpkfnaaDoorJudA
namespace Go.Proofs.YtjnakhejdpkfnaaDoor
open Go.RowKit
set_option linter.unusedSimpArgs false
set_option linter.unusedVariables false
set_option maxRecDepth 100000

theorem JBox.keep {w w' : World} {ba bb : Nat} {va vb : Value} {t : TypeId} (h : JBox w ba bb va vb t) (e : w'.heap = w.heap) : JBox w' ba bb va vb t := ⟨by rw [e]; exact h.a, by rw [e]; exact h.b⟩
theorem drewN_heap (w : World) (n : Nat) : (w.drewN n).heap = w.heap := by cases n <;> rfl
theorem below_drewN {B : Nat} {a w : World} (h : Below B a w) (n : Nat) : Below B a (w.drewN n) := by
  cases n with
  | zero => exact h
  | succ n => exact ⟨h.os, h.tape, h.output, by simpa using h.size, fun k hk => by simpa using h.block k hk⟩

set_option maxHeartbeats 4000000 in
theorem firstB_c (ao bo : Option Addr) (la ca lb cb : Nat) (L M : List Int) (w : World) (hA : ByteArg w ao la ca L) (hB : ByteArg w bo lb cb M) :
    Calls Tryd.prog 26 #[.slice ao la ca, .slice bo lb cb] w fun e w' => e = .returned (.int .i64 (firstL L M)) ∧ Below w.heap.size w w' := by
  have hmx : max la lb < 9223372036854775808 := by have := hA.2.1; have := hA.2.2.1; have := hB.2.1; have := hB.2.2.1; omega
  have e1 : L.length = la := hA.1
  have e2 : M.length = lb := hB.1
  have HC := Lib.hid fun (k : Nat) (hk : k < 9223372036854775807) (wr : World) (hx : JBox wr w.heap.size (w.heap.size + 1) (.slice ao la ca) (.slice bo lb cb) 22) (hb : Below w.heap.size w wr) =>
    differsB_c ao bo la ca lb cb L M _ _ k wr hx (hA.below hb) (hB.below hb) hk
  have HL := Lib.hid e1
  have HM := Lib.hid e2
  clear hA hB e1 e2
  by_cases hlt : la < lb
  · have hmx : lb < 9223372036854775808 := by omega
    have HX := Lib.hid (show la ≤ lb ∧ lb ≤ lb ∧ (lb = la ∨ lb = lb) from by omega)
    go_enter Tryd.func26, Tryd.ntmps26
    go_wp2_with fail
    go_loopg [13] lb (fun gk vk wr => ∃ k : Nat, gk + k = lb ∧ vk = .int .i64 (k : Int) ∧ Hid (∀ j : Nat, j < k → L[j]? = M[j]?) ∧ JBox wr w.heap.size (w.heap.size + 1) (.slice ao la ca) (.slice bo lb cb) 22 ∧ Below w.heap.size w wr)
    case atStart =>
      exact ⟨0, rfl, rfl, Lib.hid fun j h => absurd h (Nat.not_lt_zero _), ⟨heap_oldJ (heap_newJ rfl), heap_newJ (by simp)⟩, ((Below.refl _ _).alloc (Nat.le_refl _) _).alloc (by simp) _⟩
    case round =>
      obtain ⟨k, hk, rfl, HI, hJ, hB⟩ := hrel
      have HJ := Lib.hid hJ
      clear hJ
      by_cases c1 : k < lb
      · have i1 : (k : Int) < (lb : Int) := by omega
        go_wp2_with fail
        refine (HC.out k (by omega) wr HJ.out hB).mono ?_
        rintro e w1 ⟨rfl, q, rfl⟩
        have hB1 := below_drewN hB q
        have HJ1 := Lib.hid (HJ.out.keep (drewN_heap wr q))
        by_cases c2 : L[k]? ≠ M[k]? ∨ (L[k]? = none ∧ M[k]? = none)
        · have d : decide (L[k]? ≠ M[k]? ∨ (L[k]? = none ∧ M[k]? = none)) = true := by simpa using c2
          have hne : L[k]? ≠ M[k]? := by
            rcases c2 with h | ⟨h, h'⟩
            · exact h
            · have := HL.out; have := HM.out; have := HX.out
              rw [List.getElem?_eq_none_iff] at h h'; omega
          have HR := Lib.hid (firstL_at HI.out hne)
          rw [d]
          clear d c2 hne
          go_wp2_with fail
          go_ret
          exact ⟨ret_intJ HR.out.symm, hB1⟩
        · have d : decide (L[k]? ≠ M[k]? ∨ (L[k]? = none ∧ M[k]? = none)) = false := by simpa using c2
          have heq : L[k]? = M[k]? := Classical.not_not.1 fun h => c2 (.inl h)
          have HI2 := Lib.hid (show ∀ j : Nat, j < k + 1 → L[j]? = M[j]? from fun j hj => by
            by_cases h : j = k
            · rw [h]; exact heq
            · exact HI.out j (by omega))
          rw [d]
          clear d c2 heq
          go_wp2_with fail
          go_roundg (gk - 1)
          case measure => omega
          case rel => exact ⟨k + 1, by omega, by go_num, HI2, HJ1.out, hB1⟩
      · have i1 : ¬ (k : Int) < (lb : Int) := by omega
        have hkn : k = lb := by omega
        have HR := Lib.hid (firstL_none (l := L) (m := M) (fun j => by
          by_cases h : j < k
          · exact HI.out j h
          · have := HL.out; have := HM.out; have := HX.out
            rw [List.getElem?_eq_none (by omega), List.getElem?_eq_none (by omega)]))
        go_wp2_with fail
        go_ret
        exact ⟨ret_intJ HR.out.symm, hB⟩
  · have hmx : la < 9223372036854775808 := by omega
    have HX := Lib.hid (show la ≤ la ∧ lb ≤ la ∧ (la = la ∨ la = lb) from by omega)
    go_enter Tryd.func26, Tryd.ntmps26
    go_wp2_with fail
    go_loopg [13] la (fun gk vk wr => ∃ k : Nat, gk + k = la ∧ vk = .int .i64 (k : Int) ∧ Hid (∀ j : Nat, j < k → L[j]? = M[j]?) ∧ JBox wr w.heap.size (w.heap.size + 1) (.slice ao la ca) (.slice bo lb cb) 22 ∧ Below w.heap.size w wr)
    case atStart =>
      exact ⟨0, rfl, rfl, Lib.hid fun j h => absurd h (Nat.not_lt_zero _), ⟨heap_oldJ (heap_newJ rfl), heap_newJ (by simp)⟩, ((Below.refl _ _).alloc (Nat.le_refl _) _).alloc (by simp) _⟩
    case round =>
      obtain ⟨k, hk, rfl, HI, hJ, hB⟩ := hrel
      have HJ := Lib.hid hJ
      clear hJ
      by_cases c1 : k < la
      · have i1 : (k : Int) < (la : Int) := by omega
        go_wp2_with fail
        refine (HC.out k (by omega) wr HJ.out hB).mono ?_
        rintro e w1 ⟨rfl, q, rfl⟩
        have hB1 := below_drewN hB q
        have HJ1 := Lib.hid (HJ.out.keep (drewN_heap wr q))
        by_cases c2 : L[k]? ≠ M[k]? ∨ (L[k]? = none ∧ M[k]? = none)
        · have d : decide (L[k]? ≠ M[k]? ∨ (L[k]? = none ∧ M[k]? = none)) = true := by simpa using c2
          have hne : L[k]? ≠ M[k]? := by
            rcases c2 with h | ⟨h, h'⟩
            · exact h
            · have := HL.out; have := HM.out; have := HX.out
              rw [List.getElem?_eq_none_iff] at h h'; omega
          have HR := Lib.hid (firstL_at HI.out hne)
          rw [d]
          clear d c2 hne
          go_wp2_with fail
          go_ret
          exact ⟨ret_intJ HR.out.symm, hB1⟩
        · have d : decide (L[k]? ≠ M[k]? ∨ (L[k]? = none ∧ M[k]? = none)) = false := by simpa using c2
          have heq : L[k]? = M[k]? := Classical.not_not.1 fun h => c2 (.inl h)
          have HI2 := Lib.hid (show ∀ j : Nat, j < k + 1 → L[j]? = M[j]? from fun j hj => by
            by_cases h : j = k
            · rw [h]; exact heq
            · exact HI.out j (by omega))
          rw [d]
          clear d c2 heq
          go_wp2_with fail
          go_roundg (gk - 1)
          case measure => omega
          case rel => exact ⟨k + 1, by omega, by go_num, HI2, HJ1.out, hB1⟩
      · have i1 : ¬ (k : Int) < (la : Int) := by omega
        have hkn : k = la := by omega
        have HR := Lib.hid (firstL_none (l := L) (m := M) (fun j => by
          by_cases h : j < k
          · exact HI.out j h
          · have := HL.out; have := HM.out; have := HX.out
            rw [List.getElem?_eq_none (by omega), List.getElem?_eq_none (by omega)]))
        go_wp2_with fail
        go_ret
        exact ⟨ret_intJ HR.out.symm, hB⟩

set_option maxHeartbeats 2000000 in
theorem bytes_c (ao bo : Option Addr) (la ca lb cb : Nat) (L M : List Int) (w : World) (hA : ByteArg w ao la ca L) (hB : ByteArg w bo lb cb M) :
    Calls Tryd.prog 14 #[.slice ao la ca, .slice bo lb cb] w fun e w' => e = .returned (.int .i64 (firstL L M)) ∧ Below w.heap.size w w' := by
  have HC := Lib.hid (firstB_c ao bo la ca lb cb L M w hA hB)
  clear hA hB
  go_enter Tryd.func14, Tryd.ntmps14
  go_wp2_with fail
  refine HC.out.mono ?_
  rintro e w1 ⟨rfl, hb⟩
  go_wp2_with fail
  go_ret
  exact ⟨rfl, hb⟩

set_option maxHeartbeats 4000000 in
theorem refBytes_c (ao bo : Option Addr) (la ca lb cb : Nat) (L M : List Int) (w : World) (hA : ByteArg w ao la ca L) (hB : ByteArg w bo lb cb M) :
    Calls Tryd.prog 15 #[.slice ao la ca, .slice bo lb cb] w fun e w' => e = .returned (.int .i64 (firstL L M)) ∧ ∃ n, w' = w.drewN n := by
  have hmx : max la lb < 9223372036854775808 := by have := hA.2.1; have := hA.2.2.1; have := hB.2.1; have := hB.2.2.1; omega
  have e1 : L.length = la := hA.1
  have e2 : M.length = lb := hB.1
  have HL := Lib.hid e1
  have HM := Lib.hid e2
  have HA := Lib.hid hA.2.2.2.2
  have HB := Lib.hid hB.2.2.2.2
  have HX := Lib.hid hmx
  clear hA hB e1 e2 hmx
  go_enter Tryd.func15, Tryd.ntmps15
  go_wp2_with fail
  go_loopg [5] (max la lb) (fun gk vk wr => ∃ k q : Nat, gk + k = max la lb ∧ vk = .int .i64 (k : Int) ∧ Hid (∀ j : Nat, j < k → L[j]? = M[j]?) ∧ wr = w.drewN q)
  case atStart =>
    exact ⟨0, 0, by omega, rfl, Lib.hid fun j h => absurd h (Nat.not_lt_zero _), rfl⟩
  case round =>
    obtain ⟨k, q, hk, rfl, HI, rfl⟩ := hrel
    by_cases c1 : k < la
    · have i1 : (k : Int) < (la : Int) := by omega
      have e1 : decide (la ≤ k) = false := by simp; omega
      by_cases c2 : k < lb
      · have i2 : (k : Int) < (lb : Int) := by omega
        have e2 : decide (lb ≤ k) = false := by simp; omega
        have d3 : (k : Int) < 9223372036854775807 := by have := HX.out; omega
        obtain ⟨blk, off, rfl, x1⟩ : ∃ blk off, ao = some ⟨blk, off, none⟩ ∧ (w.drewN q).cell? ⟨blk, off + k, none⟩ = some (.int .u8 (L.getD k 0)) := by
          rcases HA.out with h | ⟨b, o, h, hc⟩
          · have := HL.out; rw [h] at this; simp at this; omega
          · exact ⟨b, o, h, by have := hc k (by rw [HL.out]; exact c1); rw [← this]; exact World.cell?_of_block (by rw [drewN_heap])⟩
        obtain ⟨blk2, off2, rfl, x2⟩ : ∃ blk off, bo = some ⟨blk, off, none⟩ ∧ (w.drewN q).cell? ⟨blk, off + k, none⟩ = some (.int .u8 (M.getD k 0)) := by
          rcases HB.out with h | ⟨b, o, h, hc⟩
          · have := HM.out; rw [h] at this; simp at this; omega
          · exact ⟨b, o, h, by have := hc k (by rw [HM.out]; exact c2); rw [← this]; exact World.cell?_of_block (by rw [drewN_heap])⟩
        have g1 : L[k]? = some (L.getD k 0) := by simp [List.getD, List.getElem?_eq_getElem (show k < L.length by rw [HL.out]; exact c1)]
        have g2 : M[k]? = some (M.getD k 0) := by simp [List.getD, List.getElem?_eq_getElem (show k < M.length by rw [HM.out]; exact c2)]
        have G1 := Lib.hid g1
        have G2 := Lib.hid g2
        clear g1 g2
        generalize L.getD k 0 = y1 at x1 G1
        generalize M.getD k 0 = y2 at x2 G2
        generalize hw1 : w.drewN q = w1 at x1 x2 ⊢
        have HW1 := Lib.hid hw1
        clear hw1
        by_cases c3 : y1 = y2
        · have e3 : (y1 != y2) = false := by simp [c3]
          have HI2 := Lib.hid (show ∀ j : Nat, j < k + 1 → L[j]? = M[j]? from fun j hj => by
            by_cases h : j = k
            · rw [h, G1.out, G2.out, c3]
            · exact HI.out j (by omega))
          clear c3
          go_wp2_with fail
          go_quiet (fail)
          go_wp2_with fail
          go_roundg (gk - 1)
          case measure => omega
          case rel => exact ⟨k + 1, _, by omega, by go_num, HI2, by rw [← HW1.out, World.drewN_drewN]⟩
        · have e3 : (y1 != y2) = true := by simpa using c3
          have HR := Lib.hid (firstL_at HI.out (show L[k]? ≠ M[k]? from by rw [G1.out, G2.out]; simpa using c3))
          clear c3
          go_wp2_with fail
          go_quiet (fail)
          go_wp2_with fail
          go_ret
          exact ⟨ret_intJ HR.out.symm, _, by rw [← HW1.out, World.drewN_drewN]⟩
      · have i2 : ¬ (k : Int) < (lb : Int) := by omega
        have e2 : decide (lb ≤ k) = true := by simp; omega
        have HR := Lib.hid (firstL_at HI.out (show L[k]? ≠ M[k]? from by
          rw [List.getElem?_eq_getElem (show k < L.length by rw [HL.out]; exact c1), List.getElem?_eq_none (by have := HM.out; omega)]; simp))
        generalize hw1 : w.drewN q = w1
        have HW1 := Lib.hid hw1
        clear hw1
        go_wp2_with fail
        go_quiet (fail)
        go_wp2_with fail
        go_ret
        exact ⟨ret_intJ HR.out.symm, _, by rw [← HW1.out, World.drewN_drewN]⟩
    · have i1 : ¬ (k : Int) < (la : Int) := by omega
      have e1 : decide (la ≤ k) = true := by simp; omega
      by_cases c2 : k < lb
      · have i2 : (k : Int) < (lb : Int) := by omega
        have HR := Lib.hid (firstL_at HI.out (show L[k]? ≠ M[k]? from by
          rw [List.getElem?_eq_getElem (show k < M.length by rw [HM.out]; exact c2), List.getElem?_eq_none (by have := HL.out; omega)]; simp))
        generalize hw1 : w.drewN q = w1
        have HW1 := Lib.hid hw1
        clear hw1
        go_wp2_with fail
        go_quiet (fail)
        go_wp2_with fail
        go_ret
        exact ⟨ret_intJ HR.out.symm, _, by rw [← HW1.out, World.drewN_drewN]⟩
      · have i2 : ¬ (k : Int) < (lb : Int) := by omega
        have HR := Lib.hid (firstL_none (l := L) (m := M) (fun j => by
          by_cases h : j < k
          · exact HI.out j h
          · have := HL.out; have := HM.out
            rw [List.getElem?_eq_none (by omega), List.getElem?_eq_none (by omega)]))
        go_wp2_with fail
        go_ret
        exact ⟨ret_intJ HR.out.symm, q, rfl⟩
end Go.Proofs.YtjnakhejdpkfnaaDoor
