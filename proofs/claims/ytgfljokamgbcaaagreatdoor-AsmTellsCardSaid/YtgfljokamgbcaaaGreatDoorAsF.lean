/- The walk of asm.cut: a line's words. -/
import Derived.Test.YtgfljokamgbcaaaGreatDoorAsB
namespace Go.Proofs.YtgfljokamgbcaaaGreatDoor
open Go.RowKit
set_option linter.unusedSimpArgs false
set_option linter.unusedVariables false
set_option maxRecDepth 100000

theorem cut_step {L : List UInt8} {k : Nat} {c : UInt8} (h : L[k]? = some c) (cur : List UInt8) : cutGo (L.drop k) cur = if blankB c then (if cur = [] then cutGo (L.drop (k + 1)) [] else cur :: cutGo (L.drop (k + 1)) []) else cutGo (L.drop (k + 1)) (cur ++ [c]) := by
  obtain ⟨hlt, rfl⟩ := List.getElem?_eq_some_iff.1 h
  rw [List.drop_eq_getElem_cons hlt]
  rfl
theorem own_nextA {W w w' : World} {base n size : Nat} {v : Value} {xs : List Value} {e : TypeId} {o : Obj} (hB : Below base W w) (hs : base ≤ w.heap.size) (hown : w.ownsRow base e size v n xs) (hg : (w.alloc o).grownBy w' v.ownBlock) :
    Below base W w' ∧ base ≤ w'.heap.size := by
  have h := (hB.alloc hs o).grown hg (by simp; omega) (fun k hk => (hown.lt k hk).1)
  exact ⟨h, by have := hg.size; simp at this; omega⟩
abbrev stV (x : List UInt8) : Value := .string ⟨x.toArray⟩
/-- Where a word has begun. -/
def FromIs (L : List UInt8) (k : Nat) (f : Int) (cur : List UInt8) : Prop := (f = -1 ∧ cur = []) ∨ ∃ i : Nat, f = (i : Int) ∧ i < k ∧ cur = (L.drop i).take (k - i)
theorem from_step {L : List UInt8} {k i : Nat} {c : UInt8} (h : L[k]? = some c) (hi : i ≤ k) : (L.drop i).take (k + 1 - i) = (L.drop i).take (k - i) ++ [c] := by
  obtain ⟨hlt, rfl⟩ := List.getElem?_eq_some_iff.1 h
  rw [show k + 1 - i = (k - i) + 1 by omega, List.take_add_one]
  congr 1
  rw [List.getElem?_drop, show i + (k - i) = k by omega, List.getElem?_eq_getElem hlt]
  rfl

set_option maxHeartbeats 8000000 in
theorem cut_c (L : List UInt8) (hL : L.length ≤ 100000) (w : World) :
    Calls Tryz.prog 24 #[.string ⟨L.toArray⟩] w fun e w' => ∃ v, e = .returned v ∧ w'.ownsRow w.heap.size 9 1 v (cutGo L []).length ((cutGo L []).map stV) ∧ Below w.heap.size w w' := by
  obtain ⟨i0, hi, hz0, hz1, hz2⟩ := info_parts Tryz.infoStrT
  have sz := ba_size L
  have eX := Lib.hid fun (i j : Nat) => ba_extract L i j
  have eK := Lib.hid fun (k : Nat) (x : UInt8) (h : L[k]? = some x) => ba_get L k x h
  obtain ⟨s, hs⟩ : ∃ s : ByteArray, s = ⟨L.toArray⟩ := ⟨_, rfl⟩
  rw [← hs] at sz eX eK ⊢
  clear hs
  obtain ⟨R, hR⟩ : ∃ R, cutGo L [] = R := ⟨_, rfl⟩
  rw [hR]
  have HR := Lib.hid hR
  clear hR
  go_enter Tryz.func24, Tryz.ntmps24
  go_wp2_with fail
  go_loopg [3, 4, 10] (L.length + 1) (fun gk v3 v4 v10 wr => ∃ (k : Nat) (f : Int) (cur : List UInt8) (pre : List Wd), gk + k = L.length + 1 ∧ v10 = .int .i64 (k : Int) ∧ v4 = .int .i64 f ∧ Hid (k ≤ L.length → FromIs L k f cur ∧ pre ++ cutGo (L.drop k) cur = R) ∧ Hid (k = L.length + 1 → pre = R) ∧ pre.length ≤ k ∧ wr.ownsRow w.heap.size 9 1 v3 pre.length (pre.map stV) ∧ Below w.heap.size w wr ∧ w.heap.size ≤ wr.heap.size)
  case atStart => exact ⟨0, -1, [], [], by omega, rfl, rfl, Lib.hid (fun _ => ⟨.inl ⟨rfl, rfl⟩, by simpa using HR.out⟩), Lib.hid (fun h => by omega), Nat.zero_le _, ⟨rfl, .inl ⟨rfl, rfl⟩⟩, Below.refl _ _, Nat.le_refl _⟩
  case round =>
    obtain ⟨k, f, cur, pre, hk, rfl, rfl, HI, HE, hpk, hown, hB, hs⟩ := hrel
    by_cases c1 : k < L.length + 1
    · have i1 : (k : Int) < (L.length : Int) + 1 := by omega
      obtain ⟨hF, hP⟩ := HI.out (by omega)
      have HP := Lib.hid hP
      clear hP HE HI
      by_cases c2 : k < L.length
      · have i2 : ((k : Int) == (L.length : Int)) = false := by simp; omega
        obtain ⟨c, hc⟩ : ∃ c, L[k]? = some c := ⟨_, List.getElem?_eq_getElem c2⟩
        have ec := eK.out k c hc
        have HS := Lib.hid (cut_step hc cur)
        have HN := Lib.hid fun (i : Nat) (h : i ≤ k) => from_step hc h
        have h32 : (c == 32) = decide ((c.toNat : Int) = 32) := by rw [Bool.eq_iff_iff]; simp only [beq_iff_eq, decide_eq_true_eq]; exact iff_of_eq (u8_neA (c := c) (k := 32) (by decide))
        have h9 : (c == 9) = decide ((c.toNat : Int) = 9) := by rw [Bool.eq_iff_iff]; simp only [beq_iff_eq, decide_eq_true_eq]; exact iff_of_eq (u8_neA (c := c) (k := 9) (by decide))
        have hbl : blankB c = (decide ((c.toNat : Int) = 32) || decide ((c.toNat : Int) = 9)) := by unfold blankB; rw [h32, h9]
        rw [hbl] at HS
        have i3 : (k : Int) < (L.length : Int) := by omega
        clear hc h32 h9 hbl
        obtain ⟨x, hx⟩ : ∃ x, (c.toNat : Int) = x := ⟨_, rfl⟩
        rw [hx] at HS
        rcases hF with ⟨rfl, rfl⟩ | ⟨i, rfl, hik, hcur⟩
        · by_cases b1 : x = 32 ∨ x = 9
          · have HQ := Lib.hid (show pre ++ cutGo (L.drop (k + 1)) [] = R by have h1 := HS.out; have h2 := HP.out; rw [h1] at h2; rcases b1 with b | b <;> (rw [b] at h2; simpa using h2))
            rcases b1 with rfl | rfl
            all_goals
              go_wp2_with fail
              go_roundg (gk - 1)
              case measure => omega
              case rel => exact ⟨k + 1, -1, [], pre, by omega, by go_num, rfl, Lib.hid (fun _ => ⟨.inl ⟨rfl, rfl⟩, HQ.out⟩), Lib.hid (fun h => by omega), by omega, hown, hB, hs⟩
          · have d1 : (x == 32) = false := by simp; omega
            have d2 : (x == 9) = false := by simp; omega
            have HQ := Lib.hid (show pre ++ cutGo (L.drop (k + 1)) [c] = R by have h1 := HS.out; have h2 := HP.out; rw [h1] at h2; simpa [show ¬ x = 32 by omega, show ¬ x = 9 by omega] using h2)
            have HN0 := Lib.hid (show [c] = (L.drop k).take (k + 1 - k) by rw [HN.out k (Nat.le_refl _)]; simp)
            go_wp2_with fail
            go_roundg (gk - 1)
            case measure => omega
            case rel => exact ⟨k + 1, (k : Int), [c], pre, by omega, by go_num, rfl, Lib.hid (fun _ => ⟨.inr ⟨k, rfl, by omega, HN0.out⟩, HQ.out⟩), Lib.hid (fun h => by omega), by omega, hown, hB, hs⟩
        · have hne : cur ≠ [] := by rw [hcur]; intro e; have := congrArg List.length e; simp at this; omega
          by_cases b1 : x = 32 ∨ x = 9
          · have HQ := Lib.hid (show (pre ++ [cur]) ++ cutGo (L.drop (k + 1)) [] = R by have h1 := HS.out; have h2 := HP.out; rw [h1] at h2; rw [List.append_assoc]; rcases b1 with b | b <;> (rw [b] at h2; simpa [hne] using h2))
            have ex := eX.out i k
            rw [← hcur] at ex
            clear hcur
            have j1 : (0 : Int) ≤ (i : Int) ∧ (i : Int) ≤ (k : Int) := by omega
            have j2 : (0 : Int) ≤ (k : Int) ∧ (k : Int) ≤ (s.size : Int) := by omega
            have j4 : (k : Int) ≤ (L.length : Int) := by omega
            have j5 : (i : Int) ≤ (k : Int) := by omega
            have j6 : k ≤ L.length := by omega
            have j7 : i ≤ k := by omega
            have j3 : ¬ ((i : Int) < 0) := by omega
            rcases b1 with rfl | rfl
            all_goals
              go_wp2_with (first | (at_builtin; refine wpList_append_own _ rfl _ _ 49 rfl w.heap.size 9 i0 _ 1 16 Tryz.underlying49 hi hz0 hz1 hz2 rfl (by decide) _ _ _ rfl (hown.alloc _) _ 1 1 [stV cur] rfl rfl (cell_one_new _ _ _) (by simp [Value.oneCell']) (by unfold maxLen; omega) (by omega) (by first | (simp; done) | (simp; omega)) ?_; intro v4' w4 hown4 hgrow4 _; obtain ⟨hB4, hs4⟩ := own_nextA hB hs hown hgrow4; clear hgrow4))
              go_roundg (gk - 1)
              case measure => omega
              case rel => exact ⟨k + 1, -1, [], pre ++ [cur], by omega, by go_num, rfl, Lib.hid (fun _ => ⟨.inl ⟨rfl, rfl⟩, HQ.out⟩), Lib.hid (fun h => by omega), by simp; omega, by simpa using hown4, hB4, hs4⟩
          · have d1 : (x == 32) = false := by simp; omega
            have d2 : (x == 9) = false := by simp; omega
            have HQ := Lib.hid (show pre ++ cutGo (L.drop (k + 1)) (cur ++ [c]) = R by have h1 := HS.out; have h2 := HP.out; rw [h1] at h2; simpa [show ¬ x = 32 by omega, show ¬ x = 9 by omega] using h2)
            have HN0 := Lib.hid (show cur ++ [c] = (L.drop i).take (k + 1 - i) by rw [HN.out i (by omega), ← hcur])
            have j3 : ¬ ((i : Int) < 0) := by omega
            go_wp2_with fail
            go_roundg (gk - 1)
            case measure => omega
            case rel => exact ⟨k + 1, (i : Int), cur ++ [c], pre, by omega, by go_num, rfl, Lib.hid (fun _ => ⟨.inr ⟨i, rfl, by omega, HN0.out⟩, HQ.out⟩), Lib.hid (fun h => by omega), by omega, hown, hB, hs⟩
      · obtain rfl : k = L.length := by omega
        have i2 : ((L.length : Int) == (L.length : Int)) = true := by simp
        have hd : L.drop L.length = [] := List.drop_eq_nil_iff.2 (by omega)
        rcases hF with ⟨rfl, rfl⟩ | ⟨i, rfl, hik, hcur⟩
        · have HQ := Lib.hid (show pre = R by have h2 := HP.out; rw [hd] at h2; simpa [cutGo] using h2)
          clear hd
          go_wp2_with fail
          go_roundg (gk - 1)
          case measure => omega
          case rel => exact ⟨L.length + 1, -1, [], pre, by omega, by go_num, rfl, Lib.hid (fun h => by omega), Lib.hid (fun _ => HQ.out), by omega, hown, hB, hs⟩
        · have hne : cur ≠ [] := by rw [hcur]; intro e; have := congrArg List.length e; simp at this; omega
          have HQ := Lib.hid (show pre ++ [cur] = R by have h2 := HP.out; rw [hd] at h2; simpa [cutGo, hne] using h2)
          have ex := eX.out i L.length
          rw [← hcur] at ex
          clear hcur
          have j1 : (0 : Int) ≤ (i : Int) ∧ (i : Int) ≤ (L.length : Int) := by omega
          have j2 : (0 : Int) ≤ (L.length : Int) ∧ (L.length : Int) ≤ (s.size : Int) := by omega
          have j4 : (L.length : Int) ≤ (L.length : Int) := by omega
          have j5 : (i : Int) ≤ (L.length : Int) := by omega
          have j6 : L.length ≤ L.length := by omega
          have j7 : i ≤ L.length := by omega
          have j3 : ¬ ((i : Int) < 0) := by omega
          clear hd
          go_wp2_with (first | (at_builtin; refine wpList_append_own _ rfl _ _ 49 rfl w.heap.size 9 i0 _ 1 16 Tryz.underlying49 hi hz0 hz1 hz2 rfl (by decide) _ _ _ rfl (hown.alloc _) _ 1 1 [stV cur] rfl rfl (cell_one_new _ _ _) (by simp [Value.oneCell']) (by unfold maxLen; omega) (by omega) (by first | (simp; done) | (simp; omega)) ?_; intro v4' w4 hown4 hgrow4 _; obtain ⟨hB4, hs4⟩ := own_nextA hB hs hown hgrow4; clear hgrow4))
          go_roundg (gk - 1)
          case measure => omega
          case rel => exact ⟨L.length + 1, -1, [], pre ++ [cur], by omega, by go_num, rfl, Lib.hid (fun h => by omega), Lib.hid (fun _ => HQ.out), by simp; omega, by simpa using hown4, hB4, hs4⟩
    · have i1 : ¬ (k : Int) < (L.length : Int) + 1 := by omega
      have hpR := HE.out (by omega)
      subst hpR
      go_wp2_with fail
      go_ret
      exact ⟨_, rfl, hown, hB⟩
end Go.Proofs.YtgfljokamgbcaaaGreatDoor
