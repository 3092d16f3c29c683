/- The document's numbers in digits (mummerref04: digit, Decimal, second). -/
import Derived.Test.YtocgiapkapekdaaDoorRows
import Derived.WalkKit
import Derived.WalkLawsBesides
import Derived.WalkSpells
import Derived.Lib.Hide
import Derived.Below
import Derived.Deep.LoopGhost
import Derived.Lib.ItoaNum
import Derived.IntWalk
namespace Go.Proofs.YtocgiapkapekdaaDoor
open Go.RowKit
set_option linter.unusedSimpArgs false
set_option linter.unusedVariables false
set_option maxRecDepth 100000

/-- A digit as a byte. -/
def dig8 (n : Int) : UInt8 := UInt8.ofNat (48 + n).toNat
theorem ret_strC {a b : ByteArray} (h : a = b) : Ending.returned (.string a) = .returned (.string b) := by rw [h]
theorem ba_extC {x y : ByteArray} (h : x.data.toList = y.data.toList) : x = y := by
  cases x; cases y
  simp only [ByteArray.mk.injEq]
  exact Array.toList_inj.1 h

set_option maxHeartbeats 2000000 in
theorem digit_c (n : Int) (h0 : 0 ≤ n) (h1 : n < 10) (w : World) :
    Calls Tryd.prog 34 #[.int .i64 n] w fun e w' => e = .returned (.string ⟨#[dig8 n]⟩) ∧ w = w' := by
  have hn : n = 0 ∨ n = 1 ∨ n = 2 ∨ n = 3 ∨ n = 4 ∨ n = 5 ∨ n = 6 ∨ n = 7 ∨ n = 8 ∨ n = 9 := by omega
  rcases hn with rfl | rfl | rfl | rfl | rfl | rfl | rfl | rfl | rfl | rfl
  all_goals
    go_enter Tryd.func34, Tryd.ntmps34
    go_wp2
    go_ret
    exact ⟨by rfl, rfl⟩

theorem dec_step (m : Nat) (h : 0 < m) (l : List UInt8) : (if m / 10 = 0 then dig8 ((m % 10 : Nat) : Int) :: l else Lib.decDigits (m / 10) ++ (dig8 ((m % 10 : Nat) : Int) :: l)) = Lib.decDigits m ++ l := by
  rw [Lib.decDigits.eq_def m]
  have e : dig8 ((m % 10 : Nat) : Int) = UInt8.ofNat (48 + m % 10) := by unfold dig8; congr 1
  by_cases c : m < 10
  · rw [dif_pos c, if_pos (by omega), e, Nat.mod_eq_of_lt c]; rfl
  · rw [dif_neg c, if_neg (by omega), e]; simp

theorem dec_lenC : ∀ (k u : Nat), u < 10 ^ (k + 1) → (Lib.decDigits u).length ≤ k + 1
  | 0, u, h => by
    unfold Lib.decDigits
    rw [dif_pos (by simpa using h)]; simp
  | k + 1, u, h => by
    unfold Lib.decDigits
    split
    · simp
    · have := dec_lenC k (u / 10) (by rw [Nat.pow_succ] at h; omega)
      simp; omega

set_option maxHeartbeats 4000000 in
theorem decimal_nat (N : Nat) (hN : N < 9223372036854775808) (w : World) :
    Calls Tryd.prog 19 #[.int .i64 (N : Int)] w fun e w' => e = .returned (.string ⟨(Lib.decDigits N).toArray⟩) ∧ w = w' := by
  have HD := Lib.hid digit_c
  have hL := dec_lenC 18 N (by omega)
  have HL := Lib.hid hL
  have hneg : ¬ (N : Int) < 0 := by omega
  have q0 : (0 : Int) ≤ (N : Int) % 10 ∧ (N : Int) % 10 < 10 := by omega
  clear hL
  go_enter Tryd.func19, Tryd.ntmps19
  go_wp2_with (go_at_call 34; ((with_reducible refine (HD.out _ q0.1 q0.2 _).mono ?_); rintro e w' ⟨rfl, rfl⟩))
  go_loopg [0, 3] N (fun gk v0 v3 wr => ∃ (m : Nat) (l : List UInt8), m ≤ gk ∧ v0 = .int .i64 (m : Int) ∧ (∃ s : ByteArray, v3 = .string s ∧ s.data.toList = l) ∧ Hid ((if m = 0 then l else Lib.decDigits m ++ l) = Lib.decDigits N) ∧ m < 9223372036854775808 ∧ wr = w)
  case atStart =>
    refine ⟨N / 10, [dig8 ((N % 10 : Nat) : Int)], Nat.div_le_self _ _, by go_num, ⟨_, rfl, ?_⟩, Lib.hid ?_, by omega, rfl⟩
    · show [dig8 ((N : Int) % 10)] = _
      rw [Int.natCast_emod]; rfl
    · by_cases c : N = 0
      · subst c; rw [if_pos rfl, Lib.decDigits.eq_def, dif_pos (by decide)]; rfl
      · rw [dec_step N (by omega) []]; simp
  case round =>
    obtain ⟨m, l, hm, rfl, ⟨s, rfl, hs⟩, HE, hmb, rfl⟩ := hrel
    by_cases c : 0 < m
    · have i1 : (0 : Int) < (m : Int) := by omega
      have q1 : (0 : Int) ≤ (m : Int) % 10 ∧ (m : Int) % 10 < 10 := by omega
      have hsz : s.size ≤ 19 := by
        have e := HE.out
        rw [if_neg (by omega)] at e
        have := congrArg List.length e
        have h2 : s.size = l.length := by rw [← hs, Array.length_toList]; rfl
        have := HL.out
        simp at *
        omega
      have z1 : (⟨#[dig8 ((m : Int) % 10)]⟩ : ByteArray).size = 1 := rfl
      have HS := Lib.hid hs
      clear hs hneg q0
      go_wp2_with (go_at_call 34; ((with_reducible refine (HD.out _ q1.1 q1.2 _).mono ?_); rintro e w' ⟨rfl, rfl⟩))
      go_roundg (m / 10)
      case measure => omega
      case rel =>
        refine ⟨m / 10, dig8 ((m % 10 : Nat) : Int) :: l, Nat.le_refl _, by go_num, ⟨_, rfl, ?_⟩, Lib.hid ?_, by omega, rfl⟩
        · simp [HS.out]
        · rw [dec_step m c l]
          have := HE.out
          rwa [if_neg (by omega)] at this
    · have i1 : ¬ (0 : Int) < (m : Int) := by omega
      have HS := Lib.hid hs
      clear hs
      go_wp2_with fail
      go_ret
      refine ⟨ret_strC (ba_extC ?_), rfl⟩
      have := HE.out
      rw [if_pos (by omega)] at this
      rw [HS.out, this]

theorem dec_posC (u : Nat) (h : 10 ≤ u) : Lib.decDigits u = Lib.decDigits (u / 10) ++ [UInt8.ofNat (48 + u % 10)] := by
  rw [Lib.decDigits.eq_def, dif_neg (by omega)]

set_option maxHeartbeats 1000000 in
theorem decimal_c (n : Int) (h0 : -9223372036854775808 < n) (h1 : n < 9223372036854775808) (w : World) :
    Calls Tryd.prog 19 #[.int .i64 n] w fun e w' => e = .returned (.string ⟨(Lib.itoa n).toArray⟩) ∧ w = w' := by
  by_cases c : n < 0
  · obtain ⟨u, rfl⟩ : ∃ u : Nat, n = -(u : Int) := ⟨n.natAbs, by omega⟩
    have HN := Lib.hid (decimal_nat u (by omega))
    have hl := dec_lenC 18 u (by omega)
    have e : Lib.itoa (-(u : Int)) = 45 :: Lib.decDigits u := by
      unfold Lib.itoa
      rw [if_pos c]; congr 2; omega
    rw [e]
    obtain ⟨s, hs⟩ : ∃ s : ByteArray, s = ⟨(Lib.decDigits u).toArray⟩ := ⟨_, rfl⟩
    have hz : s.size ≤ 19 := by rw [hs]; simpa [ByteArray.size] using hl
    rw [← hs] at HN
    have HS := Lib.hid hs
    have hw : IntKind.i64.wrap (u : Int) = u := IntWalk.i64_in _ (by omega)
    clear hs e hl
    go_enter Tryd.func19, Tryd.ntmps19
    go_wp2_with fail
    refine (HN.out _).mono ?_
    rintro e w' ⟨rfl, rfl⟩
    go_wp2_with fail
    go_ret
    refine ⟨ret_strC (ba_extC ?_), rfl⟩
    rw [HS.out]; simp
  · obtain ⟨u, rfl⟩ : ∃ u : Nat, n = (u : Int) := ⟨n.toNat, by omega⟩
    have e : Lib.itoa (u : Int) = Lib.decDigits u := by
      unfold Lib.itoa
      rw [if_neg c]; congr 1
    rw [e]
    exact decimal_nat u (by omega) w

set_option maxHeartbeats 1000000 in
theorem second_c (op : Int) (h0 : 0 ≤ op) (h1 : op < 256) (w : World) :
    Calls Tryd.prog 35 #[.int .u8 op] w fun e w' => e = .returned (.string (if op = 98 ∨ op = 99 then ⟨#[99]⟩ else if op = 100 ∨ op = 101 then ⟨#[112]⟩ else ⟨#[114]⟩)) ∧ w = w' := by
  by_cases c1 : op = 98
  · subst c1
    go_enter Tryd.func35, Tryd.ntmps35
    go_wp2
    go_ret
    exact ⟨by rfl, rfl⟩
  by_cases c2 : op = 99
  · subst c2
    go_enter Tryd.func35, Tryd.ntmps35
    go_wp2
    go_ret
    exact ⟨by rfl, rfl⟩
  by_cases c3 : op = 100
  · subst c3
    go_enter Tryd.func35, Tryd.ntmps35
    go_wp2
    go_ret
    exact ⟨by rfl, rfl⟩
  by_cases c4 : op = 101
  · subst c4
    go_enter Tryd.func35, Tryd.ntmps35
    go_wp2
    go_ret
    exact ⟨by rfl, rfl⟩
  rw [if_neg (by omega), if_neg (by omega)]
  have d1 : (op == 98) = false := by simpa using c1
  have d2 : (op == 99) = false := by simpa using c2
  have d3 : (op == 100) = false := by simpa using c3
  have d4 : (op == 101) = false := by simpa using c4
  clear c1 c2 c3 c4
  go_enter Tryd.func35, Tryd.ntmps35
  go_wp2
  go_ret
  exact ⟨by rfl, rfl⟩
end Go.Proofs.YtocgiapkapekdaaDoor
