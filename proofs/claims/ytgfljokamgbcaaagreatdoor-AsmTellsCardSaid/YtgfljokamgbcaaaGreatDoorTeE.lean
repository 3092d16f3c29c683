/- The document's numbers in digits (mummerref04: digit, Decimal, second). Pairs that lie in a slice of one's own. The walks of the document's letter and name. The walk of the document's find. The walk of the document's Number. The walks of the document's Words and register. The walks of the document's Name at any operation, and of its operation. -/
import Derived.Test.YtgfljokamgbcaaaGreatDoorRows
import Derived.WalkKit
import Derived.WalkLawsBesides
import Derived.WalkSpells
import Derived.Lib.Hide
import Derived.Below
import Derived.Deep.LoopGhost
import Derived.Lib.ItoaNum
import Derived.IntWalk
import Derived.Test.YtgfljokamgbcaaaGreatDoorAsW
import Derived.Test.YtgfljokamgbcaaaGreatDoorAsB
import Derived.Test.YtgfljokamgbcaaaGreatDoorRdG
import Derived.Test.YtgfljokamgbcaaaGreatDoorAsF
import Derived.Test.YtgfljokamgbcaaaGreatDoorTxtD
import Derived.Test.YtgfljokamgbcaaaGreatDoorRefA
namespace Go.Proofs.YtgfljokamgbcaaaGreatDoor
open Go.RowKit
set_option linter.unusedSimpArgs false
set_option linter.unusedVariables false
set_option maxRecDepth 100000

/-- A digit as a byte. -/
def dig8 (n : Int) : UInt8 := UInt8.ofNat (48 + n).toNat
theorem ret_strC {a b : ByteArray} (h : a = b) : Ending.returned (.string a) = .returned (.string b) := by rw [h]
theorem ba_extC {x y : ByteArray} (h : x.data.toList = y.data.toList) : x = y := by
  cases x; cases y
  simp only [ByteArray.mk.injEq]
  exact Array.toList_inj.1 h

set_option maxHeartbeats 2000000 in
theorem digit_c (n : Int) (h0 : 0 ≤ n) (h1 : n < 10) (w : World) :
    Calls Tryz.prog 81 #[.int .i64 n] w fun e w' => e = .returned (.string ⟨#[dig8 n]⟩) ∧ w = w' := by
  have hn : n = 0 ∨ n = 1 ∨ n = 2 ∨ n = 3 ∨ n = 4 ∨ n = 5 ∨ n = 6 ∨ n = 7 ∨ n = 8 ∨ n = 9 := by omega
  rcases hn with rfl | rfl | rfl | rfl | rfl | rfl | rfl | rfl | rfl | rfl
  all_goals
    go_enter Tryz.func81, Tryz.ntmps81
    go_wp2
    go_ret
    exact ⟨by rfl, rfl⟩

theorem dec_step (m : Nat) (h : 0 < m) (l : List UInt8) : (if m / 10 = 0 then dig8 ((m % 10 : Nat) : Int) :: l else Lib.decDigits (m / 10) ++ (dig8 ((m % 10 : Nat) : Int) :: l)) = Lib.decDigits m ++ l := by
  rw [Lib.decDigits.eq_def m]
  have e : dig8 ((m % 10 : Nat) : Int) = UInt8.ofNat (48 + m % 10) := by unfold dig8; congr 1
  by_cases c : m < 10
  · rw [dif_pos c, if_pos (by omega), e, Nat.mod_eq_of_lt c]; rfl
  · rw [dif_neg c, if_neg (by omega), e]; simp

theorem dec_lenC : ∀ (k u : Nat), u < 10 ^ (k + 1) → (Lib.decDigits u).length ≤ k + 1
  | 0, u, h => by
    unfold Lib.decDigits
    rw [dif_pos (by simpa using h)]; simp
  | k + 1, u, h => by
    unfold Lib.decDigits
    split
    · simp
    · have := dec_lenC k (u / 10) (by rw [Nat.pow_succ] at h; omega)
      simp; omega

set_option maxHeartbeats 4000000 in
theorem decimal_nat (N : Nat) (hN : N < 9223372036854775808) (w : World) :
    Calls Tryz.prog 60 #[.int .i64 (N : Int)] w fun e w' => e = .returned (.string ⟨(Lib.decDigits N).toArray⟩) ∧ w = w' := by
  have HD := Lib.hid digit_c
  have hL := dec_lenC 18 N (by omega)
  have HL := Lib.hid hL
  have hneg : ¬ (N : Int) < 0 := by omega
  have q0 : (0 : Int) ≤ (N : Int) % 10 ∧ (N : Int) % 10 < 10 := by omega
  clear hL
  go_enter Tryz.func60, Tryz.ntmps60
  go_wp2_with (go_at_call 81; ((with_reducible refine (HD.out _ q0.1 q0.2 _).mono ?_); rintro e w' ⟨rfl, rfl⟩))
  go_loopg [0, 3] N (fun gk v0 v3 wr => ∃ (m : Nat) (l : List UInt8), m ≤ gk ∧ v0 = .int .i64 (m : Int) ∧ (∃ s : ByteArray, v3 = .string s ∧ s.data.toList = l) ∧ Hid ((if m = 0 then l else Lib.decDigits m ++ l) = Lib.decDigits N) ∧ m < 9223372036854775808 ∧ wr = w)
  case atStart =>
    refine ⟨N / 10, [dig8 ((N % 10 : Nat) : Int)], Nat.div_le_self _ _, by go_num, ⟨_, rfl, ?_⟩, Lib.hid ?_, by omega, rfl⟩
    · show [dig8 ((N : Int) % 10)] = _
      rw [Int.natCast_emod]; rfl
    · by_cases c : N = 0
      · subst c; rw [if_pos rfl, Lib.decDigits.eq_def, dif_pos (by decide)]; rfl
      · rw [dec_step N (by omega) []]; simp
  case round =>
    obtain ⟨m, l, hm, rfl, ⟨s, rfl, hs⟩, HE, hmb, rfl⟩ := hrel
    by_cases c : 0 < m
    · have i1 : (0 : Int) < (m : Int) := by omega
      have q1 : (0 : Int) ≤ (m : Int) % 10 ∧ (m : Int) % 10 < 10 := by omega
      have hsz : s.size ≤ 19 := by
        have e := HE.out
        rw [if_neg (by omega)] at e
        have := congrArg List.length e
        have h2 : s.size = l.length := by rw [← hs, Array.length_toList]; rfl
        have := HL.out
        simp at *
        omega
      have z1 : (⟨#[dig8 ((m : Int) % 10)]⟩ : ByteArray).size = 1 := rfl
      have HS := Lib.hid hs
      clear hs hneg q0
      go_wp2_with (go_at_call 81; ((with_reducible refine (HD.out _ q1.1 q1.2 _).mono ?_); rintro e w' ⟨rfl, rfl⟩))
      go_roundg (m / 10)
      case measure => omega
      case rel =>
        refine ⟨m / 10, dig8 ((m % 10 : Nat) : Int) :: l, Nat.le_refl _, by go_num, ⟨_, rfl, ?_⟩, Lib.hid ?_, by omega, rfl⟩
        · simp [HS.out]
        · rw [dec_step m c l]
          have := HE.out
          rwa [if_neg (by omega)] at this
    · have i1 : ¬ (0 : Int) < (m : Int) := by omega
      have HS := Lib.hid hs
      clear hs
      go_wp2_with fail
      go_ret
      refine ⟨ret_strC (ba_extC ?_), rfl⟩
      have := HE.out
      rw [if_pos (by omega)] at this
      rw [HS.out, this]

set_option maxHeartbeats 1000000 in
theorem decimal_c (n : Int) (h0 : -9223372036854775808 < n) (h1 : n < 9223372036854775808) (w : World) :
    Calls Tryz.prog 60 #[.int .i64 n] w fun e w' => e = .returned (.string ⟨(Lib.itoa n).toArray⟩) ∧ w = w' := by
  by_cases c : n < 0
  · obtain ⟨u, rfl⟩ : ∃ u : Nat, n = -(u : Int) := ⟨n.natAbs, by omega⟩
    have HN := Lib.hid (decimal_nat u (by omega))
    have hl := dec_lenC 18 u (by omega)
    have e : Lib.itoa (-(u : Int)) = 45 :: Lib.decDigits u := by
      unfold Lib.itoa
      rw [if_pos c]; congr 2; omega
    rw [e]
    obtain ⟨s, hs⟩ : ∃ s : ByteArray, s = ⟨(Lib.decDigits u).toArray⟩ := ⟨_, rfl⟩
    have hz : s.size ≤ 19 := by rw [hs]; simpa [ByteArray.size] using hl
    rw [← hs] at HN
    have HS := Lib.hid hs
    have hw : IntKind.i64.wrap (u : Int) = u := IntWalk.i64_in _ (by omega)
    clear hs e hl
    go_enter Tryz.func60, Tryz.ntmps60
    go_wp2_with fail
    refine (HN.out _).mono ?_
    rintro e w' ⟨rfl, rfl⟩
    go_wp2_with fail
    go_ret
    refine ⟨ret_strC (ba_extC ?_), rfl⟩
    rw [HS.out]; simp
  · obtain ⟨u, rfl⟩ : ∃ u : Nat, n = (u : Int) := ⟨n.toNat, by omega⟩
    have e : Lib.itoa (u : Int) = Lib.decDigits u := by
      unfold Lib.itoa
      rw [if_neg c]; congr 1
    rw [e]
    exact decimal_nat u (by omega) w

set_option maxHeartbeats 1000000 in
theorem second_c (op : Int) (h0 : 0 ≤ op) (h1 : op < 256) (w : World) :
    Calls Tryz.prog 98 #[.int .u8 op] w fun e w' => e = .returned (.string (if op = 98 ∨ op = 99 then ⟨#[99]⟩ else if op = 100 ∨ op = 101 then ⟨#[112]⟩ else ⟨#[114]⟩)) ∧ w = w' := by
  by_cases c1 : op = 98
  · subst c1
    go_enter Tryz.func98, Tryz.ntmps98
    go_wp2
    go_ret
    exact ⟨by rfl, rfl⟩
  by_cases c2 : op = 99
  · subst c2
    go_enter Tryz.func98, Tryz.ntmps98
    go_wp2
    go_ret
    exact ⟨by rfl, rfl⟩
  by_cases c3 : op = 100
  · subst c3
    go_enter Tryz.func98, Tryz.ntmps98
    go_wp2
    go_ret
    exact ⟨by rfl, rfl⟩
  by_cases c4 : op = 101
  · subst c4
    go_enter Tryz.func98, Tryz.ntmps98
    go_wp2
    go_ret
    exact ⟨by rfl, rfl⟩
  rw [if_neg (by omega), if_neg (by omega)]
  have d1 : (op == 98) = false := by simpa using c1
  have d2 : (op == 99) = false := by simpa using c2
  have d3 : (op == 100) = false := by simpa using c3
  have d4 : (op == 101) = false := by simpa using c4
  clear c1 c2 c3 c4
  go_enter Tryz.func98, Tryz.ntmps98
  go_wp2
  go_ret
  exact ⟨by rfl, rfl⟩
end Go.Proofs.YtgfljokamgbcaaaGreatDoor
namespace Go.Proofs.YtgfljokamgbcaaaGreatDoor
open Go.RowKit
set_option linter.unusedSimpArgs false
set_option linter.unusedVariables false

/-- Pairs that lie in a slice. -/
def PairsIn {α : Type} (enc : α → List Value) (w : World) (ao : Option Addr) (l : List α) : Prop :=
  l = [] ∨ ∃ g, ao = some ⟨g, 0, none⟩ ∧ g < w.heap.size ∧ ∀ i p u v, l[i]? = some p → enc p = [u, v] → w.cell? ⟨g, i * 2, none⟩ = some u ∧ w.cell? ⟨g, i * 2 + 1, none⟩ = some v
theorem flat2 {α : Type} (enc : α → List Value) (he : ∀ p, (enc p).length = 2) : ∀ (l : List α) (i : Nat) (p : α) (u v : Value), l[i]? = some p → enc p = [u, v] → (l.flatMap enc)[i * 2]? = some u ∧ (l.flatMap enc)[i * 2 + 1]? = some v
  | [], i, p, u, v, h, _ => by cases h
  | x :: l, 0, p, u, v, h, e => by
    simp only [List.getElem?_cons_zero, Option.some.injEq] at h
    subst h
    rw [List.flatMap_cons, e]
    exact ⟨rfl, rfl⟩
  | x :: l, i + 1, p, u, v, h, e => by
    rw [List.getElem?_cons_succ] at h
    have := flat2 enc he l i p u v h e
    rw [List.flatMap_cons, List.getElem?_append_right (by rw [he]; omega), List.getElem?_append_right (by rw [he]; omega), he]
    rw [show (i + 1) * 2 - 2 = i * 2 by omega, show (i + 1) * 2 + 1 - 2 = i * 2 + 1 by omega]
    exact this
theorem own_pairs {α : Type} {enc : α → List Value} (he : ∀ p, (enc p).length = 2) {w : World} {base : Nat} {e : TypeId} {v : Value} {l : List α} (h : w.ownsRow base e 2 v l.length (l.flatMap enc)) :
    ∃ ao cap, v = .slice ao l.length cap ∧ l.length ≤ cap ∧ cap ≤ maxLen ∧ PairsIn enc w ao l := by
  obtain ⟨h1, ⟨rfl, h2⟩ | ⟨g, cap, cur, rfl, h3, h4, h5⟩⟩ := h
  · exact ⟨none, 0, by rw [h2], by omega, by unfold maxLen; omega, .inl (List.eq_nil_of_length_eq_zero h2)⟩
  · obtain ⟨h5, h6, h7, h8⟩ := h5
    refine ⟨_, cap, rfl, h5, h6, .inr ⟨g, rfl, heap_ltA h4, fun i p u v' hp ep => ?_⟩⟩
    have hi := (List.getElem?_eq_some_iff.1 hp).1
    obtain ⟨q1, q2⟩ := flat2 enc he l i p u v' hp ep
    rw [← h8, List.getElem?_take, if_pos (by omega)] at q1 q2
    rw [cell_of_row w g (i * 2) _ _ _ h4, cell_of_row w g (i * 2 + 1) _ _ _ h4]
    exact ⟨by simpa using q1, by simpa using q2⟩
theorem PairsIn.below {α : Type} {enc : α → List Value} {w w' : World} {ao : Option Addr} {l : List α} (h : PairsIn enc w ao l) (hb : Below w.heap.size w w') : PairsIn enc w' ao l := by
  rcases h with h | ⟨g, h1, h2, h3⟩
  · exact .inl h
  · exact .inr ⟨g, h1, Nat.lt_of_lt_of_le h2 hb.size, fun i p u v hp ep => by
      obtain ⟨q1, q2⟩ := h3 i p u v hp ep
      exact ⟨(hb.cell (p := ⟨g, i * 2, none⟩) h2).trans q1, (hb.cell (p := ⟨g, i * 2 + 1, none⟩) h2).trans q2⟩⟩

theorem find_at {α : Type} {p : α → Bool} : ∀ (l : List α) (k : Nat) (x : α), l[k]? = some x → p x = true → (∀ j y, j < k → l[j]? = some y → p y = false) → l.find? p = some x
  | [], k, x, h, _, _ => by cases h
  | y :: l, 0, x, h, hp, _ => by
    simp only [List.getElem?_cons_zero, Option.some.injEq] at h
    subst h
    rw [List.find?_cons, hp]
  | y :: l, k + 1, x, h, hp, hn => by
    rw [List.find?_cons, hn 0 y (by omega) rfl]
    exact find_at l k x h hp (fun j z hj hz => hn (j + 1) z (by omega) hz)
end Go.Proofs.YtgfljokamgbcaaaGreatDoor
namespace Go.Proofs.YtgfljokamgbcaaaGreatDoor
open Go.RowKit
set_option linter.unusedSimpArgs false
set_option linter.unusedVariables false
set_option maxRecDepth 100000

theorem letterR_c (c : UInt8) (w : World) : Calls Tryz.prog 30 #[.int .u8 (c.toNat : Int)] w fun e w' => e = .returned (.bool (letterB c)) ∧ w' = w := by
  have hc := u8_ltA c
  have h95 : (c == 95) = decide ((c.toNat : Int) = 95) := by
    rw [Bool.eq_iff_iff]
    simp only [beq_iff_eq, decide_eq_true_eq]
    exact iff_of_eq (u8_neA (c := c) (k := 95) (by decide))
  have hl : letterB c = ((decide (97 ≤ (c.toNat : Int)) && decide ((c.toNat : Int) ≤ 122)) || decide ((c.toNat : Int) = 95)) := by
    unfold letterB
    rw [h95, show decide (97 ≤ c.toNat) = decide (97 ≤ (c.toNat : Int)) from decide_eq_decide.2 (by omega), show decide (c.toNat ≤ 122) = decide ((c.toNat : Int) ≤ 122) from decide_eq_decide.2 (by omega)]
  rw [hl]
  generalize (c.toNat : Int) = x at hc ⊢
  go_enter Tryz.func30, Tryz.ntmps30
  by_cases c1 : 97 ≤ x <;> by_cases c2 : x ≤ 122 <;> by_cases c3 : x = 95
  all_goals
    first
      | (exfalso; omega)
      | (go_wp2_with fail
         go_ret
         exact ⟨Isa.ret_bool (by first | rfl | (simp [c1, c2, c3]; done) | (rw [Bool.eq_iff_iff]; simp only [beq_iff_eq, decide_eq_true_eq, Bool.or_eq_true, Bool.and_eq_true]; omega)), rfl⟩)

set_option maxHeartbeats 4000000 in
theorem nameR_c (L : Wd) (hL : L.length ≤ 100000) (w : World) : Calls Tryz.prog 13 #[.string ⟨L.toArray⟩] w fun e w' => e = .returned (.bool (nameB L)) ∧ Below w.heap.size w w' := by
  have hlt := letterR_c
  have HLt := Lib.hid hlt
  have sz := ba_size L
  have eK := Lib.hid fun (k : Nat) (x : UInt8) (h : L[k]? = some x) => ba_get L k x h
  obtain ⟨R, hR⟩ : ∃ R, nameB L = R := ⟨_, rfl⟩
  rw [hR]
  have HR := Lib.hid hR
  obtain ⟨s, hs⟩ : ∃ s : ByteArray, s = ⟨L.toArray⟩ := ⟨_, rfl⟩
  rw [← hs] at sz eK ⊢
  clear hs hlt hR
  go_enter Tryz.func13, Tryz.ntmps13
  by_cases c1 : 1 ≤ L.length
  · have d1 : ¬ (L.length : Int) < 1 := by omega
    by_cases c2 : L.length ≤ 16
    · have d2 : ¬ (16 : Int) < (L.length : Int) := by omega
      obtain ⟨c0, h0⟩ : ∃ c, L[0]? = some c := ⟨_, List.getElem?_eq_getElem (by omega)⟩
      have e0 := eK.out 0 c0 h0
      have hhd : L.headD 0 = c0 := by cases L with
        | nil => simp at h0
        | cons a l => simpa using h0
      have i0 : 0 < s.size := by omega
      have HR2 := Lib.hid (show (letterB c0 && L.all fun c => letterB c || digitB c) = R by have := HR.out; unfold nameB at this; rw [hhd] at this; simpa [c1, c2] using this)
      have j0 : (0 : Int) < (L.length : Int) := by omega
      clear HR hhd
      go_wp2_with fail
      refine (HLt.out c0 _).mono ?_
      rintro e w1 ⟨rfl, rfl⟩
      cases hl0 : letterB c0
      · have hRf : R = false := by have := HR2.out; rw [hl0] at this; simpa using this.symm
        subst hRf
        go_wp2_with fail
        go_ret
        exact ⟨rfl, Below.refl _ _⟩
      · have HR3 := Lib.hid (show ((L.drop 1).all fun c => letterB c || digitB c) = R by
          have := HR2.out
          cases L with
          | nil => simp at h0
          | cons a l =>
            have ha : a = c0 := by simpa using h0
            subst ha
            simpa [hl0] using this)
        clear HR2 e0 h0
        go_wp2_with fail
        go_loopg [3] (L.length - 1) (fun gk vk wr => ∃ k : Nat, gk + k = L.length ∧ vk = .int .i64 (k : Int) ∧ Hid (((L.drop k).all fun c => letterB c || digitB c) = R) ∧ wr = w1)
        case atStart => exact ⟨1, by omega, rfl, HR3, rfl⟩
        case round =>
          obtain ⟨k, hk, rfl, HD, rfl⟩ := hrel
          by_cases e1 : k < L.length
          · obtain ⟨c, hc⟩ : ∃ c, L[k]? = some c := ⟨_, List.getElem?_eq_getElem e1⟩
            have i1 : (k : Int) < (L.length : Int) := by omega
            have ec := eK.out k c hc
            have hcb := u8_ltA c
            have hd : L.drop k = c :: L.drop (k + 1) := by
              obtain ⟨h1, rfl⟩ := List.getElem?_eq_some_iff.1 hc
              exact List.drop_eq_getElem_cons h1
            have HD2 := Lib.hid (show (((letterB c || digitB c) && (L.drop (k + 1)).all fun c => letterB c || digitB c) = R) by have := HD.out; rw [hd] at this; simpa using this)
            have hdg : digitB c = (decide (48 ≤ (c.toNat : Int)) && decide ((c.toNat : Int) ≤ 57)) := by
              unfold digitB
              rw [show decide (48 ≤ c.toNat) = decide (48 ≤ (c.toNat : Int)) from decide_eq_decide.2 (by omega), show decide (c.toNat ≤ 57) = decide ((c.toNat : Int) ≤ 57) from decide_eq_decide.2 (by omega)]
            rw [hdg] at HD2
            clear hc hd HD hdg
            go_wp2_with fail
            refine (HLt.out c _).mono ?_
            rintro e w2 ⟨rfl, rfl⟩
            cases hlc : letterB c
            · rw [hlc] at HD2
              by_cases f1 : (c.toNat : Int) < 48
              · have hRf : R = false := by have := HD2.out; simp [show ¬ (48 : Int) ≤ (c.toNat : Int) by omega] at this; first | exact this | exact this.symm
                subst hRf
                go_wp2_with fail
                go_ret
                exact ⟨rfl, Below.refl _ _⟩
              · by_cases f2 : (57 : Int) < (c.toNat : Int)
                · have hRf : R = false := by have := HD2.out; simp [show ¬ (c.toNat : Int) ≤ 57 by omega] at this; first | exact this | exact this.symm
                  subst hRf
                  go_wp2_with fail
                  go_ret
                  exact ⟨rfl, Below.refl _ _⟩
                · have HD3 := Lib.hid (show ((L.drop (k + 1)).all fun c => letterB c || digitB c) = R by have := HD2.out; simpa [show (48 : Int) ≤ (c.toNat : Int) by omega, show (c.toNat : Int) ≤ 57 by omega] using this)
                  go_wp2_with fail
                  go_roundg (gk - 1)
                  case measure => omega
                  case rel => exact ⟨k + 1, by omega, by go_num, HD3, rfl⟩
            · have HD3 := Lib.hid (show ((L.drop (k + 1)).all fun c => letterB c || digitB c) = R by have := HD2.out; rw [hlc] at this; simpa using this)
              go_wp2_with fail
              go_roundg (gk - 1)
              case measure => omega
              case rel => exact ⟨k + 1, by omega, by go_num, HD3, rfl⟩
          · have i1 : ¬ (k : Int) < (L.length : Int) := by omega
            have hRt : R = true := by have := HD.out; rw [List.drop_eq_nil_iff.2 (by omega)] at this; exact this.symm
            subst hRt
            go_wp2_with fail
            go_ret
            exact ⟨rfl, Below.refl _ _⟩
    · have d2 : (16 : Int) < (L.length : Int) := by omega
      have hRf : R = false := by have := HR.out; unfold nameB at this; simp [c2] at this; first | exact this | exact this.symm
      subst hRf
      go_wp2_with fail
      go_ret
      exact ⟨rfl, Below.refl _ _⟩
  · have d1 : (L.length : Int) < 1 := by omega
    have hRf : R = false := by have := HR.out; unfold nameB at this; simp [c1] at this; first | exact this | exact this.symm
    subst hRf
    go_wp2_with fail
    go_ret
    exact ⟨rfl, Below.refl _ _⟩
end Go.Proofs.YtgfljokamgbcaaaGreatDoor
namespace Go.Proofs.YtgfljokamgbcaaaGreatDoor
open Go.RowKit
set_option linter.unusedSimpArgs false
set_option linter.unusedVariables false
set_option maxRecDepth 100000

set_option maxHeartbeats 4000000 in
theorem findR_c (ao : Option Addr) (cap : Nat) (l : List (Wd × Int)) (s : Wd) (w : World) (hI : PairsIn labA w ao l) (hl : l.length ≤ 100000) (hc : l.length ≤ cap) (hm : cap ≤ maxLen) :
    Calls Tryz.prog 14 #[.slice ao l.length cap, .string ⟨s.toArray⟩] w fun e w' => e = .returned (.int .i64 ((findL l s).getD (-1))) ∧ w' = w := by
  obtain ⟨R, hR⟩ : ∃ x : Value, x = .int .i64 ((findL l s).getD (-1)) := ⟨_, rfl⟩
  rw [← hR]
  have HR := Lib.hid hR
  have HI := Lib.hid hI
  clear hR hI
  go_enter Tryz.func14, Tryz.ntmps14
  go_wp2_with fail
  go_loopg [5] l.length (fun gk v5 wr => ∃ k : Nat, gk + k = l.length ∧ v5 = .int .i64 (k : Int) ∧ wr = w ∧ Hid (∀ j p, j < k → l[j]? = some p → p.1 ≠ s))
  case atStart => exact ⟨0, by omega, rfl, rfl, Lib.hid (fun j p h => absurd h (by omega))⟩
  case round =>
    obtain ⟨k, hk, rfl, hw, HF⟩ := hrel
    have hw := hw.symm
    subst hw
    by_cases c1 : k < l.length
    · have i1 : (k : Int) < (l.length : Int) := by omega
      obtain ⟨p, hp⟩ : ∃ p, l[k]? = some p := ⟨_, List.getElem?_eq_getElem c1⟩
      obtain ⟨g, rfl, hg, y0, y1⟩ : ∃ g, ao = some ⟨g, 0, none⟩ ∧ g < w.heap.size ∧ w.cell? ⟨g, k * 2, none⟩ = some (.string ⟨p.1.toArray⟩) ∧ w.cell? ⟨g, k * 2 + 1, none⟩ = some (.int .i64 p.2) := by
        rcases HI.out with h | ⟨g, h1, h2, h3⟩
        · rw [h] at hp; cases hp
        · exact ⟨g, h1, h2, h3 k p _ _ hp rfl⟩
      have HP := Lib.hid hp
      clear hp
      by_cases c2 : p.1 = s
      · have e1 : (p.1 == s) = true := by simp [c2]
        have HRR := Lib.hid (show R = .int .i64 p.2 by
          rw [HR.out]
          have : findL l s = some p.2 := by
            unfold findL
            rw [find_at l k p HP.out (by simp [c2]) (fun j q hj hq => by simpa using HF.out j q hj hq)]
            rfl
          rw [this]; rfl)
        clear HR c2
        go_wp2_with fail
        go_ret
        exact ⟨by rw [HRR.out]; rfl, rfl⟩
      · have e1 : (p.1 == s) = false := by simpa using c2
        go_wp2_with fail
        go_roundg (gk - 1)
        case measure => omega
        case rel =>
          refine ⟨k + 1, by omega, by go_num, rfl, Lib.hid fun j q hj hq => ?_⟩
          rcases Nat.lt_or_ge j k with h | h
          · exact HF.out j q h hq
          · obtain rfl : j = k := by omega
            rw [HP.out] at hq; cases hq
            exact c2
    · have i1 : ¬ (k : Int) < (l.length : Int) := by omega
      have HRR := Lib.hid (show R = .int .i64 (-1) by
        rw [HR.out]
        have : findL l s = none := by
          unfold findL
          rw [Option.map_eq_none_iff, List.find?_eq_none]
          intro p hp
          obtain ⟨j, hj⟩ := List.getElem?_of_mem hp
          have hjl := (List.getElem?_eq_some_iff.1 hj).1
          simpa using HF.out j p (by omega) hj
        rw [this]; rfl)
      clear HR
      go_wp2_with fail
      go_ret
      exact ⟨by rw [HRR.out]; rfl, rfl⟩
end Go.Proofs.YtgfljokamgbcaaaGreatDoor
namespace Go.Proofs.YtgfljokamgbcaaaGreatDoor
open Go.RowKit
set_option linter.unusedSimpArgs false
set_option linter.unusedVariables false
set_option maxRecDepth 100000

theorem dvI_lt : ∀ (l : List UInt8) (n : Int), 0 ≤ n → isDig l → 0 ≤ dvI l n ∧ dvI l n < (n + 1) * 10 ^ l.length
  | [], n, h0, _ => by simp [dvI]; omega
  | c :: r, n, h0, h => by
    have hc := h c List.mem_cons_self
    have ih := dvI_lt r (10 * n + (c.toNat : Int) - 48) (by omega) (fun d hd => h d (List.mem_cons_of_mem _ hd))
    have e : dvI (c :: r) n = dvI r (10 * n + (c.toNat : Int) - 48) := rfl
    rw [e, List.length_cons, Int.pow_succ]
    refine ⟨ih.1, Int.lt_of_lt_of_le ih.2 ?_⟩
    have hp : (0 : Int) ≤ 10 ^ r.length := Int.pow_nonneg (by decide)
    have h2 : (10 * n + (c.toNat : Int) - 48 + 1) ≤ (n + 1) * 10 := by omega
    have := Int.mul_le_mul_of_nonneg_right h2 hp
    rw [Int.mul_assoc, Int.mul_comm 10 (10 ^ r.length)] at this
    exact this
theorem dec_lenR : ∀ (k u : Nat), u < 10 ^ (k + 1) → (Lib.decDigits u).length ≤ k + 1
  | 0, u, h => by
    rw [Lib.decDigits, dif_pos (by simpa using h)]
    simp
  | k + 1, u, h => by
    rw [Lib.decDigits]
    split
    · simp
    · have : u / 10 < 10 ^ (k + 1) := by
        rw [Nat.pow_succ] at h
        exact Nat.div_lt_of_lt_mul (by omega)
      have := dec_lenR k (u / 10) this
      simp
      omega
/-- A number's text, of a word that is a number. -/
theorem num_facts {L : List UInt8} {m : Int} (h : numF L = some m) : 1 ≤ L.length ∧ L.length ≤ 11 ∧ L = Lib.itoa m ∧ (if L.head? = some 45 then isDig L.tail ∧ m = -dvI L.tail 0 else isDig L ∧ m = dvI L 0) ∧ -2147483648 ≤ m ∧ m < 2147483648 := by
  have hb := numF_bd h
  have hl := num_read h
  have hne : Lib.itoa m ≠ [] := by
    unfold Lib.itoa
    split
    · simp
    · exact (dec_digits _).2
  refine ⟨?_, ?_, hl, ?_, hb⟩
  · rw [hl]
    exact List.length_pos_iff.2 hne
  · rw [hl]
    unfold Lib.itoa
    split
    · have := dec_lenR 9 m.natAbs (by omega)
      simp
      omega
    · have := dec_lenR 9 m.toNat (by omega)
      omega
  · unfold numF at h
    have key : ∀ (B : Bool) (l : List UInt8), numB B l = some m → isDig l ∧ m = if B = true then -dvI l 0 else dvI l 0 := by
      intro B l hB
      unfold numB at hB
      split at hB
      · cases hB
      · cases hd : digF l 0 with
        | none => rw [hd] at hB; cases hB
        | some q =>
          rw [hd] at hB
          obtain ⟨h1, h2⟩ := digF_is l 0 q hd
          refine ⟨h1, ?_⟩
          cases B
          · simp only [Option.bind_some, Bool.false_eq_true, if_false] at hB ⊢
            split at hB
            · cases hB; exact h2
            · cases hB
          · simp only [Option.bind_some, if_true] at hB ⊢
            cases hB
            rw [h2]
    split at h
    · rename_i c
      rw [if_pos c]
      exact key true _ h
    · rename_i c
      rw [if_neg c]
      exact key false _ h
/-- The document's number of a word: as numF. -/
theorem num_same {L : List UInt8} {N : Int} (h : if L.head? = some 45 then isDig L.tail ∧ N = -dvI L.tail 0 else isDig L ∧ N = dvI L 0) : (Lib.itoa N = L ∧ -2147483648 ≤ N ∧ N < 2147483648) ↔ numF L = some N := by
  constructor
  · rintro ⟨h1, h2, h3⟩
    rw [← h1]
    exact num_show h2 h3
  · intro hn
    have := num_facts hn
    exact ⟨this.2.2.1.symm, this.2.2.2.2⟩

theorem num_is {L : List UInt8} {N : Int} (h : if L.head? = some 45 then isDig L.tail ∧ N = -dvI L.tail 0 else isDig L ∧ N = dvI L 0) : numF L = if Lib.itoa N = L ∧ -2147483648 ≤ N ∧ N < 2147483648 then some N else none := by
  by_cases c : Lib.itoa N = L ∧ -2147483648 ≤ N ∧ N < 2147483648
  · rw [if_pos c]
    exact (num_same h).1 c
  · rw [if_neg c]
    cases hn : numF L with
    | none => rfl
    | some m =>
      exfalso
      have hf := (num_facts hn).2.2.2.1
      have hm : m = N := by
        split at h
        · rename_i hh
          rw [if_pos hh] at hf
          rw [hf.2, h.2]
        · rename_i hh
          rw [if_neg hh] at hf
          rw [hf.2, h.2]
      rw [hm] at hn
      exact c ((num_same h).2 hn)
theorem str_eqR (s t : List UInt8) : ((⟨s.toArray⟩ : ByteArray).toList == t) = decide (s = t) := by
  rw [empty_toList]
  by_cases c : s = t
  · simp [c]
  · simp [c]
def NumP (L : List UInt8) (w : World) (e : Ending) (w' : World) : Prop := w' = w ∧ ∃ n : Int, e = .returned (.tuple #[.int .i64 n, .bool (numF L).isSome]) ∧ ∀ m, numF L = some m → n = m

set_option maxHeartbeats 8000000 in
/-- .. where digits alone stand from a place on. -/
theorem numR_c (L : List UInt8) (hL : L.length ≤ 200000000) (w : World) : Calls Tryz.prog 31 #[.string ⟨L.toArray⟩] w (NumP L w) := by
  have sz := ba_size L
  have eK := Lib.hid fun (k : Nat) (x : UInt8) (h : L[k]? = some x) => ba_get L k x h
  have HD := Lib.hid decimal_c
  have HSt := Lib.hid (str_eqR L)
  generalize hs : (⟨L.toArray⟩ : ByteArray) = s at sz eK HSt ⊢
  clear hs
  obtain ⟨PP, hPP⟩ : ∃ x, x = NumP L w := ⟨_, rfl⟩
  rw [← hPP]
  have HP := Lib.hid hPP
  clear hPP
  go_enter Tryz.func31, Tryz.ntmps31
  by_cases c1 : 1 ≤ L.length
  · have d1 : ¬ (L.length : Int) < 1 := by omega
    by_cases c2 : L.length ≤ 11
    · have d2 : ¬ (11 : Int) < (L.length : Int) := by omega
      have hbd : ∀ (l : List UInt8), l.length ≤ 11 → isDig l → 0 ≤ dvI l 0 ∧ dvI l 0 < 100000000000 := fun l hl hd => by
        obtain ⟨q1, q2⟩ := dvI_lt l 0 (by omega) hd
        refine ⟨q1, Int.lt_of_lt_of_le q2 ?_⟩
        have h1 := Nat.pow_le_pow_right (show 0 < 10 by decide) hl
        have h2 : ((10 ^ l.length : Nat) : Int) ≤ ((10 ^ 11 : Nat) : Int) := Int.ofNat_le.2 h1
        simp only [Int.natCast_pow] at h2
        simpa using h2
      obtain ⟨c0, h0⟩ : ∃ c, L[0]? = some c := ⟨_, List.getElem?_eq_getElem (by omega)⟩
      have e0 := eK.out 0 c0 h0
      have i0 : 0 < s.size := by omega
      have j0 : (0 : Int) < (L.length : Int) := by omega
      have hhd : L.head? = some c0 := by rw [← h0]; cases L <;> rfl
      have hc0 := u8_ltA c0
      have noDig : ∀ (k : Nat) (c : UInt8), (if L.head? = some 45 then 1 else 0) ≤ k → L[k]? = some c → ((c.toNat : Int) < 48 ∨ (57 : Int) < (c.toNat : Int)) → numF L = none := by
        intro k c hk hc hd
        cases h : numF L with
        | none => rfl
        | some m =>
          exfalso
          have hf := (num_facts h).2.2.2.1
          split at hf
          · rename_i hh
            rw [if_pos hh] at hk
            have hm : c ∈ L.tail := by
              obtain ⟨q, rfl⟩ : ∃ q, k = q + 1 := ⟨k - 1, by omega⟩
              have : L.tail[q]? = some c := by rw [List.getElem?_tail]; exact hc
              exact List.mem_of_getElem? this
            have := hf.1 c hm
            omega
          · have := hf.1 c (List.mem_of_getElem? hc)
            omega
      by_cases cm : (c0.toNat : Int) = 45
      · have hm45 : L.head? = some 45 := by rw [hhd]; congr 1; exact UInt8.toNat_inj.1 (by simp; omega)
        have e45 : ((c0.toNat : Int) == 45) = true := by simp [cm]
        have HFR : (if L.head? = some 45 then 1 else 0) = 1 := if_pos hm45
        clear h0 hhd
        go_wp2_with fail
        go_loopg [4, 6] (L.length - 1) (fun gk v4 v6 wr => ∃ (k : Nat) (N : Int), gk + k = L.length ∧ 1 ≤ k ∧ v6 = .int .i64 (k : Int) ∧ v4 = .int .i64 N ∧ 0 ≤ N ∧ N < 100000000000 ∧ Hid (N = dvI ((L.drop 1).take (k - 1)) 0 ∧ isDig ((L.drop 1).take (k - 1))) ∧ wr = w)
        case atStart => exact ⟨1, 0, by omega, Nat.le_refl _, rfl, rfl, Int.le_refl _, by decide, Lib.hid ⟨by simp [dvI], fun d hd => by simp at hd⟩, rfl⟩
        case round =>
          obtain ⟨k, N, hk, hf, rfl, rfl, n0, n1, HI, hw⟩ := hrel
          have hw := hw.symm
          subst hw
          by_cases e1 : k < L.length
          · obtain ⟨c, hc⟩ : ∃ c, L[k]? = some c := ⟨_, List.getElem?_eq_getElem e1⟩
            have i1 : (k : Int) < (L.length : Int) := by omega
            have ec := eK.out k c hc
            have hcb := u8_ltA c
            have HND := Lib.hid (noDig k c (by rw [HFR]; omega) hc)
            have HX := Lib.hid (show (L.drop 1).take (k + 1 - 1) = (L.drop 1).take (k - 1) ++ [c] by
              rw [show k + 1 - 1 = k - 1 + 1 by omega, List.take_add_one, List.getElem?_drop, show 1 + (k - 1) = k by omega, hc]
              rfl)
            have hB := hbd ((L.drop 1).take (k + 1 - 1)) (by simp; omega)
            rw [HX.out] at hB
            have HBd := Lib.hid hB
            clear hc hB
            by_cases f1 : (c.toNat : Int) < 48
            · have hn := HND.out (.inl f1)
              go_wp2_with fail
              rw [HP.out]
              exact ⟨rfl, 0, by rw [hn]; rfl, fun m h => by rw [hn] at h; cases h⟩
            · by_cases f2 : (57 : Int) < (c.toNat : Int)
              · have hn := HND.out (.inr f2)
                go_wp2_with fail
                rw [HP.out]
                exact ⟨rfl, 0, by rw [hn]; rfl, fun m h => by rw [hn] at h; cases h⟩
              · have HS1 : Hid (10 * N + (c.toNat : Int) - 48 = dvI ((L.drop 1).take (k - 1) ++ [c]) 0 ∧ isDig ((L.drop 1).take (k - 1) ++ [c])) := Lib.hid ⟨by rw [dvI_snoc, ← HI.out.1], fun d hd => by
                  rcases List.mem_append.1 hd with hd | hd
                  · exact HI.out.2 d hd
                  · have : d = c := by simpa using hd
                    subst this
                    omega⟩
                have hnb := HBd.out HS1.out.2
                rw [← HS1.out.1] at hnb
                have hz1 : IntKind.i64.wrap (10 * N) = 10 * N := IntWalk.i64_in _ ⟨by omega, by omega⟩
                have hz2 : IntKind.i64.wrap (10 * N + (c.toNat : Int)) = 10 * N + (c.toNat : Int) := IntWalk.i64_in _ ⟨by omega, by omega⟩
                have hz3 : IntKind.i64.wrap (10 * N + (c.toNat : Int) - 48) = 10 * N + (c.toNat : Int) - 48 := IntWalk.i64_in _ ⟨by omega, by omega⟩
                go_wp2_with fail
                go_roundg (gk - 1)
                case measure => omega
                case rel => exact ⟨k + 1, _, by omega, by omega, by go_num, rfl, hnb.1, hnb.2, Lib.hid (by rw [HX.out]; exact HS1.out), rfl⟩
          · have i1 : ¬ (k : Int) < (L.length : Int) := by omega
            have hk2 : k = L.length := by omega
            have HE := Lib.hid (show N = dvI (L.drop 1) 0 ∧ isDig (L.drop 1) by
              have h1 := HI.out
              rw [List.take_of_length_le (by simp; omega)] at h1
              exact h1)
            clear hk2 HI
            go_wp2_with fail
            refine (HD.out _ (by omega) (by omega) _).mono ?_
            rintro e w2 ⟨rfl, rfl⟩
            have hnum := num_is (L := L) (N := -N) (by rw [if_pos hm45, ← List.drop_one]; exact ⟨HE.out.2, by rw [← HE.out.1]⟩)
            have hsl : s.toList = L := by have := HSt.out L; simpa using this
            clear HE HD noDig hbd
            by_cases c3 : Lib.itoa (-N) = L
            · have e3 : (Lib.itoa (-N) == L) = true := by simp [c3]
              by_cases c4 : -2147483648 ≤ -N
              · by_cases c5 : -N < 2147483648
                · have e5 : decide (-N < 2147483648) = true := decide_eq_true c5
                  rw [if_pos ⟨c3, c4, c5⟩] at hnum
                  have HN := Lib.hid hnum
                  clear hnum c3
                  go_wp2_with fail
                  rw [HP.out]
                  exact ⟨rfl, -N, by rw [HN.out]; rfl, fun m h => by rw [HN.out] at h; exact Option.some.inj h⟩
                · have e5 : decide (-N < 2147483648) = false := decide_eq_false c5
                  rw [if_neg (fun h => c5 h.2.2)] at hnum
                  have HN := Lib.hid hnum
                  clear hnum c3
                  go_wp2_with fail
                  rw [HP.out]
                  exact ⟨rfl, -N, by rw [HN.out]; rfl, fun m h => by rw [HN.out] at h; cases h⟩
              · rw [if_neg (fun h => c4 h.2.1)] at hnum
                have HN := Lib.hid hnum
                clear hnum c3
                go_wp2_with fail
                rw [HP.out]
                exact ⟨rfl, -N, by rw [HN.out]; rfl, fun m h => by rw [HN.out] at h; cases h⟩
            · have e3 : (Lib.itoa (-N) == L) = false := by simpa using c3
              rw [if_neg (fun h => c3 h.1)] at hnum
              have HN := Lib.hid hnum
              clear hnum c3
              go_wp2_with fail
              rw [HP.out]
              exact ⟨rfl, -N, by rw [HN.out]; rfl, fun m h => by rw [HN.out] at h; cases h⟩
      · have hm45 : ¬ L.head? = some 45 := by
          rw [hhd]
          intro h
          have := Option.some.inj h
          rw [this] at cm
          exact cm rfl
        have HFR : (if L.head? = some 45 then 1 else 0) = 0 := if_neg hm45
        have e45 : ((c0.toNat : Int) == 45) = false := by simpa using cm
        clear h0 hhd
        go_wp2_with fail
        go_loopg [4, 6] (L.length - 0) (fun gk v4 v6 wr => ∃ (k : Nat) (N : Int), gk + k = L.length ∧ 0 ≤ k ∧ v6 = .int .i64 (k : Int) ∧ v4 = .int .i64 N ∧ 0 ≤ N ∧ N < 100000000000 ∧ Hid (N = dvI ((L.drop 0).take (k - 0)) 0 ∧ isDig ((L.drop 0).take (k - 0))) ∧ wr = w)
        case atStart => exact ⟨0, 0, by omega, Nat.le_refl _, rfl, rfl, Int.le_refl _, by decide, Lib.hid ⟨by simp [dvI], fun d hd => by simp at hd⟩, rfl⟩
        case round =>
          obtain ⟨k, N, hk, hf, rfl, rfl, n0, n1, HI, hw⟩ := hrel
          have hw := hw.symm
          subst hw
          by_cases e1 : k < L.length
          · obtain ⟨c, hc⟩ : ∃ c, L[k]? = some c := ⟨_, List.getElem?_eq_getElem e1⟩
            have i1 : (k : Int) < (L.length : Int) := by omega
            have ec := eK.out k c hc
            have hcb := u8_ltA c
            have HND := Lib.hid (noDig k c (by rw [HFR]; omega) hc)
            have HX := Lib.hid (show (L.drop 0).take (k + 1 - 0) = (L.drop 0).take (k - 0) ++ [c] by
              rw [show k + 1 - 0 = k - 0 + 1 by omega, List.take_add_one, List.getElem?_drop, show 0 + (k - 0) = k by omega, hc]
              rfl)
            have hB := hbd ((L.drop 0).take (k + 1 - 0)) (by simp; omega)
            rw [HX.out] at hB
            have HBd := Lib.hid hB
            clear hc hB
            by_cases f1 : (c.toNat : Int) < 48
            · have hn := HND.out (.inl f1)
              go_wp2_with fail
              rw [HP.out]
              exact ⟨rfl, 0, by rw [hn]; rfl, fun m h => by rw [hn] at h; cases h⟩
            · by_cases f2 : (57 : Int) < (c.toNat : Int)
              · have hn := HND.out (.inr f2)
                go_wp2_with fail
                rw [HP.out]
                exact ⟨rfl, 0, by rw [hn]; rfl, fun m h => by rw [hn] at h; cases h⟩
              · have HS1 : Hid (10 * N + (c.toNat : Int) - 48 = dvI ((L.drop 0).take (k - 0) ++ [c]) 0 ∧ isDig ((L.drop 0).take (k - 0) ++ [c])) := Lib.hid ⟨by rw [dvI_snoc, ← HI.out.1], fun d hd => by
                  rcases List.mem_append.1 hd with hd | hd
                  · exact HI.out.2 d hd
                  · have : d = c := by simpa using hd
                    subst this
                    omega⟩
                have hnb := HBd.out HS1.out.2
                rw [← HS1.out.1] at hnb
                have hz1 : IntKind.i64.wrap (10 * N) = 10 * N := IntWalk.i64_in _ ⟨by omega, by omega⟩
                have hz2 : IntKind.i64.wrap (10 * N + (c.toNat : Int)) = 10 * N + (c.toNat : Int) := IntWalk.i64_in _ ⟨by omega, by omega⟩
                have hz3 : IntKind.i64.wrap (10 * N + (c.toNat : Int) - 48) = 10 * N + (c.toNat : Int) - 48 := IntWalk.i64_in _ ⟨by omega, by omega⟩
                go_wp2_with fail
                go_roundg (gk - 1)
                case measure => omega
                case rel => exact ⟨k + 1, _, by omega, by omega, by go_num, rfl, hnb.1, hnb.2, Lib.hid (by rw [HX.out]; exact HS1.out), rfl⟩
          · have i1 : ¬ (k : Int) < (L.length : Int) := by omega
            have hk2 : k = L.length := by omega
            have HE := Lib.hid (show N = dvI (L.drop 0) 0 ∧ isDig (L.drop 0) by
              have h1 := HI.out
              rw [List.take_of_length_le (by simp; omega)] at h1
              exact h1)
            clear hk2 HI
            go_wp2_with fail
            refine (HD.out _ (by omega) (by omega) _).mono ?_
            rintro e w2 ⟨rfl, rfl⟩
            have hnum := num_is (L := L) (N := N) (by rw [if_neg hm45]; exact ⟨HE.out.2, HE.out.1⟩)
            have hsl : s.toList = L := by have := HSt.out L; simpa using this
            clear HE HD noDig hbd
            by_cases c3 : Lib.itoa (N) = L
            · have e3 : (Lib.itoa (N) == L) = true := by simp [c3]
              by_cases c4 : -2147483648 ≤ N
              · by_cases c5 : N < 2147483648
                · have e5 : decide (N < 2147483648) = true := decide_eq_true c5
                  rw [if_pos ⟨c3, c4, c5⟩] at hnum
                  have HN := Lib.hid hnum
                  clear hnum c3
                  go_wp2_with fail
                  rw [HP.out]
                  exact ⟨rfl, N, by rw [HN.out]; rfl, fun m h => by rw [HN.out] at h; exact Option.some.inj h⟩
                · have e5 : decide (N < 2147483648) = false := decide_eq_false c5
                  rw [if_neg (fun h => c5 h.2.2)] at hnum
                  have HN := Lib.hid hnum
                  clear hnum c3
                  go_wp2_with fail
                  rw [HP.out]
                  exact ⟨rfl, N, by rw [HN.out]; rfl, fun m h => by rw [HN.out] at h; cases h⟩
              · exfalso; omega
            · have e3 : (Lib.itoa (N) == L) = false := by simpa using c3
              rw [if_neg (fun h => c3 h.1)] at hnum
              have HN := Lib.hid hnum
              clear hnum c3
              go_wp2_with fail
              rw [HP.out]
              exact ⟨rfl, N, by rw [HN.out]; rfl, fun m h => by rw [HN.out] at h; cases h⟩
    · have d2 : (11 : Int) < (L.length : Int) := by omega
      have hn : numF L = none := by
        cases h : numF L with
        | none => rfl
        | some m => have := num_facts h; omega
      go_wp2_with fail
      rw [HP.out]
      exact ⟨rfl, 0, by rw [hn]; rfl, fun m h => by rw [hn] at h; cases h⟩
  · have d1 : (L.length : Int) < 1 := by omega
    have hn : numF L = none := by
      cases h : numF L with
      | none => rfl
      | some m => have := num_facts h; omega
    go_wp2_with fail
    rw [HP.out]
    exact ⟨rfl, 0, by rw [hn]; rfl, fun m h => by rw [hn] at h; cases h⟩
end Go.Proofs.YtgfljokamgbcaaaGreatDoor
namespace Go.Proofs.YtgfljokamgbcaaaGreatDoor
open Go.RowKit
set_option linter.unusedSimpArgs false
set_option linter.unusedVariables false
set_option maxRecDepth 100000

/-- A word that is begun, ahead of what is left. -/
def begW (cur : Wd) (l : List Wd) : List Wd := (cur ++ l.headD []) :: l.tail
theorem begW_blank {L : List UInt8} {k : Nat} (h : L[k]? = some 32) (cur : Wd) : begW cur (splitF (L.drop k)) = cur :: begW [] (splitF (L.drop (k + 1))) := by
  obtain ⟨hlt, h2⟩ := List.getElem?_eq_some_iff.1 h
  rw [List.drop_eq_getElem_cons hlt, h2]
  rw [splitF, if_pos rfl]
  have := split_ne (L.drop (k + 1))
  cases hs : splitF (L.drop (k + 1)) with
  | nil => exact absurd hs this
  | cons a l => simp [begW]
theorem begW_char {L : List UInt8} {k : Nat} {c : UInt8} (h : L[k]? = some c) (hc : c ≠ 32) (cur : Wd) : begW cur (splitF (L.drop k)) = begW (cur ++ [c]) (splitF (L.drop (k + 1))) := by
  obtain ⟨hlt, h2⟩ := List.getElem?_eq_some_iff.1 h
  rw [List.drop_eq_getElem_cons hlt, h2]
  rw [splitF, if_neg hc]
  have := split_ne (L.drop (k + 1))
  cases hs : splitF (L.drop (k + 1)) with
  | nil => exact absurd hs this
  | cons a l => simp [begW]
theorem begW_end {L : List UInt8} {k : Nat} (h : L.length ≤ k) (cur : Wd) : begW cur (splitF (L.drop k)) = [cur] := by
  rw [List.drop_eq_nil_iff.2 h]
  simp [splitF, begW]
theorem ba_char (L : List UInt8) (k : Nat) (c : UInt8) (h : L[k]? = some c) : (⟨L.toArray⟩ : ByteArray).extract k (k + 1) = ⟨[c].toArray⟩ := by
  rw [ba_extract]
  obtain ⟨hlt, rfl⟩ := List.getElem?_eq_some_iff.1 h
  rw [List.drop_eq_getElem_cons hlt, show k + 1 - k = 1 by omega]
  rfl
def WordsP (l : List Wd) (w : World) (e : Ending) (w' : World) : Prop := Below w.heap.size w w' ∧ ∃ v, e = .returned v ∧ w'.ownsRow w.heap.size 9 1 v l.length (l.map strE)

set_option maxHeartbeats 8000000 in
theorem wordsR_c (L : List UInt8) (hL : L.length ≤ 200000000) (w : World) : Calls Tryz.prog 96 #[.string ⟨L.toArray⟩] w (WordsP (splitF L) w) := by
  obtain ⟨i0, hi, hz0, hz1, hz2⟩ := info_parts Tryz.infoStrT
  have sz := ba_size L
  have eK := Lib.hid fun (k : Nat) (x : UInt8) (h : L[k]? = some x) => ba_get L k x h
  have eX := Lib.hid fun (k : Nat) (x : UInt8) (h : L[k]? = some x) => ba_char L k x h
  generalize hs : (⟨L.toArray⟩ : ByteArray) = s at sz eK eX ⊢
  clear hs
  obtain ⟨PP, hPP⟩ : ∃ x, x = WordsP (splitF L) w := ⟨_, rfl⟩
  rw [← hPP]
  have HP := Lib.hid hPP
  clear hPP
  go_enter Tryz.func96, Tryz.ntmps96
  go_wp2_with fail
  go_loopg [3, 4, 5] L.length (fun gk v3 v4 v5 wr => ∃ (k : Nat) (done : List Wd) (cur : Wd), gk + k = L.length ∧ v5 = .int .i64 (k : Int) ∧ v4 = .string ⟨cur.toArray⟩ ∧ done.length ≤ k ∧ cur.length ≤ k ∧ Hid (splitF L = done ++ begW cur (splitF (L.drop k))) ∧ Hid (wr.ownsRow w.heap.size 9 1 v3 done.length (done.map strE)) ∧ Hid (Below w.heap.size w wr) ∧ w.heap.size ≤ wr.heap.size)
  case atStart => exact ⟨0, [], [], by omega, rfl, rfl, Nat.le_refl _, Nat.le_refl _, Lib.hid (by
    have := split_ne L
    rw [List.drop_zero, List.nil_append]
    cases hs : splitF L with
    | nil => exact absurd hs this
    | cons a l => rfl), Lib.hid ⟨rfl, .inl ⟨rfl, rfl⟩⟩, Lib.hid (Below.refl _ _), Nat.le_refl _⟩
  case round =>
    obtain ⟨k, done, cur, hk, rfl, rfl, hdl, hcl, HI, HO, HB, hsr⟩ := hrel
    have zc := ba_size cur
    by_cases c1 : k < L.length
    · obtain ⟨c, hc⟩ : ∃ c, L[k]? = some c := ⟨_, List.getElem?_eq_getElem c1⟩
      have i1 : (k : Int) < (L.length : Int) := by omega
      have ec := eK.out k c hc
      have HC := Lib.hid hc
      by_cases c2 : c = 32
      · have e2 : ((c.toNat : Int) == 32) = true := by rw [c2]; rfl
        have HI2 := Lib.hid (show splitF L = (done ++ [cur]) ++ begW [] (splitF (L.drop (k + 1))) by rw [HI.out, begW_blank (by rw [HC.out, c2])]; simp)
        clear hc c2
        go_wp2_with (first | (at_builtin; refine wpList_append_own _ rfl _ _ 49 rfl w.heap.size 9 i0 _ 1 16 Tryz.underlying49 hi hz0 hz1 hz2 rfl (by decide) _ _ _ rfl (HO.out.alloc _) _ 1 1 [strE cur] rfl rfl (cell_one_new _ _ _) (by simp [Value.oneCell', strE]) (by unfold maxLen; omega) (by omega) (by first | (simp; done) | (simp; omega)) ?_; intro v4 w4 own4 gr4 _))
        go_roundg (gk - 1)
        case measure => omega
        case rel =>
          obtain ⟨hB4, hs4⟩ := own_nextA HB.out hsr HO.out gr4
          exact ⟨k + 1, done ++ [cur], [], by omega, by go_num, rfl, by simp; omega, by simp, HI2, Lib.hid (by simpa using own4), Lib.hid hB4, hs4⟩
      · have e2 : ((c.toNat : Int) == 32) = false := by
          simp only [beq_eq_false_iff_ne, ne_eq]
          intro h
          exact c2 (UInt8.toNat_inj.1 (by simp; omega))
        have HI2 := Lib.hid (show splitF L = done ++ begW (cur ++ [c]) (splitF (L.drop (k + 1))) by rw [HI.out, begW_char HC.out c2])
        have ex := eX.out k c hc
        clear hc c2
        go_wp2_with fail
        go_roundg (gk - 1)
        case measure => omega
        case rel => exact ⟨k + 1, done, cur ++ [c], by omega, by go_num, by rw [← ba_app, ← ex], by omega, by simp; omega, HI2, HO, HB, hsr⟩
    · have i1 : ¬ (k : Int) < (L.length : Int) := by omega
      have HI2 := Lib.hid (show splitF L = done ++ [cur] by rw [HI.out, begW_end (by omega)])
      clear HI
      go_wp2_with (first | (at_builtin; refine wpList_append_own _ rfl _ _ 49 rfl w.heap.size 9 i0 _ 1 16 Tryz.underlying49 hi hz0 hz1 hz2 rfl (by decide) _ _ _ rfl (HO.out.alloc _) _ 1 1 [strE cur] rfl rfl (cell_one_new _ _ _) (by simp [Value.oneCell', strE]) (by unfold maxLen; omega) (by omega) (by first | (simp; done) | (simp; omega)) ?_; intro v4 w4 own4 gr4 _))
      rw [HP.out]
      obtain ⟨hB4, hs4⟩ := own_nextA HB.out hsr HO.out gr4
      exact ⟨hB4, _, rfl, by rw [HI2.out]; simpa using own4⟩

/-- A register's number. -/
theorem register_c (l : List UInt8) (hl : l.length ≤ 200000000) (c : UInt8) (w : World) : Calls Tryz.prog 97 #[.string ⟨l.toArray⟩, .string ⟨#[c]⟩] w fun e w' => e = .returned (.int .i64 ((regF l (c.toNat : Int)).getD (-1))) ∧ w' = w := by
  have HD := Lib.hid digit_c
  obtain ⟨R, hR⟩ : ∃ R, (regF l (c.toNat : Int)).getD (-1) = R := ⟨_, rfl⟩
  rw [hR]
  have HR := Lib.hid hR
  have sz := ba_size l
  have HE := Lib.hid fun (k : Nat) (hk : k < 8) => show ((⟨l.toArray⟩ : ByteArray).toList == ((⟨#[c]⟩ : ByteArray) ++ ⟨#[dig8 (k : Int)]⟩).toList) = decide (regF l (c.toNat : Int) = some (k : Int)) by
    rw [show ((⟨#[c]⟩ : ByteArray) ++ ⟨#[dig8 (k : Int)]⟩) = ⟨([c] ++ [dig8 (k : Int)]).toArray⟩ from ba_app [c] [dig8 (k : Int)], empty_toList, empty_toList]
    have hc := u8_ltA c
    have hu : UInt8.ofNat (c.toNat : Int).toNat = c := by simp
    by_cases e : regF l (c.toNat : Int) = some (k : Int)
    · rw [decide_eq_true e, (reg_read e).1, hu]
      simp [dig8]
    · rw [decide_eq_false e]
      simp only [beq_eq_false_iff_ne, ne_eq]
      intro h
      apply e
      rw [h]
      have := reg_show (c := (c.toNat : Int)) (r := (k : Int)) hc (by omega) (by omega)
      rw [hu] at this
      exact this
  have HB := Lib.hid fun (n : Int) (h : regF l (c.toNat : Int) = some n) => (reg_read h).2
  generalize hs : (⟨l.toArray⟩ : ByteArray) = s at sz HE ⊢
  generalize regF l (c.toNat : Int) = rf at HE HB HR hR
  clear hs hR
  have zz : (⟨#[c]⟩ : ByteArray).size = 1 := rfl
  generalize (⟨#[c]⟩ : ByteArray) = sc at HE zz ⊢
  go_enter Tryz.func97, Tryz.ntmps97
  go_wp2_with fail
  go_loopg [5] 8 (fun gk v5 wr => ∃ k : Nat, gk + k = 8 ∧ v5 = .int .i64 (k : Int) ∧ wr = w ∧ Hid (∀ j, j < k → rf ≠ some (j : Int)))
  case atStart => exact ⟨0, by omega, rfl, rfl, Lib.hid (fun j h => absurd h (by omega))⟩
  case round =>
    obtain ⟨k, hk, rfl, hw, HF⟩ := hrel
    have hw := hw.symm
    subst hw
    by_cases c1 : k < 8
    · have i1 : (k : Int) < 8 := by omega
      have i0 : (0 : Int) ≤ (k : Int) := by omega
      have i2 : (k : Int) < 10 := by omega
      have he := HE.out k c1
      have z2 : (⟨#[dig8 (k : Int)]⟩ : ByteArray).size = 1 := rfl
      by_cases c2 : rf = some (k : Int)
      · rw [decide_eq_true c2] at he
        have HRR := Lib.hid (show R = (k : Int) by rw [← HR.out, c2]; rfl)
        clear c2 HR
        go_wp2_with (go_at_call 81; ((with_reducible refine (HD.out _ i0 i2 _).mono ?_); rintro e w' ⟨rfl, rfl⟩))
        go_ret
        exact ⟨by rw [HRR.out]; rfl, rfl⟩
      · rw [decide_eq_false c2] at he
        have HC2 := Lib.hid c2
        clear c2
        go_wp2_with (go_at_call 81; ((with_reducible refine (HD.out _ i0 i2 _).mono ?_); rintro e w' ⟨rfl, rfl⟩))
        go_roundg (gk - 1)
        case measure => omega
        case rel =>
          refine ⟨k + 1, by omega, by go_num, rfl, Lib.hid fun j hj => ?_⟩
          rcases Nat.lt_or_ge j k with h | h
          · exact HF.out j h
          · obtain rfl : j = k := by omega
            exact HC2.out
    · have i1 : ¬ (k : Int) < 8 := by omega
      have HRR := Lib.hid (show R = -1 by
        rw [← HR.out]
        cases hr : rf with
        | none => rfl
        | some n =>
          exfalso
          have hb := HB.out n hr
          exact HF.out n.toNat (by omega) (by rw [hr, Int.toNat_of_nonneg hb.1]))
      clear HR
      go_wp2_with fail
      go_ret
      exact ⟨by rw [HRR.out]; rfl, rfl⟩
end Go.Proofs.YtgfljokamgbcaaaGreatDoor
namespace Go.Proofs.YtgfljokamgbcaaaGreatDoor
open Go.RowKit
set_option linter.unusedSimpArgs false
set_option linter.unusedVariables false
set_option maxRecDepth 100000

/-- An operation's name, or none. -/
def nmW (op : Int) : Wd := ((nmTab.find? fun n => decide (n.op = op)).map Nm.word).getD []
theorem nmW_all : (List.range 256).all (fun (k : Nat) => (decide (nmW (k : Int) = []) || nmTab.any (fun n => decide (n.op = (k : Int)) && decide (n.word = nmW (k : Int)) && decide (n.word ≠ []))) && (decide ((Isa.fm (k : Int) false).n ≤ 0) || (guestB (k : Int) && decide (nmW (k : Int) ≠ [])))) = true := by decide +kernel
theorem nmW_parts (k : Nat) (h : k < 256) : (nmW (k : Int) = [] ∨ ∃ n ∈ nmTab, n.op = (k : Int) ∧ n.word = nmW (k : Int) ∧ n.word ≠ []) ∧ ((Isa.fm (k : Int) false).n ≤ 0 ∨ guestB (k : Int) = true ∧ nmW (k : Int) ≠ []) := by
  have := List.all_eq_true.1 nmW_all k (List.mem_range.2 h)
  simp only [Bool.and_eq_true, Bool.or_eq_true, decide_eq_true_eq, List.any_eq_true] at this
  obtain ⟨h1, h2⟩ := this
  refine ⟨h1.imp id ?_, h2.imp id ?_⟩
  · rintro ⟨n, hn, ⟨h3, h4⟩, h5⟩
    exact ⟨n, hn, h3, h4, h5⟩
  · exact id
theorem nmW_tab : nmTab.all (fun n => decide (nmW n.op = n.word) && decide (0 ≤ n.op) && decide (n.op < 256)) = true := by decide +kernel
theorem nmW_of {n : Nm} (h : n ∈ nmTab) : nmW n.op = n.word ∧ 0 ≤ n.op ∧ n.op < 256 := by
  have := List.all_eq_true.1 nmW_tab n h
  simp only [Bool.and_eq_true, decide_eq_true_eq] at this
  exact ⟨this.1.1, this.1.2, this.2⟩

set_option maxHeartbeats 4000000 in
theorem name_any (op : Int) (h0 : 0 ≤ op) (h1 : op < 256) (w : World) : Calls Tryz.prog 61 #[.int .u8 op] w fun e w' => e = .returned (.string ⟨(nmW op).toArray⟩) ∧ Below w.heap.size w w' := by
  rcases (nmW_parts op.toNat (by omega)).1 with hn | ⟨n, hn, h2, h3, -⟩
  · rw [Int.toNat_of_nonneg h0] at hn
    have hk : ∀ n ∈ nmTab, n.op ≠ op := fun n hm he => by
      obtain ⟨q1, -⟩ := nmW_of hm
      rw [he, hn] at q1
      have := List.all_eq_true.1 (show nmTab.all (fun n => decide (n.word ≠ [])) = true by decide +kernel) n hm
      simp at this
      exact this q1.symm
    have hr : (4 ≤ op ∧ op ≤ 15) ∨ (34 ≤ op ∧ op ≤ 47) ∨ (59 ≤ op ∧ op ≤ 63) ∨ (75 ≤ op ∧ op ≤ 79) ∨ (81 ≤ op ∧ op ≤ 95) ∨ (102 ≤ op ∧ op ≤ 111) ∨ 114 ≤ op := by
      simp only [nmTab, List.mem_cons, List.not_mem_nil, or_false, forall_eq_or_imp, forall_eq] at hk
      omega
    rw [hn]
    have d1 : (op == 32) = false := beq_eq_false_iff_ne.2 (by omega)
    have d2 : (op == 33) = false := beq_eq_false_iff_ne.2 (by omega)
    have d3 : (op == 80) = false := beq_eq_false_iff_ne.2 (by omega)
    have d4 : (op == 112) = false := beq_eq_false_iff_ne.2 (by omega)
    have d5 : (op == 113) = false := beq_eq_false_iff_ne.2 (by omega)
    clear hk hn
    rcases hr with hr | hr | hr | hr | hr | hr | hr
    all_goals
      go_enter Tryz.func61, Tryz.ntmps61
      go_wp2
      go_ret
      exact ⟨by rfl, Below.refl _ _⟩
  · rw [Int.toNat_of_nonneg h0] at h2 h3
    rw [← h3, ← h2]
    exact name_c n hn w

theorem fm_pos (op : Int) : 0 ≤ (Isa.fm op false).n := by
  rcases Isa.fm_is op false with h | h | h | h | h | h | h | h | h | h <;> rw [h] <;> decide
theorem form_size (n k : Int) (x y z : Bool) (w : World) : (Instr.field 91 (.agg #[.int .i64 n, .bool x, .bool y, .int .i64 k, .bool z]) 0).run Tryz.prog w = .ok (.int .i64 n) w := by kernel_rfl
/-- What the document asks of an operation. -/
theorem op_hit {k : Nat} {w : Wd} (hk : k < 256) (h1 : 0 < (Isa.fm (k : Int) false).n) (h2 : nmW (k : Int) = w) : opF w = some (k : Int) := by
  obtain ⟨h3, h4⟩ := nmW_parts k hk
  rcases h4 with h4 | ⟨h4, h5⟩
  · omega
  · rcases h3 with h3 | ⟨n, hn, h6, h7, -⟩
    · exact absurd h3 h5
    · rw [← h2, ← h7, ← h6]
      exact opF_of hn (by rw [h6]; exact h4)
theorem op_miss {w : Wd} (h : ∀ k : Nat, k < 256 → ¬ (0 < (Isa.fm (k : Int) false).n ∧ nmW (k : Int) = w)) : opF w = none := by
  cases ho : opF w with
  | none => rfl
  | some op =>
    exfalso
    obtain ⟨n, hn, rfl, rfl, hg⟩ := opF_is ho
    obtain ⟨q1, q2, q3⟩ := nmW_of hn
    have := h n.op.toNat (by omega)
    rw [Int.toNat_of_nonneg q2] at this
    apply this
    refine ⟨?_, q1⟩
    unfold guestB Isa.mayB at hg
    have hne : (Isa.fm n.op false).n ≠ 0 := by
      intro e
      rw [e] at hg
      simp at hg
    have := fm_pos n.op
    omega

set_option maxHeartbeats 4000000 in
theorem operation_c (s : Wd) (hs : s.length ≤ 1000000) (w : World) : Calls Tryz.prog 32 #[.string ⟨s.toArray⟩] w fun e w' => e = .returned (.int .i64 ((opF s).getD (-1))) ∧ Below w.heap.size w w' := by
  have HN := Lib.hid name_any
  have hfd := form_size
  have HO := Lib.hid fun (k : Nat) (hk : k < 256) (w : World) => Isa.refOf_c (k : Int) false w (by omega) (by omega)
  obtain ⟨R, hR⟩ : ∃ R, (opF s).getD (-1) = R := ⟨_, rfl⟩
  rw [hR]
  have HR := Lib.hid hR
  have HH := Lib.hid fun (k : Nat) (hk : k < 256) (h1 : 0 < (Isa.fm (k : Int) false).n) (h2 : nmW (k : Int) = s) => op_hit hk h1 h2
  have HM := Lib.hid (@op_miss s)
  clear hR
  go_enter Tryz.func32, Tryz.ntmps32
  go_wp2_with fail
  go_loopg [3] 256 (fun gk v3 wr => ∃ k : Nat, gk + k = 256 ∧ v3 = .int .i64 (k : Int) ∧ Below w.heap.size w wr ∧ w.heap.size ≤ wr.heap.size ∧ Hid (∀ j : Nat, j < k → ¬ (0 < (Isa.fm (j : Int) false).n ∧ nmW (j : Int) = s)))
  case atStart => exact ⟨0, by omega, rfl, Below.refl _ _, Nat.le_refl _, Lib.hid (fun j h => absurd h (by omega))⟩
  case round =>
    obtain ⟨k, hk, rfl, hB, hsr, HF⟩ := hrel
    by_cases c1 : k < 256
    · have i1 : (k : Int) < 256 := by omega
      have i0 : (0 : Int) ≤ (k : Int) := by omega
      have hof := HO.out k c1
      have HHk := Lib.hid (HH.out k c1)
      obtain ⟨f, hf⟩ : ∃ f, Isa.fm (k : Int) false = f := ⟨_, rfl⟩
      rw [hf] at hof HHk
      have HFm := Lib.hid hf
      clear hf
      unfold Isa.Fm.rval at hof
      have HOk := Lib.hid hof
      have hnm := HN.out (k : Int) i0 i1
      obtain ⟨x, hx⟩ : ∃ x, nmW (k : Int) = x := ⟨_, rfl⟩
      rw [hx] at hnm HHk
      have HX := Lib.hid hx
      clear hx
      have HNk := Lib.hid hnm
      clear hof hnm
      by_cases c2 : 0 < f.n
      · have d2 : (0 : Int) < f.n := c2
        have e2 : decide (0 < f.n) = true := decide_eq_true c2
        by_cases c3 : x = s
        · have e3 : (x == s) = true := by simp [c3]
          have HRR := Lib.hid (show R = (k : Int) by rw [← HR.out, HHk.out c2 c3]; rfl)
          clear HR HHk c2 c3 d2
          go_wp2_with fail
          refine (HOk.out _).mono ?_
          rintro e w1 ⟨rfl, hb1⟩
          go_wp2_with fail
          refine (HNk.out _).mono ?_
          rintro e w2 ⟨rfl, hb2⟩
          go_wp2_with fail
          go_ret
          exact ⟨by rw [HRR.out]; rfl, (hB.trans (hb1.mono hsr)).trans (hb2.mono (by have := hb1.size; omega))⟩
        · have e3 : (x == s) = false := by simpa using c3
          have HC3 := Lib.hid c3
          clear HHk c2 c3 d2
          go_wp2_with fail
          refine (HOk.out _).mono ?_
          rintro e w1 ⟨rfl, hb1⟩
          go_wp2_with fail
          refine (HNk.out _).mono ?_
          rintro e w2 ⟨rfl, hb2⟩
          go_wp2_with fail
          go_roundg (gk - 1)
          case measure => omega
          case rel =>
            refine ⟨k + 1, by omega, by go_num, (hB.trans (hb1.mono hsr)).trans (hb2.mono (by have := hb1.size; omega)), by have := hb1.size; have := hb2.size; omega, Lib.hid fun j hj => ?_⟩
            rcases Nat.lt_or_ge j k with h | h
            · exact HF.out j h
            · obtain rfl : j = k := by omega
              rw [HX.out]
              exact fun q => HC3.out q.2
      · have e2 : decide (0 < f.n) = false := decide_eq_false c2
        have HC2 := Lib.hid c2
        clear HHk c2
        go_wp2_with fail
        refine (HOk.out _).mono ?_
        rintro e w1 ⟨rfl, hb1⟩
        go_wp2_with fail
        go_roundg (gk - 1)
        case measure => omega
        case rel =>
          refine ⟨k + 1, by omega, by go_num, hB.trans (hb1.mono hsr), by have := hb1.size; omega, Lib.hid fun j hj => ?_⟩
          rcases Nat.lt_or_ge j k with h | h
          · exact HF.out j h
          · obtain rfl : j = k := by omega
            rw [HFm.out]
            exact fun q => by have := HC2.out; omega
    · have i1 : ¬ (k : Int) < 256 := by omega
      have HRR := Lib.hid (show R = -1 by
        rw [← HR.out, HM.out (fun j hj => HF.out j (by omega))]; rfl)
      clear HR
      go_wp2_with fail
      go_ret
      exact ⟨by rw [HRR.out]; rfl, hB⟩
end Go.Proofs.YtgfljokamgbcaaaGreatDoor
