/- strings.CutSuffix at a colon; the walk of asm's label. (Written by mkAJ.py.) -/
import Derived.Test.YtgfljokamgbcaaaGreatDoorAsI
namespace Go.Proofs.YtgfljokamgbcaaaGreatDoor
open Go.RowKit
set_option linter.unusedSimpArgs false
set_option linter.unusedVariables false
set_option maxRecDepth 100000

theorem last_split (s : List UInt8) : s = [] ∨ ∃ l c, s = l ++ [c] := by
  rcases List.eq_nil_or_concat s with h | ⟨l, c, h⟩
  · exact .inl h
  · exact .inr ⟨l, c, by simpa using h⟩
theorem suffix_c (s : Wd) (hs : s.length ≤ 100000) (w : World) : Calls Tryz.prog 89 #[.string ⟨s.toArray⟩, .string ⟨#[58]⟩] w fun e w' => e = .returned (.bool (decide (s.getLast? = some 58))) ∧ w' = w := by
  have s1 : (⟨#[58]⟩ : ByteArray).size = 1 := rfl
  rcases last_split s with rfl | ⟨l, c, rfl⟩
  · have sz : (⟨([] : List UInt8).toArray⟩ : ByteArray).size = 0 := rfl
    generalize (⟨([] : List UInt8).toArray⟩ : ByteArray) = sb at sz ⊢
    go_enter Tryz.func89, Tryz.ntmps89
    go_wp2_with fail
    go_ret
    exact ⟨rfl, rfl⟩
  · have sz := ba_size (l ++ [c])
    rw [List.length_append] at sz
    simp only [List.length_cons, List.length_nil, Nat.zero_add] at sz
    have ex := ba_extract (l ++ [c]) l.length (l.length + 1)
    rw [List.drop_left, Nat.add_sub_cancel_left] at ex
    have hl : (l ++ [c]).getLast? = some c := by simp
    have hX : ((⟨([c].take 1).toArray⟩ : ByteArray).toList == [58]) = decide (c = 58) := by
      rw [empty_toList]
      by_cases h : c = 58 <;> simp [h]
    have hd : (decide ((l ++ [c]).getLast? = some 58)) = decide (c = 58) := by rw [hl]; simp
    rw [hd]
    rw [List.length_append] at hs
    generalize (⟨([c].take 1).toArray⟩ : ByteArray) = X at ex hX
    generalize (⟨(l ++ [c]).toArray⟩ : ByteArray) = sb at sz ex ⊢
    generalize decide (c = 58) = b at hX ⊢
    have d1 : (1 : Int) ≤ (l.length : Int) + 1 := by omega
    have d2 : (l.length : Int) ≤ (l.length : Int) + 1 := by omega
    have d3 : IntKind.i64.wrap ((l.length : Int) + 1 - 1) = (l.length : Int) := by rw [Int.add_sub_cancel]; exact IntWalk.i64_in _ ⟨by omega, by omega⟩
    have d4 : (0 : Int) ≤ (l.length : Int) ∧ (l.length : Int) ≤ (sb.size : Int) := by omega
    have d5 : (0 : Int) ≤ (l.length : Int) := by omega
    have hs' : l.length ≤ 100000 := by omega
    clear hs hl hd
    go_enter Tryz.func89, Tryz.ntmps89
    go_wp2_with fail
    go_ret
    exact ⟨rfl, rfl⟩
theorem cutS_c (s : Wd) (hs : s.length ≤ 100000) (w : World) : Calls Tryz.prog 45 #[.string ⟨s.toArray⟩, .string ⟨#[58]⟩] w fun e w' => e = .returned (.tuple #[.string ⟨(if s.getLast? = some 58 then s.dropLast else s).toArray⟩, .bool (decide (s.getLast? = some 58))]) ∧ w' = w := by
  have HS := Lib.hid (suffix_c s hs)
  have hin : ∀ w, Calls Tryz.prog 70 #[.string ⟨s.toArray⟩, .string ⟨#[58]⟩] w fun e w' => e = .returned (.tuple #[.string ⟨(if s.getLast? = some 58 then s.dropLast else s).toArray⟩, .bool (decide (s.getLast? = some 58))]) ∧ w' = w := by
    intro w
    have s1 : (⟨#[58]⟩ : ByteArray).size = 1 := rfl
    by_cases c : s.getLast? = some 58
    · rw [if_pos c]
      rw [show decide (s.getLast? = some 58) = true by simpa using c] at HS ⊢
      obtain ⟨l, rfl⟩ : ∃ l, s = l ++ [58] := by
        rcases last_split s with rfl | ⟨l, c', rfl⟩
        · simp at c
        · simp at c; exact ⟨l, by rw [c]⟩
      have sz := ba_size (l ++ [58])
      rw [List.length_append] at sz hs
      simp only [List.length_cons, List.length_nil, Nat.zero_add] at sz hs
      have ex := ba_extract (l ++ [58]) 0 l.length
      rw [List.drop_zero, Nat.sub_zero, List.take_left] at ex
      rw [List.dropLast_concat]
      generalize (⟨l.toArray⟩ : ByteArray) = X at ex ⊢
      generalize (⟨(l ++ [58]).toArray⟩ : ByteArray) = sb at sz ex HS ⊢
      have d3 : IntKind.i64.wrap ((l.length : Int) + 1 - 1) = (l.length : Int) := by rw [Int.add_sub_cancel]; exact IntWalk.i64_in _ ⟨by omega, by omega⟩
      have d4 : (0 : Int) ≤ (l.length : Int) ∧ (l.length : Int) ≤ (sb.size : Int) := by omega
      have d5 : (l.length : Int) ≤ (l.length : Int) + 1 := by omega
      have d6 : (0 : Int) ≤ (l.length : Int) := by omega
      clear c
      go_enter Tryz.func70, Tryz.ntmps70
      go_wp2_with fail
      refine (HS.out _).mono ?_
      rintro e w1 ⟨rfl, rfl⟩
      go_wp2_with fail
      go_ret2
      exact ⟨rfl, rfl⟩
    · rw [if_neg c]
      rw [show decide (s.getLast? = some 58) = false by simpa using c] at HS ⊢
      generalize (⟨s.toArray⟩ : ByteArray) = sb at HS ⊢
      clear c
      go_enter Tryz.func70, Tryz.ntmps70
      go_wp2_with fail
      refine (HS.out _).mono ?_
      rintro e w1 ⟨rfl, rfl⟩
      go_wp2_with fail
      go_ret2
      exact ⟨rfl, rfl⟩
  have HI := Lib.hid hin
  clear hin HS
  generalize (⟨(if s.getLast? = some 58 then s.dropLast else s).toArray⟩ : ByteArray) = X at HI ⊢
  generalize decide (s.getLast? = some 58) = b at HI ⊢
  generalize (⟨s.toArray⟩ : ByteArray) = sb at HI ⊢
  go_enter Tryz.func45, Tryz.ntmps45
  go_wp2_with fail
  refine (HI.out _).mono ?_
  rintro e w1 ⟨rfl, rfl⟩
  go_wp2_with fail
  go_ret2
  exact ⟨rfl, rfl⟩
end Go.Proofs.YtgfljokamgbcaaaGreatDoor
