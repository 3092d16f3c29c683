/- The walks of asm's first (strings.Cut) and tooLong. -/
import Derived.Test.YtgfljokamgbcaaaGreatDoorAsS
import Derived.Test.YtgfljokamgbcaaaGreatDoorAsF
import Derived.Lib.IndexLaws
namespace Go.Proofs.YtgfljokamgbcaaaGreatDoor
open Go.RowKit
set_option linter.unusedSimpArgs false
set_option linter.unusedVariables false
set_option maxRecDepth 100000

theorem tw_none {c : UInt8} : ∀ {l : List UInt8}, (∀ k : Nat, l[k]? ≠ some c) → l.takeWhile (· != c) = l := by
  intro l h
  apply takeWhile_all
  intro x hx
  obtain ⟨k, hk⟩ := List.getElem?_of_mem hx
  simp only [bne_iff_ne, ne_eq]
  rintro rfl
  exact h k hk
theorem tw_at {c : UInt8} : ∀ {l : List UInt8} {n : Nat}, (∀ j, j < n → l[j]? ≠ some c) → l[n]? = some c → l.takeWhile (· != c) = l.take n
  | [], n, _, h => by simp at h
  | x :: r, 0, _, h => by
    have : x = c := by simpa using h
    subst this
    simp
  | x :: r, n + 1, h0, h => by
    have hx : x ≠ c := by have := h0 0 (by omega); simpa using this
    have ih := tw_at (l := r) (n := n) (fun j hj => by have := h0 (j + 1) (by omega); simpa using this) (by simpa using h)
    rw [List.takeWhile_cons, if_pos (by simpa using hx), ih]
    rfl
theorem idx_cases (l : List UInt8) (c : UInt8) : (Lib.indexByte l c = -1 ∧ ∀ k : Nat, l[k]? ≠ some c) ∨ ∃ n : Nat, Lib.indexByte l c = (n : Int) ∧ n < l.length ∧ l[n]? = some c ∧ ∀ j, j < n → l[j]? ≠ some c := by
  have h := Lib.indexByte_ge l c
  by_cases h1 : Lib.indexByte l c = -1
  · exact .inl ⟨h1, Lib.indexByte_none h1⟩
  · obtain ⟨n, hn⟩ : ∃ n : Nat, Lib.indexByte l c = (n : Int) := ⟨(Lib.indexByte l c).toNat, by omega⟩
    obtain ⟨h2, h3⟩ := Lib.indexByte_some hn
    exact .inr ⟨n, hn, (List.getElem?_eq_some_iff.1 h2).1, h2, h3⟩
theorem data_list (L : List UInt8) : (⟨L.toArray⟩ : ByteArray).data.toList = L := rfl

set_option maxHeartbeats 4000000 in
theorem cutL_c (L : List UInt8) (hL : L.length ≤ 100000) (w : World) : Calls Tryz.prog 65 #[.string ⟨L.toArray⟩, .string ⟨#[32]⟩] w fun e w' => (∃ x b, e = .returned (.tuple #[.string ⟨(firstW L).toArray⟩, .string x, .bool b])) ∧ Below w.heap.size w w' := by
  have HI := Lib.hid fun w => Tryz.stringslite_Index_one ⟨L.toArray⟩ 32 w
  rw [data_list] at HI
  have sz := ba_size L
  have s1 : (⟨#[32]⟩ : ByteArray).size = 1 := rfl
  rcases idx_cases L 32 with ⟨h1, h2⟩ | ⟨n, h1, h2, h3, h4⟩
  · rw [h1] at HI
    rw [show firstW L = L from tw_none h2]
    clear h2
    generalize (⟨L.toArray⟩ : ByteArray) = sb at HI sz ⊢
    go_enter Tryz.func65, Tryz.ntmps65
    go_wp2_with fail
    refine (HI.out _).mono ?_
    rintro e w1 ⟨rfl, rfl⟩
    go_wp2_with fail
    refine bodyPost_ret (v := .tuple #[.string sb, .string ⟨#[]⟩, .bool false]) ?_ rfl ⟨⟨_, _, rfl⟩, Below.refl _ _⟩
    simp [results, Tryz.results65, go_sem]
  · rw [h1] at HI
    rw [show firstW L = L.take n from tw_at h4 h3]
    clear h3 h4
    have ex := ba_extract L 0 n
    rw [List.drop_zero, Nat.sub_zero] at ex
    generalize (⟨(L.take n).toArray⟩ : ByteArray) = X at ex ⊢
    have ey := ba_extract L (n + 1) L.length
    generalize (⟨((L.drop (n + 1)).take (L.length - (n + 1))).toArray⟩ : ByteArray) = Y at ey
    generalize (⟨L.toArray⟩ : ByteArray) = sb at HI sz ex ey ⊢
    have d1 : (0 : Int) ≤ (n : Int) := by omega
    have d2 : IntKind.i64.wrap ((n : Int) + 1) = (n : Int) + 1 := IntWalk.i64_in _ ⟨by omega, by omega⟩
    have d3 : (n : Int) ≤ (L.length : Int) := by omega
    have d4 : (n : Int) + 1 ≤ (L.length : Int) := by omega
    have d5 : (0 : Int) ≤ (n : Int) ∧ (n : Int) ≤ (sb.size : Int) := by omega
    have d6 : (0 : Int) ≤ (n : Int) + 1 ∧ (n : Int) + 1 ≤ (sb.size : Int) := by omega
    have d7 : (0 : Int) ≤ (n : Int) + 1 := by omega
    have d8 : ((n : Int) + 1).toNat = n + 1 := by omega
    have d9 : n ≤ L.length := by omega
    have d10 : n + 1 ≤ L.length := by omega
    go_enter Tryz.func65, Tryz.ntmps65
    go_wp2_with fail
    refine (HI.out _).mono ?_
    rintro e w1 ⟨rfl, rfl⟩
    go_wp2_with fail
    go_quiet (fail)
    go_wp2_with fail
    refine bodyPost_ret (v := .tuple #[.string X, .string Y, .bool true]) ?_ rfl ⟨⟨_, _, rfl⟩, belowN _ _⟩
    simp [results, Tryz.results65, go_sem]
set_option maxHeartbeats 4000000 in
theorem first_c (L : List UInt8) (hL : L.length ≤ 100000) (w : World) : Calls Tryz.prog 19 #[.string ⟨L.toArray⟩] w fun e w' => e = .returned (.string ⟨(firstW L).toArray⟩) ∧ Below w.heap.size w w' := by
  have HC := Lib.hid (cutL_c L hL)
  have HC2 := Lib.hid (show ∀ w, Calls Tryz.prog 40 #[.string ⟨L.toArray⟩, .string ⟨#[32]⟩] w fun e w' => (∃ x b, e = .returned (.tuple #[.string ⟨(firstW L).toArray⟩, .string x, .bool b])) ∧ Below w.heap.size w w' from by
    intro w
    generalize (⟨(firstW L).toArray⟩ : ByteArray) = X at HC ⊢
    generalize (⟨L.toArray⟩ : ByteArray) = sb at HC ⊢
    go_enter Tryz.func40, Tryz.ntmps40
    go_wp2_with fail
    refine (HC.out _).mono ?_
    rintro e w1 ⟨⟨x, b, rfl⟩, hb⟩
    go_wp2_with fail
    refine bodyPost_ret (v := .tuple #[.string X, .string x, .bool b]) ?_ rfl ⟨⟨_, _, rfl⟩, hb⟩
    simp [results, Tryz.results40, go_sem])
  generalize (⟨(firstW L).toArray⟩ : ByteArray) = X at HC2 ⊢
  generalize (⟨L.toArray⟩ : ByteArray) = sb at HC2 ⊢
  go_enter Tryz.func19, Tryz.ntmps19
  go_wp2_with fail
  refine (HC2.out _).mono ?_
  rintro e w1 ⟨⟨x, b, rfl⟩, hb⟩
  go_wp2_with fail
  go_ret
  exact ⟨rfl, hb⟩

set_option maxHeartbeats 4000000 in
theorem long_c (L : List UInt8) (hL : L.length ≤ 9223372036854775807) (w : World) : Calls Tryz.prog 8 #[.string ⟨L.toArray⟩] w fun e w' => e = .returned (.bool (longB L)) ∧ w' = w := by
  have HC := Lib.hid fun w => Tryz.strings_Count_one ⟨L.toArray⟩ 10 w
  rw [data_list] at HC
  unfold Lib.countByte at HC
  have sz := ba_size L
  obtain ⟨R, hR⟩ : ∃ R, longB L = R := ⟨_, rfl⟩
  rw [hR]
  have hcl : L.count 10 ≤ L.length := List.count_le_length
  have eK := Lib.hid fun (k : Nat) (x : UInt8) (h : L[k]? = some x) => ba_get L k x h
  have hstr := str_eqA L []
  unfold longB at hR
  by_cases c1 : 8192 < L.length
  · obtain rfl : true = R := by rw [← hR]; simp [c1]
    have d1 : (8192 : Int) < (L.length : Int) := by omega
    clear hR hstr
    generalize (⟨L.toArray⟩ : ByteArray) = sb at HC sz eK ⊢
    go_enter Tryz.func8, Tryz.ntmps8
    go_wp2_with fail
    go_ret
    exact ⟨rfl, rfl⟩
  · have d1 : ¬ (8192 : Int) < (L.length : Int) := by omega
    have hR1 := Lib.hid (show decide (512 < L.count 10 + (if L ≠ [] ∧ L.getLast? ≠ some 10 then 1 else 0)) = R by rw [← hR]; simp [c1])
    clear hR
    by_cases c2 : L = []
    · have hR2 : decide (512 < L.count 10) = R := by rw [← hR1.out]; rw [if_neg (by simp [c2])]; rfl
      have e1 : ((⟨L.toArray⟩ : ByteArray).toList == []) = true := by rw [hstr]; simp [c2]
      have e2 : (!((⟨L.toArray⟩ : ByteArray).toList == [])) = false := by rw [e1]; rfl
      have e3 : ((⟨L.toArray⟩ : ByteArray).toList) = [] := by rw [ba_toListA, c2]
      obtain rfl : false = R := by rw [← hR2, c2]; rfl
      have hz : L.count 10 = 0 := by rw [c2]; rfl
      have hz2 : L.length = 0 := by rw [c2]; rfl
      rw [hz] at HC
      clear hstr hR2
      generalize (⟨L.toArray⟩ : ByteArray) = sb at HC sz eK e1 e2 e3 ⊢
      go_enter Tryz.func8, Tryz.ntmps8
      go_wp2_with fail
      refine (HC.out _).mono ?_
      rintro e w1 ⟨rfl, rfl⟩
      go_wp2_with fail
      go_ret
      exact ⟨rfl, rfl⟩
    · have e1 : ((⟨L.toArray⟩ : ByteArray).toList == []) = false := by rw [hstr]; simp [c2]
      have e3 : ((⟨L.toArray⟩ : ByteArray).toList) ≠ [] := by rw [ba_toListA]; exact c2
      obtain ⟨l, x, hx⟩ : ∃ l x, L = l ++ [x] := by
        rcases last_split L with h | ⟨l, c, h⟩
        · exact absurd h c2
        · exact ⟨l, c, h⟩
      have hg : L[l.length]? = some x := by rw [hx]; simp
      have hlen : L.length = l.length + 1 := by rw [hx]; simp
      have hge := ba_get L l.length x hg
      have hla : L.getLast? = some x := by rw [hx]; simp
      have hxx := u8_ltA x
      have h10 : (x = 10) = ((x.toNat : Int) = ((10 : Nat) : Int)) := u8_neA (c := x) (k := 10) (by decide)
      rw [hla] at hR1
      generalize L.count 10 = q at HC hR1 hcl
      have hql : q ≤ 8192 := by omega
      have i1 : IntKind.i64.wrap ((L.length : Int) - 1) = (l.length : Int) := by rw [show (L.length : Int) - 1 = (l.length : Int) by omega]; exact IntWalk.i64_in _ ⟨by omega, by omega⟩
      have i2 : (l.length : Int) < (L.length : Int) := by omega
      have i3 : IntKind.i64.wrap ((q : Int) + 1) = (q : Int) + 1 := IntWalk.i64_in _ ⟨by omega, by omega⟩
      by_cases c3 : (x.toNat : Int) = 10
      · have hx10 : x = 10 := by rw [h10]; exact c3
        have hR2 := Lib.hid (show decide ((512 : Int) < (q : Int)) = R by rw [← hR1.out, if_neg (by simp [hx10])]; exact decide_eq_decide.2 (by omega))
        have d3 : ((x.toNat : Int) != 10) = false := by simp [c3]
        clear hstr hR1 hx hg hla h10 hx10 c2
        obtain ⟨xi, hxi⟩ : ∃ y, (x.toNat : Int) = y := ⟨_, rfl⟩
        rw [hxi] at c3 d3 hxx
        generalize (⟨L.toArray⟩ : ByteArray) = sb at HC sz eK e1 e3 hge ⊢
        subst c3
        go_enter Tryz.func8, Tryz.ntmps8
        go_wp2_with fail
        refine (HC.out _).mono ?_
        rintro e w1 ⟨rfl, rfl⟩
        go_wp2_with fail
        go_ret
        exact ⟨Isa.ret_bool (by rw [← hR2.out]), rfl⟩
      · have hx10 : ¬ x = 10 := by rw [h10]; exact c3
        have hR2 := Lib.hid (show decide ((512 : Int) < (q : Int) + 1) = R by rw [← hR1.out, if_pos ⟨c2, by simpa using hx10⟩]; exact decide_eq_decide.2 (by omega))
        have d3 : ((x.toNat : Int) != 10) = true := by simp [c3]
        clear hstr hR1 hx hg hla h10 hx10 c2
        obtain ⟨xi, hxi⟩ : ∃ y, (x.toNat : Int) = y := ⟨_, rfl⟩
        rw [hxi] at c3 d3 hxx
        generalize (⟨L.toArray⟩ : ByteArray) = sb at HC sz eK e1 e3 hge ⊢
        go_enter Tryz.func8, Tryz.ntmps8
        go_wp2_with fail
        refine (HC.out _).mono ?_
        rintro e w1 ⟨rfl, rfl⟩
        go_wp2_with fail
        go_ret
        exact ⟨Isa.ret_bool (by rw [← hR2.out]), rfl⟩
end Go.Proofs.YtgfljokamgbcaaaGreatDoor
