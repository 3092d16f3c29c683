/- judge.States; the document's Value and Name. -/
import Derived.Test.YtjnakhejdpkfnaaDoorJudS
import Derived.Test.YtjnakhejdpkfnaaDoorTxtC
namespace Go.Proofs.YtjnakhejdpkfnaaDoor
open Go.RowKit
set_option linter.unusedSimpArgs false
set_option linter.unusedVariables false
set_option maxRecDepth 100000

theorem Tryd.infoStr : (Tryd.prog.info? 9).map (fun i => (i.zero, i.size, i.bytes)) = some (some (.string ⟨#[]⟩), 1, 16) := by kernel_rfl
theorem own_slice {w : World} {base n size : Nat} {e : TypeId} {v : Value} {xs : List Value} (h : w.ownsRow base e size v n xs) : ∃ ao cap, v = .slice ao n cap ∧ (n = 0 ∨ ∃ g, ao = some ⟨g, 0, none⟩ ∧ g < w.heap.size ∧ ∀ j, j < n * size → w.cell? ⟨g, j, none⟩ = xs[j]?) := by
  have h0 := h
  rcases h.2 with ⟨h1, h2⟩ | ⟨g, cap, cur, h1, h2, h3, _⟩
  · subst h2
    exact ⟨none, 0, h1, .inl rfl⟩
  · subst h1
    exact ⟨_, cap, rfl, .inr ⟨g, rfl, lt_of_rowJ h3, fun j hj => h0.cellAt j hj⟩⟩
theorem ents_at (x : Nat → Int) (h : Bool) : ∀ (D : List Nat) {k d : Nat}, D[k]? = some d → (D.flatMap (entJ x h))[k * 2]? = some (.string ⟨(nameJ d).toArray⟩) ∧ (D.flatMap (entJ x h))[k * 2 + 1]? = some (.int .u32 (valJ x h d))
  | [], k, d, hk => by simp at hk
  | a :: D, 0, d, hk => by
    simp at hk; subst hk
    simp only [List.flatMap_cons, Nat.zero_mul]
    exact ⟨rfl, rfl⟩
  | a :: D, k + 1, d, hk => by
    simp only [List.getElem?_cons_succ] at hk
    obtain ⟨h1, h2⟩ := ents_at x h D hk
    simp only [List.flatMap_cons]
    rw [List.getElem?_append_right (by simp [entJ]; omega), List.getElem?_append_right (by simp [entJ]; omega), show (k + 1) * 2 - (entJ x h a).length = k * 2 from by simp [entJ]; omega, show (k + 1) * 2 + 1 - (entJ x h a).length = k * 2 + 1 from by simp [entJ]; omega]
    exact ⟨h1, h2⟩

def nmV (k : Nat) : Value := .string ⟨(nameJ k).toArray⟩

set_option maxHeartbeats 8000000 in
theorem states_c (x : Nat → Int) (h : Bool) (y : Nat → Int) (g : Bool) (hx : ∀ k, 0 ≤ x k ∧ x k < 4294967296) (hy : ∀ k, 0 ≤ y k ∧ y k < 4294967296) (w : World) (HT : Hid (pTab w)) :
    Calls Tryd.prog 16 #[.agg (stJ x h), .agg (stJ y g)] w fun e w' => ∃ v, e = .returned v ∧ w'.ownsRow w.heap.size 9 1 v (diffJ x h y g 19).length ((diffJ x h y g 19).map nmV) ∧ Below w.heap.size w w' := by
  obtain ⟨i0, hi, hz0, hz1, hz2⟩ := info_parts Tryd.infoStr
  have HA := Lib.hid fun (W : World) (hb : Below w.heap.size w W) => apart_c x h y g hx hy W (pTab_on HT hb)
  obtain ⟨A, hA⟩ : ∃ A, A = stJ x h := ⟨_, rfl⟩
  obtain ⟨B, hB⟩ : ∃ B, B = stJ y g := ⟨_, rfl⟩
  have hzA : A.size = 19 := by rw [hA]; rfl
  have hzB : B.size = 19 := by rw [hB]; rfl
  rw [← hA, ← hB] at HA ⊢
  have Z1 := Lib.hid hzA
  have Z2 := Lib.hid hzB
  have hl := diffJ_len x h y g 19
  generalize diffJ x h y g 19 = D at HA hl ⊢
  clear hA hB hx hy
  go_enter Tryd.func16, Tryd.ntmps16
  go_wp2_with (first
    | ((with_reducible show wpList _ _ _ (Oper.mk _ (.load 26 _) _ _ _ _ :: _) _ _); refine wpList_load_row rfl 26 _ rfl _ rfl 26 _ (0, 0) _ (by first | (refine heap_new' ?_; simp; done) | (refine heap_old' (heap_new' ?_); simp; done)) Tryd.underlying26 rfl (by first | (rw [Z1.out]; kernel_rfl) | (rw [Z2.out]; kernel_rfl)) ?_))
  refine (HA.out _ ((below_alloc1 _ _).alloc (by simp) _)).mono ?_
  rintro e w1 ⟨v, u, rfl, ov, -, hb1⟩
  obtain ⟨ao, cap, rfl, hcell⟩ := own_slice ov
  have B1 : Below w.heap.size w w1 := below_nextJ ((below_alloc1 _ _).alloc (by simp) _) hb1
  have HC := Lib.hid hcell
  clear ov hcell hb1
  go_wp2_with fail
  go_loopg [5, 18] D.length (fun gk v5 vk wr => ∃ k : Nat, gk + k = D.length ∧ vk = .int .i64 (k : Int) ∧ wr.ownsRow w1.heap.size 9 1 v5 k ((D.take k).map nmV) ∧ Below w1.heap.size w1 wr)
  case atStart => exact ⟨0, by omega, rfl, ⟨rfl, .inl ⟨rfl, rfl⟩⟩, Below.refl _ _⟩
  case round =>
    obtain ⟨k, hk, rfl, own5, hB⟩ := hrel
    by_cases c1 : k < D.length
    · have i1 : (k : Int) < (D.length : Int) := by omega
      have hd : D[k]? = some D[k] := List.getElem?_eq_getElem c1
      have htk : (D.take (k + 1)).map nmV = (D.take k).map nmV ++ [.string ⟨(nameJ D[k]).toArray⟩] := by rw [List.take_succ_eq_append_getElem c1, List.map_append]; rfl
      generalize D[k] = d at hd htk
      obtain ⟨e0, e1⟩ := ents_at x h D hd
      obtain ⟨gx, rfl, hgx, hcl⟩ : ∃ gx, ao = some ⟨gx, 0, none⟩ ∧ gx < w1.heap.size ∧ ∀ j, j < D.length * 2 → w1.cell? ⟨gx, j, none⟩ = (D.flatMap (entJ x h))[j]? := by
        rcases HC.out with h | h
        · omega
        · exact h
      have p0 := (hB.cell (p := ⟨gx, k * 2, none⟩) hgx).trans ((hcl (k * 2) (by omega)).trans e0)
      have p1 := (hB.cell (p := ⟨gx, k * 2 + 1, none⟩) hgx).trans ((hcl (k * 2 + 1) (by omega)).trans e1)
      have hgr : gx < wr.heap.size := Nat.lt_of_lt_of_le hgx hB.size
      have HTK := Lib.hid htk
      generalize (⟨(nameJ d).toArray⟩ : ByteArray) = nm at p0 HTK
      generalize valJ x h d = a at p1
      have hsz := hB.size
      have ownA := own5.alloc (.cells #[.string nm, .int .u32 a] 56)
      have hBA := hB.alloc hsz (.cells #[.string nm, .int .u32 a] 56)
      have hsA : w1.heap.size ≤ (wr.alloc (.cells #[.string nm, .int .u32 a] 56)).heap.size := by simp; omega
      clear hd htk e0 e1 hcl
      go_wp2_with (first | (at_builtin; refine wpList_append_own _ rfl _ _ 38 rfl w1.heap.size 9 i0 _ 1 16 Tryd.underlying38 hi hz0 hz1 hz2 rfl (by decide) _ _ _ rfl (ownA.alloc _) _ 1 1 [.string nm] rfl rfl (cells_newJ _ _ _ _ (by simp)) (by simp [Value.oneCell']) (by unfold maxLen; omega) (by omega) (by first | (simp; done) | (simp; omega)) ?_; intro v4 w4 own4 gr4 _; obtain ⟨hB4, hs4⟩ := own_nextJ hBA hsA ownA gr4; clear gr4))
      go_roundg (gk - 1)
      case measure => omega
      case rel => exact ⟨k + 1, by omega, by go_num, by rw [HTK.out]; exact own4, hB4⟩
    · have i1 : ¬ (k : Int) < (D.length : Int) := by omega
      obtain rfl : k = D.length := by omega
      rw [List.take_length] at own5
      go_wp2_with fail
      go_ret
      exact ⟨_, rfl, own_low B1.size own5, B1.trans (hB.mono B1.size)⟩

set_option maxHeartbeats 8000000 in
theorem refValue_c (x : Nat → Int) (h : Bool) (k : Nat) (hk : k < 19) (w : World) :
    Calls Tryd.prog 28 #[.agg (stJ x h), .int .i64 (k : Int)] w fun e w' => e = .returned (.int .u32 (valJ x h k)) ∧ Below w.heap.size w w' := by
  obtain ⟨S, hS⟩ : ∃ S, S = stJ x h := ⟨_, rfl⟩
  have hz : S.size = 19 := by rw [hS]; rfl
  rw [← hS]
  have cl : ∀ j v, S[j]? = some v → (w.alloc (.cells S 26)).cell? ⟨w.heap.size, j, none⟩ = some v := fun j v hv => (cell_of_row _ _ j S 26 (0, 0) (heap_new' rfl)).trans hv
  have q : ∀ j, j < 18 → (w.alloc (.cells S 26)).cell? ⟨w.heap.size, j, none⟩ = some (.int .u32 (x j)) := fun j hj => cl j _ (by
    rw [hS]
    rcases (by omega : j = 0 ∨ j = 1 ∨ j = 2 ∨ j = 3 ∨ j = 4 ∨ j = 5 ∨ j = 6 ∨ j = 7 ∨ j = 8 ∨ j = 9 ∨ j = 10 ∨ j = 11 ∨ j = 12 ∨ j = 13 ∨ j = 14 ∨ j = 15 ∨ j = 16 ∨ j = 17) with rfl | rfl | rfl | rfl | rfl | rfl | rfl | rfl | rfl | rfl | rfl | rfl | rfl | rfl | rfl | rfl | rfl | rfl <;> rfl)
  have q18 := cl 18 (.bool h) (by rw [hS]; rfl)
  clear cl hS
  unfold valJ
  by_cases c0 : k < 8
  · rw [if_pos (by omega)]
    have i1 : (k : Int) < 8 := by omega
    have q1 := q k (by omega)
    clear q
    go_enter Tryd.func28, Tryd.ntmps28
    go_wp2_with fail
    go_ret
    exact ⟨rfl, below_alloc1 _ _⟩
  by_cases c1 : k = 8
  · subst c1
    rw [if_pos (by omega)]
    have q1 := q 8 (by omega)
    clear q
    go_enter Tryd.func28, Tryd.ntmps28
    go_wp2_with fail
    go_ret
    exact ⟨rfl, below_alloc1 _ _⟩
  by_cases c2 : k = 9
  · subst c2
    rw [if_pos (by omega)]
    have q1 := q 9 (by omega)
    clear q
    go_enter Tryd.func28, Tryd.ntmps28
    go_wp2_with fail
    go_ret
    exact ⟨rfl, below_alloc1 _ _⟩
  by_cases c3 : k < 18
  · rw [if_pos c3]
    obtain ⟨m, rfl⟩ : ∃ m, k = 10 + m := ⟨k - 10, by omega⟩
    have q1 := q (10 + m) (by omega)
    have i1 : ¬ ((10 + m : Nat) : Int) < 8 := by omega
    have i2 : (((10 + m : Nat) : Int) == 8) = false := by simp; omega
    have i3 : (((10 + m : Nat) : Int) == 9) = false := by simp; omega
    have i4 : ((10 + m : Nat) : Int) < 18 := by omega
    have i5 : ((10 + m : Nat) : Int) - 10 = (m : Int) := by omega
    have i6 : (m : Int) < 8 := by omega
    clear q
    generalize ((10 + m : Nat) : Int) = z at i1 i2 i3 i4 i5
    go_enter Tryd.func28, Tryd.ntmps28
    go_wp2_with fail
    go_ret
    exact ⟨rfl, below_alloc1 _ _⟩
  · obtain rfl : k = 18 := by omega
    rw [if_neg (by omega)]
    clear q
    cases h
    all_goals
      go_enter Tryd.func28, Tryd.ntmps28
      go_wp2_with fail
      go_ret
      exact ⟨rfl, below_alloc1 _ _⟩

theorem ret_strN {a b : ByteArray} (h : a = b) : Ending.returned (.string a) = .returned (.string b) := by rw [h]
theorem ba_extN {x y : ByteArray} (h : x.data.toList = y.data.toList) : x = y := by
  cases x; cases y
  simp only [ByteArray.mk.injEq]
  exact Array.toList_inj.1 h

set_option maxHeartbeats 4000000 in
theorem refName_c (k : Nat) (hk : k < 19) (w : World) :
    Calls Tryd.prog 18 #[.int .i64 (k : Int)] w fun e w' => e = .returned (.string ⟨(nameJ k).toArray⟩) ∧ w' = w := by
  have sz : ∀ n : Int, -9223372036854775808 ≤ n → n ≤ 9223372036854775807 → (⟨(Lib.itoa n).toArray⟩ : ByteArray).size ≤ 20 := fun n h0 h1 => by simpa [ByteArray.size] using itoa_lenJ n h0 h1
  unfold nameJ
  by_cases c0 : k < 8
  · rw [if_pos c0]
    have i1 : (k : Int) < 8 := by omega
    have HD := Lib.hid fun W => decimal_c (k : Int) (by omega) (by omega) W
    have hts := sz (k : Int) (by omega) (by omega)
    obtain ⟨t, ht⟩ : ∃ t : ByteArray, t = ⟨(Lib.itoa (k : Int)).toArray⟩ := ⟨_, rfl⟩
    rw [← ht] at HD hts
    have hw : IntKind.i64.wrap (k : Int) = k := IntWalk.i64_in _ (by omega)
    have HT := Lib.hid ht
    clear ht sz
    go_enter Tryd.func18, Tryd.ntmps18
    go_wp2_with fail
    refine (HD.out _).mono ?_
    rintro e w' ⟨rfl, rfl⟩
    go_wp2_with fail
    go_ret
    refine ⟨ret_strN (ba_extN ?_), rfl⟩
    rw [HT.out]; simp
  rw [if_neg c0]
  by_cases c1 : k = 8
  · subst c1
    rw [if_pos rfl]
    go_enter Tryd.func18, Tryd.ntmps18
    go_wp2_with fail
    go_ret
    exact ⟨rfl, rfl⟩
  rw [if_neg c1]
  by_cases c2 : k = 9
  · subst c2
    rw [if_pos rfl]
    go_enter Tryd.func18, Tryd.ntmps18
    go_wp2_with fail
    go_ret
    exact ⟨rfl, rfl⟩
  rw [if_neg c2]
  by_cases c3 : k < 18
  · rw [if_pos c3]
    obtain ⟨m, hm⟩ : ∃ m : Nat, (k : Int) - 10 = (m : Int) := ⟨k - 10, by omega⟩
    have HD := Lib.hid fun W => decimal_c (m : Int) (by omega) (by omega) W
    have hts := sz (m : Int) (by omega) (by omega)
    rw [hm]
    obtain ⟨t, ht⟩ : ∃ t : ByteArray, t = ⟨(Lib.itoa (m : Int)).toArray⟩ := ⟨_, rfl⟩
    rw [← ht] at HD hts
    have hw : IntKind.i64.wrap (m : Int) = m := IntWalk.i64_in _ (by omega)
    have HT := Lib.hid ht
    have i1 : ¬ (k : Int) < 8 := by omega
    have i2 : ((k : Int) == 8) = false := by simp; omega
    have i3 : ((k : Int) == 9) = false := by simp; omega
    have i4 : (k : Int) < 18 := by omega
    clear ht sz
    generalize (k : Int) = z at hm i1 i2 i3 i4
    go_enter Tryd.func18, Tryd.ntmps18
    go_wp2_with fail
    refine (HD.out _).mono ?_
    rintro e w' ⟨rfl, rfl⟩
    go_wp2_with fail
    go_ret
    refine ⟨ret_strN (ba_extN ?_), rfl⟩
    rw [HT.out]; simp
  · rw [if_neg c3]
    obtain rfl : k = 18 := by omega
    go_enter Tryd.func18, Tryd.ntmps18
    go_wp2_with fail
    go_ret
    exact ⟨rfl, rfl⟩
end Go.Proofs.YtjnakhejdpkfnaaDoor
