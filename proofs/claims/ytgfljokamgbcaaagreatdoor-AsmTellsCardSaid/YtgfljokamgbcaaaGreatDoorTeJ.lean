/- The walk of the document's step. (Written by mkTG.py.) The walk of the document's Lines. (Written by mkTJ.py.) -/
import Derived.Test.YtgfljokamgbcaaaGreatDoorTeE
import Derived.Test.YtgfljokamgbcaaaGreatDoorTeP
import Derived.Test.YtgfljokamgbcaaaGreatDoorAsE
namespace Go.Proofs.YtgfljokamgbcaaaGreatDoor
open Go.RowKit
set_option linter.unusedSimpArgs false
set_option linter.unusedVariables false
set_option maxRecDepth 100000

def capD (t : Int) : Except Int Int := if 4096 < t then .error 311 else .ok t
def stepV (a : Int) : Except Int Int → Value
  | .ok t => .tuple #[.int .i64 t, .int .i64 0]
  | .error e => .tuple #[.int .i64 a, .int .i64 e]
theorem capD_hi {t : Int} (h : 4096 < t) : capD t = .error 311 := if_pos h
theorem capD_lo {t : Int} (h : ¬ 4096 < t) : capD t = .ok t := if_neg h
theorem stepD_dir {l : List Wd} {a : Int} (h : dirW (l.headD []) = true) : stepD l a = if l.length ≠ 2 then .error 312 else
    match numF (l.getD 1 []) with
    | none => .error 41
    | some v => if v < 0 ∨ l.headD [] = wAlign ∧ (v < 1 ∨ 64 < v) then .error 41 else
      if l.headD [] = wOrg then (if v < a then .error 311 else capD v)
      else if l.headD [] = wSpace then capD (a + v)
      else capD ((a + v - 1) / v * v) := by
  unfold stepD
  simp only
  rw [if_pos h]
  rfl
theorem stepD_bw {l : List Wd} {a : Int} (h : l.headD [] = wByte ∨ l.headD [] = wWord) : stepD l a = if l.length < 2 then .error 312 else capD (a + (if l.headD [] = wWord then 4 * ((l.length : Int) - 1) else (l.length : Int) - 1)) := by
  unfold stepD
  simp only
  rw [if_neg (show ¬ dirW (l.headD []) = true by rcases h with h | h <;> (rw [h]; decide)), if_pos h]
  rfl
theorem stepD_text {l : List Wd} {a : Int} (h : l.headD [] = wText) : stepD l a = if l.length ≠ 2 then .error 312 else capD (a + ((l.getD 1 []).length : Int)) := by
  unfold stepD
  simp only
  rw [h, if_neg (show ¬ dirW wText = true by decide), if_neg (show ¬ (wText = wByte ∨ wText = wWord) by decide), if_pos rfl]
  rfl
theorem stepD_op {l : List Wd} {a : Int} (h : dirW (l.headD []) = false) (h4 : l.headD [] ≠ wByte) (h5 : l.headD [] ≠ wWord) (h6 : l.headD [] ≠ wText) : stepD l a = match opF (l.headD []) with
    | none => .error 40
    | some op => capD (a + (Isa.fm op false).n) := by
  unfold stepD
  simp only
  rw [if_neg (by rw [h]; decide), if_neg (fun x => x.elim h4 h5), if_neg h6]
  rfl
/-- The least place that a number divides. -/
theorem align_at {a v t : Int} (a0 : 0 ≤ a) (v1 : 1 ≤ v) (h0 : a ≤ t) (h1 : t ≤ (a + v - 1) / v * v) : t % v = 0 ↔ t = (a + v - 1) / v * v := by
  have hm : (a + v - 1) / v * v = v * ((a + v - 1) / v) := Int.mul_comm _ _
  have h2 := Int.emod_add_mul_ediv (a + v - 1) v
  have h3 := Int.emod_lt_of_pos (a + v - 1) (show 0 < v by omega)
  have h4 := Int.emod_nonneg (a + v - 1) (show v ≠ 0 by omega)
  constructor
  · intro h
    have h5 := Int.emod_add_mul_ediv t v
    rw [h] at h5
    have h6 : v * ((a + v - 1) / v - t / v) < v * 1 := by rw [Int.mul_sub]; omega
    have h7 : (a + v - 1) / v - t / v < 1 := Int.lt_of_mul_lt_mul_left h6 (by omega)
    have h8 : 0 ≤ v * ((a + v - 1) / v - t / v) := by rw [Int.mul_sub]; omega
    have h9 : 0 ≤ (a + v - 1) / v - t / v := by
      by_cases h : (a + v - 1) / v - t / v < 0
      · exfalso
        have := Int.mul_neg_of_pos_of_neg (show 0 < v by omega) h
        omega
      · omega
    have h10 : (a + v - 1) / v = t / v := by omega
    rw [hm, h10]
    omega
  · intro h
    rw [h]
    exact Int.mul_emod_left _ _

set_option maxHeartbeats 4000000 in
theorem stepR_org (ao : Option Addr) (cap : Nat) (l : List Wd) (a : Int) (w : World) (hl : LnOk w ao l cap) (hne : l ≠ []) (hln : l.length ≤ 10000) (a0 : 0 ≤ a) (a1 : a ≤ 4096) (h : l.headD [] = wOrg) :
    Calls Tryz.prog 15 #[.slice ao l.length cap, .int .i64 a] w fun e w' => e = .returned (stepV a (stepD l a)) ∧ Below w.heap.size w w' := by
  obtain ⟨x, hx0, hxh⟩ : ∃ x, l[0]? = some x ∧ l.headD [] = x := by
    cases l with
    | nil => exact absurd rfl hne
    | cons y r => exact ⟨y, rfl, rfl⟩
  obtain ⟨blk, off, rfl, hblk, y0⟩ := wd_at hl.inn hx0
  rw [Nat.add_zero] at y0
  have hle := hl.le
  have hcap := hl.cap
  have hin := hl.inn
  have hl0 : 0 < l.length := (List.getElem?_eq_some_iff.1 hx0).1
  have i0 : (0 : Int) < (l.length : Int) := by omega
  obtain ⟨RR, hRR⟩ : ∃ RR, stepD l a = RR := ⟨_, rfl⟩
  rw [hRR]
  rw [stepD_dir (by rw [h]; decide)] at hRR
  rw [hxh] at hRR h
  have HR := Lib.hid hRR
  have HL := Lib.hid hl
  clear hRR hx0 hxh hl hin
  rw [h] at HR
  have e_org : (x == ([46, 111, 114, 103] : List UInt8)) = true := by rw [h]; decide
  have e_space : (x == ([46, 115, 112, 97, 99, 101] : List UInt8)) = false := by rw [h]; decide
  have e_align : (x == ([46, 97, 108, 105, 103, 110] : List UInt8)) = false := by rw [h]; decide
  clear h
  by_cases c2 : l.length = 2
  · have d2 : ((l.length : Int) != 2) = false := by simp; omega
    obtain ⟨y, hy, hyd⟩ : ∃ y, l[1]? = some y ∧ l.getD 1 [] = y := ⟨_, List.getElem?_eq_getElem (by omega), by simp [List.getD, List.getElem?_eq_getElem (show 1 < l.length by omega)]⟩
    have i1 : (1 : Int) < (l.length : Int) := by omega
    have y1 : w.cell? ⟨blk, off + 1, none⟩ = some (.string ⟨y.toArray⟩) := by
      obtain ⟨b2, o2, he, -, hc⟩ := wd_at HL.out.inn hy
      cases he
      exact hc
    have HN := Lib.hid (numR_c y (by have := (HL.out.each y (List.mem_of_getElem? hy)).2; omega) w)
    have HR1 := Lib.hid (show (match numF y with
      | none => .error 41
      | some v => if v < 0 ∨ wOrg = wAlign ∧ (v < 1 ∨ 64 < v) then .error 41 else
        if wOrg = wOrg then (if v < a then .error 311 else capD v)
        else if wOrg = wSpace then capD (a + v)
        else capD ((a + v - 1) / v * v)) = RR by have := HR.out; rw [if_neg (by omega), hyd] at this; exact this)
    have hbd := fun v => @numF_bds y v
    clear HR hy hyd
    go_enter Tryz.func15, Tryz.ntmps15
    go_wp2_with fail
    refine HN.out.mono ?_
    rintro e w1 ⟨hw1, n, rfl, hn⟩
    have hw1 := hw1.symm
    subst hw1
    cases hv : numF y with
    | none =>
      obtain rfl : RR = .error 41 := by rw [← HR1.out, hv]
      clear HR1 HN hn hbd hv
      rw [show (none : Option Int).isSome = false from rfl]
      go_wp2_with fail
      refine bodyPost_ret (v := stepV a (.error 41)) (by simp [results, Tryz.results15, go_sem, stepV]) rfl ⟨rfl, Below.refl _ _⟩
    | some v =>
      obtain rfl := hn v hv
      obtain ⟨v0, v1⟩ := hbd n hv
      have HR2 := Lib.hid (show (if n < 0 ∨ wOrg = wAlign ∧ (n < 1 ∨ 64 < n) then .error 41 else
        if wOrg = wOrg then (if n < a then .error 311 else capD n)
        else if wOrg = wSpace then capD (a + n)
        else capD ((a + n - 1) / n * n)) = RR by have := HR1.out; rw [hv] at this; first | exact this | simpa using this)
      rw [show (some n : Option Int).isSome = true from rfl]
      clear HR1 HN hn hbd hv
      by_cases c3 : n < 0
      · obtain rfl : RR = .error 41 := by rw [← HR2.out, if_pos (.inl c3)]
        clear HR2
        go_wp2_with fail
        refine bodyPost_ret (v := stepV a (.error 41)) (by simp [results, Tryz.results15, go_sem, stepV]) rfl ⟨rfl, Below.refl _ _⟩
      · have HR3 := Lib.hid (show (if n < a then .error 311 else capD n) = RR by
          have := HR2.out
          rw [if_neg (show ¬ (n < 0 ∨ wOrg = wAlign ∧ (n < 1 ∨ 64 < n)) from fun h => h.elim c3 (fun h => absurd h.1 (by decide)))] at this
          rw [if_pos (show wOrg = wOrg from rfl)] at this
          exact this)
        clear HR2
        by_cases c4 : n < a
        · obtain rfl : RR = .error 311 := by rw [← HR3.out, if_pos c4]
          clear HR3
          go_wp2_with fail
          refine bodyPost_ret (v := stepV a (.error 311)) (by simp [results, Tryz.results15, go_sem, stepV]) rfl ⟨rfl, Below.refl _ _⟩
        · have HR2 := Lib.hid (show capD n = RR by have := HR3.out; rwa [if_neg c4] at this)
          clear HR3
          by_cases cc : 4096 < n
          · obtain rfl : RR = .error 311 := by rw [← HR2.out, capD_hi cc]
            clear HR2
            go_wp2_with fail
            refine bodyPost_ret (v := stepV a (.error 311)) (by simp [results, Tryz.results15, go_sem, stepV]) rfl ⟨rfl, Below.refl _ _⟩
          · obtain rfl : RR = .ok (n) := by rw [← HR2.out, capD_lo cc]
            clear HR2
            go_wp2_with fail
            refine bodyPost_ret (v := stepV a (.ok (n))) (by simp [results, Tryz.results15, go_sem, stepV]) rfl ⟨rfl, Below.refl _ _⟩
  · have d2 : ((l.length : Int) != 2) = true := by simp; omega
    obtain rfl : RR = .error 312 := by rw [← HR.out, if_pos c2]
    clear HR
    go_enter Tryz.func15, Tryz.ntmps15
    go_wp2_with fail
    refine bodyPost_ret (v := stepV a (.error 312)) (by simp [results, Tryz.results15, go_sem, stepV]) rfl ⟨rfl, Below.refl _ _⟩
set_option maxHeartbeats 4000000 in
theorem stepR_space (ao : Option Addr) (cap : Nat) (l : List Wd) (a : Int) (w : World) (hl : LnOk w ao l cap) (hne : l ≠ []) (hln : l.length ≤ 10000) (a0 : 0 ≤ a) (a1 : a ≤ 4096) (h : l.headD [] = wSpace) :
    Calls Tryz.prog 15 #[.slice ao l.length cap, .int .i64 a] w fun e w' => e = .returned (stepV a (stepD l a)) ∧ Below w.heap.size w w' := by
  obtain ⟨x, hx0, hxh⟩ : ∃ x, l[0]? = some x ∧ l.headD [] = x := by
    cases l with
    | nil => exact absurd rfl hne
    | cons y r => exact ⟨y, rfl, rfl⟩
  obtain ⟨blk, off, rfl, hblk, y0⟩ := wd_at hl.inn hx0
  rw [Nat.add_zero] at y0
  have hle := hl.le
  have hcap := hl.cap
  have hin := hl.inn
  have hl0 : 0 < l.length := (List.getElem?_eq_some_iff.1 hx0).1
  have i0 : (0 : Int) < (l.length : Int) := by omega
  obtain ⟨RR, hRR⟩ : ∃ RR, stepD l a = RR := ⟨_, rfl⟩
  rw [hRR]
  rw [stepD_dir (by rw [h]; decide)] at hRR
  rw [hxh] at hRR h
  have HR := Lib.hid hRR
  have HL := Lib.hid hl
  clear hRR hx0 hxh hl hin
  rw [h] at HR
  have e_org : (x == ([46, 111, 114, 103] : List UInt8)) = false := by rw [h]; decide
  have e_space : (x == ([46, 115, 112, 97, 99, 101] : List UInt8)) = true := by rw [h]; decide
  have e_align : (x == ([46, 97, 108, 105, 103, 110] : List UInt8)) = false := by rw [h]; decide
  clear h
  by_cases c2 : l.length = 2
  · have d2 : ((l.length : Int) != 2) = false := by simp; omega
    obtain ⟨y, hy, hyd⟩ : ∃ y, l[1]? = some y ∧ l.getD 1 [] = y := ⟨_, List.getElem?_eq_getElem (by omega), by simp [List.getD, List.getElem?_eq_getElem (show 1 < l.length by omega)]⟩
    have i1 : (1 : Int) < (l.length : Int) := by omega
    have y1 : w.cell? ⟨blk, off + 1, none⟩ = some (.string ⟨y.toArray⟩) := by
      obtain ⟨b2, o2, he, -, hc⟩ := wd_at HL.out.inn hy
      cases he
      exact hc
    have HN := Lib.hid (numR_c y (by have := (HL.out.each y (List.mem_of_getElem? hy)).2; omega) w)
    have HR1 := Lib.hid (show (match numF y with
      | none => .error 41
      | some v => if v < 0 ∨ wSpace = wAlign ∧ (v < 1 ∨ 64 < v) then .error 41 else
        if wSpace = wOrg then (if v < a then .error 311 else capD v)
        else if wSpace = wSpace then capD (a + v)
        else capD ((a + v - 1) / v * v)) = RR by have := HR.out; rw [if_neg (by omega), hyd] at this; exact this)
    have hbd := fun v => @numF_bds y v
    clear HR hy hyd
    go_enter Tryz.func15, Tryz.ntmps15
    go_wp2_with fail
    refine HN.out.mono ?_
    rintro e w1 ⟨hw1, n, rfl, hn⟩
    have hw1 := hw1.symm
    subst hw1
    cases hv : numF y with
    | none =>
      obtain rfl : RR = .error 41 := by rw [← HR1.out, hv]
      clear HR1 HN hn hbd hv
      rw [show (none : Option Int).isSome = false from rfl]
      go_wp2_with fail
      refine bodyPost_ret (v := stepV a (.error 41)) (by simp [results, Tryz.results15, go_sem, stepV]) rfl ⟨rfl, Below.refl _ _⟩
    | some v =>
      obtain rfl := hn v hv
      obtain ⟨v0, v1⟩ := hbd n hv
      have HR2 := Lib.hid (show (if n < 0 ∨ wSpace = wAlign ∧ (n < 1 ∨ 64 < n) then .error 41 else
        if wSpace = wOrg then (if n < a then .error 311 else capD n)
        else if wSpace = wSpace then capD (a + n)
        else capD ((a + n - 1) / n * n)) = RR by have := HR1.out; rw [hv] at this; first | exact this | simpa using this)
      rw [show (some n : Option Int).isSome = true from rfl]
      clear HR1 HN hn hbd hv
      by_cases c3 : n < 0
      · obtain rfl : RR = .error 41 := by rw [← HR2.out, if_pos (.inl c3)]
        clear HR2
        go_wp2_with fail
        refine bodyPost_ret (v := stepV a (.error 41)) (by simp [results, Tryz.results15, go_sem, stepV]) rfl ⟨rfl, Below.refl _ _⟩
      · have HR3 := Lib.hid (show capD (a + n) = RR by
          have := HR2.out
          rw [if_neg (show ¬ (n < 0 ∨ wSpace = wAlign ∧ (n < 1 ∨ 64 < n)) from fun h => h.elim c3 (fun h => absurd h.1 (by decide))), if_neg (show wSpace ≠ wOrg by decide), if_pos (show wSpace = wSpace from rfl)] at this
          exact this)
        clear HR2
        have HR2 := HR3
        clear HR3
        have hwr : IntKind.i64.wrap (a + n) = a + n := IntWalk.i64_in _ ⟨by omega, by omega⟩
        by_cases cc : 4096 < a + n
        · obtain rfl : RR = .error 311 := by rw [← HR2.out, capD_hi cc]
          clear HR2
          go_wp2_with fail
          refine bodyPost_ret (v := stepV a (.error 311)) (by simp [results, Tryz.results15, go_sem, stepV]) rfl ⟨rfl, Below.refl _ _⟩
        · obtain rfl : RR = .ok (a + n) := by rw [← HR2.out, capD_lo cc]
          clear HR2
          go_wp2_with fail
          refine bodyPost_ret (v := stepV a (.ok (a + n))) (by simp [results, Tryz.results15, go_sem, stepV]) rfl ⟨rfl, Below.refl _ _⟩
  · have d2 : ((l.length : Int) != 2) = true := by simp; omega
    obtain rfl : RR = .error 312 := by rw [← HR.out, if_pos c2]
    clear HR
    go_enter Tryz.func15, Tryz.ntmps15
    go_wp2_with fail
    refine bodyPost_ret (v := stepV a (.error 312)) (by simp [results, Tryz.results15, go_sem, stepV]) rfl ⟨rfl, Below.refl _ _⟩
set_option maxHeartbeats 4000000 in
theorem stepR_align (ao : Option Addr) (cap : Nat) (l : List Wd) (a : Int) (w : World) (hl : LnOk w ao l cap) (hne : l ≠ []) (hln : l.length ≤ 10000) (a0 : 0 ≤ a) (a1 : a ≤ 4096) (h : l.headD [] = wAlign) :
    Calls Tryz.prog 15 #[.slice ao l.length cap, .int .i64 a] w fun e w' => e = .returned (stepV a (stepD l a)) ∧ Below w.heap.size w w' := by
  obtain ⟨x, hx0, hxh⟩ : ∃ x, l[0]? = some x ∧ l.headD [] = x := by
    cases l with
    | nil => exact absurd rfl hne
    | cons y r => exact ⟨y, rfl, rfl⟩
  obtain ⟨blk, off, rfl, hblk, y0⟩ := wd_at hl.inn hx0
  rw [Nat.add_zero] at y0
  have hle := hl.le
  have hcap := hl.cap
  have hin := hl.inn
  have hl0 : 0 < l.length := (List.getElem?_eq_some_iff.1 hx0).1
  have i0 : (0 : Int) < (l.length : Int) := by omega
  obtain ⟨RR, hRR⟩ : ∃ RR, stepD l a = RR := ⟨_, rfl⟩
  rw [hRR]
  rw [stepD_dir (by rw [h]; decide)] at hRR
  rw [hxh] at hRR h
  have HR := Lib.hid hRR
  have HL := Lib.hid hl
  clear hRR hx0 hxh hl hin
  rw [h] at HR
  have e_org : (x == ([46, 111, 114, 103] : List UInt8)) = false := by rw [h]; decide
  have e_space : (x == ([46, 115, 112, 97, 99, 101] : List UInt8)) = false := by rw [h]; decide
  have e_align : (x == ([46, 97, 108, 105, 103, 110] : List UInt8)) = true := by rw [h]; decide
  clear h
  by_cases c2 : l.length = 2
  · have d2 : ((l.length : Int) != 2) = false := by simp; omega
    obtain ⟨y, hy, hyd⟩ : ∃ y, l[1]? = some y ∧ l.getD 1 [] = y := ⟨_, List.getElem?_eq_getElem (by omega), by simp [List.getD, List.getElem?_eq_getElem (show 1 < l.length by omega)]⟩
    have i1 : (1 : Int) < (l.length : Int) := by omega
    have y1 : w.cell? ⟨blk, off + 1, none⟩ = some (.string ⟨y.toArray⟩) := by
      obtain ⟨b2, o2, he, -, hc⟩ := wd_at HL.out.inn hy
      cases he
      exact hc
    have HN := Lib.hid (numR_c y (by have := (HL.out.each y (List.mem_of_getElem? hy)).2; omega) w)
    have HR1 := Lib.hid (show (match numF y with
      | none => .error 41
      | some v => if v < 0 ∨ wAlign = wAlign ∧ (v < 1 ∨ 64 < v) then .error 41 else
        if wAlign = wOrg then (if v < a then .error 311 else capD v)
        else if wAlign = wSpace then capD (a + v)
        else capD ((a + v - 1) / v * v)) = RR by have := HR.out; rw [if_neg (by omega), hyd] at this; exact this)
    have hbd := fun v => @numF_bds y v
    clear HR hy hyd
    go_enter Tryz.func15, Tryz.ntmps15
    go_wp2_with fail
    refine HN.out.mono ?_
    rintro e w1 ⟨hw1, n, rfl, hn⟩
    have hw1 := hw1.symm
    subst hw1
    cases hv : numF y with
    | none =>
      obtain rfl : RR = .error 41 := by rw [← HR1.out, hv]
      clear HR1 HN hn hbd hv
      rw [show (none : Option Int).isSome = false from rfl]
      go_wp2_with fail
      refine bodyPost_ret (v := stepV a (.error 41)) (by simp [results, Tryz.results15, go_sem, stepV]) rfl ⟨rfl, Below.refl _ _⟩
    | some v =>
      obtain rfl := hn v hv
      obtain ⟨v0, v1⟩ := hbd n hv
      have HR2 := Lib.hid (show (if n < 0 ∨ wAlign = wAlign ∧ (n < 1 ∨ 64 < n) then .error 41 else
        if wAlign = wOrg then (if n < a then .error 311 else capD n)
        else if wAlign = wSpace then capD (a + n)
        else capD ((a + n - 1) / n * n)) = RR by have := HR1.out; rw [hv] at this; first | exact this | simpa using this)
      rw [show (some n : Option Int).isSome = true from rfl]
      clear HR1 HN hn hbd hv
      by_cases c3 : n < 0
      · obtain rfl : RR = .error 41 := by rw [← HR2.out, if_pos (.inl c3)]
        clear HR2
        go_wp2_with fail
        refine bodyPost_ret (v := stepV a (.error 41)) (by simp [results, Tryz.results15, go_sem, stepV]) rfl ⟨rfl, Below.refl _ _⟩
      · by_cases c4 : n < 1
        · obtain rfl : RR = .error 41 := by rw [← HR2.out, if_pos (.inr ⟨rfl, .inl c4⟩)]
          clear HR2
          go_wp2_with fail
          refine bodyPost_ret (v := stepV a (.error 41)) (by simp [results, Tryz.results15, go_sem, stepV]) rfl ⟨rfl, Below.refl _ _⟩
        · by_cases c5 : 64 < n
          · obtain rfl : RR = .error 41 := by rw [← HR2.out, if_pos (.inr ⟨rfl, .inr c5⟩)]
            clear HR2
            go_wp2_with fail
            refine bodyPost_ret (v := stepV a (.error 41)) (by simp [results, Tryz.results15, go_sem, stepV]) rfl ⟨rfl, Below.refl _ _⟩
          · have HR3 := Lib.hid (show capD ((a + n - 1) / n * n) = RR by
              have := HR2.out
              rw [if_neg (show ¬ (n < 0 ∨ wAlign = wAlign ∧ (n < 1 ∨ 64 < n)) from fun h => h.elim c3 (fun h => h.2.elim c4 c5)), if_neg (show wAlign ≠ wOrg by decide), if_neg (show wAlign ≠ wSpace by decide)] at this
              exact this)
            clear HR2
            have hT := align_le (a := a) (v := n) a0 (by omega)
            have hAt := Lib.hid (fun t => @align_at a n t a0 (by omega))
            have hT2 : (a + n - 1) / n * n ≤ 4160 := by
              have := Int.ediv_mul_le (a + n - 1) (show n ≠ 0 by omega)
              omega
            obtain ⟨T, hTe⟩ : ∃ T, (a + n - 1) / n * n = T := ⟨_, rfl⟩
            rw [hTe] at HR3 hT hAt hT2
            clear hTe
            have hn0 : ¬ n = 0 := by omega
            go_wp2_with fail
            go_loopg [10] (T - a).toNat (fun gk v10 wr => ∃ t : Int, v10 = .int .i64 t ∧ a ≤ t ∧ t ≤ T ∧ gk = (T - t).toNat ∧ wr = w)
            case atStart => exact ⟨a, rfl, Int.le_refl _, hT, rfl, rfl⟩
            case round =>
              obtain ⟨t, rfl, t0, t1, hg, hw⟩ := hrel
              have hw := hw.symm
              subst hw
              have hm := hAt.out t t0 t1
              have hq : t.tmod n = t % n := Int.tmod_eq_emod_of_nonneg (by omega)
              have hb0 := Int.emod_nonneg t hn0
              have hb1 := Int.emod_lt_of_pos t (show 0 < n by omega)
              have hwr : IntKind.i64.wrap (t % n) = t % n := IntWalk.i64_in _ ⟨by omega, by omega⟩
              have hwr1 : IntKind.i64.wrap (t + 1) = t + 1 := IntWalk.i64_in _ ⟨by omega, by omega⟩
              by_cases c6 : t % n = 0
              · have e6 : (t % n != 0) = false := by simpa using c6
                obtain rfl := hm.1 c6
                have HR2 := HR3
                clear hm HR3 hAt
                by_cases cc : 4096 < t
                · obtain rfl : RR = .error 311 := by rw [← HR2.out, capD_hi cc]
                  clear HR2
                  go_wp2_with fail
                  refine bodyPost_ret (v := stepV a (.error 311)) (by simp [results, Tryz.results15, go_sem, stepV]) rfl ⟨rfl, Below.refl _ _⟩
                · obtain rfl : RR = .ok (t) := by rw [← HR2.out, capD_lo cc]
                  clear HR2
                  go_wp2_with fail
                  refine bodyPost_ret (v := stepV a (.ok (t))) (by simp [results, Tryz.results15, go_sem, stepV]) rfl ⟨rfl, Below.refl _ _⟩
              · have e6 : (t % n != 0) = true := by simpa using c6
                have hlt : t < T := by
                  rcases Int.lt_or_eq_of_le t1 with h | h
                  · exact h
                  · exact absurd (hm.2 h) c6
                clear hm
                go_wp2_with fail
                go_roundg (gk - 1)
                case measure => omega
                case rel => exact ⟨t + 1, by go_num, by omega, by omega, by omega, rfl⟩
  · have d2 : ((l.length : Int) != 2) = true := by simp; omega
    obtain rfl : RR = .error 312 := by rw [← HR.out, if_pos c2]
    clear HR
    go_enter Tryz.func15, Tryz.ntmps15
    go_wp2_with fail
    refine bodyPost_ret (v := stepV a (.error 312)) (by simp [results, Tryz.results15, go_sem, stepV]) rfl ⟨rfl, Below.refl _ _⟩
set_option maxHeartbeats 4000000 in
theorem stepR_byte (ao : Option Addr) (cap : Nat) (l : List Wd) (a : Int) (w : World) (hl : LnOk w ao l cap) (hne : l ≠ []) (hln : l.length ≤ 10000) (a0 : 0 ≤ a) (a1 : a ≤ 4096) (h : l.headD [] = wByte) :
    Calls Tryz.prog 15 #[.slice ao l.length cap, .int .i64 a] w fun e w' => e = .returned (stepV a (stepD l a)) ∧ Below w.heap.size w w' := by
  obtain ⟨x, hx0, hxh⟩ : ∃ x, l[0]? = some x ∧ l.headD [] = x := by
    cases l with
    | nil => exact absurd rfl hne
    | cons y r => exact ⟨y, rfl, rfl⟩
  obtain ⟨blk, off, rfl, hblk, y0⟩ := wd_at hl.inn hx0
  rw [Nat.add_zero] at y0
  have hle := hl.le
  have hcap := hl.cap
  have hin := hl.inn
  have hl0 : 0 < l.length := (List.getElem?_eq_some_iff.1 hx0).1
  have i0 : (0 : Int) < (l.length : Int) := by omega
  obtain ⟨RR, hRR⟩ : ∃ RR, stepD l a = RR := ⟨_, rfl⟩
  rw [hRR]
  rw [stepD_bw (by rw [h]; exact .inl rfl)] at hRR
  rw [hxh] at hRR h
  have HR := Lib.hid hRR
  have HL := Lib.hid hl
  clear hRR hx0 hxh hl hin
  rw [h] at HR
  have e_org : (x == ([46, 111, 114, 103] : List UInt8)) = false := by rw [h]; decide
  have e_space : (x == ([46, 115, 112, 97, 99, 101] : List UInt8)) = false := by rw [h]; decide
  have e_align : (x == ([46, 97, 108, 105, 103, 110] : List UInt8)) = false := by rw [h]; decide
  have e_byte : (x == ([46, 98, 121, 116, 101] : List UInt8)) = true := by rw [h]; decide
  have e_word : (x == ([46, 119, 111, 114, 100] : List UInt8)) = false := by rw [h]; decide
  clear h
  by_cases c2 : l.length < 2
  · obtain rfl : RR = .error 312 := by rw [← HR.out, if_pos c2]
    have d2 : (l.length : Int) < 2 := by omega
    clear HR
    go_enter Tryz.func15, Tryz.ntmps15
    go_wp2_with fail
    refine bodyPost_ret (v := stepV a (.error 312)) (by simp [results, Tryz.results15, go_sem, stepV]) rfl ⟨rfl, Below.refl _ _⟩
  · have d2 : ¬ (l.length : Int) < 2 := by omega
    have HR2 := Lib.hid (show capD (a + (l.length : Int) - 1) = RR by
      have := HR.out
      rw [if_neg c2, if_neg (show wByte ≠ wWord by decide)] at this
      rw [show a + (l.length : Int) - 1 = a + ((l.length : Int) - 1) by omega]; exact this)
    clear HR
    have hw1 : IntKind.i64.wrap (a + (l.length : Int)) = a + (l.length : Int) := IntWalk.i64_in _ ⟨by omega, by omega⟩
    have hw2 : IntKind.i64.wrap (a + (l.length : Int) - 1) = a + (l.length : Int) - 1 := IntWalk.i64_in _ ⟨by omega, by omega⟩
    have hw3 : IntKind.i64.wrap ((l.length : Int) - 1) = (l.length : Int) - 1 := IntWalk.i64_in _ ⟨by omega, by omega⟩
    have hw4 : IntKind.i64.wrap (4 * ((l.length : Int) - 1)) = 4 * ((l.length : Int) - 1) := IntWalk.i64_in _ ⟨by omega, by omega⟩
    have hw5 : IntKind.i64.wrap (a + 4 * ((l.length : Int) - 1)) = a + 4 * ((l.length : Int) - 1) := IntWalk.i64_in _ ⟨by omega, by omega⟩
    by_cases cc : 4096 < a + (l.length : Int) - 1
    · obtain rfl : RR = .error 311 := by rw [← HR2.out, capD_hi cc]
      clear HR2
      go_enter Tryz.func15, Tryz.ntmps15
      go_wp2_with fail
      refine bodyPost_ret (v := stepV a (.error 311)) (by simp [results, Tryz.results15, go_sem, stepV]) rfl ⟨rfl, Below.refl _ _⟩
    · obtain rfl : RR = .ok (a + (l.length : Int) - 1) := by rw [← HR2.out, capD_lo cc]
      clear HR2
      go_enter Tryz.func15, Tryz.ntmps15
      go_wp2_with fail
      refine bodyPost_ret (v := stepV a (.ok (a + (l.length : Int) - 1))) (by simp [results, Tryz.results15, go_sem, stepV]) rfl ⟨rfl, Below.refl _ _⟩
set_option maxHeartbeats 4000000 in
theorem stepR_word (ao : Option Addr) (cap : Nat) (l : List Wd) (a : Int) (w : World) (hl : LnOk w ao l cap) (hne : l ≠ []) (hln : l.length ≤ 10000) (a0 : 0 ≤ a) (a1 : a ≤ 4096) (h : l.headD [] = wWord) :
    Calls Tryz.prog 15 #[.slice ao l.length cap, .int .i64 a] w fun e w' => e = .returned (stepV a (stepD l a)) ∧ Below w.heap.size w w' := by
  obtain ⟨x, hx0, hxh⟩ : ∃ x, l[0]? = some x ∧ l.headD [] = x := by
    cases l with
    | nil => exact absurd rfl hne
    | cons y r => exact ⟨y, rfl, rfl⟩
  obtain ⟨blk, off, rfl, hblk, y0⟩ := wd_at hl.inn hx0
  rw [Nat.add_zero] at y0
  have hle := hl.le
  have hcap := hl.cap
  have hin := hl.inn
  have hl0 : 0 < l.length := (List.getElem?_eq_some_iff.1 hx0).1
  have i0 : (0 : Int) < (l.length : Int) := by omega
  obtain ⟨RR, hRR⟩ : ∃ RR, stepD l a = RR := ⟨_, rfl⟩
  rw [hRR]
  rw [stepD_bw (by rw [h]; exact .inr rfl)] at hRR
  rw [hxh] at hRR h
  have HR := Lib.hid hRR
  have HL := Lib.hid hl
  clear hRR hx0 hxh hl hin
  rw [h] at HR
  have e_org : (x == ([46, 111, 114, 103] : List UInt8)) = false := by rw [h]; decide
  have e_space : (x == ([46, 115, 112, 97, 99, 101] : List UInt8)) = false := by rw [h]; decide
  have e_align : (x == ([46, 97, 108, 105, 103, 110] : List UInt8)) = false := by rw [h]; decide
  have e_byte : (x == ([46, 98, 121, 116, 101] : List UInt8)) = false := by rw [h]; decide
  have e_word : (x == ([46, 119, 111, 114, 100] : List UInt8)) = true := by rw [h]; decide
  clear h
  by_cases c2 : l.length < 2
  · obtain rfl : RR = .error 312 := by rw [← HR.out, if_pos c2]
    have d2 : (l.length : Int) < 2 := by omega
    clear HR
    go_enter Tryz.func15, Tryz.ntmps15
    go_wp2_with fail
    refine bodyPost_ret (v := stepV a (.error 312)) (by simp [results, Tryz.results15, go_sem, stepV]) rfl ⟨rfl, Below.refl _ _⟩
  · have d2 : ¬ (l.length : Int) < 2 := by omega
    have HR2 := Lib.hid (show capD (a + 4 * ((l.length : Int) - 1)) = RR by
      have := HR.out
      rw [if_neg c2, if_pos rfl] at this
      exact this)
    clear HR
    have hw1 : IntKind.i64.wrap (a + (l.length : Int)) = a + (l.length : Int) := IntWalk.i64_in _ ⟨by omega, by omega⟩
    have hw2 : IntKind.i64.wrap (a + (l.length : Int) - 1) = a + (l.length : Int) - 1 := IntWalk.i64_in _ ⟨by omega, by omega⟩
    have hw3 : IntKind.i64.wrap ((l.length : Int) - 1) = (l.length : Int) - 1 := IntWalk.i64_in _ ⟨by omega, by omega⟩
    have hw4 : IntKind.i64.wrap (4 * ((l.length : Int) - 1)) = 4 * ((l.length : Int) - 1) := IntWalk.i64_in _ ⟨by omega, by omega⟩
    have hw5 : IntKind.i64.wrap (a + 4 * ((l.length : Int) - 1)) = a + 4 * ((l.length : Int) - 1) := IntWalk.i64_in _ ⟨by omega, by omega⟩
    by_cases cc : 4096 < a + 4 * ((l.length : Int) - 1)
    · obtain rfl : RR = .error 311 := by rw [← HR2.out, capD_hi cc]
      clear HR2
      go_enter Tryz.func15, Tryz.ntmps15
      go_wp2_with fail
      refine bodyPost_ret (v := stepV a (.error 311)) (by simp [results, Tryz.results15, go_sem, stepV]) rfl ⟨rfl, Below.refl _ _⟩
    · obtain rfl : RR = .ok (a + 4 * ((l.length : Int) - 1)) := by rw [← HR2.out, capD_lo cc]
      clear HR2
      go_enter Tryz.func15, Tryz.ntmps15
      go_wp2_with fail
      refine bodyPost_ret (v := stepV a (.ok (a + 4 * ((l.length : Int) - 1)))) (by simp [results, Tryz.results15, go_sem, stepV]) rfl ⟨rfl, Below.refl _ _⟩
set_option maxHeartbeats 4000000 in
theorem stepR_text (ao : Option Addr) (cap : Nat) (l : List Wd) (a : Int) (w : World) (hl : LnOk w ao l cap) (hne : l ≠ []) (hln : l.length ≤ 10000) (a0 : 0 ≤ a) (a1 : a ≤ 4096) (h : l.headD [] = wText) :
    Calls Tryz.prog 15 #[.slice ao l.length cap, .int .i64 a] w fun e w' => e = .returned (stepV a (stepD l a)) ∧ Below w.heap.size w w' := by
  obtain ⟨x, hx0, hxh⟩ : ∃ x, l[0]? = some x ∧ l.headD [] = x := by
    cases l with
    | nil => exact absurd rfl hne
    | cons y r => exact ⟨y, rfl, rfl⟩
  obtain ⟨blk, off, rfl, hblk, y0⟩ := wd_at hl.inn hx0
  rw [Nat.add_zero] at y0
  have hle := hl.le
  have hcap := hl.cap
  have hin := hl.inn
  have hl0 : 0 < l.length := (List.getElem?_eq_some_iff.1 hx0).1
  have i0 : (0 : Int) < (l.length : Int) := by omega
  obtain ⟨RR, hRR⟩ : ∃ RR, stepD l a = RR := ⟨_, rfl⟩
  rw [hRR]
  rw [stepD_text h] at hRR
  rw [hxh] at h
  have HR := Lib.hid hRR
  have HL := Lib.hid hl
  clear hRR hx0 hxh hl hin
  have e_org : (x == ([46, 111, 114, 103] : List UInt8)) = false := by rw [h]; decide
  have e_space : (x == ([46, 115, 112, 97, 99, 101] : List UInt8)) = false := by rw [h]; decide
  have e_align : (x == ([46, 97, 108, 105, 103, 110] : List UInt8)) = false := by rw [h]; decide
  have e_byte : (x == ([46, 98, 121, 116, 101] : List UInt8)) = false := by rw [h]; decide
  have e_word : (x == ([46, 119, 111, 114, 100] : List UInt8)) = false := by rw [h]; decide
  have e_text : (x == ([46, 116, 101, 120, 116] : List UInt8)) = true := by rw [h]; decide
  clear h
  by_cases c2 : l.length = 2
  · have d2 : ((l.length : Int) != 2) = false := by simp; omega
    obtain ⟨y, hy, hyd⟩ : ∃ y, l[1]? = some y ∧ l.getD 1 [] = y := ⟨_, List.getElem?_eq_getElem (by omega), by simp [List.getD, List.getElem?_eq_getElem (show 1 < l.length by omega)]⟩
    have i1 : (1 : Int) < (l.length : Int) := by omega
    have y1 : w.cell? ⟨blk, off + 1, none⟩ = some (.string ⟨y.toArray⟩) := by
      obtain ⟨b2, o2, he, -, hc⟩ := wd_at HL.out.inn hy
      cases he
      exact hc
    have hyl := (HL.out.each y (List.mem_of_getElem? hy)).2
    have zy := ba_size y
    have HR2 := Lib.hid (show capD (a + (y.length : Int)) = RR by have := HR.out; rw [if_neg (by omega), hyd] at this; exact this)
    have hw1 : IntKind.i64.wrap (a + (y.length : Int)) = a + (y.length : Int) := IntWalk.i64_in _ ⟨by omega, by omega⟩
    clear HR hy hyd
    by_cases cc : 4096 < a + (y.length : Int)
    · obtain rfl : RR = .error 311 := by rw [← HR2.out, capD_hi cc]
      clear HR2
      go_enter Tryz.func15, Tryz.ntmps15
      go_wp2_with fail
      refine bodyPost_ret (v := stepV a (.error 311)) (by simp [results, Tryz.results15, go_sem, stepV]) rfl ⟨rfl, Below.refl _ _⟩
    · obtain rfl : RR = .ok (a + (y.length : Int)) := by rw [← HR2.out, capD_lo cc]
      clear HR2
      go_enter Tryz.func15, Tryz.ntmps15
      go_wp2_with fail
      refine bodyPost_ret (v := stepV a (.ok (a + (y.length : Int)))) (by simp [results, Tryz.results15, go_sem, stepV]) rfl ⟨rfl, Below.refl _ _⟩
  · have d2 : ((l.length : Int) != 2) = true := by simp; omega
    obtain rfl : RR = .error 312 := by rw [← HR.out, if_pos c2]
    clear HR
    go_enter Tryz.func15, Tryz.ntmps15
    go_wp2_with fail
    refine bodyPost_ret (v := stepV a (.error 312)) (by simp [results, Tryz.results15, go_sem, stepV]) rfl ⟨rfl, Below.refl _ _⟩
set_option maxHeartbeats 4000000 in
theorem stepR_op (ao : Option Addr) (cap : Nat) (l : List Wd) (a : Int) (w : World) (hl : LnOk w ao l cap) (hne : l ≠ []) (hln : l.length ≤ 10000) (a0 : 0 ≤ a) (a1 : a ≤ 4096) (h : dirW (l.headD []) = false) (h4 : l.headD [] ≠ wByte) (h5 : l.headD [] ≠ wWord) (h6 : l.headD [] ≠ wText) :
    Calls Tryz.prog 15 #[.slice ao l.length cap, .int .i64 a] w fun e w' => e = .returned (stepV a (stepD l a)) ∧ Below w.heap.size w w' := by
  obtain ⟨x, hx0, hxh⟩ : ∃ x, l[0]? = some x ∧ l.headD [] = x := by
    cases l with
    | nil => exact absurd rfl hne
    | cons y r => exact ⟨y, rfl, rfl⟩
  obtain ⟨blk, off, rfl, hblk, y0⟩ := wd_at hl.inn hx0
  rw [Nat.add_zero] at y0
  have hle := hl.le
  have hcap := hl.cap
  have hin := hl.inn
  have hl0 : 0 < l.length := (List.getElem?_eq_some_iff.1 hx0).1
  have i0 : (0 : Int) < (l.length : Int) := by omega
  obtain ⟨RR, hRR⟩ : ∃ RR, stepD l a = RR := ⟨_, rfl⟩
  rw [hRR]
  rw [stepD_op h h4 h5 h6] at hRR
  rw [hxh] at hRR h h4 h5 h6
  have HR := Lib.hid hRR
  have HL := Lib.hid hl
  have hxm := List.mem_of_getElem? hx0
  clear hRR hx0 hxh hl hin
  unfold dirW at h
  simp only [Bool.or_eq_false_iff, decide_eq_false_iff_not] at h
  obtain ⟨h1, h2, h3⟩ := h
  have e_org : (x == ([46, 111, 114, 103] : List UInt8)) = false := beq_eq_false_iff_ne.2 h1
  have e_space : (x == ([46, 115, 112, 97, 99, 101] : List UInt8)) = false := beq_eq_false_iff_ne.2 h2
  have e_align : (x == ([46, 97, 108, 105, 103, 110] : List UInt8)) = false := beq_eq_false_iff_ne.2 h3
  have e_byte : (x == ([46, 98, 121, 116, 101] : List UInt8)) = false := beq_eq_false_iff_ne.2 h4
  have e_word : (x == ([46, 119, 111, 114, 100] : List UInt8)) = false := beq_eq_false_iff_ne.2 h5
  have e_text : (x == ([46, 116, 101, 120, 116] : List UInt8)) = false := beq_eq_false_iff_ne.2 h6
  clear h1 h2 h3 h4 h5 h6
  have HO := Lib.hid (operation_c x (by have := (HL.out.each x hxm).2; omega))
  have HF := Lib.hid fun (op : Int) (h0 : 0 ≤ op) (h1 : op < 256) (w : World) => Isa.refOf_c op false w h0 h1
  have hfd := form_size
  go_enter Tryz.func15, Tryz.ntmps15
  go_wp2_with fail
  refine (HO.out w).mono ?_
  rintro e w1 ⟨rfl, hb1⟩
  cases ho : opF x with
  | none =>
    obtain rfl : RR = .error 40 := by rw [← HR.out, ho]
    rw [show (none : Option Int).getD (-1) = -1 from rfl]
    clear HR ho
    go_wp2_with fail
    refine bodyPost_ret (v := stepV a (.error 40)) (by simp [results, Tryz.results15, go_sem, stepV]) rfl ⟨rfl, hb1⟩
  | some op =>
    obtain ⟨n, hn, hnw, rfl, -⟩ := opF_is ho
    obtain ⟨-, q2, q3⟩ := nmW_of hn
    have HR1 := HR.out
    rw [ho] at HR1
    simp only at HR1
    have HR1 := Lib.hid HR1
    rw [show (some n.op : Option Int).getD (-1) = n.op from rfl]
    have hof := HF.out n.op q2 q3
    have hwo : IntKind.u8.wrap n.op = n.op := IntWalk.u8_in _ (by omega)
    have hf0 := fm_pos n.op
    have hf1 := fmn6 n.op
    clear HR ho hn hnw
    generalize n.op = op at *
    obtain ⟨f, hf⟩ : ∃ f, Isa.fm op false = f := ⟨_, rfl⟩
    rw [hf] at hof HR1 hf0 hf1
    clear hf
    unfold Isa.Fm.rval at hof
    have HOF := Lib.hid hof
    clear hof
    have nq : ¬ op < 0 := by omega
    have hwr : IntKind.i64.wrap (a + f.n) = a + f.n := IntWalk.i64_in _ ⟨by omega, by omega⟩
    have HR2 := HR1
    clear HR1
    go_wp2_with fail
    refine (HOF.out _).mono ?_
    rintro e w2 ⟨rfl, hb2⟩
    have hb3 := hb1.trans (hb2.mono hb1.size)
    by_cases cc : 4096 < a + f.n
    · obtain rfl : RR = .error 311 := by rw [← HR2.out, capD_hi cc]
      clear HR2
      go_wp2_with fail
      refine bodyPost_ret (v := stepV a (.error 311)) (by simp [results, Tryz.results15, go_sem, stepV]) rfl ⟨rfl, hb3⟩
    · obtain rfl : RR = .ok (a + f.n) := by rw [← HR2.out, capD_lo cc]
      clear HR2
      go_wp2_with fail
      refine bodyPost_ret (v := stepV a (.ok (a + f.n))) (by simp [results, Tryz.results15, go_sem, stepV]) rfl ⟨rfl, hb3⟩
theorem stepR_c (ao : Option Addr) (cap : Nat) (l : List Wd) (a : Int) (w : World) (hl : LnOk w ao l cap) (hne : l ≠ []) (hln : l.length ≤ 10000) (a0 : 0 ≤ a) (a1 : a ≤ 4096) :
    Calls Tryz.prog 15 #[.slice ao l.length cap, .int .i64 a] w fun e w' => e = .returned (stepV a (stepD l a)) ∧ Below w.heap.size w w' := by
  by_cases h1 : l.headD [] = wOrg
  · exact stepR_org ao cap l a w hl hne hln a0 a1 h1
  by_cases h2 : l.headD [] = wSpace
  · exact stepR_space ao cap l a w hl hne hln a0 a1 h2
  by_cases h3 : l.headD [] = wAlign
  · exact stepR_align ao cap l a w hl hne hln a0 a1 h3
  by_cases h4 : l.headD [] = wByte
  · exact stepR_byte ao cap l a w hl hne hln a0 a1 h4
  by_cases h5 : l.headD [] = wWord
  · exact stepR_word ao cap l a w hl hne hln a0 a1 h5
  by_cases h6 : l.headD [] = wText
  · exact stepR_text ao cap l a w hl hne hln a0 a1 h6
  exact stepR_op ao cap l a w hl hne hln a0 a1 (by unfold dirW; rw [decide_eq_false h1, decide_eq_false h2, decide_eq_false h3]; rfl) h4 h5 h6
end Go.Proofs.YtgfljokamgbcaaaGreatDoor
namespace Go.Proofs.YtgfljokamgbcaaaGreatDoor
open Go.RowKit
set_option linter.unusedSimpArgs false
set_option linter.unusedVariables false
set_option maxRecDepth 100000

theorem Tryz.infoSlS : (Tryz.prog.info? 49).map (fun i => (i.zero, i.size, i.bytes)) = some (some (Value.slice none 0 0), 1, 24) := by kernel_rfl
/-- Lines, each in a row of its own. -/
def LsIn (w : World) (B : Nat) (xs : List Value) (ls : List (List Wd)) : Prop := xs.length = ls.length ∧ ∀ (j : Nat) (ws : List Wd), ls[j]? = some ws → ∃ (ao : Option Addr) (cap : Nat), xs[j]? = some (Value.slice ao ws.length cap) ∧ LnOk w ao ws cap ∧ ∀ blk off, ao = some ⟨blk, off, none⟩ → blk < B
def LinesP (ls : List (List Wd)) (w : World) (e : Ending) (w' : World) : Prop := Below w.heap.size w w' ∧ ∃ v xs, e = .returned v ∧ w'.ownsRow w.heap.size 49 1 v ls.length xs ∧ LsIn w' w'.heap.size xs ls
theorem LnOk.keep {w w' : World} {ao : Option Addr} {ws : List Wd} {cap : Nat} (h : LnOk w ao ws cap) (hk : ∀ (blk off : Nat) (cur : Array Value), ao = some ⟨blk, off, none⟩ → w.heap[blk]? = some (Obj.cells cur 9 (0, 0)) → w'.heap[blk]? = w.heap[blk]?) : LnOk w' ao ws cap := by
  have hk2 : ∀ blk off, ao = some ⟨blk, off, none⟩ → w'.heap[blk]? = w.heap[blk]? := fun blk off e => by
    obtain ⟨cur, hc⟩ := h.ty blk off e
    exact hk blk off cur e hc
  refine ⟨?_, h.le, h.cap, h.each, fun blk off e => by obtain ⟨cur, hc⟩ := h.ty blk off e; exact ⟨cur, (hk2 blk off e).trans hc⟩⟩
  rcases h.inn with h' | ⟨blk, off, h1, h2⟩
  · exact .inl h'
  · exact .inr ⟨blk, off, h1, fun i s hs => (World.cell?_of_block (a := ⟨blk, off + i, none⟩) (hk2 blk off h1)).trans (h2 i s hs)⟩
theorem LsIn.keep {w w' : World} {B B' : Nat} {xs : List Value} {ls : List (List Wd)} (h : LsIn w B xs ls) (hB : B ≤ B') (hk : ∀ (blk : Nat) (cur : Array Value), blk < B → w.heap[blk]? = some (Obj.cells cur 9 (0, 0)) → w'.heap[blk]? = w.heap[blk]?) : LsIn w' B' xs ls := by
  refine ⟨h.1, fun j ws hj => ?_⟩
  obtain ⟨ao, cap, h1, h2, h3⟩ := h.2 j ws hj
  exact ⟨ao, cap, h1, h2.keep (fun blk off cur e hc => hk blk cur (h3 blk off e) hc), fun blk off e => Nat.lt_of_lt_of_le (h3 blk off e) hB⟩
theorem own_ln {w : World} {B : Nat} {v : Value} {ws : List Wd} (h : w.ownsRow B 9 1 v ws.length (ws.map strE)) (he : ∀ s ∈ ws, s ≠ [] ∧ s.length ≤ 10000) : ∃ (ao : Option Addr) (cap : Nat), v = .slice ao ws.length cap ∧ LnOk w ao ws cap ∧ ∀ blk off, ao = some ⟨blk, off, none⟩ → blk < w.heap.size := by
  have hc := h
  obtain ⟨h1, ⟨rfl, h2⟩ | ⟨g, cap, cur, rfl, h3, h4, h5⟩⟩ := h
  · have hw : ws = [] := List.eq_nil_of_length_eq_zero h2
    subst hw
    exact ⟨none, 0, rfl, ⟨.inl rfl, by simp, by decide, he, fun blk off e => by cases e⟩, fun blk off e => by cases e⟩
  · refine ⟨_, cap, rfl, ⟨.inr ⟨g, 0, rfl, fun i s hs => ?_⟩, h5.1, by have := h5.2.1; unfold maxLen at this; omega, he, fun blk off e => by cases e; exact ⟨cur, h4⟩⟩, fun blk off e => by cases e; exact heap_ltA h4⟩
    rw [Nat.zero_add]
    exact (hc.cellAt (j := i) (by simpa using (List.getElem?_eq_some_iff.1 hs).1)).trans (show (ws.map strE)[i]? = some (strE s) by rw [List.getElem?_map, hs]; rfl)
/-- A row that another row's growing leaves as it is. -/
theorem own_other {w w' : World} {o : Obj} {base base2 e e2 s s2 n n2 : Nat} {v v2 : Value} {xs xs2 : List Value} (h : w.ownsRow base e s v n xs) (hr : w.ownsRow base2 e2 s2 v2 n2 xs2) (he : e ≠ e2) (hg : (w.alloc o).grownBy w' v2.ownBlock) : w'.ownsRow base e s v n xs :=
  own_keepA h (fun g cur hgc => (hg.block g (by have := heap_ltA hgc; simp; omega) (row_ne_own hgc he hr)).trans ((heap_oldT hgc).trans hgc.symm))
/-- The lines behind a word's append. -/
theorem LsIn.word {w w' : World} {o : Obj} {B s n : Nat} {v : Value} {xs ys : List Value} {ls : List (List Wd)} (h : LsIn w B xs ls) (hr : w.ownsRow B 9 s v n ys) (hg : (w.alloc o).grownBy w' v.ownBlock) : LsIn w' B xs ls :=
  h.keep (Nat.le_refl _) (fun blk cur hb hc => (hg.block blk (by have := heap_ltA hc; simp; omega) (by
    rcases hr.2 with ⟨rfl, _⟩ | ⟨g, cap, cur2, rfl, h2, _⟩
    · simp [Value.ownBlock]
    · intro e'
      obtain rfl : blk = g := by simpa [Value.ownBlock] using e'
      omega)).trans ((heap_oldT hc).trans hc.symm))
/-- .. and behind a line's. -/
theorem LsIn.line {w w' : World} {o : Obj} {base B s n : Nat} {v u : Value} {xs ys : List Value} {ls : List (List Wd)} {ws : List Wd} (h : LsIn w B xs ls) (hB : B ≤ w.heap.size) (hr : w.ownsRow base 49 s v n ys) (hg : (w.alloc o).grownBy w' v.ownBlock)
    (hw : w.ownsRow B 9 1 u ws.length (ws.map strE)) (he : ∀ s ∈ ws, s ≠ [] ∧ s.length ≤ 10000) : LsIn w' w'.heap.size (xs ++ [u]) (ls ++ [ws]) := by
  have hsz : w.heap.size ≤ w'.heap.size := by have := hg.size; simp at this; omega
  have hk : ∀ (blk : Nat) (cur : Array Value), w.heap[blk]? = some (Obj.cells cur 9 (0, 0)) → w'.heap[blk]? = w.heap[blk]? := fun blk cur hc =>
    (hg.block blk (by have := heap_ltA hc; simp; omega) (row_ne_own (t := 9) hc (show (9 : TypeId) ≠ 49 by decide) hr)).trans ((heap_oldT hc).trans hc.symm)
  refine ⟨by simp [h.1], fun j vs hj => ?_⟩
  rcases Nat.lt_or_ge j ls.length with hlt | hge
  · rw [List.getElem?_append_left hlt] at hj
    obtain ⟨ao, cap, h1, h2, h3⟩ := h.2 j vs hj
    exact ⟨ao, cap, by rw [List.getElem?_append_left (by rw [h.1]; exact hlt)]; exact h1, h2.keep (fun blk off cur e hc => hk blk cur hc), fun blk off e => by have := h3 blk off e; omega⟩
  · rw [List.getElem?_append_right hge] at hj
    have hj0 : j - ls.length = 0 := by
      have := (List.getElem?_eq_some_iff.1 hj).1
      simp at this
      omega
    rw [hj0] at hj
    obtain rfl : ws = vs := by simpa using hj
    obtain ⟨ao, cap, rfl, h2, h3⟩ := own_ln hw he
    exact ⟨ao, cap, by rw [List.getElem?_append_right (by rw [h.1]; exact hge), h.1, hj0]; rfl, h2.keep (fun blk off cur e hc => hk blk cur hc), fun blk off e => by have := h3 blk off e; omega⟩
theorem each_cl {ws : List Wd} {w : Wd} (h : ∀ s ∈ ws, s ≠ [] ∧ s.length ≤ 10000) (hw : w.length ≤ 10000) (hne : w ≠ []) : ∀ s ∈ ws ++ [w], s ≠ [] ∧ s.length ≤ 10000 := fun s hs => by
  rcases List.mem_append.1 hs with hs | hs
  · exact h s hs
  · have : s = w := by simpa using hs
    rw [this]
    exact ⟨hne, hw⟩
theorem goD_at {off any : Bool} {ws : List Wd} {w : Wd} {L : List UInt8} {k : Nat} {c : UInt8} (h : L[k]? = some c) : goD off any ws w (L.drop k) = if c = 10 then (ws ++ clW w) :: goD false false [] [] (L.drop (k + 1)) else
    if off = true ∨ c = 59 then goD true true (ws ++ clW w) [] (L.drop (k + 1)) else
      if c = 32 ∨ c = 9 then goD false true (ws ++ clW w) [] (L.drop (k + 1)) else goD false true ws (w ++ [c]) (L.drop (k + 1)) := by
  obtain ⟨hlt, h2⟩ := List.getElem?_eq_some_iff.1 h
  rw [List.drop_eq_getElem_cons hlt, h2, goD]
theorem own_nextB {W w w1 : World} {o : Obj} {b0 base n size : Nat} {v : Value} {xs : List Value} {e : TypeId} (hB : Below b0 W w) (hs : b0 ≤ w.heap.size) (hown : w.ownsRow base e size v n xs) (hg : (w.alloc o).grownBy w1 v.ownBlock) (hb : b0 ≤ base := by omega) : Below b0 W w1 ∧ w.heap.size ≤ w1.heap.size :=
  ⟨((hB.alloc hs o).grown hg (by simp; omega) (fun k hk => Nat.le_trans hb (hown.lt k hk).1)), by have := hg.size; simp at this; omega⟩

set_option maxHeartbeats 16000000 in
theorem linesR_c (L : List UInt8) (hL : L.length ≤ 9000) (w : World) : Calls Tryz.prog 12 #[.string ⟨L.toArray⟩] w (LinesP (linesD L) w) := by
  obtain ⟨i0, hi, hz0, hz1, hz2⟩ := info_parts Tryz.infoStrT
  obtain ⟨j0, hj, hy0, hy1, hy2⟩ := info_parts Tryz.infoSlS
  have sz := ba_size L
  have eK := Lib.hid fun (k : Nat) (x : UInt8) (h : L[k]? = some x) => ba_get L k x h
  have eX := Lib.hid fun (k : Nat) (x : UInt8) (h : L[k]? = some x) => ba_char L k x h
  generalize hs : (⟨L.toArray⟩ : ByteArray) = s at sz eK eX ⊢
  clear hs
  obtain ⟨PP, hPP⟩ : ∃ x, x = LinesP (linesD L) w := ⟨_, rfl⟩
  rw [← hPP]
  have HP := Lib.hid hPP
  have HG := Lib.hid (goD_lines L)
  clear hPP
  go_enter Tryz.func12, Tryz.ntmps12
  go_wp2_with fail
  go_loopg [3, 4, 5, 6, 7, 8] L.length (fun gk v3 v4 v5 v6 v7 v8 wr => ∃ (k : Nat) (off any : Bool) (done : List (List Wd)) (xs : List Value) (ws : List Wd) (wd : Wd) (B : Nat), gk + k = L.length ∧ v8 = .int .i64 (k : Int) ∧ v7 = .bool any ∧ v6 = .bool off ∧ v5 = .string ⟨wd.toArray⟩ ∧ done.length ≤ k ∧ ws.length ≤ k ∧ wd.length ≤ k ∧
    Hid (done ++ goD off any ws wd (L.drop k) = linesD L) ∧ Hid (∀ s ∈ ws, s ≠ [] ∧ s.length ≤ 10000) ∧ Hid (wr.ownsRow w.heap.size 49 1 v3 done.length xs) ∧ Hid (LsIn wr B xs done) ∧ Hid (wr.ownsRow B 9 1 v4 ws.length (ws.map strE)) ∧ Hid (Below w.heap.size w wr) ∧ w.heap.size ≤ B ∧ B ≤ wr.heap.size)
  case atStart => exact ⟨0, false, false, [], [], [], [], w.heap.size, by omega, rfl, rfl, rfl, rfl, Nat.le_refl _, Nat.le_refl _, Nat.le_refl _, Lib.hid (by rw [List.drop_zero, List.nil_append, HG.out]), Lib.hid (fun s hs => by cases hs), Lib.hid ⟨rfl, .inl ⟨rfl, rfl⟩⟩, Lib.hid ⟨rfl, fun j ws hj => by cases hj⟩, Lib.hid ⟨rfl, .inl ⟨rfl, rfl⟩⟩, Lib.hid (Below.refl _ _), Nat.le_refl _, Nat.le_refl _⟩
  case round =>
    obtain ⟨k, off, any, done, xs, ws, wd, B, hk, rfl, rfl, rfl, rfl, hdl, hwl, hcl, HI, HE, HO, HS, HW, HB, hB0, hB1⟩ := hrel
    have zc := ba_size wd
    obtain ⟨al, cl, rfl⟩ := own_sliceA HO.out
    obtain ⟨aw, cw, rfl⟩ := own_sliceA HW.out
    have hsr : w.heap.size ≤ wr.heap.size := by omega
    by_cases c1 : k < L.length
    · obtain ⟨c, hc⟩ : ∃ c, L[k]? = some c := ⟨_, List.getElem?_eq_getElem c1⟩
      have i1 : (k : Int) < (L.length : Int) := by omega
      have ec := eK.out k c hc
      have hst := HI.out
      rw [goD_at hc] at hst
      have HC := Lib.hid hc
      clear hc
      by_cases c2 : c = 10
      · have f10 : ((c.toNat : Int) == 10) = true := by rw [c2]; rfl
        by_cases cw0 : wd = []
        · subst cw0
          have HI2 := Lib.hid (show (done ++ [ws]) ++ goD false false [] [] (L.drop (k + 1)) = linesD L by rw [← hst, if_pos c2, clW_nil]; simp)
          clear hst c2 HI
          go_wp2_with (at_builtin; refine wpList_append_own _ rfl _ _ 53 rfl w.heap.size 49 j0 _ 1 24 Tryz.underlying53 hj hy0 hy1 hy2 rfl (by decide) _ _ _ rfl (HO.out.alloc _) _ 1 1 [_] rfl rfl (cell_one_new _ _ _) (by simp [Value.oneCell']) (by unfold maxLen; omega) (by omega) (by first | (simp; done) | (simp; omega)) ?_; intro v5 w5 own5 gr5 _; have HS5 := Lib.hid (HS.out.line hB1 HO.out gr5 HW.out HE.out); obtain ⟨hB5, hs5⟩ := own_nextB HB.out (by omega) HO.out gr5; have HO5 := Lib.hid own5; have HB5 := Lib.hid hB5; clear own5 gr5 hB5)
          go_roundg (gk - 1)
          case measure => omega
          case rel => exact ⟨k + 1, false, false, done ++ [ws], _, [], [], w5.heap.size, by omega, by go_num, rfl, rfl, rfl, by first | omega | (simp; omega) | simp, by first | omega | (simp; omega) | simp, by first | omega | (simp; omega) | simp, Lib.hid (HI2.out), Lib.hid (fun s hs => by cases hs), Lib.hid (by simpa using HO5.out), HS5, Lib.hid ⟨rfl, .inl ⟨rfl, rfl⟩⟩, HB5, by omega, Nat.le_refl _⟩
        · have en : (wd == []) = false := by simpa using cw0
          have HI2 := Lib.hid (show (done ++ [ws ++ [wd]]) ++ goD false false [] [] (L.drop (k + 1)) = linesD L by rw [← hst, if_pos c2, clW, if_neg cw0]; simp)
          have HE4 := Lib.hid (each_cl HE.out (show wd.length ≤ 10000 by omega) cw0)
          clear hst c2 HI cw0
          go_wp2_with (first | (at_builtin; refine wpList_append_own _ rfl _ _ 49 rfl B 9 i0 _ 1 16 Tryz.underlying49 hi hz0 hz1 hz2 rfl (by decide) _ _ _ rfl (HW.out.alloc _) _ 1 1 [strE wd] rfl rfl (cell_one_new _ _ _) (by simp [Value.oneCell', strE]) (by unfold maxLen; omega) (by omega) (by first | (simp; done) | (simp; omega)) ?_; intro v4 w4 own4 gr4 _; obtain ⟨aw4, cw4, rfl⟩ := own_sliceA own4; have HO4 := Lib.hid (own_other HO.out HW.out (by decide) gr4); have HS4 := Lib.hid (HS.out.word HW.out gr4); obtain ⟨hB4, hs4⟩ := own_nextB HB.out hsr (own_lowR hB0 HW.out) gr4; have HW4 := Lib.hid (show w4.ownsRow B 9 1 (.slice aw4 (ws.length + 1) cw4) (ws ++ [wd]).length ((ws ++ [wd]).map strE) by simpa using own4); have HB4 := Lib.hid hB4; have hb4 : B ≤ w4.heap.size := Nat.le_trans hB1 hs4; clear own4 gr4 hB4) | (at_builtin; refine wpList_append_own _ rfl _ _ 53 rfl w.heap.size 49 j0 _ 1 24 Tryz.underlying53 hj hy0 hy1 hy2 rfl (by decide) _ _ _ rfl (HO4.out.alloc _) _ 1 1 [_] rfl rfl (cell_one_new _ _ _) (by simp [Value.oneCell']) (by unfold maxLen; omega) (by omega) (by first | (simp; done) | (simp; omega)) ?_; intro v5 w5 own5 gr5 _; have HS5 := Lib.hid (HS4.out.line hb4 HO4.out gr5 HW4.out HE4.out); obtain ⟨hB5, hs5⟩ := own_nextB HB4.out (by omega) HO4.out gr5; have HO5 := Lib.hid own5; have HB5 := Lib.hid hB5; clear own5 gr5 hB5))
          go_roundg (gk - 1)
          case measure => omega
          case rel => exact ⟨k + 1, false, false, done ++ [ws ++ [wd]], _, [], [], w5.heap.size, by omega, by go_num, rfl, rfl, rfl, by first | omega | (simp; omega) | simp, by first | omega | (simp; omega) | simp, by first | omega | (simp; omega) | simp, Lib.hid (HI2.out), Lib.hid (fun s hs => by cases hs), Lib.hid (by simpa using HO5.out), HS5, Lib.hid ⟨rfl, .inl ⟨rfl, rfl⟩⟩, HB5, by omega, Nat.le_refl _⟩
      · have f10 : ((c.toNat : Int) == 10) = false := by
          simp only [beq_eq_false_iff_ne, ne_eq]
          intro hh
          exact c2 (UInt8.toNat_inj.1 (by simp; omega))
        by_cases c3 : c = 59
        · have f59 : ((c.toNat : Int) == 59) = true := by rw [c3]; rfl
          have co := c3
          clear c3
          by_cases cw0 : wd = []
          · subst cw0
            have HI2 := Lib.hid (show done ++ goD true true ws [] (L.drop (k + 1)) = linesD L by rw [← hst, if_neg c2, if_pos (.inr co), clW_nil, List.append_nil])
            clear hst c2 HI
            go_wp2_with fail
            go_roundg (gk - 1)
            case measure => omega
            case rel => exact ⟨k + 1, true, true, done, xs, ws, [], B, by omega, by go_num, rfl, rfl, rfl, by first | omega | (simp; omega) | simp, by first | omega | (simp; omega) | simp, by first | omega | (simp; omega) | simp, Lib.hid (HI2.out), HE, HO, HS, HW, HB, hB0, hB1⟩
          · have en : (wd == []) = false := by simpa using cw0
            have HI2 := Lib.hid (show done ++ goD true true (ws ++ [wd]) [] (L.drop (k + 1)) = linesD L by rw [← hst, if_neg c2, if_pos (.inr co), clW, if_neg cw0])
            have HE4 := Lib.hid (each_cl HE.out (show wd.length ≤ 10000 by omega) cw0)
            clear hst c2 HI cw0
            go_wp2_with (first | (at_builtin; refine wpList_append_own _ rfl _ _ 49 rfl B 9 i0 _ 1 16 Tryz.underlying49 hi hz0 hz1 hz2 rfl (by decide) _ _ _ rfl (HW.out.alloc _) _ 1 1 [strE wd] rfl rfl (cell_one_new _ _ _) (by simp [Value.oneCell', strE]) (by unfold maxLen; omega) (by omega) (by first | (simp; done) | (simp; omega)) ?_; intro v4 w4 own4 gr4 _; obtain ⟨aw4, cw4, rfl⟩ := own_sliceA own4; have HO4 := Lib.hid (own_other HO.out HW.out (by decide) gr4); have HS4 := Lib.hid (HS.out.word HW.out gr4); obtain ⟨hB4, hs4⟩ := own_nextB HB.out hsr (own_lowR hB0 HW.out) gr4; have HW4 := Lib.hid (show w4.ownsRow B 9 1 (.slice aw4 (ws.length + 1) cw4) (ws ++ [wd]).length ((ws ++ [wd]).map strE) by simpa using own4); have HB4 := Lib.hid hB4; have hb4 : B ≤ w4.heap.size := Nat.le_trans hB1 hs4; clear own4 gr4 hB4))
            go_roundg (gk - 1)
            case measure => omega
            case rel => exact ⟨k + 1, true, true, done, xs, ws ++ [wd], [], B, by omega, by go_num, rfl, rfl, rfl, by first | omega | (simp; omega) | simp, by first | omega | (simp; omega) | simp, by first | omega | (simp; omega) | simp, Lib.hid (HI2.out), HE4, HO4, HS4, (by simpa using HW4), HB4, hB0, hb4⟩
        · have f59 : ((c.toNat : Int) == 59) = false := by
            simp only [beq_eq_false_iff_ne, ne_eq]
            intro hh
            exact c3 (UInt8.toNat_inj.1 (by simp; omega))
          cases off
          · by_cases c4 : c = 32
            · have f32 : ((c.toNat : Int) == 32) = true := by rw [c4]; rfl
              by_cases cw0 : wd = []
              · subst cw0
                have HI2 := Lib.hid (show done ++ goD false true ws [] (L.drop (k + 1)) = linesD L by rw [← hst, if_neg c2, if_neg (fun h => h.elim Bool.false_ne_true c3), if_pos (.inl c4), clW_nil, List.append_nil])
                clear hst c2 HI
                go_wp2_with fail
                go_roundg (gk - 1)
                case measure => omega
                case rel => exact ⟨k + 1, false, true, done, xs, ws, [], B, by omega, by go_num, rfl, rfl, rfl, by first | omega | (simp; omega) | simp, by first | omega | (simp; omega) | simp, by first | omega | (simp; omega) | simp, Lib.hid (HI2.out), HE, HO, HS, HW, HB, hB0, hB1⟩
              · have en : (wd == []) = false := by simpa using cw0
                have HI2 := Lib.hid (show done ++ goD false true (ws ++ [wd]) [] (L.drop (k + 1)) = linesD L by rw [← hst, if_neg c2, if_neg (fun h => h.elim Bool.false_ne_true c3), if_pos (.inl c4), clW, if_neg cw0])
                have HE4 := Lib.hid (each_cl HE.out (show wd.length ≤ 10000 by omega) cw0)
                clear hst c2 HI cw0
                go_wp2_with (first | (at_builtin; refine wpList_append_own _ rfl _ _ 49 rfl B 9 i0 _ 1 16 Tryz.underlying49 hi hz0 hz1 hz2 rfl (by decide) _ _ _ rfl (HW.out.alloc _) _ 1 1 [strE wd] rfl rfl (cell_one_new _ _ _) (by simp [Value.oneCell', strE]) (by unfold maxLen; omega) (by omega) (by first | (simp; done) | (simp; omega)) ?_; intro v4 w4 own4 gr4 _; obtain ⟨aw4, cw4, rfl⟩ := own_sliceA own4; have HO4 := Lib.hid (own_other HO.out HW.out (by decide) gr4); have HS4 := Lib.hid (HS.out.word HW.out gr4); obtain ⟨hB4, hs4⟩ := own_nextB HB.out hsr (own_lowR hB0 HW.out) gr4; have HW4 := Lib.hid (show w4.ownsRow B 9 1 (.slice aw4 (ws.length + 1) cw4) (ws ++ [wd]).length ((ws ++ [wd]).map strE) by simpa using own4); have HB4 := Lib.hid hB4; have hb4 : B ≤ w4.heap.size := Nat.le_trans hB1 hs4; clear own4 gr4 hB4))
                go_roundg (gk - 1)
                case measure => omega
                case rel => exact ⟨k + 1, false, true, done, xs, ws ++ [wd], [], B, by omega, by go_num, rfl, rfl, rfl, by first | omega | (simp; omega) | simp, by first | omega | (simp; omega) | simp, by first | omega | (simp; omega) | simp, Lib.hid (HI2.out), HE4, HO4, HS4, (by simpa using HW4), HB4, hB0, hb4⟩
            · have f32 : ((c.toNat : Int) == 32) = false := by
                simp only [beq_eq_false_iff_ne, ne_eq]
                intro hh
                exact c4 (UInt8.toNat_inj.1 (by simp; omega))
              by_cases c5 : c = 9
              · have f9 : ((c.toNat : Int) == 9) = true := by rw [c5]; rfl
                by_cases cw0 : wd = []
                · subst cw0
                  have HI2 := Lib.hid (show done ++ goD false true ws [] (L.drop (k + 1)) = linesD L by rw [← hst, if_neg c2, if_neg (fun h => h.elim Bool.false_ne_true c3), if_pos (.inr c5), clW_nil, List.append_nil])
                  clear hst c2 HI
                  go_wp2_with fail
                  go_roundg (gk - 1)
                  case measure => omega
                  case rel => exact ⟨k + 1, false, true, done, xs, ws, [], B, by omega, by go_num, rfl, rfl, rfl, by first | omega | (simp; omega) | simp, by first | omega | (simp; omega) | simp, by first | omega | (simp; omega) | simp, Lib.hid (HI2.out), HE, HO, HS, HW, HB, hB0, hB1⟩
                · have en : (wd == []) = false := by simpa using cw0
                  have HI2 := Lib.hid (show done ++ goD false true (ws ++ [wd]) [] (L.drop (k + 1)) = linesD L by rw [← hst, if_neg c2, if_neg (fun h => h.elim Bool.false_ne_true c3), if_pos (.inr c5), clW, if_neg cw0])
                  have HE4 := Lib.hid (each_cl HE.out (show wd.length ≤ 10000 by omega) cw0)
                  clear hst c2 HI cw0
                  go_wp2_with (first | (at_builtin; refine wpList_append_own _ rfl _ _ 49 rfl B 9 i0 _ 1 16 Tryz.underlying49 hi hz0 hz1 hz2 rfl (by decide) _ _ _ rfl (HW.out.alloc _) _ 1 1 [strE wd] rfl rfl (cell_one_new _ _ _) (by simp [Value.oneCell', strE]) (by unfold maxLen; omega) (by omega) (by first | (simp; done) | (simp; omega)) ?_; intro v4 w4 own4 gr4 _; obtain ⟨aw4, cw4, rfl⟩ := own_sliceA own4; have HO4 := Lib.hid (own_other HO.out HW.out (by decide) gr4); have HS4 := Lib.hid (HS.out.word HW.out gr4); obtain ⟨hB4, hs4⟩ := own_nextB HB.out hsr (own_lowR hB0 HW.out) gr4; have HW4 := Lib.hid (show w4.ownsRow B 9 1 (.slice aw4 (ws.length + 1) cw4) (ws ++ [wd]).length ((ws ++ [wd]).map strE) by simpa using own4); have HB4 := Lib.hid hB4; have hb4 : B ≤ w4.heap.size := Nat.le_trans hB1 hs4; clear own4 gr4 hB4))
                  go_roundg (gk - 1)
                  case measure => omega
                  case rel => exact ⟨k + 1, false, true, done, xs, ws ++ [wd], [], B, by omega, by go_num, rfl, rfl, rfl, by first | omega | (simp; omega) | simp, by first | omega | (simp; omega) | simp, by first | omega | (simp; omega) | simp, Lib.hid (HI2.out), HE4, HO4, HS4, (by simpa using HW4), HB4, hB0, hb4⟩
              · have f9 : ((c.toNat : Int) == 9) = false := by
                  simp only [beq_eq_false_iff_ne, ne_eq]
                  intro hh
                  exact c5 (UInt8.toNat_inj.1 (by simp; omega))
                have HI2 := Lib.hid (show done ++ goD false true ws (wd ++ [c]) (L.drop (k + 1)) = linesD L by rw [← hst, if_neg c2, if_neg (fun h => h.elim Bool.false_ne_true c3), if_neg (fun h => h.elim c4 c5)])
                have ex := eX.out k c HC.out
                clear hst c2 c3 c4 c5 HI
                go_wp2_with fail
                go_roundg (gk - 1)
                case measure => omega
                case rel => exact ⟨k + 1, false, true, done, xs, ws, wd ++ [c], B, by omega, by go_num, rfl, rfl, by rw [← ba_app, ← ex], by first | omega | (simp; omega) | simp, by first | omega | (simp; omega) | simp, by first | omega | (simp; omega) | simp, Lib.hid (HI2.out), HE, HO, HS, HW, HB, hB0, hB1⟩
          · by_cases cw0 : wd = []
            · subst cw0
              have HI2 := Lib.hid (show done ++ goD true true ws [] (L.drop (k + 1)) = linesD L by rw [← hst, if_neg c2, if_pos (.inl rfl), clW_nil, List.append_nil])
              clear hst c2 HI
              go_wp2_with fail
              go_roundg (gk - 1)
              case measure => omega
              case rel => exact ⟨k + 1, true, true, done, xs, ws, [], B, by omega, by go_num, rfl, rfl, rfl, by first | omega | (simp; omega) | simp, by first | omega | (simp; omega) | simp, by first | omega | (simp; omega) | simp, Lib.hid (HI2.out), HE, HO, HS, HW, HB, hB0, hB1⟩
            · have en : (wd == []) = false := by simpa using cw0
              have HI2 := Lib.hid (show done ++ goD true true (ws ++ [wd]) [] (L.drop (k + 1)) = linesD L by rw [← hst, if_neg c2, if_pos (.inl rfl), clW, if_neg cw0])
              have HE4 := Lib.hid (each_cl HE.out (show wd.length ≤ 10000 by omega) cw0)
              clear hst c2 HI cw0
              go_wp2_with (first | (at_builtin; refine wpList_append_own _ rfl _ _ 49 rfl B 9 i0 _ 1 16 Tryz.underlying49 hi hz0 hz1 hz2 rfl (by decide) _ _ _ rfl (HW.out.alloc _) _ 1 1 [strE wd] rfl rfl (cell_one_new _ _ _) (by simp [Value.oneCell', strE]) (by unfold maxLen; omega) (by omega) (by first | (simp; done) | (simp; omega)) ?_; intro v4 w4 own4 gr4 _; obtain ⟨aw4, cw4, rfl⟩ := own_sliceA own4; have HO4 := Lib.hid (own_other HO.out HW.out (by decide) gr4); have HS4 := Lib.hid (HS.out.word HW.out gr4); obtain ⟨hB4, hs4⟩ := own_nextB HB.out hsr (own_lowR hB0 HW.out) gr4; have HW4 := Lib.hid (show w4.ownsRow B 9 1 (.slice aw4 (ws.length + 1) cw4) (ws ++ [wd]).length ((ws ++ [wd]).map strE) by simpa using own4); have HB4 := Lib.hid hB4; have hb4 : B ≤ w4.heap.size := Nat.le_trans hB1 hs4; clear own4 gr4 hB4))
              go_roundg (gk - 1)
              case measure => omega
              case rel => exact ⟨k + 1, true, true, done, xs, ws ++ [wd], [], B, by omega, by go_num, rfl, rfl, rfl, by first | omega | (simp; omega) | simp, by first | omega | (simp; omega) | simp, by first | omega | (simp; omega) | simp, Lib.hid (HI2.out), HE4, HO4, HS4, (by simpa using HW4), HB4, hB0, hb4⟩
    · have i1 : ¬ (k : Int) < (L.length : Int) := by omega
      have hst := HI.out
      rw [List.drop_eq_nil_iff.2 (by omega), goD] at hst
      cases any
      · have hE : linesD L = done := by rw [← hst]; simp
        clear hst HI
        by_cases cw0 : wd = []
        · subst cw0
          go_wp2_with fail
          rw [HP.out, hE]
          exact ⟨HB.out, _, xs, rfl, HO.out, HS.out.keep hB1 (fun _ _ _ _ => rfl)⟩
        · have en : (wd == []) = false := by simpa using cw0
          clear cw0
          go_wp2_with (first | (at_builtin; refine wpList_append_own _ rfl _ _ 49 rfl B 9 i0 _ 1 16 Tryz.underlying49 hi hz0 hz1 hz2 rfl (by decide) _ _ _ rfl (HW.out.alloc _) _ 1 1 [strE wd] rfl rfl (cell_one_new _ _ _) (by simp [Value.oneCell', strE]) (by unfold maxLen; omega) (by omega) (by first | (simp; done) | (simp; omega)) ?_; intro v4 w4 own4 gr4 _; obtain ⟨aw4, cw4, rfl⟩ := own_sliceA own4; have HO4 := Lib.hid (own_other HO.out HW.out (by decide) gr4); have HS4 := Lib.hid (HS.out.word HW.out gr4); obtain ⟨hB4, hs4⟩ := own_nextB HB.out hsr (own_lowR hB0 HW.out) gr4; have HW4 := Lib.hid (show w4.ownsRow B 9 1 (.slice aw4 (ws.length + 1) cw4) (ws ++ [wd]).length ((ws ++ [wd]).map strE) by simpa using own4); have HB4 := Lib.hid hB4; have hb4 : B ≤ w4.heap.size := Nat.le_trans hB1 hs4; clear own4 gr4 hB4))
          rw [HP.out, hE]
          exact ⟨HB4.out, _, xs, rfl, HO4.out, HS4.out.keep hb4 (fun _ _ _ _ => rfl)⟩
      · by_cases cw0 : wd = []
        · subst cw0
          have hE : linesD L = done ++ [ws] := by rw [← hst]; simp [clW]
          clear hst HI
          go_wp2_with (at_builtin; refine wpList_append_own _ rfl _ _ 53 rfl w.heap.size 49 j0 _ 1 24 Tryz.underlying53 hj hy0 hy1 hy2 rfl (by decide) _ _ _ rfl (HO.out.alloc _) _ 1 1 [_] rfl rfl (cell_one_new _ _ _) (by simp [Value.oneCell']) (by unfold maxLen; omega) (by omega) (by first | (simp; done) | (simp; omega)) ?_; intro v5 w5 own5 gr5 _; have HS5 := Lib.hid (HS.out.line hB1 HO.out gr5 HW.out HE.out); obtain ⟨hB5, hs5⟩ := own_nextB HB.out (by omega) HO.out gr5; have HO5 := Lib.hid own5; have HB5 := Lib.hid hB5; clear own5 gr5 hB5)
          rw [HP.out, hE]
          exact ⟨HB5.out, _, _, rfl, by simpa using HO5.out, HS5.out⟩
        · have en : (wd == []) = false := by simpa using cw0
          have hE : linesD L = done ++ [ws ++ [wd]] := by rw [← hst, if_pos rfl, clW, if_neg cw0]
          have HE4 := Lib.hid (each_cl HE.out (show wd.length ≤ 10000 by omega) cw0)
          clear hst HI cw0
          go_wp2_with (first | (at_builtin; refine wpList_append_own _ rfl _ _ 49 rfl B 9 i0 _ 1 16 Tryz.underlying49 hi hz0 hz1 hz2 rfl (by decide) _ _ _ rfl (HW.out.alloc _) _ 1 1 [strE wd] rfl rfl (cell_one_new _ _ _) (by simp [Value.oneCell', strE]) (by unfold maxLen; omega) (by omega) (by first | (simp; done) | (simp; omega)) ?_; intro v4 w4 own4 gr4 _; obtain ⟨aw4, cw4, rfl⟩ := own_sliceA own4; have HO4 := Lib.hid (own_other HO.out HW.out (by decide) gr4); have HS4 := Lib.hid (HS.out.word HW.out gr4); obtain ⟨hB4, hs4⟩ := own_nextB HB.out hsr (own_lowR hB0 HW.out) gr4; have HW4 := Lib.hid (show w4.ownsRow B 9 1 (.slice aw4 (ws.length + 1) cw4) (ws ++ [wd]).length ((ws ++ [wd]).map strE) by simpa using own4); have HB4 := Lib.hid hB4; have hb4 : B ≤ w4.heap.size := Nat.le_trans hB1 hs4; clear own4 gr4 hB4) | (at_builtin; refine wpList_append_own _ rfl _ _ 53 rfl w.heap.size 49 j0 _ 1 24 Tryz.underlying53 hj hy0 hy1 hy2 rfl (by decide) _ _ _ rfl (HO4.out.alloc _) _ 1 1 [_] rfl rfl (cell_one_new _ _ _) (by simp [Value.oneCell']) (by unfold maxLen; omega) (by omega) (by first | (simp; done) | (simp; omega)) ?_; intro v5 w5 own5 gr5 _; have HS5 := Lib.hid (HS4.out.line hb4 HO4.out gr5 HW4.out HE4.out); obtain ⟨hB5, hs5⟩ := own_nextB HB4.out (by omega) HO4.out gr5; have HO5 := Lib.hid own5; have HB5 := Lib.hid hB5; clear own5 gr5 hB5))
          rw [HP.out, hE]
          exact ⟨HB5.out, _, _, rfl, by simpa using HO5.out, HS5.out⟩
end Go.Proofs.YtgfljokamgbcaaaGreatDoor
