/- The document's Parts; its numbers and rows, told. (Written by mkJY.py.) -/
import Derived.Test.YtjnakhejdpkfnaaDoorJudX
import Derived.Test.YtjnakhejdpkfnaaDoorJudU
import Derived.Deep.CutRange
namespace Go.Proofs.YtjnakhejdpkfnaaDoor
open Go.RowKit
set_option linter.unusedSimpArgs false
set_option linter.unusedVariables false
set_option maxRecDepth 100000

/-- The digits, with fuel. -/
def ddJ : Nat → Nat → List UInt8
  | 0, _ => []
  | f + 1, u => if u < 10 then [UInt8.ofNat (48 + u)] else ddJ f (u / 10) ++ [UInt8.ofNat (48 + u % 10)]
theorem ddJ_eq : ∀ (f u : Nat), u < 10 ^ (f + 1) → Lib.decDigits u = ddJ (f + 1) u
  | 0, u, h => by
    have h : u < 10 := by simpa using h
    unfold Lib.decDigits ddJ
    rw [dif_pos h, if_pos h]
  | f + 1, u, h => by
    unfold Lib.decDigits ddJ
    by_cases c : u < 10
    · rw [dif_pos c, if_pos c]
    · rw [dif_neg c, if_neg c, ddJ_eq f (u / 10) (by rw [Nat.pow_succ] at h; omega)]
theorem numS_least : numS (-9223372036854775808) = ⟨#[45, 57, 50, 50, 51, 51, 55, 50, 48, 51, 54, 56, 53, 52, 55, 55, 53, 56, 48, 56]⟩ := by
  unfold numS Lib.itoa
  rw [if_pos (by decide), ddJ_eq 18 _ (by decide)]
  rfl

theorem rdec_c (n : Int) (h0 : -9223372036854775808 ≤ n) (h1 : n ≤ 9223372036854775807) (w : World) :
    Calls Tryd.prog 44 #[.int .i64 n] w fun e w' => e = .returned (.string (numS n)) ∧ w = w' := by
  by_cases c : n = -9223372036854775808
  · subst c
    rw [numS_least]
    go_enter Tryd.func44, Tryd.ntmps44
    go_wp2_with fail
    go_ret
    exact ⟨rfl, rfl⟩
  · have HD := Lib.hid (decimal_c n (by omega) (by omega) w)
    have e1 : (n == -9223372036854775808) = false := by simp [c]
    unfold numS
    generalize (⟨(Lib.itoa n).toArray⟩ : ByteArray) = t at HD ⊢
    go_enter Tryd.func44, Tryd.ntmps44
    go_wp2_with fail
    refine (HD.out).mono ?_
    rintro e w' ⟨rfl, rfl⟩
    go_wp2_with fail
    go_ret
    exact ⟨rfl, rfl⟩

theorem pair_c (a b : Int) (ha : -9223372036854775808 < a ∧ a < 9223372036854775808) (hb : -9223372036854775808 < b ∧ b < 9223372036854775808) (w : World) :
    Calls Tryd.prog 45 #[.int .i64 a, .int .i64 b] w fun e w' => e = .returned (.string (bothS (numS a) (numS b))) ∧ w = w' := by
  have HA := Lib.hid fun W => decimal_c a (by omega) (by omega) W
  have HB := Lib.hid fun W => decimal_c b (by omega) (by omega) W
  have za := numS_size a (by omega) (by omega)
  have zb := numS_size b (by omega) (by omega)
  unfold bothS
  unfold numS at za zb ⊢
  generalize (⟨(Lib.itoa a).toArray⟩ : ByteArray) = t at HA za ⊢
  generalize (⟨(Lib.itoa b).toArray⟩ : ByteArray) = u at HB zb ⊢
  have z1 : (t ++ (⟨#[44, 32]⟩ : ByteArray)).size ≤ 22 := by rw [ByteArray.size_append]; show t.size + 2 ≤ 22; omega
  go_enter Tryd.func45, Tryd.ntmps45
  go_wp2_with fail
  refine (HA.out _).mono ?_
  rintro e w' ⟨rfl, rfl⟩
  go_wp2_with fail
  refine (HB.out _).mono ?_
  rintro e w' ⟨rfl, rfl⟩
  go_wp2_with fail
  go_ret
  exact ⟨rfl, rfl⟩

/-- What is told of two rows that differ, behind the name. -/
def rbS (n : Nat) (L M : List Int) : ByteArray := ⟨#[32, 97, 116, 32]⟩ ++ numS (n : Int) ++ ⟨#[32]⟩ ++ atS L n ++ ⟨#[44, 32]⟩ ++ atS M n

theorem at_none {L : List Int} {n : Nat} (h : ¬ n < L.length) : atS L n = ⟨#[110, 111, 110, 101]⟩ := by
  unfold atS; rw [List.getElem?_eq_none (by omega)]
theorem at_some {ao : Option Addr} {la ca : Nat} {L : List Int} {w : World} (hA : ByteArg w ao la ca L) {n : Nat} (h : n < L.length) : ∃ blk off y, ao = some ⟨blk, off, none⟩ ∧ w.cell? ⟨blk, off + n, none⟩ = some (.int .u8 y) ∧ 0 ≤ y ∧ y < 256 ∧ atS L n = numS y := by
  obtain ⟨a1, a2, a3, a4, a5⟩ := hA
  obtain ⟨blk, off, rfl, hc⟩ : ∃ blk off, ao = some ⟨blk, off, none⟩ ∧ ∀ i, i < L.length → w.cell? ⟨blk, off + i, none⟩ = some (.int .u8 (L.getD i 0)) := by
    rcases a5 with h' | h'
    · rw [h'] at h; simp at h
    · exact h'
  have g1 : L[n]? = some (L.getD n 0) := by simp [List.getD, List.getElem?_eq_getElem h]
  have hb := a4 _ (List.mem_of_getElem? g1)
  exact ⟨blk, off, _, rfl, hc n h, hb.1, hb.2, by unfold atS; rw [g1]⟩
theorem ByteArg.drewN {w : World} {ao : Option Addr} {la ca : Nat} {L : List Int} (h : ByteArg w ao la ca L) (n : Nat) : ByteArg (w.drewN n) ao la ca L := h.below (below_drewN (Below.refl _ _) n)

set_option maxHeartbeats 8000000 in
theorem rbytes_c (ao bo : Option Addr) (la ca lb cb : Nat) (L M : List Int) (n : Nat) (hn : firstL L M = (n : Int)) (w : World) (hA : ByteArg w ao la ca L) (hB : ByteArg w bo lb cb M) :
    Calls Tryd.prog 46 #[.slice ao la ca, .slice bo lb cb] w fun e w' => e = .returned (.string (rbS n L M)) ∧ ∃ q, w' = w.drewN q := by
  have HF := Lib.hid (refBytes_c ao bo la ca lb cb L M w hA hB)
  rw [hn] at HF
  have h1 := (firstL_bd L M).2
  have e1 : L.length = la := hA.1
  have e2 : M.length = lb := hB.1
  have hn2 : n < 9223372036854775808 := by
    have := hA.2.1; have := hA.2.2.1; have := hB.2.1; have := hB.2.2.1
    omega
  have HN := Lib.hid fun W => decimal_c (n : Int) (by omega) (by omega) W
  have zn := numS_size (n : Int) (by omega) (by omega)
  have zl := atS_size L n hA.2.2.2.1
  have zm := atS_size M n hB.2.2.2.1
  have HD := Lib.hid fun (y : Int) (h0 : 0 ≤ y) (h1 : y < 256) (W : World) => decimal_c y (by omega) (by omega) W
  have hAd := Lib.hid fun q => hA.drewN q
  have hBd := Lib.hid fun q => hB.drewN q
  subst e1 e2
  clear hA hB hn h1
  unfold rbS
  have s4 : (⟨#[32, 97, 116, 32]⟩ : ByteArray).size = 4 := rfl
  have s1 : (⟨#[32]⟩ : ByteArray).size = 1 := rfl
  have s2 : (⟨#[44, 32]⟩ : ByteArray).size = 2 := rfl
  have fin : ∀ (X Y Z : ByteArray), X.size ≤ 20 → Y.size ≤ 20 → Z.size ≤ 20 → (⟨#[32, 97, 116, 32]⟩ ++ X).size ≤ 24 ∧ (⟨#[32, 97, 116, 32]⟩ ++ X ++ ⟨#[32]⟩).size ≤ 25 ∧ (⟨#[32, 97, 116, 32]⟩ ++ X ++ ⟨#[32]⟩ ++ Y).size ≤ 45 ∧ (⟨#[32, 97, 116, 32]⟩ ++ X ++ ⟨#[32]⟩ ++ Y ++ ⟨#[44, 32]⟩).size ≤ 47 := fun X Y Z hX hY hZ => by
    simp only [ByteArray.size_append, s4, s1, s2]
    omega
  obtain ⟨z1, z2, z3, z4⟩ := fin _ _ _ zn zl zm
  clear fin s4 s1 s2
  have en : numS (n : Int) = ⟨(Lib.itoa (n : Int)).toArray⟩ := rfl
  rw [← en] at HN
  clear en
  generalize numS (n : Int) = X at HN zn z1 z2 z3 z4 ⊢
  by_cases c1 : n < L.length
  · have i1 : (n : Int) < (L.length : Int) := by omega
    by_cases c2 : n < M.length
    · have i2 : (n : Int) < (M.length : Int) := by omega
      obtain ⟨blk, off, y, rfl, x1, y0, y1, hy⟩ := at_some (hAd.out 0) c1
      have HX1 : Hid (∀ q, (w.drewN q).cell? ⟨blk, off + n, none⟩ = some (.int .u8 y)) := Lib.hid fun q => (World.cell?_of_block (by rw [drewN_heap, drewN_heap])).trans x1
      have HY := Lib.hid fun W => HD.out y y0 y1 W
      have wy : IntKind.i64.wrap y = y := IntWalk.i64_in _ (by omega)
      have en : numS y = ⟨(Lib.itoa y).toArray⟩ := rfl
      rw [← en, ← hy] at HY
      clear en hy x1
      generalize atS L n = Y at HY zl z3 z4 ⊢
      obtain ⟨blk2, off2, y2, rfl, x2, y20, y21, hy2⟩ := at_some (hBd.out 0) c2
      have HX2 : Hid (∀ q, (w.drewN q).cell? ⟨blk2, off2 + n, none⟩ = some (.int .u8 y2)) := Lib.hid fun q => (World.cell?_of_block (by rw [drewN_heap, drewN_heap])).trans x2
      have HZ := Lib.hid fun W => HD.out y2 y20 y21 W
      have wy2 : IntKind.i64.wrap y2 = y2 := IntWalk.i64_in _ (by omega)
      have en : numS y2 = ⟨(Lib.itoa y2).toArray⟩ := rfl
      rw [← en, ← hy2] at HZ
      clear en hy2 x2
      generalize atS M n = Z at HZ zm ⊢
      clear HD hAd hBd
      go_enter Tryd.func46, Tryd.ntmps46
      go_wp2_with fail
      refine (HF.out).mono ?_
      rintro e w1 ⟨rfl, q, rfl⟩
      have x1 := HX1.out q
      have x2 := HX2.out q
      clear HF
      go_wp2_with fail
      refine (HY.out _).mono ?_
      rintro e w2 ⟨rfl, rfl⟩
      go_wp2_with fail
      refine (HZ.out _).mono ?_
      rintro e w2 ⟨rfl, rfl⟩
      go_wp2_with fail
      refine (HN.out _).mono ?_
      rintro e w3 ⟨rfl, rfl⟩
      go_wp2_with fail
      go_ret
      exact ⟨rfl, _, rfl⟩
    · have i2 : ¬ (n : Int) < (M.length : Int) := by omega
      obtain ⟨blk, off, y, rfl, x1, y0, y1, hy⟩ := at_some (hAd.out 0) c1
      have HX1 : Hid (∀ q, (w.drewN q).cell? ⟨blk, off + n, none⟩ = some (.int .u8 y)) := Lib.hid fun q => (World.cell?_of_block (by rw [drewN_heap, drewN_heap])).trans x1
      have HY := Lib.hid fun W => HD.out y y0 y1 W
      have wy : IntKind.i64.wrap y = y := IntWalk.i64_in _ (by omega)
      have en : numS y = ⟨(Lib.itoa y).toArray⟩ := rfl
      rw [← en, ← hy] at HY
      clear en hy x1
      generalize atS L n = Y at HY zl z3 z4 ⊢
      rw [at_none c2] at zm ⊢
      clear HD hAd hBd
      go_enter Tryd.func46, Tryd.ntmps46
      go_wp2_with fail
      refine (HF.out).mono ?_
      rintro e w1 ⟨rfl, q, rfl⟩
      have x1 := HX1.out q
      clear HF
      go_wp2_with fail
      refine (HY.out _).mono ?_
      rintro e w2 ⟨rfl, rfl⟩
      go_wp2_with fail
      refine (HN.out _).mono ?_
      rintro e w3 ⟨rfl, rfl⟩
      go_wp2_with fail
      go_ret
      exact ⟨rfl, _, rfl⟩
  · have i1 : ¬ (n : Int) < (L.length : Int) := by omega
    by_cases c2 : n < M.length
    · have i2 : (n : Int) < (M.length : Int) := by omega
      rw [at_none c1] at zl z3 z4 ⊢
      obtain ⟨blk2, off2, y2, rfl, x2, y20, y21, hy2⟩ := at_some (hBd.out 0) c2
      have HX2 : Hid (∀ q, (w.drewN q).cell? ⟨blk2, off2 + n, none⟩ = some (.int .u8 y2)) := Lib.hid fun q => (World.cell?_of_block (by rw [drewN_heap, drewN_heap])).trans x2
      have HZ := Lib.hid fun W => HD.out y2 y20 y21 W
      have wy2 : IntKind.i64.wrap y2 = y2 := IntWalk.i64_in _ (by omega)
      have en : numS y2 = ⟨(Lib.itoa y2).toArray⟩ := rfl
      rw [← en, ← hy2] at HZ
      clear en hy2 x2
      generalize atS M n = Z at HZ zm ⊢
      clear HD hAd hBd
      go_enter Tryd.func46, Tryd.ntmps46
      go_wp2_with fail
      refine (HF.out).mono ?_
      rintro e w1 ⟨rfl, q, rfl⟩
      have x2 := HX2.out q
      clear HF
      go_wp2_with fail
      refine (HZ.out _).mono ?_
      rintro e w2 ⟨rfl, rfl⟩
      go_wp2_with fail
      refine (HN.out _).mono ?_
      rintro e w3 ⟨rfl, rfl⟩
      go_wp2_with fail
      go_ret
      exact ⟨rfl, _, rfl⟩
    · have i2 : ¬ (n : Int) < (M.length : Int) := by omega
      rw [at_none c1] at zl z3 z4 ⊢
      rw [at_none c2] at zm ⊢
      clear HD hAd hBd
      go_enter Tryd.func46, Tryd.ntmps46
      go_wp2_with fail
      refine (HF.out).mono ?_
      rintro e w1 ⟨rfl, q, rfl⟩
      clear HF
      go_wp2_with fail
      refine (HN.out _).mono ?_
      rintro e w3 ⟨rfl, rfl⟩
      go_wp2_with fail
      go_ret
      exact ⟨rfl, _, rfl⟩

theorem stJ_inj {x y : Nat → Int} {h g : Bool} : stJ x h = stJ y g ↔ ∀ k, k < 19 → valJ x h k = valJ y g k := by
  constructor
  · intro hEq k hk
    simp only [stJ, Array.mk.injEq, List.cons.injEq, Value.int.injEq, Value.bool.injEq, true_and, and_true] at hEq
    unfold valJ
    rcases (by omega : k = 0 ∨ k = 1 ∨ k = 2 ∨ k = 3 ∨ k = 4 ∨ k = 5 ∨ k = 6 ∨ k = 7 ∨ k = 8 ∨ k = 9 ∨ k = 10 ∨ k = 11 ∨ k = 12 ∨ k = 13 ∨ k = 14 ∨ k = 15 ∨ k = 16 ∨ k = 17 ∨ k = 18) with rfl | rfl | rfl | rfl | rfl | rfl | rfl | rfl | rfl | rfl | rfl | rfl | rfl | rfl | rfl | rfl | rfl | rfl | rfl <;> simp [hEq]
  · intro H
    have q : ∀ k, k < 18 → x k = y k := fun k hk => by
      have := H k (by omega)
      unfold valJ at this
      rwa [if_pos hk, if_pos hk] at this
    have e : h = g := by
      have := H 18 (by omega)
      unfold valJ at this
      cases h <;> cases g <;> simp at this ⊢
    unfold stJ
    rw [q 0 (by omega), q 1 (by omega), q 2 (by omega), q 3 (by omega), q 4 (by omega), q 5 (by omega), q 6 (by omega), q 7 (by omega), q 8 (by omega), q 9 (by omega), q 10 (by omega), q 11 (by omega), q 12 (by omega), q 13 (by omega), q 14 (by omega), q 15 (by omega), q 16 (by omega), q 17 (by omega), e]
theorem diffJ_pos (x : Nat → Int) (h : Bool) (y : Nat → Int) (g : Bool) : 0 < (diffJ x h y g 19).length ↔ stJ x h ≠ stJ y g := by
  rw [List.length_pos_iff, Ne, Ne, stJ_inj]
  refine not_congr ?_
  unfold diffJ
  rw [List.filter_eq_nil_iff]
  constructor
  · intro H k hk
    have := H k (by simpa using hk)
    simpa using this
  · intro H k hk
    have := H k (by simpa using hk)
    simpa using this

theorem Tryd.infoBool : (Tryd.prog.info? 4).map (fun i => (i.zero, i.size, i.bytes)) = some (some (.bool false), 1, 1) := by kernel_rfl

set_option maxHeartbeats 16000000 in
theorem rParts_c (A B : Array Value) (s r : SvR) (hA : SvAt A s) (hB : SvAt B r) (x : Nat → Int) (h : Bool) (y : Nat → Int) (g : Bool) (w : World) (hs : GsOk s x h w) (hr : GsOk r y g w) :
    Calls Tryd.prog 20 #[.agg A, .agg B] w fun e w' => ∃ g0, e = .returned (.slice (some ⟨g0, 0, none⟩) 10 10) ∧ w.heap.size ≤ g0 ∧ w'.heap[g0]? = some (.cells ((dlJ s r x h y g).map Value.bool).toArray 4 (0, 0)) ∧ Below w.heap.size w w' := by
  have hzA : A.size = 35 := hA.size
  have hzB : B.size = 35 := hB.size
  have HAt := Lib.hid hA
  have HBt := Lib.hid hB
  have HMem := Lib.hid fun (W : World) (hb : Below w.heap.size w W) => refBytes_c _ _ _ _ _ _ _ _ W (ByteArg.below hs.ok.mem hb) (ByteArg.below hr.ok.mem hb)
  have HOut := Lib.hid fun (W : World) (hb : Below w.heap.size w W) => refBytes_c _ _ _ _ _ _ _ _ W (ByteArg.below hs.ok.out hb) (ByteArg.below hr.ok.out hb)
  have HDisk := Lib.hid fun (W : World) (hb : Below w.heap.size w W) => refBytes_c _ _ _ _ _ _ _ _ W (ByteArg.below hs.ok.disk hb) (ByteArg.below hr.ok.disk hb)
  have HQueue := Lib.hid fun (W : World) (hb : Below w.heap.size w W) => refBytes_c _ _ _ _ _ _ _ _ W (ByteArg.below hs.ok.queue hb) (ByteArg.below hr.ok.queue hb)
  have HNotes := Lib.hid fun (W : World) (hb : Below w.heap.size w W) => refNotes_c _ _ _ _ _ _ _ _ W (ElemArg.below hs.ok.notes hb) (ElemArg.below hr.ok.notes hb)
  have HEvents := Lib.hid fun (W : World) (hb : Below w.heap.size w W) => refEvents_c _ _ _ _ _ _ _ _ W (ElemArg.below hs.ok.script hb) (ElemArg.below hr.ok.script hb)
  obtain ⟨ds, hds, hdn⟩ : ∃ b, b = decide (0 < (diffJ x h y g 19).length) ∧ ∀ W, (binOp .neq 26 (.agg s.S) (.agg r.S)).run Tryd.prog W = .ok (.bool b) W := by
    obtain ⟨b, -, h1, h2⟩ := run_eql_flat (P := Tryd.prog) (n := 4) (t := 26) (ks := stKJ) (by decide) (by kernel_rfl) (by kernel_rfl) (by kernel_rfl) (by kernel_rfl) hs.ok.Sok hr.ok.Sok
    refine ⟨!b, ?_, h1⟩
    have h3 := diffJ_pos x h y g
    rw [← hs.S, ← hr.S] at h3
    have h4 : b = true ↔ s.S = r.S := h2.trans Array.toList_inj
    by_cases c : s.S = r.S
    · have : ¬ 0 < (diffJ x h y g 19).length := fun h' => h3.1 h' c
      rw [h4.2 c]; simpa using this
    · have : 0 < (diffJ x h y g 19).length := h3.2 c
      have hb : b = false := by
        cases b
        · rfl
        · exact absurd (h4.1 rfl) c
      rw [hb]; simpa using this
  have zS : s.S.toList.length = 19 := by simpa using hs.ok.S
  have zR : r.S.toList.length = 19 := by simpa using hr.ok.S
  unfold dlJ
  rw [← hds]
  clear hs hr hA hB hds
  obtain ⟨fl3, hfl3⟩ : ∃ n, n = firstL s.mem.L r.mem.L := ⟨_, rfl⟩
  obtain ⟨fl5, hfl5⟩ : ∃ n, n = firstL s.out.L r.out.L := ⟨_, rfl⟩
  obtain ⟨fl6, hfl6⟩ : ∃ n, n = firstL s.disk.L r.disk.L := ⟨_, rfl⟩
  obtain ⟨fl7, hfl7⟩ : ∃ n, n = firstL s.queue.L r.queue.L := ⟨_, rfl⟩
  obtain ⟨fl4, hfl4⟩ : ∃ n, n = firstE s.notes.L r.notes.L := ⟨_, rfl⟩
  obtain ⟨fl8, hfl8⟩ : ∃ n, n = firstE s.script.L r.script.L := ⟨_, rfl⟩
  rw [← hfl3] at HMem ⊢
  rw [← hfl5] at HOut ⊢
  rw [← hfl6] at HDisk ⊢
  rw [← hfl7] at HQueue ⊢
  rw [← hfl4] at HNotes ⊢
  rw [← hfl8] at HEvents ⊢
  clear hfl3 hfl4 hfl5 hfl6 hfl7 hfl8
  obtain ⟨dn, hdv⟩ : ∃ n, n = devNe s r := ⟨_, rfl⟩
  rw [← hdv]
  have HDV := Lib.hid hdv
  clear hdv
  have HI : Hid (PrS w A B ((w.alloc (.cells A 30)).alloc (.cells B 30)).drew) :=
    Lib.hid ⟨heap_drew' (heap_old' (heap_new' rfl)), heap_drew' (heap_new' (by simp)), ((below_alloc1 w _).alloc (by simp) _).drew, by simp⟩
  go_enter Tryd.func20, Tryd.ntmps20
  go_upto_region 1 with fail
  go_cut [5] from 6 to 59 (fun v wx => v = .bool (!dn) ∧ wx = ((w.alloc (.cells A 30)).alloc (.cells B 30)))
  case first =>
    have p0 := (cell_of_row ((w.alloc (.cells A 30)).alloc (.cells B 30)) _ 27 _ _ _ (heap_old' (heap_new' rfl))).trans HAt.out.d0
    have q0 := (cell_of_row ((w.alloc (.cells A 30)).alloc (.cells B 30)) _ 27 _ _ _ (heap_new' (k := w.heap.size + 1) (by simp))).trans HBt.out.d0
    have p1 := (cell_of_row ((w.alloc (.cells A 30)).alloc (.cells B 30)) _ 28 _ _ _ (heap_old' (heap_new' rfl))).trans HAt.out.d1
    have q1 := (cell_of_row ((w.alloc (.cells A 30)).alloc (.cells B 30)) _ 28 _ _ _ (heap_new' (k := w.heap.size + 1) (by simp))).trans HBt.out.d1
    have p2 := (cell_of_row ((w.alloc (.cells A 30)).alloc (.cells B 30)) _ 29 _ _ _ (heap_old' (heap_new' rfl))).trans HAt.out.d2
    have q2 := (cell_of_row ((w.alloc (.cells A 30)).alloc (.cells B 30)) _ 29 _ _ _ (heap_new' (k := w.heap.size + 1) (by simp))).trans HBt.out.d2
    have p3 := (cell_of_row ((w.alloc (.cells A 30)).alloc (.cells B 30)) _ 30 _ _ _ (heap_old' (heap_new' rfl))).trans HAt.out.d3
    have q3 := (cell_of_row ((w.alloc (.cells A 30)).alloc (.cells B 30)) _ 30 _ _ _ (heap_new' (k := w.heap.size + 1) (by simp))).trans HBt.out.d3
    have p4 := (cell_of_row ((w.alloc (.cells A 30)).alloc (.cells B 30)) _ 31 _ _ _ (heap_old' (heap_new' rfl))).trans HAt.out.d4
    have q4 := (cell_of_row ((w.alloc (.cells A 30)).alloc (.cells B 30)) _ 31 _ _ _ (heap_new' (k := w.heap.size + 1) (by simp))).trans HBt.out.d4
    have p5 := (cell_of_row ((w.alloc (.cells A 30)).alloc (.cells B 30)) _ 32 _ _ _ (heap_old' (heap_new' rfl))).trans HAt.out.d5
    have q5 := (cell_of_row ((w.alloc (.cells A 30)).alloc (.cells B 30)) _ 32 _ _ _ (heap_new' (k := w.heap.size + 1) (by simp))).trans HBt.out.d5
    have p6 := (cell_of_row ((w.alloc (.cells A 30)).alloc (.cells B 30)) _ 33 _ _ _ (heap_old' (heap_new' rfl))).trans HAt.out.d6
    have q6 := (cell_of_row ((w.alloc (.cells A 30)).alloc (.cells B 30)) _ 33 _ _ _ (heap_new' (k := w.heap.size + 1) (by simp))).trans HBt.out.d6
    have p7 := (cell_of_row ((w.alloc (.cells A 30)).alloc (.cells B 30)) _ 34 _ _ _ (heap_old' (heap_new' rfl))).trans HAt.out.d7
    have q7 := (cell_of_row ((w.alloc (.cells A 30)).alloc (.cells B 30)) _ 34 _ _ _ (heap_new' (k := w.heap.size + 1) (by simp))).trans HBt.out.d7
    clear HMem HOut HDisk HQueue HNotes HEvents HI hdn
    by_cases e0 : s.d 0 = r.d 0
    · have b0 : (s.d 0 == r.d 0) = true := by simp [e0]
      by_cases e1 : s.d 1 = r.d 1
      · have b1 : (s.d 1 == r.d 1) = true := by simp [e1]
        by_cases e2 : s.d 2 = r.d 2
        · have b2 : (s.d 2 == r.d 2) = true := by simp [e2]
          by_cases e3 : s.d 3 = r.d 3
          · have b3 : (s.d 3 == r.d 3) = true := by simp [e3]
            by_cases e4 : s.d 4 = r.d 4
            · have b4 : (s.d 4 == r.d 4) = true := by simp [e4]
              by_cases e5 : s.d 5 = r.d 5
              · have b5 : (s.d 5 == r.d 5) = true := by simp [e5]
                by_cases e6 : s.d 6 = r.d 6
                · have b6 : (s.d 6 == r.d 6) = true := by simp [e6]
                  by_cases e7 : s.d 7 = r.d 7
                  · have b7 : (s.d 7 == r.d 7) = true := by simp [e7]
                    go_wp2_with fail
                    go_meet
                    case rel => exact ⟨by rw [HDV.out]; unfold devNe; simp [e0, e1, e2, e3, e4, e5, e6, e7], rfl⟩
                  · have b7 : (s.d 7 == r.d 7) = false := by simp [e7]
                    go_wp2_with fail
                    go_meet
                    case rel => exact ⟨by rw [HDV.out]; unfold devNe; simp [e7], rfl⟩
                · have b6 : (s.d 6 == r.d 6) = false := by simp [e6]
                  go_wp2_with fail
                  go_meet
                  case rel => exact ⟨by rw [HDV.out]; unfold devNe; simp [e6], rfl⟩
              · have b5 : (s.d 5 == r.d 5) = false := by simp [e5]
                go_wp2_with fail
                go_meet
                case rel => exact ⟨by rw [HDV.out]; unfold devNe; simp [e5], rfl⟩
            · have b4 : (s.d 4 == r.d 4) = false := by simp [e4]
              go_wp2_with fail
              go_meet
              case rel => exact ⟨by rw [HDV.out]; unfold devNe; simp [e4], rfl⟩
          · have b3 : (s.d 3 == r.d 3) = false := by simp [e3]
            go_wp2_with fail
            go_meet
            case rel => exact ⟨by rw [HDV.out]; unfold devNe; simp [e3], rfl⟩
        · have b2 : (s.d 2 == r.d 2) = false := by simp [e2]
          go_wp2_with fail
          go_meet
          case rel => exact ⟨by rw [HDV.out]; unfold devNe; simp [e2], rfl⟩
      · have b1 : (s.d 1 == r.d 1) = false := by simp [e1]
        go_wp2_with fail
        go_meet
        case rel => exact ⟨by rw [HDV.out]; unfold devNe; simp [e1], rfl⟩
    · have b0 : (s.d 0 == r.d 0) = false := by simp [e0]
      go_wp2_with fail
      go_meet
      case rel => exact ⟨by rw [HDV.out]; unfold devNe; simp [e0], rfl⟩
  case rest =>
    obtain ⟨rfl, rfl⟩ := hcut
    go_wp2_with fail
    refine wp_region_held_drew (S := fun w' => PrS w A B w') (by kernel_rfl) HI.out (fun hHeld => ?_)
    clear HI
    refine wpAnyH_take (i := 0) (oi := { dst := some 60, op := Op.fieldAddr _ (Operand.tmp 2) 0, type := _, pos := "ref.go:90", after := #[], guard := none }) (v := .pointer (some ⟨w.heap.size, 0, none⟩)) rfl (by kernel_rfl) (by kernel_rfl) (by kernel_rfl) (fun _ _ _ h => h) (Or.inl ⟨by rfl, ?_⟩) hHeld ?_
    · intro w' hSw
      skip
      go_simp
    try simp only [Act.put, List.setIfInBounds_toArray, List.set_cons_zero, List.set_cons_succ]
    refine wpAnyH_take (i := 1) (oi := { dst := some 61, op := Op.load _ (Operand.tmp 60), type := _, pos := "ref.go:90", after := #[{ on := 0, ground := Ground.data }], guard := none }) (v := .int .i64 s.fr) rfl (by kernel_rfl) (by kernel_rfl) (by kernel_rfl) (fun _ _ _ h => h) (Or.inl ⟨by rfl, ?_⟩) hHeld ?_
    · intro w' hSw
      have k0 := (cell_of_row w' _ 0 _ _ _ hSw.a).trans HAt.out.fr
      go_simp
    try simp only [Act.put, List.setIfInBounds_toArray, List.set_cons_zero, List.set_cons_succ]
    refine wpAnyH_take (i := 2) (oi := { dst := some 62, op := Op.fieldAddr _ (Operand.tmp 3) 0, type := _, pos := "ref.go:90", after := #[], guard := none }) (v := .pointer (some ⟨w.heap.size + 1, 0, none⟩)) rfl (by kernel_rfl) (by kernel_rfl) (by kernel_rfl) (fun _ _ _ h => h) (Or.inl ⟨by rfl, ?_⟩) hHeld ?_
    · intro w' hSw
      skip
      go_simp
    try simp only [Act.put, List.setIfInBounds_toArray, List.set_cons_zero, List.set_cons_succ]
    refine wpAnyH_take (i := 3) (oi := { dst := some 63, op := Op.load _ (Operand.tmp 62), type := _, pos := "ref.go:90", after := #[{ on := 2, ground := Ground.data }], guard := none }) (v := .int .i64 r.fr) rfl (by kernel_rfl) (by kernel_rfl) (by kernel_rfl) (fun _ _ _ h => h) (Or.inl ⟨by rfl, ?_⟩) hHeld ?_
    · intro w' hSw
      have k0 := (cell_of_row w' _ 0 _ _ _ hSw.b).trans HBt.out.fr
      go_simp
    try simp only [Act.put, List.setIfInBounds_toArray, List.set_cons_zero, List.set_cons_succ]
    refine wpAnyH_take (i := 4) (oi := { dst := some 64, op := Op.binOp BinOp.neq _ (Operand.tmp 61) (Operand.tmp 63) _, type := _, pos := "ref.go:90", after := #[{ on := 1, ground := Ground.data }, { on := 3, ground := Ground.data }], guard := none }) (v := .bool (s.fr != r.fr)) rfl (by kernel_rfl) (by kernel_rfl) (by kernel_rfl) (fun _ _ _ h => h) (Or.inl ⟨by rfl, ?_⟩) hHeld ?_
    · intro w' hSw
      skip
      go_simp
    try simp only [Act.put, List.setIfInBounds_toArray, List.set_cons_zero, List.set_cons_succ]
    refine wpAnyH_take (i := 5) (oi := { dst := some 65, op := Op.fieldAddr _ (Operand.tmp 2) 3, type := _, pos := "ref.go:90", after := #[], guard := none }) (v := .pointer (some ⟨w.heap.size, 21, none⟩)) rfl (by kernel_rfl) (by kernel_rfl) (by kernel_rfl) (fun _ _ _ h => h) (Or.inl ⟨by rfl, ?_⟩) hHeld ?_
    · intro w' hSw
      skip
      go_simp
    try simp only [Act.put, List.setIfInBounds_toArray, List.set_cons_zero, List.set_cons_succ]
    refine wpAnyH_take (i := 6) (oi := { dst := some 66, op := Op.load _ (Operand.tmp 65), type := _, pos := "ref.go:90", after := #[{ on := 5, ground := Ground.data }], guard := none }) (v := .int .i64 s.st) rfl (by kernel_rfl) (by kernel_rfl) (by kernel_rfl) (fun _ _ _ h => h) (Or.inl ⟨by rfl, ?_⟩) hHeld ?_
    · intro w' hSw
      have k0 := (cell_of_row w' _ 21 _ _ _ hSw.a).trans HAt.out.st
      go_simp
    try simp only [Act.put, List.setIfInBounds_toArray, List.set_cons_zero, List.set_cons_succ]
    refine wpAnyH_take (i := 7) (oi := { dst := some 67, op := Op.fieldAddr _ (Operand.tmp 3) 3, type := _, pos := "ref.go:90", after := #[], guard := none }) (v := .pointer (some ⟨w.heap.size + 1, 21, none⟩)) rfl (by kernel_rfl) (by kernel_rfl) (by kernel_rfl) (fun _ _ _ h => h) (Or.inl ⟨by rfl, ?_⟩) hHeld ?_
    · intro w' hSw
      skip
      go_simp
    try simp only [Act.put, List.setIfInBounds_toArray, List.set_cons_zero, List.set_cons_succ]
    refine wpAnyH_take (i := 8) (oi := { dst := some 68, op := Op.load _ (Operand.tmp 67), type := _, pos := "ref.go:90", after := #[{ on := 7, ground := Ground.data }], guard := none }) (v := .int .i64 r.st) rfl (by kernel_rfl) (by kernel_rfl) (by kernel_rfl) (fun _ _ _ h => h) (Or.inl ⟨by rfl, ?_⟩) hHeld ?_
    · intro w' hSw
      have k0 := (cell_of_row w' _ 21 _ _ _ hSw.b).trans HBt.out.st
      go_simp
    try simp only [Act.put, List.setIfInBounds_toArray, List.set_cons_zero, List.set_cons_succ]
    refine wpAnyH_take (i := 9) (oi := { dst := some 69, op := Op.binOp BinOp.neq _ (Operand.tmp 66) (Operand.tmp 68) _, type := _, pos := "ref.go:90", after := #[{ on := 6, ground := Ground.data }, { on := 8, ground := Ground.data }], guard := none }) (v := .bool (s.st != r.st)) rfl (by kernel_rfl) (by kernel_rfl) (by kernel_rfl) (fun _ _ _ h => h) (Or.inl ⟨by rfl, ?_⟩) hHeld ?_
    · intro w' hSw
      skip
      go_simp
    try simp only [Act.put, List.setIfInBounds_toArray, List.set_cons_zero, List.set_cons_succ]
    refine wpAnyH_take (i := 10) (oi := { dst := some 70, op := Op.fieldAddr _ (Operand.tmp 2) 2, type := _, pos := "ref.go:90", after := #[], guard := none }) (v := .pointer (some ⟨w.heap.size, 2, none⟩)) rfl (by kernel_rfl) (by kernel_rfl) (by kernel_rfl) (fun _ _ _ h => h) (Or.inl ⟨by rfl, ?_⟩) hHeld ?_
    · intro w' hSw
      skip
      go_simp
    try simp only [Act.put, List.setIfInBounds_toArray, List.set_cons_zero, List.set_cons_succ]
    refine wpAnyH_take (i := 11) (oi := { dst := some 71, op := Op.load _ (Operand.tmp 70), type := _, pos := "ref.go:90", after := #[{ on := 10, ground := Ground.data }], guard := none }) (v := .agg s.S) rfl (by kernel_rfl) (by kernel_rfl) (by kernel_rfl) (fun _ _ _ h => h) (yieldsIf_load_mid (by rfl) _ _ rfl _ 2 rfl s.S.toList _ (fun w' hSw => range_of_row hSw.a _ HAt.out.S) Tryd.underlying26 rfl (by rw [zS]; kernel_rfl)) hHeld ?_
    try simp only [Act.put, List.setIfInBounds_toArray, List.set_cons_zero, List.set_cons_succ]
    refine wpAnyH_take (i := 12) (oi := { dst := some 72, op := Op.fieldAddr _ (Operand.tmp 3) 2, type := _, pos := "ref.go:90", after := #[], guard := none }) (v := .pointer (some ⟨w.heap.size + 1, 2, none⟩)) rfl (by kernel_rfl) (by kernel_rfl) (by kernel_rfl) (fun _ _ _ h => h) (Or.inl ⟨by rfl, ?_⟩) hHeld ?_
    · intro w' hSw
      skip
      go_simp
    try simp only [Act.put, List.setIfInBounds_toArray, List.set_cons_zero, List.set_cons_succ]
    refine wpAnyH_take (i := 13) (oi := { dst := some 73, op := Op.load _ (Operand.tmp 72), type := _, pos := "ref.go:90", after := #[{ on := 12, ground := Ground.data }], guard := none }) (v := .agg r.S) rfl (by kernel_rfl) (by kernel_rfl) (by kernel_rfl) (fun _ _ _ h => h) (yieldsIf_load_mid (by rfl) _ _ rfl _ 2 rfl r.S.toList _ (fun w' hSw => range_of_row hSw.b _ HBt.out.S) Tryd.underlying26 rfl (by rw [zR]; kernel_rfl)) hHeld ?_
    try simp only [Act.put, List.setIfInBounds_toArray, List.set_cons_zero, List.set_cons_succ]
    refine wpAnyH_take (i := 14) (oi := { dst := some 74, op := Op.binOp BinOp.neq _ (Operand.tmp 71) (Operand.tmp 73) _, type := _, pos := "ref.go:90", after := #[{ on := 11, ground := Ground.data }, { on := 13, ground := Ground.data }], guard := none }) (v := .bool ds) rfl (by kernel_rfl) (by kernel_rfl) (by kernel_rfl) (fun _ _ _ h => h) (Or.inl ⟨by rfl, ?_⟩) hHeld ?_
    · intro w' hSw
      skip
      go_simp
    try simp only [Act.put, List.setIfInBounds_toArray, List.set_cons_zero, List.set_cons_succ]
    refine wpAnyH_take (i := 15) (oi := { dst := some 75, op := Op.fieldAddr _ (Operand.tmp 2) 1, type := _, pos := "ref.go:90", after := #[], guard := none }) (v := .pointer (some ⟨w.heap.size, 1, none⟩)) rfl (by kernel_rfl) (by kernel_rfl) (by kernel_rfl) (fun _ _ _ h => h) (Or.inl ⟨by rfl, ?_⟩) hHeld ?_
    · intro w' hSw
      skip
      go_simp
    try simp only [Act.put, List.setIfInBounds_toArray, List.set_cons_zero, List.set_cons_succ]
    refine wpAnyH_take (i := 16) (oi := { dst := some 76, op := Op.load _ (Operand.tmp 75), type := _, pos := "ref.go:90", after := #[{ on := 15, ground := Ground.data }], guard := none }) (v := .slice s.mem.a s.mem.len s.mem.cap) rfl (by kernel_rfl) (by kernel_rfl) (by kernel_rfl) (fun _ _ _ h => h) (Or.inl ⟨by rfl, ?_⟩) hHeld ?_
    · intro w' hSw
      have k0 := (cell_of_row w' _ 1 _ _ _ hSw.a).trans HAt.out.mem
      go_simp
    try simp only [Act.put, List.setIfInBounds_toArray, List.set_cons_zero, List.set_cons_succ]
    refine wpAnyH_take (i := 17) (oi := { dst := some 77, op := Op.fieldAddr _ (Operand.tmp 3) 1, type := _, pos := "ref.go:90", after := #[], guard := none }) (v := .pointer (some ⟨w.heap.size + 1, 1, none⟩)) rfl (by kernel_rfl) (by kernel_rfl) (by kernel_rfl) (fun _ _ _ h => h) (Or.inl ⟨by rfl, ?_⟩) hHeld ?_
    · intro w' hSw
      skip
      go_simp
    try simp only [Act.put, List.setIfInBounds_toArray, List.set_cons_zero, List.set_cons_succ]
    refine wpAnyH_take (i := 18) (oi := { dst := some 78, op := Op.load _ (Operand.tmp 77), type := _, pos := "ref.go:90", after := #[{ on := 17, ground := Ground.data }], guard := none }) (v := .slice r.mem.a r.mem.len r.mem.cap) rfl (by kernel_rfl) (by kernel_rfl) (by kernel_rfl) (fun _ _ _ h => h) (Or.inl ⟨by rfl, ?_⟩) hHeld ?_
    · intro w' hSw
      have k0 := (cell_of_row w' _ 1 _ _ _ hSw.b).trans HBt.out.mem
      go_simp
    try simp only [Act.put, List.setIfInBounds_toArray, List.set_cons_zero, List.set_cons_succ]
    refine wpAnyH_take (i := 21) (oi := { dst := some 81, op := Op.fieldAddr _ (Operand.tmp 2) 4, type := _, pos := "ref.go:90", after := #[], guard := none }) (v := .pointer (some ⟨w.heap.size, 22, none⟩)) rfl (by kernel_rfl) (by kernel_rfl) (by kernel_rfl) (fun _ _ _ h => h) (Or.inl ⟨by rfl, ?_⟩) hHeld ?_
    · intro w' hSw
      skip
      go_simp
    try simp only [Act.put, List.setIfInBounds_toArray, List.set_cons_zero, List.set_cons_succ]
    refine wpAnyH_take (i := 22) (oi := { dst := some 82, op := Op.load _ (Operand.tmp 81), type := _, pos := "ref.go:90", after := #[{ on := 21, ground := Ground.data }], guard := none }) (v := .slice s.notes.a s.notes.len s.notes.cap) rfl (by kernel_rfl) (by kernel_rfl) (by kernel_rfl) (fun _ _ _ h => h) (Or.inl ⟨by rfl, ?_⟩) hHeld ?_
    · intro w' hSw
      have k0 := (cell_of_row w' _ 22 _ _ _ hSw.a).trans HAt.out.notes
      go_simp
    try simp only [Act.put, List.setIfInBounds_toArray, List.set_cons_zero, List.set_cons_succ]
    refine wpAnyH_take (i := 23) (oi := { dst := some 83, op := Op.fieldAddr _ (Operand.tmp 3) 4, type := _, pos := "ref.go:90", after := #[], guard := none }) (v := .pointer (some ⟨w.heap.size + 1, 22, none⟩)) rfl (by kernel_rfl) (by kernel_rfl) (by kernel_rfl) (fun _ _ _ h => h) (Or.inl ⟨by rfl, ?_⟩) hHeld ?_
    · intro w' hSw
      skip
      go_simp
    try simp only [Act.put, List.setIfInBounds_toArray, List.set_cons_zero, List.set_cons_succ]
    refine wpAnyH_take (i := 24) (oi := { dst := some 84, op := Op.load _ (Operand.tmp 83), type := _, pos := "ref.go:90", after := #[{ on := 23, ground := Ground.data }], guard := none }) (v := .slice r.notes.a r.notes.len r.notes.cap) rfl (by kernel_rfl) (by kernel_rfl) (by kernel_rfl) (fun _ _ _ h => h) (Or.inl ⟨by rfl, ?_⟩) hHeld ?_
    · intro w' hSw
      have k0 := (cell_of_row w' _ 22 _ _ _ hSw.b).trans HBt.out.notes
      go_simp
    try simp only [Act.put, List.setIfInBounds_toArray, List.set_cons_zero, List.set_cons_succ]
    refine wpAnyH_take (i := 27) (oi := { dst := some 87, op := Op.fieldAddr _ (Operand.tmp 2) 5, type := _, pos := "ref.go:90", after := #[], guard := none }) (v := .pointer (some ⟨w.heap.size, 23, none⟩)) rfl (by kernel_rfl) (by kernel_rfl) (by kernel_rfl) (fun _ _ _ h => h) (Or.inl ⟨by rfl, ?_⟩) hHeld ?_
    · intro w' hSw
      skip
      go_simp
    try simp only [Act.put, List.setIfInBounds_toArray, List.set_cons_zero, List.set_cons_succ]
    refine wpAnyH_take (i := 28) (oi := { dst := some 88, op := Op.load _ (Operand.tmp 87), type := _, pos := "ref.go:90", after := #[{ on := 27, ground := Ground.data }], guard := none }) (v := .slice s.out.a s.out.len s.out.cap) rfl (by kernel_rfl) (by kernel_rfl) (by kernel_rfl) (fun _ _ _ h => h) (Or.inl ⟨by rfl, ?_⟩) hHeld ?_
    · intro w' hSw
      have k0 := (cell_of_row w' _ 23 _ _ _ hSw.a).trans HAt.out.out
      go_simp
    try simp only [Act.put, List.setIfInBounds_toArray, List.set_cons_zero, List.set_cons_succ]
    refine wpAnyH_take (i := 29) (oi := { dst := some 89, op := Op.fieldAddr _ (Operand.tmp 3) 5, type := _, pos := "ref.go:90", after := #[], guard := none }) (v := .pointer (some ⟨w.heap.size + 1, 23, none⟩)) rfl (by kernel_rfl) (by kernel_rfl) (by kernel_rfl) (fun _ _ _ h => h) (Or.inl ⟨by rfl, ?_⟩) hHeld ?_
    · intro w' hSw
      skip
      go_simp
    try simp only [Act.put, List.setIfInBounds_toArray, List.set_cons_zero, List.set_cons_succ]
    refine wpAnyH_take (i := 30) (oi := { dst := some 90, op := Op.load _ (Operand.tmp 89), type := _, pos := "ref.go:90", after := #[{ on := 29, ground := Ground.data }], guard := none }) (v := .slice r.out.a r.out.len r.out.cap) rfl (by kernel_rfl) (by kernel_rfl) (by kernel_rfl) (fun _ _ _ h => h) (Or.inl ⟨by rfl, ?_⟩) hHeld ?_
    · intro w' hSw
      have k0 := (cell_of_row w' _ 23 _ _ _ hSw.b).trans HBt.out.out
      go_simp
    try simp only [Act.put, List.setIfInBounds_toArray, List.set_cons_zero, List.set_cons_succ]
    refine wpAnyH_take (i := 33) (oi := { dst := some 93, op := Op.fieldAddr _ (Operand.tmp 2) 6, type := _, pos := "ref.go:90", after := #[], guard := none }) (v := .pointer (some ⟨w.heap.size, 24, none⟩)) rfl (by kernel_rfl) (by kernel_rfl) (by kernel_rfl) (fun _ _ _ h => h) (Or.inl ⟨by rfl, ?_⟩) hHeld ?_
    · intro w' hSw
      skip
      go_simp
    try simp only [Act.put, List.setIfInBounds_toArray, List.set_cons_zero, List.set_cons_succ]
    refine wpAnyH_take (i := 34) (oi := { dst := some 94, op := Op.load _ (Operand.tmp 93), type := _, pos := "ref.go:90", after := #[{ on := 33, ground := Ground.data }], guard := none }) (v := .slice s.disk.a s.disk.len s.disk.cap) rfl (by kernel_rfl) (by kernel_rfl) (by kernel_rfl) (fun _ _ _ h => h) (Or.inl ⟨by rfl, ?_⟩) hHeld ?_
    · intro w' hSw
      have k0 := (cell_of_row w' _ 24 _ _ _ hSw.a).trans HAt.out.disk
      go_simp
    try simp only [Act.put, List.setIfInBounds_toArray, List.set_cons_zero, List.set_cons_succ]
    refine wpAnyH_take (i := 35) (oi := { dst := some 95, op := Op.fieldAddr _ (Operand.tmp 3) 6, type := _, pos := "ref.go:90", after := #[], guard := none }) (v := .pointer (some ⟨w.heap.size + 1, 24, none⟩)) rfl (by kernel_rfl) (by kernel_rfl) (by kernel_rfl) (fun _ _ _ h => h) (Or.inl ⟨by rfl, ?_⟩) hHeld ?_
    · intro w' hSw
      skip
      go_simp
    try simp only [Act.put, List.setIfInBounds_toArray, List.set_cons_zero, List.set_cons_succ]
    refine wpAnyH_take (i := 36) (oi := { dst := some 96, op := Op.load _ (Operand.tmp 95), type := _, pos := "ref.go:90", after := #[{ on := 35, ground := Ground.data }], guard := none }) (v := .slice r.disk.a r.disk.len r.disk.cap) rfl (by kernel_rfl) (by kernel_rfl) (by kernel_rfl) (fun _ _ _ h => h) (Or.inl ⟨by rfl, ?_⟩) hHeld ?_
    · intro w' hSw
      have k0 := (cell_of_row w' _ 24 _ _ _ hSw.b).trans HBt.out.disk
      go_simp
    try simp only [Act.put, List.setIfInBounds_toArray, List.set_cons_zero, List.set_cons_succ]
    refine wpAnyH_take (i := 39) (oi := { dst := some 99, op := Op.fieldAddr _ (Operand.tmp 2) 7, type := _, pos := "ref.go:90", after := #[], guard := none }) (v := .pointer (some ⟨w.heap.size, 25, none⟩)) rfl (by kernel_rfl) (by kernel_rfl) (by kernel_rfl) (fun _ _ _ h => h) (Or.inl ⟨by rfl, ?_⟩) hHeld ?_
    · intro w' hSw
      skip
      go_simp
    try simp only [Act.put, List.setIfInBounds_toArray, List.set_cons_zero, List.set_cons_succ]
    refine wpAnyH_take (i := 40) (oi := { dst := some 100, op := Op.load _ (Operand.tmp 99), type := _, pos := "ref.go:90", after := #[{ on := 39, ground := Ground.data }], guard := none }) (v := .slice s.queue.a s.queue.len s.queue.cap) rfl (by kernel_rfl) (by kernel_rfl) (by kernel_rfl) (fun _ _ _ h => h) (Or.inl ⟨by rfl, ?_⟩) hHeld ?_
    · intro w' hSw
      have k0 := (cell_of_row w' _ 25 _ _ _ hSw.a).trans HAt.out.queue
      go_simp
    try simp only [Act.put, List.setIfInBounds_toArray, List.set_cons_zero, List.set_cons_succ]
    refine wpAnyH_take (i := 41) (oi := { dst := some 101, op := Op.fieldAddr _ (Operand.tmp 3) 7, type := _, pos := "ref.go:90", after := #[], guard := none }) (v := .pointer (some ⟨w.heap.size + 1, 25, none⟩)) rfl (by kernel_rfl) (by kernel_rfl) (by kernel_rfl) (fun _ _ _ h => h) (Or.inl ⟨by rfl, ?_⟩) hHeld ?_
    · intro w' hSw
      skip
      go_simp
    try simp only [Act.put, List.setIfInBounds_toArray, List.set_cons_zero, List.set_cons_succ]
    refine wpAnyH_take (i := 42) (oi := { dst := some 102, op := Op.load _ (Operand.tmp 101), type := _, pos := "ref.go:90", after := #[{ on := 41, ground := Ground.data }], guard := none }) (v := .slice r.queue.a r.queue.len r.queue.cap) rfl (by kernel_rfl) (by kernel_rfl) (by kernel_rfl) (fun _ _ _ h => h) (Or.inl ⟨by rfl, ?_⟩) hHeld ?_
    · intro w' hSw
      have k0 := (cell_of_row w' _ 25 _ _ _ hSw.b).trans HBt.out.queue
      go_simp
    try simp only [Act.put, List.setIfInBounds_toArray, List.set_cons_zero, List.set_cons_succ]
    refine wpAnyH_take (i := 45) (oi := { dst := some 105, op := Op.fieldAddr _ (Operand.tmp 2) 8, type := _, pos := "ref.go:90", after := #[], guard := none }) (v := .pointer (some ⟨w.heap.size, 26, none⟩)) rfl (by kernel_rfl) (by kernel_rfl) (by kernel_rfl) (fun _ _ _ h => h) (Or.inl ⟨by rfl, ?_⟩) hHeld ?_
    · intro w' hSw
      skip
      go_simp
    try simp only [Act.put, List.setIfInBounds_toArray, List.set_cons_zero, List.set_cons_succ]
    refine wpAnyH_take (i := 46) (oi := { dst := some 106, op := Op.load _ (Operand.tmp 105), type := _, pos := "ref.go:90", after := #[{ on := 45, ground := Ground.data }], guard := none }) (v := .slice s.script.a s.script.len s.script.cap) rfl (by kernel_rfl) (by kernel_rfl) (by kernel_rfl) (fun _ _ _ h => h) (Or.inl ⟨by rfl, ?_⟩) hHeld ?_
    · intro w' hSw
      have k0 := (cell_of_row w' _ 26 _ _ _ hSw.a).trans HAt.out.script
      go_simp
    try simp only [Act.put, List.setIfInBounds_toArray, List.set_cons_zero, List.set_cons_succ]
    refine wpAnyH_take (i := 47) (oi := { dst := some 107, op := Op.fieldAddr _ (Operand.tmp 3) 8, type := _, pos := "ref.go:90", after := #[], guard := none }) (v := .pointer (some ⟨w.heap.size + 1, 26, none⟩)) rfl (by kernel_rfl) (by kernel_rfl) (by kernel_rfl) (fun _ _ _ h => h) (Or.inl ⟨by rfl, ?_⟩) hHeld ?_
    · intro w' hSw
      skip
      go_simp
    try simp only [Act.put, List.setIfInBounds_toArray, List.set_cons_zero, List.set_cons_succ]
    refine wpAnyH_take (i := 48) (oi := { dst := some 108, op := Op.load _ (Operand.tmp 107), type := _, pos := "ref.go:90", after := #[{ on := 47, ground := Ground.data }], guard := none }) (v := .slice r.script.a r.script.len r.script.cap) rfl (by kernel_rfl) (by kernel_rfl) (by kernel_rfl) (fun _ _ _ h => h) (Or.inl ⟨by rfl, ?_⟩) hHeld ?_
    · intro w' hSw
      have k0 := (cell_of_row w' _ 26 _ _ _ hSw.b).trans HBt.out.script
      go_simp
    try simp only [Act.put, List.setIfInBounds_toArray, List.set_cons_zero, List.set_cons_succ]
    refine wpAnyH_take (i := 51) (oi := { dst := some 111, op := Op.move (Operand.tmp 5), type := _, pos := "ref.go:90", after := #[], guard := none }) (v := .bool (!dn)) rfl (by kernel_rfl) (by kernel_rfl) (by kernel_rfl) (fun _ _ _ h => h) (Or.inl ⟨by rfl, ?_⟩) hHeld ?_
    · intro w' hSw
      skip
      go_simp
    try simp only [Act.put, List.setIfInBounds_toArray, List.set_cons_zero, List.set_cons_succ]
    refine wpAnyH_take (i := 52) (oi := { dst := some 112, op := Op.unOp UnOp.not _ (Operand.tmp 111), type := _, pos := "ref.go:90", after := #[{ on := 51, ground := Ground.data }], guard := none }) (v := .bool dn) rfl (by kernel_rfl) (by kernel_rfl) (by kernel_rfl) (fun _ _ _ h => h) (Or.inl ⟨by rfl, ?_⟩) hHeld ?_
    · intro w' hSw
      skip
      go_simp
    try simp only [Act.put, List.setIfInBounds_toArray, List.set_cons_zero, List.set_cons_succ]
    refine wpAnyH_ready (rs := [19]) (by kernel_rfl) (by simp) ?_
    refine AllReadyH.cons (o := { dst := some 79, op := Op.call { callee := Callee.value (Operand.func _), args := #[Operand.tmp 76, Operand.tmp 78], argTypes := _ }, type := _, pos := "ref.go:90", after := #[{ on := 16, ground := Ground.data }, { on := 18, ground := Ground.data }], guard := none }) rfl (fun K hK => ?_) AllReadyH.nil
    go_simp
    go_at_call 15
    refine (HMem.out _ hHeld.below).mono ?_
    rintro e w19 ⟨rfl, q19, hw19⟩
    refine hK.out _ _ (hHeld.next (by rw [hw19]; exact below_drewN (Below.refl _ _) q19)) (fun hHeld => ?_)
    clear hK K hw19
    try simp only [Act.put, List.setIfInBounds_toArray, List.set_cons_zero, List.set_cons_succ]
    refine wpAnyH_take (i := 20) (oi := { dst := some 80, op := Op.binOp BinOp.geq _ (Operand.tmp 79) (Operand.const (Value.int IntKind.i64 0)) _, type := _, pos := "ref.go:90", after := #[{ on := 19, ground := Ground.data }], guard := none }) (v := .bool (decide (0 ≤ fl3))) rfl (by kernel_rfl) (by kernel_rfl) (by kernel_rfl) (fun _ _ _ h => h) (Or.inl ⟨by rfl, ?_⟩) hHeld ?_
    · intro w' hSw
      skip
      go_simp
    try simp only [Act.put, List.setIfInBounds_toArray, List.set_cons_zero, List.set_cons_succ]
    refine wpAnyH_ready (rs := [25]) (by kernel_rfl) (by simp) ?_
    refine AllReadyH.cons (o := { dst := some 85, op := Op.call { callee := Callee.value (Operand.func _), args := #[Operand.tmp 82, Operand.tmp 84], argTypes := _ }, type := _, pos := "ref.go:90", after := #[{ on := 22, ground := Ground.data }, { on := 24, ground := Ground.data }, { on := 19, ground := Ground.chain }], guard := none }) rfl (fun K hK => ?_) AllReadyH.nil
    go_simp
    go_at_call 10
    refine (HNotes.out _ hHeld.below).mono ?_
    rintro e w25 ⟨rfl, q25, hw25⟩
    refine hK.out _ _ (hHeld.next (by rw [hw25]; exact below_drewN (Below.refl _ _) q25)) (fun hHeld => ?_)
    clear hK K hw25
    try simp only [Act.put, List.setIfInBounds_toArray, List.set_cons_zero, List.set_cons_succ]
    refine wpAnyH_take (i := 26) (oi := { dst := some 86, op := Op.binOp BinOp.geq _ (Operand.tmp 85) (Operand.const (Value.int IntKind.i64 0)) _, type := _, pos := "ref.go:90", after := #[{ on := 25, ground := Ground.data }], guard := none }) (v := .bool (decide (0 ≤ fl4))) rfl (by kernel_rfl) (by kernel_rfl) (by kernel_rfl) (fun _ _ _ h => h) (Or.inl ⟨by rfl, ?_⟩) hHeld ?_
    · intro w' hSw
      skip
      go_simp
    try simp only [Act.put, List.setIfInBounds_toArray, List.set_cons_zero, List.set_cons_succ]
    refine wpAnyH_ready (rs := [31]) (by kernel_rfl) (by simp) ?_
    refine AllReadyH.cons (o := { dst := some 91, op := Op.call { callee := Callee.value (Operand.func _), args := #[Operand.tmp 88, Operand.tmp 90], argTypes := _ }, type := _, pos := "ref.go:90", after := #[{ on := 28, ground := Ground.data }, { on := 30, ground := Ground.data }, { on := 25, ground := Ground.chain }], guard := none }) rfl (fun K hK => ?_) AllReadyH.nil
    go_simp
    go_at_call 15
    refine (HOut.out _ hHeld.below).mono ?_
    rintro e w31 ⟨rfl, q31, hw31⟩
    refine hK.out _ _ (hHeld.next (by rw [hw31]; exact below_drewN (Below.refl _ _) q31)) (fun hHeld => ?_)
    clear hK K hw31
    try simp only [Act.put, List.setIfInBounds_toArray, List.set_cons_zero, List.set_cons_succ]
    refine wpAnyH_take (i := 32) (oi := { dst := some 92, op := Op.binOp BinOp.geq _ (Operand.tmp 91) (Operand.const (Value.int IntKind.i64 0)) _, type := _, pos := "ref.go:90", after := #[{ on := 31, ground := Ground.data }], guard := none }) (v := .bool (decide (0 ≤ fl5))) rfl (by kernel_rfl) (by kernel_rfl) (by kernel_rfl) (fun _ _ _ h => h) (Or.inl ⟨by rfl, ?_⟩) hHeld ?_
    · intro w' hSw
      skip
      go_simp
    try simp only [Act.put, List.setIfInBounds_toArray, List.set_cons_zero, List.set_cons_succ]
    refine wpAnyH_ready (rs := [37]) (by kernel_rfl) (by simp) ?_
    refine AllReadyH.cons (o := { dst := some 97, op := Op.call { callee := Callee.value (Operand.func _), args := #[Operand.tmp 94, Operand.tmp 96], argTypes := _ }, type := _, pos := "ref.go:90", after := #[{ on := 34, ground := Ground.data }, { on := 36, ground := Ground.data }, { on := 31, ground := Ground.chain }], guard := none }) rfl (fun K hK => ?_) AllReadyH.nil
    go_simp
    go_at_call 15
    refine (HDisk.out _ hHeld.below).mono ?_
    rintro e w37 ⟨rfl, q37, hw37⟩
    refine hK.out _ _ (hHeld.next (by rw [hw37]; exact below_drewN (Below.refl _ _) q37)) (fun hHeld => ?_)
    clear hK K hw37
    try simp only [Act.put, List.setIfInBounds_toArray, List.set_cons_zero, List.set_cons_succ]
    refine wpAnyH_take (i := 38) (oi := { dst := some 98, op := Op.binOp BinOp.geq _ (Operand.tmp 97) (Operand.const (Value.int IntKind.i64 0)) _, type := _, pos := "ref.go:90", after := #[{ on := 37, ground := Ground.data }], guard := none }) (v := .bool (decide (0 ≤ fl6))) rfl (by kernel_rfl) (by kernel_rfl) (by kernel_rfl) (fun _ _ _ h => h) (Or.inl ⟨by rfl, ?_⟩) hHeld ?_
    · intro w' hSw
      skip
      go_simp
    try simp only [Act.put, List.setIfInBounds_toArray, List.set_cons_zero, List.set_cons_succ]
    refine wpAnyH_ready (rs := [43]) (by kernel_rfl) (by simp) ?_
    refine AllReadyH.cons (o := { dst := some 103, op := Op.call { callee := Callee.value (Operand.func _), args := #[Operand.tmp 100, Operand.tmp 102], argTypes := _ }, type := _, pos := "ref.go:90", after := #[{ on := 40, ground := Ground.data }, { on := 42, ground := Ground.data }, { on := 37, ground := Ground.chain }], guard := none }) rfl (fun K hK => ?_) AllReadyH.nil
    go_simp
    go_at_call 15
    refine (HQueue.out _ hHeld.below).mono ?_
    rintro e w43 ⟨rfl, q43, hw43⟩
    refine hK.out _ _ (hHeld.next (by rw [hw43]; exact below_drewN (Below.refl _ _) q43)) (fun hHeld => ?_)
    clear hK K hw43
    try simp only [Act.put, List.setIfInBounds_toArray, List.set_cons_zero, List.set_cons_succ]
    refine wpAnyH_take (i := 44) (oi := { dst := some 104, op := Op.binOp BinOp.geq _ (Operand.tmp 103) (Operand.const (Value.int IntKind.i64 0)) _, type := _, pos := "ref.go:90", after := #[{ on := 43, ground := Ground.data }], guard := none }) (v := .bool (decide (0 ≤ fl7))) rfl (by kernel_rfl) (by kernel_rfl) (by kernel_rfl) (fun _ _ _ h => h) (Or.inl ⟨by rfl, ?_⟩) hHeld ?_
    · intro w' hSw
      skip
      go_simp
    try simp only [Act.put, List.setIfInBounds_toArray, List.set_cons_zero, List.set_cons_succ]
    refine wpAnyH_ready (rs := [49]) (by kernel_rfl) (by simp) ?_
    refine AllReadyH.cons (o := { dst := some 109, op := Op.call { callee := Callee.value (Operand.func _), args := #[Operand.tmp 106, Operand.tmp 108], argTypes := _ }, type := _, pos := "ref.go:90", after := #[{ on := 46, ground := Ground.data }, { on := 48, ground := Ground.data }, { on := 43, ground := Ground.chain }], guard := none }) rfl (fun K hK => ?_) AllReadyH.nil
    go_simp
    go_at_call 12
    refine (HEvents.out _ hHeld.below).mono ?_
    rintro e w49 ⟨rfl, q49, hw49⟩
    refine hK.out _ _ (hHeld.next (by rw [hw49]; exact below_drewN (Below.refl _ _) q49)) (fun hHeld => ?_)
    clear hK K hw49
    try simp only [Act.put, List.setIfInBounds_toArray, List.set_cons_zero, List.set_cons_succ]
    refine wpAnyH_take (i := 50) (oi := { dst := some 110, op := Op.binOp BinOp.geq _ (Operand.tmp 109) (Operand.const (Value.int IntKind.i64 0)) _, type := _, pos := "ref.go:90", after := #[{ on := 49, ground := Ground.data }], guard := none }) (v := .bool (decide (0 ≤ fl8))) rfl (by kernel_rfl) (by kernel_rfl) (by kernel_rfl) (fun _ _ _ h => h) (Or.inl ⟨by rfl, ?_⟩) hHeld ?_
    · intro w' hSw
      skip
      go_simp
    try simp only [Act.put, List.setIfInBounds_toArray, List.set_cons_zero, List.set_cons_succ]
    refine wpAnyH_ready (rs := [53]) (by kernel_rfl) (by simp) ?_
    refine AllReadyH.cons (o := { dst := some 113, op := Op.buildSlice 45 10 #[(0, Operand.tmp 64), (1, Operand.tmp 69), (2, Operand.tmp 74), (3, Operand.tmp 80), (4, Operand.tmp 86), (5, Operand.tmp 92), (6, Operand.tmp 98), (7, Operand.tmp 104), (8, Operand.tmp 110), (9, Operand.tmp 112)], type := _, pos := "ref.go:90", after := #[{ on := 4, ground := Ground.data }, { on := 9, ground := Ground.data }, { on := 14, ground := Ground.data }, { on := 20, ground := Ground.data }, { on := 26, ground := Ground.data }, { on := 32, ground := Ground.data }, { on := 38, ground := Ground.data }, { on := 44, ground := Ground.data }, { on := 50, ground := Ground.data }, { on := 52, ground := Ground.data }], guard := none }) rfl (fun K hK => ?_) AllReadyH.nil
    go_simp
    have hSz := hHeld.below.size
    refine hK.out _ _ (hHeld.next (below_alloc1 _ _)) (fun hHeld => ?_)
    clear hK K
    try simp only [Act.put, List.setIfInBounds_toArray, List.set_cons_zero, List.set_cons_succ]
    refine wpAnyH_take (i := 54) (oi := { dst := some 4, op := Op.assign (Operand.tmp 113), type := _, pos := "ref.go:90", after := #[{ on := 53, ground := Ground.data }, { on := 49, ground := Ground.chain }, { on := 0, ground := Ground.phase }, { on := 1, ground := Ground.phase }, { on := 2, ground := Ground.phase }, { on := 3, ground := Ground.phase }, { on := 4, ground := Ground.phase }, { on := 5, ground := Ground.phase }, { on := 6, ground := Ground.phase }, { on := 7, ground := Ground.phase }, { on := 8, ground := Ground.phase }, { on := 9, ground := Ground.phase }, { on := 10, ground := Ground.phase }, { on := 11, ground := Ground.phase }, { on := 12, ground := Ground.phase }, { on := 13, ground := Ground.phase }, { on := 14, ground := Ground.phase }, { on := 15, ground := Ground.phase }, { on := 16, ground := Ground.phase }, { on := 17, ground := Ground.phase }, { on := 18, ground := Ground.phase }, { on := 19, ground := Ground.phase }, { on := 20, ground := Ground.phase }, { on := 21, ground := Ground.phase }, { on := 22, ground := Ground.phase }, { on := 23, ground := Ground.phase }, { on := 24, ground := Ground.phase }, { on := 25, ground := Ground.phase }, { on := 26, ground := Ground.phase }, { on := 27, ground := Ground.phase }, { on := 28, ground := Ground.phase }, { on := 29, ground := Ground.phase }, { on := 30, ground := Ground.phase }, { on := 31, ground := Ground.phase }, { on := 32, ground := Ground.phase }, { on := 33, ground := Ground.phase }, { on := 34, ground := Ground.phase }, { on := 35, ground := Ground.phase }, { on := 36, ground := Ground.phase }, { on := 37, ground := Ground.phase }, { on := 38, ground := Ground.phase }, { on := 39, ground := Ground.phase }, { on := 40, ground := Ground.phase }, { on := 41, ground := Ground.phase }, { on := 42, ground := Ground.phase }, { on := 43, ground := Ground.phase }, { on := 44, ground := Ground.phase }, { on := 45, ground := Ground.phase }, { on := 46, ground := Ground.phase }, { on := 47, ground := Ground.phase }, { on := 48, ground := Ground.phase }, { on := 49, ground := Ground.phase }, { on := 50, ground := Ground.phase }, { on := 51, ground := Ground.phase }, { on := 52, ground := Ground.phase }, { on := 53, ground := Ground.phase }], guard := none }) (v := .slice (some ⟨w49.heap.size, 0, none⟩) 10 10) rfl (by kernel_rfl) (by kernel_rfl) (by kernel_rfl) (fun _ _ _ h => h) (Or.inl ⟨by rfl, ?_⟩) hHeld ?_
    · intro w' hSw
      skip
      go_simp
    try simp only [Act.put, List.setIfInBounds_toArray, List.set_cons_zero, List.set_cons_succ]
    refine wpAnyH_done (by kernel_rfl) ?_ _
    go_wp2_with fail
    go_ret
    exact ⟨w49.heap.size, rfl, hSz, heap_new' rfl, hHeld.below⟩
end Go.Proofs.YtjnakhejdpkfnaaDoor
