/- judge: how a difference is told: the closures of numbers, list, bytes. (Written by mkJE.py.) -/
import Derived.Test.YtjnakhejdpkfnaaDoorJudD
import Derived.Deep.RegionHeld3
namespace Go.Proofs.YtjnakhejdpkfnaaDoor
open Go.RowKit
set_option linter.unusedSimpArgs false
set_option linter.unusedVariables false
set_option maxRecDepth 100000

/-- Two boxes of numbers. -/
structure NB2 (p q : Nat) (x y : Int) (w : World) : Prop where
  a : w.heap[p]? = some (.cells #[.int .i64 x] 3 (0, 0))
  b : w.heap[q]? = some (.cells #[.int .i64 y] 3 (0, 0))
theorem lt_of_rowJ {w : World} {k : Nat} {o : Obj} (h : w.heap[k]? = some o) : k < w.heap.size := (Array.getElem?_eq_some_iff.1 h).1
theorem NB2.next {p q : Nat} {x y : Int} {w w1 : World} (h : NB2 p q x y w) (hb : Below w.heap.size w w1) : NB2 p q x y w1 :=
  ⟨(hb.block _ (lt_of_rowJ h.a)).trans h.a, (hb.block _ (lt_of_rowJ h.b)).trans h.b⟩
theorem TBox.next {w w1 : World} {bt : Nat} {s : ByteArray} (h : TBox w bt s) (hb : Below w.heap.size w w1) : TBox w1 bt s := ⟨(hb.block _ (lt_of_rowJ h.t)).trans h.t⟩
theorem grown_belowJ {w w1 : World} (hb : Below w.heap.size w w1) (r : Option Nat) : w.grownBy w1 r := ⟨hb.os, hb.tape, hb.output, hb.size, fun k hk _ => hb.block k hk⟩
theorem pTab_on {w w1 : World} (HT : Hid (pTab w)) (hb : Below w.heap.size w w1) : Hid (pTab w1) := Lib.hid (fun w' h => HT.out w' (hb.trans (h.mono hb.size)))
theorem tab_at {w w1 : World} (HT : Hid (pTab w)) (hb : Below w.heap.size w w1) : Lib.TabIs Tryd.prog w1 "internal/strconv.uint64pow10" .u64 Lib.pow10Tab := (HT.out.on hb).here
theorem bothS_size {a b : ByteArray} (ha : a.size ≤ 20) (hb : b.size ≤ 20) : (bothS a b).size ≤ 42 := by
  unfold bothS; rw [ByteArray.size_append, ByteArray.size_append]; show a.size + 2 + b.size ≤ 42; omega

abbrev sayV (bt : Nat) : Value := .func (.func 31) #[.pointer (some ⟨bt, 0, none⟩)] #[]

set_option maxHeartbeats 4000000 in
theorem numbers1_c (p q bt : Nat) (x y : Int) (s : ByteArray) (hs : s.size ≤ 900) (hx0 : -9223372036854775808 ≤ x) (hx1 : x ≤ 9223372036854775807) (hy0 : -9223372036854775808 ≤ y) (hy1 : y ≤ 9223372036854775807) (w : World) (hN : NB2 p q x y w) (hb : TBox w bt s) (HT : Hid (pTab w)) (hpa : ¬ p = bt) (hpb : ¬ q = bt) :
    Calls Tryd.prog 48 #[sayV bt, .pointer (some ⟨p, 0, none⟩), .pointer (some ⟨q, 0, none⟩)] w fun e w' => (∃ v, e = .returned v) ∧ TBox w' bt (sayS s (bothS (numS x) (numS y))) ∧ w.grownBy w' (some bt) := by
  have HX := Lib.hid fun (W : World) (hb : Below w.heap.size w W) => number_c x hx0 hx1 W (tab_at HT hb)
  have HY := Lib.hid fun (W : World) (hb : Below w.heap.size w W) => number_c y hy0 hy1 W (tab_at HT hb)
  have zx := numS_size x hx0 hx1
  have zy := numS_size y hy0 hy1
  generalize numS x = X at HX zx ⊢
  generalize numS y = Y at HY zy ⊢
  have HB := Lib.hid fun (W : World) => both_c X Y (by omega) (by omega) W
  have HS := Lib.hid fun (W : World) (h : TBox W bt s) => say_c s (bothS X Y) bt (by omega) (by have := bothS_size zx zy; omega) W h
  generalize bothS X Y = Z at HB HS ⊢
  have HN := Lib.hid hN
  have HTB := Lib.hid hb
  clear hN hb
  go_enter Tryd.func48, Tryd.ntmps48
  go_wp2_with fail
  have B0 : Below w.heap.size w w.drew := (Below.refl _ _).drew
  refine wp_region_held_drew (S := fun w' => NB2 p q x y w') (by kernel_rfl) (HN.out.next B0) (fun hHeld => ?_)
  refine wpAnyH_take (i := 0) (oi := { dst := some 4, op := Op.move (Operand.tmp 0), type := _, pos := "judge.go:129", after := #[], guard := none }) (v := sayV bt) rfl (by kernel_rfl) (by kernel_rfl) (by kernel_rfl) (fun _ _ _ h => h) (Or.inl ⟨by rfl, ?_⟩) hHeld ?_
  · intro w' hSw
    have k0 := cell_of_row w' _ 0 _ _ _ hSw.a
    have j0 := cell_of_row w' _ 0 _ _ _ hSw.b
    simp at k0 j0
    go_simp
  try simp only [Act.put, List.setIfInBounds_toArray, List.set_cons_zero, List.set_cons_succ]
  refine wpAnyH_take (i := 1) (oi := { dst := some 5, op := Op.load _ (Operand.tmp 1), type := _, pos := "judge.go:129", after := #[], guard := none }) (v := .int .i64 x) rfl (by kernel_rfl) (by kernel_rfl) (by kernel_rfl) (fun _ _ _ h => h) (Or.inl ⟨by rfl, ?_⟩) hHeld ?_
  · intro w' hSw
    have k0 := cell_of_row w' _ 0 _ _ _ hSw.a
    have j0 := cell_of_row w' _ 0 _ _ _ hSw.b
    simp at k0 j0
    go_simp
  try simp only [Act.put, List.setIfInBounds_toArray, List.set_cons_zero, List.set_cons_succ]
  refine wpAnyH_take (i := 3) (oi := { dst := some 7, op := Op.load _ (Operand.tmp 2), type := _, pos := "judge.go:129", after := #[], guard := none }) (v := .int .i64 y) rfl (by kernel_rfl) (by kernel_rfl) (by kernel_rfl) (fun _ _ _ h => h) (Or.inl ⟨by rfl, ?_⟩) hHeld ?_
  · intro w' hSw
    have k0 := cell_of_row w' _ 0 _ _ _ hSw.a
    have j0 := cell_of_row w' _ 0 _ _ _ hSw.b
    simp at k0 j0
    go_simp
  try simp only [Act.put, List.setIfInBounds_toArray, List.set_cons_zero, List.set_cons_succ]
  refine wpAnyH_ready (rs := [2]) (by kernel_rfl) (by simp) ?_
  refine AllReadyH.cons (o := { dst := some 6, op := Op.call { callee := Callee.value (Operand.func _), args := #[Operand.tmp 5], argTypes := _ }, type := _, pos := "judge.go:129", after := #[{ on := 1, ground := Ground.data }], guard := none }) rfl (fun K hK => ?_) AllReadyH.nil
  go_simp
  go_at_call 50
  refine (HX.out _ B0).mono ?_
  rintro e w2 ⟨rfl, hb2⟩
  have B2 := below_nextJ B0 hb2
  refine hK.out _ _ (hHeld.next hb2) (fun hHeld => ?_)
  clear hK K
  try simp only [Act.put, List.setIfInBounds_toArray, List.set_cons_zero, List.set_cons_succ]
  refine wpAnyH_ready (rs := [4]) (by kernel_rfl) (by simp) ?_
  refine AllReadyH.cons (o := { dst := some 8, op := Op.call { callee := Callee.value (Operand.func _), args := #[Operand.tmp 7], argTypes := _ }, type := _, pos := "judge.go:129", after := #[{ on := 3, ground := Ground.data }, { on := 2, ground := Ground.chain }], guard := none }) rfl (fun K hK => ?_) AllReadyH.nil
  go_simp
  go_at_call 50
  refine (HY.out _ B2).mono ?_
  rintro e w4 ⟨rfl, hb4⟩
  have B4 := below_nextJ B2 hb4
  refine hK.out _ _ (hHeld.next hb4) (fun hHeld => ?_)
  clear hK K
  try simp only [Act.put, List.setIfInBounds_toArray, List.set_cons_zero, List.set_cons_succ]
  refine wpAnyH_ready (rs := [5]) (by kernel_rfl) (by simp) ?_
  refine AllReadyH.cons (o := { dst := some 9, op := Op.call { callee := Callee.value (Operand.func _), args := #[Operand.tmp 6, Operand.tmp 8], argTypes := _ }, type := _, pos := "judge.go:129", after := #[{ on := 2, ground := Ground.data }, { on := 4, ground := Ground.data }, { on := 4, ground := Ground.chain }], guard := none }) rfl (fun K hK => ?_) AllReadyH.nil
  go_simp
  go_at_call 49
  refine (HB.out _).mono ?_
  rintro e w5 ⟨rfl, rfl⟩
  have B5 := B4
  refine hK.out _ _ hHeld (fun hHeld => ?_)
  clear hK K
  try simp only [Act.put, List.setIfInBounds_toArray, List.set_cons_zero, List.set_cons_succ]
  refine wpAnyH_ready (rs := [6]) (by kernel_rfl) (by simp) ?_
  refine AllReadyH.cons (o := { dst := some 10, op := Op.call { callee := Callee.value (Operand.tmp 4), args := #[Operand.tmp 9], argTypes := _ }, type := _, pos := "judge.go:129", after := #[{ on := 0, ground := Ground.data }, { on := 5, ground := Ground.data }, { on := 5, ground := Ground.chain }], guard := none }) rfl (fun K hK => ?_) AllReadyH.nil
  go_simp
  go_at_call 31
  refine (HS.out _ (HTB.out.next B5)).mono ?_
  rintro e w6 ⟨⟨v6, rfl⟩, hT6, hg6⟩
  refine hK.out _ _ ⟨(hg6.block _ (lt_of_rowJ hHeld.a) (by simpa using hpa)).trans hHeld.a, (hg6.block _ (lt_of_rowJ hHeld.b) (by simpa using hpb)).trans hHeld.b⟩ (fun hHeld => ?_)
  clear hK K
  try simp only [Act.put, List.setIfInBounds_toArray, List.set_cons_zero, List.set_cons_succ]
  refine wpAnyH_done (by kernel_rfl) ?_ _
  go_wp2_with fail
  go_end0
  exact ⟨⟨_, rfl⟩, hT6, grownBy_thenJ (grown_belowJ B5 _) hg6⟩
end Go.Proofs.YtjnakhejdpkfnaaDoor
