/- judge: how a part that is bytes, a list or the state is told. (Written by mkJV.py.) -/
import Derived.Test.YtjnakhejdpkfnaaDoorJudJ
import Derived.Test.YtjnakhejdpkfnaaDoorJudT
namespace Go.Proofs.YtjnakhejdpkfnaaDoor
open Go.RowKit
set_option linter.unusedSimpArgs false
set_option linter.unusedVariables false
set_option maxRecDepth 100000

/-- A byte at a place, told. -/
def atS (L : List Int) (n : Nat) : ByteArray := match L[n]? with
  | some x => numS x
  | none => ⟨#[110, 111, 110, 101]⟩
theorem atS_size (L : List Int) (n : Nat) (h : ∀ x ∈ L, 0 ≤ x ∧ x < 256) : (atS L n).size ≤ 20 := by
  unfold atS
  split
  · rename_i x hx
    have := h x (List.mem_of_getElem? hx)
    exact numS_size x (by omega) (by omega)
  · show (4 : Nat) ≤ 20; omega

set_option maxHeartbeats 2000000 in
theorem at_c (ao : Option Addr) (la ca : Nat) (L : List Int) (n : Nat) (hn : n < 9223372036854775808) (w : World) (hA : ByteArg w ao la ca L) (ht : Lib.TabIs Tryd.prog w "internal/strconv.uint64pow10" .u64 Lib.pow10Tab) :
    Calls Tryd.prog 53 #[.slice ao la ca, .int .i64 (n : Int)] w fun e w' => e = .returned (.string (atS L n)) ∧ Below w.heap.size w w' := by
  obtain ⟨a1, a2, a3, a4, a5⟩ := hA
  subst a1
  by_cases c : n < L.length
  · obtain ⟨blk, off, rfl, hc⟩ : ∃ blk off, ao = some ⟨blk, off, none⟩ ∧ ∀ i, i < L.length → w.cell? ⟨blk, off + i, none⟩ = some (.int .u8 (L.getD i 0)) := by
      rcases a5 with h | h
      · rw [h] at c; simp at c
      · exact h
    have x1 := hc n c
    have i0 : ¬ (L.length : Int) ≤ (n : Int) := by omega
    have i1 : (n : Int) < (L.length : Int) := by omega
    have g1 : L[n]? = some (L.getD n 0) := by simp [List.getD, List.getElem?_eq_getElem c]
    have hb := a4 _ (List.mem_of_getElem? g1)
    have HG := Lib.hid (show atS L n = numS (L.getD n 0) from by unfold atS; rw [g1])
    have e1 : decide (L.length ≤ n) = false := by simp; omega
    clear g1 hc a4
    generalize L.getD n 0 = y at x1 HG hb
    have hw : IntKind.i64.wrap y = y := IntWalk.i64_in _ (by omega)
    have HN := Lib.hid (number_c y (by omega) (by omega) w ht)
    clear ht
    rw [HG.out]
    clear HG
    generalize numS y = s at HN ⊢
    go_enter Tryd.func53, Tryd.ntmps53
    go_wp2_with fail
    refine (HN.out).mono ?_
    rintro e w1 ⟨rfl, hb⟩
    go_wp2_with fail
    go_ret
    exact ⟨rfl, hb⟩
  · have i0 : (L.length : Int) ≤ (n : Int) := by omega
    have e1 : decide (L.length ≤ n) = true := by simp; omega
    have HG := Lib.hid (show atS L n = ⟨#[110, 111, 110, 101]⟩ from by unfold atS; rw [List.getElem?_eq_none (by omega)])
    clear a4 a5 ht
    rw [HG.out]
    clear HG
    go_enter Tryd.func53, Tryd.ntmps53
    go_wp2_with fail
    go_ret
    exact ⟨rfl, Below.refl _ _⟩

theorem below_sayJ {a w w' : World} {bt : Nat} (h : Below a.heap.size a w) (hbt : a.heap.size ≤ bt) (hg : w.grownBy w' (some bt)) : Below a.heap.size a w' :=
  h.grown hg h.size (fun j hj => by cases hj; omega)
theorem sayS_size (s x : ByteArray) : (sayS s x).size ≤ s.size + x.size + 1 := by
  unfold sayS
  split
  · rw [ByteArray.size_append]; omega
  · rw [ByteArray.size_append, ByteArray.size_append]; show s.size + 1 + x.size ≤ _; omega

set_option maxHeartbeats 4000000 in
theorem list1_c (p bt n : Nat) (hn : n < 9223372036854775808) (s : ByteArray) (hs : s.size ≤ 200) (w0 : World) (hp : w0.heap[p]? = some (.cells #[.int .i64 (n : Int)] 3 (0, 0))) (HT : Hid (pTab w0)) (hbt : w0.heap.size ≤ bt) (w : World) (h0 : Below w0.heap.size w0 w) (hb : TBox w bt s) :
    Calls Tryd.prog 54 #[sayV bt, .pointer (some ⟨p, 0, none⟩)] w fun e w' => (∃ v, e = .returned v) ∧ TBox w' bt (sayS (sayS s ⟨#[97, 116]⟩) (numS (n : Int))) ∧ w.grownBy w' (some bt) := by
  have HX := Lib.hid fun (W : World) (hb : Below w0.heap.size w0 W) => number_c (n : Int) (by omega) (by omega) W (tab_at HT hb)
  have zx := numS_size (n : Int) (by omega) (by omega)
  generalize numS (n : Int) = X at HX zx ⊢
  have z1 : (⟨#[97, 116]⟩ : ByteArray).size = 2 := rfl
  have HS1 := Lib.hid fun (W : World) (h : TBox W bt s) => say_c s ⟨#[97, 116]⟩ bt (by omega) (by omega) W h
  have z2 := sayS_size s ⟨#[97, 116]⟩
  generalize sayS s ⟨#[97, 116]⟩ = S1 at HS1 z2 ⊢
  have HS2 := Lib.hid fun (W : World) (h : TBox W bt S1) => say_c S1 X bt (by omega) (by omega) W h
  have z3 := sayS_size S1 X
  generalize sayS S1 X = S2 at HS2 z3 ⊢
  have HP := Lib.hid fun (W : World) (hb : Below w0.heap.size w0 W) => (cell_of_row W p 0 _ _ _ ((hb.block _ (lt_of_rowJ hp)).trans hp)).trans rfl
  have HTB := Lib.hid hb
  clear hb hp HT
  go_enter Tryd.func54, Tryd.ntmps54
  go_wp2_with fail
  refine (HS1.out _ HTB.out).mono ?_
  rintro e w1 ⟨⟨v1, rfl⟩, hT1, hg1⟩
  have B1 := below_sayJ h0 hbt hg1
  have k0 := HP.out _ B1
  have HT1 := Lib.hid hT1
  clear hT1
  go_wp2_with fail
  refine (HX.out _ B1).mono ?_
  rintro e w2 ⟨rfl, hb2⟩
  have B2 := below_nextJ B1 hb2
  go_wp2_with fail
  refine (HS2.out _ (HT1.out.next hb2)).mono ?_
  rintro e w3 ⟨⟨v3, rfl⟩, hT3, hg3⟩
  go_wp2_with fail
  go_end0
  exact ⟨⟨_, rfl⟩, hT3, grownBy_thenJ (grownBy_thenJ hg1 (grown_belowJ hb2 _)) hg3⟩

set_option maxHeartbeats 8000000 in
theorem bytes1_c (p q k bt n : Nat) (hn : n < 9223372036854775808) (ao bo : Option Addr) (la ca lb cb : Nat) (L M : List Int) (s : ByteArray) (hs : s.size ≤ 200) (w0 : World) (hB : BBox p q k (.slice ao la ca) (.slice bo lb cb) (n : Int) w0) (hL : ByteArg w0 ao la ca L) (hM : ByteArg w0 bo lb cb M) (HT : Hid (pTab w0)) (hbt : w0.heap.size ≤ bt) (w : World) (h0 : Below w0.heap.size w0 w) (hb : TBox w bt s) :
    Calls Tryd.prog 52 #[sayV bt, .pointer (some ⟨k, 0, none⟩), .pointer (some ⟨p, 0, none⟩), .pointer (some ⟨q, 0, none⟩)] w fun e w' => (∃ v, e = .returned v) ∧ TBox w' bt (sayS (sayS (sayS s ⟨#[97, 116]⟩) (numS (n : Int))) (bothS (atS L n) (atS M n))) ∧ w.grownBy w' (some bt) := by
  have HX := Lib.hid fun (W : World) (hb : Below w0.heap.size w0 W) => number_c (n : Int) (by omega) (by omega) W (tab_at HT hb)
  have HA1 := Lib.hid fun (W : World) (hb : Below w0.heap.size w0 W) => at_c ao la ca L n hn W (hL.below hb) (tab_at HT hb)
  have HA2 := Lib.hid fun (W : World) (hb : Below w0.heap.size w0 W) => at_c bo lb cb M n hn W (hM.below hb) (tab_at HT hb)
  have zx := numS_size (n : Int) (by omega) (by omega)
  have za1 := atS_size L n hL.2.2.2.1
  have za2 := atS_size M n hM.2.2.2.1
  generalize numS (n : Int) = X at HX zx ⊢
  generalize atS L n = Y1 at HA1 za1 ⊢
  generalize atS M n = Y2 at HA2 za2 ⊢
  have HB2 := Lib.hid fun (W : World) => both_c Y1 Y2 (by omega) (by omega) W
  have zz := bothS_size za1 za2
  generalize bothS Y1 Y2 = Z at HB2 zz ⊢
  have z1 : (⟨#[97, 116]⟩ : ByteArray).size = 2 := rfl
  have HS1 := Lib.hid fun (W : World) (h : TBox W bt s) => say_c s ⟨#[97, 116]⟩ bt (by omega) (by omega) W h
  have z2 := sayS_size s ⟨#[97, 116]⟩
  generalize sayS s ⟨#[97, 116]⟩ = S1 at HS1 z2 ⊢
  have HS2 := Lib.hid fun (W : World) (h : TBox W bt S1) => say_c S1 X bt (by omega) (by omega) W h
  have z3 := sayS_size S1 X
  generalize sayS S1 X = S2 at HS2 z3 ⊢
  have HS3 := Lib.hid fun (W : World) (h : TBox W bt S2) => say_c S2 Z bt (by omega) (by omega) W h
  generalize sayS S2 Z = S3 at HS3 ⊢
  have HK := Lib.hid fun (W : World) (hb : Below w0.heap.size w0 W) => (cell_of_row W k 0 _ _ _ ((hb.block _ (lt_of_rowJ hB.k)).trans hB.k)).trans rfl
  have HP := Lib.hid fun (W : World) (hb : Below w0.heap.size w0 W) => (cell_of_row W p 0 _ _ _ ((hb.block _ (lt_of_rowJ hB.a)).trans hB.a)).trans rfl
  have HQ := Lib.hid fun (W : World) (hb : Below w0.heap.size w0 W) => (cell_of_row W q 0 _ _ _ ((hb.block _ (lt_of_rowJ hB.b)).trans hB.b)).trans rfl
  have HTB := Lib.hid hb
  clear hb hB HT hL hM
  go_enter Tryd.func52, Tryd.ntmps52
  go_wp2_with fail
  refine (HS1.out _ HTB.out).mono ?_
  rintro e w1 ⟨⟨v1, rfl⟩, hT1, hg1⟩
  have B1 := below_sayJ h0 hbt hg1
  have k0 := HK.out _ B1
  have HT1 := Lib.hid hT1
  clear hT1
  go_wp2_with fail
  refine (HX.out _ B1).mono ?_
  rintro e w2 ⟨rfl, hb2⟩
  have B2 := below_nextJ B1 hb2
  clear k0
  go_wp2_with fail
  refine (HS2.out _ (HT1.out.next hb2)).mono ?_
  rintro e w3 ⟨⟨v3, rfl⟩, hT3, hg3⟩
  have B3 := below_sayJ B2 hbt hg3
  have HT3 := Lib.hid hT3
  clear hT3
  go_wp2_with fail
  have HT3d := Lib.hid (HT3.out.next ((Below.refl _ _).drew))
  have D0 : Below w3.heap.size w3 w3.drew := (Below.refl _ _).drew
  refine wp_region_held_drew (S := fun w' => Below w0.heap.size w0 w') (by kernel_rfl) (B3.trans (D0.mono B3.size)) (fun hHeld => ?_)
  refine wpAnyH_take (i := 0) (oi := { dst := some 11, op := Op.move (Operand.tmp 0), type := _, pos := "judge.go:115", after := #[], guard := none }) (v := sayV bt) rfl (by kernel_rfl) (by kernel_rfl) (by kernel_rfl) (fun _ _ _ h => h) (Or.inl ⟨by rfl, ?_⟩) hHeld ?_
  · intro w' hSw
    have k0 := HK.out _ hSw
    have j0 := HP.out _ hSw
    have i0 := HQ.out _ hSw
    simp at k0 j0 i0
    go_simp
  try simp only [Act.put, List.setIfInBounds_toArray, List.set_cons_zero, List.set_cons_succ]
  refine wpAnyH_take (i := 1) (oi := { dst := some 12, op := Op.load _ (Operand.tmp 2), type := _, pos := "judge.go:115", after := #[], guard := none }) (v := .slice ao la ca) rfl (by kernel_rfl) (by kernel_rfl) (by kernel_rfl) (fun _ _ _ h => h) (Or.inl ⟨by rfl, ?_⟩) hHeld ?_
  · intro w' hSw
    have k0 := HK.out _ hSw
    have j0 := HP.out _ hSw
    have i0 := HQ.out _ hSw
    simp at k0 j0 i0
    go_simp
  try simp only [Act.put, List.setIfInBounds_toArray, List.set_cons_zero, List.set_cons_succ]
  refine wpAnyH_take (i := 2) (oi := { dst := some 13, op := Op.load _ (Operand.tmp 1), type := _, pos := "judge.go:115", after := #[], guard := none }) (v := .int .i64 (n : Int)) rfl (by kernel_rfl) (by kernel_rfl) (by kernel_rfl) (fun _ _ _ h => h) (Or.inl ⟨by rfl, ?_⟩) hHeld ?_
  · intro w' hSw
    have k0 := HK.out _ hSw
    have j0 := HP.out _ hSw
    have i0 := HQ.out _ hSw
    simp at k0 j0 i0
    go_simp
  try simp only [Act.put, List.setIfInBounds_toArray, List.set_cons_zero, List.set_cons_succ]
  refine wpAnyH_take (i := 4) (oi := { dst := some 15, op := Op.load _ (Operand.tmp 3), type := _, pos := "judge.go:115", after := #[], guard := none }) (v := .slice bo lb cb) rfl (by kernel_rfl) (by kernel_rfl) (by kernel_rfl) (fun _ _ _ h => h) (Or.inl ⟨by rfl, ?_⟩) hHeld ?_
  · intro w' hSw
    have k0 := HK.out _ hSw
    have j0 := HP.out _ hSw
    have i0 := HQ.out _ hSw
    simp at k0 j0 i0
    go_simp
  try simp only [Act.put, List.setIfInBounds_toArray, List.set_cons_zero, List.set_cons_succ]
  refine wpAnyH_take (i := 5) (oi := { dst := some 16, op := Op.load _ (Operand.tmp 1), type := _, pos := "judge.go:115", after := #[], guard := none }) (v := .int .i64 (n : Int)) rfl (by kernel_rfl) (by kernel_rfl) (by kernel_rfl) (fun _ _ _ h => h) (Or.inl ⟨by rfl, ?_⟩) hHeld ?_
  · intro w' hSw
    have k0 := HK.out _ hSw
    have j0 := HP.out _ hSw
    have i0 := HQ.out _ hSw
    simp at k0 j0 i0
    go_simp
  try simp only [Act.put, List.setIfInBounds_toArray, List.set_cons_zero, List.set_cons_succ]
  refine wpAnyH_ready (rs := [3]) (by kernel_rfl) (by simp) ?_
  refine AllReadyH.cons (o := { dst := some 14, op := Op.call { callee := Callee.value (Operand.func _), args := #[Operand.tmp 12, Operand.tmp 13], argTypes := _ }, type := _, pos := "judge.go:115", after := #[{ on := 1, ground := Ground.data }, { on := 2, ground := Ground.data }], guard := none }) rfl (fun K hK => ?_) AllReadyH.nil
  go_simp
  go_at_call 53
  refine (HA1.out _ hHeld).mono ?_
  rintro e w5 ⟨rfl, hb5⟩
  have D5 := below_nextJ D0 hb5
  refine hK.out _ _ (below_nextJ hHeld hb5) (fun hHeld => ?_)
  clear hK K
  try simp only [Act.put, List.setIfInBounds_toArray, List.set_cons_zero, List.set_cons_succ]
  refine wpAnyH_ready (rs := [6]) (by kernel_rfl) (by simp) ?_
  refine AllReadyH.cons (o := { dst := some 17, op := Op.call { callee := Callee.value (Operand.func _), args := #[Operand.tmp 15, Operand.tmp 16], argTypes := _ }, type := _, pos := "judge.go:115", after := #[{ on := 4, ground := Ground.data }, { on := 5, ground := Ground.data }, { on := 3, ground := Ground.chain }], guard := none }) rfl (fun K hK => ?_) AllReadyH.nil
  go_simp
  go_at_call 53
  refine (HA2.out _ hHeld).mono ?_
  rintro e w6 ⟨rfl, hb6⟩
  have D6 := below_nextJ D5 hb6
  refine hK.out _ _ (below_nextJ hHeld hb6) (fun hHeld => ?_)
  clear hK K
  try simp only [Act.put, List.setIfInBounds_toArray, List.set_cons_zero, List.set_cons_succ]
  refine wpAnyH_ready (rs := [7]) (by kernel_rfl) (by simp) ?_
  refine AllReadyH.cons (o := { dst := some 18, op := Op.call { callee := Callee.value (Operand.func _), args := #[Operand.tmp 14, Operand.tmp 17], argTypes := _ }, type := _, pos := "judge.go:115", after := #[{ on := 3, ground := Ground.data }, { on := 6, ground := Ground.data }, { on := 6, ground := Ground.chain }], guard := none }) rfl (fun K hK => ?_) AllReadyH.nil
  go_simp
  go_at_call 49
  refine (HB2.out _).mono ?_
  rintro e w7 ⟨rfl, rfl⟩
  have D7 := D6
  refine hK.out _ _ hHeld (fun hHeld => ?_)
  clear hK K
  try simp only [Act.put, List.setIfInBounds_toArray, List.set_cons_zero, List.set_cons_succ]
  refine wpAnyH_ready (rs := [8]) (by kernel_rfl) (by simp) ?_
  refine AllReadyH.cons (o := { dst := some 19, op := Op.call { callee := Callee.value (Operand.tmp 11), args := #[Operand.tmp 18], argTypes := _ }, type := _, pos := "judge.go:115", after := #[{ on := 0, ground := Ground.data }, { on := 7, ground := Ground.data }, { on := 7, ground := Ground.chain }], guard := none }) rfl (fun K hK => ?_) AllReadyH.nil
  go_simp
  go_at_call 31
  refine (HS3.out _ (HT3.out.next D7)).mono ?_
  rintro e w8 ⟨⟨v8, rfl⟩, hT8, hg8⟩
  refine hK.out _ _ (below_sayJ hHeld hbt hg8) (fun hHeld => ?_)
  clear hK K
  try simp only [Act.put, List.setIfInBounds_toArray, List.set_cons_zero, List.set_cons_succ]
  refine wpAnyH_done (by kernel_rfl) ?_ _
  go_wp2_with fail
  go_end0
  exact ⟨⟨_, rfl⟩, hT8, grownBy_thenJ (grownBy_thenJ hg1 (grown_belowJ hb2 _)) (grownBy_thenJ hg3 (grownBy_thenJ (grown_belowJ D7 _) hg8))⟩

/-- The boxes of the part that is the state. -/
structure SBox (p q : Nat) (nm : ByteArray) (a b : Int) (w : World) : Prop where
  ex : ∃ gx gy l1 c1 l2 c2 : Nat, w.heap[p]? = some (.cells #[.slice (some ⟨gx, 0, none⟩) l1 c1] 52 (0, 0)) ∧ w.heap[q]? = some (.cells #[.slice (some ⟨gy, 0, none⟩) l2 c2] 52 (0, 0)) ∧ 0 < l1 ∧ 0 < l2 ∧
    w.cell? ⟨gx, 0, none⟩ = some (.string nm) ∧ w.cell? ⟨gx, 1, none⟩ = some (.int .u32 a) ∧ w.cell? ⟨gy, 1, none⟩ = some (.int .u32 b)
theorem SBox.next {p q : Nat} {nm : ByteArray} {a b : Int} {w w1 : World} (h : SBox p q nm a b w) (hb : Below w.heap.size w w1) : SBox p q nm a b w1 := by
  obtain ⟨gx, gy, l1, c1, l2, c2, e1, e2, e3, e4, e5, e6, e7⟩ := h
  exact ⟨gx, gy, l1, c1, l2, c2, (hb.block _ (lt_of_rowJ e1)).trans e1, (hb.block _ (lt_of_rowJ e2)).trans e2, e3, e4, (hb.cell (World.block_lt_of_cell? w _ e5)).trans e5, (hb.cell (World.block_lt_of_cell? w _ e6)).trans e6, (hb.cell (World.block_lt_of_cell? w _ e7)).trans e7⟩

set_option maxHeartbeats 8000000 in
theorem states1_c (p q bt : Nat) (nm : ByteArray) (a b : Int) (ha : 0 ≤ a ∧ a < 4294967296) (hb' : 0 ≤ b ∧ b < 4294967296) (s : ByteArray) (hs : s.size ≤ 200) (hnm : nm.size ≤ 100) (w0 : World) (hB : SBox p q nm a b w0) (HT : Hid (pTab w0)) (hbt : w0.heap.size ≤ bt) (w : World) (h0 : Below w0.heap.size w0 w) (hb : TBox w bt s) :
    Calls Tryd.prog 51 #[sayV bt, .pointer (some ⟨p, 0, none⟩), .pointer (some ⟨q, 0, none⟩)] w fun e w' => (∃ v, e = .returned v) ∧ TBox w' bt (sayS (sayS s nm) (bothS (numS a) (numS b))) ∧ w.grownBy w' (some bt) := by
  have HX := Lib.hid fun (W : World) (hb : Below w0.heap.size w0 W) => number_c a (by omega) (by omega) W (tab_at HT hb)
  have HY := Lib.hid fun (W : World) (hb : Below w0.heap.size w0 W) => number_c b (by omega) (by omega) W (tab_at HT hb)
  have zx := numS_size a (by omega) (by omega)
  have zy := numS_size b (by omega) (by omega)
  have wa : IntKind.i64.wrap a = a := IntWalk.i64_in _ (by omega)
  have wb : IntKind.i64.wrap b = b := IntWalk.i64_in _ (by omega)
  generalize numS a = X at HX zx ⊢
  generalize numS b = Y at HY zy ⊢
  have HB2 := Lib.hid fun (W : World) => both_c X Y (by omega) (by omega) W
  have zz := bothS_size zx zy
  generalize bothS X Y = Z at HB2 zz ⊢
  have HS1 := Lib.hid fun (W : World) (h : TBox W bt s) => say_c s nm bt (by omega) (by omega) W h
  have z2 := sayS_size s nm
  generalize sayS s nm = S1 at HS1 z2 ⊢
  have HS2 := Lib.hid fun (W : World) (h : TBox W bt S1) => say_c S1 Z bt (by omega) (by omega) W h
  generalize sayS S1 Z = S2 at HS2 ⊢
  obtain ⟨gx, gy, l1, c1, l2, c2, e1, e2, e3, e4, e5, e6, e7⟩ := hB
  have HP := Lib.hid fun (W : World) (hb : Below w0.heap.size w0 W) => (cell_of_row W p 0 _ _ _ ((hb.block _ (lt_of_rowJ e1)).trans e1)).trans rfl
  have HQ := Lib.hid fun (W : World) (hb : Below w0.heap.size w0 W) => (cell_of_row W q 0 _ _ _ ((hb.block _ (lt_of_rowJ e2)).trans e2)).trans rfl
  have HC0 := Lib.hid fun (W : World) (hb : Below w0.heap.size w0 W) => (hb.cell (World.block_lt_of_cell? w0 _ e5)).trans e5
  have HC1 := Lib.hid fun (W : World) (hb : Below w0.heap.size w0 W) => (hb.cell (World.block_lt_of_cell? w0 _ e6)).trans e6
  have HD1 := Lib.hid fun (W : World) (hb : Below w0.heap.size w0 W) => (hb.cell (World.block_lt_of_cell? w0 _ e7)).trans e7
  have i1 : (0 : Int) < (l1 : Int) := by omega
  have i2 : (0 : Int) < (l2 : Int) := by omega
  have HTB := Lib.hid hb
  clear hb HT e1 e2 e5 e6 e7
  have k0 := HP.out _ h0
  have k1 := HC0.out _ h0
  go_enter Tryd.func51, Tryd.ntmps51
  go_wp2_with fail
  refine (HS1.out _ HTB.out).mono ?_
  rintro e w1 ⟨⟨v1, rfl⟩, hT1, hg1⟩
  have B3 := below_sayJ h0 hbt hg1
  have HT3 := Lib.hid hT1
  clear hT1 k0 k1
  go_wp2_with fail
  have HT3d := Lib.hid (HT3.out.next ((Below.refl _ _).drew))
  have D0 : Below w1.heap.size w1 w1.drew := (Below.refl _ _).drew
  refine wp_region_held_drew (S := fun w' => Below w0.heap.size w0 w') (by kernel_rfl) (B3.trans (D0.mono B3.size)) (fun hHeld => ?_)
  refine wpAnyH_take (i := 0) (oi := { dst := some 10, op := Op.move (Operand.tmp 0), type := _, pos := "judge.go:137", after := #[], guard := none }) (v := sayV bt) rfl (by kernel_rfl) (by kernel_rfl) (by kernel_rfl) (fun _ _ _ h => h) (Or.inl ⟨by rfl, ?_⟩) hHeld ?_
  · intro w' hSw
    have k0 := HP.out _ hSw
    have j0 := HQ.out _ hSw
    have m0 := HC1.out _ hSw
    have m1 := HD1.out _ hSw
    simp at k0 j0 m0 m1
    go_simp
  try simp only [Act.put, List.setIfInBounds_toArray, List.set_cons_zero, List.set_cons_succ]
  refine wpAnyH_take (i := 1) (oi := { dst := some 11, op := Op.load _ (Operand.tmp 1), type := _, pos := "judge.go:137", after := #[], guard := none }) (v := .slice (some ⟨gx, 0, none⟩) l1 c1) rfl (by kernel_rfl) (by kernel_rfl) (by kernel_rfl) (fun _ _ _ h => h) (Or.inl ⟨by rfl, ?_⟩) hHeld ?_
  · intro w' hSw
    have k0 := HP.out _ hSw
    have j0 := HQ.out _ hSw
    have m0 := HC1.out _ hSw
    have m1 := HD1.out _ hSw
    simp at k0 j0 m0 m1
    go_simp
  try simp only [Act.put, List.setIfInBounds_toArray, List.set_cons_zero, List.set_cons_succ]
  refine wpAnyH_take (i := 2) (oi := { dst := some 12, op := Op.indexAddr _ (Operand.tmp 11) (Operand.const (Value.int IntKind.i64 0)), type := _, pos := "judge.go:137", after := #[{ on := 1, ground := Ground.data }], guard := none }) (v := .pointer (some ⟨gx, 0, none⟩)) rfl (by kernel_rfl) (by kernel_rfl) (by kernel_rfl) (fun _ _ _ h => h) (Or.inl ⟨by rfl, ?_⟩) hHeld ?_
  · intro w' hSw
    have k0 := HP.out _ hSw
    have j0 := HQ.out _ hSw
    have m0 := HC1.out _ hSw
    have m1 := HD1.out _ hSw
    simp at k0 j0 m0 m1
    go_simp
  try simp only [Act.put, List.setIfInBounds_toArray, List.set_cons_zero, List.set_cons_succ]
  refine wpAnyH_take (i := 3) (oi := { dst := some 13, op := Op.fieldAddr _ (Operand.tmp 12) 1, type := _, pos := "judge.go:137", after := #[{ on := 2, ground := Ground.data }], guard := none }) (v := .pointer (some ⟨gx, 1, none⟩)) rfl (by kernel_rfl) (by kernel_rfl) (by kernel_rfl) (fun _ _ _ h => h) (Or.inl ⟨by rfl, ?_⟩) hHeld ?_
  · intro w' hSw
    have k0 := HP.out _ hSw
    have j0 := HQ.out _ hSw
    have m0 := HC1.out _ hSw
    have m1 := HD1.out _ hSw
    simp at k0 j0 m0 m1
    go_simp
  try simp only [Act.put, List.setIfInBounds_toArray, List.set_cons_zero, List.set_cons_succ]
  refine wpAnyH_take (i := 4) (oi := { dst := some 14, op := Op.load _ (Operand.tmp 13), type := _, pos := "judge.go:137", after := #[{ on := 3, ground := Ground.data }], guard := none }) (v := .int .u32 a) rfl (by kernel_rfl) (by kernel_rfl) (by kernel_rfl) (fun _ _ _ h => h) (Or.inl ⟨by rfl, ?_⟩) hHeld ?_
  · intro w' hSw
    have k0 := HP.out _ hSw
    have j0 := HQ.out _ hSw
    have m0 := HC1.out _ hSw
    have m1 := HD1.out _ hSw
    simp at k0 j0 m0 m1
    go_simp
  try simp only [Act.put, List.setIfInBounds_toArray, List.set_cons_zero, List.set_cons_succ]
  refine wpAnyH_take (i := 5) (oi := { dst := some 15, op := Op.convert _ _ (Operand.tmp 14), type := _, pos := "judge.go:137", after := #[{ on := 4, ground := Ground.data }], guard := none }) (v := .int .i64 a) rfl (by kernel_rfl) (by kernel_rfl) (by kernel_rfl) (fun _ _ _ h => h) (Or.inl ⟨by rfl, ?_⟩) hHeld ?_
  · intro w' hSw
    have k0 := HP.out _ hSw
    have j0 := HQ.out _ hSw
    have m0 := HC1.out _ hSw
    have m1 := HD1.out _ hSw
    simp at k0 j0 m0 m1
    go_simp
  try simp only [Act.put, List.setIfInBounds_toArray, List.set_cons_zero, List.set_cons_succ]
  refine wpAnyH_take (i := 7) (oi := { dst := some 17, op := Op.load _ (Operand.tmp 2), type := _, pos := "judge.go:137", after := #[], guard := none }) (v := .slice (some ⟨gy, 0, none⟩) l2 c2) rfl (by kernel_rfl) (by kernel_rfl) (by kernel_rfl) (fun _ _ _ h => h) (Or.inl ⟨by rfl, ?_⟩) hHeld ?_
  · intro w' hSw
    have k0 := HP.out _ hSw
    have j0 := HQ.out _ hSw
    have m0 := HC1.out _ hSw
    have m1 := HD1.out _ hSw
    simp at k0 j0 m0 m1
    go_simp
  try simp only [Act.put, List.setIfInBounds_toArray, List.set_cons_zero, List.set_cons_succ]
  refine wpAnyH_take (i := 8) (oi := { dst := some 18, op := Op.indexAddr _ (Operand.tmp 17) (Operand.const (Value.int IntKind.i64 0)), type := _, pos := "judge.go:137", after := #[{ on := 7, ground := Ground.data }], guard := none }) (v := .pointer (some ⟨gy, 0, none⟩)) rfl (by kernel_rfl) (by kernel_rfl) (by kernel_rfl) (fun _ _ _ h => h) (Or.inl ⟨by rfl, ?_⟩) hHeld ?_
  · intro w' hSw
    have k0 := HP.out _ hSw
    have j0 := HQ.out _ hSw
    have m0 := HC1.out _ hSw
    have m1 := HD1.out _ hSw
    simp at k0 j0 m0 m1
    go_simp
  try simp only [Act.put, List.setIfInBounds_toArray, List.set_cons_zero, List.set_cons_succ]
  refine wpAnyH_take (i := 9) (oi := { dst := some 19, op := Op.fieldAddr _ (Operand.tmp 18) 1, type := _, pos := "judge.go:137", after := #[{ on := 8, ground := Ground.data }], guard := none }) (v := .pointer (some ⟨gy, 1, none⟩)) rfl (by kernel_rfl) (by kernel_rfl) (by kernel_rfl) (fun _ _ _ h => h) (Or.inl ⟨by rfl, ?_⟩) hHeld ?_
  · intro w' hSw
    have k0 := HP.out _ hSw
    have j0 := HQ.out _ hSw
    have m0 := HC1.out _ hSw
    have m1 := HD1.out _ hSw
    simp at k0 j0 m0 m1
    go_simp
  try simp only [Act.put, List.setIfInBounds_toArray, List.set_cons_zero, List.set_cons_succ]
  refine wpAnyH_take (i := 10) (oi := { dst := some 20, op := Op.load _ (Operand.tmp 19), type := _, pos := "judge.go:137", after := #[{ on := 9, ground := Ground.data }], guard := none }) (v := .int .u32 b) rfl (by kernel_rfl) (by kernel_rfl) (by kernel_rfl) (fun _ _ _ h => h) (Or.inl ⟨by rfl, ?_⟩) hHeld ?_
  · intro w' hSw
    have k0 := HP.out _ hSw
    have j0 := HQ.out _ hSw
    have m0 := HC1.out _ hSw
    have m1 := HD1.out _ hSw
    simp at k0 j0 m0 m1
    go_simp
  try simp only [Act.put, List.setIfInBounds_toArray, List.set_cons_zero, List.set_cons_succ]
  refine wpAnyH_take (i := 11) (oi := { dst := some 21, op := Op.convert _ _ (Operand.tmp 20), type := _, pos := "judge.go:137", after := #[{ on := 10, ground := Ground.data }], guard := none }) (v := .int .i64 b) rfl (by kernel_rfl) (by kernel_rfl) (by kernel_rfl) (fun _ _ _ h => h) (Or.inl ⟨by rfl, ?_⟩) hHeld ?_
  · intro w' hSw
    have k0 := HP.out _ hSw
    have j0 := HQ.out _ hSw
    have m0 := HC1.out _ hSw
    have m1 := HD1.out _ hSw
    simp at k0 j0 m0 m1
    go_simp
  try simp only [Act.put, List.setIfInBounds_toArray, List.set_cons_zero, List.set_cons_succ]
  refine wpAnyH_ready (rs := [6]) (by kernel_rfl) (by simp) ?_
  refine AllReadyH.cons (o := { dst := some 16, op := Op.call { callee := Callee.value (Operand.func _), args := #[Operand.tmp 15], argTypes := _ }, type := _, pos := "judge.go:137", after := #[{ on := 5, ground := Ground.data }], guard := none }) rfl (fun K hK => ?_) AllReadyH.nil
  go_simp
  go_at_call 50
  refine (HX.out _ hHeld).mono ?_
  rintro e w5 ⟨rfl, hb5⟩
  have D5 := below_nextJ D0 hb5
  refine hK.out _ _ (below_nextJ hHeld hb5) (fun hHeld => ?_)
  clear hK K
  try simp only [Act.put, List.setIfInBounds_toArray, List.set_cons_zero, List.set_cons_succ]
  refine wpAnyH_ready (rs := [12]) (by kernel_rfl) (by simp) ?_
  refine AllReadyH.cons (o := { dst := some 22, op := Op.call { callee := Callee.value (Operand.func _), args := #[Operand.tmp 21], argTypes := _ }, type := _, pos := "judge.go:137", after := #[{ on := 11, ground := Ground.data }, { on := 6, ground := Ground.chain }], guard := none }) rfl (fun K hK => ?_) AllReadyH.nil
  go_simp
  go_at_call 50
  refine (HY.out _ hHeld).mono ?_
  rintro e w6 ⟨rfl, hb6⟩
  have D6 := below_nextJ D5 hb6
  refine hK.out _ _ (below_nextJ hHeld hb6) (fun hHeld => ?_)
  clear hK K
  try simp only [Act.put, List.setIfInBounds_toArray, List.set_cons_zero, List.set_cons_succ]
  refine wpAnyH_ready (rs := [13]) (by kernel_rfl) (by simp) ?_
  refine AllReadyH.cons (o := { dst := some 23, op := Op.call { callee := Callee.value (Operand.func _), args := #[Operand.tmp 16, Operand.tmp 22], argTypes := _ }, type := _, pos := "judge.go:137", after := #[{ on := 6, ground := Ground.data }, { on := 12, ground := Ground.data }, { on := 12, ground := Ground.chain }], guard := none }) rfl (fun K hK => ?_) AllReadyH.nil
  go_simp
  go_at_call 49
  refine (HB2.out _).mono ?_
  rintro e w7 ⟨rfl, rfl⟩
  have D7 := D6
  refine hK.out _ _ hHeld (fun hHeld => ?_)
  clear hK K
  try simp only [Act.put, List.setIfInBounds_toArray, List.set_cons_zero, List.set_cons_succ]
  refine wpAnyH_ready (rs := [14]) (by kernel_rfl) (by simp) ?_
  refine AllReadyH.cons (o := { dst := some 24, op := Op.call { callee := Callee.value (Operand.tmp 10), args := #[Operand.tmp 23], argTypes := _ }, type := _, pos := "judge.go:137", after := #[{ on := 0, ground := Ground.data }, { on := 13, ground := Ground.data }, { on := 13, ground := Ground.chain }], guard := none }) rfl (fun K hK => ?_) AllReadyH.nil
  go_simp
  go_at_call 31
  refine (HS2.out _ (HT3.out.next D7)).mono ?_
  rintro e w8 ⟨⟨v8, rfl⟩, hT8, hg8⟩
  refine hK.out _ _ (below_sayJ hHeld hbt hg8) (fun hHeld => ?_)
  clear hK K
  try simp only [Act.put, List.setIfInBounds_toArray, List.set_cons_zero, List.set_cons_succ]
  refine wpAnyH_done (by kernel_rfl) ?_ _
  go_wp2_with fail
  go_end0
  exact ⟨⟨_, rfl⟩, hT8, grownBy_thenJ hg1 (grownBy_thenJ (grown_belowJ D7 _) hg8)⟩
end Go.Proofs.YtjnakhejdpkfnaaDoor
