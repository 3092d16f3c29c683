/- The document's States, and the walk of JudgeStates. (Written by mkJU.py.) -/
import Derived.Test.YtjnakhejdpkfnaaDoorJudT
namespace Go.Proofs.YtjnakhejdpkfnaaDoor
open Go.RowKit
set_option linter.unusedSimpArgs false
set_option linter.unusedVariables false
set_option maxRecDepth 100000

theorem Tryd.infoInt : (Tryd.prog.info? 3).map (fun i => (i.zero, i.size, i.bytes)) = some (some (.int .i64 0), 1, 8) := by kernel_rfl
def ixV (k : Nat) : Value := .int .i64 (k : Int)

set_option maxHeartbeats 8000000 in
theorem refStates_c (x : Nat → Int) (h : Bool) (y : Nat → Int) (g : Bool) (w : World) :
    Calls Tryd.prog 17 #[.agg (stJ x h), .agg (stJ y g)] w fun e w' => ∃ v, e = .returned v ∧ w'.ownsRow w.heap.size 3 1 v (diffJ x h y g 19).length ((diffJ x h y g 19).map ixV) ∧ Below w.heap.size w w' := by
  obtain ⟨i0, hi, hz0, hz1, hz2⟩ := info_parts Tryd.infoInt
  have HA := Lib.hid fun (k : Nat) (hk : k < 19) (W : World) => refValue_c x h k hk W
  have HB := Lib.hid fun (k : Nat) (hk : k < 19) (W : World) => refValue_c y g k hk W
  obtain ⟨A, hA⟩ : ∃ A, A = stJ x h := ⟨_, rfl⟩
  obtain ⟨B, hB⟩ : ∃ B, B = stJ y g := ⟨_, rfl⟩
  have hzA : A.size = 19 := by rw [hA]; rfl
  have hzB : B.size = 19 := by rw [hB]; rfl
  rw [← hA] at HA ⊢
  rw [← hB] at HB ⊢
  clear hA hB
  go_enter Tryd.func17, Tryd.ntmps17
  go_wp2_with fail
  go_loopg [5, 6] 19 (fun gk v5 vk wr => ∃ k : Nat, gk + k = 19 ∧ vk = .int .i64 (k : Int) ∧ wr.ownsRow (w.heap.size + 2) 3 1 v5 (diffJ x h y g k).length ((diffJ x h y g k).map ixV) ∧ Below (w.heap.size + 2) ((w.alloc (.cells A 26)).alloc (.cells B 26)) wr ∧ w.heap.size + 2 ≤ wr.heap.size)
  case atStart => exact ⟨0, rfl, rfl, ⟨rfl, .inl ⟨rfl, rfl⟩⟩, Below.refl _ _, by simp⟩
  case round =>
    obtain ⟨k, hk, rfl, own5, hB, hs⟩ := hrel
    have hAp : ApS w A B wr := ⟨(hB.block _ (by omega)).trans (heap_old' (heap_new' rfl)), (hB.block _ (by omega)).trans (heap_new' (by simp)), ((below_alloc1 w _).alloc (by simp) _).trans (hB.mono (by omega)), by omega⟩
    by_cases c1 : k < 19
    · have i1 : (k : Int) < 19 := by omega
      have hl := diffJ_len x h y g k
      have hS := diffJ_succ x h y g k
      have HA1 := Lib.hid fun W => HA.out k c1 W
      have HB1 := Lib.hid fun W => HB.out k c1 W
      generalize valJ x h k = a at hS HA1
      generalize valJ y g k = b at hS HB1
      have HS := Lib.hid hS
      clear hS
      by_cases c2 : a = b
      · have d : (a != b) = false := by simp [c2]
        have HS2 := Lib.hid (show diffJ x h y g (k + 1) = diffJ x h y g k from by rw [HS.out, d]; simp)
        clear c2 HS
        go_wp2_with fail
        refine wp_region_held_drew (S := fun w' => ApS w A B w') (by kernel_rfl) (show ApS w A B wr.drew from ⟨hAp.a, hAp.b, hAp.below.drew, hAp.size⟩) (fun hHeld => ?_)
        refine wpAnyH_take (i := 0) (oi := { dst := some 11, op := Op.load _ (Operand.tmp 2), type := _, pos := "ref.go:50", after := #[], guard := none }) (v := .agg A) rfl (by kernel_rfl) (by kernel_rfl) (by kernel_rfl) (fun _ _ _ h => h) (yields_stJ (by rfl) _ rfl (w.heap.size) rfl A hzA (fun w' h => h.a)) hHeld ?_
        try simp only [Act.put, List.setIfInBounds_toArray, List.set_cons_zero, List.set_cons_succ]
        refine wpAnyH_take (i := 1) (oi := { dst := some 12, op := Op.move (Operand.tmp 6), type := _, pos := "ref.go:50", after := #[], guard := none }) (v := .int .i64 (k : Int)) rfl (by kernel_rfl) (by kernel_rfl) (by kernel_rfl) (fun _ _ _ h => h) (Or.inl ⟨by rfl, ?_⟩) hHeld ?_
        · intro w' hSw
          skip
          go_simp
        try simp only [Act.put, List.setIfInBounds_toArray, List.set_cons_zero, List.set_cons_succ]
        refine wpAnyH_take (i := 3) (oi := { dst := some 14, op := Op.load _ (Operand.tmp 3), type := _, pos := "ref.go:50", after := #[], guard := none }) (v := .agg B) rfl (by kernel_rfl) (by kernel_rfl) (by kernel_rfl) (fun _ _ _ h => h) (yields_stJ (by rfl) _ rfl (w.heap.size + 1) rfl B hzB (fun w' h => h.b)) hHeld ?_
        try simp only [Act.put, List.setIfInBounds_toArray, List.set_cons_zero, List.set_cons_succ]
        refine wpAnyH_take (i := 4) (oi := { dst := some 15, op := Op.move (Operand.tmp 6), type := _, pos := "ref.go:50", after := #[], guard := none }) (v := .int .i64 (k : Int)) rfl (by kernel_rfl) (by kernel_rfl) (by kernel_rfl) (fun _ _ _ h => h) (Or.inl ⟨by rfl, ?_⟩) hHeld ?_
        · intro w' hSw
          skip
          go_simp
        try simp only [Act.put, List.setIfInBounds_toArray, List.set_cons_zero, List.set_cons_succ]
        refine wpAnyH_ready (rs := [2]) (by kernel_rfl) (by simp) ?_
        refine AllReadyH.cons (o := { dst := some 13, op := Op.call { callee := Callee.value (Operand.func _), args := #[Operand.tmp 11, Operand.tmp 12], argTypes := _ }, type := _, pos := "ref.go:50", after := #[{ on := 0, ground := Ground.data }, { on := 1, ground := Ground.data }], guard := none }) rfl (fun K hK => ?_) AllReadyH.nil
        go_simp
        go_at_call 28
        refine (HA1.out _).mono ?_
        rintro e w2 ⟨rfl, hb2⟩
        refine hK.out _ _ (hHeld.next hb2) (fun hHeld => ?_)
        clear hK K
        try simp only [Act.put, List.setIfInBounds_toArray, List.set_cons_zero, List.set_cons_succ]
        refine wpAnyH_ready (rs := [5]) (by kernel_rfl) (by simp) ?_
        refine AllReadyH.cons (o := { dst := some 16, op := Op.call { callee := Callee.value (Operand.func _), args := #[Operand.tmp 14, Operand.tmp 15], argTypes := _ }, type := _, pos := "ref.go:50", after := #[{ on := 3, ground := Ground.data }, { on := 4, ground := Ground.data }, { on := 2, ground := Ground.chain }], guard := none }) rfl (fun K hK => ?_) AllReadyH.nil
        go_simp
        go_at_call 28
        refine (HB1.out _).mono ?_
        rintro e w5 ⟨rfl, hb5⟩
        refine hK.out _ _ (hHeld.next hb5) (fun hHeld => ?_)
        clear hK K
        try simp only [Act.put, List.setIfInBounds_toArray, List.set_cons_zero, List.set_cons_succ]
        refine wpAnyH_take (i := 6) (oi := { dst := some 17, op := Op.binOp BinOp.neq _ (Operand.tmp 13) (Operand.tmp 16) _, type := _, pos := "ref.go:50", after := #[{ on := 2, ground := Ground.data }, { on := 5, ground := Ground.data }], guard := none }) (v := .bool (a != b)) rfl (by kernel_rfl) (by kernel_rfl) (by kernel_rfl) (fun _ _ _ h => h) (Or.inl ⟨by rfl, ?_⟩) hHeld ?_
        · intro w' hSw
          skip
          go_simp
        try simp only [Act.put, List.setIfInBounds_toArray, List.set_cons_zero, List.set_cons_succ]
        refine wpAnyH_done (by kernel_rfl) ?_ _
        have O2 : wr.drew.ownsRow _ _ _ _ _ _ := own5
        have O5 := own_keepR (own_keepR O2 hb2) hb5
        have hB5 : Below (w.heap.size + 2) ((w.alloc (.cells A 26)).alloc (.cells B 26)) w5 := (hB.drew.trans (hb2.mono (by exact hs))).trans (hb5.mono (Nat.le_trans hs hb2.size))
        have hs5 : w.heap.size + 2 ≤ w5.heap.size := Nat.le_trans (Nat.le_trans hs hb2.size) hb5.size
        clear O2 own5 hb2 hb5
        go_wp2_with fail
        go_roundg (gk - 1)
        case measure => omega
        case rel => exact ⟨k + 1, by omega, by go_num, by rw [HS2.out]; exact O5, hB5, hs5⟩
      · have d : (a != b) = true := by simpa using c2
        have HS2 := Lib.hid (show diffJ x h y g (k + 1) = diffJ x h y g k ++ [k] from by rw [HS.out, d]; simp)
        clear c2 HS
        go_wp2_with fail
        refine wp_region_held_drew (S := fun w' => ApS w A B w') (by kernel_rfl) (show ApS w A B wr.drew from ⟨hAp.a, hAp.b, hAp.below.drew, hAp.size⟩) (fun hHeld => ?_)
        refine wpAnyH_take (i := 0) (oi := { dst := some 11, op := Op.load _ (Operand.tmp 2), type := _, pos := "ref.go:50", after := #[], guard := none }) (v := .agg A) rfl (by kernel_rfl) (by kernel_rfl) (by kernel_rfl) (fun _ _ _ h => h) (yields_stJ (by rfl) _ rfl (w.heap.size) rfl A hzA (fun w' h => h.a)) hHeld ?_
        try simp only [Act.put, List.setIfInBounds_toArray, List.set_cons_zero, List.set_cons_succ]
        refine wpAnyH_take (i := 1) (oi := { dst := some 12, op := Op.move (Operand.tmp 6), type := _, pos := "ref.go:50", after := #[], guard := none }) (v := .int .i64 (k : Int)) rfl (by kernel_rfl) (by kernel_rfl) (by kernel_rfl) (fun _ _ _ h => h) (Or.inl ⟨by rfl, ?_⟩) hHeld ?_
        · intro w' hSw
          skip
          go_simp
        try simp only [Act.put, List.setIfInBounds_toArray, List.set_cons_zero, List.set_cons_succ]
        refine wpAnyH_take (i := 3) (oi := { dst := some 14, op := Op.load _ (Operand.tmp 3), type := _, pos := "ref.go:50", after := #[], guard := none }) (v := .agg B) rfl (by kernel_rfl) (by kernel_rfl) (by kernel_rfl) (fun _ _ _ h => h) (yields_stJ (by rfl) _ rfl (w.heap.size + 1) rfl B hzB (fun w' h => h.b)) hHeld ?_
        try simp only [Act.put, List.setIfInBounds_toArray, List.set_cons_zero, List.set_cons_succ]
        refine wpAnyH_take (i := 4) (oi := { dst := some 15, op := Op.move (Operand.tmp 6), type := _, pos := "ref.go:50", after := #[], guard := none }) (v := .int .i64 (k : Int)) rfl (by kernel_rfl) (by kernel_rfl) (by kernel_rfl) (fun _ _ _ h => h) (Or.inl ⟨by rfl, ?_⟩) hHeld ?_
        · intro w' hSw
          skip
          go_simp
        try simp only [Act.put, List.setIfInBounds_toArray, List.set_cons_zero, List.set_cons_succ]
        refine wpAnyH_ready (rs := [2]) (by kernel_rfl) (by simp) ?_
        refine AllReadyH.cons (o := { dst := some 13, op := Op.call { callee := Callee.value (Operand.func _), args := #[Operand.tmp 11, Operand.tmp 12], argTypes := _ }, type := _, pos := "ref.go:50", after := #[{ on := 0, ground := Ground.data }, { on := 1, ground := Ground.data }], guard := none }) rfl (fun K hK => ?_) AllReadyH.nil
        go_simp
        go_at_call 28
        refine (HA1.out _).mono ?_
        rintro e w2 ⟨rfl, hb2⟩
        refine hK.out _ _ (hHeld.next hb2) (fun hHeld => ?_)
        clear hK K
        try simp only [Act.put, List.setIfInBounds_toArray, List.set_cons_zero, List.set_cons_succ]
        refine wpAnyH_ready (rs := [5]) (by kernel_rfl) (by simp) ?_
        refine AllReadyH.cons (o := { dst := some 16, op := Op.call { callee := Callee.value (Operand.func _), args := #[Operand.tmp 14, Operand.tmp 15], argTypes := _ }, type := _, pos := "ref.go:50", after := #[{ on := 3, ground := Ground.data }, { on := 4, ground := Ground.data }, { on := 2, ground := Ground.chain }], guard := none }) rfl (fun K hK => ?_) AllReadyH.nil
        go_simp
        go_at_call 28
        refine (HB1.out _).mono ?_
        rintro e w5 ⟨rfl, hb5⟩
        refine hK.out _ _ (hHeld.next hb5) (fun hHeld => ?_)
        clear hK K
        try simp only [Act.put, List.setIfInBounds_toArray, List.set_cons_zero, List.set_cons_succ]
        refine wpAnyH_take (i := 6) (oi := { dst := some 17, op := Op.binOp BinOp.neq _ (Operand.tmp 13) (Operand.tmp 16) _, type := _, pos := "ref.go:50", after := #[{ on := 2, ground := Ground.data }, { on := 5, ground := Ground.data }], guard := none }) (v := .bool (a != b)) rfl (by kernel_rfl) (by kernel_rfl) (by kernel_rfl) (fun _ _ _ h => h) (Or.inl ⟨by rfl, ?_⟩) hHeld ?_
        · intro w' hSw
          skip
          go_simp
        try simp only [Act.put, List.setIfInBounds_toArray, List.set_cons_zero, List.set_cons_succ]
        refine wpAnyH_done (by kernel_rfl) ?_ _
        have O2 : wr.drew.ownsRow _ _ _ _ _ _ := own5
        have O5 := own_keepR (own_keepR O2 hb2) hb5
        have hB5 : Below (w.heap.size + 2) ((w.alloc (.cells A 26)).alloc (.cells B 26)) w5 := (hB.drew.trans (hb2.mono (by exact hs))).trans (hb5.mono (Nat.le_trans hs hb2.size))
        have hs5 : w.heap.size + 2 ≤ w5.heap.size := Nat.le_trans (Nat.le_trans hs hb2.size) hb5.size
        clear O2 own5 hb2 hb5
        go_wp2_with (first | (at_builtin; refine wpList_append_own _ rfl _ _ 40 rfl (w.heap.size + 2) 3 i0 _ 1 8 Tryd.underlying40 hi hz0 hz1 hz2 rfl (by decide) _ _ _ rfl (O5.alloc _) _ 1 1 [.int .i64 (k : Int)] rfl rfl (cells_newJ _ _ _ _ (by simp)) (by simp [Value.oneCell']) (by unfold maxLen; omega) (by omega) (by first | (simp; done) | (simp; omega)) ?_; intro v7 w7 own7 gr7 _; obtain ⟨hB7, hs7⟩ := own_nextJ hB5 hs5 O5 gr7; clear gr7))
        go_roundg (gk - 1)
        case measure => omega
        case rel => exact ⟨k + 1, by omega, by go_num, by rw [HS2.out, List.map_append, List.length_append]; exact own7, hB7, hs7⟩
    · have i1 : ¬ (k : Int) < 19 := by omega
      obtain rfl : k = 19 := by omega
      go_wp2_with fail
      go_ret
      exact ⟨_, rfl, own_low (by omega) own5, hAp.below⟩

/-- What stays in a round of the law's loop. -/
structure LpS (w0 : World) (gx gy k : Nat) (nm : ByteArray) (d : Int) (w' : World) : Prop where
  x : w'.cell? ⟨gx, k, none⟩ = some (.string nm)
  y : w'.cell? ⟨gy, k, none⟩ = some (.int .i64 d)
  lx : gx < w'.heap.size
  ly : gy < w'.heap.size
  below : Below w0.heap.size w0 w'

set_option maxHeartbeats 8000000 in
theorem states_in (x : Nat → Int) (h : Bool) (y : Nat → Int) (g : Bool) (hx : ∀ k, 0 ≤ x k ∧ x k < 4294967296) (hy : ∀ k, 0 ≤ y k ∧ y k < 4294967296) (w : World) (HT : Hid (pTab w)) :
    Calls Tryd.prog 6 #[.agg (stJ x h), .agg (stJ y g)] w fun e w' => e = .returned (.bool true) ∧ Below w.heap.size w w' := by
  have HA := Lib.hid fun (W : World) (hb : Below w.heap.size w W) => states_c x h y g hx hy W (pTab_on HT hb)
  have HB := Lib.hid fun (W : World) => refStates_c x h y g W
  have HW := Lib.hid fun (W : World) (hb : Below w.heap.size w W) => works_c W (pTab_on HT hb)
  obtain ⟨A, hA⟩ : ∃ A, A = stJ x h := ⟨_, rfl⟩
  obtain ⟨B, hB⟩ : ∃ B, B = stJ y g := ⟨_, rfl⟩
  have hzA : A.size = 19 := by rw [hA]; rfl
  have hzB : B.size = 19 := by rw [hB]; rfl
  rw [← hA, ← hB] at HA HB ⊢
  have hl := diffJ_len x h y g 19
  have hD19 : ∀ k d, (diffJ x h y g 19)[k]? = some d → d < 19 := fun k d hd => by
    have := List.mem_of_getElem? hd
    unfold diffJ at this
    exact List.mem_range.1 (List.mem_filter.1 this).1
  have HD := Lib.hid hD19
  generalize diffJ x h y g 19 = D at HA HB hl HD
  clear hA hB hx hy hD19
  go_enter Tryd.func6, Tryd.ntmps6
  go_wp2_with fail
  have HI : Hid (ApS w A B ((w.alloc (.cells A 26)).alloc (.cells B 26)).drew) :=
    Lib.hid ⟨heap_drew' (heap_old' (heap_new' rfl)), heap_drew' (heap_new' (by simp)), ((below_alloc1 w _).alloc (by simp) _).drew, by simp⟩
  refine wp_region_held_drew (S := fun w' => ApS w A B w') (by kernel_rfl) HI.out (fun hHeld => ?_)
  clear HI
  refine wpAnyH_take (i := 0) (oi := { dst := some 8, op := Op.load _ (Operand.tmp 2), type := _, pos := "law.go:15", after := #[], guard := none }) (v := .agg A) rfl (by kernel_rfl) (by kernel_rfl) (by kernel_rfl) (fun _ _ _ h => h) (yields_stJ (by rfl) _ rfl (w.heap.size) rfl A hzA (fun w' h => h.a)) hHeld ?_
  try simp only [Act.put, List.setIfInBounds_toArray, List.set_cons_zero, List.set_cons_succ]
  refine wpAnyH_take (i := 1) (oi := { dst := some 9, op := Op.load _ (Operand.tmp 3), type := _, pos := "law.go:15", after := #[], guard := none }) (v := .agg B) rfl (by kernel_rfl) (by kernel_rfl) (by kernel_rfl) (fun _ _ _ h => h) (yields_stJ (by rfl) _ rfl (w.heap.size + 1) rfl B hzB (fun w' h => h.b)) hHeld ?_
  try simp only [Act.put, List.setIfInBounds_toArray, List.set_cons_zero, List.set_cons_succ]
  refine wpAnyH_take (i := 3) (oi := { dst := some 11, op := Op.load _ (Operand.tmp 2), type := _, pos := "law.go:15", after := #[], guard := none }) (v := .agg A) rfl (by kernel_rfl) (by kernel_rfl) (by kernel_rfl) (fun _ _ _ h => h) (yields_stJ (by rfl) _ rfl (w.heap.size) rfl A hzA (fun w' h => h.a)) hHeld ?_
  try simp only [Act.put, List.setIfInBounds_toArray, List.set_cons_zero, List.set_cons_succ]
  refine wpAnyH_take (i := 4) (oi := { dst := some 12, op := Op.load _ (Operand.tmp 3), type := _, pos := "law.go:15", after := #[], guard := none }) (v := .agg B) rfl (by kernel_rfl) (by kernel_rfl) (by kernel_rfl) (fun _ _ _ h => h) (yields_stJ (by rfl) _ rfl (w.heap.size + 1) rfl B hzB (fun w' h => h.b)) hHeld ?_
  try simp only [Act.put, List.setIfInBounds_toArray, List.set_cons_zero, List.set_cons_succ]
  refine wpAnyH_ready (rs := [2]) (by kernel_rfl) (by simp) ?_
  refine AllReadyH.cons (o := { dst := some 10, op := Op.call { callee := Callee.value (Operand.func _), args := #[Operand.tmp 8, Operand.tmp 9], argTypes := _ }, type := _, pos := "law.go:15", after := #[{ on := 0, ground := Ground.data }, { on := 1, ground := Ground.data }], guard := none }) rfl (fun K hK => ?_) AllReadyH.nil
  go_simp
  go_at_call 16
  refine (HA.out _ hHeld.below).mono ?_
  rintro e w2 ⟨vx, rfl, ox, hb2⟩
  refine hK.out _ _ (hHeld.next hb2) (fun hHeld => ?_)
  clear hK K
  try simp only [Act.put, List.setIfInBounds_toArray, List.set_cons_zero, List.set_cons_succ]
  refine wpAnyH_ready (rs := [5]) (by kernel_rfl) (by simp) ?_
  refine AllReadyH.cons (o := { dst := some 13, op := Op.call { callee := Callee.value (Operand.func _), args := #[Operand.tmp 11, Operand.tmp 12], argTypes := _ }, type := _, pos := "law.go:15", after := #[{ on := 3, ground := Ground.data }, { on := 4, ground := Ground.data }, { on := 2, ground := Ground.chain }], guard := none }) rfl (fun K hK => ?_) AllReadyH.nil
  go_simp
  go_at_call 17
  refine (HB.out _).mono ?_
  rintro e w5 ⟨vy, rfl, oy, hb5⟩
  have ox2 := own_keepR ox hb5
  refine hK.out _ _ (hHeld.next hb5) (fun hHeld => ?_)
  clear hK K
  try simp only [Act.put, List.setIfInBounds_toArray, List.set_cons_zero, List.set_cons_succ]
  refine wpAnyH_take (i := 6) (oi := { dst := some 5, op := Op.assign (Operand.tmp 10), type := _, pos := "law.go:15", after := #[{ on := 2, ground := Ground.data }, { on := 5, ground := Ground.chain }, { on := 0, ground := Ground.phase }, { on := 1, ground := Ground.phase }, { on := 2, ground := Ground.phase }, { on := 3, ground := Ground.textOnly Departure.lateStores }, { on := 4, ground := Ground.textOnly Departure.lateStores }, { on := 5, ground := Ground.textOnly Departure.lateStoresUnsure }], guard := none }) (v := vx) rfl (by kernel_rfl) (by kernel_rfl) (by kernel_rfl) (fun _ _ _ h => h) (Or.inl ⟨by rfl, ?_⟩) hHeld ?_
  · intro w' hSw
    skip
    go_simp
  try simp only [Act.put, List.setIfInBounds_toArray, List.set_cons_zero, List.set_cons_succ]
  refine wpAnyH_take (i := 7) (oi := { dst := some 6, op := Op.assign (Operand.tmp 13), type := _, pos := "law.go:15", after := #[{ on := 5, ground := Ground.data }, { on := 6, ground := Ground.chain }, { on := 0, ground := Ground.phase }, { on := 1, ground := Ground.phase }, { on := 2, ground := Ground.phase }, { on := 3, ground := Ground.phase }, { on := 4, ground := Ground.phase }, { on := 5, ground := Ground.phase }, { on := 6, ground := Ground.phase }], guard := none }) (v := vy) rfl (by kernel_rfl) (by kernel_rfl) (by kernel_rfl) (fun _ _ _ h => h) (Or.inl ⟨by rfl, ?_⟩) hHeld ?_
  · intro w' hSw
    skip
    go_simp
  try simp only [Act.put, List.setIfInBounds_toArray, List.set_cons_zero, List.set_cons_succ]
  refine wpAnyH_done (by kernel_rfl) ?_ _
  obtain ⟨ao, ca, rfl, hcx⟩ := own_slice ox2
  obtain ⟨bo, cb, rfl, hcy⟩ := own_slice oy
  have HCX := Lib.hid hcx
  have HCY := Lib.hid hcy
  have HB5 := Lib.hid hHeld.below
  clear ox oy ox2 hHeld hb2 hb5 hcx hcy
  go_wp2_with fail
  go_loopg [7] D.length (fun gk vk wr => ∃ k : Nat, gk + k = D.length ∧ vk = .int .i64 (k : Int) ∧ Below w5.heap.size w5 wr)
  case atStart => exact ⟨0, by omega, rfl, Below.refl _ _⟩
  case round =>
    obtain ⟨k, hk, rfl, hB⟩ := hrel
    by_cases c1 : k < D.length
    · have i1 : (k : Int) < (D.length : Int) := by omega
      have hd : D[k]? = some D[k] := List.getElem?_eq_getElem c1
      generalize D[k] = d at hd
      have hd19 := HD.out k d hd
      obtain ⟨gx, rfl, hgx, hcx⟩ : ∃ gx, ao = some ⟨gx, 0, none⟩ ∧ gx < w5.heap.size ∧ ∀ j, j < D.length * 1 → w5.cell? ⟨gx, j, none⟩ = (D.map nmV)[j]? := by
        rcases HCX.out with h | h
        · omega
        · exact h
      obtain ⟨gy, rfl, hgy, hcy⟩ : ∃ gy, bo = some ⟨gy, 0, none⟩ ∧ gy < w5.heap.size ∧ ∀ j, j < D.length * 1 → w5.cell? ⟨gy, j, none⟩ = (D.map ixV)[j]? := by
        rcases HCY.out with h | h
        · omega
        · exact h
      have HN := Lib.hid fun (W : World) => refName_c d hd19 W
      have hSt : LpS w5 gx gy k ⟨(nameJ d).toArray⟩ (d : Int) wr.drew := ⟨(hB.cell (p := ⟨gx, k, none⟩) hgx).trans ((hcx k (by omega)).trans (by simp [hd, nmV])), (hB.cell (p := ⟨gy, k, none⟩) hgy).trans ((hcy k (by omega)).trans (by simp [hd, ixV])), Nat.lt_of_lt_of_le hgx hB.size, Nat.lt_of_lt_of_le hgy hB.size, hB.drew⟩
      generalize (⟨(nameJ d).toArray⟩ : ByteArray) = nm at HN hSt
      have HSt := Lib.hid hSt
      clear hSt hd hcx hcy
      go_wp2_with fail
      refine wp_region_held_drew (S := fun w' => LpS w5 gx gy k nm (d : Int) w') (by kernel_rfl) HSt.out (fun hHeld => ?_)
      clear HSt
      refine wpAnyH_take (i := 0) (oi := { dst := some 25, op := Op.move (Operand.tmp 5), type := _, pos := "law.go:20", after := #[], guard := none }) (v := .slice (some ⟨gx, 0, none⟩) D.length ca) rfl (by kernel_rfl) (by kernel_rfl) (by kernel_rfl) (fun _ _ _ h => h) (Or.inl ⟨by rfl, ?_⟩) hHeld ?_
      · intro w' hSw
        have p0 := hSw.x
        have p1 := hSw.y
        have p2 := hSw.lx
        have p3 := hSw.ly
        go_simp
      try simp only [Act.put, List.setIfInBounds_toArray, List.set_cons_zero, List.set_cons_succ]
      refine wpAnyH_take (i := 1) (oi := { dst := some 26, op := Op.move (Operand.tmp 7), type := _, pos := "law.go:20", after := #[], guard := none }) (v := .int .i64 (k : Int)) rfl (by kernel_rfl) (by kernel_rfl) (by kernel_rfl) (fun _ _ _ h => h) (Or.inl ⟨by rfl, ?_⟩) hHeld ?_
      · intro w' hSw
        have p0 := hSw.x
        have p1 := hSw.y
        have p2 := hSw.lx
        have p3 := hSw.ly
        go_simp
      try simp only [Act.put, List.setIfInBounds_toArray, List.set_cons_zero, List.set_cons_succ]
      refine wpAnyH_take (i := 2) (oi := { dst := some 27, op := Op.indexAddr _ (Operand.tmp 25) (Operand.tmp 26), type := _, pos := "law.go:20", after := #[{ on := 0, ground := Ground.data }, { on := 1, ground := Ground.data }], guard := none }) (v := .pointer (some ⟨gx, k, none⟩)) rfl (by kernel_rfl) (by kernel_rfl) (by kernel_rfl) (fun _ _ _ h => h) (Or.inl ⟨by rfl, ?_⟩) hHeld ?_
      · intro w' hSw
        have p0 := hSw.x
        have p1 := hSw.y
        have p2 := hSw.lx
        have p3 := hSw.ly
        go_simp
      try simp only [Act.put, List.setIfInBounds_toArray, List.set_cons_zero, List.set_cons_succ]
      refine wpAnyH_take (i := 3) (oi := { dst := some 28, op := Op.load _ (Operand.tmp 27), type := _, pos := "law.go:20", after := #[{ on := 2, ground := Ground.data }], guard := none }) (v := .string nm) rfl (by kernel_rfl) (by kernel_rfl) (by kernel_rfl) (fun _ _ _ h => h) (Or.inl ⟨by rfl, ?_⟩) hHeld ?_
      · intro w' hSw
        have p0 := hSw.x
        have p1 := hSw.y
        have p2 := hSw.lx
        have p3 := hSw.ly
        go_simp
      try simp only [Act.put, List.setIfInBounds_toArray, List.set_cons_zero, List.set_cons_succ]
      refine wpAnyH_take (i := 4) (oi := { dst := some 29, op := Op.move (Operand.tmp 6), type := _, pos := "law.go:20", after := #[], guard := none }) (v := .slice (some ⟨gy, 0, none⟩) D.length cb) rfl (by kernel_rfl) (by kernel_rfl) (by kernel_rfl) (fun _ _ _ h => h) (Or.inl ⟨by rfl, ?_⟩) hHeld ?_
      · intro w' hSw
        have p0 := hSw.x
        have p1 := hSw.y
        have p2 := hSw.lx
        have p3 := hSw.ly
        go_simp
      try simp only [Act.put, List.setIfInBounds_toArray, List.set_cons_zero, List.set_cons_succ]
      refine wpAnyH_take (i := 5) (oi := { dst := some 30, op := Op.move (Operand.tmp 7), type := _, pos := "law.go:20", after := #[], guard := none }) (v := .int .i64 (k : Int)) rfl (by kernel_rfl) (by kernel_rfl) (by kernel_rfl) (fun _ _ _ h => h) (Or.inl ⟨by rfl, ?_⟩) hHeld ?_
      · intro w' hSw
        have p0 := hSw.x
        have p1 := hSw.y
        have p2 := hSw.lx
        have p3 := hSw.ly
        go_simp
      try simp only [Act.put, List.setIfInBounds_toArray, List.set_cons_zero, List.set_cons_succ]
      refine wpAnyH_take (i := 6) (oi := { dst := some 31, op := Op.indexAddr _ (Operand.tmp 29) (Operand.tmp 30), type := _, pos := "law.go:20", after := #[{ on := 4, ground := Ground.data }, { on := 5, ground := Ground.data }], guard := none }) (v := .pointer (some ⟨gy, k, none⟩)) rfl (by kernel_rfl) (by kernel_rfl) (by kernel_rfl) (fun _ _ _ h => h) (Or.inl ⟨by rfl, ?_⟩) hHeld ?_
      · intro w' hSw
        have p0 := hSw.x
        have p1 := hSw.y
        have p2 := hSw.lx
        have p3 := hSw.ly
        go_simp
      try simp only [Act.put, List.setIfInBounds_toArray, List.set_cons_zero, List.set_cons_succ]
      refine wpAnyH_take (i := 7) (oi := { dst := some 32, op := Op.load _ (Operand.tmp 31), type := _, pos := "law.go:20", after := #[{ on := 6, ground := Ground.data }], guard := none }) (v := .int .i64 (d : Int)) rfl (by kernel_rfl) (by kernel_rfl) (by kernel_rfl) (fun _ _ _ h => h) (Or.inl ⟨by rfl, ?_⟩) hHeld ?_
      · intro w' hSw
        have p0 := hSw.x
        have p1 := hSw.y
        have p2 := hSw.lx
        have p3 := hSw.ly
        go_simp
      try simp only [Act.put, List.setIfInBounds_toArray, List.set_cons_zero, List.set_cons_succ]
      refine wpAnyH_ready (rs := [8]) (by kernel_rfl) (by simp) ?_
      refine AllReadyH.cons (o := { dst := some 33, op := Op.call { callee := Callee.value (Operand.func _), args := #[Operand.tmp 32], argTypes := _ }, type := _, pos := "law.go:20", after := #[{ on := 7, ground := Ground.data }], guard := none }) rfl (fun K hK => ?_) AllReadyH.nil
      go_simp
      go_at_call 18
      refine (HN.out _).mono ?_
      rintro e w8 ⟨rfl, rfl⟩
      refine hK.out _ _ hHeld (fun hHeld => ?_)
      clear hK K
      try simp only [Act.put, List.setIfInBounds_toArray, List.set_cons_zero, List.set_cons_succ]
      refine wpAnyH_take (i := 9) (oi := { dst := some 34, op := Op.binOp BinOp.neq _ (Operand.tmp 28) (Operand.tmp 33) _, type := _, pos := "law.go:20", after := #[{ on := 3, ground := Ground.data }, { on := 8, ground := Ground.data }], guard := none }) (v := .bool false) rfl (by kernel_rfl) (by kernel_rfl) (by kernel_rfl) (fun _ _ _ h => h) (Or.inl ⟨by rfl, ?_⟩) hHeld ?_
      · intro w' hSw
        have p0 := hSw.x
        have p1 := hSw.y
        have p2 := hSw.lx
        have p3 := hSw.ly
        go_simp
      try simp only [Act.put, List.setIfInBounds_toArray, List.set_cons_zero, List.set_cons_succ]
      refine wpAnyH_done (by kernel_rfl) ?_ _
      go_wp2_with fail
      go_roundg (gk - 1)
      case measure => omega
      case rel => exact ⟨k + 1, by omega, by go_num, hHeld.below⟩
    · have i1 : ¬ (k : Int) < (D.length : Int) := by omega
      have hBw := below_nextJ HB5.out hB
      go_wp2_with fail
      refine (HW.out _ hBw).mono ?_
      rintro e w9 ⟨rfl, hb9⟩
      go_wp2_with fail
      go_ret
      exact ⟨rfl, below_nextJ hBw hb9⟩

theorem states_walk (a0 : Int) (q0 : (Lit.int .u32 a0).wf = true) (a1 : Int) (q1 : (Lit.int .u32 a1).wf = true) (a2 : Int) (q2 : (Lit.int .u32 a2).wf = true) (a3 : Int) (q3 : (Lit.int .u32 a3).wf = true) (a4 : Int) (q4 : (Lit.int .u32 a4).wf = true) (a5 : Int) (q5 : (Lit.int .u32 a5).wf = true) (a6 : Int) (q6 : (Lit.int .u32 a6).wf = true) (a7 : Int) (q7 : (Lit.int .u32 a7).wf = true) (a8 : Int) (q8 : (Lit.int .u32 a8).wf = true) (a9 : Int) (q9 : (Lit.int .u32 a9).wf = true) (a10 : Int) (q10 : (Lit.int .u32 a10).wf = true) (a11 : Int) (q11 : (Lit.int .u32 a11).wf = true) (a12 : Int) (q12 : (Lit.int .u32 a12).wf = true) (a13 : Int) (q13 : (Lit.int .u32 a13).wf = true) (a14 : Int) (q14 : (Lit.int .u32 a14).wf = true) (a15 : Int) (q15 : (Lit.int .u32 a15).wf = true) (a16 : Int) (q16 : (Lit.int .u32 a16).wf = true) (a17 : Int) (q17 : (Lit.int .u32 a17).wf = true) (h : Bool) (b0 : Int) (s0 : (Lit.int .u32 b0).wf = true) (b1 : Int) (s1 : (Lit.int .u32 b1).wf = true) (b2 : Int) (s2 : (Lit.int .u32 b2).wf = true) (b3 : Int) (s3 : (Lit.int .u32 b3).wf = true) (b4 : Int) (s4 : (Lit.int .u32 b4).wf = true) (b5 : Int) (s5 : (Lit.int .u32 b5).wf = true) (b6 : Int) (s6 : (Lit.int .u32 b6).wf = true) (b7 : Int) (s7 : (Lit.int .u32 b7).wf = true) (b8 : Int) (s8 : (Lit.int .u32 b8).wf = true) (b9 : Int) (s9 : (Lit.int .u32 b9).wf = true) (b10 : Int) (s10 : (Lit.int .u32 b10).wf = true) (b11 : Int) (s11 : (Lit.int .u32 b11).wf = true) (b12 : Int) (s12 : (Lit.int .u32 b12).wf = true) (b13 : Int) (s13 : (Lit.int .u32 b13).wf = true) (b14 : Int) (s14 : (Lit.int .u32 b14).wf = true) (b15 : Int) (s15 : (Lit.int .u32 b15).wf = true) (b16 : Int) (s16 : (Lit.int .u32 b16).wf = true) (b17 : Int) (s17 : (Lit.int .u32 b17).wf = true) (g : Bool) (w : World) (HT : Hid (pTab w)) :
    Calls Tryd.prog 6 #[.agg #[.int .u32 a0, .int .u32 a1, .int .u32 a2, .int .u32 a3, .int .u32 a4, .int .u32 a5, .int .u32 a6, .int .u32 a7, .int .u32 a8, .int .u32 a9, .int .u32 a10, .int .u32 a11, .int .u32 a12, .int .u32 a13, .int .u32 a14, .int .u32 a15, .int .u32 a16, .int .u32 a17, .bool h], .agg #[.int .u32 b0, .int .u32 b1, .int .u32 b2, .int .u32 b3, .int .u32 b4, .int .u32 b5, .int .u32 b6, .int .u32 b7, .int .u32 b8, .int .u32 b9, .int .u32 b10, .int .u32 b11, .int .u32 b12, .int .u32 b13, .int .u32 b14, .int .u32 b15, .int .u32 b16, .int .u32 b17, .bool g]] w fun e w' => e = .returned (.bool true) ∧ Below w.heap.size w w' :=
  states_in (fun k => match k with | 0 => a0 | 1 => a1 | 2 => a2 | 3 => a3 | 4 => a4 | 5 => a5 | 6 => a6 | 7 => a7 | 8 => a8 | 9 => a9 | 10 => a10 | 11 => a11 | 12 => a12 | 13 => a13 | 14 => a14 | 15 => a15 | 16 => a16 | 17 => a17 | _ => 0) h (fun k => match k with | 0 => b0 | 1 => b1 | 2 => b2 | 3 => b3 | 4 => b4 | 5 => b5 | 6 => b6 | 7 => b7 | 8 => b8 | 9 => b9 | 10 => b10 | 11 => b11 | 12 => b12 | 13 => b13 | 14 => b14 | 15 => b15 | 16 => b16 | 17 => b17 | _ => 0) g (fun k => match k with | 0 => bd_u32 q0 | 1 => bd_u32 q1 | 2 => bd_u32 q2 | 3 => bd_u32 q3 | 4 => bd_u32 q4 | 5 => bd_u32 q5 | 6 => bd_u32 q6 | 7 => bd_u32 q7 | 8 => bd_u32 q8 | 9 => bd_u32 q9 | 10 => bd_u32 q10 | 11 => bd_u32 q11 | 12 => bd_u32 q12 | 13 => bd_u32 q13 | 14 => bd_u32 q14 | 15 => bd_u32 q15 | 16 => bd_u32 q16 | 17 => bd_u32 q17 | _ + 18 => ⟨by show (0 : Int) ≤ 0; decide, by show (0 : Int) < 4294967296; decide⟩) (fun k => match k with | 0 => bd_u32 s0 | 1 => bd_u32 s1 | 2 => bd_u32 s2 | 3 => bd_u32 s3 | 4 => bd_u32 s4 | 5 => bd_u32 s5 | 6 => bd_u32 s6 | 7 => bd_u32 s7 | 8 => bd_u32 s8 | 9 => bd_u32 s9 | 10 => bd_u32 s10 | 11 => bd_u32 s11 | 12 => bd_u32 s12 | 13 => bd_u32 s13 | 14 => bd_u32 s14 | 15 => bd_u32 s15 | 16 => bd_u32 s16 | 17 => bd_u32 s17 | _ + 18 => ⟨by show (0 : Int) ≤ 0; decide, by show (0 : Int) < 4294967296; decide⟩) w HT
end Go.Proofs.YtjnakhejdpkfnaaDoor
