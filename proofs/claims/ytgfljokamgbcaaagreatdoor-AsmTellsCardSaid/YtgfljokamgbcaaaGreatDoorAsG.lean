/- The walk of asm's space. (Written by mkAG.py.) -/
import Derived.Test.YtgfljokamgbcaaaGreatDoorAsE
namespace Go.Proofs.YtgfljokamgbcaaaGreatDoor
open Go.RowKit
set_option linter.unusedSimpArgs false
set_option linter.unusedVariables false
set_option maxRecDepth 100000

set_option maxHeartbeats 4000000 in
theorem space_c (base wk pb ob : Nat) (again : Bool) (S : St) (n : Int) (ao : Option Addr) (cap : Nat) (ws : List Wd) (w : World) (h : AsOk base wk pb ob again S w) (hl : LnOk w ao ws cap) :
    Calls Tryz.prog 48 #[.pointer (some ⟨wk, 0, none⟩), lnV n ao ws.length cap] w (MetP base wk pb ob again (spaceF again S ws) w) := by
  have HO := Lib.hid fun (w1 : World) (hb : Below w.heap.size w w1) => one_c n ao cap ws 0 2147483647 w1 (wd_below hb hl.inn) hl.le hl.cap (fun s hs => (hl.each s hs).2)
  have HA := Lib.hid h
  have hs := h.hs
  have a0 := h.a0
  have a1 := h.a1
  have hbd := fun v => oneF_bd (ws := ws) (low := 0) (high := 2147483647) (v := v)
  obtain ⟨RR, hRR⟩ : ∃ RR, spaceF again S ws = RR := ⟨_, rfl⟩
  rw [hRR]
  unfold spaceF at hRR
  unfold lnV at HO ⊢
  generalize oneF ws 0 2147483647 = R at HO hbd hRR
  have HR := Lib.hid hRR
  clear hRR
  obtain ⟨k0, -, -, -, hlt⟩ := h.cell
  clear h hl
  go_enter Tryz.func48, Tryz.ntmps48
  go_wp2_with fail
  obtain ⟨w0, hw0⟩ : ∃ x, x = w.alloc (.cells #[.int .i64 n, .slice ao ws.length cap] 51) := ⟨_, rfl⟩
  rw [← hw0]
  have hb0 : Below w.heap.size w w0 := by rw [hw0]; exact (Below.refl _ _).alloc (Nat.le_refl _) _
  have hbx : w0.heap[w.heap.size]? = some (.cells #[.int .i64 n, .slice ao ws.length cap] 51 (0, 0)) := by rw [hw0]; exact heap_alloc_new w _
  have q0 : w0.drew.cell? ⟨w.heap.size, 0, none⟩ = some (.int .i64 n) := cell_of_row w0.drew _ 0 _ _ _ hbx
  have q1 : w0.drew.cell? ⟨w.heap.size, 1, none⟩ = some (.slice ao ws.length cap) := cell_of_row w0.drew _ 1 _ _ _ hbx
  have k0d : w0.drew.cell? ⟨wk, 0, none⟩ = some (.int .i64 S.at') := (hb0.cell (p := ⟨wk, 0, none⟩) hlt).trans k0
  have hb0d : Below w.heap.size w w0.drew := hb0.drew
  clear hw0 hbx
  refine wp_region_held_drew (S := fun _ => True) (by kernel_rfl) trivial (fun hHeld => ?_)
  refine wpAnyH_take (i := 0) (oi := ⟨some 4, Op.move (Operand.tmp 0), _, _, _, none⟩) (v := .pointer (some ⟨wk, 0, none⟩)) rfl (by kernel_rfl) (by kernel_rfl) (by kernel_rfl) (fun _ _ _ h => h) (Or.inl ⟨by rfl, ?_⟩) hHeld ?_
  · intro w' hSw
    skip
    go_simp
  try simp only [Act.put, List.setIfInBounds_toArray, List.set_cons_zero, List.set_cons_succ]
  refine wpAnyH_take (i := 1) (oi := ⟨some 5, Op.move (Operand.tmp 0), _, _, _, none⟩) (v := .pointer (some ⟨wk, 0, none⟩)) rfl (by kernel_rfl) (by kernel_rfl) (by kernel_rfl) (fun _ _ _ h => h) (Or.inl ⟨by rfl, ?_⟩) hHeld ?_
  · intro w' hSw
    skip
    go_simp
  try simp only [Act.put, List.setIfInBounds_toArray, List.set_cons_zero, List.set_cons_succ]
  refine wpAnyH_take (i := 2) (oi := ⟨some 6, Op.nilCheck (Operand.tmp 5), _, _, _, none⟩) (v := .pointer (some ⟨wk, 0, none⟩)) rfl (by kernel_rfl) (by kernel_rfl) (by kernel_rfl) (fun _ _ _ h => h) (Or.inl ⟨by rfl, ?_⟩) hHeld ?_
  · intro w' hSw
    skip
    go_simp
  try simp only [Act.put, List.setIfInBounds_toArray, List.set_cons_zero, List.set_cons_succ]
  refine wpAnyH_take (i := 3) (oi := ⟨some 7, Op.fieldAddr _ (Operand.tmp 6) 0, _, _, _, none⟩) (v := .pointer (some ⟨wk, 0, none⟩)) rfl (by kernel_rfl) (by kernel_rfl) (by kernel_rfl) (fun _ _ _ h => h) (Or.inl ⟨by rfl, ?_⟩) hHeld ?_
  · intro w' hSw
    skip
    go_simp
  try simp only [Act.put, List.setIfInBounds_toArray, List.set_cons_zero, List.set_cons_succ]
  refine wpAnyH_ready (rs := [4, 5]) (by kernel_rfl) (by simp) ?_
  refine (AllReadyH.cons (o := ⟨some 8, Op.load _ (Operand.tmp 7), _, _, _, none⟩) rfl (fun K hK => ?_) (AllReadyH.cons (o := ⟨some 9, Op.load _ (Operand.tmp 3), _, _, _, none⟩) rfl (fun K hK => ?_) AllReadyH.nil))
  · go_simp
    refine hK.out _ _ trivial (fun _ => ?_)
    clear hK K
    try simp only [Act.put, List.setIfInBounds_toArray, List.set_cons_zero, List.set_cons_succ]
    refine wpAnyH_ready (rs := [5]) (by kernel_rfl) (by simp) ?_
    refine (AllReadyH.cons (o := ⟨some 9, Op.load _ (Operand.tmp 3), _, _, _, none⟩) rfl (fun K hK => ?_) AllReadyH.nil)
    · go_simp
      refine hK.out _ _ trivial (fun _ => ?_)
      clear hK K
      try simp only [Act.put, List.setIfInBounds_toArray, List.set_cons_zero, List.set_cons_succ]
      refine wpAnyH_ready (rs := [6]) (by kernel_rfl) (by simp) ?_
      refine (AllReadyH.cons (o := ⟨some 10, Op.call { callee := Callee.value (Operand.func _), args := #[Operand.tmp 9, Operand.const (Value.int IntKind.i64 0), Operand.const (Value.int IntKind.i64 2147483647)], argTypes := _ }, _, _, _, none⟩) rfl (fun K hK => ?_) AllReadyH.nil)
      · go_simp
        go_at_call 72
        refine (HO.out _ hb0d).mono ?_
        rintro e w1 ⟨hb1, hr⟩
        have hB : Below w.heap.size w w1 := hb0d.trans (hb1.mono hb0d.size)
        have HA1 := Lib.hid (HA.out.below hB)
        rcases R with er | v
        · obtain rfl := hr
          obtain rfl : RR = .error er := HR.out.symm
          exact ⟨rfl, Fr.of_below hB hs, rfl⟩
        obtain rfl := hr
        obtain ⟨v0, v1⟩ := hbd v rfl
        have k1d : w1.cell? ⟨wk, 0, none⟩ = some (.int .i64 S.at') := HA1.out.cell.1
        have hwr : IntKind.i64.wrap (S.at' + v) = S.at' + v := IntWalk.i64_in _ ⟨by omega, by omega⟩
        have HT := Lib.hid (to_m base wk pb ob again S (S.at' + v) w1 HA1.out (by omega) (by omega))
        obtain ⟨TT, hT⟩ : ∃ T, toF again S (S.at' + v) = T := ⟨_, rfl⟩
        rw [hT] at HT
        obtain rfl : RR = TT := by rw [← HR.out, ← hT]
        clear hT HR
        refine hK.out _ _ trivial (fun _ => ?_)
        clear hK K
        try simp only [Act.put, List.setIfInBounds_toArray, List.set_cons_zero, List.set_cons_succ]
        refine wpAnyH_take (i := 7) (oi := ⟨some 11, Op.binOp BinOp.add _ (Operand.tmp 8) (Operand.tmp 10) _, _, _, _, none⟩) (v := .int .i64 (S.at' + v)) rfl (by kernel_rfl) (by kernel_rfl) (by kernel_rfl) (fun _ _ _ h => h) (Or.inl ⟨by rfl, ?_⟩) hHeld ?_
        · intro w' hSw
          skip
          go_simp
        try simp only [Act.put, List.setIfInBounds_toArray, List.set_cons_zero, List.set_cons_succ]
        refine wpAnyH_ready (rs := [8]) (by kernel_rfl) (by simp) ?_
        refine (AllReadyH.cons (o := ⟨some 12, Op.call { callee := Callee.value (Operand.func _), args := #[Operand.tmp 4, Operand.tmp 11], argTypes := _ }, _, _, _, none⟩) rfl (fun K hK => ?_) AllReadyH.nil)
        · go_simp
          go_at_call 53
          refine HT.out.mono ?_
          rintro e w2 hm
          obtain ⟨f1, hm'⟩ := hm.pre hB hs
          rcases RR with er | TT
          · obtain rfl := hm'
            exact ⟨rfl, f1, rfl⟩
          obtain ⟨rfl, f2⟩ := hm'
          refine hK.out _ _ trivial (fun _ => ?_)
          clear hK K
          try simp only [Act.put, List.setIfInBounds_toArray, List.set_cons_zero, List.set_cons_succ]
          refine wpAnyH_done (by kernel_rfl) ?_ _
          go_end0
          exact ⟨f1, rfl, f2⟩
  · go_simp
    refine hK.out _ _ trivial (fun _ => ?_)
    clear hK K
    try simp only [Act.put, List.setIfInBounds_toArray, List.set_cons_zero, List.set_cons_succ]
    refine wpAnyH_ready (rs := [4, 6]) (by kernel_rfl) (by simp) ?_
    refine (AllReadyH.cons (o := ⟨some 8, Op.load _ (Operand.tmp 7), _, _, _, none⟩) rfl (fun K hK => ?_) (AllReadyH.cons (o := ⟨some 10, Op.call { callee := Callee.value (Operand.func _), args := #[Operand.tmp 9, Operand.const (Value.int IntKind.i64 0), Operand.const (Value.int IntKind.i64 2147483647)], argTypes := _ }, _, _, _, none⟩) rfl (fun K hK => ?_) AllReadyH.nil))
    · go_simp
      refine hK.out _ _ trivial (fun _ => ?_)
      clear hK K
      try simp only [Act.put, List.setIfInBounds_toArray, List.set_cons_zero, List.set_cons_succ]
      refine wpAnyH_ready (rs := [6]) (by kernel_rfl) (by simp) ?_
      refine (AllReadyH.cons (o := ⟨some 10, Op.call { callee := Callee.value (Operand.func _), args := #[Operand.tmp 9, Operand.const (Value.int IntKind.i64 0), Operand.const (Value.int IntKind.i64 2147483647)], argTypes := _ }, _, _, _, none⟩) rfl (fun K hK => ?_) AllReadyH.nil)
      · go_simp
        go_at_call 72
        refine (HO.out _ hb0d).mono ?_
        rintro e w1 ⟨hb1, hr⟩
        have hB : Below w.heap.size w w1 := hb0d.trans (hb1.mono hb0d.size)
        have HA1 := Lib.hid (HA.out.below hB)
        rcases R with er | v
        · obtain rfl := hr
          obtain rfl : RR = .error er := HR.out.symm
          exact ⟨rfl, Fr.of_below hB hs, rfl⟩
        obtain rfl := hr
        obtain ⟨v0, v1⟩ := hbd v rfl
        have k1d : w1.cell? ⟨wk, 0, none⟩ = some (.int .i64 S.at') := HA1.out.cell.1
        have hwr : IntKind.i64.wrap (S.at' + v) = S.at' + v := IntWalk.i64_in _ ⟨by omega, by omega⟩
        have HT := Lib.hid (to_m base wk pb ob again S (S.at' + v) w1 HA1.out (by omega) (by omega))
        obtain ⟨TT, hT⟩ : ∃ T, toF again S (S.at' + v) = T := ⟨_, rfl⟩
        rw [hT] at HT
        obtain rfl : RR = TT := by rw [← HR.out, ← hT]
        clear hT HR
        refine hK.out _ _ trivial (fun _ => ?_)
        clear hK K
        try simp only [Act.put, List.setIfInBounds_toArray, List.set_cons_zero, List.set_cons_succ]
        refine wpAnyH_take (i := 7) (oi := ⟨some 11, Op.binOp BinOp.add _ (Operand.tmp 8) (Operand.tmp 10) _, _, _, _, none⟩) (v := .int .i64 (S.at' + v)) rfl (by kernel_rfl) (by kernel_rfl) (by kernel_rfl) (fun _ _ _ h => h) (Or.inl ⟨by rfl, ?_⟩) hHeld ?_
        · intro w' hSw
          skip
          go_simp
        try simp only [Act.put, List.setIfInBounds_toArray, List.set_cons_zero, List.set_cons_succ]
        refine wpAnyH_ready (rs := [8]) (by kernel_rfl) (by simp) ?_
        refine (AllReadyH.cons (o := ⟨some 12, Op.call { callee := Callee.value (Operand.func _), args := #[Operand.tmp 4, Operand.tmp 11], argTypes := _ }, _, _, _, none⟩) rfl (fun K hK => ?_) AllReadyH.nil)
        · go_simp
          go_at_call 53
          refine HT.out.mono ?_
          rintro e w2 hm
          obtain ⟨f1, hm'⟩ := hm.pre hB hs
          rcases RR with er | TT
          · obtain rfl := hm'
            exact ⟨rfl, f1, rfl⟩
          obtain ⟨rfl, f2⟩ := hm'
          refine hK.out _ _ trivial (fun _ => ?_)
          clear hK K
          try simp only [Act.put, List.setIfInBounds_toArray, List.set_cons_zero, List.set_cons_succ]
          refine wpAnyH_done (by kernel_rfl) ?_ _
          go_end0
          exact ⟨f1, rfl, f2⟩
    · go_simp
      go_at_call 72
      refine (HO.out _ hb0d).mono ?_
      rintro e w1 ⟨hb1, hr⟩
      have hB : Below w.heap.size w w1 := hb0d.trans (hb1.mono hb0d.size)
      have HA1 := Lib.hid (HA.out.below hB)
      rcases R with er | v
      · obtain rfl := hr
        obtain rfl : RR = .error er := HR.out.symm
        exact ⟨rfl, Fr.of_below hB hs, rfl⟩
      obtain rfl := hr
      obtain ⟨v0, v1⟩ := hbd v rfl
      have k1d : w1.cell? ⟨wk, 0, none⟩ = some (.int .i64 S.at') := HA1.out.cell.1
      have hwr : IntKind.i64.wrap (S.at' + v) = S.at' + v := IntWalk.i64_in _ ⟨by omega, by omega⟩
      have HT := Lib.hid (to_m base wk pb ob again S (S.at' + v) w1 HA1.out (by omega) (by omega))
      obtain ⟨TT, hT⟩ : ∃ T, toF again S (S.at' + v) = T := ⟨_, rfl⟩
      rw [hT] at HT
      obtain rfl : RR = TT := by rw [← HR.out, ← hT]
      clear hT HR
      refine hK.out _ _ trivial (fun _ => ?_)
      clear hK K
      try simp only [Act.put, List.setIfInBounds_toArray, List.set_cons_zero, List.set_cons_succ]
      refine wpAnyH_ready (rs := [4]) (by kernel_rfl) (by simp) ?_
      refine (AllReadyH.cons (o := ⟨some 8, Op.load _ (Operand.tmp 7), _, _, _, none⟩) rfl (fun K hK => ?_) AllReadyH.nil)
      · go_simp
        refine hK.out _ _ trivial (fun _ => ?_)
        clear hK K
        try simp only [Act.put, List.setIfInBounds_toArray, List.set_cons_zero, List.set_cons_succ]
        refine wpAnyH_take (i := 7) (oi := ⟨some 11, Op.binOp BinOp.add _ (Operand.tmp 8) (Operand.tmp 10) _, _, _, _, none⟩) (v := .int .i64 (S.at' + v)) rfl (by kernel_rfl) (by kernel_rfl) (by kernel_rfl) (fun _ _ _ h => h) (Or.inl ⟨by rfl, ?_⟩) hHeld ?_
        · intro w' hSw
          skip
          go_simp
        try simp only [Act.put, List.setIfInBounds_toArray, List.set_cons_zero, List.set_cons_succ]
        refine wpAnyH_ready (rs := [8]) (by kernel_rfl) (by simp) ?_
        refine (AllReadyH.cons (o := ⟨some 12, Op.call { callee := Callee.value (Operand.func _), args := #[Operand.tmp 4, Operand.tmp 11], argTypes := _ }, _, _, _, none⟩) rfl (fun K hK => ?_) AllReadyH.nil)
        · go_simp
          go_at_call 53
          refine HT.out.mono ?_
          rintro e w2 hm
          obtain ⟨f1, hm'⟩ := hm.pre hB hs
          rcases RR with er | TT
          · obtain rfl := hm'
            exact ⟨rfl, f1, rfl⟩
          obtain ⟨rfl, f2⟩ := hm'
          refine hK.out _ _ trivial (fun _ => ?_)
          clear hK K
          try simp only [Act.put, List.setIfInBounds_toArray, List.set_cons_zero, List.set_cons_succ]
          refine wpAnyH_done (by kernel_rfl) ?_ _
          go_end0
          exact ⟨f1, rfl, f2⟩
end Go.Proofs.YtgfljokamgbcaaaGreatDoor
