/- The walk of asm's operations. (Written by mkAU.py.) -/
import Derived.Test.YtgfljokamgbcaaaGreatDoorAsT
namespace Go.Proofs.YtgfljokamgbcaaaGreatDoor
open Go.RowKit Go.ChangeMaps
set_option linter.unusedSimpArgs false
set_option linter.unusedVariables false
set_option maxRecDepth 100000

theorem show_len100A {op a b imm : Int} (h6 : -2147483648 ≤ imm) (h7 : imm < 2147483648) : (showL op a b imm).length ≤ 100 := by
  unfold showL
  split
  · split
    · rename_i n hf
      obtain ⟨k, hk⟩ := List.getElem?_of_mem (List.mem_of_find?_eq_some hf)
      obtain ⟨_, _, _, _, hw⟩ := nm_is hk
      have hi := itoa_len imm h6 h7
      unfold Nm.show regL numL
      simp only [List.length_append]
      split <;> split <;> split <;> simp <;> omega
    · simp
  · simp
theorem pTab_of {B : Nat} {w : World} (h : Lib.TabBelow Tryz.prog B w "internal/strconv.uint64pow10" .u64 Lib.pow10Tab) (hB : B ≤ w.heap.size) : pTab w := fun w' hb => h w' (hb.mono hB)
theorem SMap.made (w : World) (e : TypeId) (q : IntKind) : SMap (w.alloc (.map #[] 0)) e q w.heap.size 0 (fun _ => none) :=
  ⟨.map [], World.ownsMap_made w _ _ _, Go.Maps.isMap_empty, fun s _ => ⟨rfl, rfl⟩⟩
theorem SMap.more {w : World} {e : TypeId} {q : IntKind} {b n m : Nat} {f : Wd → Option Int} (h : SMap w e q b n f) (hm : n ≤ m) : SMap w e q b m f := by
  obtain ⟨D, h1, h2⟩ := h
  exact ⟨D, h1.mono hm, h2⟩
theorem SMap.below {w w' : World} {e : TypeId} {q : IntKind} {b n : Nat} {f : Wd → Option Int} (h : SMap w e q b n f) (hb : Below w.heap.size w w') : SMap w' e q b n f := h.same (hb.block _ h.lt)

set_option maxHeartbeats 8000000 in
theorem operations_c (w : World) (HT : Hid (pTab w)) : Calls Tryz.prog 9 #[] w fun e w' => e = .returned (.map (some w.heap.size)) ∧ SMap w' 5 .u8 w.heap.size 256 opF ∧ Below w.heap.size w w' := by
  have hmm := @run_makeMap Tryz.prog
  go_enter Tryz.func9, Tryz.ntmps9
  go_wp2_with fail
  clear hmm
  go_loopg [5] 256 (fun gk v5 wr => ∃ k : Nat, gk + k = 256 ∧ v5 = .int .i64 (k : Int) ∧ SMap wr 5 .u8 w.heap.size k (opK k) ∧ Below w.heap.size w wr)
  case atStart => exact ⟨0, rfl, rfl, (SMap.made w _ _).ext (fun s => rfl), (Below.refl _ _).alloc (Nat.le_refl _) _⟩
  case round =>
    obtain ⟨k, hk, rfl, hM, hB⟩ := hrel
    by_cases c1 : k < 256
    · have i1 : (k : Int) < 256 := by omega
      have hw8 : IntKind.u8.wrap (k : Int) = (k : Int) := IntWalk.u8_in _ ⟨by omega, by omega⟩
      have HMy := Lib.hid fun W => Isa.may_c (k : Int) 0 0 0 false W (by omega) (by omega) (by omega) (by omega) (by omega) (by omega) (by omega) (by omega)
      have hg : Isa.mayB (Isa.fm (k : Int) false) 0 0 0 = guestB (k : Int) := rfl
      rw [hg] at HMy
      unfold Isa.insV at HMy
      have HOK := Lib.hid fun s => opK_succ k s
      generalize guestB (k : Int) = g at HMy HOK
      go_wp2_with fail
      refine (HMy.out _).mono ?_
      rintro e w2 ⟨rfl, hb2⟩
      have hbx2 : w2.heap[wr.heap.size]? = some (.cells #[.int .u8 (k : Int), .int .u8 0, .int .u8 0, .int .i32 0] 67 (0, 0)) := (hb2.block _ (by simp)).trans (heap_alloc_new wr _)
      have hb2' : Below wr.heap.size wr w2 := ((Below.refl _ _).alloc (Nat.le_refl _) _).trans (hb2.mono (by simp))
      have hM2 := hM.below hb2'
      have hB2 : Below w.heap.size w w2 := hB.trans (hb2'.mono hB.size)
      clear hM hB hb2
      cases g
      · go_wp2_with fail
        go_roundg (gk - 1)
        case measure => omega
        case rel => exact ⟨k + 1, by omega, by go_num, (hM2.more (Nat.le_succ _)).ext (fun s => by rw [HOK.out]; rfl), hB2⟩
      · have hlt2 := heap_ltA hbx2
        have q0 : w2.drew.cell? ⟨wr.heap.size, 0, none⟩ = some (.int .u8 (k : Int)) := cell_of_row w2 _ 0 _ _ _ hbx2
        have q1 : w2.drew.cell? ⟨wr.heap.size, 1, none⟩ = some (.int .u8 0) := cell_of_row w2 _ 1 _ _ _ hbx2
        have q2 : w2.drew.cell? ⟨wr.heap.size, 2, none⟩ = some (.int .u8 0) := cell_of_row w2 _ 2 _ _ _ hbx2
        have q3 : w2.drew.cell? ⟨wr.heap.size, 3, none⟩ = some (.int .i32 0) := cell_of_row w2 _ 3 _ _ _ hbx2
        have HM2 := Lib.hid hM2
        have HB2 := Lib.hid hB2
        have HSh := Lib.hid fun (W : World) (hW : Below w2.heap.size w2 W) => show_c (k : Int) 0 0 0 W (by omega) (by omega) (by omega) (by omega) (by omega) (by omega) (by omega) (by omega) (Lib.hid (pTab_of (HT.out.on (HB2.out.trans (hW.mono HB2.out.size))) (Nat.le_trans HB2.out.size hW.size)))
        have HFi := Lib.hid fun W => first_c (showL (k : Int) 0 0 0) (Nat.le_trans (show_len100A (by omega) (by omega)) (by omega)) W
        have hlf : (firstW (showL (k : Int) 0 0 0)).length ≤ maxLen := by
          have h1 := show_len100A (op := (k : Int)) (a := 0) (b := 0) (imm := 0) (by omega) (by omega)
          have h2 : (firstW (showL (k : Int) 0 0 0)).length ≤ (showL (k : Int) 0 0 0).length := by unfold firstW; exact (List.takeWhile_sublist _).length_le
          unfold maxLen
          omega
        have HPt := Lib.hid fun (W : World) (hW : Below w2.heap.size w2 W) => (HM2.out.below hW).put (mt := 41) Tryz.underlying5 Tryz.underlying41 (by omega) (firstW (showL (k : Int) 0 0 0)) hlf (k : Int) (by have m0 : IntKind.u8.min = 0 := rfl; have m1 : IntKind.u8.max = 255 := rfl; simp [Lit.wf, m0, m1]; omega)
        have HOK2 := Lib.hid (show ∀ s, updS (opK k) (firstW (showL (k : Int) 0 0 0)) (k : Int) s = opK (k + 1) s from fun s => by
          rw [HOK.out]
          unfold updS
          by_cases c : s = firstW (showL (k : Int) 0 0 0)
          · rw [if_pos c, if_pos (by simp [c])]
          · rw [if_neg c, if_neg (by simpa using fun e => c e.symm)])
        generalize firstW (showL (k : Int) 0 0 0) = fw at HFi HPt HOK2 hlf
        generalize showL (k : Int) 0 0 0 = sw at HSh HFi
        generalize (⟨fw.toArray⟩ : ByteArray) = fb at HFi HPt
        generalize (⟨sw.toArray⟩ : ByteArray) = sb at HSh HFi
        unfold Isa.insV at HSh
        clear hbx2 hM2 hB2 hb2' HOK HMy
        go_wp2_with fail
        refine wp_region_held_drew (S := fun _ => True) (by kernel_rfl) trivial (fun hHeld => ?_)
        refine wpAnyH_take (i := 0) (oi := ⟨some 13, Op.move (Operand.tmp 1), _, _, _, none⟩) (v := .map (some w.heap.size)) rfl (by kernel_rfl) (by kernel_rfl) (by kernel_rfl) (fun _ _ _ h => h) (Or.inl ⟨by rfl, ?_⟩) hHeld ?_
        · intro w' hSw
          skip
          go_simp
        try simp only [Act.put, List.setIfInBounds_toArray, List.set_cons_zero, List.set_cons_succ]
        refine wpAnyH_take (i := 4) (oi := ⟨some 17, Op.fieldAddr _ (Operand.tmp 3) 0, _, _, _, none⟩) (v := .pointer (some ⟨wr.heap.size, 0, none⟩)) rfl (by kernel_rfl) (by kernel_rfl) (by kernel_rfl) (fun _ _ _ h => h) (Or.inl ⟨by rfl, ?_⟩) hHeld ?_
        · intro w' hSw
          skip
          go_simp
        try simp only [Act.put, List.setIfInBounds_toArray, List.set_cons_zero, List.set_cons_succ]
        refine wpAnyH_ready (rs := [1, 5]) (by kernel_rfl) (by simp) ?_
        refine (AllReadyH.cons (o := ⟨some 14, Op.load _ (Operand.tmp 3), _, _, _, none⟩) rfl (fun K hK => ?_) (AllReadyH.cons (o := ⟨some 18, Op.load _ (Operand.tmp 17), _, _, _, none⟩) rfl (fun K hK => ?_) AllReadyH.nil))
        · go_simp
          refine hK.out _ _ trivial (fun _ => ?_)
          clear hK K
          try simp only [Act.put, List.setIfInBounds_toArray, List.set_cons_zero, List.set_cons_succ]
          refine wpAnyH_ready (rs := [2, 5]) (by kernel_rfl) (by simp) ?_
          refine (AllReadyH.cons (o := ⟨some 15, Op.call { callee := Callee.value (Operand.func _), args := #[Operand.tmp 14], argTypes := _ }, _, _, _, none⟩) rfl (fun K hK => ?_) (AllReadyH.cons (o := ⟨some 18, Op.load _ (Operand.tmp 17), _, _, _, none⟩) rfl (fun K hK => ?_) AllReadyH.nil))
          · go_simp
            go_at_call 20
            refine (HSh.out _ ((Below.refl _ _).drew)).mono ?_
            rintro e w3 ⟨rfl, hb3⟩
            have hW3 : Below w2.heap.size w2 w3 := ((Below.refl _ _).drew).trans hb3
            have q0' : w3.cell? ⟨wr.heap.size, 0, none⟩ = some (.int .u8 (k : Int)) := (hb3.cell (p := ⟨wr.heap.size, 0, none⟩) (by exact hlt2)).trans q0
            refine hK.out _ _ trivial (fun _ => ?_)
            clear hK K
            try simp only [Act.put, List.setIfInBounds_toArray, List.set_cons_zero, List.set_cons_succ]
            refine wpAnyH_ready (rs := [3, 5]) (by kernel_rfl) (by simp) ?_
            refine (AllReadyH.cons (o := ⟨some 16, Op.call { callee := Callee.value (Operand.func _), args := #[Operand.tmp 15], argTypes := _ }, _, _, _, none⟩) rfl (fun K hK => ?_) (AllReadyH.cons (o := ⟨some 18, Op.load _ (Operand.tmp 17), _, _, _, none⟩) rfl (fun K hK => ?_) AllReadyH.nil))
            · go_simp
              go_at_call 19
              refine (HFi.out _).mono ?_
              rintro e w4 ⟨rfl, hb4⟩
              have hW4 : Below w2.heap.size w2 w4 := hW3.trans (hb4.mono hW3.size)
              have q0'' : w4.cell? ⟨wr.heap.size, 0, none⟩ = some (.int .u8 (k : Int)) := (hb4.cell (p := ⟨wr.heap.size, 0, none⟩) (by exact Nat.lt_of_lt_of_le hlt2 hW3.size)).trans q0'
              refine hK.out _ _ trivial (fun _ => ?_)
              clear hK K
              try simp only [Act.put, List.setIfInBounds_toArray, List.set_cons_zero, List.set_cons_succ]
              refine wpAnyH_ready (rs := [5]) (by kernel_rfl) (by simp) ?_
              refine (AllReadyH.cons (o := ⟨some 18, Op.load _ (Operand.tmp 17), _, _, _, none⟩) rfl (fun K hK => ?_) AllReadyH.nil)
              · go_simp
                refine hK.out _ _ trivial (fun _ => ?_)
                clear hK K
                try simp only [Act.put, List.setIfInBounds_toArray, List.set_cons_zero, List.set_cons_succ]
                refine wpAnyH_ready (rs := [6]) (by kernel_rfl) (by simp) ?_
                refine (AllReadyH.cons (o := ⟨none, Op.mapUpdate _ (Operand.tmp 13) (Operand.tmp 16) (Operand.tmp 18), _, _, _, none⟩) rfl (fun K hK => ?_) AllReadyH.nil)
                · obtain ⟨w5, hrun5, hM5, hg5⟩ := HPt.out w4 hW4
                  go_simp
                  refine hK.out _ _ trivial (fun _ => ?_)
                  clear hK K
                  try simp only [Act.put, List.setIfInBounds_toArray, List.set_cons_zero, List.set_cons_succ]
                  refine wpAnyH_done (by kernel_rfl) ?_ _
                  have hB4 : Below w.heap.size w w4 := HB2.out.trans (hW4.mono HB2.out.size)
                  go_wp2_with fail
                  go_roundg (gk - 1)
                  case measure => omega
                  case rel => exact ⟨k + 1, by omega, by go_num, hM5.ext HOK2.out, hB4.grown hg5 hB4.size (fun j hj => by cases hj; exact Nat.le_refl _)⟩
            · go_simp
              refine hK.out _ _ trivial (fun _ => ?_)
              clear hK K
              try simp only [Act.put, List.setIfInBounds_toArray, List.set_cons_zero, List.set_cons_succ]
              refine wpAnyH_ready (rs := [3]) (by kernel_rfl) (by simp) ?_
              refine (AllReadyH.cons (o := ⟨some 16, Op.call { callee := Callee.value (Operand.func _), args := #[Operand.tmp 15], argTypes := _ }, _, _, _, none⟩) rfl (fun K hK => ?_) AllReadyH.nil)
              · go_simp
                go_at_call 19
                refine (HFi.out _).mono ?_
                rintro e w4 ⟨rfl, hb4⟩
                have hW4 : Below w2.heap.size w2 w4 := hW3.trans (hb4.mono hW3.size)
                have q0'' : w4.cell? ⟨wr.heap.size, 0, none⟩ = some (.int .u8 (k : Int)) := (hb4.cell (p := ⟨wr.heap.size, 0, none⟩) (by exact Nat.lt_of_lt_of_le hlt2 hW3.size)).trans q0'
                refine hK.out _ _ trivial (fun _ => ?_)
                clear hK K
                try simp only [Act.put, List.setIfInBounds_toArray, List.set_cons_zero, List.set_cons_succ]
                refine wpAnyH_ready (rs := [6]) (by kernel_rfl) (by simp) ?_
                refine (AllReadyH.cons (o := ⟨none, Op.mapUpdate _ (Operand.tmp 13) (Operand.tmp 16) (Operand.tmp 18), _, _, _, none⟩) rfl (fun K hK => ?_) AllReadyH.nil)
                · obtain ⟨w5, hrun5, hM5, hg5⟩ := HPt.out w4 hW4
                  go_simp
                  refine hK.out _ _ trivial (fun _ => ?_)
                  clear hK K
                  try simp only [Act.put, List.setIfInBounds_toArray, List.set_cons_zero, List.set_cons_succ]
                  refine wpAnyH_done (by kernel_rfl) ?_ _
                  have hB4 : Below w.heap.size w w4 := HB2.out.trans (hW4.mono HB2.out.size)
                  go_wp2_with fail
                  go_roundg (gk - 1)
                  case measure => omega
                  case rel => exact ⟨k + 1, by omega, by go_num, hM5.ext HOK2.out, hB4.grown hg5 hB4.size (fun j hj => by cases hj; exact Nat.le_refl _)⟩
          · go_simp
            refine hK.out _ _ trivial (fun _ => ?_)
            clear hK K
            try simp only [Act.put, List.setIfInBounds_toArray, List.set_cons_zero, List.set_cons_succ]
            refine wpAnyH_ready (rs := [2]) (by kernel_rfl) (by simp) ?_
            refine (AllReadyH.cons (o := ⟨some 15, Op.call { callee := Callee.value (Operand.func _), args := #[Operand.tmp 14], argTypes := _ }, _, _, _, none⟩) rfl (fun K hK => ?_) AllReadyH.nil)
            · go_simp
              go_at_call 20
              refine (HSh.out _ ((Below.refl _ _).drew)).mono ?_
              rintro e w3 ⟨rfl, hb3⟩
              have hW3 : Below w2.heap.size w2 w3 := ((Below.refl _ _).drew).trans hb3
              have q0' : w3.cell? ⟨wr.heap.size, 0, none⟩ = some (.int .u8 (k : Int)) := (hb3.cell (p := ⟨wr.heap.size, 0, none⟩) (by exact hlt2)).trans q0
              refine hK.out _ _ trivial (fun _ => ?_)
              clear hK K
              try simp only [Act.put, List.setIfInBounds_toArray, List.set_cons_zero, List.set_cons_succ]
              refine wpAnyH_ready (rs := [3]) (by kernel_rfl) (by simp) ?_
              refine (AllReadyH.cons (o := ⟨some 16, Op.call { callee := Callee.value (Operand.func _), args := #[Operand.tmp 15], argTypes := _ }, _, _, _, none⟩) rfl (fun K hK => ?_) AllReadyH.nil)
              · go_simp
                go_at_call 19
                refine (HFi.out _).mono ?_
                rintro e w4 ⟨rfl, hb4⟩
                have hW4 : Below w2.heap.size w2 w4 := hW3.trans (hb4.mono hW3.size)
                have q0'' : w4.cell? ⟨wr.heap.size, 0, none⟩ = some (.int .u8 (k : Int)) := (hb4.cell (p := ⟨wr.heap.size, 0, none⟩) (by exact Nat.lt_of_lt_of_le hlt2 hW3.size)).trans q0'
                refine hK.out _ _ trivial (fun _ => ?_)
                clear hK K
                try simp only [Act.put, List.setIfInBounds_toArray, List.set_cons_zero, List.set_cons_succ]
                refine wpAnyH_ready (rs := [6]) (by kernel_rfl) (by simp) ?_
                refine (AllReadyH.cons (o := ⟨none, Op.mapUpdate _ (Operand.tmp 13) (Operand.tmp 16) (Operand.tmp 18), _, _, _, none⟩) rfl (fun K hK => ?_) AllReadyH.nil)
                · obtain ⟨w5, hrun5, hM5, hg5⟩ := HPt.out w4 hW4
                  go_simp
                  refine hK.out _ _ trivial (fun _ => ?_)
                  clear hK K
                  try simp only [Act.put, List.setIfInBounds_toArray, List.set_cons_zero, List.set_cons_succ]
                  refine wpAnyH_done (by kernel_rfl) ?_ _
                  have hB4 : Below w.heap.size w w4 := HB2.out.trans (hW4.mono HB2.out.size)
                  go_wp2_with fail
                  go_roundg (gk - 1)
                  case measure => omega
                  case rel => exact ⟨k + 1, by omega, by go_num, hM5.ext HOK2.out, hB4.grown hg5 hB4.size (fun j hj => by cases hj; exact Nat.le_refl _)⟩
        · go_simp
          refine hK.out _ _ trivial (fun _ => ?_)
          clear hK K
          try simp only [Act.put, List.setIfInBounds_toArray, List.set_cons_zero, List.set_cons_succ]
          refine wpAnyH_ready (rs := [1]) (by kernel_rfl) (by simp) ?_
          refine (AllReadyH.cons (o := ⟨some 14, Op.load _ (Operand.tmp 3), _, _, _, none⟩) rfl (fun K hK => ?_) AllReadyH.nil)
          · go_simp
            refine hK.out _ _ trivial (fun _ => ?_)
            clear hK K
            try simp only [Act.put, List.setIfInBounds_toArray, List.set_cons_zero, List.set_cons_succ]
            refine wpAnyH_ready (rs := [2]) (by kernel_rfl) (by simp) ?_
            refine (AllReadyH.cons (o := ⟨some 15, Op.call { callee := Callee.value (Operand.func _), args := #[Operand.tmp 14], argTypes := _ }, _, _, _, none⟩) rfl (fun K hK => ?_) AllReadyH.nil)
            · go_simp
              go_at_call 20
              refine (HSh.out _ ((Below.refl _ _).drew)).mono ?_
              rintro e w3 ⟨rfl, hb3⟩
              have hW3 : Below w2.heap.size w2 w3 := ((Below.refl _ _).drew).trans hb3
              have q0' : w3.cell? ⟨wr.heap.size, 0, none⟩ = some (.int .u8 (k : Int)) := (hb3.cell (p := ⟨wr.heap.size, 0, none⟩) (by exact hlt2)).trans q0
              refine hK.out _ _ trivial (fun _ => ?_)
              clear hK K
              try simp only [Act.put, List.setIfInBounds_toArray, List.set_cons_zero, List.set_cons_succ]
              refine wpAnyH_ready (rs := [3]) (by kernel_rfl) (by simp) ?_
              refine (AllReadyH.cons (o := ⟨some 16, Op.call { callee := Callee.value (Operand.func _), args := #[Operand.tmp 15], argTypes := _ }, _, _, _, none⟩) rfl (fun K hK => ?_) AllReadyH.nil)
              · go_simp
                go_at_call 19
                refine (HFi.out _).mono ?_
                rintro e w4 ⟨rfl, hb4⟩
                have hW4 : Below w2.heap.size w2 w4 := hW3.trans (hb4.mono hW3.size)
                have q0'' : w4.cell? ⟨wr.heap.size, 0, none⟩ = some (.int .u8 (k : Int)) := (hb4.cell (p := ⟨wr.heap.size, 0, none⟩) (by exact Nat.lt_of_lt_of_le hlt2 hW3.size)).trans q0'
                refine hK.out _ _ trivial (fun _ => ?_)
                clear hK K
                try simp only [Act.put, List.setIfInBounds_toArray, List.set_cons_zero, List.set_cons_succ]
                refine wpAnyH_ready (rs := [6]) (by kernel_rfl) (by simp) ?_
                refine (AllReadyH.cons (o := ⟨none, Op.mapUpdate _ (Operand.tmp 13) (Operand.tmp 16) (Operand.tmp 18), _, _, _, none⟩) rfl (fun K hK => ?_) AllReadyH.nil)
                · obtain ⟨w5, hrun5, hM5, hg5⟩ := HPt.out w4 hW4
                  go_simp
                  refine hK.out _ _ trivial (fun _ => ?_)
                  clear hK K
                  try simp only [Act.put, List.setIfInBounds_toArray, List.set_cons_zero, List.set_cons_succ]
                  refine wpAnyH_done (by kernel_rfl) ?_ _
                  have hB4 : Below w.heap.size w w4 := HB2.out.trans (hW4.mono HB2.out.size)
                  go_wp2_with fail
                  go_roundg (gk - 1)
                  case measure => omega
                  case rel => exact ⟨k + 1, by omega, by go_num, hM5.ext HOK2.out, hB4.grown hg5 hB4.size (fun j hj => by cases hj; exact Nat.le_refl _)⟩
    · obtain rfl : k = 256 := by omega
      have i1 : ¬ ((256 : Nat) : Int) < 256 := by omega
      go_wp2_with fail
      go_ret
      exact ⟨rfl, hM.ext (fun s => opK_all s), hB⟩
end Go.Proofs.YtgfljokamgbcaaaGreatDoor
