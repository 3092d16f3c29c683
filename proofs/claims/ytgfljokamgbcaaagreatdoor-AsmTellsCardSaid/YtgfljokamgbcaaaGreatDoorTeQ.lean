/- The walk of the document's Read. (Written by mkTF.py.) -/
import Derived.Test.YtgfljokamgbcaaaGreatDoorTeF
namespace Go.Proofs.YtgfljokamgbcaaaGreatDoor
open Go.RowKit
set_option linter.unusedSimpArgs false
set_option linter.unusedVariables false
set_option maxRecDepth 100000

set_option maxHeartbeats 16000000 in
theorem readR_c (L : List UInt8) (hL : L.length ≤ 200000000) (w : World) : Calls Tryz.prog 82 #[.string ⟨L.toArray⟩] w fun e w' => e = .returned (readV (readF L)) ∧ Below w.heap.size w w' := by
  by_cases hq : ∃ n, nmTab.find? (fun n => decide (n.word = (splitF L).headD [])) = some n ∧ n.a ≠ 0 ∧ n.b ≠ 0 ∧ n.imm = true
  · exact readR_21 L hL hq w
  have HWd := Lib.hid wordsR_c
  have HN := Lib.hid name_any
  obtain ⟨RR, hR⟩ : ∃ RR, readV (readF L) = RR := ⟨_, rfl⟩
  rw [hR]
  have HR := Lib.hid hR
  clear hR
  go_enter Tryz.func82, Tryz.ntmps82
  go_wp2_with fail
  refine (HWd.out L hL _).mono ?_
  rintro e w1 ⟨hb1, v, rfl, hown⟩
  obtain ⟨ws, hws⟩ : ∃ ws, ws = splitF L := ⟨_, rfl⟩
  have hne : ws ≠ [] := by rw [hws]; exact split_ne L
  rw [← hws] at hown
  obtain ⟨g, cap, rfl, hg, hcl, hcap⟩ : ∃ g cap, v = .slice (some ⟨g, 0, none⟩) ws.length cap ∧ g < w1.heap.size ∧ (∀ (j : Nat) (x : List UInt8), ws[j]? = some x → w1.cell? ⟨g, j, none⟩ = some (.string ⟨x.toArray⟩)) ∧ ws.length ≤ cap := by
    have hc := hown
    rcases hown.2 with ⟨-, h⟩ | ⟨g, cap, cur, h, h2, h3, h4⟩
    · exfalso
      cases ws
      · exact hne rfl
      · simp at h
    · subst h
      exact ⟨g, cap, rfl, (Array.getElem?_eq_some_iff.1 h3).1, fun j x hj => (hc.cellAt (j := j) (by simpa using (List.getElem?_eq_some_iff.1 hj).1)).trans (show (ws.map strE)[j]? = some (strE x) by rw [List.getElem?_map, hj]; rfl), h4.1⟩
  have HC := Lib.hid hcl
  obtain ⟨w0, hw0⟩ : ∃ w0, w0 = ws.headD [] := ⟨_, rfl⟩
  have h0 : ws[0]? = some w0 := by
    rw [hw0]
    cases ws
    · exact absurd rfl hne
    · rfl
  have HW0 := Lib.hid (HC.out 0 w0 h0)
  have hl0 : 0 < ws.length := (List.getElem?_eq_some_iff.1 h0).1
  have i0 : (0 : Int) < (ws.length : Int) := by omega
  have HRD := Lib.hid (show readF L = if 4 < ws.length then .error 40 else match nmTab.find? (fun n => decide (n.word = w0)) with
        | none => .error 40
        | some n => match ofF n ws with
          | .error e => .error e
          | .ok (a, b, i) => .ok (n.op, a, b, i) by
      unfold readF
      rw [← hws, ← hw0]
      rfl)
  have hq2 := hq
  rw [← hws, ← hw0] at hq2
  have HQ := Lib.hid hq2
  clear hq2 hq
  have HLL := Lib.hid (show ∀ x ∈ ws, x.length ≤ 200000000 from fun x hx => Nat.le_trans (split_le L x (hws ▸ hx)) hL)
  have HB1 := Lib.hid hb1
  have hs1 : w.heap.size < w1.heap.size := by have := hb1.size; simp at this; omega
  have HBX := Lib.hid ((hb1.block w.heap.size (by simp)).trans (heap_alloc_new w _))
  clear hcl hw0 hws h0 hown hne hL hb1
  go_wp2_with fail
  go_loopg [5, 6] 256 (fun gk v5 v6 wr => ∃ k : Nat, gk + k = 256 ∧ v6 = .int .i64 (k : Int) ∧ v5 = .int .i64 (rdK w0 (k : Int)) ∧ Below w1.heap.size w1 wr)
  case atStart => exact ⟨0, by omega, rfl, by rw [show ((0 : Nat) : Int) = 0 by rfl, rdK_zero], Below.refl _ _⟩
  case round =>
    obtain ⟨k, hk, rfl, rfl, hBr⟩ := hrel
    by_cases c1 : k < 256
    · have i1 : (k : Int) < 256 := by omega
      have j0 : (0 : Int) ≤ (k : Int) := by omega
      have hwk : IntKind.u8.wrap (k : Int) = (k : Int) := IntWalk.u8_in _ (by omega)
      have hnm := HN.out (k : Int) j0 i1
      obtain ⟨x, hx⟩ : ∃ x, nmW (k : Int) = x := ⟨_, rfl⟩
      have HHit := Lib.hid (fun (h0 : nmW (k : Int) ≠ []) (h1 : nmW (k : Int) = w0) => rdK_hit c1 h0 h1)
      have HMiss := Lib.hid (fun h => @rdK_miss w0 k h)
      rw [hx] at hnm HHit HMiss
      have HNk := Lib.hid hnm
      clear hnm hx
      obtain ⟨rk, hrk⟩ : ∃ rk, rdK w0 (k : Int) = rk := ⟨_, rfl⟩
      rw [hrk] at HMiss ⊢
      clear hrk
      by_cases c2 : x = []
      · have hnx := HMiss.out (fun h => h.1 c2)
        subst c2
        clear HHit HMiss
        go_wp2_with fail
        refine wp_region_held_drew (S := fun w' => Below w1.heap.size w1 w') (by kernel_rfl) (by first | exact hBr.drew | exact hBr) (fun hHeld => ?_)
        refine wpAnyH_take (i := 0) (oi := ⟨some 20, Op.move (Operand.tmp 6), _, _, _, none⟩) (v := .int .i64 (k : Int)) rfl (by kernel_rfl) (by kernel_rfl) (by kernel_rfl) (fun _ _ _ h => h) (Or.inl ⟨by rfl, ?_⟩) hHeld ?_
        · intro w' hSw
          skip
          go_simp
        try simp only [Act.put, List.setIfInBounds_toArray, List.set_cons_zero, List.set_cons_succ]
        refine wpAnyH_take (i := 1) (oi := ⟨some 21, Op.convert _ _ (Operand.tmp 20), _, _, _, none⟩) (v := .int .u8 (k : Int)) rfl (by kernel_rfl) (by kernel_rfl) (by kernel_rfl) (fun _ _ _ h => h) (Or.inl ⟨by rfl, ?_⟩) hHeld ?_
        · intro w' hSw
          skip
          go_simp
        try simp only [Act.put, List.setIfInBounds_toArray, List.set_cons_zero, List.set_cons_succ]
        refine wpAnyH_ready (rs := [2]) (by kernel_rfl) (by simp) ?_
        refine AllReadyH.cons (o := ⟨some 22, Op.call { callee := Callee.value (Operand.func _), args := #[Operand.tmp 21], argTypes := _ }, _, _, _, none⟩) rfl (fun K hK => ?_) AllReadyH.nil
        go_simp
        go_at_call 61
        refine (HNk.out _).mono ?_
        rintro e w2 ⟨rfl, hb2⟩
        refine hK.out _ _ (hHeld.trans (hb2.mono hHeld.size)) (fun hHeld => ?_)
        clear hK K hb2
        try simp only [Act.put, List.setIfInBounds_toArray, List.set_cons_zero, List.set_cons_succ]
        refine wpAnyH_take (i := 3) (oi := ⟨some 23, Op.binOp BinOp.neq _ (Operand.tmp 22) (Operand.const (Value.string { data := #[] })) _, _, _, _, none⟩) (v := .bool false) rfl (by kernel_rfl) (by kernel_rfl) (by kernel_rfl) (fun _ _ _ h => h) (Or.inl ⟨by rfl, ?_⟩) hHeld ?_
        · intro w' hSw
          skip
          go_simp
        try simp only [Act.put, List.setIfInBounds_toArray, List.set_cons_zero, List.set_cons_succ]
        refine wpAnyH_take (i := 4) (oi := ⟨some 24, Op.move (Operand.tmp 23), _, _, _, none⟩) (v := .bool false) rfl (by kernel_rfl) (by kernel_rfl) (by kernel_rfl) (fun _ _ _ h => h) (Or.inl ⟨by rfl, ?_⟩) hHeld ?_
        · intro w' hSw
          skip
          go_simp
        try simp only [Act.put, List.setIfInBounds_toArray, List.set_cons_zero, List.set_cons_succ]
        refine wpAnyH_take (i := 5) (oi := ⟨some 25, Op.move (Operand.tmp 6), _, _, _, some (4, true)⟩) (v := undef) rfl (by kernel_rfl) (by kernel_rfl) (by kernel_rfl) (fun _ _ _ h => h) (Or.inr ⟨by rfl, rfl⟩) hHeld ?_
        try simp only [Act.put, List.setIfInBounds_toArray, List.set_cons_zero, List.set_cons_succ]
        refine wpAnyH_take (i := 6) (oi := ⟨some 26, Op.convert _ _ (Operand.tmp 25), _, _, _, some (4, true)⟩) (v := undef) rfl (by kernel_rfl) (by kernel_rfl) (by kernel_rfl) (fun _ _ _ h => h) (Or.inr ⟨by rfl, rfl⟩) hHeld ?_
        try simp only [Act.put, List.setIfInBounds_toArray, List.set_cons_zero, List.set_cons_succ]
        refine wpAnyH_take (i := 7) (oi := ⟨some 27, Op.call { callee := Callee.value (Operand.func _), args := #[Operand.tmp 26], argTypes := _ }, _, _, _, some (4, true)⟩) (v := undef) rfl (by kernel_rfl) (by kernel_rfl) (by kernel_rfl) (fun _ _ _ h => h) (Or.inr ⟨by rfl, rfl⟩) hHeld ?_
        try simp only [Act.put, List.setIfInBounds_toArray, List.set_cons_zero, List.set_cons_succ]
        refine wpAnyH_take (i := 8) (oi := ⟨some 28, Op.move (Operand.tmp 4), _, _, _, some (4, true)⟩) (v := undef) rfl (by kernel_rfl) (by kernel_rfl) (by kernel_rfl) (fun _ _ _ h => h) (Or.inr ⟨by rfl, rfl⟩) hHeld ?_
        try simp only [Act.put, List.setIfInBounds_toArray, List.set_cons_zero, List.set_cons_succ]
        refine wpAnyH_take (i := 9) (oi := ⟨some 29, Op.indexAddr _ (Operand.tmp 28) (Operand.const (Value.int IntKind.i64 0)), _, _, _, some (4, true)⟩) (v := undef) rfl (by kernel_rfl) (by kernel_rfl) (by kernel_rfl) (fun _ _ _ h => h) (Or.inr ⟨by rfl, rfl⟩) hHeld ?_
        try simp only [Act.put, List.setIfInBounds_toArray, List.set_cons_zero, List.set_cons_succ]
        refine wpAnyH_take (i := 10) (oi := ⟨some 30, Op.load _ (Operand.tmp 29), _, _, _, some (4, true)⟩) (v := undef) rfl (by kernel_rfl) (by kernel_rfl) (by kernel_rfl) (fun _ _ _ h => h) (Or.inr ⟨by rfl, rfl⟩) hHeld ?_
        try simp only [Act.put, List.setIfInBounds_toArray, List.set_cons_zero, List.set_cons_succ]
        refine wpAnyH_take (i := 11) (oi := ⟨some 31, Op.binOp BinOp.eql _ (Operand.tmp 27) (Operand.tmp 30) _, _, _, _, some (4, true)⟩) (v := undef) rfl (by kernel_rfl) (by kernel_rfl) (by kernel_rfl) (fun _ _ _ h => h) (Or.inr ⟨by rfl, rfl⟩) hHeld ?_
        try simp only [Act.put, List.setIfInBounds_toArray, List.set_cons_zero, List.set_cons_succ]
        refine wpAnyH_take (i := 12) (oi := ⟨some 32, Op.pick (Operand.tmp 24) (Operand.tmp 31) (Operand.const (Value.bool false)), _, _, _, none⟩) (v := .bool false) rfl (by kernel_rfl) (by kernel_rfl) (by kernel_rfl) (fun _ _ _ h => h) (Or.inl ⟨by rfl, ?_⟩) hHeld ?_
        · intro w' hSw
          skip
          go_simp
        try simp only [Act.put, List.setIfInBounds_toArray, List.set_cons_zero, List.set_cons_succ]
        refine wpAnyH_done (by kernel_rfl) ?_ _
        go_wp2_with fail
        go_roundg (gk - 1)
        case measure => omega
        case rel => exact ⟨k + 1, by omega, by go_num, by rw [show ((k + 1 : Nat) : Int) = (k : Int) + 1 by omega, hnx], hHeld⟩
      · have e2 : (x == []) = false := by simpa using c2
        by_cases c3 : x = w0
        · have hnx := HHit.out c2 c3
          subst c3
          clear HMiss HHit
          go_wp2_with fail
          refine wp_region_held_drew (S := fun w' => Below w1.heap.size w1 w') (by kernel_rfl) (by first | exact hBr.drew | exact hBr) (fun hHeld => ?_)
          refine wpAnyH_take (i := 0) (oi := ⟨some 20, Op.move (Operand.tmp 6), _, _, _, none⟩) (v := .int .i64 (k : Int)) rfl (by kernel_rfl) (by kernel_rfl) (by kernel_rfl) (fun _ _ _ h => h) (Or.inl ⟨by rfl, ?_⟩) hHeld ?_
          · intro w' hSw
            skip
            go_simp
          try simp only [Act.put, List.setIfInBounds_toArray, List.set_cons_zero, List.set_cons_succ]
          refine wpAnyH_take (i := 1) (oi := ⟨some 21, Op.convert _ _ (Operand.tmp 20), _, _, _, none⟩) (v := .int .u8 (k : Int)) rfl (by kernel_rfl) (by kernel_rfl) (by kernel_rfl) (fun _ _ _ h => h) (Or.inl ⟨by rfl, ?_⟩) hHeld ?_
          · intro w' hSw
            skip
            go_simp
          try simp only [Act.put, List.setIfInBounds_toArray, List.set_cons_zero, List.set_cons_succ]
          refine wpAnyH_ready (rs := [2]) (by kernel_rfl) (by simp) ?_
          refine AllReadyH.cons (o := ⟨some 22, Op.call { callee := Callee.value (Operand.func _), args := #[Operand.tmp 21], argTypes := _ }, _, _, _, none⟩) rfl (fun K hK => ?_) AllReadyH.nil
          go_simp
          go_at_call 61
          refine (HNk.out _).mono ?_
          rintro e w2 ⟨rfl, hb2⟩
          refine hK.out _ _ (hHeld.trans (hb2.mono hHeld.size)) (fun hHeld => ?_)
          clear hK K hb2
          try simp only [Act.put, List.setIfInBounds_toArray, List.set_cons_zero, List.set_cons_succ]
          refine wpAnyH_take (i := 3) (oi := ⟨some 23, Op.binOp BinOp.neq _ (Operand.tmp 22) (Operand.const (Value.string { data := #[] })) _, _, _, _, none⟩) (v := .bool true) rfl (by kernel_rfl) (by kernel_rfl) (by kernel_rfl) (fun _ _ _ h => h) (Or.inl ⟨by rfl, ?_⟩) hHeld ?_
          · intro w' hSw
            skip
            go_simp
          try simp only [Act.put, List.setIfInBounds_toArray, List.set_cons_zero, List.set_cons_succ]
          refine wpAnyH_take (i := 4) (oi := ⟨some 24, Op.move (Operand.tmp 23), _, _, _, none⟩) (v := .bool true) rfl (by kernel_rfl) (by kernel_rfl) (by kernel_rfl) (fun _ _ _ h => h) (Or.inl ⟨by rfl, ?_⟩) hHeld ?_
          · intro w' hSw
            skip
            go_simp
          try simp only [Act.put, List.setIfInBounds_toArray, List.set_cons_zero, List.set_cons_succ]
          refine wpAnyH_take (i := 5) (oi := ⟨some 25, Op.move (Operand.tmp 6), _, _, _, some (4, true)⟩) (v := .int .i64 (k : Int)) rfl (by kernel_rfl) (by kernel_rfl) (by kernel_rfl) (fun _ _ _ h => h) (Or.inl ⟨by rfl, ?_⟩) hHeld ?_
          · intro w' hSw
            skip
            go_simp
          try simp only [Act.put, List.setIfInBounds_toArray, List.set_cons_zero, List.set_cons_succ]
          refine wpAnyH_take (i := 6) (oi := ⟨some 26, Op.convert _ _ (Operand.tmp 25), _, _, _, some (4, true)⟩) (v := .int .u8 (k : Int)) rfl (by kernel_rfl) (by kernel_rfl) (by kernel_rfl) (fun _ _ _ h => h) (Or.inl ⟨by rfl, ?_⟩) hHeld ?_
          · intro w' hSw
            skip
            go_simp
          try simp only [Act.put, List.setIfInBounds_toArray, List.set_cons_zero, List.set_cons_succ]
          refine wpAnyH_take (i := 8) (oi := ⟨some 28, Op.move (Operand.tmp 4), _, _, _, some (4, true)⟩) (v := .slice (some ⟨g, 0, none⟩) ws.length cap) rfl (by kernel_rfl) (by kernel_rfl) (by kernel_rfl) (fun _ _ _ h => h) (Or.inl ⟨by rfl, ?_⟩) hHeld ?_
          · intro w' hSw
            skip
            go_simp
          try simp only [Act.put, List.setIfInBounds_toArray, List.set_cons_zero, List.set_cons_succ]
          refine wpAnyH_take (i := 9) (oi := ⟨some 29, Op.indexAddr _ (Operand.tmp 28) (Operand.const (Value.int IntKind.i64 0)), _, _, _, some (4, true)⟩) (v := .pointer (some ⟨g, 0, none⟩)) rfl (by kernel_rfl) (by kernel_rfl) (by kernel_rfl) (fun _ _ _ h => h) (Or.inl ⟨by rfl, ?_⟩) hHeld ?_
          · intro w' hSw
            skip
            go_simp
          try simp only [Act.put, List.setIfInBounds_toArray, List.set_cons_zero, List.set_cons_succ]
          refine wpAnyH_take (i := 10) (oi := ⟨some 30, Op.load _ (Operand.tmp 29), _, _, _, some (4, true)⟩) (v := .string ⟨x.toArray⟩) rfl (by kernel_rfl) (by kernel_rfl) (by kernel_rfl) (fun _ _ _ h => h) (Or.inl ⟨by rfl, ?_⟩) hHeld ?_
          · intro w' hSw
            have k0 := (hSw.cell (p := ⟨g, 0, none⟩) hg).trans HW0.out
            go_simp
          try simp only [Act.put, List.setIfInBounds_toArray, List.set_cons_zero, List.set_cons_succ]
          refine wpAnyH_ready (rs := [7]) (by kernel_rfl) (by simp) ?_
          refine AllReadyH.cons (o := ⟨some 27, Op.call { callee := Callee.value (Operand.func _), args := #[Operand.tmp 26], argTypes := _ }, _, _, _, some (4, true)⟩) rfl (fun K hK => ?_) AllReadyH.nil
          go_simp
          go_at_call 61
          refine (HNk.out _).mono ?_
          rintro e w2 ⟨rfl, hb2⟩
          refine hK.out _ _ (hHeld.trans (hb2.mono hHeld.size)) (fun hHeld => ?_)
          clear hK K hb2
          try simp only [Act.put, List.setIfInBounds_toArray, List.set_cons_zero, List.set_cons_succ]
          refine wpAnyH_take (i := 11) (oi := ⟨some 31, Op.binOp BinOp.eql _ (Operand.tmp 27) (Operand.tmp 30) _, _, _, _, some (4, true)⟩) (v := .bool true) rfl (by kernel_rfl) (by kernel_rfl) (by kernel_rfl) (fun _ _ _ h => h) (Or.inl ⟨by rfl, ?_⟩) hHeld ?_
          · intro w' hSw
            skip
            go_simp
          try simp only [Act.put, List.setIfInBounds_toArray, List.set_cons_zero, List.set_cons_succ]
          refine wpAnyH_take (i := 12) (oi := ⟨some 32, Op.pick (Operand.tmp 24) (Operand.tmp 31) (Operand.const (Value.bool false)), _, _, _, none⟩) (v := .bool true) rfl (by kernel_rfl) (by kernel_rfl) (by kernel_rfl) (fun _ _ _ h => h) (Or.inl ⟨by rfl, ?_⟩) hHeld ?_
          · intro w' hSw
            skip
            go_simp
          try simp only [Act.put, List.setIfInBounds_toArray, List.set_cons_zero, List.set_cons_succ]
          refine wpAnyH_done (by kernel_rfl) ?_ _
          go_wp2_with fail
          go_roundg (gk - 1)
          case measure => omega
          case rel => exact ⟨k + 1, by omega, by go_num, by rw [show ((k + 1 : Nat) : Int) = (k : Int) + 1 by omega, hnx], hHeld⟩
        · have e3 : (x == w0) = false := by simpa using c3
          have hnx := HMiss.out (fun h => c3 h.2)
          clear HMiss HHit
          go_wp2_with fail
          refine wp_region_held_drew (S := fun w' => Below w1.heap.size w1 w') (by kernel_rfl) (by first | exact hBr.drew | exact hBr) (fun hHeld => ?_)
          refine wpAnyH_take (i := 0) (oi := ⟨some 20, Op.move (Operand.tmp 6), _, _, _, none⟩) (v := .int .i64 (k : Int)) rfl (by kernel_rfl) (by kernel_rfl) (by kernel_rfl) (fun _ _ _ h => h) (Or.inl ⟨by rfl, ?_⟩) hHeld ?_
          · intro w' hSw
            skip
            go_simp
          try simp only [Act.put, List.setIfInBounds_toArray, List.set_cons_zero, List.set_cons_succ]
          refine wpAnyH_take (i := 1) (oi := ⟨some 21, Op.convert _ _ (Operand.tmp 20), _, _, _, none⟩) (v := .int .u8 (k : Int)) rfl (by kernel_rfl) (by kernel_rfl) (by kernel_rfl) (fun _ _ _ h => h) (Or.inl ⟨by rfl, ?_⟩) hHeld ?_
          · intro w' hSw
            skip
            go_simp
          try simp only [Act.put, List.setIfInBounds_toArray, List.set_cons_zero, List.set_cons_succ]
          refine wpAnyH_ready (rs := [2]) (by kernel_rfl) (by simp) ?_
          refine AllReadyH.cons (o := ⟨some 22, Op.call { callee := Callee.value (Operand.func _), args := #[Operand.tmp 21], argTypes := _ }, _, _, _, none⟩) rfl (fun K hK => ?_) AllReadyH.nil
          go_simp
          go_at_call 61
          refine (HNk.out _).mono ?_
          rintro e w2 ⟨rfl, hb2⟩
          refine hK.out _ _ (hHeld.trans (hb2.mono hHeld.size)) (fun hHeld => ?_)
          clear hK K hb2
          try simp only [Act.put, List.setIfInBounds_toArray, List.set_cons_zero, List.set_cons_succ]
          refine wpAnyH_take (i := 3) (oi := ⟨some 23, Op.binOp BinOp.neq _ (Operand.tmp 22) (Operand.const (Value.string { data := #[] })) _, _, _, _, none⟩) (v := .bool true) rfl (by kernel_rfl) (by kernel_rfl) (by kernel_rfl) (fun _ _ _ h => h) (Or.inl ⟨by rfl, ?_⟩) hHeld ?_
          · intro w' hSw
            skip
            go_simp
          try simp only [Act.put, List.setIfInBounds_toArray, List.set_cons_zero, List.set_cons_succ]
          refine wpAnyH_take (i := 4) (oi := ⟨some 24, Op.move (Operand.tmp 23), _, _, _, none⟩) (v := .bool true) rfl (by kernel_rfl) (by kernel_rfl) (by kernel_rfl) (fun _ _ _ h => h) (Or.inl ⟨by rfl, ?_⟩) hHeld ?_
          · intro w' hSw
            skip
            go_simp
          try simp only [Act.put, List.setIfInBounds_toArray, List.set_cons_zero, List.set_cons_succ]
          refine wpAnyH_take (i := 5) (oi := ⟨some 25, Op.move (Operand.tmp 6), _, _, _, some (4, true)⟩) (v := .int .i64 (k : Int)) rfl (by kernel_rfl) (by kernel_rfl) (by kernel_rfl) (fun _ _ _ h => h) (Or.inl ⟨by rfl, ?_⟩) hHeld ?_
          · intro w' hSw
            skip
            go_simp
          try simp only [Act.put, List.setIfInBounds_toArray, List.set_cons_zero, List.set_cons_succ]
          refine wpAnyH_take (i := 6) (oi := ⟨some 26, Op.convert _ _ (Operand.tmp 25), _, _, _, some (4, true)⟩) (v := .int .u8 (k : Int)) rfl (by kernel_rfl) (by kernel_rfl) (by kernel_rfl) (fun _ _ _ h => h) (Or.inl ⟨by rfl, ?_⟩) hHeld ?_
          · intro w' hSw
            skip
            go_simp
          try simp only [Act.put, List.setIfInBounds_toArray, List.set_cons_zero, List.set_cons_succ]
          refine wpAnyH_take (i := 8) (oi := ⟨some 28, Op.move (Operand.tmp 4), _, _, _, some (4, true)⟩) (v := .slice (some ⟨g, 0, none⟩) ws.length cap) rfl (by kernel_rfl) (by kernel_rfl) (by kernel_rfl) (fun _ _ _ h => h) (Or.inl ⟨by rfl, ?_⟩) hHeld ?_
          · intro w' hSw
            skip
            go_simp
          try simp only [Act.put, List.setIfInBounds_toArray, List.set_cons_zero, List.set_cons_succ]
          refine wpAnyH_take (i := 9) (oi := ⟨some 29, Op.indexAddr _ (Operand.tmp 28) (Operand.const (Value.int IntKind.i64 0)), _, _, _, some (4, true)⟩) (v := .pointer (some ⟨g, 0, none⟩)) rfl (by kernel_rfl) (by kernel_rfl) (by kernel_rfl) (fun _ _ _ h => h) (Or.inl ⟨by rfl, ?_⟩) hHeld ?_
          · intro w' hSw
            skip
            go_simp
          try simp only [Act.put, List.setIfInBounds_toArray, List.set_cons_zero, List.set_cons_succ]
          refine wpAnyH_take (i := 10) (oi := ⟨some 30, Op.load _ (Operand.tmp 29), _, _, _, some (4, true)⟩) (v := .string ⟨w0.toArray⟩) rfl (by kernel_rfl) (by kernel_rfl) (by kernel_rfl) (fun _ _ _ h => h) (Or.inl ⟨by rfl, ?_⟩) hHeld ?_
          · intro w' hSw
            have k0 := (hSw.cell (p := ⟨g, 0, none⟩) hg).trans HW0.out
            go_simp
          try simp only [Act.put, List.setIfInBounds_toArray, List.set_cons_zero, List.set_cons_succ]
          refine wpAnyH_ready (rs := [7]) (by kernel_rfl) (by simp) ?_
          refine AllReadyH.cons (o := ⟨some 27, Op.call { callee := Callee.value (Operand.func _), args := #[Operand.tmp 26], argTypes := _ }, _, _, _, some (4, true)⟩) rfl (fun K hK => ?_) AllReadyH.nil
          go_simp
          go_at_call 61
          refine (HNk.out _).mono ?_
          rintro e w2 ⟨rfl, hb2⟩
          refine hK.out _ _ (hHeld.trans (hb2.mono hHeld.size)) (fun hHeld => ?_)
          clear hK K hb2
          try simp only [Act.put, List.setIfInBounds_toArray, List.set_cons_zero, List.set_cons_succ]
          refine wpAnyH_take (i := 11) (oi := ⟨some 31, Op.binOp BinOp.eql _ (Operand.tmp 27) (Operand.tmp 30) _, _, _, _, some (4, true)⟩) (v := .bool false) rfl (by kernel_rfl) (by kernel_rfl) (by kernel_rfl) (fun _ _ _ h => h) (Or.inl ⟨by rfl, ?_⟩) hHeld ?_
          · intro w' hSw
            skip
            go_simp
          try simp only [Act.put, List.setIfInBounds_toArray, List.set_cons_zero, List.set_cons_succ]
          refine wpAnyH_take (i := 12) (oi := ⟨some 32, Op.pick (Operand.tmp 24) (Operand.tmp 31) (Operand.const (Value.bool false)), _, _, _, none⟩) (v := .bool false) rfl (by kernel_rfl) (by kernel_rfl) (by kernel_rfl) (fun _ _ _ h => h) (Or.inl ⟨by rfl, ?_⟩) hHeld ?_
          · intro w' hSw
            skip
            go_simp
          try simp only [Act.put, List.setIfInBounds_toArray, List.set_cons_zero, List.set_cons_succ]
          refine wpAnyH_done (by kernel_rfl) ?_ _
          go_wp2_with fail
          go_roundg (gk - 1)
          case measure => omega
          case rel => exact ⟨k + 1, by omega, by go_num, by rw [show ((k + 1 : Nat) : Int) = (k : Int) + 1 by omega, hnx], hHeld⟩
    · have i1 : ¬ (k : Int) < 256 := by omega
      obtain rfl : k = 256 := by omega
      rw [show ((256 : Nat) : Int) = 256 by rfl, rdK_end]
      have hrs := (hBr.block w.heap.size hs1).trans HBX.out
      have hBw : Below w.heap.size w wr := ((Below.refl _ w).alloc (Nat.le_refl _) _).trans ((HB1.out.mono (by simp)).trans (hBr.mono (by omega)))
      have kr0 := (cell_of_row _ _ 0 _ _ _ hrs).trans rfl
      have kr1 := (cell_of_row _ _ 1 _ _ _ hrs).trans rfl
      have kr2 := (cell_of_row _ _ 2 _ _ _ hrs).trans rfl
      have kr3 := (cell_of_row _ _ 3 _ _ _ hrs).trans rfl
      have fr0 := frozen_of_row _ _ 0 _ _ hrs
      have fr1 := frozen_of_row _ _ 1 _ _ hrs
      have fr2 := frozen_of_row _ _ 2 _ _ hrs
      have fr3 := frozen_of_row _ _ 3 _ _ hrs
      cases hfd : nmTab.find? (fun n => decide (n.word = w0)) with
      | none =>
        obtain rfl : RR = readV (.error 40) := by
          rw [← HR.out, HRD.out, hfd]
          simp
        clear HR HRD hfd
        go_wp2_with fail
        refine bodyPost_ret (v := .tuple #[.agg #[.int .u8 0, .int .u8 0, .int .u8 0, .int .i32 0], .int .i64 40]) (by simp [results, Tryz.results82, go_sem, World.cell?_setCell_same', kr0, kr1, kr2, kr3]) rfl ⟨rfl, ?_⟩
        repeat (first | exact hBw | (refine Below.setCell ?_ (by show w.heap.size ≤ w.heap.size; omega) _))
      | some n =>
        have hn := List.mem_of_find?_eq_some hfd
        obtain ⟨-, op0, op1⟩ := nmW_of hn
        have HNF := Lib.hid (nm_four hn)
        have HNQ := Lib.hid (fun (h1 : n.a ≠ 0) (h2 : n.b ≠ 0) (h3 : n.imm = true) => HQ.out ⟨n, hfd, h1, h2, h3⟩)
        have HRD2 := Lib.hid (show readF L = if 4 < ws.length then .error 40 else match ofF n ws with
            | .error e => .error e
            | .ok (a, b, i) => .ok (n.op, a, b, i) by rw [HRD.out, hfd])
        have HOf := Lib.hid (fun (W : World) => Isa.refOf_c n.op true W op0 op1)
        have hwo : IntKind.u8.wrap n.op = n.op := IntWalk.u8_in _ (by omega)
        have nop : ¬ n.op < 0 := by omega
        clear HRD hfd hn
        go_wp2_with fail
        refine (HOf.out _).mono ?_
        rintro e w3 ⟨rfl, hb3⟩
        have hs3 : wr.heap.size < w3.heap.size := by have := hb3.size; simp at this; omega
        have hsw : w.heap.size < wr.heap.size := by have := hBr.size; omega
        have hs3' : w.heap.size < w3.heap.size := by omega
        have hs3n : ¬ w.heap.size = w3.heap.size := by omega
        have hs3m : ¬ wr.heap.size = w3.heap.size := by omega
        have hb7 := (hb3.block wr.heap.size (by simp)).trans (heap_alloc_new wr _)
        have hB3 : Below wr.heap.size wr w3 := Isa.below_box hb3
        have hrs3 := (hB3.block w.heap.size (by omega)).trans hrs
        clear kr0 kr1 kr2 kr3 fr0 fr1 fr2 fr3 hrs
        have kr0 := (cell_of_row _ _ 0 _ _ _ hrs3).trans rfl
        have kr1 := (cell_of_row _ _ 1 _ _ _ hrs3).trans rfl
        have kr2 := (cell_of_row _ _ 2 _ _ _ hrs3).trans rfl
        have kr3 := (cell_of_row _ _ 3 _ _ _ hrs3).trans rfl
        have fr0 := frozen_of_row _ _ 0 _ _ hrs3
        have fr1 := frozen_of_row _ _ 1 _ _ hrs3
        have fr2 := frozen_of_row _ _ 2 _ _ hrs3
        have fr3 := frozen_of_row _ _ 3 _ _ hrs3
        have k70 := (cell_of_row _ _ 0 _ _ _ hb7).trans rfl
        have k71 := (cell_of_row _ _ 1 _ _ _ hb7).trans rfl
        have k72 := (cell_of_row _ _ 2 _ _ _ hb7).trans rfl
        have k73 := (cell_of_row _ _ 3 _ _ _ hb7).trans rfl
        have f70 := frozen_of_row _ _ 0 _ _ hb7
        have f71 := frozen_of_row _ _ 1 _ _ hb7
        have f72 := frozen_of_row _ _ 2 _ _ hb7
        have f73 := frozen_of_row _ _ 3 _ _ hb7
        unfold Isa.Fm.rval
        obtain ⟨h4k, h4a, h4b, hA, hBl, hab⟩ := HNF.out
        rw [h4a, h4b]
        obtain ⟨kf, hkf⟩ : ∃ kf, (Isa.fm n.op true).k = kf := ⟨_, rfl⟩
        rw [hkf] at h4k ⊢
        clear hkf
        have hwd : n.want = 1 + (n.a != 0).toNat + (n.b != 0).toNat + n.imm.toNat := rfl
        have hB31 : Below w1.heap.size w1 w3 := hBr.trans (hB3.mono hBr.size)
        have hg3 : g < w3.heap.size := by have := hBr.size; omega
        have HRg := Lib.hid register_c
        have HSc := Lib.hid second_c
        have HNu := Lib.hid numR_c
        have HMy := Lib.hid (fun (a b i : Int) (W : World) => Isa.refMay_c n.op a b i true W op0 op1)
        unfold Isa.insV at HMy
        clear hb7 hb3 HOf HN HWd HW0 HNF
        by_cases ca : n.a = 0
        · have cb := hab ca
          have hA0 : oA n ws = some 0 := by unfold oA; rw [if_pos ca]
          have hB0 : oB n ws = some 0 := by unfold oB; rw [if_pos cb]
          rw [show decide (n.a ≠ 0) = false by simp [ca], show decide (n.b ≠ 0) = false by simp [cb]]
          cases ci : n.imm
          · rw [ci] at h4k
            have hk0 : ¬ 0 < kf := by simpa using h4k
            have hwant : n.want = 1 := by rw [hwd, ci, show (n.a != 0) = false by simp [ca], show (n.b != 0) = false by simp [cb]]; rfl
            by_cases cl : ws.length = 1
            · have hRO := HR.out
              rw [HRD2.out, if_neg (by omega), read_ofR (show ws.length = n.want by omega)] at hRO
              have el : ((ws.length : Int) != 1) = false := by simp; omega
              rw [hA0] at hRO
              simp only at hRO
              rw [hB0] at hRO
              simp only at hRO
              rw [ci, if_neg Bool.false_ne_true] at hRO
              obtain rfl : RR = readV (.ok (n.op, 0, 0, 0)) := hRO.symm
              clear HR HRD2 h4k hwd hRO
              go_wp2_with fail
              have hz := (row_setR (row_setR (row_setR (row_setR hrs3 0 (.int .u8 n.op)) 1 (.int .u8 0)) 2 (.int .u8 0)) 3 (.int .i32 0))
              have hz2 := heap_oldT (o := .cells #[.int .i64 (Isa.fm n.op true).n, .bool false, .bool false, .int .i64 kf, .bool (decide ((Isa.fm n.op true).s = 1))] 91) hz
              have q0 := (cell_of_row _ _ 0 _ _ _ hz2).trans rfl
              have q1 := (cell_of_row _ _ 1 _ _ _ hz2).trans rfl
              have q2 := (cell_of_row _ _ 2 _ _ _ hz2).trans rfl
              have q3 := (cell_of_row _ _ 3 _ _ _ hz2).trans rfl
              refine bodyPost_ret (v := .tuple #[.agg #[.int .u8 n.op, .int .u8 0, .int .u8 0, .int .i32 0], .int .i64 0]) (by simp [results, Tryz.results82, go_sem, q0, q1, q2, q3]) rfl ⟨rfl, ?_⟩
              first
                | exact ((((((hBw.trans (hB3.mono (by omega))).setCell (p := ⟨w.heap.size, 0, none⟩) (Nat.le_refl _) _).setCell (p := ⟨w.heap.size, 1, none⟩) (Nat.le_refl _) _).setCell (p := ⟨w.heap.size, 2, none⟩) (Nat.le_refl _) _).setCell (p := ⟨w.heap.size, 3, none⟩) (Nat.le_refl _) _).alloc (Nat.le_of_lt (heap_ltA hz)) _)
                | exact (((((((hBw.trans (hB3.mono (by omega))).setCell (p := ⟨w.heap.size, 0, none⟩) (Nat.le_refl _) _).setCell (p := ⟨w.heap.size, 1, none⟩) (Nat.le_refl _) _).setCell (p := ⟨w.heap.size, 2, none⟩) (Nat.le_refl _) _).setCell (p := ⟨w.heap.size, 3, none⟩) (Nat.le_refl _) _).alloc (Nat.le_of_lt (heap_ltA hz)) _)).drew
            · obtain rfl : RR = readV (.error 40) := by
                rw [← HR.out, HRD2.out, read_badR (show ws.length ≠ n.want by omega)]
                split <;> rfl
              have el : ((ws.length : Int) != 1) = true := by simp; omega
              clear HR HRD2 h4k hwd
              go_wp2_with fail
              have hz := (row_setR (row_setR (row_setR (row_setR hrs3 0 (.int .u8 0)) 1 (.int .u8 0)) 2 (.int .u8 0)) 3 (.int .i32 0))
              have hz2 := heap_oldT (o := .cells #[.int .i64 (Isa.fm n.op true).n, .bool false, .bool false, .int .i64 kf, .bool (decide ((Isa.fm n.op true).s = 1))] 91) hz
              have q0 := (cell_of_row _ _ 0 _ _ _ hz2).trans rfl
              have q1 := (cell_of_row _ _ 1 _ _ _ hz2).trans rfl
              have q2 := (cell_of_row _ _ 2 _ _ _ hz2).trans rfl
              have q3 := (cell_of_row _ _ 3 _ _ _ hz2).trans rfl
              refine bodyPost_ret (v := .tuple #[.agg #[.int .u8 0, .int .u8 0, .int .u8 0, .int .i32 0], .int .i64 40]) (by simp [results, Tryz.results82, go_sem, q0, q1, q2, q3]) rfl ⟨rfl, ?_⟩
              first
                | exact ((((((hBw.trans (hB3.mono (by omega))).setCell (p := ⟨w.heap.size, 0, none⟩) (Nat.le_refl _) _).setCell (p := ⟨w.heap.size, 1, none⟩) (Nat.le_refl _) _).setCell (p := ⟨w.heap.size, 2, none⟩) (Nat.le_refl _) _).setCell (p := ⟨w.heap.size, 3, none⟩) (Nat.le_refl _) _).alloc (Nat.le_of_lt (heap_ltA hz)) _)
                | exact (((((((hBw.trans (hB3.mono (by omega))).setCell (p := ⟨w.heap.size, 0, none⟩) (Nat.le_refl _) _).setCell (p := ⟨w.heap.size, 1, none⟩) (Nat.le_refl _) _).setCell (p := ⟨w.heap.size, 2, none⟩) (Nat.le_refl _) _).setCell (p := ⟨w.heap.size, 3, none⟩) (Nat.le_refl _) _).alloc (Nat.le_of_lt (heap_ltA hz)) _)).drew
          · rw [ci] at h4k
            have hk0 : 0 < kf := by simpa using h4k
            have hwant : n.want = 2 := by rw [hwd, ci, show (n.a != 0) = false by simp [ca], show (n.b != 0) = false by simp [cb]]; rfl
            by_cases cl : ws.length = 2
            · have hRO := HR.out
              rw [HRD2.out, if_neg (by omega), read_ofR (show ws.length = n.want by omega)] at hRO
              have el : ((ws.length : Int) != 2) = false := by simp; omega
              rw [hA0] at hRO
              simp only at hRO
              rw [hB0] at hRO
              simp only at hRO
              obtain ⟨x1, hx1, hd1⟩ : ∃ x, ws[1]? = some x ∧ ws.getD 1 [] = x := ⟨_, List.getElem?_eq_getElem (by omega), by simp [List.getD, List.getElem?_eq_getElem (show 1 < ws.length by omega)]⟩
              have y1 := (hB31.cell (p := ⟨g, 1, none⟩) hg).trans (HC.out 1 x1 hx1)
              have i1_ : (1 : Int) < (ws.length : Int) := by omega
              have l1 := HLL.out x1 (List.mem_of_getElem? hx1)
              rw [ci, if_pos rfl, show pI n = 1 by simp [pI, ca, cb], hd1] at hRO
              have hbd := fun v => @numF_bd x1 v
              clear hwd h4k
              go_wp2_with fail
              refine (HNu.out x1 l1 _).mono ?_
              rintro e w5 ⟨hw5, nv, rfl, hn⟩
              have hw5 := hw5.symm
              subst hw5
              cases hnf : numF x1 with
              | none =>
                rw [hnf] at hRO
                obtain rfl : RR = readV (.error 41) := hRO.symm
                clear HR HRD2 hRO hn hbd hnf
                rw [show (none : Option Int).isSome = false from rfl]
                go_wp2_with fail
                have hz := (row_setR (row_setR (row_setR (row_setR (row_setOR hrs3 (c := wr.heap.size) (by omega) 3 (.int .i32 (wrap32 nv))) 0 (.int .u8 0)) 1 (.int .u8 0)) 2 (.int .u8 0)) 3 (.int .i32 0))
                have hz2 := heap_oldT (o := .cells #[.int .i64 (Isa.fm n.op true).n, .bool false, .bool false, .int .i64 kf, .bool (decide ((Isa.fm n.op true).s = 1))] 91) hz
                have q0 := (cell_of_row _ _ 0 _ _ _ hz2).trans rfl
                have q1 := (cell_of_row _ _ 1 _ _ _ hz2).trans rfl
                have q2 := (cell_of_row _ _ 2 _ _ _ hz2).trans rfl
                have q3 := (cell_of_row _ _ 3 _ _ _ hz2).trans rfl
                refine bodyPost_ret (v := .tuple #[.agg #[.int .u8 0, .int .u8 0, .int .u8 0, .int .i32 0], .int .i64 41]) (by simp [results, Tryz.results82, go_sem, q0, q1, q2, q3]) rfl ⟨rfl, ?_⟩
                first
                  | exact (((((((hBw.trans (hB3.mono (by omega))).setCell (p := ⟨wr.heap.size, 3, none⟩) (by show w.heap.size ≤ wr.heap.size; omega) _).setCell (p := ⟨w.heap.size, 0, none⟩) (Nat.le_refl _) _).setCell (p := ⟨w.heap.size, 1, none⟩) (Nat.le_refl _) _).setCell (p := ⟨w.heap.size, 2, none⟩) (Nat.le_refl _) _).setCell (p := ⟨w.heap.size, 3, none⟩) (Nat.le_refl _) _).alloc (Nat.le_of_lt (heap_ltA hz)) _)
                  | exact ((((((((hBw.trans (hB3.mono (by omega))).setCell (p := ⟨wr.heap.size, 3, none⟩) (by show w.heap.size ≤ wr.heap.size; omega) _).setCell (p := ⟨w.heap.size, 0, none⟩) (Nat.le_refl _) _).setCell (p := ⟨w.heap.size, 1, none⟩) (Nat.le_refl _) _).setCell (p := ⟨w.heap.size, 2, none⟩) (Nat.le_refl _) _).setCell (p := ⟨w.heap.size, 3, none⟩) (Nat.le_refl _) _).alloc (Nat.le_of_lt (heap_ltA hz)) _)).drew
              | some v =>
                obtain rfl := hn v hnf
                obtain ⟨v0, v1⟩ := hbd nv hnf
                rw [hnf] at hRO
                simp only at hRO
                have hwv : IntKind.i32.wrap nv = nv := IntWalk.i32_in _ (by omega)
                have hwv2 : wrap32 nv = nv := IntWalk.wrap32_in _ (by omega)
                rw [show (some nv : Option Int).isSome = true from rfl]
                clear hn hbd hnf HR HRD2
                have HM := Lib.hid (fun (W : World) => HMy.out 0 0 nv W (by omega) (by omega) (by omega) (by omega) v0 v1)
                by_cases cm : Isa.mayB (Isa.fm n.op true) 0 0 nv = true
                · rw [cm] at HM
                  rw [if_pos cm] at hRO
                  obtain rfl : RR = readV (.ok (n.op, 0, 0, nv)) := hRO.symm
                  clear hRO cm
                  go_wp2_with fail
                  refine (HM.out _).mono ?_
                  rintro e w6 ⟨rfl, hb6⟩
                  obtain ⟨hcl6, hfz6⟩ := Isa.bcell hb6
                  have hz6 : w3.heap.size < w6.heap.size := by have := hb6.size; simp at this; omega
                  have hW := heap_oldT (o := .cells #[.int .i64 (Isa.fm n.op true).n, .bool false, .bool false, .int .i64 kf, .bool (decide ((Isa.fm n.op true).s = 1))] 91) (row_setOR hrs3 (c := wr.heap.size) (by omega) 3 (.int .i32 nv))
                  have hrs6 := (hb6.block _ (heap_ltA hW)).trans hW
                  go_wp2_with fail
                  have hz := (row_setR (row_setR (row_setR (row_setR hrs6 0 (.int .u8 n.op)) 1 (.int .u8 0)) 2 (.int .u8 0)) 3 (.int .i32 nv))
                  have q0 := (cell_of_row _ _ 0 _ _ _ hz).trans rfl
                  have q1 := (cell_of_row _ _ 1 _ _ _ hz).trans rfl
                  have q2 := (cell_of_row _ _ 2 _ _ _ hz).trans rfl
                  have q3 := (cell_of_row _ _ 3 _ _ _ hz).trans rfl
                  refine bodyPost_ret (v := .tuple #[.agg #[.int .u8 n.op, .int .u8 0, .int .u8 0, .int .i32 nv], .int .i64 0]) (by simp [results, Tryz.results82, go_sem, q0, q1, q2, q3]) rfl ⟨rfl, ?_⟩
                  first
                    | exact ((((((((hBw.trans (hB3.mono (by omega))).setCell (p := ⟨wr.heap.size, 3, none⟩) (by show w.heap.size ≤ wr.heap.size; omega) _).alloc (Nat.le_of_lt (heap_ltA (row_setOR hrs3 (c := wr.heap.size) (by omega) 3 (.int .i32 nv)))) _).trans (hb6.mono (Nat.le_of_lt (heap_ltA hW)))).setCell (p := ⟨w.heap.size, 0, none⟩) (Nat.le_refl _) _).setCell (p := ⟨w.heap.size, 1, none⟩) (Nat.le_refl _) _).setCell (p := ⟨w.heap.size, 2, none⟩) (Nat.le_refl _) _).setCell (p := ⟨w.heap.size, 3, none⟩) (Nat.le_refl _) _)
                    | exact ((((((((hBw.trans (hB3.mono (by omega))).setCell (p := ⟨wr.heap.size, 3, none⟩) (by show w.heap.size ≤ wr.heap.size; omega) _).alloc (Nat.le_of_lt (heap_ltA (row_setOR hrs3 (c := wr.heap.size) (by omega) 3 (.int .i32 nv)))) _).drew.trans (hb6.mono (Nat.le_of_lt (heap_ltA hW)))).setCell (p := ⟨w.heap.size, 0, none⟩) (Nat.le_refl _) _).setCell (p := ⟨w.heap.size, 1, none⟩) (Nat.le_refl _) _).setCell (p := ⟨w.heap.size, 2, none⟩) (Nat.le_refl _) _).setCell (p := ⟨w.heap.size, 3, none⟩) (Nat.le_refl _) _)
                · have cm2 : Isa.mayB (Isa.fm n.op true) 0 0 nv = false := by simpa using cm
                  rw [cm2] at HM
                  rw [if_neg cm] at hRO
                  obtain rfl : RR = readV (.error 41) := hRO.symm
                  clear hRO cm cm2
                  go_wp2_with fail
                  refine (HM.out _).mono ?_
                  rintro e w6 ⟨rfl, hb6⟩
                  obtain ⟨hcl6, hfz6⟩ := Isa.bcell hb6
                  have hz6 : w3.heap.size < w6.heap.size := by have := hb6.size; simp at this; omega
                  have hW := heap_oldT (o := .cells #[.int .i64 (Isa.fm n.op true).n, .bool false, .bool false, .int .i64 kf, .bool (decide ((Isa.fm n.op true).s = 1))] 91) (row_setOR hrs3 (c := wr.heap.size) (by omega) 3 (.int .i32 nv))
                  have hrs6 := (hb6.block _ (heap_ltA hW)).trans hW
                  go_wp2_with fail
                  have hz := (row_setR (row_setR (row_setR (row_setR hrs6 0 (.int .u8 0)) 1 (.int .u8 0)) 2 (.int .u8 0)) 3 (.int .i32 0))
                  have q0 := (cell_of_row _ _ 0 _ _ _ hz).trans rfl
                  have q1 := (cell_of_row _ _ 1 _ _ _ hz).trans rfl
                  have q2 := (cell_of_row _ _ 2 _ _ _ hz).trans rfl
                  have q3 := (cell_of_row _ _ 3 _ _ _ hz).trans rfl
                  refine bodyPost_ret (v := .tuple #[.agg #[.int .u8 0, .int .u8 0, .int .u8 0, .int .i32 0], .int .i64 41]) (by simp [results, Tryz.results82, go_sem, q0, q1, q2, q3]) rfl ⟨rfl, ?_⟩
                  first
                    | exact ((((((((hBw.trans (hB3.mono (by omega))).setCell (p := ⟨wr.heap.size, 3, none⟩) (by show w.heap.size ≤ wr.heap.size; omega) _).alloc (Nat.le_of_lt (heap_ltA (row_setOR hrs3 (c := wr.heap.size) (by omega) 3 (.int .i32 nv)))) _).trans (hb6.mono (Nat.le_of_lt (heap_ltA hW)))).setCell (p := ⟨w.heap.size, 0, none⟩) (Nat.le_refl _) _).setCell (p := ⟨w.heap.size, 1, none⟩) (Nat.le_refl _) _).setCell (p := ⟨w.heap.size, 2, none⟩) (Nat.le_refl _) _).setCell (p := ⟨w.heap.size, 3, none⟩) (Nat.le_refl _) _)
                    | exact ((((((((hBw.trans (hB3.mono (by omega))).setCell (p := ⟨wr.heap.size, 3, none⟩) (by show w.heap.size ≤ wr.heap.size; omega) _).alloc (Nat.le_of_lt (heap_ltA (row_setOR hrs3 (c := wr.heap.size) (by omega) 3 (.int .i32 nv)))) _).drew.trans (hb6.mono (Nat.le_of_lt (heap_ltA hW)))).setCell (p := ⟨w.heap.size, 0, none⟩) (Nat.le_refl _) _).setCell (p := ⟨w.heap.size, 1, none⟩) (Nat.le_refl _) _).setCell (p := ⟨w.heap.size, 2, none⟩) (Nat.le_refl _) _).setCell (p := ⟨w.heap.size, 3, none⟩) (Nat.le_refl _) _)
            · obtain rfl : RR = readV (.error 40) := by
                rw [← HR.out, HRD2.out, read_badR (show ws.length ≠ n.want by omega)]
                split <;> rfl
              have el : ((ws.length : Int) != 2) = true := by simp; omega
              clear HR HRD2 h4k hwd
              go_wp2_with fail
              have hz := (row_setR (row_setR (row_setR (row_setR hrs3 0 (.int .u8 0)) 1 (.int .u8 0)) 2 (.int .u8 0)) 3 (.int .i32 0))
              have hz2 := heap_oldT (o := .cells #[.int .i64 (Isa.fm n.op true).n, .bool false, .bool false, .int .i64 kf, .bool (decide ((Isa.fm n.op true).s = 1))] 91) hz
              have q0 := (cell_of_row _ _ 0 _ _ _ hz2).trans rfl
              have q1 := (cell_of_row _ _ 1 _ _ _ hz2).trans rfl
              have q2 := (cell_of_row _ _ 2 _ _ _ hz2).trans rfl
              have q3 := (cell_of_row _ _ 3 _ _ _ hz2).trans rfl
              refine bodyPost_ret (v := .tuple #[.agg #[.int .u8 0, .int .u8 0, .int .u8 0, .int .i32 0], .int .i64 40]) (by simp [results, Tryz.results82, go_sem, q0, q1, q2, q3]) rfl ⟨rfl, ?_⟩
              first
                | exact ((((((hBw.trans (hB3.mono (by omega))).setCell (p := ⟨w.heap.size, 0, none⟩) (Nat.le_refl _) _).setCell (p := ⟨w.heap.size, 1, none⟩) (Nat.le_refl _) _).setCell (p := ⟨w.heap.size, 2, none⟩) (Nat.le_refl _) _).setCell (p := ⟨w.heap.size, 3, none⟩) (Nat.le_refl _) _).alloc (Nat.le_of_lt (heap_ltA hz)) _)
                | exact (((((((hBw.trans (hB3.mono (by omega))).setCell (p := ⟨w.heap.size, 0, none⟩) (Nat.le_refl _) _).setCell (p := ⟨w.heap.size, 1, none⟩) (Nat.le_refl _) _).setCell (p := ⟨w.heap.size, 2, none⟩) (Nat.le_refl _) _).setCell (p := ⟨w.heap.size, 3, none⟩) (Nat.le_refl _) _).alloc (Nat.le_of_lt (heap_ltA hz)) _)).drew
        · have ha1 : n.a = 114 := hA.resolve_left ca
          rw [show decide (n.a ≠ 0) = true by simp [ca]]
          by_cases cb : n.b = 0
          · have hB0 : oB n ws = some 0 := by unfold oB; rw [if_pos cb]
            rw [show decide (n.b ≠ 0) = false by simp [cb]]
            cases ci : n.imm
            · rw [ci] at h4k
              have hk0 : ¬ 0 < kf := by simpa using h4k
              have hwant : n.want = 2 := by rw [hwd, ci, show (n.a != 0) = true by simp [ca], show (n.b != 0) = false by simp [cb]]; rfl
              by_cases cl : ws.length = 2
              · have hRO := HR.out
                rw [HRD2.out, if_neg (by omega), read_ofR (show ws.length = n.want by omega)] at hRO
                have el : ((ws.length : Int) != 2) = false := by simp; omega
                obtain ⟨x1, hx1, hd1⟩ : ∃ x, ws[1]? = some x ∧ ws.getD 1 [] = x := ⟨_, List.getElem?_eq_getElem (by omega), by simp [List.getD, List.getElem?_eq_getElem (show 1 < ws.length by omega)]⟩
                have y1 := (hB31.cell (p := ⟨g, 1, none⟩) hg).trans (HC.out 1 x1 hx1)
                have i1_ : (1 : Int) < (ws.length : Int) := by omega
                have l1 := HLL.out x1 (List.mem_of_getElem? hx1)
                have hA0 : oA n ws = regF x1 114 := by unfold oA; rw [if_neg ca, hd1, ha1]
                rw [hA0] at hRO
                have hb114 : ((114 : UInt8).toNat : Int) = 114 := rfl
                have hr1 := fun v (h : regF x1 114 = some v) => (reg_read h).2
                cases hra : regF x1 114 with
                | none =>
                  rw [hra] at hRO
                  obtain rfl : RR = readV (.error 40) := hRO.symm
                  clear HR HRD2 h4k hwd hRO
                  go_wp2_with fail
                  refine (HRg.out x1 l1 114 _).mono ?_
                  rintro e w4 ⟨rfl, hw4⟩
                  have hw4 := hw4.symm
                  subst hw4
                  rw [hb114, hra, show (none : Option Int).getD (-1) = -1 from rfl]
                  go_wp2_with fail
                  have hz := (row_setR (row_setR (row_setR (row_setR hrs3 0 (.int .u8 0)) 1 (.int .u8 0)) 2 (.int .u8 0)) 3 (.int .i32 0))
                  have hz2 := heap_oldT (o := .cells #[.int .i64 (Isa.fm n.op true).n, .bool true, .bool false, .int .i64 kf, .bool (decide ((Isa.fm n.op true).s = 1))] 91) hz
                  have q0 := (cell_of_row _ _ 0 _ _ _ hz2).trans rfl
                  have q1 := (cell_of_row _ _ 1 _ _ _ hz2).trans rfl
                  have q2 := (cell_of_row _ _ 2 _ _ _ hz2).trans rfl
                  have q3 := (cell_of_row _ _ 3 _ _ _ hz2).trans rfl
                  refine bodyPost_ret (v := .tuple #[.agg #[.int .u8 0, .int .u8 0, .int .u8 0, .int .i32 0], .int .i64 40]) (by simp [results, Tryz.results82, go_sem, q0, q1, q2, q3]) rfl ⟨rfl, ?_⟩
                  first
                    | exact ((((((hBw.trans (hB3.mono (by omega))).setCell (p := ⟨w.heap.size, 0, none⟩) (Nat.le_refl _) _).setCell (p := ⟨w.heap.size, 1, none⟩) (Nat.le_refl _) _).setCell (p := ⟨w.heap.size, 2, none⟩) (Nat.le_refl _) _).setCell (p := ⟨w.heap.size, 3, none⟩) (Nat.le_refl _) _).alloc (Nat.le_of_lt (heap_ltA hz)) _)
                    | exact (((((((hBw.trans (hB3.mono (by omega))).setCell (p := ⟨w.heap.size, 0, none⟩) (Nat.le_refl _) _).setCell (p := ⟨w.heap.size, 1, none⟩) (Nat.le_refl _) _).setCell (p := ⟨w.heap.size, 2, none⟩) (Nat.le_refl _) _).setCell (p := ⟨w.heap.size, 3, none⟩) (Nat.le_refl _) _).alloc (Nat.le_of_lt (heap_ltA hz)) _)).drew
                | some va =>
                  rw [hra] at hRO
                  simp only at hRO
                  obtain ⟨va0, va1⟩ := hr1 va hra
                  have hwa : IntKind.u8.wrap va = va := IntWalk.u8_in _ (by omega)
                  have nva : ¬ va < 0 := by omega
                  rw [hB0] at hRO
                  simp only at hRO
                  go_wp2_with fail
                  refine (HRg.out x1 l1 114 _).mono ?_
                  rintro e w4 ⟨rfl, hw4⟩
                  have hw4 := hw4.symm
                  subst hw4
                  rw [hb114, hra, show (some va : Option Int).getD (-1) = va from rfl]
                  rw [ci, if_neg Bool.false_ne_true] at hRO
                  obtain rfl : RR = readV (.ok (n.op, va, 0, 0)) := hRO.symm
                  clear HR HRD2 h4k hwd hRO
                  go_wp2_with fail
                  have hz := (row_setR (row_setR (row_setR (row_setR (row_setOR hrs3 (c := wr.heap.size) (by omega) 1 (.int .u8 va)) 0 (.int .u8 n.op)) 1 (.int .u8 va)) 2 (.int .u8 0)) 3 (.int .i32 0))
                  have hz2 := heap_oldT (o := .cells #[.int .i64 (Isa.fm n.op true).n, .bool true, .bool false, .int .i64 kf, .bool (decide ((Isa.fm n.op true).s = 1))] 91) hz
                  have q0 := (cell_of_row _ _ 0 _ _ _ hz2).trans rfl
                  have q1 := (cell_of_row _ _ 1 _ _ _ hz2).trans rfl
                  have q2 := (cell_of_row _ _ 2 _ _ _ hz2).trans rfl
                  have q3 := (cell_of_row _ _ 3 _ _ _ hz2).trans rfl
                  refine bodyPost_ret (v := .tuple #[.agg #[.int .u8 n.op, .int .u8 va, .int .u8 0, .int .i32 0], .int .i64 0]) (by simp [results, Tryz.results82, go_sem, q0, q1, q2, q3]) rfl ⟨rfl, ?_⟩
                  first
                    | exact (((((((hBw.trans (hB3.mono (by omega))).setCell (p := ⟨wr.heap.size, 1, none⟩) (by show w.heap.size ≤ wr.heap.size; omega) _).setCell (p := ⟨w.heap.size, 0, none⟩) (Nat.le_refl _) _).setCell (p := ⟨w.heap.size, 1, none⟩) (Nat.le_refl _) _).setCell (p := ⟨w.heap.size, 2, none⟩) (Nat.le_refl _) _).setCell (p := ⟨w.heap.size, 3, none⟩) (Nat.le_refl _) _).alloc (Nat.le_of_lt (heap_ltA hz)) _)
                    | exact ((((((((hBw.trans (hB3.mono (by omega))).setCell (p := ⟨wr.heap.size, 1, none⟩) (by show w.heap.size ≤ wr.heap.size; omega) _).setCell (p := ⟨w.heap.size, 0, none⟩) (Nat.le_refl _) _).setCell (p := ⟨w.heap.size, 1, none⟩) (Nat.le_refl _) _).setCell (p := ⟨w.heap.size, 2, none⟩) (Nat.le_refl _) _).setCell (p := ⟨w.heap.size, 3, none⟩) (Nat.le_refl _) _).alloc (Nat.le_of_lt (heap_ltA hz)) _)).drew
              · obtain rfl : RR = readV (.error 40) := by
                  rw [← HR.out, HRD2.out, read_badR (show ws.length ≠ n.want by omega)]
                  split <;> rfl
                have el : ((ws.length : Int) != 2) = true := by simp; omega
                clear HR HRD2 h4k hwd
                go_wp2_with fail
                have hz := (row_setR (row_setR (row_setR (row_setR hrs3 0 (.int .u8 0)) 1 (.int .u8 0)) 2 (.int .u8 0)) 3 (.int .i32 0))
                have hz2 := heap_oldT (o := .cells #[.int .i64 (Isa.fm n.op true).n, .bool true, .bool false, .int .i64 kf, .bool (decide ((Isa.fm n.op true).s = 1))] 91) hz
                have q0 := (cell_of_row _ _ 0 _ _ _ hz2).trans rfl
                have q1 := (cell_of_row _ _ 1 _ _ _ hz2).trans rfl
                have q2 := (cell_of_row _ _ 2 _ _ _ hz2).trans rfl
                have q3 := (cell_of_row _ _ 3 _ _ _ hz2).trans rfl
                refine bodyPost_ret (v := .tuple #[.agg #[.int .u8 0, .int .u8 0, .int .u8 0, .int .i32 0], .int .i64 40]) (by simp [results, Tryz.results82, go_sem, q0, q1, q2, q3]) rfl ⟨rfl, ?_⟩
                first
                  | exact ((((((hBw.trans (hB3.mono (by omega))).setCell (p := ⟨w.heap.size, 0, none⟩) (Nat.le_refl _) _).setCell (p := ⟨w.heap.size, 1, none⟩) (Nat.le_refl _) _).setCell (p := ⟨w.heap.size, 2, none⟩) (Nat.le_refl _) _).setCell (p := ⟨w.heap.size, 3, none⟩) (Nat.le_refl _) _).alloc (Nat.le_of_lt (heap_ltA hz)) _)
                  | exact (((((((hBw.trans (hB3.mono (by omega))).setCell (p := ⟨w.heap.size, 0, none⟩) (Nat.le_refl _) _).setCell (p := ⟨w.heap.size, 1, none⟩) (Nat.le_refl _) _).setCell (p := ⟨w.heap.size, 2, none⟩) (Nat.le_refl _) _).setCell (p := ⟨w.heap.size, 3, none⟩) (Nat.le_refl _) _).alloc (Nat.le_of_lt (heap_ltA hz)) _)).drew
            · rw [ci] at h4k
              have hk0 : 0 < kf := by simpa using h4k
              have hwant : n.want = 3 := by rw [hwd, ci, show (n.a != 0) = true by simp [ca], show (n.b != 0) = false by simp [cb]]; rfl
              by_cases cl : ws.length = 3
              · have hRO := HR.out
                rw [HRD2.out, if_neg (by omega), read_ofR (show ws.length = n.want by omega)] at hRO
                have el : ((ws.length : Int) != 3) = false := by simp; omega
                obtain ⟨x1, hx1, hd1⟩ : ∃ x, ws[1]? = some x ∧ ws.getD 1 [] = x := ⟨_, List.getElem?_eq_getElem (by omega), by simp [List.getD, List.getElem?_eq_getElem (show 1 < ws.length by omega)]⟩
                have y1 := (hB31.cell (p := ⟨g, 1, none⟩) hg).trans (HC.out 1 x1 hx1)
                have i1_ : (1 : Int) < (ws.length : Int) := by omega
                have l1 := HLL.out x1 (List.mem_of_getElem? hx1)
                have hA0 : oA n ws = regF x1 114 := by unfold oA; rw [if_neg ca, hd1, ha1]
                rw [hA0] at hRO
                have hb114 : ((114 : UInt8).toNat : Int) = 114 := rfl
                have hr1 := fun v (h : regF x1 114 = some v) => (reg_read h).2
                cases hra : regF x1 114 with
                | none =>
                  rw [hra] at hRO
                  obtain rfl : RR = readV (.error 40) := hRO.symm
                  clear HR HRD2 h4k hwd hRO
                  go_wp2_with fail
                  refine (HRg.out x1 l1 114 _).mono ?_
                  rintro e w4 ⟨rfl, hw4⟩
                  have hw4 := hw4.symm
                  subst hw4
                  rw [hb114, hra, show (none : Option Int).getD (-1) = -1 from rfl]
                  go_wp2_with fail
                  have hz := (row_setR (row_setR (row_setR (row_setR hrs3 0 (.int .u8 0)) 1 (.int .u8 0)) 2 (.int .u8 0)) 3 (.int .i32 0))
                  have hz2 := heap_oldT (o := .cells #[.int .i64 (Isa.fm n.op true).n, .bool true, .bool false, .int .i64 kf, .bool (decide ((Isa.fm n.op true).s = 1))] 91) hz
                  have q0 := (cell_of_row _ _ 0 _ _ _ hz2).trans rfl
                  have q1 := (cell_of_row _ _ 1 _ _ _ hz2).trans rfl
                  have q2 := (cell_of_row _ _ 2 _ _ _ hz2).trans rfl
                  have q3 := (cell_of_row _ _ 3 _ _ _ hz2).trans rfl
                  refine bodyPost_ret (v := .tuple #[.agg #[.int .u8 0, .int .u8 0, .int .u8 0, .int .i32 0], .int .i64 40]) (by simp [results, Tryz.results82, go_sem, q0, q1, q2, q3]) rfl ⟨rfl, ?_⟩
                  first
                    | exact ((((((hBw.trans (hB3.mono (by omega))).setCell (p := ⟨w.heap.size, 0, none⟩) (Nat.le_refl _) _).setCell (p := ⟨w.heap.size, 1, none⟩) (Nat.le_refl _) _).setCell (p := ⟨w.heap.size, 2, none⟩) (Nat.le_refl _) _).setCell (p := ⟨w.heap.size, 3, none⟩) (Nat.le_refl _) _).alloc (Nat.le_of_lt (heap_ltA hz)) _)
                    | exact (((((((hBw.trans (hB3.mono (by omega))).setCell (p := ⟨w.heap.size, 0, none⟩) (Nat.le_refl _) _).setCell (p := ⟨w.heap.size, 1, none⟩) (Nat.le_refl _) _).setCell (p := ⟨w.heap.size, 2, none⟩) (Nat.le_refl _) _).setCell (p := ⟨w.heap.size, 3, none⟩) (Nat.le_refl _) _).alloc (Nat.le_of_lt (heap_ltA hz)) _)).drew
                | some va =>
                  rw [hra] at hRO
                  simp only at hRO
                  obtain ⟨va0, va1⟩ := hr1 va hra
                  have hwa : IntKind.u8.wrap va = va := IntWalk.u8_in _ (by omega)
                  have nva : ¬ va < 0 := by omega
                  rw [hB0] at hRO
                  simp only at hRO
                  go_wp2_with fail
                  refine (HRg.out x1 l1 114 _).mono ?_
                  rintro e w4 ⟨rfl, hw4⟩
                  have hw4 := hw4.symm
                  subst hw4
                  rw [hb114, hra, show (some va : Option Int).getD (-1) = va from rfl]
                  obtain ⟨x2, hx2, hd2⟩ : ∃ x, ws[2]? = some x ∧ ws.getD 2 [] = x := ⟨_, List.getElem?_eq_getElem (by omega), by simp [List.getD, List.getElem?_eq_getElem (show 2 < ws.length by omega)]⟩
                  have y2 := (hB31.cell (p := ⟨g, 2, none⟩) hg).trans (HC.out 2 x2 hx2)
                  have i2_ : (2 : Int) < (ws.length : Int) := by omega
                  have l2 := HLL.out x2 (List.mem_of_getElem? hx2)
                  rw [ci, if_pos rfl, show pI n = 2 by simp [pI, ca, cb], hd2] at hRO
                  have hbd := fun v => @numF_bd x2 v
                  clear hwd h4k
                  go_wp2_with fail
                  refine (HNu.out x2 l2 _).mono ?_
                  rintro e w5 ⟨hw5, nv, rfl, hn⟩
                  have hw5 := hw5.symm
                  subst hw5
                  cases hnf : numF x2 with
                  | none =>
                    rw [hnf] at hRO
                    obtain rfl : RR = readV (.error 41) := hRO.symm
                    clear HR HRD2 hRO hn hbd hnf
                    rw [show (none : Option Int).isSome = false from rfl]
                    go_wp2_with fail
                    have hz := (row_setR (row_setR (row_setR (row_setR (row_setOR (row_setOR hrs3 (c := wr.heap.size) (by omega) 1 (.int .u8 va)) (c := wr.heap.size) (by omega) 3 (.int .i32 (wrap32 nv))) 0 (.int .u8 0)) 1 (.int .u8 0)) 2 (.int .u8 0)) 3 (.int .i32 0))
                    have hz2 := heap_oldT (o := .cells #[.int .i64 (Isa.fm n.op true).n, .bool true, .bool false, .int .i64 kf, .bool (decide ((Isa.fm n.op true).s = 1))] 91) hz
                    have q0 := (cell_of_row _ _ 0 _ _ _ hz2).trans rfl
                    have q1 := (cell_of_row _ _ 1 _ _ _ hz2).trans rfl
                    have q2 := (cell_of_row _ _ 2 _ _ _ hz2).trans rfl
                    have q3 := (cell_of_row _ _ 3 _ _ _ hz2).trans rfl
                    refine bodyPost_ret (v := .tuple #[.agg #[.int .u8 0, .int .u8 0, .int .u8 0, .int .i32 0], .int .i64 41]) (by simp [results, Tryz.results82, go_sem, q0, q1, q2, q3]) rfl ⟨rfl, ?_⟩
                    first
                      | exact ((((((((hBw.trans (hB3.mono (by omega))).setCell (p := ⟨wr.heap.size, 1, none⟩) (by show w.heap.size ≤ wr.heap.size; omega) _).setCell (p := ⟨wr.heap.size, 3, none⟩) (by show w.heap.size ≤ wr.heap.size; omega) _).setCell (p := ⟨w.heap.size, 0, none⟩) (Nat.le_refl _) _).setCell (p := ⟨w.heap.size, 1, none⟩) (Nat.le_refl _) _).setCell (p := ⟨w.heap.size, 2, none⟩) (Nat.le_refl _) _).setCell (p := ⟨w.heap.size, 3, none⟩) (Nat.le_refl _) _).alloc (Nat.le_of_lt (heap_ltA hz)) _)
                      | exact (((((((((hBw.trans (hB3.mono (by omega))).setCell (p := ⟨wr.heap.size, 1, none⟩) (by show w.heap.size ≤ wr.heap.size; omega) _).setCell (p := ⟨wr.heap.size, 3, none⟩) (by show w.heap.size ≤ wr.heap.size; omega) _).setCell (p := ⟨w.heap.size, 0, none⟩) (Nat.le_refl _) _).setCell (p := ⟨w.heap.size, 1, none⟩) (Nat.le_refl _) _).setCell (p := ⟨w.heap.size, 2, none⟩) (Nat.le_refl _) _).setCell (p := ⟨w.heap.size, 3, none⟩) (Nat.le_refl _) _).alloc (Nat.le_of_lt (heap_ltA hz)) _)).drew
                  | some v =>
                    obtain rfl := hn v hnf
                    obtain ⟨v0, v1⟩ := hbd nv hnf
                    rw [hnf] at hRO
                    simp only at hRO
                    have hwv : IntKind.i32.wrap nv = nv := IntWalk.i32_in _ (by omega)
                    have hwv2 : wrap32 nv = nv := IntWalk.wrap32_in _ (by omega)
                    rw [show (some nv : Option Int).isSome = true from rfl]
                    clear hn hbd hnf HR HRD2
                    have HM := Lib.hid (fun (W : World) => HMy.out va 0 nv W (by omega) (by omega) (by omega) (by omega) v0 v1)
                    by_cases cm : Isa.mayB (Isa.fm n.op true) va 0 nv = true
                    · rw [cm] at HM
                      rw [if_pos cm] at hRO
                      obtain rfl : RR = readV (.ok (n.op, va, 0, nv)) := hRO.symm
                      clear hRO cm
                      go_wp2_with fail
                      refine (HM.out _).mono ?_
                      rintro e w6 ⟨rfl, hb6⟩
                      obtain ⟨hcl6, hfz6⟩ := Isa.bcell hb6
                      have hz6 : w3.heap.size < w6.heap.size := by have := hb6.size; simp at this; omega
                      have hW := heap_oldT (o := .cells #[.int .i64 (Isa.fm n.op true).n, .bool true, .bool false, .int .i64 kf, .bool (decide ((Isa.fm n.op true).s = 1))] 91) (row_setOR (row_setOR hrs3 (c := wr.heap.size) (by omega) 1 (.int .u8 va)) (c := wr.heap.size) (by omega) 3 (.int .i32 nv))
                      have hrs6 := (hb6.block _ (heap_ltA hW)).trans hW
                      go_wp2_with fail
                      have hz := (row_setR (row_setR (row_setR (row_setR hrs6 0 (.int .u8 n.op)) 1 (.int .u8 va)) 2 (.int .u8 0)) 3 (.int .i32 nv))
                      have q0 := (cell_of_row _ _ 0 _ _ _ hz).trans rfl
                      have q1 := (cell_of_row _ _ 1 _ _ _ hz).trans rfl
                      have q2 := (cell_of_row _ _ 2 _ _ _ hz).trans rfl
                      have q3 := (cell_of_row _ _ 3 _ _ _ hz).trans rfl
                      refine bodyPost_ret (v := .tuple #[.agg #[.int .u8 n.op, .int .u8 va, .int .u8 0, .int .i32 nv], .int .i64 0]) (by simp [results, Tryz.results82, go_sem, q0, q1, q2, q3]) rfl ⟨rfl, ?_⟩
                      first
                        | exact (((((((((hBw.trans (hB3.mono (by omega))).setCell (p := ⟨wr.heap.size, 1, none⟩) (by show w.heap.size ≤ wr.heap.size; omega) _).setCell (p := ⟨wr.heap.size, 3, none⟩) (by show w.heap.size ≤ wr.heap.size; omega) _).alloc (Nat.le_of_lt (heap_ltA (row_setOR (row_setOR hrs3 (c := wr.heap.size) (by omega) 1 (.int .u8 va)) (c := wr.heap.size) (by omega) 3 (.int .i32 nv)))) _).trans (hb6.mono (Nat.le_of_lt (heap_ltA hW)))).setCell (p := ⟨w.heap.size, 0, none⟩) (Nat.le_refl _) _).setCell (p := ⟨w.heap.size, 1, none⟩) (Nat.le_refl _) _).setCell (p := ⟨w.heap.size, 2, none⟩) (Nat.le_refl _) _).setCell (p := ⟨w.heap.size, 3, none⟩) (Nat.le_refl _) _)
                        | exact (((((((((hBw.trans (hB3.mono (by omega))).setCell (p := ⟨wr.heap.size, 1, none⟩) (by show w.heap.size ≤ wr.heap.size; omega) _).setCell (p := ⟨wr.heap.size, 3, none⟩) (by show w.heap.size ≤ wr.heap.size; omega) _).alloc (Nat.le_of_lt (heap_ltA (row_setOR (row_setOR hrs3 (c := wr.heap.size) (by omega) 1 (.int .u8 va)) (c := wr.heap.size) (by omega) 3 (.int .i32 nv)))) _).drew.trans (hb6.mono (Nat.le_of_lt (heap_ltA hW)))).setCell (p := ⟨w.heap.size, 0, none⟩) (Nat.le_refl _) _).setCell (p := ⟨w.heap.size, 1, none⟩) (Nat.le_refl _) _).setCell (p := ⟨w.heap.size, 2, none⟩) (Nat.le_refl _) _).setCell (p := ⟨w.heap.size, 3, none⟩) (Nat.le_refl _) _)
                    · have cm2 : Isa.mayB (Isa.fm n.op true) va 0 nv = false := by simpa using cm
                      rw [cm2] at HM
                      rw [if_neg cm] at hRO
                      obtain rfl : RR = readV (.error 41) := hRO.symm
                      clear hRO cm cm2
                      go_wp2_with fail
                      refine (HM.out _).mono ?_
                      rintro e w6 ⟨rfl, hb6⟩
                      obtain ⟨hcl6, hfz6⟩ := Isa.bcell hb6
                      have hz6 : w3.heap.size < w6.heap.size := by have := hb6.size; simp at this; omega
                      have hW := heap_oldT (o := .cells #[.int .i64 (Isa.fm n.op true).n, .bool true, .bool false, .int .i64 kf, .bool (decide ((Isa.fm n.op true).s = 1))] 91) (row_setOR (row_setOR hrs3 (c := wr.heap.size) (by omega) 1 (.int .u8 va)) (c := wr.heap.size) (by omega) 3 (.int .i32 nv))
                      have hrs6 := (hb6.block _ (heap_ltA hW)).trans hW
                      go_wp2_with fail
                      have hz := (row_setR (row_setR (row_setR (row_setR hrs6 0 (.int .u8 0)) 1 (.int .u8 0)) 2 (.int .u8 0)) 3 (.int .i32 0))
                      have q0 := (cell_of_row _ _ 0 _ _ _ hz).trans rfl
                      have q1 := (cell_of_row _ _ 1 _ _ _ hz).trans rfl
                      have q2 := (cell_of_row _ _ 2 _ _ _ hz).trans rfl
                      have q3 := (cell_of_row _ _ 3 _ _ _ hz).trans rfl
                      refine bodyPost_ret (v := .tuple #[.agg #[.int .u8 0, .int .u8 0, .int .u8 0, .int .i32 0], .int .i64 41]) (by simp [results, Tryz.results82, go_sem, q0, q1, q2, q3]) rfl ⟨rfl, ?_⟩
                      first
                        | exact (((((((((hBw.trans (hB3.mono (by omega))).setCell (p := ⟨wr.heap.size, 1, none⟩) (by show w.heap.size ≤ wr.heap.size; omega) _).setCell (p := ⟨wr.heap.size, 3, none⟩) (by show w.heap.size ≤ wr.heap.size; omega) _).alloc (Nat.le_of_lt (heap_ltA (row_setOR (row_setOR hrs3 (c := wr.heap.size) (by omega) 1 (.int .u8 va)) (c := wr.heap.size) (by omega) 3 (.int .i32 nv)))) _).trans (hb6.mono (Nat.le_of_lt (heap_ltA hW)))).setCell (p := ⟨w.heap.size, 0, none⟩) (Nat.le_refl _) _).setCell (p := ⟨w.heap.size, 1, none⟩) (Nat.le_refl _) _).setCell (p := ⟨w.heap.size, 2, none⟩) (Nat.le_refl _) _).setCell (p := ⟨w.heap.size, 3, none⟩) (Nat.le_refl _) _)
                        | exact (((((((((hBw.trans (hB3.mono (by omega))).setCell (p := ⟨wr.heap.size, 1, none⟩) (by show w.heap.size ≤ wr.heap.size; omega) _).setCell (p := ⟨wr.heap.size, 3, none⟩) (by show w.heap.size ≤ wr.heap.size; omega) _).alloc (Nat.le_of_lt (heap_ltA (row_setOR (row_setOR hrs3 (c := wr.heap.size) (by omega) 1 (.int .u8 va)) (c := wr.heap.size) (by omega) 3 (.int .i32 nv)))) _).drew.trans (hb6.mono (Nat.le_of_lt (heap_ltA hW)))).setCell (p := ⟨w.heap.size, 0, none⟩) (Nat.le_refl _) _).setCell (p := ⟨w.heap.size, 1, none⟩) (Nat.le_refl _) _).setCell (p := ⟨w.heap.size, 2, none⟩) (Nat.le_refl _) _).setCell (p := ⟨w.heap.size, 3, none⟩) (Nat.le_refl _) _)
              · obtain rfl : RR = readV (.error 40) := by
                  rw [← HR.out, HRD2.out, read_badR (show ws.length ≠ n.want by omega)]
                  split <;> rfl
                have el : ((ws.length : Int) != 3) = true := by simp; omega
                clear HR HRD2 h4k hwd
                go_wp2_with fail
                have hz := (row_setR (row_setR (row_setR (row_setR hrs3 0 (.int .u8 0)) 1 (.int .u8 0)) 2 (.int .u8 0)) 3 (.int .i32 0))
                have hz2 := heap_oldT (o := .cells #[.int .i64 (Isa.fm n.op true).n, .bool true, .bool false, .int .i64 kf, .bool (decide ((Isa.fm n.op true).s = 1))] 91) hz
                have q0 := (cell_of_row _ _ 0 _ _ _ hz2).trans rfl
                have q1 := (cell_of_row _ _ 1 _ _ _ hz2).trans rfl
                have q2 := (cell_of_row _ _ 2 _ _ _ hz2).trans rfl
                have q3 := (cell_of_row _ _ 3 _ _ _ hz2).trans rfl
                refine bodyPost_ret (v := .tuple #[.agg #[.int .u8 0, .int .u8 0, .int .u8 0, .int .i32 0], .int .i64 40]) (by simp [results, Tryz.results82, go_sem, q0, q1, q2, q3]) rfl ⟨rfl, ?_⟩
                first
                  | exact ((((((hBw.trans (hB3.mono (by omega))).setCell (p := ⟨w.heap.size, 0, none⟩) (Nat.le_refl _) _).setCell (p := ⟨w.heap.size, 1, none⟩) (Nat.le_refl _) _).setCell (p := ⟨w.heap.size, 2, none⟩) (Nat.le_refl _) _).setCell (p := ⟨w.heap.size, 3, none⟩) (Nat.le_refl _) _).alloc (Nat.le_of_lt (heap_ltA hz)) _)
                  | exact (((((((hBw.trans (hB3.mono (by omega))).setCell (p := ⟨w.heap.size, 0, none⟩) (Nat.le_refl _) _).setCell (p := ⟨w.heap.size, 1, none⟩) (Nat.le_refl _) _).setCell (p := ⟨w.heap.size, 2, none⟩) (Nat.le_refl _) _).setCell (p := ⟨w.heap.size, 3, none⟩) (Nat.le_refl _) _).alloc (Nat.le_of_lt (heap_ltA hz)) _)).drew
          · have hb1 := hBl.resolve_left cb
            rw [show decide (n.b ≠ 0) = true by simp [cb]]
            cases ci : n.imm
            · rw [ci] at h4k
              have hk0 : ¬ 0 < kf := by simpa using h4k
              have hwant : n.want = 3 := by rw [hwd, ci, show (n.a != 0) = true by simp [ca], show (n.b != 0) = true by simp [cb]]; rfl
              by_cases cl : ws.length = 3
              · have hRO := HR.out
                rw [HRD2.out, if_neg (by omega), read_ofR (show ws.length = n.want by omega)] at hRO
                have el : ((ws.length : Int) != 3) = false := by simp; omega
                obtain ⟨x1, hx1, hd1⟩ : ∃ x, ws[1]? = some x ∧ ws.getD 1 [] = x := ⟨_, List.getElem?_eq_getElem (by omega), by simp [List.getD, List.getElem?_eq_getElem (show 1 < ws.length by omega)]⟩
                have y1 := (hB31.cell (p := ⟨g, 1, none⟩) hg).trans (HC.out 1 x1 hx1)
                have i1_ : (1 : Int) < (ws.length : Int) := by omega
                have l1 := HLL.out x1 (List.mem_of_getElem? hx1)
                have hA0 : oA n ws = regF x1 114 := by unfold oA; rw [if_neg ca, hd1, ha1]
                rw [hA0] at hRO
                have hb114 : ((114 : UInt8).toNat : Int) = 114 := rfl
                have hr1 := fun v (h : regF x1 114 = some v) => (reg_read h).2
                cases hra : regF x1 114 with
                | none =>
                  rw [hra] at hRO
                  obtain rfl : RR = readV (.error 40) := hRO.symm
                  clear HR HRD2 h4k hwd hRO
                  go_wp2_with fail
                  refine (HRg.out x1 l1 114 _).mono ?_
                  rintro e w4 ⟨rfl, hw4⟩
                  have hw4 := hw4.symm
                  subst hw4
                  rw [hb114, hra, show (none : Option Int).getD (-1) = -1 from rfl]
                  go_wp2_with fail
                  have hz := (row_setR (row_setR (row_setR (row_setR hrs3 0 (.int .u8 0)) 1 (.int .u8 0)) 2 (.int .u8 0)) 3 (.int .i32 0))
                  have hz2 := heap_oldT (o := .cells #[.int .i64 (Isa.fm n.op true).n, .bool true, .bool true, .int .i64 kf, .bool (decide ((Isa.fm n.op true).s = 1))] 91) hz
                  have q0 := (cell_of_row _ _ 0 _ _ _ hz2).trans rfl
                  have q1 := (cell_of_row _ _ 1 _ _ _ hz2).trans rfl
                  have q2 := (cell_of_row _ _ 2 _ _ _ hz2).trans rfl
                  have q3 := (cell_of_row _ _ 3 _ _ _ hz2).trans rfl
                  refine bodyPost_ret (v := .tuple #[.agg #[.int .u8 0, .int .u8 0, .int .u8 0, .int .i32 0], .int .i64 40]) (by simp [results, Tryz.results82, go_sem, q0, q1, q2, q3]) rfl ⟨rfl, ?_⟩
                  first
                    | exact ((((((hBw.trans (hB3.mono (by omega))).setCell (p := ⟨w.heap.size, 0, none⟩) (Nat.le_refl _) _).setCell (p := ⟨w.heap.size, 1, none⟩) (Nat.le_refl _) _).setCell (p := ⟨w.heap.size, 2, none⟩) (Nat.le_refl _) _).setCell (p := ⟨w.heap.size, 3, none⟩) (Nat.le_refl _) _).alloc (Nat.le_of_lt (heap_ltA hz)) _)
                    | exact (((((((hBw.trans (hB3.mono (by omega))).setCell (p := ⟨w.heap.size, 0, none⟩) (Nat.le_refl _) _).setCell (p := ⟨w.heap.size, 1, none⟩) (Nat.le_refl _) _).setCell (p := ⟨w.heap.size, 2, none⟩) (Nat.le_refl _) _).setCell (p := ⟨w.heap.size, 3, none⟩) (Nat.le_refl _) _).alloc (Nat.le_of_lt (heap_ltA hz)) _)).drew
                | some va =>
                  rw [hra] at hRO
                  simp only at hRO
                  obtain ⟨va0, va1⟩ := hr1 va hra
                  have hwa : IntKind.u8.wrap va = va := IntWalk.u8_in _ (by omega)
                  have nva : ¬ va < 0 := by omega
                  have hcb : ((UInt8.ofNat n.b.toNat).toNat : Int) = n.b := by rw [UInt8.toNat_ofNat']; rcases hBl with h | h; exact absurd h cb; rw [h]; split; rfl; split <;> rfl
                  have hsc := Lib.hid (fun (W : World) => (HSc.out n.op op0 op1 W).mono (fun e w' h => (show e = .returned (.string ⟨#[UInt8.ofNat n.b.toNat]⟩) ∧ w' = W from ⟨by rw [h.1, hb1]; split; rfl; split <;> rfl, h.2.symm⟩)))
                  obtain ⟨x2, hx2, hd2⟩ : ∃ x, ws[2]? = some x ∧ ws.getD 2 [] = x := ⟨_, List.getElem?_eq_getElem (by omega), by simp [List.getD, List.getElem?_eq_getElem (show 2 < ws.length by omega)]⟩
                  have y2 := (hB31.cell (p := ⟨g, 2, none⟩) hg).trans (HC.out 2 x2 hx2)
                  have i2_ : (2 : Int) < (ws.length : Int) := by omega
                  have l2 := HLL.out x2 (List.mem_of_getElem? hx2)
                  have hB0 : oB n ws = regF x2 n.b := by unfold oB; rw [if_neg cb, if_neg ca, hd2]
                  rw [hB0] at hRO
                  have hr2 := fun v (h : regF x2 n.b = some v) => (reg_read h).2
                  go_wp2_with fail
                  refine (HRg.out x1 l1 114 _).mono ?_
                  rintro e w4 ⟨rfl, hw4⟩
                  have hw4 := hw4.symm
                  subst hw4
                  rw [hb114, hra, show (some va : Option Int).getD (-1) = va from rfl]
                  generalize hcbg : UInt8.ofNat n.b.toNat = cbl at hcb hsc
                  cases hrb : regF x2 n.b with
                  | none =>
                    rw [hrb] at hRO
                    obtain rfl : RR = readV (.error 40) := hRO.symm
                    have hq : (regF x2 (cbl.toNat : Int)).getD (-1) = -1 := by rw [hcb, hrb]; rfl
                    have hrq := Lib.hid (fun (W : World) => (HRg.out x2 l2 cbl W).mono (fun e w' h => (show e = .returned (.int .i64 (-1)) ∧ w' = W from ⟨by rw [h.1, hq], h.2⟩)))
                    clear HR HRD2 h4k hwd hRO hra hrb
                    go_wp2_with fail
                    refine wp_region_held_drew (S := fun w' => w'.cell? ⟨g, 2, none⟩ = some (.string ⟨x2.toArray⟩) ∧ w'.cell? ⟨wr.heap.size, 0, none⟩ = some (.int .u8 n.op)) (by kernel_rfl) (by refine ⟨?_, ?_⟩ <;> go_simp) (fun hHeld => ?_)
                    refine wpAnyH_take (i := 0) (oi := ⟨some 75, Op.move (Operand.tmp 4), _, _, _, none⟩) (v := .slice (some ⟨g, 0, none⟩) ws.length cap) rfl (by kernel_rfl) (by kernel_rfl) (by kernel_rfl) (fun _ _ _ h => h) (Or.inl ⟨by rfl, ?_⟩) hHeld ?_
                    · intro w' hSw
                      skip
                      go_simp
                    try simp only [Act.put, List.setIfInBounds_toArray, List.set_cons_zero, List.set_cons_succ]
                    refine wpAnyH_take (i := 1) (oi := ⟨some 76, Op.indexAddr _ (Operand.tmp 75) (Operand.const (Value.int IntKind.i64 2)), _, _, _, none⟩) (v := .pointer (some ⟨g, 2, none⟩)) rfl (by kernel_rfl) (by kernel_rfl) (by kernel_rfl) (fun _ _ _ h => h) (Or.inl ⟨by rfl, ?_⟩) hHeld ?_
                    · intro w' hSw
                      skip
                      go_simp
                    try simp only [Act.put, List.setIfInBounds_toArray, List.set_cons_zero, List.set_cons_succ]
                    refine wpAnyH_take (i := 2) (oi := ⟨some 77, Op.load _ (Operand.tmp 76), _, _, _, none⟩) (v := .string ⟨x2.toArray⟩) rfl (by kernel_rfl) (by kernel_rfl) (by kernel_rfl) (fun _ _ _ h => h) (Or.inl ⟨by rfl, ?_⟩) hHeld ?_
                    · intro w' hSw
                      have k0 := hSw.1
                      go_simp
                    try simp only [Act.put, List.setIfInBounds_toArray, List.set_cons_zero, List.set_cons_succ]
                    refine wpAnyH_take (i := 3) (oi := ⟨some 78, Op.fieldAddr _ (Operand.tmp 7) 0, _, _, _, none⟩) (v := .pointer (some ⟨wr.heap.size, 0, none⟩)) rfl (by kernel_rfl) (by kernel_rfl) (by kernel_rfl) (fun _ _ _ h => h) (Or.inl ⟨by rfl, ?_⟩) hHeld ?_
                    · intro w' hSw
                      skip
                      go_simp
                    try simp only [Act.put, List.setIfInBounds_toArray, List.set_cons_zero, List.set_cons_succ]
                    refine wpAnyH_take (i := 4) (oi := ⟨some 79, Op.load _ (Operand.tmp 78), _, _, _, none⟩) (v := .int .u8 n.op) rfl (by kernel_rfl) (by kernel_rfl) (by kernel_rfl) (fun _ _ _ h => h) (Or.inl ⟨by rfl, ?_⟩) hHeld ?_
                    · intro w' hSw
                      have k0 := hSw.2
                      go_simp
                    try simp only [Act.put, List.setIfInBounds_toArray, List.set_cons_zero, List.set_cons_succ]
                    refine wpAnyH_ready (rs := [5]) (by kernel_rfl) (by simp) ?_
                    refine AllReadyH.cons (o := ⟨some 80, Op.call { callee := Callee.value (Operand.func _), args := #[Operand.tmp 79], argTypes := _ }, _, _, _, none⟩) rfl (fun K hK => ?_) AllReadyH.nil
                    go_simp
                    go_at_call 98
                    refine (hsc.out _).mono ?_
                    rintro e w7 ⟨rfl, hw7⟩
                    refine hK.out _ _ (by rw [hw7]; exact hHeld) (fun hHeld => ?_)
                    clear hK K
                    subst hw7
                    try simp only [Act.put, List.setIfInBounds_toArray, List.set_cons_zero, List.set_cons_succ]
                    refine wpAnyH_ready (rs := [6]) (by kernel_rfl) (by simp) ?_
                    refine AllReadyH.cons (o := ⟨some 81, Op.call { callee := Callee.value (Operand.func _), args := #[Operand.tmp 77, Operand.tmp 80], argTypes := _ }, _, _, _, none⟩) rfl (fun K hK => ?_) AllReadyH.nil
                    go_simp
                    go_at_call 97
                    refine (hrq.out _).mono ?_
                    rintro e w7 ⟨rfl, hw7⟩
                    refine hK.out _ _ (by rw [hw7]; exact hHeld) (fun hHeld => ?_)
                    clear hK K
                    subst hw7
                    try simp only [Act.put, List.setIfInBounds_toArray, List.set_cons_zero, List.set_cons_succ]
                    refine wpAnyH_take (i := 7) (oi := ⟨some 11, Op.assign (Operand.tmp 81), _, _, _, none⟩) (v := .int .i64 (-1)) rfl (by kernel_rfl) (by kernel_rfl) (by kernel_rfl) (fun _ _ _ h => h) (Or.inl ⟨by rfl, ?_⟩) hHeld ?_
                    · intro w' hSw
                      skip
                      go_simp
                    try simp only [Act.put, List.setIfInBounds_toArray, List.set_cons_zero, List.set_cons_succ]
                    refine wpAnyH_done (by kernel_rfl) ?_ _
                    go_wp2_with fail
                    have hz := (row_setR (row_setR (row_setR (row_setR (row_setOR hrs3 (c := wr.heap.size) (by omega) 1 (.int .u8 va)) 0 (.int .u8 0)) 1 (.int .u8 0)) 2 (.int .u8 0)) 3 (.int .i32 0))
                    have hz2 := heap_oldT (o := .cells #[.int .i64 (Isa.fm n.op true).n, .bool true, .bool true, .int .i64 kf, .bool (decide ((Isa.fm n.op true).s = 1))] 91) hz
                    have q0 := (cell_of_row _ _ 0 _ _ _ hz2).trans rfl
                    have q1 := (cell_of_row _ _ 1 _ _ _ hz2).trans rfl
                    have q2 := (cell_of_row _ _ 2 _ _ _ hz2).trans rfl
                    have q3 := (cell_of_row _ _ 3 _ _ _ hz2).trans rfl
                    refine bodyPost_ret (v := .tuple #[.agg #[.int .u8 0, .int .u8 0, .int .u8 0, .int .i32 0], .int .i64 40]) (by simp [results, Tryz.results82, go_sem, q0, q1, q2, q3]) rfl ⟨rfl, ?_⟩
                    first
                      | exact (((((((hBw.trans (hB3.mono (by omega))).setCell (p := ⟨wr.heap.size, 1, none⟩) (by show w.heap.size ≤ wr.heap.size; omega) _).setCell (p := ⟨w.heap.size, 0, none⟩) (Nat.le_refl _) _).setCell (p := ⟨w.heap.size, 1, none⟩) (Nat.le_refl _) _).setCell (p := ⟨w.heap.size, 2, none⟩) (Nat.le_refl _) _).setCell (p := ⟨w.heap.size, 3, none⟩) (Nat.le_refl _) _).alloc (Nat.le_of_lt (heap_ltA hz)) _)
                      | exact ((((((((hBw.trans (hB3.mono (by omega))).setCell (p := ⟨wr.heap.size, 1, none⟩) (by show w.heap.size ≤ wr.heap.size; omega) _).setCell (p := ⟨w.heap.size, 0, none⟩) (Nat.le_refl _) _).setCell (p := ⟨w.heap.size, 1, none⟩) (Nat.le_refl _) _).setCell (p := ⟨w.heap.size, 2, none⟩) (Nat.le_refl _) _).setCell (p := ⟨w.heap.size, 3, none⟩) (Nat.le_refl _) _).alloc (Nat.le_of_lt (heap_ltA hz)) _)).drew
                  | some vb =>
                    rw [hrb] at hRO
                    simp only at hRO
                    obtain ⟨vb0, vb1⟩ := hr2 vb hrb
                    have hwb : IntKind.u8.wrap vb = vb := IntWalk.u8_in _ (by omega)
                    have nvb : ¬ vb < 0 := by omega
                    have hq : (regF x2 (cbl.toNat : Int)).getD (-1) = vb := by rw [hcb, hrb]; rfl
                    have hrq := Lib.hid (fun (W : World) => (HRg.out x2 l2 cbl W).mono (fun e w' h => (show e = .returned (.int .i64 vb) ∧ w' = W from ⟨by rw [h.1, hq], h.2⟩)))
                    go_wp2_with fail
                    refine wp_region_held_drew (S := fun w' => w'.cell? ⟨g, 2, none⟩ = some (.string ⟨x2.toArray⟩) ∧ w'.cell? ⟨wr.heap.size, 0, none⟩ = some (.int .u8 n.op)) (by kernel_rfl) (by refine ⟨?_, ?_⟩ <;> go_simp) (fun hHeld => ?_)
                    refine wpAnyH_take (i := 0) (oi := ⟨some 75, Op.move (Operand.tmp 4), _, _, _, none⟩) (v := .slice (some ⟨g, 0, none⟩) ws.length cap) rfl (by kernel_rfl) (by kernel_rfl) (by kernel_rfl) (fun _ _ _ h => h) (Or.inl ⟨by rfl, ?_⟩) hHeld ?_
                    · intro w' hSw
                      skip
                      go_simp
                    try simp only [Act.put, List.setIfInBounds_toArray, List.set_cons_zero, List.set_cons_succ]
                    refine wpAnyH_take (i := 1) (oi := ⟨some 76, Op.indexAddr _ (Operand.tmp 75) (Operand.const (Value.int IntKind.i64 2)), _, _, _, none⟩) (v := .pointer (some ⟨g, 2, none⟩)) rfl (by kernel_rfl) (by kernel_rfl) (by kernel_rfl) (fun _ _ _ h => h) (Or.inl ⟨by rfl, ?_⟩) hHeld ?_
                    · intro w' hSw
                      skip
                      go_simp
                    try simp only [Act.put, List.setIfInBounds_toArray, List.set_cons_zero, List.set_cons_succ]
                    refine wpAnyH_take (i := 2) (oi := ⟨some 77, Op.load _ (Operand.tmp 76), _, _, _, none⟩) (v := .string ⟨x2.toArray⟩) rfl (by kernel_rfl) (by kernel_rfl) (by kernel_rfl) (fun _ _ _ h => h) (Or.inl ⟨by rfl, ?_⟩) hHeld ?_
                    · intro w' hSw
                      have k0 := hSw.1
                      go_simp
                    try simp only [Act.put, List.setIfInBounds_toArray, List.set_cons_zero, List.set_cons_succ]
                    refine wpAnyH_take (i := 3) (oi := ⟨some 78, Op.fieldAddr _ (Operand.tmp 7) 0, _, _, _, none⟩) (v := .pointer (some ⟨wr.heap.size, 0, none⟩)) rfl (by kernel_rfl) (by kernel_rfl) (by kernel_rfl) (fun _ _ _ h => h) (Or.inl ⟨by rfl, ?_⟩) hHeld ?_
                    · intro w' hSw
                      skip
                      go_simp
                    try simp only [Act.put, List.setIfInBounds_toArray, List.set_cons_zero, List.set_cons_succ]
                    refine wpAnyH_take (i := 4) (oi := ⟨some 79, Op.load _ (Operand.tmp 78), _, _, _, none⟩) (v := .int .u8 n.op) rfl (by kernel_rfl) (by kernel_rfl) (by kernel_rfl) (fun _ _ _ h => h) (Or.inl ⟨by rfl, ?_⟩) hHeld ?_
                    · intro w' hSw
                      have k0 := hSw.2
                      go_simp
                    try simp only [Act.put, List.setIfInBounds_toArray, List.set_cons_zero, List.set_cons_succ]
                    refine wpAnyH_ready (rs := [5]) (by kernel_rfl) (by simp) ?_
                    refine AllReadyH.cons (o := ⟨some 80, Op.call { callee := Callee.value (Operand.func _), args := #[Operand.tmp 79], argTypes := _ }, _, _, _, none⟩) rfl (fun K hK => ?_) AllReadyH.nil
                    go_simp
                    go_at_call 98
                    refine (hsc.out _).mono ?_
                    rintro e w7 ⟨rfl, hw7⟩
                    refine hK.out _ _ (by rw [hw7]; exact hHeld) (fun hHeld => ?_)
                    clear hK K
                    subst hw7
                    try simp only [Act.put, List.setIfInBounds_toArray, List.set_cons_zero, List.set_cons_succ]
                    refine wpAnyH_ready (rs := [6]) (by kernel_rfl) (by simp) ?_
                    refine AllReadyH.cons (o := ⟨some 81, Op.call { callee := Callee.value (Operand.func _), args := #[Operand.tmp 77, Operand.tmp 80], argTypes := _ }, _, _, _, none⟩) rfl (fun K hK => ?_) AllReadyH.nil
                    go_simp
                    go_at_call 97
                    refine (hrq.out _).mono ?_
                    rintro e w7 ⟨rfl, hw7⟩
                    refine hK.out _ _ (by rw [hw7]; exact hHeld) (fun hHeld => ?_)
                    clear hK K
                    subst hw7
                    try simp only [Act.put, List.setIfInBounds_toArray, List.set_cons_zero, List.set_cons_succ]
                    refine wpAnyH_take (i := 7) (oi := ⟨some 11, Op.assign (Operand.tmp 81), _, _, _, none⟩) (v := .int .i64 (vb)) rfl (by kernel_rfl) (by kernel_rfl) (by kernel_rfl) (fun _ _ _ h => h) (Or.inl ⟨by rfl, ?_⟩) hHeld ?_
                    · intro w' hSw
                      skip
                      go_simp
                    try simp only [Act.put, List.setIfInBounds_toArray, List.set_cons_zero, List.set_cons_succ]
                    refine wpAnyH_done (by kernel_rfl) ?_ _
                    rw [ci, if_neg Bool.false_ne_true] at hRO
                    obtain rfl : RR = readV (.ok (n.op, va, vb, 0)) := hRO.symm
                    clear HR HRD2 h4k hwd hRO
                    go_wp2_with fail
                    have hz := (row_setR (row_setR (row_setR (row_setR (row_setOR (row_setOR hrs3 (c := wr.heap.size) (by omega) 1 (.int .u8 va)) (c := wr.heap.size) (by omega) 2 (.int .u8 vb)) 0 (.int .u8 n.op)) 1 (.int .u8 va)) 2 (.int .u8 vb)) 3 (.int .i32 0))
                    have hz2 := heap_oldT (o := .cells #[.int .i64 (Isa.fm n.op true).n, .bool true, .bool true, .int .i64 kf, .bool (decide ((Isa.fm n.op true).s = 1))] 91) hz
                    have q0 := (cell_of_row _ _ 0 _ _ _ hz2).trans rfl
                    have q1 := (cell_of_row _ _ 1 _ _ _ hz2).trans rfl
                    have q2 := (cell_of_row _ _ 2 _ _ _ hz2).trans rfl
                    have q3 := (cell_of_row _ _ 3 _ _ _ hz2).trans rfl
                    refine bodyPost_ret (v := .tuple #[.agg #[.int .u8 n.op, .int .u8 va, .int .u8 vb, .int .i32 0], .int .i64 0]) (by simp [results, Tryz.results82, go_sem, q0, q1, q2, q3]) rfl ⟨rfl, ?_⟩
                    first
                      | exact ((((((((hBw.trans (hB3.mono (by omega))).setCell (p := ⟨wr.heap.size, 1, none⟩) (by show w.heap.size ≤ wr.heap.size; omega) _).setCell (p := ⟨wr.heap.size, 2, none⟩) (by show w.heap.size ≤ wr.heap.size; omega) _).setCell (p := ⟨w.heap.size, 0, none⟩) (Nat.le_refl _) _).setCell (p := ⟨w.heap.size, 1, none⟩) (Nat.le_refl _) _).setCell (p := ⟨w.heap.size, 2, none⟩) (Nat.le_refl _) _).setCell (p := ⟨w.heap.size, 3, none⟩) (Nat.le_refl _) _).alloc (Nat.le_of_lt (heap_ltA hz)) _)
                      | exact (((((((((hBw.trans (hB3.mono (by omega))).setCell (p := ⟨wr.heap.size, 1, none⟩) (by show w.heap.size ≤ wr.heap.size; omega) _).setCell (p := ⟨wr.heap.size, 2, none⟩) (by show w.heap.size ≤ wr.heap.size; omega) _).setCell (p := ⟨w.heap.size, 0, none⟩) (Nat.le_refl _) _).setCell (p := ⟨w.heap.size, 1, none⟩) (Nat.le_refl _) _).setCell (p := ⟨w.heap.size, 2, none⟩) (Nat.le_refl _) _).setCell (p := ⟨w.heap.size, 3, none⟩) (Nat.le_refl _) _).alloc (Nat.le_of_lt (heap_ltA hz)) _)).drew
              · obtain rfl : RR = readV (.error 40) := by
                  rw [← HR.out, HRD2.out, read_badR (show ws.length ≠ n.want by omega)]
                  split <;> rfl
                have el : ((ws.length : Int) != 3) = true := by simp; omega
                clear HR HRD2 h4k hwd
                go_wp2_with fail
                have hz := (row_setR (row_setR (row_setR (row_setR hrs3 0 (.int .u8 0)) 1 (.int .u8 0)) 2 (.int .u8 0)) 3 (.int .i32 0))
                have hz2 := heap_oldT (o := .cells #[.int .i64 (Isa.fm n.op true).n, .bool true, .bool true, .int .i64 kf, .bool (decide ((Isa.fm n.op true).s = 1))] 91) hz
                have q0 := (cell_of_row _ _ 0 _ _ _ hz2).trans rfl
                have q1 := (cell_of_row _ _ 1 _ _ _ hz2).trans rfl
                have q2 := (cell_of_row _ _ 2 _ _ _ hz2).trans rfl
                have q3 := (cell_of_row _ _ 3 _ _ _ hz2).trans rfl
                refine bodyPost_ret (v := .tuple #[.agg #[.int .u8 0, .int .u8 0, .int .u8 0, .int .i32 0], .int .i64 40]) (by simp [results, Tryz.results82, go_sem, q0, q1, q2, q3]) rfl ⟨rfl, ?_⟩
                first
                  | exact ((((((hBw.trans (hB3.mono (by omega))).setCell (p := ⟨w.heap.size, 0, none⟩) (Nat.le_refl _) _).setCell (p := ⟨w.heap.size, 1, none⟩) (Nat.le_refl _) _).setCell (p := ⟨w.heap.size, 2, none⟩) (Nat.le_refl _) _).setCell (p := ⟨w.heap.size, 3, none⟩) (Nat.le_refl _) _).alloc (Nat.le_of_lt (heap_ltA hz)) _)
                  | exact (((((((hBw.trans (hB3.mono (by omega))).setCell (p := ⟨w.heap.size, 0, none⟩) (Nat.le_refl _) _).setCell (p := ⟨w.heap.size, 1, none⟩) (Nat.le_refl _) _).setCell (p := ⟨w.heap.size, 2, none⟩) (Nat.le_refl _) _).setCell (p := ⟨w.heap.size, 3, none⟩) (Nat.le_refl _) _).alloc (Nat.le_of_lt (heap_ltA hz)) _)).drew
            · exact (HNQ.out ca cb ci).elim
end Go.Proofs.YtgfljokamgbcaaaGreatDoor
