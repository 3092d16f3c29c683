/- The walk of TrapAsked. (Written by mkTR.py.) -/
import Derived.Test.YtgaffakhmghbdaaTrapR
namespace Go.Proofs.Ytgaffakhmghbdaa
open Go.RowKit
set_option linter.unusedSimpArgs false
set_option linter.unusedVariables false
set_option maxRecDepth 100000

def zeroT : Array Value := stA (fun _ => 0) 0 0 (fun _ => 0) false
/-- The blocks of the state and of the fault. -/
structure TaS (w : World) (A F : Array Value) (w' : World) : Prop where
  a : w'.heap[w.heap.size]? = some (.cells A 28 (0, 0))
  f : w'.heap[w.heap.size + 1]? = some (.cells F 30 (0, 0))
  below : Below w.heap.size w w'
  size : w.heap.size + 1 < w'.heap.size
theorem TaS.next {w w1 w2 : World} {A F : Array Value} (h : TaS w A F w1) (hb : Below w1.heap.size w1 w2) : TaS w A F w2 :=
  have hs := h.size
  ⟨(hb.block _ (by omega)).trans h.a, (hb.block _ (by omega)).trans h.f, h.below.trans (hb.mono (by omega)), Nat.lt_of_lt_of_le h.size hb.size⟩
theorem TaS.drew {w w1 : World} {A F : Array Value} (h : TaS w A F w1) : TaS w A F w1.drew := ⟨h.a, h.f, h.below.drew, h.size⟩
theorem TaS.set {w w1 : World} {A F : Array Value} (h : TaS w A F w1) (b : Nat) (c : Array Value) (hb : w.heap.size + 1 < b) : TaS w A F (w1.setRow b c) :=
  ⟨(setRow_other _ _ _ _ (by omega)).trans h.a, (setRow_other _ _ _ _ (by omega)).trans h.f, ⟨h.below.os, h.below.tape, h.below.output, by simpa [World.setRow] using h.below.size, fun j hj => (setRow_other _ _ _ _ (by omega)).trans (h.below.block j hj)⟩, by simpa [World.setRow] using h.size⟩
theorem yields_stT {ops : Array Oper} {Sp : World → Prop} {op : Oper} {a : Act} (hw : Region.wanted op (yielded ops a.tmps) = true) (x : Operand) (ho : op.op = .load 28 x)
    (b : Nat) (hx : a.eval x = .pointer (some ⟨b, 0, none⟩)) (cs : Array Value) (hs : cs.size = 19) (hS : ∀ w, Sp w → w.heap[b]? = some (.cells cs 28 (0, 0))) : YieldsIf Try.prog ops Sp op (.agg cs) a :=
  .inl ⟨hw, fun w hw' => by
    unfold execOp
    simp only [ho, Instr.loadAt, Instr.sureAddr, hx, Sem.run_bind, Sem.run_pure, Result.andThen_ok, run_loadVar_row w b 28 28 cs (0, 0) _ (hS w hw') Try.underlying28 rfl (by rw [hs]; kernel_rfl)]⟩

set_option maxHeartbeats 8000000 in
theorem asked_in (r : Nat → Int) (pc ps : Int) (cr : Nat → Int) (h : Bool) (n : Int) (w : World) (g0 : 0 ≤ pc) (g1 : pc < 4294967296) (g2 : 0 ≤ ps) (g3 : ps < 4294967296) (hr : InT r) (hc : InT cr) (n0 : 0 ≤ n) (n1 : n < 256) :
    Calls Try.prog 8 #[.agg (stA r pc ps cr h), .int .u8 n] w fun e w' => e = .returned (.bool true) ∧ Below w.heap.size w w' := by
  obtain ⟨back, hbk, hbk', b0, b1⟩ : ∃ back, IntKind.u32.wrap (pc + 2) = back ∧ backN pc 8 = back ∧ 0 ≤ back ∧ back < 4294967296 := ⟨_, rfl, by rw [IntKind.wrap_u32]; rfl, by rw [IntKind.wrap_u32]; omega, by rw [IntKind.wrap_u32]; omega⟩
  obtain ⟨q0, q1, q2⟩ := and247 g2 g3
  obtain ⟨p1, hp1⟩ : ∃ p1, bits .and .u32 ps 247 = p1 := ⟨_, rfl⟩
  rw [hp1] at q0 q1 q2
  obtain ⟨cr2, hcr2⟩ : ∃ cr2, cr2 = fn8t (cr 0) (cr 1) back p1 (8) n (cr 6) (cr 7) := ⟨_, rfl⟩
  have hc2 : InT cr2 := by rw [hcr2]; exact fn8t_in (hc 0) (hc 1) ⟨b0, b1⟩ ⟨q0, by omega⟩ ⟨by omega, by omega⟩ ⟨n0, by omega⟩ (hc 6) (hc 7)
  have e2 : cr2 2 = back := by rw [hcr2]; rfl
  have e3 : cr2 3 = p1 := by rw [hcr2]; rfl
  have E4 : Hid (cr2 4 = 8) := Lib.hid (by rw [hcr2]; rfl)
  have E5 : Hid (cr2 5 = n) := Lib.hid (by rw [hcr2]; rfl)
  have hE : ∀ w, Calls Try.prog 12 #[.agg (stA r pc p1 cr h), .agg #[.int .i64 8, .int .u32 n], .int .u32 back] w fun e w' => e = .returned (.agg (stA r (cr 1) (p1 - p1 % 2 - p1 / 2 % 2 * 2) cr2 h)) ∧ Below w.heap.size w w' := by
    rw [hcr2]
    exact fun w => enter_c (r 0) (r 1) (r 2) (r 3) (r 4) (r 5) (r 6) (r 7) pc p1 (cr 0) (cr 1) (cr 2) (cr 3) (cr 4) (cr 5) (cr 6) (cr 7) h 8 n back w q0 (by omega) (wf_u32 q0 (by omega)) (wf_u32 b0 b1) (wf_u32 n0 (by omega)) (wf_u32 (hc 2).1 (hc 2).2) (wf_u32 (hc 3).1 (hc 3).2) (wf_u32 (hc 4).1 (hc 4).2) (wf_u32 (hc 5).1 (hc 5).2)
  have hK : ∀ w, Calls Try.prog 14 #[.agg (stA r pc p1 cr h), .agg #[.int .i64 8, .int .u32 n]] w fun e w' => e = .returned (.int .u32 back) ∧ Below w.heap.size w w' := by
    have := fun w => back_c (r 0) (r 1) (r 2) (r 3) (r 4) (r 5) (r 6) (r 7) pc p1 (cr 0) (cr 1) (cr 2) (cr 3) (cr 4) (cr 5) (cr 6) (cr 7) h 8 n w
    rw [hbk'] at this
    exact this
  have hD := fun w => do_c ⟨r, cr 1, p1 - p1 % 2 - p1 / 2 % 2 * 2, cr2, h, 2, 0, 0, 0, 0, 0, false, false, 0, 0, false⟩ ⟨⟨rfl, rfl, rfl, rfl, rfl⟩, (ring0 q0 (by omega)).symm, show (0 : Int) ≤ 2 by decide, show (2 : Int) < 256 by decide, show (0 : Int) ≤ 0 by decide, show (0 : Int) < 256 by decide, show (0 : Int) ≤ 0 by decide, show (0 : Int) < 256 by decide, show (-2147483648 : Int) ≤ 0 by decide, show (0 : Int) < 2147483648 by decide, (hc 1).1, (hc 1).2, hc2⟩ w
  rw [iret_t, e2, e3, q2, show ((back - 1) % 4294967296 + 1) % 4294967296 = back by omega] at hD
  unfold DX.st Isa.insV at hD
  simp only at hD
  have HS9 := Lib.hid (stA_set9t r pc ps cr h p1)
  have a9 : (stA r pc ps cr h)[9]? = some (.int .u32 ps) := rfl
  have KA := Lib.hid (stT r pc p1 cr h)
  have KT := Lib.hid (stT r (cr 1) (p1 - p1 % 2 - p1 / 2 % 2 * 2) cr2 h)
  have KU := Lib.hid (stT r back p1 cr2 h)
  have HW := Lib.hid works_c
  have eR := eq8t r hr
  have eC := eq8t cr2 hc2
  generalize p1 - p1 % 2 - p1 / 2 % 2 * 2 = p2 at hE hD KT
  generalize stA r pc ps cr h = A at HS9 a9 ⊢
  generalize stA r pc p1 cr h = A1 at KA HS9 hE hK
  generalize stA r (cr 1) p2 cr2 h = T at KT hE hD
  generalize stA r back p1 cr2 h = U at KU hD
  have HD := Lib.hid hD
  have HE := Lib.hid hE
  have HK := Lib.hid hK
  have HP := Lib.hid hp1
  clear hK hbk' hD hE hp1 hc hr hc2 hcr2 e2 e3 q2
  go_enter Try.func8, Try.ntmps8
  go_wp2_with fail
  refine wp_region_held_drew (S := fun w' => TaS w A1 #[.int .i64 8, .int .u32 n] w') (by kernel_rfl) (by
    rw [HP.out, HS9.out]
    exact ⟨heap_drew' (heap_old' (heap_new' rfl)), heap_drew' (heap_new' (by simp)), ((below_alloc1 w _).alloc (by simp) _).drew, by simp⟩) (fun hHeld => ?_)
  clear a9
  have zA := KA.out.size
  refine wpAnyH_take (i := 0) (oi := { dst := some 16, op := Op.load _ (Operand.tmp 2), type := _, pos := "law.go:47", after := #[], guard := none }) (v := .agg A1) rfl (by kernel_rfl) (by kernel_rfl) (by kernel_rfl) (fun _ _ _ h => h) (yields_stT (by rfl) _ rfl w.heap.size rfl A1 zA (fun w' h => h.a)) hHeld ?_
  try simp only [Act.put, List.setIfInBounds_toArray, List.set_cons_zero, List.set_cons_succ]
  refine wpAnyH_take (i := 1) (oi := { dst := some 17, op := Op.load _ (Operand.tmp 5), type := _, pos := "law.go:47", after := #[], guard := none }) (v := .agg #[.int .i64 8, .int .u32 n]) rfl (by kernel_rfl) (by kernel_rfl) (by kernel_rfl) (fun _ _ _ h => h) (Or.inl ⟨by rfl, ?_⟩) hHeld ?_
  · intro w' hSw
    have k0 : w'.cell? ⟨w.heap.size + 1, 0, none⟩ = some (.int .i64 8) := (cell_of_row w' _ 0 _ _ _ hSw.f).trans rfl
    have k1 : w'.cell? ⟨w.heap.size + 1, 1, none⟩ = some (.int .u32 n) := (cell_of_row w' _ 1 _ _ _ hSw.f).trans rfl
    go_simp
  try simp only [Act.put, List.setIfInBounds_toArray, List.set_cons_zero, List.set_cons_succ]
  refine wpAnyH_take (i := 2) (oi := { dst := some 18, op := Op.load _ (Operand.tmp 2), type := _, pos := "law.go:47", after := #[], guard := none }) (v := .agg A1) rfl (by kernel_rfl) (by kernel_rfl) (by kernel_rfl) (fun _ _ _ h => h) (yields_stT (by rfl) _ rfl w.heap.size rfl A1 zA (fun w' h => h.a)) hHeld ?_
  try simp only [Act.put, List.setIfInBounds_toArray, List.set_cons_zero, List.set_cons_succ]
  refine wpAnyH_take (i := 3) (oi := { dst := some 19, op := Op.load _ (Operand.tmp 5), type := _, pos := "law.go:47", after := #[], guard := none }) (v := .agg #[.int .i64 8, .int .u32 n]) rfl (by kernel_rfl) (by kernel_rfl) (by kernel_rfl) (fun _ _ _ h => h) (Or.inl ⟨by rfl, ?_⟩) hHeld ?_
  · intro w' hSw
    have k0 : w'.cell? ⟨w.heap.size + 1, 0, none⟩ = some (.int .i64 8) := (cell_of_row w' _ 0 _ _ _ hSw.f).trans rfl
    have k1 : w'.cell? ⟨w.heap.size + 1, 1, none⟩ = some (.int .u32 n) := (cell_of_row w' _ 1 _ _ _ hSw.f).trans rfl
    go_simp
  try simp only [Act.put, List.setIfInBounds_toArray, List.set_cons_zero, List.set_cons_succ]
  refine wpAnyH_ready (rs := [4, 6]) (by kernel_rfl) (by simp) ?_
  refine AllReadyH.cons (o := { dst := some 20, op := Op.call { callee := Callee.value (Operand.func _), args := #[Operand.tmp 18, Operand.tmp 19], argTypes := _ }, type := _, pos := "law.go:47", after := #[{ on := 2, ground := Ground.data }, { on := 3, ground := Ground.data }], guard := none }) rfl (fun K hK => ?_) (AllReadyH.cons (o := { dst := some 6, op := Op.alloc 28, type := _, pos := "law.go:47", after := #[], guard := none }) rfl (fun K hK => ?_) AllReadyH.nil)
  · skip
    go_simp
    go_at_call 14
    refine (HK.out _).mono ?_
    rintro e w4 ⟨rfl, hb4⟩
    refine hK.out _ _ (hHeld.next hb4) (fun hHeld => ?_)
    clear hK K hb4
    try simp only [Act.put, List.setIfInBounds_toArray, List.set_cons_zero, List.set_cons_succ]
    refine wpAnyH_ready (rs := [5, 6]) (by kernel_rfl) (by simp) ?_
    refine AllReadyH.cons (o := { dst := some 21, op := Op.call { callee := Callee.value (Operand.func _), args := #[Operand.tmp 16, Operand.tmp 17, Operand.tmp 20], argTypes := _ }, type := _, pos := "law.go:47", after := #[{ on := 0, ground := Ground.data }, { on := 1, ground := Ground.data }, { on := 4, ground := Ground.data }, { on := 4, ground := Ground.chain }], guard := none }) rfl (fun K hK => ?_) (AllReadyH.cons (o := { dst := some 6, op := Op.alloc 28, type := _, pos := "law.go:47", after := #[], guard := none }) rfl (fun K hK => ?_) AllReadyH.nil)
    · skip
      go_simp
      go_at_call 12
      refine (HE.out _).mono ?_
      rintro e w5 ⟨rfl, hb5⟩
      refine hK.out _ _ (hHeld.next hb5) (fun hHeld => ?_)
      clear hK K hb5
      try simp only [Act.put, List.setIfInBounds_toArray, List.set_cons_zero, List.set_cons_succ]
      refine wpAnyH_ready (rs := [6]) (by kernel_rfl) (by simp) ?_
      refine AllReadyH.cons (o := { dst := some 6, op := Op.alloc 28, type := _, pos := "law.go:47", after := #[], guard := none }) rfl (fun K hK => ?_) AllReadyH.nil
      go_simp
      have hsz := hHeld.size
      have rZ : (w5.alloc (.cells #[.int .u32 0, .int .u32 0, .int .u32 0, .int .u32 0, .int .u32 0, .int .u32 0, .int .u32 0, .int .u32 0, .int .u32 0, .int .u32 0, .int .u32 0, .int .u32 0, .int .u32 0, .int .u32 0, .int .u32 0, .int .u32 0, .int .u32 0, .int .u32 0, .bool false] 28)).heap[w5.heap.size]? = some (.cells zeroT 28 (0, 0)) := heap_new' rfl
      refine hK.out _ _ (hHeld.next (below_alloc1 _ _)) (fun hHeld => ?_)
      clear hK K
      try simp only [Act.put, List.setIfInBounds_toArray, List.set_cons_zero, List.set_cons_succ]
      refine wpAnyH_ready (rs := [7]) (by kernel_rfl) (by simp) ?_
      refine AllReadyH.cons (o := { dst := none, op := Op.store _ (Operand.tmp 6) (Operand.tmp 21), type := _, pos := "law.go:47", after := #[{ on := 6, ground := Ground.data }, { on := 5, ground := Ground.data }, { on := 5, ground := Ground.chain }, { on := 0, ground := Ground.phase }, { on := 1, ground := Ground.phase }, { on := 2, ground := Ground.phase }, { on := 3, ground := Ground.phase }, { on := 4, ground := Ground.phase }, { on := 5, ground := Ground.phase }, { on := 6, ground := Ground.phase }], guard := none }) rfl (fun K hK => ?_) AllReadyH.nil
      rw [if_pos (by rfl)]
      refine wp_store_st 28 _ _ rfl (w5.heap.size) T rfl rfl 28 zeroT rZ (by rw [KT.out.size]; kernel_rfl) (by rw [KT.out.size]; rfl) KT.out.one ?_
      have rT := setRow_heap _ (w5.heap.size) zeroT T _ _ rZ
      refine hK.out _ _ (hHeld.set _ _ hsz) (fun hHeld => ?_)
      clear hK K rZ
      try simp only [Act.put, List.setIfInBounds_toArray, List.set_cons_zero, List.set_cons_succ]
      refine wpAnyH_done (by kernel_rfl) ?_ _
      generalize (w5.alloc (.cells #[.int .u32 0, .int .u32 0, .int .u32 0, .int .u32 0, .int .u32 0, .int .u32 0, .int .u32 0, .int .u32 0, .int .u32 0, .int .u32 0, .int .u32 0, .int .u32 0, .int .u32 0, .int .u32 0, .int .u32 0, .int .u32 0, .int .u32 0, .int .u32 0, .bool false] 28)).setRow w5.heap.size T = w6 at rT hHeld ⊢
      generalize w5.heap.size = b1 at rT hsz ⊢
      have HS := Lib.hid hHeld
      clear hHeld
      have ht : b1 < w6.heap.size := (Array.getElem?_eq_some_iff.1 rT).1
      have RT := Lib.hid rT
      have hs6 := HS.out.size
      clear rT
      go_wp2_with (first
          | (((with_reducible show wpList _ _ _ (Oper.mk _ (.load 28 _) _ _ _ _ :: _) _ _); refine wpList_load_row rfl 28 _ rfl _ rfl 28 _ (0, 0) _ (by exact RT.out) Try.underlying28 rfl (by rw [KT.out.size]; kernel_rfl) ?_))
        )
      refine (HD.out _).mono ?_
      rintro e w7 ⟨rfl, hb⟩
      have hs7 : b1 < w7.heap.size := Nat.lt_of_lt_of_le ht hb.size
      have hs8 : w.heap.size < w7.heap.size := by have := hb.size; omega
      have hB : Below w.heap.size w w7 := HS.out.below.trans (hb.mono (by omega))
      have rA : w7.heap[w.heap.size]? = some (.cells A1 28 (0, 0)) := (hb.block _ (by omega)).trans HS.out.a
      have rT : w7.heap[b1]? = some (.cells T 28 (0, 0)) := (hb.block _ ht).trans RT.out
      have m8 : w7.cell? ⟨w.heap.size, 8, none⟩ = some (.int .u32 pc) := (cell_of_row w7 _ 8 _ _ _ rA).trans KA.out.pc
      have n14 : w7.cell? ⟨b1, 14, none⟩ = some (.int .u32 8) := (cell_of_row w7 _ 14 _ _ _ rT).trans ((KT.out.C 4 (by decide)).trans (by rw [E4.out]))
      have n15 : w7.cell? ⟨b1, 15, none⟩ = some (.int .u32 n) := (cell_of_row w7 _ 15 _ _ _ rT).trans ((KT.out.C 5 (by decide)).trans (by rw [E5.out]))
      have u8 := KU.out.pc
      clear hb rA rT hs6
      go_wp2_with (first
          | (((with_reducible show wpList _ _ _ (Oper.mk _ (.store 28 _ _) _ _ _ _ :: _) _ _); refine wpList_store_at rfl 28 _ _ rfl rfl _ U rfl rfl 28 _ (by first | exact heap_new' rfl | exact heap_old' (heap_new' rfl)) (by rw [KU.out.size]; kernel_rfl) (by rw [KU.out.size]; rfl) KU.out.one _ (by first | exact setRow_new' _ _ _ _ _ rfl | (refine setRow_past _ (setRow_new' _ _ _ _ _ ?_) ?_ <;> simp; done)) ?_))
        )
      refine (HW.out _).mono ?_
      rintro e w9 ⟨rfl, rfl⟩
      go_wp2_with fail
      go_ret
      exact ⟨rfl, (hB.alloc (by omega) _).alloc (by simp; omega) _⟩
    · skip
      go_simp
      have hsz := hHeld.size
      have rZ : (w4.alloc (.cells #[.int .u32 0, .int .u32 0, .int .u32 0, .int .u32 0, .int .u32 0, .int .u32 0, .int .u32 0, .int .u32 0, .int .u32 0, .int .u32 0, .int .u32 0, .int .u32 0, .int .u32 0, .int .u32 0, .int .u32 0, .int .u32 0, .int .u32 0, .int .u32 0, .bool false] 28)).heap[w4.heap.size]? = some (.cells zeroT 28 (0, 0)) := heap_new' rfl
      refine hK.out _ _ (hHeld.next (below_alloc1 _ _)) (fun hHeld => ?_)
      clear hK K
      try simp only [Act.put, List.setIfInBounds_toArray, List.set_cons_zero, List.set_cons_succ]
      refine wpAnyH_ready (rs := [5]) (by kernel_rfl) (by simp) ?_
      refine AllReadyH.cons (o := { dst := some 21, op := Op.call { callee := Callee.value (Operand.func _), args := #[Operand.tmp 16, Operand.tmp 17, Operand.tmp 20], argTypes := _ }, type := _, pos := "law.go:47", after := #[{ on := 0, ground := Ground.data }, { on := 1, ground := Ground.data }, { on := 4, ground := Ground.data }, { on := 4, ground := Ground.chain }], guard := none }) rfl (fun K hK => ?_) AllReadyH.nil
      go_simp
      go_at_call 12
      refine (HE.out _).mono ?_
      rintro e w5 ⟨rfl, hb5⟩
      have rZ := (hb5.block _ (Array.getElem?_eq_some_iff.1 rZ).1).trans rZ
      refine hK.out _ _ (hHeld.next hb5) (fun hHeld => ?_)
      clear hK K hb5
      try simp only [Act.put, List.setIfInBounds_toArray, List.set_cons_zero, List.set_cons_succ]
      refine wpAnyH_ready (rs := [7]) (by kernel_rfl) (by simp) ?_
      refine AllReadyH.cons (o := { dst := none, op := Op.store _ (Operand.tmp 6) (Operand.tmp 21), type := _, pos := "law.go:47", after := #[{ on := 6, ground := Ground.data }, { on := 5, ground := Ground.data }, { on := 5, ground := Ground.chain }, { on := 0, ground := Ground.phase }, { on := 1, ground := Ground.phase }, { on := 2, ground := Ground.phase }, { on := 3, ground := Ground.phase }, { on := 4, ground := Ground.phase }, { on := 5, ground := Ground.phase }, { on := 6, ground := Ground.phase }], guard := none }) rfl (fun K hK => ?_) AllReadyH.nil
      rw [if_pos (by rfl)]
      refine wp_store_st 28 _ _ rfl (w4.heap.size) T rfl rfl 28 zeroT rZ (by rw [KT.out.size]; kernel_rfl) (by rw [KT.out.size]; rfl) KT.out.one ?_
      have rT := setRow_heap _ (w4.heap.size) zeroT T _ _ rZ
      refine hK.out _ _ (hHeld.set _ _ hsz) (fun hHeld => ?_)
      clear hK K rZ
      try simp only [Act.put, List.setIfInBounds_toArray, List.set_cons_zero, List.set_cons_succ]
      refine wpAnyH_done (by kernel_rfl) ?_ _
      generalize w5.setRow w4.heap.size T = w6 at rT hHeld ⊢
      generalize w4.heap.size = b1 at rT hsz ⊢
      have HS := Lib.hid hHeld
      clear hHeld
      have ht : b1 < w6.heap.size := (Array.getElem?_eq_some_iff.1 rT).1
      have RT := Lib.hid rT
      have hs6 := HS.out.size
      clear rT
      go_wp2_with (first
          | (((with_reducible show wpList _ _ _ (Oper.mk _ (.load 28 _) _ _ _ _ :: _) _ _); refine wpList_load_row rfl 28 _ rfl _ rfl 28 _ (0, 0) _ (by exact RT.out) Try.underlying28 rfl (by rw [KT.out.size]; kernel_rfl) ?_))
        )
      refine (HD.out _).mono ?_
      rintro e w7 ⟨rfl, hb⟩
      have hs7 : b1 < w7.heap.size := Nat.lt_of_lt_of_le ht hb.size
      have hs8 : w.heap.size < w7.heap.size := by have := hb.size; omega
      have hB : Below w.heap.size w w7 := HS.out.below.trans (hb.mono (by omega))
      have rA : w7.heap[w.heap.size]? = some (.cells A1 28 (0, 0)) := (hb.block _ (by omega)).trans HS.out.a
      have rT : w7.heap[b1]? = some (.cells T 28 (0, 0)) := (hb.block _ ht).trans RT.out
      have m8 : w7.cell? ⟨w.heap.size, 8, none⟩ = some (.int .u32 pc) := (cell_of_row w7 _ 8 _ _ _ rA).trans KA.out.pc
      have n14 : w7.cell? ⟨b1, 14, none⟩ = some (.int .u32 8) := (cell_of_row w7 _ 14 _ _ _ rT).trans ((KT.out.C 4 (by decide)).trans (by rw [E4.out]))
      have n15 : w7.cell? ⟨b1, 15, none⟩ = some (.int .u32 n) := (cell_of_row w7 _ 15 _ _ _ rT).trans ((KT.out.C 5 (by decide)).trans (by rw [E5.out]))
      have u8 := KU.out.pc
      clear hb rA rT hs6
      go_wp2_with (first
          | (((with_reducible show wpList _ _ _ (Oper.mk _ (.store 28 _ _) _ _ _ _ :: _) _ _); refine wpList_store_at rfl 28 _ _ rfl rfl _ U rfl rfl 28 _ (by first | exact heap_new' rfl | exact heap_old' (heap_new' rfl)) (by rw [KU.out.size]; kernel_rfl) (by rw [KU.out.size]; rfl) KU.out.one _ (by first | exact setRow_new' _ _ _ _ _ rfl | (refine setRow_past _ (setRow_new' _ _ _ _ _ ?_) ?_ <;> simp; done)) ?_))
        )
      refine (HW.out _).mono ?_
      rintro e w9 ⟨rfl, rfl⟩
      go_wp2_with fail
      go_ret
      exact ⟨rfl, (hB.alloc (by omega) _).alloc (by simp; omega) _⟩
  · skip
    go_simp
    rw [HP.out, HS9.out]
    have hsz : w.heap.size + 1 < w.heap.size + 1 + 1 := by omega
    have rZ : (((w.alloc (.cells A1 28)).alloc (.cells #[.int .i64 8, .int .u32 n] 30)).alloc (.cells zeroT 28)).drew.heap[w.heap.size + 1 + 1]? = some (.cells zeroT 28 (0, 0)) := heap_drew' (heap_new' (by simp))
    refine hK.out _ _ ⟨heap_drew' (heap_old' (heap_old' (heap_new' rfl))), heap_drew' (heap_old' (heap_new' (by simp))), (((below_alloc1 w _).alloc (by simp) _).alloc (by simp; omega) _).drew, by simp⟩ (fun hHeld => ?_)
    clear hK K
    try simp only [Act.put, List.setIfInBounds_toArray, List.set_cons_zero, List.set_cons_succ]
    refine wpAnyH_ready (rs := [4]) (by kernel_rfl) (by simp) ?_
    refine AllReadyH.cons (o := { dst := some 20, op := Op.call { callee := Callee.value (Operand.func _), args := #[Operand.tmp 18, Operand.tmp 19], argTypes := _ }, type := _, pos := "law.go:47", after := #[{ on := 2, ground := Ground.data }, { on := 3, ground := Ground.data }], guard := none }) rfl (fun K hK => ?_) AllReadyH.nil
    go_simp
    go_at_call 14
    refine (HK.out _).mono ?_
    rintro e w4 ⟨rfl, hb4⟩
    have rZ := (hb4.block _ (by simp)).trans rZ
    refine hK.out _ _ (hHeld.next hb4) (fun hHeld => ?_)
    clear hK K hb4
    try simp only [Act.put, List.setIfInBounds_toArray, List.set_cons_zero, List.set_cons_succ]
    refine wpAnyH_ready (rs := [5]) (by kernel_rfl) (by simp) ?_
    refine AllReadyH.cons (o := { dst := some 21, op := Op.call { callee := Callee.value (Operand.func _), args := #[Operand.tmp 16, Operand.tmp 17, Operand.tmp 20], argTypes := _ }, type := _, pos := "law.go:47", after := #[{ on := 0, ground := Ground.data }, { on := 1, ground := Ground.data }, { on := 4, ground := Ground.data }, { on := 4, ground := Ground.chain }], guard := none }) rfl (fun K hK => ?_) AllReadyH.nil
    go_simp
    go_at_call 12
    refine (HE.out _).mono ?_
    rintro e w5 ⟨rfl, hb5⟩
    have rZ := (hb5.block _ (Array.getElem?_eq_some_iff.1 rZ).1).trans rZ
    refine hK.out _ _ (hHeld.next hb5) (fun hHeld => ?_)
    clear hK K hb5
    try simp only [Act.put, List.setIfInBounds_toArray, List.set_cons_zero, List.set_cons_succ]
    refine wpAnyH_ready (rs := [7]) (by kernel_rfl) (by simp) ?_
    refine AllReadyH.cons (o := { dst := none, op := Op.store _ (Operand.tmp 6) (Operand.tmp 21), type := _, pos := "law.go:47", after := #[{ on := 6, ground := Ground.data }, { on := 5, ground := Ground.data }, { on := 5, ground := Ground.chain }, { on := 0, ground := Ground.phase }, { on := 1, ground := Ground.phase }, { on := 2, ground := Ground.phase }, { on := 3, ground := Ground.phase }, { on := 4, ground := Ground.phase }, { on := 5, ground := Ground.phase }, { on := 6, ground := Ground.phase }], guard := none }) rfl (fun K hK => ?_) AllReadyH.nil
    rw [if_pos (by rfl)]
    refine wp_store_st 28 _ _ rfl (w.heap.size + 1 + 1) T rfl rfl 28 zeroT rZ (by rw [KT.out.size]; kernel_rfl) (by rw [KT.out.size]; rfl) KT.out.one ?_
    have rT := setRow_heap _ (w.heap.size + 1 + 1) zeroT T _ _ rZ
    refine hK.out _ _ (hHeld.set _ _ hsz) (fun hHeld => ?_)
    clear hK K rZ
    try simp only [Act.put, List.setIfInBounds_toArray, List.set_cons_zero, List.set_cons_succ]
    refine wpAnyH_done (by kernel_rfl) ?_ _
    generalize w5.setRow (w.heap.size + 1 + 1) T = w6 at rT hHeld ⊢
    generalize w.heap.size + 1 + 1 = b1 at rT hsz ⊢
    have HS := Lib.hid hHeld
    clear hHeld
    have ht : b1 < w6.heap.size := (Array.getElem?_eq_some_iff.1 rT).1
    have RT := Lib.hid rT
    have hs6 := HS.out.size
    clear rT
    go_wp2_with (first
        | (((with_reducible show wpList _ _ _ (Oper.mk _ (.load 28 _) _ _ _ _ :: _) _ _); refine wpList_load_row rfl 28 _ rfl _ rfl 28 _ (0, 0) _ (by exact RT.out) Try.underlying28 rfl (by rw [KT.out.size]; kernel_rfl) ?_))
      )
    refine (HD.out _).mono ?_
    rintro e w7 ⟨rfl, hb⟩
    have hs7 : b1 < w7.heap.size := Nat.lt_of_lt_of_le ht hb.size
    have hs8 : w.heap.size < w7.heap.size := by have := hb.size; omega
    have hB : Below w.heap.size w w7 := HS.out.below.trans (hb.mono (by omega))
    have rA : w7.heap[w.heap.size]? = some (.cells A1 28 (0, 0)) := (hb.block _ (by omega)).trans HS.out.a
    have rT : w7.heap[b1]? = some (.cells T 28 (0, 0)) := (hb.block _ ht).trans RT.out
    have m8 : w7.cell? ⟨w.heap.size, 8, none⟩ = some (.int .u32 pc) := (cell_of_row w7 _ 8 _ _ _ rA).trans KA.out.pc
    have n14 : w7.cell? ⟨b1, 14, none⟩ = some (.int .u32 8) := (cell_of_row w7 _ 14 _ _ _ rT).trans ((KT.out.C 4 (by decide)).trans (by rw [E4.out]))
    have n15 : w7.cell? ⟨b1, 15, none⟩ = some (.int .u32 n) := (cell_of_row w7 _ 15 _ _ _ rT).trans ((KT.out.C 5 (by decide)).trans (by rw [E5.out]))
    have u8 := KU.out.pc
    clear hb rA rT hs6
    go_wp2_with (first
        | (((with_reducible show wpList _ _ _ (Oper.mk _ (.store 28 _ _) _ _ _ _ :: _) _ _); refine wpList_store_at rfl 28 _ _ rfl rfl _ U rfl rfl 28 _ (by first | exact heap_new' rfl | exact heap_old' (heap_new' rfl)) (by rw [KU.out.size]; kernel_rfl) (by rw [KU.out.size]; rfl) KU.out.one _ (by first | exact setRow_new' _ _ _ _ _ rfl | (refine setRow_past _ (setRow_new' _ _ _ _ _ ?_) ?_ <;> simp; done)) ?_))
      )
    refine (HW.out _).mono ?_
    rintro e w9 ⟨rfl, rfl⟩
    go_wp2_with fail
    go_ret
    exact ⟨rfl, (hB.alloc (by omega) _).alloc (by simp; omega) _⟩

theorem asked_walk (r0 : Int) (v0 : (Lit.int .u32 r0).wf = true) (r1 : Int) (v1 : (Lit.int .u32 r1).wf = true) (r2 : Int) (v2 : (Lit.int .u32 r2).wf = true) (r3 : Int) (v3 : (Lit.int .u32 r3).wf = true) (r4 : Int) (v4 : (Lit.int .u32 r4).wf = true) (r5 : Int) (v5 : (Lit.int .u32 r5).wf = true) (r6 : Int) (v6 : (Lit.int .u32 r6).wf = true) (r7 : Int) (v7 : (Lit.int .u32 r7).wf = true) (pc : Int) (vp : (Lit.int .u32 pc).wf = true) (ps : Int) (vs : (Lit.int .u32 ps).wf = true) (c0 : Int) (y0 : (Lit.int .u32 c0).wf = true) (c1 : Int) (y1 : (Lit.int .u32 c1).wf = true) (c2 : Int) (y2 : (Lit.int .u32 c2).wf = true) (c3 : Int) (y3 : (Lit.int .u32 c3).wf = true) (c4 : Int) (y4 : (Lit.int .u32 c4).wf = true) (c5 : Int) (y5 : (Lit.int .u32 c5).wf = true) (c6 : Int) (y6 : (Lit.int .u32 c6).wf = true) (c7 : Int) (y7 : (Lit.int .u32 c7).wf = true) (h : Bool) (n : Int) (wn : (Lit.int .u8 n).wf = true) (w : World) :
    Calls Try.prog 8 #[.agg #[.int .u32 r0, .int .u32 r1, .int .u32 r2, .int .u32 r3, .int .u32 r4, .int .u32 r5, .int .u32 r6, .int .u32 r7, .int .u32 pc, .int .u32 ps, .int .u32 c0, .int .u32 c1, .int .u32 c2, .int .u32 c3, .int .u32 c4, .int .u32 c5, .int .u32 c6, .int .u32 c7, .bool h], .int .u8 n] w fun e w' => e = .returned (.bool true) ∧ Below w.heap.size w w' :=
  asked_in (fn8t r0 r1 r2 r3 r4 r5 r6 r7) pc ps (fn8t c0 c1 c2 c3 c4 c5 c6 c7) h n w (bd_u32 vp).1 (bd_u32 vp).2 (bd_u32 vs).1 (bd_u32 vs).2 (fn8t_in (bd_u32 v0) (bd_u32 v1) (bd_u32 v2) (bd_u32 v3) (bd_u32 v4) (bd_u32 v5) (bd_u32 v6) (bd_u32 v7)) (fn8t_in (bd_u32 y0) (bd_u32 y1) (bd_u32 y2) (bd_u32 y3) (bd_u32 y4) (bd_u32 y5) (bd_u32 y6) (bd_u32 y7)) (bd_u8 wn).1 (bd_u8 wn).2
end Go.Proofs.Ytgaffakhmghbdaa
