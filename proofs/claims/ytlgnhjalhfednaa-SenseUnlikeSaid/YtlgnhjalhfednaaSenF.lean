/- sense.Do: what it hands back where an instruction is done. (Written by mkSE.py.) -/
import Derived.Test.YtlgnhjalhfednaaSenG
namespace Go.Proofs.Ytlgnhjalhfednaa
open Go.RowKit
set_option linter.unusedSimpArgs false
set_option linter.unusedVariables false

set_option maxRecDepth 100000 in
set_option maxHeartbeats 8000000 in
theorem do_ok (x y : DX) (N : Nat) (hx : x.start) (hu : x.user = (bits .and .u32 x.ps 1 != 0)) (w : World) (h0 : 0 ≤ x.op) (h1 : x.op < 256) (h2 : 0 ≤ x.a) (h3 : x.a < 256) (h4 : 0 ≤ x.b) (h5 : x.b < 256) (h6 : -2147483648 ≤ x.imm) (h7 : x.imm < 2147483648)
    (hm : Isa.mayB (Isa.fm x.op false) x.a x.b x.imm = true)
    (hcf : ∀ (args : Array Value) (w : World), (callFunc N args).run Try.prog w = .ok (.enter N args) w)
    (hp : ∀ b, pickV b x.op = .func (.func N) #[.pointer (some ⟨b, 0, none⟩)] #[])
    (hM : ∀ b w, DocAt w b x → Calls Try.prog N #[.pointer (some ⟨b, 0, none⟩)] w (MPost w b y)) (hop : y.op = x.op) (g0 : 0 ≤ y.pc) (g1 : y.pc < 4294967296) :
    Calls Try.prog 9 #[.agg x.st, Isa.insV x.op x.a x.b x.imm, .int .u32 x.inp] w fun e w' =>
      e = .returned (.tuple #[.agg (DX.st { y with pc := (y.pc + (Isa.fm x.op false).n) % 4294967296 }), .agg y.ef]) ∧ Below w.heap.size w w' := by
  have hfn := fm_n x.op
  have hmf : ∀ (fn : Fn) (first cap : Array Value) (w : World), (Instr.makeFunc fn first cap).run Try.prog w = .ok (.func fn first cap) w := fun _ _ _ _ => rfl
  have HBD := Lib.hid (built_doc x hx)
  have HM := Lib.hid fun w => Isa.may_c x.op x.a x.b x.imm false w h0 h1 h2 h3 h4 h5 h6 h7
  rw [hm] at HM
  have HZ := Lib.hid fun w => Isa.size_c x.op false w h0 h1
  have HK := Lib.hid fun (b : Nat) (w : World) h => pick_c b x w h
  have hA9 : x.st[9]? = some (.int .u32 x.ps) := rfl
  have HSZ := Lib.hid (st_size x)
  have HS1 := Lib.hid (st_one x)
  have HP := Lib.hid hp
  have HMM := Lib.hid hM
  have HU := Lib.hid hu
  have HOP := Lib.hid hop
  clear hm hp hM hu hop hx
  obtain ⟨A, hA⟩ : ∃ A, A = x.st := ⟨_, rfl⟩
  rw [← hA] at HBD hA9 HSZ HS1 ⊢
  clear hA
  obtain ⟨D, hD⟩ : ∃ D, D = docA x := ⟨_, rfl⟩
  rw [← hD] at HBD
  have HD := Lib.hid hD
  clear hD
  unfold Isa.insV at HM ⊢
  go_enter_defers Try.func9, Try.ntmps9
  go_wp2_with (first
    | ((with_reducible show wpList _ _ _ (Oper.mk _ (.load 25 _) _ _ _ _ :: _) _ _); refine wpList_load_row rfl 25 _ rfl _ rfl 25 _ (0, 0) _ (by first | (refine heap_old' (heap_old' (heap_old' (heap_new' ?_))); simp; done)) Try.underlying25 rfl (by rw [HSZ.out]; kernel_rfl) ?_)
    | ((with_reducible show wpList _ _ _ (Oper.mk _ (.build 48 _) _ _ _ _ :: _) _ _); refine wpList_buildTo rfl 48 _ rfl _ rfl D ?hbuilt ?_))
  case hbuilt => rw [← HU.out]; exact HBD.out
  refine (HK.out _ _ (by unfold DocAt; rw [← HD.out]; exact heap_new' (by simp))).mono ?_
  rintro e w' ⟨rfl, rfl⟩
  rw [HP.out]
  obtain ⟨W, hW⟩ : ∃ W, W = (((((w.alloc (.cells A 25)).alloc (.cells #[.int .u8 x.op, .int .u8 x.a, .int .u8 x.b, .int .i32 x.imm] 27)).alloc (.cells zero19 25)).alloc (.cells (effA 0) 29)).alloc (.cells D 48)) := ⟨_, rfl⟩
  have R0 := Lib.hid (show W.heap[w.heap.size]? = some (.cells A 25 (0, 0)) from by rw [hW]; exact heap_old' (heap_old' (heap_old' (heap_old' (heap_new' rfl)))))
  have R1 := Lib.hid (show W.heap[w.heap.size + 1]? = some (.cells #[.int .u8 x.op, .int .u8 x.a, .int .u8 x.b, .int .i32 x.imm] 27 (0, 0)) from by rw [hW]; exact heap_old' (heap_old' (heap_old' (heap_new' (by simp)))))
  have R2 := Lib.hid (show W.heap[w.heap.size + 1 + 1]? = some (.cells zero19 25 (0, 0)) from by rw [hW]; exact heap_old' (heap_old' (heap_new' (by simp))))
  have R3 := Lib.hid (show W.heap[w.heap.size + 1 + 1 + 1]? = some (.cells (effA 0) 29 (0, 0)) from by rw [hW]; exact heap_old' (heap_new' (by simp)))
  have R4 := Lib.hid (show DocAt W (w.heap.size + 1 + 1 + 1 + 1) x from by rw [hW]; unfold DocAt; rw [← HD.out]; exact heap_new' (by simp))
  have RS := Lib.hid (show W.heap.size = w.heap.size + 5 from by rw [hW]; simp)
  have RB := Lib.hid (show Below w.heap.size w W from by
    rw [hW]; exact ((((below_alloc1 w _).alloc (by simp) _).alloc (by simp; omega) _).alloc (by simp; omega) _).alloc (by simp; omega) _)
  have HW := Lib.hid (show DoW w A x.op x.a x.b x.imm x W from ⟨R0.out, R1.out, R2.out, R3.out, R4.out, Nat.le_of_eq RS.out.symm, RB.out⟩)
  clear R0 R2 R3 R4 RS RB
  unfold zero19 effA stA at hW
  rw [← hW]
  clear hW
  have c0 : W.cell? ⟨w.heap.size + 1, 0, none⟩ = some (.int .u8 x.op) := cell_of_row W _ 0 _ _ _ R1.out
  have c1 : W.cell? ⟨w.heap.size + 1, 1, none⟩ = some (.int .u8 x.a) := cell_of_row W _ 1 _ _ _ R1.out
  have c2 : W.cell? ⟨w.heap.size + 1, 2, none⟩ = some (.int .u8 x.b) := cell_of_row W _ 2 _ _ _ R1.out
  have c3 : W.cell? ⟨w.heap.size + 1, 3, none⟩ = some (.int .i32 x.imm) := cell_of_row W _ 3 _ _ _ R1.out
  have hneq := neqF
  clear hA9
  go_wp2_with fail
  refine (HM.out _).mono ?_
  rintro e w2 ⟨rfl, hb2⟩
  have HW2 := Lib.hid (HW.out.below hb2)
  clear hb2 c0 c1 c2 c3 R1 HW
  go_wp2_with fail
  refine (HMM.out _ _ HW2.out.2.2.2.2.1).mono ?_
  rintro e w3 ⟨rfl, hD3, hG3⟩
  have HW3 := Lib.hid (HW2.out.turn hG3 hD3)
  have e8 : w3.cell? ⟨w.heap.size + 1 + 1 + 1 + 1, 8, none⟩ = some (.int .u32 y.pc) := hD3.cell 8
  have f8 := hD3.free 8
  have e0 : w3.cell? ⟨w.heap.size + 1, 0, none⟩ = some (.int .u8 x.op) := cell_of_row w3 _ 0 _ _ _ HW3.out.2.1
  clear hD3 hG3 HW2
  go_wp2_with fail
  have HW3d := Lib.hid (show DoW w A x.op x.a x.b x.imm y w3.drew from ⟨HW3.out.1, HW3.out.2.1, HW3.out.2.2.1, HW3.out.2.2.2.1, HW3.out.2.2.2.2.1, HW3.out.2.2.2.2.2.1, HW3.out.2.2.2.2.2.2.drew⟩)
  have e8d : w3.drew.cell? ⟨w.heap.size + 1 + 1 + 1 + 1, 8, none⟩ = some (.int .u32 y.pc) := e8
  have f8d : w3.drew.frozen? ⟨w.heap.size + 1 + 1 + 1 + 1, 8, none⟩ = false := f8
  have e0d : w3.drew.cell? ⟨w.heap.size + 1, 0, none⟩ = some (.int .u8 x.op) := e0
  refine wp_region_noPanic ?_
  go_region_with (go_at_call 19; refine (HZ.out _).mono ?_; rintro e w4 ⟨rfl, hb4⟩; have HW4 := Lib.hid (DoW.below HW3d.out hb4); have e8' := cell_belowS hb4 e8d; have f8' := free_belowS hb4 e8d f8d; have e0' := cell_belowS hb4 e0d)
  all_goals refine NoPanic.normal ?_
  all_goals
    have hD4 := HW4.out.2.2.2.2.1
    obtain ⟨z, hz⟩ : ∃ z : DX, z = { y with pc := (y.pc + (Isa.fm x.op false).n) % 4294967296 } := ⟨_, rfl⟩
    have hw1 : IntKind.u32.wrap (Isa.fm x.op false).n = (Isa.fm x.op false).n := by rw [IntKind.wrap_u32]; omega
    have hw2 : IntKind.u32.wrap (y.pc + (Isa.fm x.op false).n) = (y.pc + (Isa.fm x.op false).n) % 4294967296 := by rw [IntKind.wrap_u32]
    rw [hw1, hw2]
    have HW5 : DoW w A x.op x.a x.b x.imm z (w4.setCell ⟨w.heap.size + 1 + 1 + 1 + 1, 8, none⟩ (.int .u32 ((y.pc + (Isa.fm x.op false).n) % 4294967296))) := HW4.out.turn (grownBy_setS _ _ _ _) (by rw [hz]; exact hD4.set 8 _ rfl)
    have HW5 := Lib.hid HW5
    have hzs : DX.st { y with pc := (y.pc + (Isa.fm x.op false).n) % 4294967296 } = z.st := by rw [hz]
    have hze : y.ef = z.ef := by rw [hz]; rfl
    have HZS := Lib.hid hzs
    have HZE := Lib.hid hze
    clear hzs hze hz hw1 hw2 hD4 hb4 HW4 HW3 HW3d HMM HD HBD HZ HK HM HP
    generalize w4.setCell ⟨w.heap.size + 1 + 1 + 1 + 1, 8, none⟩ (.int .u32 ((y.pc + (Isa.fm x.op false).n) % 4294967296)) = w5 at HW5 ⊢
    clear e8' f8' e0' e8 f8 e0 e8d f8d e0d
    go_wp2_with fail
    refine wp_region_noPanic ?_
    refine wp_region_held_drew (S := fun w' => DocAt w' (w.heap.size + 1 + 1 + 1 + 1) z ∧ CatchS w5 (w.heap.size + 1 + 1) (w.heap.size + 1 + 1 + 1) w') (by kernel_rfl) ⟨HW5.out.2.2.2.2.1.drew, ?_⟩ (fun hHeld => ?_)
    · exact ⟨⟨zero19, HW5.out.2.2.1, rfl⟩, ⟨effA 0, HW5.out.2.2.2.1, rfl⟩, rfl, rfl, rfl, Nat.le_refl _, fun k hk _ _ => rfl⟩
    refine wpAnyH_take (i := 0) (oi := { dst := some 46, op := Op.move (Operand.tmp 8), type := 46, pos := "sense.go:120", after := #[], guard := none }) (v := .pointer (some ⟨w.heap.size + 1 + 1 + 1 + 1, 0, none⟩)) rfl (by kernel_rfl) (by kernel_rfl) (by kernel_rfl) (fun _ _ _ h => h) (Or.inl ⟨by rfl, ?_⟩) hHeld ?_
    · intro w' hSw
      go_simp
    try simp only [Act.put, List.setIfInBounds_toArray, List.set_cons_zero, List.set_cons_succ]
    refine wpAnyH_take (i := 1) (oi := { dst := some 47, op := Op.nilCheck (Operand.tmp 46), type := 0, pos := "sense.go:120", after := #[{ on := 0, ground := Ground.data }], guard := none }) (v := .pointer (some ⟨w.heap.size + 1 + 1 + 1 + 1, 0, none⟩)) rfl (by kernel_rfl) (by kernel_rfl) (by kernel_rfl) (fun _ _ _ h => h) (Or.inl ⟨by rfl, ?_⟩) hHeld ?_
    · intro w' hSw
      go_simp
    try simp only [Act.put, List.setIfInBounds_toArray, List.set_cons_zero, List.set_cons_succ]
    refine wpAnyH_take (i := 2) (oi := { dst := some 48, op := Op.fieldAddr 48 (Operand.tmp 47) 0, type := 0, pos := "sense.go:120", after := #[{ on := 1, ground := Ground.data }], guard := none }) (v := .pointer (some ⟨w.heap.size + 1 + 1 + 1 + 1, 0, none⟩)) rfl (by kernel_rfl) (by kernel_rfl) (by kernel_rfl) (fun _ _ _ h => h) (Or.inl ⟨by rfl, ?_⟩) hHeld ?_
    · intro w' hSw
      go_simp
    try simp only [Act.put, List.setIfInBounds_toArray, List.set_cons_zero, List.set_cons_succ]
    refine wpAnyH_take (i := 3) (oi := { dst := some 49, op := Op.load 25 (Operand.tmp 48), type := 25, pos := "sense.go:120", after := #[{ on := 2, ground := Ground.data }], guard := none }) (v := .agg z.st) rfl (by kernel_rfl) (by kernel_rfl) (by kernel_rfl) (fun _ _ _ h => h) (yields_doc (by rfl) 25 _ rfl _ 0 rfl z.st (fun w' h => ⟨z, h.1, rfl⟩) Try.underlying25 rfl (by kernel_rfl)) hHeld ?_
    try simp only [Act.put, List.setIfInBounds_toArray, List.set_cons_zero, List.set_cons_succ]
    refine wpAnyH_take (i := 4) (oi := { dst := some 50, op := Op.move (Operand.tmp 8), type := 46, pos := "sense.go:120", after := #[], guard := none }) (v := .pointer (some ⟨w.heap.size + 1 + 1 + 1 + 1, 0, none⟩)) rfl (by kernel_rfl) (by kernel_rfl) (by kernel_rfl) (fun _ _ _ h => h) (Or.inl ⟨by rfl, ?_⟩) hHeld ?_
    · intro w' hSw
      go_simp
    try simp only [Act.put, List.setIfInBounds_toArray, List.set_cons_zero, List.set_cons_succ]
    refine wpAnyH_take (i := 5) (oi := { dst := some 51, op := Op.nilCheck (Operand.tmp 50), type := 0, pos := "sense.go:120", after := #[{ on := 4, ground := Ground.data }], guard := none }) (v := .pointer (some ⟨w.heap.size + 1 + 1 + 1 + 1, 0, none⟩)) rfl (by kernel_rfl) (by kernel_rfl) (by kernel_rfl) (fun _ _ _ h => h) (Or.inl ⟨by rfl, ?_⟩) hHeld ?_
    · intro w' hSw
      go_simp
    try simp only [Act.put, List.setIfInBounds_toArray, List.set_cons_zero, List.set_cons_succ]
    refine wpAnyH_take (i := 6) (oi := { dst := some 52, op := Op.fieldAddr 48 (Operand.tmp 51) 3, type := 0, pos := "sense.go:120", after := #[{ on := 5, ground := Ground.data }], guard := none }) (v := .pointer (some ⟨w.heap.size + 1 + 1 + 1 + 1, 24, none⟩)) rfl (by kernel_rfl) (by kernel_rfl) (by kernel_rfl) (fun _ _ _ h => h) (Or.inl ⟨by rfl, ?_⟩) hHeld ?_
    · intro w' hSw
      go_simp
    try simp only [Act.put, List.setIfInBounds_toArray, List.set_cons_zero, List.set_cons_succ]
    refine wpAnyH_take (i := 7) (oi := { dst := some 53, op := Op.load 29 (Operand.tmp 52), type := 29, pos := "sense.go:120", after := #[{ on := 6, ground := Ground.data }], guard := none }) (v := .agg z.ef) rfl (by kernel_rfl) (by kernel_rfl) (by kernel_rfl) (fun _ _ _ h => h) (yields_doc (by rfl) 29 _ rfl _ 24 rfl z.ef (fun w' h => ⟨z, h.1, rfl⟩) Try.underlying29 rfl (by kernel_rfl)) hHeld ?_
    try simp only [Act.put, List.setIfInBounds_toArray, List.set_cons_zero, List.set_cons_succ]
    have hn2 : w.heap.size + 1 + 1 ≠ w.heap.size + 1 + 1 + 1 := by omega
    have hz19 : (Try.prog.info? 25).map (·.size) = some z.st.size := by kernel_rfl
    have hz5 : (Try.prog.info? 29).map (·.size) = some z.ef.size := by kernel_rfl
    refine wpAnyH_ready (rs := [8]) (by kernel_rfl) (by simp) ?_
    refine AllReadyH.cons (o := { dst := none, op := Op.store 25 (Operand.tmp 6) (Operand.tmp 49), type := 0, pos := "sense.go:120", after := #[{ on := 3, ground := Ground.data }, { on := 0, ground := Ground.phase }, { on := 1, ground := Ground.phase }, { on := 2, ground := Ground.phase }, { on := 3, ground := Ground.phase }, { on := 4, ground := Ground.textOnly Departure.lateStoresUnsure }, { on := 5, ground := Ground.textOnly Departure.lateStoresUnsure }, { on := 6, ground := Ground.textOnly Departure.lateStoresUnsure }, { on := 7, ground := Ground.textOnly Departure.lateStoresUnsure }], guard := none }) rfl (fun K hK => ?_) AllReadyH.nil
    rw [if_pos (by rfl)]
    have g0 : w5.drew.heap[w.heap.size + 1 + 1]? = some (.cells zero19 25 (0, 0)) := HW5.out.2.2.1
    refine wp_store_st 25 _ _ rfl (w.heap.size + 1 + 1) z.st rfl rfl 25 zero19 g0 hz19 rfl (st_one z) ?_
    have g1 := setRow_heap w5.drew (w.heap.size + 1 + 1) zero19 z.st _ _ g0
    have g2 : (w5.drew.setRow (w.heap.size + 1 + 1) z.st).heap[w.heap.size + 1 + 1 + 1]? = some (.cells (effA 0) 29 (0, 0)) := by rw [setRow_other _ _ _ _ (by omega)]; exact HW5.out.2.2.2.1
    refine hK.out _ _ ⟨?_, ⟨z.st, g1, rfl⟩, ⟨effA 0, g2, rfl⟩, rfl, rfl, rfl, by simp, fun k hk h1 h2 => setRow_other _ _ _ _ h1⟩ (fun hHeld => ?_)
    · unfold DocAt; rw [setRow_other _ _ _ _ (by omega)]; exact HW5.out.2.2.2.2.1
    clear hK K
    try simp only [Act.put, List.setIfInBounds_toArray, List.set_cons_zero, List.set_cons_succ]
    refine wpAnyH_ready (rs := [9]) (by kernel_rfl) (by simp) ?_
    refine AllReadyH.cons (o := { dst := none, op := Op.store 29 (Operand.tmp 7) (Operand.tmp 53), type := 0, pos := "sense.go:120", after := #[{ on := 7, ground := Ground.data }, { on := 8, ground := Ground.chain }, { on := 0, ground := Ground.phase }, { on := 1, ground := Ground.phase }, { on := 2, ground := Ground.phase }, { on := 3, ground := Ground.phase }, { on := 4, ground := Ground.phase }, { on := 5, ground := Ground.phase }, { on := 6, ground := Ground.phase }, { on := 7, ground := Ground.phase }, { on := 8, ground := Ground.phase }], guard := none }) rfl (fun K hK => ?_) AllReadyH.nil
    rw [if_pos (by rfl)]
    refine wp_store_st 29 _ _ rfl (w.heap.size + 1 + 1 + 1) z.ef rfl rfl 29 (effA 0) g2 hz5 rfl (ef_one z) ?_
    have g3 := setRow_heap (w5.drew.setRow (w.heap.size + 1 + 1) z.st) (w.heap.size + 1 + 1 + 1) (effA 0) z.ef _ _ g2
    have g4 : ((w5.drew.setRow (w.heap.size + 1 + 1) z.st).setRow (w.heap.size + 1 + 1 + 1) z.ef).heap[w.heap.size + 1 + 1]? = some (.cells z.st 25 (0, 0)) := by rw [setRow_other _ _ _ _ (by omega)]; exact g1
    refine hK.out _ _ ⟨?_, ⟨z.st, g4, rfl⟩, ⟨z.ef, g3, rfl⟩, rfl, rfl, rfl, by simp, fun k hk h1 h2 => (setRow_other _ _ _ _ h2).trans (setRow_other _ _ _ _ h1)⟩ (fun hHeld => ?_)
    · unfold DocAt; rw [setRow_other _ _ _ _ (by omega), setRow_other _ _ _ _ (by omega)]; exact HW5.out.2.2.2.2.1
    clear hK K
    refine wpAnyH_done (by kernel_rfl) ?_ _
    refine NoPanic.normal ?_
    have hC := hHeld.2
    clear hHeld
    obtain ⟨w6, hw6⟩ : ∃ w6, w6 = (w5.drew.setRow (w.heap.size + 1 + 1) z.st).setRow (w.heap.size + 1 + 1 + 1) z.ef := ⟨_, rfl⟩
    try simp only [Act.put, List.setIfInBounds_toArray, List.set_cons_zero, List.set_cons_succ]
    rw [← hw6] at g3 g4 hC ⊢
    have G3 := Lib.hid g3
    have G4 := Lib.hid g4
    have HC := Lib.hid hC
    clear hw6 g0 g1 g2 g3 g4 hC
    go_wp2_with fail
    refine leaves_cons (f := 16) (args := #[.pointer (some ⟨w.heap.size, 0, none⟩), .pointer (some ⟨w.heap.size + 1 + 1, 0, none⟩), .pointer (some ⟨w.heap.size + 1 + 1 + 1, 0, none⟩)]) (by simp) (by simp [go_sem]) ?_
    refine (catch_idle _ _ _ _).mono ?_
    rintro e u' w'' ⟨rfl, rfl, rfl⟩
    refine ⟨_, results_two rfl _ _ _ _ _ _ rfl rfl G4.out G3.out Try.underlying25 Try.underlying29 rfl rfl hz19 hz5, by rw [HZS.out, HZE.out], ?_⟩
    exact catch_below HC.out HW5.out.2.2.2.2.2.2 HW5.out.2.2.2.2.2.1
end Go.Proofs.Ytlgnhjalhfednaa
