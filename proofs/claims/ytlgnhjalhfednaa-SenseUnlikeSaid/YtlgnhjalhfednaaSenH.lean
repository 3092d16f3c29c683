/- sense.Do: what it hands back where an instruction is given up. (Written by mkSH.py.) -/
import Derived.Test.YtlgnhjalhfednaaSenG
namespace Go.Proofs.Ytlgnhjalhfednaa
open Go.RowKit
set_option linter.unusedSimpArgs false
set_option linter.unusedVariables false

set_option maxRecDepth 100000 in
set_option maxHeartbeats 8000000 in
theorem do_none (x : DX) (hx : x.start) (hu : x.user = (bits .and .u32 x.ps 1 != 0)) (w : World) (h0 : 0 ≤ x.op) (h1 : x.op < 256) (h2 : 0 ≤ x.a) (h3 : x.a < 256) (h4 : 0 ≤ x.b) (h5 : x.b < 256) (h6 : -2147483648 ≤ x.imm) (h7 : x.imm < 2147483648)
    (hp : ∀ b, pickV b x.op = .nilFunc) :
    Calls Try.prog 9 #[.agg x.st, Isa.insV x.op x.a x.b x.imm, .int .u32 x.inp] w fun e w' =>
      e = .returned (.tuple #[.agg x.st, .agg (effA 1)]) ∧ Below w.heap.size w w' := by
  have hmf : ∀ (fn : Fn) (first cap : Array Value) (w : World), (Instr.makeFunc fn first cap).run Try.prog w = .ok (.func fn first cap) w := fun _ _ _ _ => rfl
  have HBD := Lib.hid (built_doc x hx)
  have HK := Lib.hid fun (b : Nat) (w : World) h => pick_c b x w h
  have hA9 : x.st[9]? = some (.int .u32 x.ps) := rfl
  have HSZ := Lib.hid (st_size x)
  have HS1 := Lib.hid (st_one x)
  have HU := Lib.hid hu
  have HP := Lib.hid hp
  clear hp hu hx
  obtain ⟨A, hA⟩ : ∃ A, A = x.st := ⟨_, rfl⟩
  rw [← hA] at HBD hA9 HSZ HS1 ⊢
  clear hA
  obtain ⟨D, hD⟩ : ∃ D, D = docA x := ⟨_, rfl⟩
  rw [← hD] at HBD
  have HD := Lib.hid hD
  clear hD
  unfold Isa.insV
  go_enter_defers Try.func9, Try.ntmps9
  go_wp2_with (first
    | ((with_reducible show wpList _ _ _ (Oper.mk _ (.load 25 _) _ _ _ _ :: _) _ _); refine wpList_load_row rfl 25 _ rfl _ rfl 25 _ (0, 0) _ (by first | (refine heap_old' (heap_old' (heap_old' (heap_new' ?_))); simp; done)) Try.underlying25 rfl (by rw [HSZ.out]; kernel_rfl) ?_)
    | ((with_reducible show wpList _ _ _ (Oper.mk _ (.build 48 _) _ _ _ _ :: _) _ _); refine wpList_buildTo rfl 48 _ rfl _ rfl D ?hbuilt ?_))
  case hbuilt => rw [← HU.out]; exact HBD.out
  refine (HK.out _ _ (by unfold DocAt; rw [← HD.out]; exact heap_new' (by simp))).mono ?_
  rintro e w' ⟨rfl, rfl⟩
  rw [HP.out]
  obtain ⟨W, hW⟩ : ∃ W, W = (((((w.alloc (.cells A 25)).alloc (.cells #[.int .u8 x.op, .int .u8 x.a, .int .u8 x.b, .int .i32 x.imm] 27)).alloc (.cells zero19 25)).alloc (.cells (effA 0) 29)).alloc (.cells D 48)) := ⟨_, rfl⟩
  have R0 := Lib.hid (show W.heap[w.heap.size]? = some (.cells A 25 (0, 0)) from by rw [hW]; exact heap_old' (heap_old' (heap_old' (heap_old' (heap_new' rfl)))))
  have R1 := Lib.hid (show W.heap[w.heap.size + 1]? = some (.cells #[.int .u8 x.op, .int .u8 x.a, .int .u8 x.b, .int .i32 x.imm] 27 (0, 0)) from by rw [hW]; exact heap_old' (heap_old' (heap_old' (heap_new' (by simp)))))
  have R2 := Lib.hid (show W.heap[w.heap.size + 1 + 1]? = some (.cells zero19 25 (0, 0)) from by rw [hW]; exact heap_old' (heap_old' (heap_new' (by simp))))
  have R3 := Lib.hid (show W.heap[w.heap.size + 1 + 1 + 1]? = some (.cells (effA 0) 29 (0, 0)) from by rw [hW]; exact heap_old' (heap_new' (by simp)))
  have R4 := Lib.hid (show DocAt W (w.heap.size + 1 + 1 + 1 + 1) x from by rw [hW]; unfold DocAt; rw [← HD.out]; exact heap_new' (by simp))
  have RS := Lib.hid (show W.heap.size = w.heap.size + 5 from by rw [hW]; simp)
  have RB := Lib.hid (show Below w.heap.size w W from by
    rw [hW]; exact ((((below_alloc1 w _).alloc (by simp) _).alloc (by simp; omega) _).alloc (by simp; omega) _).alloc (by simp; omega) _)
  have HW := Lib.hid (show DoW w A x.op x.a x.b x.imm x W from ⟨R0.out, R1.out, R2.out, R3.out, R4.out, Nat.le_of_eq RS.out.symm, RB.out⟩)
  clear R0 R2 R3 R4 RS RB
  unfold zero19 effA stA at hW
  rw [← hW]
  clear hW
  have c0 : W.cell? ⟨w.heap.size + 1, 0, none⟩ = some (.int .u8 x.op) := cell_of_row W _ 0 _ _ _ R1.out
  have c1 : W.cell? ⟨w.heap.size + 1, 1, none⟩ = some (.int .u8 x.a) := cell_of_row W _ 1 _ _ _ R1.out
  have c2 : W.cell? ⟨w.heap.size + 1, 2, none⟩ = some (.int .u8 x.b) := cell_of_row W _ 2 _ _ _ R1.out
  have c3 : W.cell? ⟨w.heap.size + 1, 3, none⟩ = some (.int .i32 x.imm) := cell_of_row W _ 3 _ _ _ R1.out
  clear hA9
  have heq := eqlF
  have HWX := HW
  go_wp2_with fail
  refine leaves_cons (f := 16) (args := #[.pointer (some ⟨w.heap.size, 0, none⟩), .pointer (some ⟨w.heap.size + 1 + 1, 0, none⟩), .pointer (some ⟨w.heap.size + 1 + 1 + 1, 0, none⟩)]) (by simp) (by simp [go_sem]) ?_
  have hHW := HWX.out
  refine (catch_panic w.heap.size (w.heap.size + 1 + 1) (w.heap.size + 1 + 1 + 1) A zero19 (effA 0) 1 _ HSZ.out rfl rfl HS1.out hHW.1 hHW.2.2.1 hHW.2.2.2.1 (by omega) (by omega) (by omega)).mono ?_
  rintro e u' w'' ⟨rfl, rfl, p1, p2, p3, p4, p5, p6, p7⟩
  refine ⟨_, results_two rfl _ _ _ _ _ _ rfl rfl p1 p2 Try.underlying25 Try.underlying29 rfl rfl (by rw [HSZ.out]; kernel_rfl) (by kernel_rfl), rfl, ?_⟩
  exact hHW.2.2.2.2.2.2.trans ⟨p3, p4, p5, p6, fun k hk => p7 k (by have := hHW.2.2.2.2.2.1; omega) (by omega) (by omega)⟩

set_option maxRecDepth 100000 in
set_option maxHeartbeats 8000000 in
theorem do_bad (x : DX) (N : Nat) (hx : x.start) (hu : x.user = (bits .and .u32 x.ps 1 != 0)) (w : World) (h0 : 0 ≤ x.op) (h1 : x.op < 256) (h2 : 0 ≤ x.a) (h3 : x.a < 256) (h4 : 0 ≤ x.b) (h5 : x.b < 256) (h6 : -2147483648 ≤ x.imm) (h7 : x.imm < 2147483648)
    (hm : Isa.mayB (Isa.fm x.op false) x.a x.b x.imm = false)
    (hp : ∀ b, pickV b x.op = .func (.func N) #[.pointer (some ⟨b, 0, none⟩)] #[]) :
    Calls Try.prog 9 #[.agg x.st, Isa.insV x.op x.a x.b x.imm, .int .u32 x.inp] w fun e w' =>
      e = .returned (.tuple #[.agg x.st, .agg (effA 1)]) ∧ Below w.heap.size w w' := by
  have hmf : ∀ (fn : Fn) (first cap : Array Value) (w : World), (Instr.makeFunc fn first cap).run Try.prog w = .ok (.func fn first cap) w := fun _ _ _ _ => rfl
  have HBD := Lib.hid (built_doc x hx)
  have HM := Lib.hid fun w => Isa.may_c x.op x.a x.b x.imm false w h0 h1 h2 h3 h4 h5 h6 h7
  rw [hm] at HM
  have HK := Lib.hid fun (b : Nat) (w : World) h => pick_c b x w h
  have hA9 : x.st[9]? = some (.int .u32 x.ps) := rfl
  have HSZ := Lib.hid (st_size x)
  have HS1 := Lib.hid (st_one x)
  have HU := Lib.hid hu
  have HP := Lib.hid hp
  clear hm hp hu hx
  obtain ⟨A, hA⟩ : ∃ A, A = x.st := ⟨_, rfl⟩
  rw [← hA] at HBD hA9 HSZ HS1 ⊢
  clear hA
  obtain ⟨D, hD⟩ : ∃ D, D = docA x := ⟨_, rfl⟩
  rw [← hD] at HBD
  have HD := Lib.hid hD
  clear hD
  unfold Isa.insV at HM ⊢
  go_enter_defers Try.func9, Try.ntmps9
  go_wp2_with (first
    | ((with_reducible show wpList _ _ _ (Oper.mk _ (.load 25 _) _ _ _ _ :: _) _ _); refine wpList_load_row rfl 25 _ rfl _ rfl 25 _ (0, 0) _ (by first | (refine heap_old' (heap_old' (heap_old' (heap_new' ?_))); simp; done)) Try.underlying25 rfl (by rw [HSZ.out]; kernel_rfl) ?_)
    | ((with_reducible show wpList _ _ _ (Oper.mk _ (.build 48 _) _ _ _ _ :: _) _ _); refine wpList_buildTo rfl 48 _ rfl _ rfl D ?hbuilt ?_))
  case hbuilt => rw [← HU.out]; exact HBD.out
  refine (HK.out _ _ (by unfold DocAt; rw [← HD.out]; exact heap_new' (by simp))).mono ?_
  rintro e w' ⟨rfl, rfl⟩
  rw [HP.out]
  obtain ⟨W, hW⟩ : ∃ W, W = (((((w.alloc (.cells A 25)).alloc (.cells #[.int .u8 x.op, .int .u8 x.a, .int .u8 x.b, .int .i32 x.imm] 27)).alloc (.cells zero19 25)).alloc (.cells (effA 0) 29)).alloc (.cells D 48)) := ⟨_, rfl⟩
  have R0 := Lib.hid (show W.heap[w.heap.size]? = some (.cells A 25 (0, 0)) from by rw [hW]; exact heap_old' (heap_old' (heap_old' (heap_old' (heap_new' rfl)))))
  have R1 := Lib.hid (show W.heap[w.heap.size + 1]? = some (.cells #[.int .u8 x.op, .int .u8 x.a, .int .u8 x.b, .int .i32 x.imm] 27 (0, 0)) from by rw [hW]; exact heap_old' (heap_old' (heap_old' (heap_new' (by simp)))))
  have R2 := Lib.hid (show W.heap[w.heap.size + 1 + 1]? = some (.cells zero19 25 (0, 0)) from by rw [hW]; exact heap_old' (heap_old' (heap_new' (by simp))))
  have R3 := Lib.hid (show W.heap[w.heap.size + 1 + 1 + 1]? = some (.cells (effA 0) 29 (0, 0)) from by rw [hW]; exact heap_old' (heap_new' (by simp)))
  have R4 := Lib.hid (show DocAt W (w.heap.size + 1 + 1 + 1 + 1) x from by rw [hW]; unfold DocAt; rw [← HD.out]; exact heap_new' (by simp))
  have RS := Lib.hid (show W.heap.size = w.heap.size + 5 from by rw [hW]; simp)
  have RB := Lib.hid (show Below w.heap.size w W from by
    rw [hW]; exact ((((below_alloc1 w _).alloc (by simp) _).alloc (by simp; omega) _).alloc (by simp; omega) _).alloc (by simp; omega) _)
  have HW := Lib.hid (show DoW w A x.op x.a x.b x.imm x W from ⟨R0.out, R1.out, R2.out, R3.out, R4.out, Nat.le_of_eq RS.out.symm, RB.out⟩)
  clear R0 R2 R3 R4 RS RB
  unfold zero19 effA stA at hW
  rw [← hW]
  clear hW
  have c0 : W.cell? ⟨w.heap.size + 1, 0, none⟩ = some (.int .u8 x.op) := cell_of_row W _ 0 _ _ _ R1.out
  have c1 : W.cell? ⟨w.heap.size + 1, 1, none⟩ = some (.int .u8 x.a) := cell_of_row W _ 1 _ _ _ R1.out
  have c2 : W.cell? ⟨w.heap.size + 1, 2, none⟩ = some (.int .u8 x.b) := cell_of_row W _ 2 _ _ _ R1.out
  have c3 : W.cell? ⟨w.heap.size + 1, 3, none⟩ = some (.int .i32 x.imm) := cell_of_row W _ 3 _ _ _ R1.out
  clear hA9
  have hneq := neqF
  go_wp2_with fail
  refine (HM.out _).mono ?_
  rintro e w2 ⟨rfl, hb2⟩
  have HWX := Lib.hid (HW.out.below hb2)
  clear hb2 c0 c1 c2 c3 R1 HW
  go_wp2_with fail
  refine leaves_cons (f := 16) (args := #[.pointer (some ⟨w.heap.size, 0, none⟩), .pointer (some ⟨w.heap.size + 1 + 1, 0, none⟩), .pointer (some ⟨w.heap.size + 1 + 1 + 1, 0, none⟩)]) (by simp) (by simp [go_sem]) ?_
  have hHW := HWX.out
  refine (catch_panic w.heap.size (w.heap.size + 1 + 1) (w.heap.size + 1 + 1 + 1) A zero19 (effA 0) 1 _ HSZ.out rfl rfl HS1.out hHW.1 hHW.2.2.1 hHW.2.2.2.1 (by omega) (by omega) (by omega)).mono ?_
  rintro e u' w'' ⟨rfl, rfl, p1, p2, p3, p4, p5, p6, p7⟩
  refine ⟨_, results_two rfl _ _ _ _ _ _ rfl rfl p1 p2 Try.underlying25 Try.underlying29 rfl rfl (by rw [HSZ.out]; kernel_rfl) (by kernel_rfl), rfl, ?_⟩
  exact hHW.2.2.2.2.2.2.trans ⟨p3, p4, p5, p6, fun k hk => p7 k (by have := hHW.2.2.2.2.2.1; omega) (by omega) (by omega)⟩

set_option maxRecDepth 100000 in
set_option maxHeartbeats 8000000 in
theorem do_forbidden (x : DX) (N : Nat) (hx : x.start) (hu : x.user = (bits .and .u32 x.ps 1 != 0)) (w : World) (h0 : 0 ≤ x.op) (h1 : x.op < 256) (h2 : 0 ≤ x.a) (h3 : x.a < 256) (h4 : 0 ≤ x.b) (h5 : x.b < 256) (h6 : -2147483648 ≤ x.imm) (h7 : x.imm < 2147483648)
    (hm : Isa.mayB (Isa.fm x.op false) x.a x.b x.imm = true)
    (hcf : ∀ (args : Array Value) (w : World), (callFunc N args).run Try.prog w = .ok (.enter N args) w)
    (hp : ∀ b, pickV b x.op = .func (.func N) #[.pointer (some ⟨b, 0, none⟩)] #[])
    (hM : ∀ b w, DocAt w b x → Calls Try.prog N #[.pointer (some ⟨b, 0, none⟩)] w fun e w' => e = .panicked (givesUp 2) ∧ w = w') :
    Calls Try.prog 9 #[.agg x.st, Isa.insV x.op x.a x.b x.imm, .int .u32 x.inp] w fun e w' =>
      e = .returned (.tuple #[.agg x.st, .agg (effA 2)]) ∧ Below w.heap.size w w' := by
  have hmf : ∀ (fn : Fn) (first cap : Array Value) (w : World), (Instr.makeFunc fn first cap).run Try.prog w = .ok (.func fn first cap) w := fun _ _ _ _ => rfl
  have HBD := Lib.hid (built_doc x hx)
  have HM := Lib.hid fun w => Isa.may_c x.op x.a x.b x.imm false w h0 h1 h2 h3 h4 h5 h6 h7
  rw [hm] at HM
  have HK := Lib.hid fun (b : Nat) (w : World) h => pick_c b x w h
  have hA9 : x.st[9]? = some (.int .u32 x.ps) := rfl
  have HSZ := Lib.hid (st_size x)
  have HS1 := Lib.hid (st_one x)
  have HU := Lib.hid hu
  have HP := Lib.hid hp
  have HMM := Lib.hid hM
  clear hm hp hM hu hx
  obtain ⟨A, hA⟩ : ∃ A, A = x.st := ⟨_, rfl⟩
  rw [← hA] at HBD hA9 HSZ HS1 ⊢
  clear hA
  obtain ⟨D, hD⟩ : ∃ D, D = docA x := ⟨_, rfl⟩
  rw [← hD] at HBD
  have HD := Lib.hid hD
  clear hD
  unfold Isa.insV at HM ⊢
  go_enter_defers Try.func9, Try.ntmps9
  go_wp2_with (first
    | ((with_reducible show wpList _ _ _ (Oper.mk _ (.load 25 _) _ _ _ _ :: _) _ _); refine wpList_load_row rfl 25 _ rfl _ rfl 25 _ (0, 0) _ (by first | (refine heap_old' (heap_old' (heap_old' (heap_new' ?_))); simp; done)) Try.underlying25 rfl (by rw [HSZ.out]; kernel_rfl) ?_)
    | ((with_reducible show wpList _ _ _ (Oper.mk _ (.build 48 _) _ _ _ _ :: _) _ _); refine wpList_buildTo rfl 48 _ rfl _ rfl D ?hbuilt ?_))
  case hbuilt => rw [← HU.out]; exact HBD.out
  refine (HK.out _ _ (by unfold DocAt; rw [← HD.out]; exact heap_new' (by simp))).mono ?_
  rintro e w' ⟨rfl, rfl⟩
  rw [HP.out]
  obtain ⟨W, hW⟩ : ∃ W, W = (((((w.alloc (.cells A 25)).alloc (.cells #[.int .u8 x.op, .int .u8 x.a, .int .u8 x.b, .int .i32 x.imm] 27)).alloc (.cells zero19 25)).alloc (.cells (effA 0) 29)).alloc (.cells D 48)) := ⟨_, rfl⟩
  have R0 := Lib.hid (show W.heap[w.heap.size]? = some (.cells A 25 (0, 0)) from by rw [hW]; exact heap_old' (heap_old' (heap_old' (heap_old' (heap_new' rfl)))))
  have R1 := Lib.hid (show W.heap[w.heap.size + 1]? = some (.cells #[.int .u8 x.op, .int .u8 x.a, .int .u8 x.b, .int .i32 x.imm] 27 (0, 0)) from by rw [hW]; exact heap_old' (heap_old' (heap_old' (heap_new' (by simp)))))
  have R2 := Lib.hid (show W.heap[w.heap.size + 1 + 1]? = some (.cells zero19 25 (0, 0)) from by rw [hW]; exact heap_old' (heap_old' (heap_new' (by simp))))
  have R3 := Lib.hid (show W.heap[w.heap.size + 1 + 1 + 1]? = some (.cells (effA 0) 29 (0, 0)) from by rw [hW]; exact heap_old' (heap_new' (by simp)))
  have R4 := Lib.hid (show DocAt W (w.heap.size + 1 + 1 + 1 + 1) x from by rw [hW]; unfold DocAt; rw [← HD.out]; exact heap_new' (by simp))
  have RS := Lib.hid (show W.heap.size = w.heap.size + 5 from by rw [hW]; simp)
  have RB := Lib.hid (show Below w.heap.size w W from by
    rw [hW]; exact ((((below_alloc1 w _).alloc (by simp) _).alloc (by simp; omega) _).alloc (by simp; omega) _).alloc (by simp; omega) _)
  have HW := Lib.hid (show DoW w A x.op x.a x.b x.imm x W from ⟨R0.out, R1.out, R2.out, R3.out, R4.out, Nat.le_of_eq RS.out.symm, RB.out⟩)
  clear R0 R2 R3 R4 RS RB
  unfold zero19 effA stA at hW
  rw [← hW]
  clear hW
  have c0 : W.cell? ⟨w.heap.size + 1, 0, none⟩ = some (.int .u8 x.op) := cell_of_row W _ 0 _ _ _ R1.out
  have c1 : W.cell? ⟨w.heap.size + 1, 1, none⟩ = some (.int .u8 x.a) := cell_of_row W _ 1 _ _ _ R1.out
  have c2 : W.cell? ⟨w.heap.size + 1, 2, none⟩ = some (.int .u8 x.b) := cell_of_row W _ 2 _ _ _ R1.out
  have c3 : W.cell? ⟨w.heap.size + 1, 3, none⟩ = some (.int .i32 x.imm) := cell_of_row W _ 3 _ _ _ R1.out
  clear hA9
  have hneq := neqF
  go_wp2_with fail
  refine (HM.out _).mono ?_
  rintro e w2 ⟨rfl, hb2⟩
  have HWX := Lib.hid (HW.out.below hb2)
  clear hb2 c0 c1 c2 c3 R1 HW
  go_wp2_with fail
  refine (HMM.out _ _ HWX.out.2.2.2.2.1).mono ?_
  rintro e w3 ⟨rfl, rfl⟩
  refine leaves_cons (f := 16) (args := #[.pointer (some ⟨w.heap.size, 0, none⟩), .pointer (some ⟨w.heap.size + 1 + 1, 0, none⟩), .pointer (some ⟨w.heap.size + 1 + 1 + 1, 0, none⟩)]) (by simp) (by simp [go_sem]) ?_
  have hHW := HWX.out
  refine (catch_panic w.heap.size (w.heap.size + 1 + 1) (w.heap.size + 1 + 1 + 1) A zero19 (effA 0) 2 _ HSZ.out rfl rfl HS1.out hHW.1 hHW.2.2.1 hHW.2.2.2.1 (by omega) (by omega) (by omega)).mono ?_
  rintro e u' w'' ⟨rfl, rfl, p1, p2, p3, p4, p5, p6, p7⟩
  refine ⟨_, results_two rfl _ _ _ _ _ _ rfl rfl p1 p2 Try.underlying25 Try.underlying29 rfl rfl (by rw [HSZ.out]; kernel_rfl) (by kernel_rfl), rfl, ?_⟩
  exact hHW.2.2.2.2.2.2.trans ⟨p3, p4, p5, p6, fun k hk => p7 k (by have := hHW.2.2.2.2.2.1; omega) (by omega) (by omega)⟩

end Go.Proofs.Ytlgnhjalhfednaa
