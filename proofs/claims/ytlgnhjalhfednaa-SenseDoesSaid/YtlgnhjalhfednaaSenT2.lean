/- The document's Do (mummerref09): instructions. (Written by mkSR.py.) -/
import Derived.Test.YtlgnhjalhfednaaSenS
import Derived.BigRegion
namespace Go.Proofs.Ytlgnhjalhfednaa
open Go.RowKit
set_option linter.unusedSimpArgs false
set_option linter.unusedVariables false
set_option maxRecDepth 100000
set_option maxHeartbeats 8000000 in
theorem rd_rdps_s (r : Nat → Int) (pc ps : Int) (cr : Nat → Int) (h : Bool) (a b imm inp : Int) (w : World) (h2 : 0 ≤ a) (h3 : a < 8) (h4 : 0 ≤ b) (h5 : b < 8) (h6 : -2147483648 ≤ imm) (h7 : imm < 2147483648) (g0 : 0 ≤ pc) (g1 : pc < 4294967296) (g2 : 0 ≤ ps) (g3 : ps < 4294967296) (hr : ∀ k, 0 ≤ r k ∧ r k < 4294967296) (hc : ∀ k, 0 ≤ cr k ∧ cr k < 4294967296) (hm : Isa.mayB (Isa.fm 96 false) a b imm = true) (hu : (ps % 2 == 1) = false) :
    Calls Try.prog 10 #[.agg (stA r pc ps cr h), .agg #[.int .u8 96, .int .u8 a, .int .u8 b, .int .i32 imm], .int .u32 inp] w fun e w' => e = .returned (.tuple #[.agg (stA (updN r a.toNat ps) ((pc + (Isa.fm 96 false).n) % 4294967296) (ps) (cr) (h)), .agg #[.int .i64 0, .bool false, .bool false, .int .i64 0, .int .u32 0]]) ∧ Below w.heap.size w w' := by
  have hM := fun w => Isa.refMay_c 96 a b imm false w (by decide) (by decide) h2 (by omega) h4 (by omega) h6 h7
  rw [hm] at hM
  have hO := fun w => Isa.refOf_c 96 false w (by decide) (by decide)
  obtain ⟨n, hn, n0, n1⟩ : ∃ n, (Isa.fm 96 false).n = n ∧ 0 ≤ n ∧ n ≤ 6 := ⟨_, rfl, (fm_n _).1, (fm_n _).2⟩
  have hp1 : IntKind.u32.wrap n = n := by rw [IntKind.wrap_u32]; omega
  obtain ⟨pn, hpn, hpv⟩ : ∃ pn, IntKind.u32.wrap (pc + n) = pn ∧ (pc + (Isa.fm 96 false).n) % 4294967296 = pn := ⟨_, rfl, by rw [hn, IntKind.wrap_u32]⟩
  have HI := Lib.hid fun w => is_yes 96 w (by unfold senseOp; omega)
  unfold Isa.insV at hM
  unfold Isa.Fm.rval at hO
  rw [hn] at hO
  generalize decide ((Isa.fm 96 false).a = 1) = x1 at hO
  generalize decide ((Isa.fm 96 false).b = 1) = x2 at hO
  generalize (Isa.fm 96 false).k = x3 at hO
  generalize decide ((Isa.fm 96 false).s = 1) = x4 at hO
  have hfl : ∀ w, (Instr.field 53 (.agg #[.int .i64 n, .bool x1, .bool x2, .int .i64 x3, .bool x4]) 0).run Try.prog w = .ok (.int .i64 n) w := fun _ => by kernel_rfl
  try rw [hpv]
  have HM := Lib.hid hM
  have HO := Lib.hid hO
  have z0 : (stA r pc ps cr h).size = 19 := rfl
  have o0 : (stA r pc ps cr h).all (·.oneCell') = true := by simp [stA, Value.oneCell']
  have A8 : Hid ((stA r pc ps cr h)[8]? = some (.int .u32 pc)) := Lib.hid rfl
  have A9 : Hid ((stA r pc ps cr h)[9]? = some (.int .u32 ps)) := Lib.hid rfl
  have H8 : Hid ((stA r pc ps cr h).setIfInBounds 8 (.int .u32 pn) = stA r pn ps cr h) := Lib.hid rfl
  have T9 : Hid ((stA r pn ps cr h)[8]? = some (.int .u32 pn)) := Lib.hid rfl
  obtain ⟨y0, hy0⟩ : ∃ y, (stA r pn ps cr h)[a.toNat]? = some y := ⟨_, by first | rfl | exact stA_R _ _ _ _ _ (by omega) | exact stA_C _ _ _ _ _ (by omega)⟩
  have Y0 := Lib.hid hy0
  have zF : (stA (updN r a.toNat ps) (pn) (ps) (cr) (h)).size = 19 := rfl
  have oF : (stA (updN r a.toNat ps) (pn) (ps) (cr) (h)).all (·.oneCell') = true := by simp [stA, Value.oneCell']
  obtain ⟨F, hFe⟩ : ∃ F, stA (updN r a.toNat ps) (pn) (ps) (cr) (h) = F := ⟨_, rfl⟩
  have HF : Hid (((stA r pn ps cr h).setIfInBounds (a.toNat) (.int .u32 ps)) = F) := Lib.hid (by rw [← hFe]; first | rfl | exact stA_setR _ _ _ _ _ (by omega) _ | exact stA_setC _ _ _ _ _ (by omega) _ | (rw [stA_setR _ _ _ _ _ (by omega), stA_setR _ _ _ _ _ (by omega)]; congr 1; funext j; simp only [updN]; split <;> rfl))
  rw [hFe] at zF oF ⊢
  have ZF := Lib.hid zF
  have OF := Lib.hid oF
  clear zF oF hFe
  generalize stA r pn ps cr h = A1 at H8 T9 HF Y0
  generalize stA r pc ps cr h = A at z0 o0 A8 A9 H8 ⊢
  have Z0 := Lib.hid z0
  have O0 := Lib.hid o0
  have ra := hr a.toNat
  have cb := hc b.toNat
  have c3 := hc 3
  clear z0 o0 hM hO hpv hm hn hr hc hy0
  go_enter Try.func10, Try.ntmps10
  go_wp2_with fail
  refine (HM.out _).mono ?_
  rintro e w1 ⟨rfl, hb1⟩
  have HS1 : Hid (RfS w A #[.int .u8 96, .int .u8 a, .int .u8 b, .int .i32 imm] w1) := Lib.hid (by
    refine RfS.next ?_ hb1
    exact ⟨heap_old' (heap_old' (heap_old' (heap_new' rfl))), heap_old' (heap_old' (heap_new' (by simp))), heap_old' (heap_new' (by simp)), heap_new' (by simp), (((below_alloc1 w _).alloc (by simp) _).alloc (by simp; omega) _).alloc (by simp; omega) _, by simp⟩)
  clear hb1
  have hs0 : w.heap.size < w1.heap.size := by have := HS1.out.size; omega
  have hs0' : w.heap.size + 1 < w1.heap.size := by have := HS1.out.size; omega
  have i0 : w1.cell? ⟨w.heap.size + 1, 0, none⟩ = some (.int .u8 96) := (cell_of_row w1 _ 0 _ _ _ HS1.out.i).trans rfl
  have a9 : w1.cell? ⟨w.heap.size, 9, none⟩ = some (.int .u32 ps) := (cell_of_row w1 _ 9 _ _ _ HS1.out.a).trans A9.out
  go_wp2_with fail
  refine (HI.out _).mono ?_
  rintro e w1' ⟨rfl, rfl⟩
  go_wp2_with (first
    | ((with_reducible show wpList _ _ _ (Oper.mk _ (.load 25 _) _ _ _ _ :: _) _ _); refine wpList_load_row rfl 25 _ rfl _ rfl 25 _ (0, 0) _ (by exact HS1.out.a) Try.underlying25 rfl (by rw [Z0.out]; kernel_rfl) ?_)
    | ((with_reducible show wpList _ _ _ (Oper.mk _ (.store 25 _ _) _ _ _ _ :: _) _ _); refine wpList_store_at rfl 25 _ _ rfl rfl _ A rfl rfl 25 _ (by refine heap_new' ?_; simp; done) (by rw [Z0.out]; kernel_rfl) (by rw [Z0.out]; rfl) O0.out _ (by refine setRow_new' _ _ _ _ _ ?_; simp; done) ?_))
  refine wp_region_held_drew (S := fun w' => RfS w A #[.int .u8 96, .int .u8 a, .int .u8 b, .int .i32 imm] w') (by kernel_rfl) (RfS.drew (RfS.next HS1.out (below_alloc1 w1 _))) (fun hHeld => ?_)
  refine wpAnyH_take (i := 0) (oi := { dst := some 27, op := Op.fieldAddr _ (Operand.tmp 3) 1, type := _, pos := "ref.go:22", after := #[], guard := none }) (v := .pointer (some ⟨w.heap.size, 8, none⟩)) rfl (by kernel_rfl) (by kernel_rfl) (by kernel_rfl) (fun _ _ _ h => h) (Or.inl ⟨by rfl, ?_⟩) hHeld ?_
  · intro w' hSw
    have k0 : w'.cell? ⟨w.heap.size + 1, 0, none⟩ = some (.int .u8 96) := (cell_of_row w' _ 0 _ _ _ hSw.i).trans rfl
    have k8 : w'.cell? ⟨w.heap.size, 8, none⟩ = some (.int .u32 pc) := (cell_of_row w' _ 8 _ _ _ hSw.a).trans A8.out
    go_simp
  try simp only [Act.put, List.setIfInBounds_toArray, List.set_cons_zero, List.set_cons_succ]
  refine wpAnyH_take (i := 1) (oi := { dst := some 28, op := Op.load _ (Operand.tmp 27), type := _, pos := "ref.go:22", after := #[{ on := 0, ground := Ground.data }], guard := none }) (v := .int .u32 pc) rfl (by kernel_rfl) (by kernel_rfl) (by kernel_rfl) (fun _ _ _ h => h) (Or.inl ⟨by rfl, ?_⟩) hHeld ?_
  · intro w' hSw
    have k0 : w'.cell? ⟨w.heap.size + 1, 0, none⟩ = some (.int .u8 96) := (cell_of_row w' _ 0 _ _ _ hSw.i).trans rfl
    have k8 : w'.cell? ⟨w.heap.size, 8, none⟩ = some (.int .u32 pc) := (cell_of_row w' _ 8 _ _ _ hSw.a).trans A8.out
    go_simp
  try simp only [Act.put, List.setIfInBounds_toArray, List.set_cons_zero, List.set_cons_succ]
  refine wpAnyH_take (i := 2) (oi := { dst := some 29, op := Op.fieldAddr _ (Operand.tmp 4) 0, type := _, pos := "ref.go:22", after := #[], guard := none }) (v := .pointer (some ⟨w.heap.size + 1, 0, none⟩)) rfl (by kernel_rfl) (by kernel_rfl) (by kernel_rfl) (fun _ _ _ h => h) (Or.inl ⟨by rfl, ?_⟩) hHeld ?_
  · intro w' hSw
    have k0 : w'.cell? ⟨w.heap.size + 1, 0, none⟩ = some (.int .u8 96) := (cell_of_row w' _ 0 _ _ _ hSw.i).trans rfl
    have k8 : w'.cell? ⟨w.heap.size, 8, none⟩ = some (.int .u32 pc) := (cell_of_row w' _ 8 _ _ _ hSw.a).trans A8.out
    go_simp
  try simp only [Act.put, List.setIfInBounds_toArray, List.set_cons_zero, List.set_cons_succ]
  refine wpAnyH_take (i := 3) (oi := { dst := some 30, op := Op.load _ (Operand.tmp 29), type := _, pos := "ref.go:22", after := #[{ on := 2, ground := Ground.data }], guard := none }) (v := .int .u8 96) rfl (by kernel_rfl) (by kernel_rfl) (by kernel_rfl) (fun _ _ _ h => h) (Or.inl ⟨by rfl, ?_⟩) hHeld ?_
  · intro w' hSw
    have k0 : w'.cell? ⟨w.heap.size + 1, 0, none⟩ = some (.int .u8 96) := (cell_of_row w' _ 0 _ _ _ hSw.i).trans rfl
    have k8 : w'.cell? ⟨w.heap.size, 8, none⟩ = some (.int .u32 pc) := (cell_of_row w' _ 8 _ _ _ hSw.a).trans A8.out
    go_simp
  try simp only [Act.put, List.setIfInBounds_toArray, List.set_cons_zero, List.set_cons_succ]
  refine wpAnyH_ready (rs := [4]) (by kernel_rfl) (by simp) ?_
  refine AllReadyH.cons (o := { dst := some 31, op := Op.call { callee := Callee.value (Operand.func _), args := #[Operand.tmp 30, Operand.const (Value.bool false)], argTypes := _ }, type := _, pos := "ref.go:22", after := #[{ on := 3, ground := Ground.data }], guard := none }) rfl (fun K hK => ?_) AllReadyH.nil
  go_simp
  go_at_call 22
  refine (HO.out _).mono ?_
  rintro e w3 ⟨rfl, hb3⟩
  have rT : w3.heap[w1.heap.size]? = some (.cells A 25 (0, 0)) := (hb3.block _ (by simp)).trans (heap_drew' (heap_new' rfl))
  have hs3 : w1.heap.size < w3.heap.size := by have := hb3.size; simp at this; omega
  refine hK.out _ _ (hHeld.next hb3) (fun hHeld => ?_)
  have t8 : w3.cell? ⟨w1.heap.size, 8, none⟩ = some (.int .u32 pc) := (cell_of_row w3 _ 8 _ _ _ rT).trans A8.out
  have f8 := row_free rT 8
  clear hK K hb3
  try simp only [Act.put, List.setIfInBounds_toArray, List.set_cons_zero, List.set_cons_succ]
  refine wpAnyH_take (i := 5) (oi := { dst := some 32, op := Op.field _ (Operand.tmp 31) 0, type := _, pos := "ref.go:22", after := #[{ on := 4, ground := Ground.data }], guard := none }) (v := .int .i64 n) rfl (by kernel_rfl) (by kernel_rfl) (by kernel_rfl) (fun _ _ _ h => h) (Or.inl ⟨by rfl, ?_⟩) hHeld ?_
  · intro w' hSw
    have k0 : w'.cell? ⟨w.heap.size + 1, 0, none⟩ = some (.int .u8 96) := (cell_of_row w' _ 0 _ _ _ hSw.i).trans rfl
    have k8 : w'.cell? ⟨w.heap.size, 8, none⟩ = some (.int .u32 pc) := (cell_of_row w' _ 8 _ _ _ hSw.a).trans A8.out
    go_simp
  try simp only [Act.put, List.setIfInBounds_toArray, List.set_cons_zero, List.set_cons_succ]
  refine wpAnyH_take (i := 6) (oi := { dst := some 33, op := Op.convert _ _ (Operand.tmp 32), type := _, pos := "ref.go:22", after := #[{ on := 5, ground := Ground.data }], guard := none }) (v := .int .u32 n) rfl (by kernel_rfl) (by kernel_rfl) (by kernel_rfl) (fun _ _ _ h => h) (Or.inl ⟨by rfl, ?_⟩) hHeld ?_
  · intro w' hSw
    have k0 : w'.cell? ⟨w.heap.size + 1, 0, none⟩ = some (.int .u8 96) := (cell_of_row w' _ 0 _ _ _ hSw.i).trans rfl
    have k8 : w'.cell? ⟨w.heap.size, 8, none⟩ = some (.int .u32 pc) := (cell_of_row w' _ 8 _ _ _ hSw.a).trans A8.out
    go_simp
  try simp only [Act.put, List.setIfInBounds_toArray, List.set_cons_zero, List.set_cons_succ]
  refine wpAnyH_take (i := 7) (oi := { dst := some 34, op := Op.binOp BinOp.add _ (Operand.tmp 28) (Operand.tmp 33) _, type := _, pos := "ref.go:22", after := #[{ on := 1, ground := Ground.data }, { on := 6, ground := Ground.data }], guard := none }) (v := .int .u32 pn) rfl (by kernel_rfl) (by kernel_rfl) (by kernel_rfl) (fun _ _ _ h => h) (Or.inl ⟨by rfl, ?_⟩) hHeld ?_
  · intro w' hSw
    have k0 : w'.cell? ⟨w.heap.size + 1, 0, none⟩ = some (.int .u8 96) := (cell_of_row w' _ 0 _ _ _ hSw.i).trans rfl
    have k8 : w'.cell? ⟨w.heap.size, 8, none⟩ = some (.int .u32 pc) := (cell_of_row w' _ 8 _ _ _ hSw.a).trans A8.out
    go_simp
  try simp only [Act.put, List.setIfInBounds_toArray, List.set_cons_zero, List.set_cons_succ]
  refine wpAnyH_take (i := 8) (oi := { dst := some 35, op := Op.fieldAddr _ (Operand.tmp 8) 1, type := _, pos := "ref.go:22", after := #[{ on := 0, ground := Ground.phase }, { on := 1, ground := Ground.phase }, { on := 2, ground := Ground.phase }, { on := 3, ground := Ground.phase }, { on := 4, ground := Ground.phase }, { on := 5, ground := Ground.phase }, { on := 6, ground := Ground.phase }, { on := 7, ground := Ground.phase }], guard := none }) (v := .pointer (some ⟨w1.heap.size, 8, none⟩)) rfl (by kernel_rfl) (by kernel_rfl) (by kernel_rfl) (fun _ _ _ h => h) (Or.inl ⟨by rfl, ?_⟩) hHeld ?_
  · intro w' hSw
    have k0 : w'.cell? ⟨w.heap.size + 1, 0, none⟩ = some (.int .u8 96) := (cell_of_row w' _ 0 _ _ _ hSw.i).trans rfl
    have k8 : w'.cell? ⟨w.heap.size, 8, none⟩ = some (.int .u32 pc) := (cell_of_row w' _ 8 _ _ _ hSw.a).trans A8.out
    go_simp
  try simp only [Act.put, List.setIfInBounds_toArray, List.set_cons_zero, List.set_cons_succ]
  refine wpAnyH_ready (rs := [9]) (by kernel_rfl) (by simp) ?_
  refine AllReadyH.cons (o := { dst := none, op := Op.store _ (Operand.tmp 35) (Operand.tmp 34), type := _, pos := "ref.go:22", after := #[{ on := 8, ground := Ground.data }, { on := 7, ground := Ground.data }, { on := 4, ground := Ground.chain }, { on := 0, ground := Ground.phase }, { on := 1, ground := Ground.phase }, { on := 2, ground := Ground.phase }, { on := 3, ground := Ground.phase }, { on := 4, ground := Ground.phase }, { on := 5, ground := Ground.phase }, { on := 6, ground := Ground.phase }, { on := 7, ground := Ground.phase }], guard := none }) rfl (fun K hK => ?_) AllReadyH.nil
  go_simp
  refine hK.out _ _ (hHeld.set _ 8 _ HS1.out.size) (fun hHeld => ?_)
  clear hK K
  try simp only [Act.put, List.setIfInBounds_toArray, List.set_cons_zero, List.set_cons_succ]
  refine wpAnyH_done (by kernel_rfl) ?_ _
  have rT4 := row_setC rT 8 (.int .u32 pn)
  rw [H8.out] at rT4
  have hs4 : w1.heap.size < (w3.setCell ⟨w1.heap.size, 8, none⟩ (.int .u32 pn)).heap.size := by simpa using hs3
  have HS4 := Lib.hid hHeld
  have RT4 := Lib.hid rT4
  clear rT t8 f8 hHeld i0 a9 hs3 rT4 hs0 hs0'
  generalize w3.setCell ⟨w1.heap.size, 8, none⟩ (.int .u32 pn) = w4 at HS4 RT4 hs4 ⊢
  have hs1 := HS1.out.size
  clear HS1
  generalize w1.heap.size = b1 at RT4 hs4 hs1 ⊢
  have i0 : w4.cell? ⟨w.heap.size + 1, 0, none⟩ = some (.int .u8 96) := (cell_of_row w4 _ 0 _ _ _ HS4.out.i).trans rfl
  have i1 : w4.cell? ⟨w.heap.size + 1, 1, none⟩ = some (.int .u8 a) := (cell_of_row w4 _ 1 _ _ _ HS4.out.i).trans rfl
  have i2 : w4.cell? ⟨w.heap.size + 1, 2, none⟩ = some (.int .u8 b) := (cell_of_row w4 _ 2 _ _ _ HS4.out.i).trans rfl
  have a9 : w4.cell? ⟨w.heap.size, 9, none⟩ = some (.int .u32 ps) := (cell_of_row w4 _ 9 _ _ _ HS4.out.a).trans A9.out
  have t8 : w4.cell? ⟨b1, 8, none⟩ = some (.int .u32 pn) := (cell_of_row w4 _ 8 _ _ _ RT4.out).trans T9.out
  have f8 := row_free RT4.out 8
  have hs5 : w.heap.size < w4.heap.size := by have := HS4.out.size; omega
  have hs6 : w.heap.size + 1 < w4.heap.size := by have := HS4.out.size; omega
  have ne1 : b1 ≠ w.heap.size := by omega
  have ne2 : b1 ≠ w.heap.size + 1 := by omega
  have ne3 : w.heap.size ≠ b1 := by omega
  have ne4 : w.heap.size + 1 ≠ b1 := by omega
  have ne5 : w4.heap.size ≠ b1 := by omega
  have ne6 : b1 ≠ w4.heap.size := by omega
  have ne7 : w4.heap.size ≠ w.heap.size := by have := HS4.out.size; omega
  have ne8 : w4.heap.size ≠ w.heap.size + 1 := by have := HS4.out.size; omega
  have t0_ : w4.cell? ⟨b1, a.toNat, none⟩ = some y0 := (cell_of_row w4 _ (a.toNat) _ _ _ RT4.out).trans Y0.out
  have f0_ := row_free RT4.out (a.toNat)
  go_wp2_with fail
  refine wp_world (fun w6 => w6.heap[b1]? = some (.cells F 25 (0, 0)) ∧ w6.heap[w4.heap.size]? = some (.cells #[.int .i64 0, .bool false, .bool false, .int .i64 0, .int .u32 0] 29 (0, 0)) ∧ RfS w A #[.int .u8 96, .int .u8 a, .int .u8 b, .int .i32 imm] w6) ⟨?_, ?_, ?_⟩ (fun w6 h6 => ?_)
  · rw [← HF.out]
    first | exact heap_drew' (heap_old' (row_setC (row_setC RT4.out _ _) _ _)) | exact heap_old' (row_setC (row_setC RT4.out _ _) _ _) | exact heap_drew' (heap_old' (row_setC RT4.out _ _)) | exact heap_old' (row_setC RT4.out _ _) | exact heap_old' RT4.out
  · first | exact heap_drew' (heap_new' (by simp)) | exact heap_new' (by simp)
  · first | exact RfS.drew (RfS.next ((HS4.out.set _ _ _ hs1).set _ _ _ hs1) (below_alloc1 _ _)) | exact RfS.next ((HS4.out.set _ _ _ hs1).set _ _ _ hs1) (below_alloc1 _ _) | exact RfS.drew (RfS.next (HS4.out.set _ _ _ hs1) (below_alloc1 _ _)) | exact RfS.next (HS4.out.set _ _ _ hs1) (below_alloc1 _ _) | exact RfS.next HS4.out (below_alloc1 _ _)
  obtain ⟨rT6, rE6, hS6⟩ := h6
  have HS6 := Lib.hid hS6
  have zf := ZF.out
  have hz5 : (Try.prog.info? 29).map (·.size) = some (#[.int .i64 0, .bool false, .bool false, .int .i64 0, .int .u32 0] : Array Value).size := by kernel_rfl
  have hE1 : (#[.int .i64 0, .bool false, .bool false, .int .i64 0, .int .u32 0] : Array Value).all (·.oneCell') = true := by simp [Value.oneCell']
  have nE1 : w4.heap.size ≠ w.heap.size + 1 + 1 := by have := HS4.out.size; omega
  have nE2 : w4.heap.size ≠ w.heap.size + 1 + 1 + 1 := by have := HS4.out.size; omega
  have nT1 : b1 ≠ w.heap.size + 1 + 1 := by omega
  have nT2 : b1 ≠ w.heap.size + 1 + 1 + 1 := by omega
  clear hS6 i0 i1 i2 a9 t8 f8
  refine wp_region_held_drew (S := fun w' => w'.heap[b1]? = some (.cells F 25 (0, 0)) ∧ w'.heap[w4.heap.size]? = some (.cells #[.int .i64 0, .bool false, .bool false, .int .i64 0, .int .u32 0] 29 (0, 0))) (by kernel_rfl) ⟨rT6, rE6⟩ (fun hHeld => ?_)
  refine wpAnyH_take (i := 0) (oi := { dst := some 191, op := Op.load _ (Operand.tmp 8), type := _, pos := "ref.go:64", after := #[], guard := none }) (v := .agg F) rfl (by kernel_rfl) (by kernel_rfl) (by kernel_rfl) (fun _ _ _ h => h) (yields_stR (by rfl) _ rfl b1 rfl F zf (fun w' h => h.1)) hHeld ?_
  try simp only [Act.put, List.setIfInBounds_toArray, List.set_cons_zero, List.set_cons_succ]
  refine wpAnyH_take (i := 1) (oi := { dst := some 192, op := Op.load _ (Operand.tmp 10), type := _, pos := "ref.go:64", after := #[{ on := 2, ground := Ground.gcOnly Departure.lateStores }], guard := none }) (v := .agg #[.int .i64 0, .bool false, .bool false, .int .i64 0, .int .u32 0]) rfl (by kernel_rfl) (by kernel_rfl) (by kernel_rfl) (fun _ _ _ h => h) (Or.inl ⟨by rfl, ?_⟩) hHeld ?_
  · intro w' hSw
    have k0 := cell_of_row w' _ 0 _ _ _ hSw.2
    have k1 := cell_of_row w' _ 1 _ _ _ hSw.2
    have k2 := cell_of_row w' _ 2 _ _ _ hSw.2
    have k3 := cell_of_row w' _ 3 _ _ _ hSw.2
    have k4 := cell_of_row w' _ 4 _ _ _ hSw.2
    simp at k0 k1 k2 k3 k4
    go_simp
  try simp only [Act.put, List.setIfInBounds_toArray, List.set_cons_zero, List.set_cons_succ]
  refine wpAnyH_ready (rs := [2]) (by kernel_rfl) (by simp) ?_
  refine AllReadyH.cons (o := { dst := none, op := Op.store _ (Operand.tmp 6) (Operand.tmp 191), type := _, pos := "ref.go:64", after := #[{ on := 0, ground := Ground.data }, { on := 0, ground := Ground.phase }, { on := 1, ground := Ground.textOnly Departure.lateStores }], guard := none }) rfl (fun K hK => ?_) AllReadyH.nil
  rw [if_pos (by rfl)]
  have g0 : w6.drew.heap[w.heap.size + 1 + 1]? = some (.cells zero19 25 (0, 0)) := HS6.out.zs
  refine wp_store_st 25 _ _ rfl (w.heap.size + 1 + 1) F rfl rfl 25 zero19 g0 (by rw [ZF.out]; kernel_rfl) (by rw [ZF.out]; rfl) OF.out ?_
  have g1 := setRow_heap w6.drew (w.heap.size + 1 + 1) zero19 F _ _ g0
  have g2 : (w6.drew.setRow (w.heap.size + 1 + 1) F).heap[w.heap.size + 1 + 1 + 1]? = some (.cells (effA 0) 29 (0, 0)) := by rw [setRow_other _ _ _ _ (by omega)]; exact HS6.out.ze
  refine hK.out _ _ ⟨by rw [setRow_other _ _ _ _ nT1]; exact rT6, by rw [setRow_other _ _ _ _ nE1]; exact rE6⟩ (fun hHeld => ?_)
  clear hK K
  try simp only [Act.put, List.setIfInBounds_toArray, List.set_cons_zero, List.set_cons_succ]
  refine wpAnyH_ready (rs := [3]) (by kernel_rfl) (by simp) ?_
  refine AllReadyH.cons (o := { dst := none, op := Op.store _ (Operand.tmp 7) (Operand.tmp 192), type := _, pos := "ref.go:64", after := #[{ on := 1, ground := Ground.data }, { on := 2, ground := Ground.chain }, { on := 0, ground := Ground.phase }, { on := 1, ground := Ground.phase }, { on := 2, ground := Ground.phase }], guard := none }) rfl (fun K hK => ?_) AllReadyH.nil
  rw [if_pos (by rfl)]
  refine wp_store_st 29 _ _ rfl (w.heap.size + 1 + 1 + 1) #[.int .i64 0, .bool false, .bool false, .int .i64 0, .int .u32 0] rfl rfl 29 (effA 0) g2 hz5 rfl hE1 ?_
  have g3 := setRow_heap (w6.drew.setRow (w.heap.size + 1 + 1) F) (w.heap.size + 1 + 1 + 1) (effA 0) #[.int .i64 0, .bool false, .bool false, .int .i64 0, .int .u32 0] _ _ g2
  have g4 : ((w6.drew.setRow (w.heap.size + 1 + 1) F).setRow (w.heap.size + 1 + 1 + 1) #[.int .i64 0, .bool false, .bool false, .int .i64 0, .int .u32 0]).heap[w.heap.size + 1 + 1]? = some (.cells F 25 (0, 0)) := by rw [setRow_other _ _ _ _ (by omega)]; exact g1
  refine hK.out _ _ ⟨by rw [setRow_other _ _ _ _ nT2, setRow_other _ _ _ _ nT1]; exact rT6, by rw [setRow_other _ _ _ _ nE2, setRow_other _ _ _ _ nE1]; exact rE6⟩ (fun hHeld => ?_)
  clear hK K
  try simp only [Act.put, List.setIfInBounds_toArray, List.set_cons_zero, List.set_cons_succ]
  refine wpAnyH_done (by kernel_rfl) ?_ _
  have hB := below_setRow (below_setRow HS6.out.below.drew (w.heap.size + 1 + 1) (by omega) F) (w.heap.size + 1 + 1 + 1) (by omega) #[.int .i64 0, .bool false, .bool false, .int .i64 0, .int .u32 0]
  generalize (w6.drew.setRow (w.heap.size + 1 + 1) F).setRow (w.heap.size + 1 + 1 + 1) #[.int .i64 0, .bool false, .bool false, .int .i64 0, .int .u32 0] = w7 at g3 g4 hB ⊢
  have G3 := Lib.hid g3
  have G4 := Lib.hid g4
  have HB := Lib.hid hB
  clear hHeld g0 g1 g2 g3 g4 hB rT6 rE6
  go_wp2_with fail
  refine bodyPost_ret (v := .tuple #[.agg F, .agg #[.int .i64 0, .bool false, .bool false, .int .i64 0, .int .u32 0]]) (results_two rfl _ _ _ _ _ _ rfl rfl G4.out G3.out Try.underlying25 Try.underlying29 rfl rfl (by rw [ZF.out]; kernel_rfl) hz5) rfl ⟨rfl, HB.out⟩

set_option maxHeartbeats 8000000 in
theorem rd_rdps_u (r : Nat → Int) (pc ps : Int) (cr : Nat → Int) (h : Bool) (a b imm inp : Int) (w : World) (h2 : 0 ≤ a) (h3 : a < 8) (h4 : 0 ≤ b) (h5 : b < 8) (h6 : -2147483648 ≤ imm) (h7 : imm < 2147483648) (g0 : 0 ≤ pc) (g1 : pc < 4294967296) (g2 : 0 ≤ ps) (g3 : ps < 4294967296) (hr : ∀ k, 0 ≤ r k ∧ r k < 4294967296) (hc : ∀ k, 0 ≤ cr k ∧ cr k < 4294967296) (hm : Isa.mayB (Isa.fm 96 false) a b imm = true) (hu : (ps % 2 == 1) = true) :
    Calls Try.prog 10 #[.agg (stA r pc ps cr h), .agg #[.int .u8 96, .int .u8 a, .int .u8 b, .int .i32 imm], .int .u32 inp] w fun e w' => e = .returned (.tuple #[.agg (stA (updN r a.toNat ps) ((pc + (Isa.fm 96 false).n) % 4294967296) (ps) (cr) (h)), .agg #[.int .i64 0, .bool false, .bool false, .int .i64 0, .int .u32 0]]) ∧ Below w.heap.size w w' := by
  have hM := fun w => Isa.refMay_c 96 a b imm false w (by decide) (by decide) h2 (by omega) h4 (by omega) h6 h7
  rw [hm] at hM
  have hO := fun w => Isa.refOf_c 96 false w (by decide) (by decide)
  obtain ⟨n, hn, n0, n1⟩ : ∃ n, (Isa.fm 96 false).n = n ∧ 0 ≤ n ∧ n ≤ 6 := ⟨_, rfl, (fm_n _).1, (fm_n _).2⟩
  have hp1 : IntKind.u32.wrap n = n := by rw [IntKind.wrap_u32]; omega
  obtain ⟨pn, hpn, hpv⟩ : ∃ pn, IntKind.u32.wrap (pc + n) = pn ∧ (pc + (Isa.fm 96 false).n) % 4294967296 = pn := ⟨_, rfl, by rw [hn, IntKind.wrap_u32]⟩
  have HI := Lib.hid fun w => is_yes 96 w (by unfold senseOp; omega)
  unfold Isa.insV at hM
  unfold Isa.Fm.rval at hO
  rw [hn] at hO
  generalize decide ((Isa.fm 96 false).a = 1) = x1 at hO
  generalize decide ((Isa.fm 96 false).b = 1) = x2 at hO
  generalize (Isa.fm 96 false).k = x3 at hO
  generalize decide ((Isa.fm 96 false).s = 1) = x4 at hO
  have hfl : ∀ w, (Instr.field 53 (.agg #[.int .i64 n, .bool x1, .bool x2, .int .i64 x3, .bool x4]) 0).run Try.prog w = .ok (.int .i64 n) w := fun _ => by kernel_rfl
  try rw [hpv]
  have HM := Lib.hid hM
  have HO := Lib.hid hO
  have z0 : (stA r pc ps cr h).size = 19 := rfl
  have o0 : (stA r pc ps cr h).all (·.oneCell') = true := by simp [stA, Value.oneCell']
  have A8 : Hid ((stA r pc ps cr h)[8]? = some (.int .u32 pc)) := Lib.hid rfl
  have A9 : Hid ((stA r pc ps cr h)[9]? = some (.int .u32 ps)) := Lib.hid rfl
  have H8 : Hid ((stA r pc ps cr h).setIfInBounds 8 (.int .u32 pn) = stA r pn ps cr h) := Lib.hid rfl
  have T9 : Hid ((stA r pn ps cr h)[8]? = some (.int .u32 pn)) := Lib.hid rfl
  obtain ⟨y0, hy0⟩ : ∃ y, (stA r pn ps cr h)[a.toNat]? = some y := ⟨_, by first | rfl | exact stA_R _ _ _ _ _ (by omega) | exact stA_C _ _ _ _ _ (by omega)⟩
  have Y0 := Lib.hid hy0
  have zF : (stA (updN r a.toNat ps) (pn) (ps) (cr) (h)).size = 19 := rfl
  have oF : (stA (updN r a.toNat ps) (pn) (ps) (cr) (h)).all (·.oneCell') = true := by simp [stA, Value.oneCell']
  obtain ⟨F, hFe⟩ : ∃ F, stA (updN r a.toNat ps) (pn) (ps) (cr) (h) = F := ⟨_, rfl⟩
  have HF : Hid (((stA r pn ps cr h).setIfInBounds (a.toNat) (.int .u32 ps)) = F) := Lib.hid (by rw [← hFe]; first | rfl | exact stA_setR _ _ _ _ _ (by omega) _ | exact stA_setC _ _ _ _ _ (by omega) _ | (rw [stA_setR _ _ _ _ _ (by omega), stA_setR _ _ _ _ _ (by omega)]; congr 1; funext j; simp only [updN]; split <;> rfl))
  rw [hFe] at zF oF ⊢
  have ZF := Lib.hid zF
  have OF := Lib.hid oF
  clear zF oF hFe
  generalize stA r pn ps cr h = A1 at H8 T9 HF Y0
  generalize stA r pc ps cr h = A at z0 o0 A8 A9 H8 ⊢
  have Z0 := Lib.hid z0
  have O0 := Lib.hid o0
  have ra := hr a.toNat
  have cb := hc b.toNat
  have c3 := hc 3
  clear z0 o0 hM hO hpv hm hn hr hc hy0
  go_enter Try.func10, Try.ntmps10
  go_wp2_with fail
  refine (HM.out _).mono ?_
  rintro e w1 ⟨rfl, hb1⟩
  have HS1 : Hid (RfS w A #[.int .u8 96, .int .u8 a, .int .u8 b, .int .i32 imm] w1) := Lib.hid (by
    refine RfS.next ?_ hb1
    exact ⟨heap_old' (heap_old' (heap_old' (heap_new' rfl))), heap_old' (heap_old' (heap_new' (by simp))), heap_old' (heap_new' (by simp)), heap_new' (by simp), (((below_alloc1 w _).alloc (by simp) _).alloc (by simp; omega) _).alloc (by simp; omega) _, by simp⟩)
  clear hb1
  have hs0 : w.heap.size < w1.heap.size := by have := HS1.out.size; omega
  have hs0' : w.heap.size + 1 < w1.heap.size := by have := HS1.out.size; omega
  have i0 : w1.cell? ⟨w.heap.size + 1, 0, none⟩ = some (.int .u8 96) := (cell_of_row w1 _ 0 _ _ _ HS1.out.i).trans rfl
  have a9 : w1.cell? ⟨w.heap.size, 9, none⟩ = some (.int .u32 ps) := (cell_of_row w1 _ 9 _ _ _ HS1.out.a).trans A9.out
  go_wp2_with fail
  refine (HI.out _).mono ?_
  rintro e w1' ⟨rfl, rfl⟩
  go_wp2_with (first
    | ((with_reducible show wpList _ _ _ (Oper.mk _ (.load 25 _) _ _ _ _ :: _) _ _); refine wpList_load_row rfl 25 _ rfl _ rfl 25 _ (0, 0) _ (by exact HS1.out.a) Try.underlying25 rfl (by rw [Z0.out]; kernel_rfl) ?_)
    | ((with_reducible show wpList _ _ _ (Oper.mk _ (.store 25 _ _) _ _ _ _ :: _) _ _); refine wpList_store_at rfl 25 _ _ rfl rfl _ A rfl rfl 25 _ (by refine heap_new' ?_; simp; done) (by rw [Z0.out]; kernel_rfl) (by rw [Z0.out]; rfl) O0.out _ (by refine setRow_new' _ _ _ _ _ ?_; simp; done) ?_))
  refine wp_region_held_drew (S := fun w' => RfS w A #[.int .u8 96, .int .u8 a, .int .u8 b, .int .i32 imm] w') (by kernel_rfl) (RfS.drew (RfS.next HS1.out (below_alloc1 w1 _))) (fun hHeld => ?_)
  refine wpAnyH_take (i := 0) (oi := { dst := some 27, op := Op.fieldAddr _ (Operand.tmp 3) 1, type := _, pos := "ref.go:22", after := #[], guard := none }) (v := .pointer (some ⟨w.heap.size, 8, none⟩)) rfl (by kernel_rfl) (by kernel_rfl) (by kernel_rfl) (fun _ _ _ h => h) (Or.inl ⟨by rfl, ?_⟩) hHeld ?_
  · intro w' hSw
    have k0 : w'.cell? ⟨w.heap.size + 1, 0, none⟩ = some (.int .u8 96) := (cell_of_row w' _ 0 _ _ _ hSw.i).trans rfl
    have k8 : w'.cell? ⟨w.heap.size, 8, none⟩ = some (.int .u32 pc) := (cell_of_row w' _ 8 _ _ _ hSw.a).trans A8.out
    go_simp
  try simp only [Act.put, List.setIfInBounds_toArray, List.set_cons_zero, List.set_cons_succ]
  refine wpAnyH_take (i := 1) (oi := { dst := some 28, op := Op.load _ (Operand.tmp 27), type := _, pos := "ref.go:22", after := #[{ on := 0, ground := Ground.data }], guard := none }) (v := .int .u32 pc) rfl (by kernel_rfl) (by kernel_rfl) (by kernel_rfl) (fun _ _ _ h => h) (Or.inl ⟨by rfl, ?_⟩) hHeld ?_
  · intro w' hSw
    have k0 : w'.cell? ⟨w.heap.size + 1, 0, none⟩ = some (.int .u8 96) := (cell_of_row w' _ 0 _ _ _ hSw.i).trans rfl
    have k8 : w'.cell? ⟨w.heap.size, 8, none⟩ = some (.int .u32 pc) := (cell_of_row w' _ 8 _ _ _ hSw.a).trans A8.out
    go_simp
  try simp only [Act.put, List.setIfInBounds_toArray, List.set_cons_zero, List.set_cons_succ]
  refine wpAnyH_take (i := 2) (oi := { dst := some 29, op := Op.fieldAddr _ (Operand.tmp 4) 0, type := _, pos := "ref.go:22", after := #[], guard := none }) (v := .pointer (some ⟨w.heap.size + 1, 0, none⟩)) rfl (by kernel_rfl) (by kernel_rfl) (by kernel_rfl) (fun _ _ _ h => h) (Or.inl ⟨by rfl, ?_⟩) hHeld ?_
  · intro w' hSw
    have k0 : w'.cell? ⟨w.heap.size + 1, 0, none⟩ = some (.int .u8 96) := (cell_of_row w' _ 0 _ _ _ hSw.i).trans rfl
    have k8 : w'.cell? ⟨w.heap.size, 8, none⟩ = some (.int .u32 pc) := (cell_of_row w' _ 8 _ _ _ hSw.a).trans A8.out
    go_simp
  try simp only [Act.put, List.setIfInBounds_toArray, List.set_cons_zero, List.set_cons_succ]
  refine wpAnyH_take (i := 3) (oi := { dst := some 30, op := Op.load _ (Operand.tmp 29), type := _, pos := "ref.go:22", after := #[{ on := 2, ground := Ground.data }], guard := none }) (v := .int .u8 96) rfl (by kernel_rfl) (by kernel_rfl) (by kernel_rfl) (fun _ _ _ h => h) (Or.inl ⟨by rfl, ?_⟩) hHeld ?_
  · intro w' hSw
    have k0 : w'.cell? ⟨w.heap.size + 1, 0, none⟩ = some (.int .u8 96) := (cell_of_row w' _ 0 _ _ _ hSw.i).trans rfl
    have k8 : w'.cell? ⟨w.heap.size, 8, none⟩ = some (.int .u32 pc) := (cell_of_row w' _ 8 _ _ _ hSw.a).trans A8.out
    go_simp
  try simp only [Act.put, List.setIfInBounds_toArray, List.set_cons_zero, List.set_cons_succ]
  refine wpAnyH_ready (rs := [4]) (by kernel_rfl) (by simp) ?_
  refine AllReadyH.cons (o := { dst := some 31, op := Op.call { callee := Callee.value (Operand.func _), args := #[Operand.tmp 30, Operand.const (Value.bool false)], argTypes := _ }, type := _, pos := "ref.go:22", after := #[{ on := 3, ground := Ground.data }], guard := none }) rfl (fun K hK => ?_) AllReadyH.nil
  go_simp
  go_at_call 22
  refine (HO.out _).mono ?_
  rintro e w3 ⟨rfl, hb3⟩
  have rT : w3.heap[w1.heap.size]? = some (.cells A 25 (0, 0)) := (hb3.block _ (by simp)).trans (heap_drew' (heap_new' rfl))
  have hs3 : w1.heap.size < w3.heap.size := by have := hb3.size; simp at this; omega
  refine hK.out _ _ (hHeld.next hb3) (fun hHeld => ?_)
  have t8 : w3.cell? ⟨w1.heap.size, 8, none⟩ = some (.int .u32 pc) := (cell_of_row w3 _ 8 _ _ _ rT).trans A8.out
  have f8 := row_free rT 8
  clear hK K hb3
  try simp only [Act.put, List.setIfInBounds_toArray, List.set_cons_zero, List.set_cons_succ]
  refine wpAnyH_take (i := 5) (oi := { dst := some 32, op := Op.field _ (Operand.tmp 31) 0, type := _, pos := "ref.go:22", after := #[{ on := 4, ground := Ground.data }], guard := none }) (v := .int .i64 n) rfl (by kernel_rfl) (by kernel_rfl) (by kernel_rfl) (fun _ _ _ h => h) (Or.inl ⟨by rfl, ?_⟩) hHeld ?_
  · intro w' hSw
    have k0 : w'.cell? ⟨w.heap.size + 1, 0, none⟩ = some (.int .u8 96) := (cell_of_row w' _ 0 _ _ _ hSw.i).trans rfl
    have k8 : w'.cell? ⟨w.heap.size, 8, none⟩ = some (.int .u32 pc) := (cell_of_row w' _ 8 _ _ _ hSw.a).trans A8.out
    go_simp
  try simp only [Act.put, List.setIfInBounds_toArray, List.set_cons_zero, List.set_cons_succ]
  refine wpAnyH_take (i := 6) (oi := { dst := some 33, op := Op.convert _ _ (Operand.tmp 32), type := _, pos := "ref.go:22", after := #[{ on := 5, ground := Ground.data }], guard := none }) (v := .int .u32 n) rfl (by kernel_rfl) (by kernel_rfl) (by kernel_rfl) (fun _ _ _ h => h) (Or.inl ⟨by rfl, ?_⟩) hHeld ?_
  · intro w' hSw
    have k0 : w'.cell? ⟨w.heap.size + 1, 0, none⟩ = some (.int .u8 96) := (cell_of_row w' _ 0 _ _ _ hSw.i).trans rfl
    have k8 : w'.cell? ⟨w.heap.size, 8, none⟩ = some (.int .u32 pc) := (cell_of_row w' _ 8 _ _ _ hSw.a).trans A8.out
    go_simp
  try simp only [Act.put, List.setIfInBounds_toArray, List.set_cons_zero, List.set_cons_succ]
  refine wpAnyH_take (i := 7) (oi := { dst := some 34, op := Op.binOp BinOp.add _ (Operand.tmp 28) (Operand.tmp 33) _, type := _, pos := "ref.go:22", after := #[{ on := 1, ground := Ground.data }, { on := 6, ground := Ground.data }], guard := none }) (v := .int .u32 pn) rfl (by kernel_rfl) (by kernel_rfl) (by kernel_rfl) (fun _ _ _ h => h) (Or.inl ⟨by rfl, ?_⟩) hHeld ?_
  · intro w' hSw
    have k0 : w'.cell? ⟨w.heap.size + 1, 0, none⟩ = some (.int .u8 96) := (cell_of_row w' _ 0 _ _ _ hSw.i).trans rfl
    have k8 : w'.cell? ⟨w.heap.size, 8, none⟩ = some (.int .u32 pc) := (cell_of_row w' _ 8 _ _ _ hSw.a).trans A8.out
    go_simp
  try simp only [Act.put, List.setIfInBounds_toArray, List.set_cons_zero, List.set_cons_succ]
  refine wpAnyH_take (i := 8) (oi := { dst := some 35, op := Op.fieldAddr _ (Operand.tmp 8) 1, type := _, pos := "ref.go:22", after := #[{ on := 0, ground := Ground.phase }, { on := 1, ground := Ground.phase }, { on := 2, ground := Ground.phase }, { on := 3, ground := Ground.phase }, { on := 4, ground := Ground.phase }, { on := 5, ground := Ground.phase }, { on := 6, ground := Ground.phase }, { on := 7, ground := Ground.phase }], guard := none }) (v := .pointer (some ⟨w1.heap.size, 8, none⟩)) rfl (by kernel_rfl) (by kernel_rfl) (by kernel_rfl) (fun _ _ _ h => h) (Or.inl ⟨by rfl, ?_⟩) hHeld ?_
  · intro w' hSw
    have k0 : w'.cell? ⟨w.heap.size + 1, 0, none⟩ = some (.int .u8 96) := (cell_of_row w' _ 0 _ _ _ hSw.i).trans rfl
    have k8 : w'.cell? ⟨w.heap.size, 8, none⟩ = some (.int .u32 pc) := (cell_of_row w' _ 8 _ _ _ hSw.a).trans A8.out
    go_simp
  try simp only [Act.put, List.setIfInBounds_toArray, List.set_cons_zero, List.set_cons_succ]
  refine wpAnyH_ready (rs := [9]) (by kernel_rfl) (by simp) ?_
  refine AllReadyH.cons (o := { dst := none, op := Op.store _ (Operand.tmp 35) (Operand.tmp 34), type := _, pos := "ref.go:22", after := #[{ on := 8, ground := Ground.data }, { on := 7, ground := Ground.data }, { on := 4, ground := Ground.chain }, { on := 0, ground := Ground.phase }, { on := 1, ground := Ground.phase }, { on := 2, ground := Ground.phase }, { on := 3, ground := Ground.phase }, { on := 4, ground := Ground.phase }, { on := 5, ground := Ground.phase }, { on := 6, ground := Ground.phase }, { on := 7, ground := Ground.phase }], guard := none }) rfl (fun K hK => ?_) AllReadyH.nil
  go_simp
  refine hK.out _ _ (hHeld.set _ 8 _ HS1.out.size) (fun hHeld => ?_)
  clear hK K
  try simp only [Act.put, List.setIfInBounds_toArray, List.set_cons_zero, List.set_cons_succ]
  refine wpAnyH_done (by kernel_rfl) ?_ _
  have rT4 := row_setC rT 8 (.int .u32 pn)
  rw [H8.out] at rT4
  have hs4 : w1.heap.size < (w3.setCell ⟨w1.heap.size, 8, none⟩ (.int .u32 pn)).heap.size := by simpa using hs3
  have HS4 := Lib.hid hHeld
  have RT4 := Lib.hid rT4
  clear rT t8 f8 hHeld i0 a9 hs3 rT4 hs0 hs0'
  generalize w3.setCell ⟨w1.heap.size, 8, none⟩ (.int .u32 pn) = w4 at HS4 RT4 hs4 ⊢
  have hs1 := HS1.out.size
  clear HS1
  generalize w1.heap.size = b1 at RT4 hs4 hs1 ⊢
  have i0 : w4.cell? ⟨w.heap.size + 1, 0, none⟩ = some (.int .u8 96) := (cell_of_row w4 _ 0 _ _ _ HS4.out.i).trans rfl
  have i1 : w4.cell? ⟨w.heap.size + 1, 1, none⟩ = some (.int .u8 a) := (cell_of_row w4 _ 1 _ _ _ HS4.out.i).trans rfl
  have i2 : w4.cell? ⟨w.heap.size + 1, 2, none⟩ = some (.int .u8 b) := (cell_of_row w4 _ 2 _ _ _ HS4.out.i).trans rfl
  have a9 : w4.cell? ⟨w.heap.size, 9, none⟩ = some (.int .u32 ps) := (cell_of_row w4 _ 9 _ _ _ HS4.out.a).trans A9.out
  have t8 : w4.cell? ⟨b1, 8, none⟩ = some (.int .u32 pn) := (cell_of_row w4 _ 8 _ _ _ RT4.out).trans T9.out
  have f8 := row_free RT4.out 8
  have hs5 : w.heap.size < w4.heap.size := by have := HS4.out.size; omega
  have hs6 : w.heap.size + 1 < w4.heap.size := by have := HS4.out.size; omega
  have ne1 : b1 ≠ w.heap.size := by omega
  have ne2 : b1 ≠ w.heap.size + 1 := by omega
  have ne3 : w.heap.size ≠ b1 := by omega
  have ne4 : w.heap.size + 1 ≠ b1 := by omega
  have ne5 : w4.heap.size ≠ b1 := by omega
  have ne6 : b1 ≠ w4.heap.size := by omega
  have ne7 : w4.heap.size ≠ w.heap.size := by have := HS4.out.size; omega
  have ne8 : w4.heap.size ≠ w.heap.size + 1 := by have := HS4.out.size; omega
  have t0_ : w4.cell? ⟨b1, a.toNat, none⟩ = some y0 := (cell_of_row w4 _ (a.toNat) _ _ _ RT4.out).trans Y0.out
  have f0_ := row_free RT4.out (a.toNat)
  go_wp2_with fail
  refine wp_world (fun w6 => w6.heap[b1]? = some (.cells F 25 (0, 0)) ∧ w6.heap[w4.heap.size]? = some (.cells #[.int .i64 0, .bool false, .bool false, .int .i64 0, .int .u32 0] 29 (0, 0)) ∧ RfS w A #[.int .u8 96, .int .u8 a, .int .u8 b, .int .i32 imm] w6) ⟨?_, ?_, ?_⟩ (fun w6 h6 => ?_)
  · rw [← HF.out]
    first | exact heap_drew' (heap_old' (row_setC (row_setC RT4.out _ _) _ _)) | exact heap_old' (row_setC (row_setC RT4.out _ _) _ _) | exact heap_drew' (heap_old' (row_setC RT4.out _ _)) | exact heap_old' (row_setC RT4.out _ _) | exact heap_old' RT4.out
  · first | exact heap_drew' (heap_new' (by simp)) | exact heap_new' (by simp)
  · first | exact RfS.drew (RfS.next ((HS4.out.set _ _ _ hs1).set _ _ _ hs1) (below_alloc1 _ _)) | exact RfS.next ((HS4.out.set _ _ _ hs1).set _ _ _ hs1) (below_alloc1 _ _) | exact RfS.drew (RfS.next (HS4.out.set _ _ _ hs1) (below_alloc1 _ _)) | exact RfS.next (HS4.out.set _ _ _ hs1) (below_alloc1 _ _) | exact RfS.next HS4.out (below_alloc1 _ _)
  obtain ⟨rT6, rE6, hS6⟩ := h6
  have HS6 := Lib.hid hS6
  have zf := ZF.out
  have hz5 : (Try.prog.info? 29).map (·.size) = some (#[.int .i64 0, .bool false, .bool false, .int .i64 0, .int .u32 0] : Array Value).size := by kernel_rfl
  have hE1 : (#[.int .i64 0, .bool false, .bool false, .int .i64 0, .int .u32 0] : Array Value).all (·.oneCell') = true := by simp [Value.oneCell']
  have nE1 : w4.heap.size ≠ w.heap.size + 1 + 1 := by have := HS4.out.size; omega
  have nE2 : w4.heap.size ≠ w.heap.size + 1 + 1 + 1 := by have := HS4.out.size; omega
  have nT1 : b1 ≠ w.heap.size + 1 + 1 := by omega
  have nT2 : b1 ≠ w.heap.size + 1 + 1 + 1 := by omega
  clear hS6 i0 i1 i2 a9 t8 f8
  refine wp_region_held_drew (S := fun w' => w'.heap[b1]? = some (.cells F 25 (0, 0)) ∧ w'.heap[w4.heap.size]? = some (.cells #[.int .i64 0, .bool false, .bool false, .int .i64 0, .int .u32 0] 29 (0, 0))) (by kernel_rfl) ⟨rT6, rE6⟩ (fun hHeld => ?_)
  refine wpAnyH_take (i := 0) (oi := { dst := some 191, op := Op.load _ (Operand.tmp 8), type := _, pos := "ref.go:64", after := #[], guard := none }) (v := .agg F) rfl (by kernel_rfl) (by kernel_rfl) (by kernel_rfl) (fun _ _ _ h => h) (yields_stR (by rfl) _ rfl b1 rfl F zf (fun w' h => h.1)) hHeld ?_
  try simp only [Act.put, List.setIfInBounds_toArray, List.set_cons_zero, List.set_cons_succ]
  refine wpAnyH_take (i := 1) (oi := { dst := some 192, op := Op.load _ (Operand.tmp 10), type := _, pos := "ref.go:64", after := #[{ on := 2, ground := Ground.gcOnly Departure.lateStores }], guard := none }) (v := .agg #[.int .i64 0, .bool false, .bool false, .int .i64 0, .int .u32 0]) rfl (by kernel_rfl) (by kernel_rfl) (by kernel_rfl) (fun _ _ _ h => h) (Or.inl ⟨by rfl, ?_⟩) hHeld ?_
  · intro w' hSw
    have k0 := cell_of_row w' _ 0 _ _ _ hSw.2
    have k1 := cell_of_row w' _ 1 _ _ _ hSw.2
    have k2 := cell_of_row w' _ 2 _ _ _ hSw.2
    have k3 := cell_of_row w' _ 3 _ _ _ hSw.2
    have k4 := cell_of_row w' _ 4 _ _ _ hSw.2
    simp at k0 k1 k2 k3 k4
    go_simp
  try simp only [Act.put, List.setIfInBounds_toArray, List.set_cons_zero, List.set_cons_succ]
  refine wpAnyH_ready (rs := [2]) (by kernel_rfl) (by simp) ?_
  refine AllReadyH.cons (o := { dst := none, op := Op.store _ (Operand.tmp 6) (Operand.tmp 191), type := _, pos := "ref.go:64", after := #[{ on := 0, ground := Ground.data }, { on := 0, ground := Ground.phase }, { on := 1, ground := Ground.textOnly Departure.lateStores }], guard := none }) rfl (fun K hK => ?_) AllReadyH.nil
  rw [if_pos (by rfl)]
  have g0 : w6.drew.heap[w.heap.size + 1 + 1]? = some (.cells zero19 25 (0, 0)) := HS6.out.zs
  refine wp_store_st 25 _ _ rfl (w.heap.size + 1 + 1) F rfl rfl 25 zero19 g0 (by rw [ZF.out]; kernel_rfl) (by rw [ZF.out]; rfl) OF.out ?_
  have g1 := setRow_heap w6.drew (w.heap.size + 1 + 1) zero19 F _ _ g0
  have g2 : (w6.drew.setRow (w.heap.size + 1 + 1) F).heap[w.heap.size + 1 + 1 + 1]? = some (.cells (effA 0) 29 (0, 0)) := by rw [setRow_other _ _ _ _ (by omega)]; exact HS6.out.ze
  refine hK.out _ _ ⟨by rw [setRow_other _ _ _ _ nT1]; exact rT6, by rw [setRow_other _ _ _ _ nE1]; exact rE6⟩ (fun hHeld => ?_)
  clear hK K
  try simp only [Act.put, List.setIfInBounds_toArray, List.set_cons_zero, List.set_cons_succ]
  refine wpAnyH_ready (rs := [3]) (by kernel_rfl) (by simp) ?_
  refine AllReadyH.cons (o := { dst := none, op := Op.store _ (Operand.tmp 7) (Operand.tmp 192), type := _, pos := "ref.go:64", after := #[{ on := 1, ground := Ground.data }, { on := 2, ground := Ground.chain }, { on := 0, ground := Ground.phase }, { on := 1, ground := Ground.phase }, { on := 2, ground := Ground.phase }], guard := none }) rfl (fun K hK => ?_) AllReadyH.nil
  rw [if_pos (by rfl)]
  refine wp_store_st 29 _ _ rfl (w.heap.size + 1 + 1 + 1) #[.int .i64 0, .bool false, .bool false, .int .i64 0, .int .u32 0] rfl rfl 29 (effA 0) g2 hz5 rfl hE1 ?_
  have g3 := setRow_heap (w6.drew.setRow (w.heap.size + 1 + 1) F) (w.heap.size + 1 + 1 + 1) (effA 0) #[.int .i64 0, .bool false, .bool false, .int .i64 0, .int .u32 0] _ _ g2
  have g4 : ((w6.drew.setRow (w.heap.size + 1 + 1) F).setRow (w.heap.size + 1 + 1 + 1) #[.int .i64 0, .bool false, .bool false, .int .i64 0, .int .u32 0]).heap[w.heap.size + 1 + 1]? = some (.cells F 25 (0, 0)) := by rw [setRow_other _ _ _ _ (by omega)]; exact g1
  refine hK.out _ _ ⟨by rw [setRow_other _ _ _ _ nT2, setRow_other _ _ _ _ nT1]; exact rT6, by rw [setRow_other _ _ _ _ nE2, setRow_other _ _ _ _ nE1]; exact rE6⟩ (fun hHeld => ?_)
  clear hK K
  try simp only [Act.put, List.setIfInBounds_toArray, List.set_cons_zero, List.set_cons_succ]
  refine wpAnyH_done (by kernel_rfl) ?_ _
  have hB := below_setRow (below_setRow HS6.out.below.drew (w.heap.size + 1 + 1) (by omega) F) (w.heap.size + 1 + 1 + 1) (by omega) #[.int .i64 0, .bool false, .bool false, .int .i64 0, .int .u32 0]
  generalize (w6.drew.setRow (w.heap.size + 1 + 1) F).setRow (w.heap.size + 1 + 1 + 1) #[.int .i64 0, .bool false, .bool false, .int .i64 0, .int .u32 0] = w7 at g3 g4 hB ⊢
  have G3 := Lib.hid g3
  have G4 := Lib.hid g4
  have HB := Lib.hid hB
  clear hHeld g0 g1 g2 g3 g4 hB rT6 rE6
  go_wp2_with fail
  refine bodyPost_ret (v := .tuple #[.agg F, .agg #[.int .i64 0, .bool false, .bool false, .int .i64 0, .int .u32 0]]) (results_two rfl _ _ _ _ _ _ rfl rfl G4.out G3.out Try.underlying25 Try.underlying29 rfl rfl (by rw [ZF.out]; kernel_rfl) hz5) rfl ⟨rfl, HB.out⟩

set_option maxHeartbeats 8000000 in
theorem rd_wrps_u (r : Nat → Int) (pc ps : Int) (cr : Nat → Int) (h : Bool) (a b imm inp : Int) (w : World) (h2 : 0 ≤ a) (h3 : a < 8) (h4 : 0 ≤ b) (h5 : b < 8) (h6 : -2147483648 ≤ imm) (h7 : imm < 2147483648) (g0 : 0 ≤ pc) (g1 : pc < 4294967296) (g2 : 0 ≤ ps) (g3 : ps < 4294967296) (hr : ∀ k, 0 ≤ r k ∧ r k < 4294967296) (hc : ∀ k, 0 ≤ cr k ∧ cr k < 4294967296) (hm : Isa.mayB (Isa.fm 97 false) a b imm = true) (hu : (ps % 2 == 1) = true) :
    Calls Try.prog 10 #[.agg (stA r pc ps cr h), .agg #[.int .u8 97, .int .u8 a, .int .u8 b, .int .i32 imm], .int .u32 inp] w fun e w' => e = .returned (.tuple #[.agg (stA (r) ((pc + (Isa.fm 97 false).n) % 4294967296) (bits .or .u32 (bits .andNot .u32 ps 240) (bits .and .u32 (r a.toNat) 240)) (cr) (h)), .agg #[.int .i64 0, .bool false, .bool false, .int .i64 0, .int .u32 0]]) ∧ Below w.heap.size w w' := by
  have hM := fun w => Isa.refMay_c 97 a b imm false w (by decide) (by decide) h2 (by omega) h4 (by omega) h6 h7
  rw [hm] at hM
  have hO := fun w => Isa.refOf_c 97 false w (by decide) (by decide)
  obtain ⟨n, hn, n0, n1⟩ : ∃ n, (Isa.fm 97 false).n = n ∧ 0 ≤ n ∧ n ≤ 6 := ⟨_, rfl, (fm_n _).1, (fm_n _).2⟩
  have hp1 : IntKind.u32.wrap n = n := by rw [IntKind.wrap_u32]; omega
  obtain ⟨pn, hpn, hpv⟩ : ∃ pn, IntKind.u32.wrap (pc + n) = pn ∧ (pc + (Isa.fm 97 false).n) % 4294967296 = pn := ⟨_, rfl, by rw [hn, IntKind.wrap_u32]⟩
  have HI := Lib.hid fun w => is_yes 97 w (by unfold senseOp; omega)
  unfold Isa.insV at hM
  unfold Isa.Fm.rval at hO
  rw [hn] at hO
  generalize decide ((Isa.fm 97 false).a = 1) = x1 at hO
  generalize decide ((Isa.fm 97 false).b = 1) = x2 at hO
  generalize (Isa.fm 97 false).k = x3 at hO
  generalize decide ((Isa.fm 97 false).s = 1) = x4 at hO
  have hfl : ∀ w, (Instr.field 53 (.agg #[.int .i64 n, .bool x1, .bool x2, .int .i64 x3, .bool x4]) 0).run Try.prog w = .ok (.int .i64 n) w := fun _ => by kernel_rfl
  try rw [hpv]
  have HM := Lib.hid hM
  have HO := Lib.hid hO
  have z0 : (stA r pc ps cr h).size = 19 := rfl
  have o0 : (stA r pc ps cr h).all (·.oneCell') = true := by simp [stA, Value.oneCell']
  have A8 : Hid ((stA r pc ps cr h)[8]? = some (.int .u32 pc)) := Lib.hid rfl
  have A9 : Hid ((stA r pc ps cr h)[9]? = some (.int .u32 ps)) := Lib.hid rfl
  have H8 : Hid ((stA r pc ps cr h).setIfInBounds 8 (.int .u32 pn) = stA r pn ps cr h) := Lib.hid rfl
  have T9 : Hid ((stA r pn ps cr h)[8]? = some (.int .u32 pn)) := Lib.hid rfl
  have C0 : Hid ((stA r pc ps cr h)[a.toNat]? = some (.int .u32 (r a.toNat))) := Lib.hid (by first | rfl | exact stA_R _ _ _ _ _ (by omega) | exact stA_C _ _ _ _ _ (by omega))
  obtain ⟨y0, hy0⟩ : ∃ y, (stA r pn ps cr h)[9]? = some y := ⟨_, by first | rfl | exact stA_R _ _ _ _ _ (by omega) | exact stA_C _ _ _ _ _ (by omega)⟩
  have Y0 := Lib.hid hy0
  have zF : (stA (r) (pn) (bits .or .u32 (bits .andNot .u32 ps 240) (bits .and .u32 (r a.toNat) 240)) (cr) (h)).size = 19 := rfl
  have oF : (stA (r) (pn) (bits .or .u32 (bits .andNot .u32 ps 240) (bits .and .u32 (r a.toNat) 240)) (cr) (h)).all (·.oneCell') = true := by simp [stA, Value.oneCell']
  obtain ⟨F, hFe⟩ : ∃ F, stA (r) (pn) (bits .or .u32 (bits .andNot .u32 ps 240) (bits .and .u32 (r a.toNat) 240)) (cr) (h) = F := ⟨_, rfl⟩
  have HF : Hid (((stA r pn ps cr h).setIfInBounds (9) (.int .u32 (ps - ps / 16 % 16 * 16 + r a.toNat / 16 % 16 * 16))) = F) := Lib.hid (by rw [← hFe]; rw [ref_240 g2 g3 (hr _).1 (hr _).2]; rfl)
  rw [hFe] at zF oF ⊢
  have ZF := Lib.hid zF
  have OF := Lib.hid oF
  clear zF oF hFe
  generalize stA r pn ps cr h = A1 at H8 T9 HF Y0
  generalize stA r pc ps cr h = A at z0 o0 A8 A9 H8 C0 ⊢
  have Z0 := Lib.hid z0
  have O0 := Lib.hid o0
  have ra := hr a.toNat
  have cb := hc b.toNat
  have c3 := hc 3
  have q1 : IntKind.u32.wrap (ps.tdiv 16) = ps / 16 := by rw [Int.tdiv_eq_ediv_of_nonneg g2, IntKind.wrap_u32]; omega
  have q2 : (ps / 16).tmod 16 = ps / 16 % 16 := Int.tmod_eq_emod_of_nonneg (by omega)
  have q3 : IntKind.u32.wrap (ps / 16 % 16 * 16) = ps / 16 % 16 * 16 := by rw [IntKind.wrap_u32]; omega
  have q4 : IntKind.u32.wrap (ps - ps / 16 % 16 * 16) = ps - ps / 16 % 16 * 16 := by rw [IntKind.wrap_u32]; omega
  have q5 : IntKind.u32.wrap ((r a.toNat).tdiv 16) = r a.toNat / 16 := by have := ra.1; have := ra.2; rw [Int.tdiv_eq_ediv_of_nonneg ra.1, IntKind.wrap_u32]; omega
  have q6 : (r a.toNat / 16).tmod 16 = r a.toNat / 16 % 16 := Int.tmod_eq_emod_of_nonneg (by have := ra.1; omega)
  have q7 : IntKind.u32.wrap (r a.toNat / 16 % 16 * 16) = r a.toNat / 16 % 16 * 16 := by have := ra.1; have := ra.2; rw [IntKind.wrap_u32]; omega
  have q8 : IntKind.u32.wrap (ps - ps / 16 % 16 * 16 + r a.toNat / 16 % 16 * 16) = ps - ps / 16 % 16 * 16 + r a.toNat / 16 % 16 * 16 := by have := ra.1; have := ra.2; rw [IntKind.wrap_u32]; omega
  have gA0 : 0 ≤ ps - ps / 16 % 16 * 16 := by omega
  have gA1 : ps - ps / 16 % 16 * 16 < 4294967296 := by omega
  have gB1 : ps - ps / 16 % 16 * 16 + r a.toNat / 16 % 16 * 16 < 4294967296 := by omega
  have gC0 : 0 ≤ r a.toNat := ra.1
  have gC1 : r a.toNat < 4294967296 := ra.2
  clear z0 o0 hM hO hpv hm hn hr hc hy0
  go_enter Try.func10, Try.ntmps10
  go_wp2_with fail
  refine (HM.out _).mono ?_
  rintro e w1 ⟨rfl, hb1⟩
  have HS1 : Hid (RfS w A #[.int .u8 97, .int .u8 a, .int .u8 b, .int .i32 imm] w1) := Lib.hid (by
    refine RfS.next ?_ hb1
    exact ⟨heap_old' (heap_old' (heap_old' (heap_new' rfl))), heap_old' (heap_old' (heap_new' (by simp))), heap_old' (heap_new' (by simp)), heap_new' (by simp), (((below_alloc1 w _).alloc (by simp) _).alloc (by simp; omega) _).alloc (by simp; omega) _, by simp⟩)
  clear hb1
  have hs0 : w.heap.size < w1.heap.size := by have := HS1.out.size; omega
  have hs0' : w.heap.size + 1 < w1.heap.size := by have := HS1.out.size; omega
  have i0 : w1.cell? ⟨w.heap.size + 1, 0, none⟩ = some (.int .u8 97) := (cell_of_row w1 _ 0 _ _ _ HS1.out.i).trans rfl
  have a9 : w1.cell? ⟨w.heap.size, 9, none⟩ = some (.int .u32 ps) := (cell_of_row w1 _ 9 _ _ _ HS1.out.a).trans A9.out
  go_wp2_with fail
  refine (HI.out _).mono ?_
  rintro e w1' ⟨rfl, rfl⟩
  go_wp2_with (first
    | ((with_reducible show wpList _ _ _ (Oper.mk _ (.load 25 _) _ _ _ _ :: _) _ _); refine wpList_load_row rfl 25 _ rfl _ rfl 25 _ (0, 0) _ (by exact HS1.out.a) Try.underlying25 rfl (by rw [Z0.out]; kernel_rfl) ?_)
    | ((with_reducible show wpList _ _ _ (Oper.mk _ (.store 25 _ _) _ _ _ _ :: _) _ _); refine wpList_store_at rfl 25 _ _ rfl rfl _ A rfl rfl 25 _ (by refine heap_new' ?_; simp; done) (by rw [Z0.out]; kernel_rfl) (by rw [Z0.out]; rfl) O0.out _ (by refine setRow_new' _ _ _ _ _ ?_; simp; done) ?_))
  refine wp_region_held_drew (S := fun w' => RfS w A #[.int .u8 97, .int .u8 a, .int .u8 b, .int .i32 imm] w') (by kernel_rfl) (RfS.drew (RfS.next HS1.out (below_alloc1 w1 _))) (fun hHeld => ?_)
  refine wpAnyH_take (i := 0) (oi := { dst := some 27, op := Op.fieldAddr _ (Operand.tmp 3) 1, type := _, pos := "ref.go:22", after := #[], guard := none }) (v := .pointer (some ⟨w.heap.size, 8, none⟩)) rfl (by kernel_rfl) (by kernel_rfl) (by kernel_rfl) (fun _ _ _ h => h) (Or.inl ⟨by rfl, ?_⟩) hHeld ?_
  · intro w' hSw
    have k0 : w'.cell? ⟨w.heap.size + 1, 0, none⟩ = some (.int .u8 97) := (cell_of_row w' _ 0 _ _ _ hSw.i).trans rfl
    have k8 : w'.cell? ⟨w.heap.size, 8, none⟩ = some (.int .u32 pc) := (cell_of_row w' _ 8 _ _ _ hSw.a).trans A8.out
    go_simp
  try simp only [Act.put, List.setIfInBounds_toArray, List.set_cons_zero, List.set_cons_succ]
  refine wpAnyH_take (i := 1) (oi := { dst := some 28, op := Op.load _ (Operand.tmp 27), type := _, pos := "ref.go:22", after := #[{ on := 0, ground := Ground.data }], guard := none }) (v := .int .u32 pc) rfl (by kernel_rfl) (by kernel_rfl) (by kernel_rfl) (fun _ _ _ h => h) (Or.inl ⟨by rfl, ?_⟩) hHeld ?_
  · intro w' hSw
    have k0 : w'.cell? ⟨w.heap.size + 1, 0, none⟩ = some (.int .u8 97) := (cell_of_row w' _ 0 _ _ _ hSw.i).trans rfl
    have k8 : w'.cell? ⟨w.heap.size, 8, none⟩ = some (.int .u32 pc) := (cell_of_row w' _ 8 _ _ _ hSw.a).trans A8.out
    go_simp
  try simp only [Act.put, List.setIfInBounds_toArray, List.set_cons_zero, List.set_cons_succ]
  refine wpAnyH_take (i := 2) (oi := { dst := some 29, op := Op.fieldAddr _ (Operand.tmp 4) 0, type := _, pos := "ref.go:22", after := #[], guard := none }) (v := .pointer (some ⟨w.heap.size + 1, 0, none⟩)) rfl (by kernel_rfl) (by kernel_rfl) (by kernel_rfl) (fun _ _ _ h => h) (Or.inl ⟨by rfl, ?_⟩) hHeld ?_
  · intro w' hSw
    have k0 : w'.cell? ⟨w.heap.size + 1, 0, none⟩ = some (.int .u8 97) := (cell_of_row w' _ 0 _ _ _ hSw.i).trans rfl
    have k8 : w'.cell? ⟨w.heap.size, 8, none⟩ = some (.int .u32 pc) := (cell_of_row w' _ 8 _ _ _ hSw.a).trans A8.out
    go_simp
  try simp only [Act.put, List.setIfInBounds_toArray, List.set_cons_zero, List.set_cons_succ]
  refine wpAnyH_take (i := 3) (oi := { dst := some 30, op := Op.load _ (Operand.tmp 29), type := _, pos := "ref.go:22", after := #[{ on := 2, ground := Ground.data }], guard := none }) (v := .int .u8 97) rfl (by kernel_rfl) (by kernel_rfl) (by kernel_rfl) (fun _ _ _ h => h) (Or.inl ⟨by rfl, ?_⟩) hHeld ?_
  · intro w' hSw
    have k0 : w'.cell? ⟨w.heap.size + 1, 0, none⟩ = some (.int .u8 97) := (cell_of_row w' _ 0 _ _ _ hSw.i).trans rfl
    have k8 : w'.cell? ⟨w.heap.size, 8, none⟩ = some (.int .u32 pc) := (cell_of_row w' _ 8 _ _ _ hSw.a).trans A8.out
    go_simp
  try simp only [Act.put, List.setIfInBounds_toArray, List.set_cons_zero, List.set_cons_succ]
  refine wpAnyH_ready (rs := [4]) (by kernel_rfl) (by simp) ?_
  refine AllReadyH.cons (o := { dst := some 31, op := Op.call { callee := Callee.value (Operand.func _), args := #[Operand.tmp 30, Operand.const (Value.bool false)], argTypes := _ }, type := _, pos := "ref.go:22", after := #[{ on := 3, ground := Ground.data }], guard := none }) rfl (fun K hK => ?_) AllReadyH.nil
  go_simp
  go_at_call 22
  refine (HO.out _).mono ?_
  rintro e w3 ⟨rfl, hb3⟩
  have rT : w3.heap[w1.heap.size]? = some (.cells A 25 (0, 0)) := (hb3.block _ (by simp)).trans (heap_drew' (heap_new' rfl))
  have hs3 : w1.heap.size < w3.heap.size := by have := hb3.size; simp at this; omega
  refine hK.out _ _ (hHeld.next hb3) (fun hHeld => ?_)
  have t8 : w3.cell? ⟨w1.heap.size, 8, none⟩ = some (.int .u32 pc) := (cell_of_row w3 _ 8 _ _ _ rT).trans A8.out
  have f8 := row_free rT 8
  clear hK K hb3
  try simp only [Act.put, List.setIfInBounds_toArray, List.set_cons_zero, List.set_cons_succ]
  refine wpAnyH_take (i := 5) (oi := { dst := some 32, op := Op.field _ (Operand.tmp 31) 0, type := _, pos := "ref.go:22", after := #[{ on := 4, ground := Ground.data }], guard := none }) (v := .int .i64 n) rfl (by kernel_rfl) (by kernel_rfl) (by kernel_rfl) (fun _ _ _ h => h) (Or.inl ⟨by rfl, ?_⟩) hHeld ?_
  · intro w' hSw
    have k0 : w'.cell? ⟨w.heap.size + 1, 0, none⟩ = some (.int .u8 97) := (cell_of_row w' _ 0 _ _ _ hSw.i).trans rfl
    have k8 : w'.cell? ⟨w.heap.size, 8, none⟩ = some (.int .u32 pc) := (cell_of_row w' _ 8 _ _ _ hSw.a).trans A8.out
    go_simp
  try simp only [Act.put, List.setIfInBounds_toArray, List.set_cons_zero, List.set_cons_succ]
  refine wpAnyH_take (i := 6) (oi := { dst := some 33, op := Op.convert _ _ (Operand.tmp 32), type := _, pos := "ref.go:22", after := #[{ on := 5, ground := Ground.data }], guard := none }) (v := .int .u32 n) rfl (by kernel_rfl) (by kernel_rfl) (by kernel_rfl) (fun _ _ _ h => h) (Or.inl ⟨by rfl, ?_⟩) hHeld ?_
  · intro w' hSw
    have k0 : w'.cell? ⟨w.heap.size + 1, 0, none⟩ = some (.int .u8 97) := (cell_of_row w' _ 0 _ _ _ hSw.i).trans rfl
    have k8 : w'.cell? ⟨w.heap.size, 8, none⟩ = some (.int .u32 pc) := (cell_of_row w' _ 8 _ _ _ hSw.a).trans A8.out
    go_simp
  try simp only [Act.put, List.setIfInBounds_toArray, List.set_cons_zero, List.set_cons_succ]
  refine wpAnyH_take (i := 7) (oi := { dst := some 34, op := Op.binOp BinOp.add _ (Operand.tmp 28) (Operand.tmp 33) _, type := _, pos := "ref.go:22", after := #[{ on := 1, ground := Ground.data }, { on := 6, ground := Ground.data }], guard := none }) (v := .int .u32 pn) rfl (by kernel_rfl) (by kernel_rfl) (by kernel_rfl) (fun _ _ _ h => h) (Or.inl ⟨by rfl, ?_⟩) hHeld ?_
  · intro w' hSw
    have k0 : w'.cell? ⟨w.heap.size + 1, 0, none⟩ = some (.int .u8 97) := (cell_of_row w' _ 0 _ _ _ hSw.i).trans rfl
    have k8 : w'.cell? ⟨w.heap.size, 8, none⟩ = some (.int .u32 pc) := (cell_of_row w' _ 8 _ _ _ hSw.a).trans A8.out
    go_simp
  try simp only [Act.put, List.setIfInBounds_toArray, List.set_cons_zero, List.set_cons_succ]
  refine wpAnyH_take (i := 8) (oi := { dst := some 35, op := Op.fieldAddr _ (Operand.tmp 8) 1, type := _, pos := "ref.go:22", after := #[{ on := 0, ground := Ground.phase }, { on := 1, ground := Ground.phase }, { on := 2, ground := Ground.phase }, { on := 3, ground := Ground.phase }, { on := 4, ground := Ground.phase }, { on := 5, ground := Ground.phase }, { on := 6, ground := Ground.phase }, { on := 7, ground := Ground.phase }], guard := none }) (v := .pointer (some ⟨w1.heap.size, 8, none⟩)) rfl (by kernel_rfl) (by kernel_rfl) (by kernel_rfl) (fun _ _ _ h => h) (Or.inl ⟨by rfl, ?_⟩) hHeld ?_
  · intro w' hSw
    have k0 : w'.cell? ⟨w.heap.size + 1, 0, none⟩ = some (.int .u8 97) := (cell_of_row w' _ 0 _ _ _ hSw.i).trans rfl
    have k8 : w'.cell? ⟨w.heap.size, 8, none⟩ = some (.int .u32 pc) := (cell_of_row w' _ 8 _ _ _ hSw.a).trans A8.out
    go_simp
  try simp only [Act.put, List.setIfInBounds_toArray, List.set_cons_zero, List.set_cons_succ]
  refine wpAnyH_ready (rs := [9]) (by kernel_rfl) (by simp) ?_
  refine AllReadyH.cons (o := { dst := none, op := Op.store _ (Operand.tmp 35) (Operand.tmp 34), type := _, pos := "ref.go:22", after := #[{ on := 8, ground := Ground.data }, { on := 7, ground := Ground.data }, { on := 4, ground := Ground.chain }, { on := 0, ground := Ground.phase }, { on := 1, ground := Ground.phase }, { on := 2, ground := Ground.phase }, { on := 3, ground := Ground.phase }, { on := 4, ground := Ground.phase }, { on := 5, ground := Ground.phase }, { on := 6, ground := Ground.phase }, { on := 7, ground := Ground.phase }], guard := none }) rfl (fun K hK => ?_) AllReadyH.nil
  go_simp
  refine hK.out _ _ (hHeld.set _ 8 _ HS1.out.size) (fun hHeld => ?_)
  clear hK K
  try simp only [Act.put, List.setIfInBounds_toArray, List.set_cons_zero, List.set_cons_succ]
  refine wpAnyH_done (by kernel_rfl) ?_ _
  have rT4 := row_setC rT 8 (.int .u32 pn)
  rw [H8.out] at rT4
  have hs4 : w1.heap.size < (w3.setCell ⟨w1.heap.size, 8, none⟩ (.int .u32 pn)).heap.size := by simpa using hs3
  have HS4 := Lib.hid hHeld
  have RT4 := Lib.hid rT4
  clear rT t8 f8 hHeld i0 a9 hs3 rT4 hs0 hs0'
  generalize w3.setCell ⟨w1.heap.size, 8, none⟩ (.int .u32 pn) = w4 at HS4 RT4 hs4 ⊢
  have hs1 := HS1.out.size
  clear HS1
  generalize w1.heap.size = b1 at RT4 hs4 hs1 ⊢
  have i0 : w4.cell? ⟨w.heap.size + 1, 0, none⟩ = some (.int .u8 97) := (cell_of_row w4 _ 0 _ _ _ HS4.out.i).trans rfl
  have i1 : w4.cell? ⟨w.heap.size + 1, 1, none⟩ = some (.int .u8 a) := (cell_of_row w4 _ 1 _ _ _ HS4.out.i).trans rfl
  have i2 : w4.cell? ⟨w.heap.size + 1, 2, none⟩ = some (.int .u8 b) := (cell_of_row w4 _ 2 _ _ _ HS4.out.i).trans rfl
  have a9 : w4.cell? ⟨w.heap.size, 9, none⟩ = some (.int .u32 ps) := (cell_of_row w4 _ 9 _ _ _ HS4.out.a).trans A9.out
  have t8 : w4.cell? ⟨b1, 8, none⟩ = some (.int .u32 pn) := (cell_of_row w4 _ 8 _ _ _ RT4.out).trans T9.out
  have f8 := row_free RT4.out 8
  have hs5 : w.heap.size < w4.heap.size := by have := HS4.out.size; omega
  have hs6 : w.heap.size + 1 < w4.heap.size := by have := HS4.out.size; omega
  have ne1 : b1 ≠ w.heap.size := by omega
  have ne2 : b1 ≠ w.heap.size + 1 := by omega
  have ne3 : w.heap.size ≠ b1 := by omega
  have ne4 : w.heap.size + 1 ≠ b1 := by omega
  have ne5 : w4.heap.size ≠ b1 := by omega
  have ne6 : b1 ≠ w4.heap.size := by omega
  have ne7 : w4.heap.size ≠ w.heap.size := by have := HS4.out.size; omega
  have ne8 : w4.heap.size ≠ w.heap.size + 1 := by have := HS4.out.size; omega
  have c0_ : w4.cell? ⟨w.heap.size, a.toNat, none⟩ = some (.int .u32 (r a.toNat)) := (cell_of_row w4 _ (a.toNat) _ _ _ HS4.out.a).trans C0.out
  have t0_ : w4.cell? ⟨b1, 9, none⟩ = some y0 := (cell_of_row w4 _ (9) _ _ _ RT4.out).trans Y0.out
  have f0_ := row_free RT4.out (9)
  go_wp2_with fail
  refine wp_region_held_drew (S := fun w' => RfS w A #[.int .u8 97, .int .u8 a, .int .u8 b, .int .i32 imm] w') (by kernel_rfl) (RfS.drew (HS4.out.next (below_alloc1 w4 _))) (fun hHeld => ?_)
  refine wpAnyH_take (i := 0) (oi := { dst := some 103, op := Op.fieldAddr _ (Operand.tmp 3) 2, type := _, pos := "ref.go:41", after := #[], guard := none }) (v := .pointer (some ⟨w.heap.size, 9, none⟩)) rfl (by kernel_rfl) (by kernel_rfl) (by kernel_rfl) (fun _ _ _ h => h) (Or.inl ⟨by rfl, ?_⟩) hHeld ?_
  · intro w' hSw
    have k0 : w'.cell? ⟨w.heap.size + 1, 0, none⟩ = some (.int .u8 97) := (cell_of_row w' _ 0 _ _ _ hSw.i).trans rfl
    have k1 : w'.cell? ⟨w.heap.size + 1, 1, none⟩ = some (.int .u8 a) := (cell_of_row w' _ 1 _ _ _ hSw.i).trans rfl
    have k2 : w'.cell? ⟨w.heap.size + 1, 2, none⟩ = some (.int .u8 b) := (cell_of_row w' _ 2 _ _ _ hSw.i).trans rfl
    have k9 : w'.cell? ⟨w.heap.size, 9, none⟩ = some (.int .u32 ps) := (cell_of_row w' _ 9 _ _ _ hSw.a).trans A9.out
    have kr : w'.cell? ⟨w.heap.size, a.toNat, none⟩ = some (.int .u32 (r a.toNat)) := (cell_of_row w' _ a.toNat _ _ _ hSw.a).trans C0.out
    go_simp
  try simp only [Act.put, List.setIfInBounds_toArray, List.set_cons_zero, List.set_cons_succ]
  refine wpAnyH_take (i := 1) (oi := { dst := some 104, op := Op.load _ (Operand.tmp 103), type := _, pos := "ref.go:41", after := #[{ on := 0, ground := Ground.data }], guard := none }) (v := .int .u32 ps) rfl (by kernel_rfl) (by kernel_rfl) (by kernel_rfl) (fun _ _ _ h => h) (Or.inl ⟨by rfl, ?_⟩) hHeld ?_
  · intro w' hSw
    have k0 : w'.cell? ⟨w.heap.size + 1, 0, none⟩ = some (.int .u8 97) := (cell_of_row w' _ 0 _ _ _ hSw.i).trans rfl
    have k1 : w'.cell? ⟨w.heap.size + 1, 1, none⟩ = some (.int .u8 a) := (cell_of_row w' _ 1 _ _ _ hSw.i).trans rfl
    have k2 : w'.cell? ⟨w.heap.size + 1, 2, none⟩ = some (.int .u8 b) := (cell_of_row w' _ 2 _ _ _ hSw.i).trans rfl
    have k9 : w'.cell? ⟨w.heap.size, 9, none⟩ = some (.int .u32 ps) := (cell_of_row w' _ 9 _ _ _ hSw.a).trans A9.out
    have kr : w'.cell? ⟨w.heap.size, a.toNat, none⟩ = some (.int .u32 (r a.toNat)) := (cell_of_row w' _ a.toNat _ _ _ hSw.a).trans C0.out
    go_simp
  try simp only [Act.put, List.setIfInBounds_toArray, List.set_cons_zero, List.set_cons_succ]
  refine wpAnyH_take (i := 2) (oi := { dst := some 105, op := Op.fieldAddr _ (Operand.tmp 3) 2, type := _, pos := "ref.go:41", after := #[], guard := none }) (v := .pointer (some ⟨w.heap.size, 9, none⟩)) rfl (by kernel_rfl) (by kernel_rfl) (by kernel_rfl) (fun _ _ _ h => h) (Or.inl ⟨by rfl, ?_⟩) hHeld ?_
  · intro w' hSw
    have k0 : w'.cell? ⟨w.heap.size + 1, 0, none⟩ = some (.int .u8 97) := (cell_of_row w' _ 0 _ _ _ hSw.i).trans rfl
    have k1 : w'.cell? ⟨w.heap.size + 1, 1, none⟩ = some (.int .u8 a) := (cell_of_row w' _ 1 _ _ _ hSw.i).trans rfl
    have k2 : w'.cell? ⟨w.heap.size + 1, 2, none⟩ = some (.int .u8 b) := (cell_of_row w' _ 2 _ _ _ hSw.i).trans rfl
    have k9 : w'.cell? ⟨w.heap.size, 9, none⟩ = some (.int .u32 ps) := (cell_of_row w' _ 9 _ _ _ hSw.a).trans A9.out
    have kr : w'.cell? ⟨w.heap.size, a.toNat, none⟩ = some (.int .u32 (r a.toNat)) := (cell_of_row w' _ a.toNat _ _ _ hSw.a).trans C0.out
    go_simp
  try simp only [Act.put, List.setIfInBounds_toArray, List.set_cons_zero, List.set_cons_succ]
  refine wpAnyH_take (i := 3) (oi := { dst := some 106, op := Op.load _ (Operand.tmp 105), type := _, pos := "ref.go:41", after := #[{ on := 2, ground := Ground.data }], guard := none }) (v := .int .u32 ps) rfl (by kernel_rfl) (by kernel_rfl) (by kernel_rfl) (fun _ _ _ h => h) (Or.inl ⟨by rfl, ?_⟩) hHeld ?_
  · intro w' hSw
    have k0 : w'.cell? ⟨w.heap.size + 1, 0, none⟩ = some (.int .u8 97) := (cell_of_row w' _ 0 _ _ _ hSw.i).trans rfl
    have k1 : w'.cell? ⟨w.heap.size + 1, 1, none⟩ = some (.int .u8 a) := (cell_of_row w' _ 1 _ _ _ hSw.i).trans rfl
    have k2 : w'.cell? ⟨w.heap.size + 1, 2, none⟩ = some (.int .u8 b) := (cell_of_row w' _ 2 _ _ _ hSw.i).trans rfl
    have k9 : w'.cell? ⟨w.heap.size, 9, none⟩ = some (.int .u32 ps) := (cell_of_row w' _ 9 _ _ _ hSw.a).trans A9.out
    have kr : w'.cell? ⟨w.heap.size, a.toNat, none⟩ = some (.int .u32 (r a.toNat)) := (cell_of_row w' _ a.toNat _ _ _ hSw.a).trans C0.out
    go_simp
  try simp only [Act.put, List.setIfInBounds_toArray, List.set_cons_zero, List.set_cons_succ]
  refine wpAnyH_take (i := 4) (oi := { dst := some 107, op := Op.binOp BinOp.quo _ (Operand.tmp 106) (Operand.const (Value.int IntKind.u32 16)) _, type := _, pos := "ref.go:41", after := #[{ on := 3, ground := Ground.data }], guard := none }) (v := .int .u32 (ps / 16)) rfl (by kernel_rfl) (by kernel_rfl) (by kernel_rfl) (fun _ _ _ h => h) (Or.inl ⟨by rfl, ?_⟩) hHeld ?_
  · intro w' hSw
    have k0 : w'.cell? ⟨w.heap.size + 1, 0, none⟩ = some (.int .u8 97) := (cell_of_row w' _ 0 _ _ _ hSw.i).trans rfl
    have k1 : w'.cell? ⟨w.heap.size + 1, 1, none⟩ = some (.int .u8 a) := (cell_of_row w' _ 1 _ _ _ hSw.i).trans rfl
    have k2 : w'.cell? ⟨w.heap.size + 1, 2, none⟩ = some (.int .u8 b) := (cell_of_row w' _ 2 _ _ _ hSw.i).trans rfl
    have k9 : w'.cell? ⟨w.heap.size, 9, none⟩ = some (.int .u32 ps) := (cell_of_row w' _ 9 _ _ _ hSw.a).trans A9.out
    have kr : w'.cell? ⟨w.heap.size, a.toNat, none⟩ = some (.int .u32 (r a.toNat)) := (cell_of_row w' _ a.toNat _ _ _ hSw.a).trans C0.out
    go_simp
  try simp only [Act.put, List.setIfInBounds_toArray, List.set_cons_zero, List.set_cons_succ]
  refine wpAnyH_take (i := 5) (oi := { dst := some 108, op := Op.binOp BinOp.rem _ (Operand.tmp 107) (Operand.const (Value.int IntKind.u32 16)) _, type := _, pos := "ref.go:41", after := #[{ on := 4, ground := Ground.data }], guard := none }) (v := .int .u32 (ps / 16 % 16)) rfl (by kernel_rfl) (by kernel_rfl) (by kernel_rfl) (fun _ _ _ h => h) (Or.inl ⟨by rfl, ?_⟩) hHeld ?_
  · intro w' hSw
    have k0 : w'.cell? ⟨w.heap.size + 1, 0, none⟩ = some (.int .u8 97) := (cell_of_row w' _ 0 _ _ _ hSw.i).trans rfl
    have k1 : w'.cell? ⟨w.heap.size + 1, 1, none⟩ = some (.int .u8 a) := (cell_of_row w' _ 1 _ _ _ hSw.i).trans rfl
    have k2 : w'.cell? ⟨w.heap.size + 1, 2, none⟩ = some (.int .u8 b) := (cell_of_row w' _ 2 _ _ _ hSw.i).trans rfl
    have k9 : w'.cell? ⟨w.heap.size, 9, none⟩ = some (.int .u32 ps) := (cell_of_row w' _ 9 _ _ _ hSw.a).trans A9.out
    have kr : w'.cell? ⟨w.heap.size, a.toNat, none⟩ = some (.int .u32 (r a.toNat)) := (cell_of_row w' _ a.toNat _ _ _ hSw.a).trans C0.out
    go_simp
  try simp only [Act.put, List.setIfInBounds_toArray, List.set_cons_zero, List.set_cons_succ]
  refine wpAnyH_take (i := 6) (oi := { dst := some 109, op := Op.binOp BinOp.mul _ (Operand.tmp 108) (Operand.const (Value.int IntKind.u32 16)) _, type := _, pos := "ref.go:41", after := #[{ on := 5, ground := Ground.data }], guard := none }) (v := .int .u32 (ps / 16 % 16 * 16)) rfl (by kernel_rfl) (by kernel_rfl) (by kernel_rfl) (fun _ _ _ h => h) (Or.inl ⟨by rfl, ?_⟩) hHeld ?_
  · intro w' hSw
    have k0 : w'.cell? ⟨w.heap.size + 1, 0, none⟩ = some (.int .u8 97) := (cell_of_row w' _ 0 _ _ _ hSw.i).trans rfl
    have k1 : w'.cell? ⟨w.heap.size + 1, 1, none⟩ = some (.int .u8 a) := (cell_of_row w' _ 1 _ _ _ hSw.i).trans rfl
    have k2 : w'.cell? ⟨w.heap.size + 1, 2, none⟩ = some (.int .u8 b) := (cell_of_row w' _ 2 _ _ _ hSw.i).trans rfl
    have k9 : w'.cell? ⟨w.heap.size, 9, none⟩ = some (.int .u32 ps) := (cell_of_row w' _ 9 _ _ _ hSw.a).trans A9.out
    have kr : w'.cell? ⟨w.heap.size, a.toNat, none⟩ = some (.int .u32 (r a.toNat)) := (cell_of_row w' _ a.toNat _ _ _ hSw.a).trans C0.out
    go_simp
  try simp only [Act.put, List.setIfInBounds_toArray, List.set_cons_zero, List.set_cons_succ]
  refine wpAnyH_take (i := 7) (oi := { dst := some 110, op := Op.binOp BinOp.sub _ (Operand.tmp 104) (Operand.tmp 109) _, type := _, pos := "ref.go:41", after := #[{ on := 1, ground := Ground.data }, { on := 6, ground := Ground.data }], guard := none }) (v := .int .u32 (ps - ps / 16 % 16 * 16)) rfl (by kernel_rfl) (by kernel_rfl) (by kernel_rfl) (fun _ _ _ h => h) (Or.inl ⟨by rfl, ?_⟩) hHeld ?_
  · intro w' hSw
    have k0 : w'.cell? ⟨w.heap.size + 1, 0, none⟩ = some (.int .u8 97) := (cell_of_row w' _ 0 _ _ _ hSw.i).trans rfl
    have k1 : w'.cell? ⟨w.heap.size + 1, 1, none⟩ = some (.int .u8 a) := (cell_of_row w' _ 1 _ _ _ hSw.i).trans rfl
    have k2 : w'.cell? ⟨w.heap.size + 1, 2, none⟩ = some (.int .u8 b) := (cell_of_row w' _ 2 _ _ _ hSw.i).trans rfl
    have k9 : w'.cell? ⟨w.heap.size, 9, none⟩ = some (.int .u32 ps) := (cell_of_row w' _ 9 _ _ _ hSw.a).trans A9.out
    have kr : w'.cell? ⟨w.heap.size, a.toNat, none⟩ = some (.int .u32 (r a.toNat)) := (cell_of_row w' _ a.toNat _ _ _ hSw.a).trans C0.out
    go_simp
  try simp only [Act.put, List.setIfInBounds_toArray, List.set_cons_zero, List.set_cons_succ]
  refine wpAnyH_take (i := 8) (oi := { dst := some 111, op := Op.fieldAddr _ (Operand.tmp 4) 1, type := _, pos := "ref.go:41", after := #[], guard := none }) (v := .pointer (some ⟨w.heap.size + 1, 1, none⟩)) rfl (by kernel_rfl) (by kernel_rfl) (by kernel_rfl) (fun _ _ _ h => h) (Or.inl ⟨by rfl, ?_⟩) hHeld ?_
  · intro w' hSw
    have k0 : w'.cell? ⟨w.heap.size + 1, 0, none⟩ = some (.int .u8 97) := (cell_of_row w' _ 0 _ _ _ hSw.i).trans rfl
    have k1 : w'.cell? ⟨w.heap.size + 1, 1, none⟩ = some (.int .u8 a) := (cell_of_row w' _ 1 _ _ _ hSw.i).trans rfl
    have k2 : w'.cell? ⟨w.heap.size + 1, 2, none⟩ = some (.int .u8 b) := (cell_of_row w' _ 2 _ _ _ hSw.i).trans rfl
    have k9 : w'.cell? ⟨w.heap.size, 9, none⟩ = some (.int .u32 ps) := (cell_of_row w' _ 9 _ _ _ hSw.a).trans A9.out
    have kr : w'.cell? ⟨w.heap.size, a.toNat, none⟩ = some (.int .u32 (r a.toNat)) := (cell_of_row w' _ a.toNat _ _ _ hSw.a).trans C0.out
    go_simp
  try simp only [Act.put, List.setIfInBounds_toArray, List.set_cons_zero, List.set_cons_succ]
  refine wpAnyH_take (i := 9) (oi := { dst := some 112, op := Op.load _ (Operand.tmp 111), type := _, pos := "ref.go:41", after := #[{ on := 8, ground := Ground.data }], guard := none }) (v := .int .u8 a) rfl (by kernel_rfl) (by kernel_rfl) (by kernel_rfl) (fun _ _ _ h => h) (Or.inl ⟨by rfl, ?_⟩) hHeld ?_
  · intro w' hSw
    have k0 : w'.cell? ⟨w.heap.size + 1, 0, none⟩ = some (.int .u8 97) := (cell_of_row w' _ 0 _ _ _ hSw.i).trans rfl
    have k1 : w'.cell? ⟨w.heap.size + 1, 1, none⟩ = some (.int .u8 a) := (cell_of_row w' _ 1 _ _ _ hSw.i).trans rfl
    have k2 : w'.cell? ⟨w.heap.size + 1, 2, none⟩ = some (.int .u8 b) := (cell_of_row w' _ 2 _ _ _ hSw.i).trans rfl
    have k9 : w'.cell? ⟨w.heap.size, 9, none⟩ = some (.int .u32 ps) := (cell_of_row w' _ 9 _ _ _ hSw.a).trans A9.out
    have kr : w'.cell? ⟨w.heap.size, a.toNat, none⟩ = some (.int .u32 (r a.toNat)) := (cell_of_row w' _ a.toNat _ _ _ hSw.a).trans C0.out
    go_simp
  try simp only [Act.put, List.setIfInBounds_toArray, List.set_cons_zero, List.set_cons_succ]
  refine wpAnyH_take (i := 10) (oi := { dst := some 113, op := Op.fieldAddr _ (Operand.tmp 3) 0, type := _, pos := "ref.go:41", after := #[], guard := none }) (v := .pointer (some ⟨w.heap.size, 0, none⟩)) rfl (by kernel_rfl) (by kernel_rfl) (by kernel_rfl) (fun _ _ _ h => h) (Or.inl ⟨by rfl, ?_⟩) hHeld ?_
  · intro w' hSw
    have k0 : w'.cell? ⟨w.heap.size + 1, 0, none⟩ = some (.int .u8 97) := (cell_of_row w' _ 0 _ _ _ hSw.i).trans rfl
    have k1 : w'.cell? ⟨w.heap.size + 1, 1, none⟩ = some (.int .u8 a) := (cell_of_row w' _ 1 _ _ _ hSw.i).trans rfl
    have k2 : w'.cell? ⟨w.heap.size + 1, 2, none⟩ = some (.int .u8 b) := (cell_of_row w' _ 2 _ _ _ hSw.i).trans rfl
    have k9 : w'.cell? ⟨w.heap.size, 9, none⟩ = some (.int .u32 ps) := (cell_of_row w' _ 9 _ _ _ hSw.a).trans A9.out
    have kr : w'.cell? ⟨w.heap.size, a.toNat, none⟩ = some (.int .u32 (r a.toNat)) := (cell_of_row w' _ a.toNat _ _ _ hSw.a).trans C0.out
    go_simp
  try simp only [Act.put, List.setIfInBounds_toArray, List.set_cons_zero, List.set_cons_succ]
  refine wpAnyH_take (i := 11) (oi := { dst := some 114, op := Op.indexAddr _ (Operand.tmp 113) (Operand.tmp 112), type := _, pos := "ref.go:41", after := #[{ on := 10, ground := Ground.data }, { on := 9, ground := Ground.data }], guard := none }) (v := .pointer (some ⟨w.heap.size, a.toNat, none⟩)) rfl (by kernel_rfl) (by kernel_rfl) (by kernel_rfl) (fun _ _ _ h => h) (Or.inl ⟨by rfl, ?_⟩) hHeld ?_
  · intro w' hSw
    have k0 : w'.cell? ⟨w.heap.size + 1, 0, none⟩ = some (.int .u8 97) := (cell_of_row w' _ 0 _ _ _ hSw.i).trans rfl
    have k1 : w'.cell? ⟨w.heap.size + 1, 1, none⟩ = some (.int .u8 a) := (cell_of_row w' _ 1 _ _ _ hSw.i).trans rfl
    have k2 : w'.cell? ⟨w.heap.size + 1, 2, none⟩ = some (.int .u8 b) := (cell_of_row w' _ 2 _ _ _ hSw.i).trans rfl
    have k9 : w'.cell? ⟨w.heap.size, 9, none⟩ = some (.int .u32 ps) := (cell_of_row w' _ 9 _ _ _ hSw.a).trans A9.out
    have kr : w'.cell? ⟨w.heap.size, a.toNat, none⟩ = some (.int .u32 (r a.toNat)) := (cell_of_row w' _ a.toNat _ _ _ hSw.a).trans C0.out
    go_simp
  try simp only [Act.put, List.setIfInBounds_toArray, List.set_cons_zero, List.set_cons_succ]
  refine wpAnyH_take (i := 12) (oi := { dst := some 115, op := Op.load _ (Operand.tmp 114), type := _, pos := "ref.go:41", after := #[{ on := 11, ground := Ground.data }], guard := none }) (v := .int .u32 (r a.toNat)) rfl (by kernel_rfl) (by kernel_rfl) (by kernel_rfl) (fun _ _ _ h => h) (Or.inl ⟨by rfl, ?_⟩) hHeld ?_
  · intro w' hSw
    have k0 : w'.cell? ⟨w.heap.size + 1, 0, none⟩ = some (.int .u8 97) := (cell_of_row w' _ 0 _ _ _ hSw.i).trans rfl
    have k1 : w'.cell? ⟨w.heap.size + 1, 1, none⟩ = some (.int .u8 a) := (cell_of_row w' _ 1 _ _ _ hSw.i).trans rfl
    have k2 : w'.cell? ⟨w.heap.size + 1, 2, none⟩ = some (.int .u8 b) := (cell_of_row w' _ 2 _ _ _ hSw.i).trans rfl
    have k9 : w'.cell? ⟨w.heap.size, 9, none⟩ = some (.int .u32 ps) := (cell_of_row w' _ 9 _ _ _ hSw.a).trans A9.out
    have kr : w'.cell? ⟨w.heap.size, a.toNat, none⟩ = some (.int .u32 (r a.toNat)) := (cell_of_row w' _ a.toNat _ _ _ hSw.a).trans C0.out
    go_simp
  try simp only [Act.put, List.setIfInBounds_toArray, List.set_cons_zero, List.set_cons_succ]
  refine wpAnyH_take (i := 13) (oi := { dst := some 116, op := Op.binOp BinOp.quo _ (Operand.tmp 115) (Operand.const (Value.int IntKind.u32 16)) _, type := _, pos := "ref.go:41", after := #[{ on := 12, ground := Ground.data }], guard := none }) (v := .int .u32 (r a.toNat / 16)) rfl (by kernel_rfl) (by kernel_rfl) (by kernel_rfl) (fun _ _ _ h => h) (Or.inl ⟨by rfl, ?_⟩) hHeld ?_
  · intro w' hSw
    have k0 : w'.cell? ⟨w.heap.size + 1, 0, none⟩ = some (.int .u8 97) := (cell_of_row w' _ 0 _ _ _ hSw.i).trans rfl
    have k1 : w'.cell? ⟨w.heap.size + 1, 1, none⟩ = some (.int .u8 a) := (cell_of_row w' _ 1 _ _ _ hSw.i).trans rfl
    have k2 : w'.cell? ⟨w.heap.size + 1, 2, none⟩ = some (.int .u8 b) := (cell_of_row w' _ 2 _ _ _ hSw.i).trans rfl
    have k9 : w'.cell? ⟨w.heap.size, 9, none⟩ = some (.int .u32 ps) := (cell_of_row w' _ 9 _ _ _ hSw.a).trans A9.out
    have kr : w'.cell? ⟨w.heap.size, a.toNat, none⟩ = some (.int .u32 (r a.toNat)) := (cell_of_row w' _ a.toNat _ _ _ hSw.a).trans C0.out
    go_simp
  try simp only [Act.put, List.setIfInBounds_toArray, List.set_cons_zero, List.set_cons_succ]
  refine wpAnyH_take (i := 14) (oi := { dst := some 117, op := Op.binOp BinOp.rem _ (Operand.tmp 116) (Operand.const (Value.int IntKind.u32 16)) _, type := _, pos := "ref.go:41", after := #[{ on := 13, ground := Ground.data }], guard := none }) (v := .int .u32 (r a.toNat / 16 % 16)) rfl (by kernel_rfl) (by kernel_rfl) (by kernel_rfl) (fun _ _ _ h => h) (Or.inl ⟨by rfl, ?_⟩) hHeld ?_
  · intro w' hSw
    have k0 : w'.cell? ⟨w.heap.size + 1, 0, none⟩ = some (.int .u8 97) := (cell_of_row w' _ 0 _ _ _ hSw.i).trans rfl
    have k1 : w'.cell? ⟨w.heap.size + 1, 1, none⟩ = some (.int .u8 a) := (cell_of_row w' _ 1 _ _ _ hSw.i).trans rfl
    have k2 : w'.cell? ⟨w.heap.size + 1, 2, none⟩ = some (.int .u8 b) := (cell_of_row w' _ 2 _ _ _ hSw.i).trans rfl
    have k9 : w'.cell? ⟨w.heap.size, 9, none⟩ = some (.int .u32 ps) := (cell_of_row w' _ 9 _ _ _ hSw.a).trans A9.out
    have kr : w'.cell? ⟨w.heap.size, a.toNat, none⟩ = some (.int .u32 (r a.toNat)) := (cell_of_row w' _ a.toNat _ _ _ hSw.a).trans C0.out
    go_simp
  try simp only [Act.put, List.setIfInBounds_toArray, List.set_cons_zero, List.set_cons_succ]
  refine wpAnyH_take (i := 15) (oi := { dst := some 118, op := Op.binOp BinOp.mul _ (Operand.tmp 117) (Operand.const (Value.int IntKind.u32 16)) _, type := _, pos := "ref.go:41", after := #[{ on := 14, ground := Ground.data }], guard := none }) (v := .int .u32 (r a.toNat / 16 % 16 * 16)) rfl (by kernel_rfl) (by kernel_rfl) (by kernel_rfl) (fun _ _ _ h => h) (Or.inl ⟨by rfl, ?_⟩) hHeld ?_
  · intro w' hSw
    have k0 : w'.cell? ⟨w.heap.size + 1, 0, none⟩ = some (.int .u8 97) := (cell_of_row w' _ 0 _ _ _ hSw.i).trans rfl
    have k1 : w'.cell? ⟨w.heap.size + 1, 1, none⟩ = some (.int .u8 a) := (cell_of_row w' _ 1 _ _ _ hSw.i).trans rfl
    have k2 : w'.cell? ⟨w.heap.size + 1, 2, none⟩ = some (.int .u8 b) := (cell_of_row w' _ 2 _ _ _ hSw.i).trans rfl
    have k9 : w'.cell? ⟨w.heap.size, 9, none⟩ = some (.int .u32 ps) := (cell_of_row w' _ 9 _ _ _ hSw.a).trans A9.out
    have kr : w'.cell? ⟨w.heap.size, a.toNat, none⟩ = some (.int .u32 (r a.toNat)) := (cell_of_row w' _ a.toNat _ _ _ hSw.a).trans C0.out
    go_simp
  try simp only [Act.put, List.setIfInBounds_toArray, List.set_cons_zero, List.set_cons_succ]
  refine wpAnyH_take (i := 16) (oi := { dst := some 119, op := Op.binOp BinOp.add _ (Operand.tmp 110) (Operand.tmp 118) _, type := _, pos := "ref.go:41", after := #[{ on := 7, ground := Ground.data }, { on := 15, ground := Ground.data }], guard := none }) (v := .int .u32 (ps - ps / 16 % 16 * 16 + r a.toNat / 16 % 16 * 16)) rfl (by kernel_rfl) (by kernel_rfl) (by kernel_rfl) (fun _ _ _ h => h) (Or.inl ⟨by rfl, ?_⟩) hHeld ?_
  · intro w' hSw
    have k0 : w'.cell? ⟨w.heap.size + 1, 0, none⟩ = some (.int .u8 97) := (cell_of_row w' _ 0 _ _ _ hSw.i).trans rfl
    have k1 : w'.cell? ⟨w.heap.size + 1, 1, none⟩ = some (.int .u8 a) := (cell_of_row w' _ 1 _ _ _ hSw.i).trans rfl
    have k2 : w'.cell? ⟨w.heap.size + 1, 2, none⟩ = some (.int .u8 b) := (cell_of_row w' _ 2 _ _ _ hSw.i).trans rfl
    have k9 : w'.cell? ⟨w.heap.size, 9, none⟩ = some (.int .u32 ps) := (cell_of_row w' _ 9 _ _ _ hSw.a).trans A9.out
    have kr : w'.cell? ⟨w.heap.size, a.toNat, none⟩ = some (.int .u32 (r a.toNat)) := (cell_of_row w' _ a.toNat _ _ _ hSw.a).trans C0.out
    go_simp
  try simp only [Act.put, List.setIfInBounds_toArray, List.set_cons_zero, List.set_cons_succ]
  refine wpAnyH_take (i := 17) (oi := { dst := some 120, op := Op.fieldAddr _ (Operand.tmp 8) 2, type := _, pos := "ref.go:41", after := #[{ on := 0, ground := Ground.phase }, { on := 1, ground := Ground.phase }, { on := 2, ground := Ground.phase }, { on := 3, ground := Ground.phase }, { on := 4, ground := Ground.phase }, { on := 5, ground := Ground.phase }, { on := 6, ground := Ground.phase }, { on := 7, ground := Ground.phase }, { on := 8, ground := Ground.phase }, { on := 9, ground := Ground.phase }, { on := 10, ground := Ground.phase }, { on := 11, ground := Ground.phase }, { on := 12, ground := Ground.phase }, { on := 13, ground := Ground.phase }, { on := 14, ground := Ground.phase }, { on := 15, ground := Ground.phase }, { on := 16, ground := Ground.phase }], guard := none }) (v := .pointer (some ⟨b1, 9, none⟩)) rfl (by kernel_rfl) (by kernel_rfl) (by kernel_rfl) (fun _ _ _ h => h) (Or.inl ⟨by rfl, ?_⟩) hHeld ?_
  · intro w' hSw
    have k0 : w'.cell? ⟨w.heap.size + 1, 0, none⟩ = some (.int .u8 97) := (cell_of_row w' _ 0 _ _ _ hSw.i).trans rfl
    have k1 : w'.cell? ⟨w.heap.size + 1, 1, none⟩ = some (.int .u8 a) := (cell_of_row w' _ 1 _ _ _ hSw.i).trans rfl
    have k2 : w'.cell? ⟨w.heap.size + 1, 2, none⟩ = some (.int .u8 b) := (cell_of_row w' _ 2 _ _ _ hSw.i).trans rfl
    have k9 : w'.cell? ⟨w.heap.size, 9, none⟩ = some (.int .u32 ps) := (cell_of_row w' _ 9 _ _ _ hSw.a).trans A9.out
    have kr : w'.cell? ⟨w.heap.size, a.toNat, none⟩ = some (.int .u32 (r a.toNat)) := (cell_of_row w' _ a.toNat _ _ _ hSw.a).trans C0.out
    go_simp
  try simp only [Act.put, List.setIfInBounds_toArray, List.set_cons_zero, List.set_cons_succ]
  refine wpAnyH_ready (rs := [18]) (by kernel_rfl) (by simp) ?_
  refine AllReadyH.cons (o := { dst := none, op := Op.store _ (Operand.tmp 120) (Operand.tmp 119), type := _, pos := "ref.go:41", after := #[{ on := 17, ground := Ground.data }, { on := 16, ground := Ground.data }, { on := 0, ground := Ground.phase }, { on := 1, ground := Ground.phase }, { on := 2, ground := Ground.phase }, { on := 3, ground := Ground.phase }, { on := 4, ground := Ground.phase }, { on := 5, ground := Ground.phase }, { on := 6, ground := Ground.phase }, { on := 7, ground := Ground.phase }, { on := 8, ground := Ground.phase }, { on := 9, ground := Ground.phase }, { on := 10, ground := Ground.phase }, { on := 11, ground := Ground.phase }, { on := 12, ground := Ground.phase }, { on := 13, ground := Ground.phase }, { on := 14, ground := Ground.phase }, { on := 15, ground := Ground.phase }, { on := 16, ground := Ground.phase }], guard := none }) rfl (fun K hK => ?_) AllReadyH.nil
  go_simp
  refine hK.out _ _ ?_ (fun hHeld => ?_)
  · first | exact hHeld.set _ _ _ hs1 | exact RfS.drew (RfS.next (HS4.out.set _ _ _ hs1) (below_alloc1 _ _)) | exact RfS.drew (RfS.next ((HS4.out.set _ _ _ hs1).set _ _ _ hs1) (below_alloc1 _ _))
  have HSx := Lib.hid hHeld
  clear hK K hHeld
  try simp only [Act.put, List.setIfInBounds_toArray, List.set_cons_zero, List.set_cons_succ]
  refine wpAnyH_done (by kernel_rfl) ?_ _
  go_wp2_with fail
  refine wp_world (fun w6 => w6.heap[b1]? = some (.cells F 25 (0, 0)) ∧ w6.heap[w4.heap.size]? = some (.cells #[.int .i64 0, .bool false, .bool false, .int .i64 0, .int .u32 0] 29 (0, 0)) ∧ RfS w A #[.int .u8 97, .int .u8 a, .int .u8 b, .int .i32 imm] w6) ⟨?_, ?_, ?_⟩ (fun w6 h6 => ?_)
  · rw [← HF.out]
    first | exact heap_drew' (heap_old' (row_setC (row_setC RT4.out _ _) _ _)) | exact heap_old' (row_setC (row_setC RT4.out _ _) _ _) | exact heap_drew' (heap_old' (row_setC RT4.out _ _)) | exact heap_old' (row_setC RT4.out _ _) | exact heap_old' RT4.out
  · first | exact heap_drew' (heap_new' (by simp)) | exact heap_new' (by simp)
  · first | exact RfS.drew (RfS.next ((HS4.out.set _ _ _ hs1).set _ _ _ hs1) (below_alloc1 _ _)) | exact RfS.next ((HS4.out.set _ _ _ hs1).set _ _ _ hs1) (below_alloc1 _ _) | exact RfS.drew (RfS.next (HS4.out.set _ _ _ hs1) (below_alloc1 _ _)) | exact RfS.next (HS4.out.set _ _ _ hs1) (below_alloc1 _ _) | exact RfS.next HS4.out (below_alloc1 _ _)
  obtain ⟨rT6, rE6, hS6⟩ := h6
  have HS6 := Lib.hid hS6
  have zf := ZF.out
  have hz5 : (Try.prog.info? 29).map (·.size) = some (#[.int .i64 0, .bool false, .bool false, .int .i64 0, .int .u32 0] : Array Value).size := by kernel_rfl
  have hE1 : (#[.int .i64 0, .bool false, .bool false, .int .i64 0, .int .u32 0] : Array Value).all (·.oneCell') = true := by simp [Value.oneCell']
  have nE1 : w4.heap.size ≠ w.heap.size + 1 + 1 := by have := HS4.out.size; omega
  have nE2 : w4.heap.size ≠ w.heap.size + 1 + 1 + 1 := by have := HS4.out.size; omega
  have nT1 : b1 ≠ w.heap.size + 1 + 1 := by omega
  have nT2 : b1 ≠ w.heap.size + 1 + 1 + 1 := by omega
  clear hS6 i0 i1 i2 a9 t8 f8
  refine wp_region_held_drew (S := fun w' => w'.heap[b1]? = some (.cells F 25 (0, 0)) ∧ w'.heap[w4.heap.size]? = some (.cells #[.int .i64 0, .bool false, .bool false, .int .i64 0, .int .u32 0] 29 (0, 0))) (by kernel_rfl) ⟨rT6, rE6⟩ (fun hHeld => ?_)
  refine wpAnyH_take (i := 0) (oi := { dst := some 191, op := Op.load _ (Operand.tmp 8), type := _, pos := "ref.go:64", after := #[], guard := none }) (v := .agg F) rfl (by kernel_rfl) (by kernel_rfl) (by kernel_rfl) (fun _ _ _ h => h) (yields_stR (by rfl) _ rfl b1 rfl F zf (fun w' h => h.1)) hHeld ?_
  try simp only [Act.put, List.setIfInBounds_toArray, List.set_cons_zero, List.set_cons_succ]
  refine wpAnyH_take (i := 1) (oi := { dst := some 192, op := Op.load _ (Operand.tmp 10), type := _, pos := "ref.go:64", after := #[{ on := 2, ground := Ground.gcOnly Departure.lateStores }], guard := none }) (v := .agg #[.int .i64 0, .bool false, .bool false, .int .i64 0, .int .u32 0]) rfl (by kernel_rfl) (by kernel_rfl) (by kernel_rfl) (fun _ _ _ h => h) (Or.inl ⟨by rfl, ?_⟩) hHeld ?_
  · intro w' hSw
    have k0 := cell_of_row w' _ 0 _ _ _ hSw.2
    have k1 := cell_of_row w' _ 1 _ _ _ hSw.2
    have k2 := cell_of_row w' _ 2 _ _ _ hSw.2
    have k3 := cell_of_row w' _ 3 _ _ _ hSw.2
    have k4 := cell_of_row w' _ 4 _ _ _ hSw.2
    simp at k0 k1 k2 k3 k4
    go_simp
  try simp only [Act.put, List.setIfInBounds_toArray, List.set_cons_zero, List.set_cons_succ]
  refine wpAnyH_ready (rs := [2]) (by kernel_rfl) (by simp) ?_
  refine AllReadyH.cons (o := { dst := none, op := Op.store _ (Operand.tmp 6) (Operand.tmp 191), type := _, pos := "ref.go:64", after := #[{ on := 0, ground := Ground.data }, { on := 0, ground := Ground.phase }, { on := 1, ground := Ground.textOnly Departure.lateStores }], guard := none }) rfl (fun K hK => ?_) AllReadyH.nil
  rw [if_pos (by rfl)]
  have g0 : w6.drew.heap[w.heap.size + 1 + 1]? = some (.cells zero19 25 (0, 0)) := HS6.out.zs
  refine wp_store_st 25 _ _ rfl (w.heap.size + 1 + 1) F rfl rfl 25 zero19 g0 (by rw [ZF.out]; kernel_rfl) (by rw [ZF.out]; rfl) OF.out ?_
  have g1 := setRow_heap w6.drew (w.heap.size + 1 + 1) zero19 F _ _ g0
  have g2 : (w6.drew.setRow (w.heap.size + 1 + 1) F).heap[w.heap.size + 1 + 1 + 1]? = some (.cells (effA 0) 29 (0, 0)) := by rw [setRow_other _ _ _ _ (by omega)]; exact HS6.out.ze
  refine hK.out _ _ ⟨by rw [setRow_other _ _ _ _ nT1]; exact rT6, by rw [setRow_other _ _ _ _ nE1]; exact rE6⟩ (fun hHeld => ?_)
  clear hK K
  try simp only [Act.put, List.setIfInBounds_toArray, List.set_cons_zero, List.set_cons_succ]
  refine wpAnyH_ready (rs := [3]) (by kernel_rfl) (by simp) ?_
  refine AllReadyH.cons (o := { dst := none, op := Op.store _ (Operand.tmp 7) (Operand.tmp 192), type := _, pos := "ref.go:64", after := #[{ on := 1, ground := Ground.data }, { on := 2, ground := Ground.chain }, { on := 0, ground := Ground.phase }, { on := 1, ground := Ground.phase }, { on := 2, ground := Ground.phase }], guard := none }) rfl (fun K hK => ?_) AllReadyH.nil
  rw [if_pos (by rfl)]
  refine wp_store_st 29 _ _ rfl (w.heap.size + 1 + 1 + 1) #[.int .i64 0, .bool false, .bool false, .int .i64 0, .int .u32 0] rfl rfl 29 (effA 0) g2 hz5 rfl hE1 ?_
  have g3 := setRow_heap (w6.drew.setRow (w.heap.size + 1 + 1) F) (w.heap.size + 1 + 1 + 1) (effA 0) #[.int .i64 0, .bool false, .bool false, .int .i64 0, .int .u32 0] _ _ g2
  have g4 : ((w6.drew.setRow (w.heap.size + 1 + 1) F).setRow (w.heap.size + 1 + 1 + 1) #[.int .i64 0, .bool false, .bool false, .int .i64 0, .int .u32 0]).heap[w.heap.size + 1 + 1]? = some (.cells F 25 (0, 0)) := by rw [setRow_other _ _ _ _ (by omega)]; exact g1
  refine hK.out _ _ ⟨by rw [setRow_other _ _ _ _ nT2, setRow_other _ _ _ _ nT1]; exact rT6, by rw [setRow_other _ _ _ _ nE2, setRow_other _ _ _ _ nE1]; exact rE6⟩ (fun hHeld => ?_)
  clear hK K
  try simp only [Act.put, List.setIfInBounds_toArray, List.set_cons_zero, List.set_cons_succ]
  refine wpAnyH_done (by kernel_rfl) ?_ _
  have hB := below_setRow (below_setRow HS6.out.below.drew (w.heap.size + 1 + 1) (by omega) F) (w.heap.size + 1 + 1 + 1) (by omega) #[.int .i64 0, .bool false, .bool false, .int .i64 0, .int .u32 0]
  generalize (w6.drew.setRow (w.heap.size + 1 + 1) F).setRow (w.heap.size + 1 + 1 + 1) #[.int .i64 0, .bool false, .bool false, .int .i64 0, .int .u32 0] = w7 at g3 g4 hB ⊢
  have G3 := Lib.hid g3
  have G4 := Lib.hid g4
  have HB := Lib.hid hB
  clear hHeld g0 g1 g2 g3 g4 hB rT6 rE6
  go_wp2_with fail
  refine bodyPost_ret (v := .tuple #[.agg F, .agg #[.int .i64 0, .bool false, .bool false, .int .i64 0, .int .u32 0]]) (results_two rfl _ _ _ _ _ _ rfl rfl G4.out G3.out Try.underlying25 Try.underlying29 rfl rfl (by rw [ZF.out]; kernel_rfl) hz5) rfl ⟨rfl, HB.out⟩

set_option maxHeartbeats 8000000 in
theorem rd_wrps_s (r : Nat → Int) (pc ps : Int) (cr : Nat → Int) (h : Bool) (a b imm inp : Int) (w : World) (h2 : 0 ≤ a) (h3 : a < 8) (h4 : 0 ≤ b) (h5 : b < 8) (h6 : -2147483648 ≤ imm) (h7 : imm < 2147483648) (g0 : 0 ≤ pc) (g1 : pc < 4294967296) (g2 : 0 ≤ ps) (g3 : ps < 4294967296) (hr : ∀ k, 0 ≤ r k ∧ r k < 4294967296) (hc : ∀ k, 0 ≤ cr k ∧ cr k < 4294967296) (hm : Isa.mayB (Isa.fm 97 false) a b imm = true) (hu : (ps % 2 == 1) = false) :
    Calls Try.prog 10 #[.agg (stA r pc ps cr h), .agg #[.int .u8 97, .int .u8 a, .int .u8 b, .int .i32 imm], .int .u32 inp] w fun e w' => e = .returned (.tuple #[.agg (stA (r) ((pc + (Isa.fm 97 false).n) % 4294967296) (bits .and .u32 (r a.toNat) 247) (cr) (h)), .agg #[.int .i64 0, .bool false, .bool false, .int .i64 0, .int .u32 0]]) ∧ Below w.heap.size w w' := by
  have hM := fun w => Isa.refMay_c 97 a b imm false w (by decide) (by decide) h2 (by omega) h4 (by omega) h6 h7
  rw [hm] at hM
  have hO := fun w => Isa.refOf_c 97 false w (by decide) (by decide)
  obtain ⟨n, hn, n0, n1⟩ : ∃ n, (Isa.fm 97 false).n = n ∧ 0 ≤ n ∧ n ≤ 6 := ⟨_, rfl, (fm_n _).1, (fm_n _).2⟩
  have hp1 : IntKind.u32.wrap n = n := by rw [IntKind.wrap_u32]; omega
  obtain ⟨pn, hpn, hpv⟩ : ∃ pn, IntKind.u32.wrap (pc + n) = pn ∧ (pc + (Isa.fm 97 false).n) % 4294967296 = pn := ⟨_, rfl, by rw [hn, IntKind.wrap_u32]⟩
  have HI := Lib.hid fun w => is_yes 97 w (by unfold senseOp; omega)
  unfold Isa.insV at hM
  unfold Isa.Fm.rval at hO
  rw [hn] at hO
  generalize decide ((Isa.fm 97 false).a = 1) = x1 at hO
  generalize decide ((Isa.fm 97 false).b = 1) = x2 at hO
  generalize (Isa.fm 97 false).k = x3 at hO
  generalize decide ((Isa.fm 97 false).s = 1) = x4 at hO
  have hfl : ∀ w, (Instr.field 53 (.agg #[.int .i64 n, .bool x1, .bool x2, .int .i64 x3, .bool x4]) 0).run Try.prog w = .ok (.int .i64 n) w := fun _ => by kernel_rfl
  try rw [hpv]
  have HM := Lib.hid hM
  have HO := Lib.hid hO
  have z0 : (stA r pc ps cr h).size = 19 := rfl
  have o0 : (stA r pc ps cr h).all (·.oneCell') = true := by simp [stA, Value.oneCell']
  have A8 : Hid ((stA r pc ps cr h)[8]? = some (.int .u32 pc)) := Lib.hid rfl
  have A9 : Hid ((stA r pc ps cr h)[9]? = some (.int .u32 ps)) := Lib.hid rfl
  have H8 : Hid ((stA r pc ps cr h).setIfInBounds 8 (.int .u32 pn) = stA r pn ps cr h) := Lib.hid rfl
  have T9 : Hid ((stA r pn ps cr h)[8]? = some (.int .u32 pn)) := Lib.hid rfl
  have C0 : Hid ((stA r pc ps cr h)[a.toNat]? = some (.int .u32 (r a.toNat))) := Lib.hid (by first | rfl | exact stA_R _ _ _ _ _ (by omega) | exact stA_C _ _ _ _ _ (by omega))
  obtain ⟨y0, hy0⟩ : ∃ y, (stA r pn ps cr h)[9]? = some y := ⟨_, by first | rfl | exact stA_R _ _ _ _ _ (by omega) | exact stA_C _ _ _ _ _ (by omega)⟩
  have Y0 := Lib.hid hy0
  have zF : (stA (r) (pn) (bits .and .u32 (r a.toNat) 247) (cr) (h)).size = 19 := rfl
  have oF : (stA (r) (pn) (bits .and .u32 (r a.toNat) 247) (cr) (h)).all (·.oneCell') = true := by simp [stA, Value.oneCell']
  obtain ⟨F, hFe⟩ : ∃ F, stA (r) (pn) (bits .and .u32 (r a.toNat) 247) (cr) (h) = F := ⟨_, rfl⟩
  have HF : Hid (((stA r pn ps cr h).setIfInBounds (9) (.int .u32 (bits .and .u32 (r a.toNat) 247))) = F) := Lib.hid (by rw [← hFe]; first | rfl | exact stA_setR _ _ _ _ _ (by omega) _ | exact stA_setC _ _ _ _ _ (by omega) _ | (rw [stA_setR _ _ _ _ _ (by omega), stA_setR _ _ _ _ _ (by omega)]; congr 1; funext j; simp only [updN]; split <;> rfl))
  rw [hFe] at zF oF ⊢
  have ZF := Lib.hid zF
  have OF := Lib.hid oF
  clear zF oF hFe
  generalize stA r pn ps cr h = A1 at H8 T9 HF Y0
  generalize stA r pc ps cr h = A at z0 o0 A8 A9 H8 C0 ⊢
  have Z0 := Lib.hid z0
  have O0 := Lib.hid o0
  have ra := hr a.toNat
  have cb := hc b.toNat
  have c3 := hc 3
  have HMk := Lib.hid fun w => masked_c (r a.toNat) w ra.1 ra.2
  clear z0 o0 hM hO hpv hm hn hr hc hy0
  go_enter Try.func10, Try.ntmps10
  go_wp2_with fail
  refine (HM.out _).mono ?_
  rintro e w1 ⟨rfl, hb1⟩
  have HS1 : Hid (RfS w A #[.int .u8 97, .int .u8 a, .int .u8 b, .int .i32 imm] w1) := Lib.hid (by
    refine RfS.next ?_ hb1
    exact ⟨heap_old' (heap_old' (heap_old' (heap_new' rfl))), heap_old' (heap_old' (heap_new' (by simp))), heap_old' (heap_new' (by simp)), heap_new' (by simp), (((below_alloc1 w _).alloc (by simp) _).alloc (by simp; omega) _).alloc (by simp; omega) _, by simp⟩)
  clear hb1
  have hs0 : w.heap.size < w1.heap.size := by have := HS1.out.size; omega
  have hs0' : w.heap.size + 1 < w1.heap.size := by have := HS1.out.size; omega
  have i0 : w1.cell? ⟨w.heap.size + 1, 0, none⟩ = some (.int .u8 97) := (cell_of_row w1 _ 0 _ _ _ HS1.out.i).trans rfl
  have a9 : w1.cell? ⟨w.heap.size, 9, none⟩ = some (.int .u32 ps) := (cell_of_row w1 _ 9 _ _ _ HS1.out.a).trans A9.out
  go_wp2_with fail
  refine (HI.out _).mono ?_
  rintro e w1' ⟨rfl, rfl⟩
  go_wp2_with (first
    | ((with_reducible show wpList _ _ _ (Oper.mk _ (.load 25 _) _ _ _ _ :: _) _ _); refine wpList_load_row rfl 25 _ rfl _ rfl 25 _ (0, 0) _ (by exact HS1.out.a) Try.underlying25 rfl (by rw [Z0.out]; kernel_rfl) ?_)
    | ((with_reducible show wpList _ _ _ (Oper.mk _ (.store 25 _ _) _ _ _ _ :: _) _ _); refine wpList_store_at rfl 25 _ _ rfl rfl _ A rfl rfl 25 _ (by refine heap_new' ?_; simp; done) (by rw [Z0.out]; kernel_rfl) (by rw [Z0.out]; rfl) O0.out _ (by refine setRow_new' _ _ _ _ _ ?_; simp; done) ?_))
  refine wp_region_held_drew (S := fun w' => RfS w A #[.int .u8 97, .int .u8 a, .int .u8 b, .int .i32 imm] w') (by kernel_rfl) (RfS.drew (RfS.next HS1.out (below_alloc1 w1 _))) (fun hHeld => ?_)
  refine wpAnyH_take (i := 0) (oi := { dst := some 27, op := Op.fieldAddr _ (Operand.tmp 3) 1, type := _, pos := "ref.go:22", after := #[], guard := none }) (v := .pointer (some ⟨w.heap.size, 8, none⟩)) rfl (by kernel_rfl) (by kernel_rfl) (by kernel_rfl) (fun _ _ _ h => h) (Or.inl ⟨by rfl, ?_⟩) hHeld ?_
  · intro w' hSw
    have k0 : w'.cell? ⟨w.heap.size + 1, 0, none⟩ = some (.int .u8 97) := (cell_of_row w' _ 0 _ _ _ hSw.i).trans rfl
    have k8 : w'.cell? ⟨w.heap.size, 8, none⟩ = some (.int .u32 pc) := (cell_of_row w' _ 8 _ _ _ hSw.a).trans A8.out
    go_simp
  try simp only [Act.put, List.setIfInBounds_toArray, List.set_cons_zero, List.set_cons_succ]
  refine wpAnyH_take (i := 1) (oi := { dst := some 28, op := Op.load _ (Operand.tmp 27), type := _, pos := "ref.go:22", after := #[{ on := 0, ground := Ground.data }], guard := none }) (v := .int .u32 pc) rfl (by kernel_rfl) (by kernel_rfl) (by kernel_rfl) (fun _ _ _ h => h) (Or.inl ⟨by rfl, ?_⟩) hHeld ?_
  · intro w' hSw
    have k0 : w'.cell? ⟨w.heap.size + 1, 0, none⟩ = some (.int .u8 97) := (cell_of_row w' _ 0 _ _ _ hSw.i).trans rfl
    have k8 : w'.cell? ⟨w.heap.size, 8, none⟩ = some (.int .u32 pc) := (cell_of_row w' _ 8 _ _ _ hSw.a).trans A8.out
    go_simp
  try simp only [Act.put, List.setIfInBounds_toArray, List.set_cons_zero, List.set_cons_succ]
  refine wpAnyH_take (i := 2) (oi := { dst := some 29, op := Op.fieldAddr _ (Operand.tmp 4) 0, type := _, pos := "ref.go:22", after := #[], guard := none }) (v := .pointer (some ⟨w.heap.size + 1, 0, none⟩)) rfl (by kernel_rfl) (by kernel_rfl) (by kernel_rfl) (fun _ _ _ h => h) (Or.inl ⟨by rfl, ?_⟩) hHeld ?_
  · intro w' hSw
    have k0 : w'.cell? ⟨w.heap.size + 1, 0, none⟩ = some (.int .u8 97) := (cell_of_row w' _ 0 _ _ _ hSw.i).trans rfl
    have k8 : w'.cell? ⟨w.heap.size, 8, none⟩ = some (.int .u32 pc) := (cell_of_row w' _ 8 _ _ _ hSw.a).trans A8.out
    go_simp
  try simp only [Act.put, List.setIfInBounds_toArray, List.set_cons_zero, List.set_cons_succ]
  refine wpAnyH_take (i := 3) (oi := { dst := some 30, op := Op.load _ (Operand.tmp 29), type := _, pos := "ref.go:22", after := #[{ on := 2, ground := Ground.data }], guard := none }) (v := .int .u8 97) rfl (by kernel_rfl) (by kernel_rfl) (by kernel_rfl) (fun _ _ _ h => h) (Or.inl ⟨by rfl, ?_⟩) hHeld ?_
  · intro w' hSw
    have k0 : w'.cell? ⟨w.heap.size + 1, 0, none⟩ = some (.int .u8 97) := (cell_of_row w' _ 0 _ _ _ hSw.i).trans rfl
    have k8 : w'.cell? ⟨w.heap.size, 8, none⟩ = some (.int .u32 pc) := (cell_of_row w' _ 8 _ _ _ hSw.a).trans A8.out
    go_simp
  try simp only [Act.put, List.setIfInBounds_toArray, List.set_cons_zero, List.set_cons_succ]
  refine wpAnyH_ready (rs := [4]) (by kernel_rfl) (by simp) ?_
  refine AllReadyH.cons (o := { dst := some 31, op := Op.call { callee := Callee.value (Operand.func _), args := #[Operand.tmp 30, Operand.const (Value.bool false)], argTypes := _ }, type := _, pos := "ref.go:22", after := #[{ on := 3, ground := Ground.data }], guard := none }) rfl (fun K hK => ?_) AllReadyH.nil
  go_simp
  go_at_call 22
  refine (HO.out _).mono ?_
  rintro e w3 ⟨rfl, hb3⟩
  have rT : w3.heap[w1.heap.size]? = some (.cells A 25 (0, 0)) := (hb3.block _ (by simp)).trans (heap_drew' (heap_new' rfl))
  have hs3 : w1.heap.size < w3.heap.size := by have := hb3.size; simp at this; omega
  refine hK.out _ _ (hHeld.next hb3) (fun hHeld => ?_)
  have t8 : w3.cell? ⟨w1.heap.size, 8, none⟩ = some (.int .u32 pc) := (cell_of_row w3 _ 8 _ _ _ rT).trans A8.out
  have f8 := row_free rT 8
  clear hK K hb3
  try simp only [Act.put, List.setIfInBounds_toArray, List.set_cons_zero, List.set_cons_succ]
  refine wpAnyH_take (i := 5) (oi := { dst := some 32, op := Op.field _ (Operand.tmp 31) 0, type := _, pos := "ref.go:22", after := #[{ on := 4, ground := Ground.data }], guard := none }) (v := .int .i64 n) rfl (by kernel_rfl) (by kernel_rfl) (by kernel_rfl) (fun _ _ _ h => h) (Or.inl ⟨by rfl, ?_⟩) hHeld ?_
  · intro w' hSw
    have k0 : w'.cell? ⟨w.heap.size + 1, 0, none⟩ = some (.int .u8 97) := (cell_of_row w' _ 0 _ _ _ hSw.i).trans rfl
    have k8 : w'.cell? ⟨w.heap.size, 8, none⟩ = some (.int .u32 pc) := (cell_of_row w' _ 8 _ _ _ hSw.a).trans A8.out
    go_simp
  try simp only [Act.put, List.setIfInBounds_toArray, List.set_cons_zero, List.set_cons_succ]
  refine wpAnyH_take (i := 6) (oi := { dst := some 33, op := Op.convert _ _ (Operand.tmp 32), type := _, pos := "ref.go:22", after := #[{ on := 5, ground := Ground.data }], guard := none }) (v := .int .u32 n) rfl (by kernel_rfl) (by kernel_rfl) (by kernel_rfl) (fun _ _ _ h => h) (Or.inl ⟨by rfl, ?_⟩) hHeld ?_
  · intro w' hSw
    have k0 : w'.cell? ⟨w.heap.size + 1, 0, none⟩ = some (.int .u8 97) := (cell_of_row w' _ 0 _ _ _ hSw.i).trans rfl
    have k8 : w'.cell? ⟨w.heap.size, 8, none⟩ = some (.int .u32 pc) := (cell_of_row w' _ 8 _ _ _ hSw.a).trans A8.out
    go_simp
  try simp only [Act.put, List.setIfInBounds_toArray, List.set_cons_zero, List.set_cons_succ]
  refine wpAnyH_take (i := 7) (oi := { dst := some 34, op := Op.binOp BinOp.add _ (Operand.tmp 28) (Operand.tmp 33) _, type := _, pos := "ref.go:22", after := #[{ on := 1, ground := Ground.data }, { on := 6, ground := Ground.data }], guard := none }) (v := .int .u32 pn) rfl (by kernel_rfl) (by kernel_rfl) (by kernel_rfl) (fun _ _ _ h => h) (Or.inl ⟨by rfl, ?_⟩) hHeld ?_
  · intro w' hSw
    have k0 : w'.cell? ⟨w.heap.size + 1, 0, none⟩ = some (.int .u8 97) := (cell_of_row w' _ 0 _ _ _ hSw.i).trans rfl
    have k8 : w'.cell? ⟨w.heap.size, 8, none⟩ = some (.int .u32 pc) := (cell_of_row w' _ 8 _ _ _ hSw.a).trans A8.out
    go_simp
  try simp only [Act.put, List.setIfInBounds_toArray, List.set_cons_zero, List.set_cons_succ]
  refine wpAnyH_take (i := 8) (oi := { dst := some 35, op := Op.fieldAddr _ (Operand.tmp 8) 1, type := _, pos := "ref.go:22", after := #[{ on := 0, ground := Ground.phase }, { on := 1, ground := Ground.phase }, { on := 2, ground := Ground.phase }, { on := 3, ground := Ground.phase }, { on := 4, ground := Ground.phase }, { on := 5, ground := Ground.phase }, { on := 6, ground := Ground.phase }, { on := 7, ground := Ground.phase }], guard := none }) (v := .pointer (some ⟨w1.heap.size, 8, none⟩)) rfl (by kernel_rfl) (by kernel_rfl) (by kernel_rfl) (fun _ _ _ h => h) (Or.inl ⟨by rfl, ?_⟩) hHeld ?_
  · intro w' hSw
    have k0 : w'.cell? ⟨w.heap.size + 1, 0, none⟩ = some (.int .u8 97) := (cell_of_row w' _ 0 _ _ _ hSw.i).trans rfl
    have k8 : w'.cell? ⟨w.heap.size, 8, none⟩ = some (.int .u32 pc) := (cell_of_row w' _ 8 _ _ _ hSw.a).trans A8.out
    go_simp
  try simp only [Act.put, List.setIfInBounds_toArray, List.set_cons_zero, List.set_cons_succ]
  refine wpAnyH_ready (rs := [9]) (by kernel_rfl) (by simp) ?_
  refine AllReadyH.cons (o := { dst := none, op := Op.store _ (Operand.tmp 35) (Operand.tmp 34), type := _, pos := "ref.go:22", after := #[{ on := 8, ground := Ground.data }, { on := 7, ground := Ground.data }, { on := 4, ground := Ground.chain }, { on := 0, ground := Ground.phase }, { on := 1, ground := Ground.phase }, { on := 2, ground := Ground.phase }, { on := 3, ground := Ground.phase }, { on := 4, ground := Ground.phase }, { on := 5, ground := Ground.phase }, { on := 6, ground := Ground.phase }, { on := 7, ground := Ground.phase }], guard := none }) rfl (fun K hK => ?_) AllReadyH.nil
  go_simp
  refine hK.out _ _ (hHeld.set _ 8 _ HS1.out.size) (fun hHeld => ?_)
  clear hK K
  try simp only [Act.put, List.setIfInBounds_toArray, List.set_cons_zero, List.set_cons_succ]
  refine wpAnyH_done (by kernel_rfl) ?_ _
  have rT4 := row_setC rT 8 (.int .u32 pn)
  rw [H8.out] at rT4
  have hs4 : w1.heap.size < (w3.setCell ⟨w1.heap.size, 8, none⟩ (.int .u32 pn)).heap.size := by simpa using hs3
  have HS4 := Lib.hid hHeld
  have RT4 := Lib.hid rT4
  clear rT t8 f8 hHeld i0 a9 hs3 rT4 hs0 hs0'
  generalize w3.setCell ⟨w1.heap.size, 8, none⟩ (.int .u32 pn) = w4 at HS4 RT4 hs4 ⊢
  have hs1 := HS1.out.size
  clear HS1
  generalize w1.heap.size = b1 at RT4 hs4 hs1 ⊢
  have i0 : w4.cell? ⟨w.heap.size + 1, 0, none⟩ = some (.int .u8 97) := (cell_of_row w4 _ 0 _ _ _ HS4.out.i).trans rfl
  have i1 : w4.cell? ⟨w.heap.size + 1, 1, none⟩ = some (.int .u8 a) := (cell_of_row w4 _ 1 _ _ _ HS4.out.i).trans rfl
  have i2 : w4.cell? ⟨w.heap.size + 1, 2, none⟩ = some (.int .u8 b) := (cell_of_row w4 _ 2 _ _ _ HS4.out.i).trans rfl
  have a9 : w4.cell? ⟨w.heap.size, 9, none⟩ = some (.int .u32 ps) := (cell_of_row w4 _ 9 _ _ _ HS4.out.a).trans A9.out
  have t8 : w4.cell? ⟨b1, 8, none⟩ = some (.int .u32 pn) := (cell_of_row w4 _ 8 _ _ _ RT4.out).trans T9.out
  have f8 := row_free RT4.out 8
  have hs5 : w.heap.size < w4.heap.size := by have := HS4.out.size; omega
  have hs6 : w.heap.size + 1 < w4.heap.size := by have := HS4.out.size; omega
  have ne1 : b1 ≠ w.heap.size := by omega
  have ne2 : b1 ≠ w.heap.size + 1 := by omega
  have ne3 : w.heap.size ≠ b1 := by omega
  have ne4 : w.heap.size + 1 ≠ b1 := by omega
  have ne5 : w4.heap.size ≠ b1 := by omega
  have ne6 : b1 ≠ w4.heap.size := by omega
  have ne7 : w4.heap.size ≠ w.heap.size := by have := HS4.out.size; omega
  have ne8 : w4.heap.size ≠ w.heap.size + 1 := by have := HS4.out.size; omega
  have c0_ : w4.cell? ⟨w.heap.size, a.toNat, none⟩ = some (.int .u32 (r a.toNat)) := (cell_of_row w4 _ (a.toNat) _ _ _ HS4.out.a).trans C0.out
  have t0_ : w4.cell? ⟨b1, 9, none⟩ = some y0 := (cell_of_row w4 _ (9) _ _ _ RT4.out).trans Y0.out
  have f0_ := row_free RT4.out (9)
  go_wp2_with fail
  refine (HMk.out _).mono ?_
  rintro e w9 ⟨rfl, rfl⟩
  go_wp2_with fail
  refine wp_world (fun w6 => w6.heap[b1]? = some (.cells F 25 (0, 0)) ∧ w6.heap[w4.heap.size]? = some (.cells #[.int .i64 0, .bool false, .bool false, .int .i64 0, .int .u32 0] 29 (0, 0)) ∧ RfS w A #[.int .u8 97, .int .u8 a, .int .u8 b, .int .i32 imm] w6) ⟨?_, ?_, ?_⟩ (fun w6 h6 => ?_)
  · rw [← HF.out]
    first | exact heap_drew' (heap_old' (row_setC (row_setC RT4.out _ _) _ _)) | exact heap_old' (row_setC (row_setC RT4.out _ _) _ _) | exact heap_drew' (heap_old' (row_setC RT4.out _ _)) | exact heap_old' (row_setC RT4.out _ _) | exact heap_old' RT4.out
  · first | exact heap_drew' (heap_new' (by simp)) | exact heap_new' (by simp)
  · first | exact RfS.drew (RfS.next ((HS4.out.set _ _ _ hs1).set _ _ _ hs1) (below_alloc1 _ _)) | exact RfS.next ((HS4.out.set _ _ _ hs1).set _ _ _ hs1) (below_alloc1 _ _) | exact RfS.drew (RfS.next (HS4.out.set _ _ _ hs1) (below_alloc1 _ _)) | exact RfS.next (HS4.out.set _ _ _ hs1) (below_alloc1 _ _) | exact RfS.next HS4.out (below_alloc1 _ _)
  obtain ⟨rT6, rE6, hS6⟩ := h6
  have HS6 := Lib.hid hS6
  have zf := ZF.out
  have hz5 : (Try.prog.info? 29).map (·.size) = some (#[.int .i64 0, .bool false, .bool false, .int .i64 0, .int .u32 0] : Array Value).size := by kernel_rfl
  have hE1 : (#[.int .i64 0, .bool false, .bool false, .int .i64 0, .int .u32 0] : Array Value).all (·.oneCell') = true := by simp [Value.oneCell']
  have nE1 : w4.heap.size ≠ w.heap.size + 1 + 1 := by have := HS4.out.size; omega
  have nE2 : w4.heap.size ≠ w.heap.size + 1 + 1 + 1 := by have := HS4.out.size; omega
  have nT1 : b1 ≠ w.heap.size + 1 + 1 := by omega
  have nT2 : b1 ≠ w.heap.size + 1 + 1 + 1 := by omega
  clear hS6 i0 i1 i2 a9 t8 f8
  refine wp_region_held_drew (S := fun w' => w'.heap[b1]? = some (.cells F 25 (0, 0)) ∧ w'.heap[w4.heap.size]? = some (.cells #[.int .i64 0, .bool false, .bool false, .int .i64 0, .int .u32 0] 29 (0, 0))) (by kernel_rfl) ⟨rT6, rE6⟩ (fun hHeld => ?_)
  refine wpAnyH_take (i := 0) (oi := { dst := some 191, op := Op.load _ (Operand.tmp 8), type := _, pos := "ref.go:64", after := #[], guard := none }) (v := .agg F) rfl (by kernel_rfl) (by kernel_rfl) (by kernel_rfl) (fun _ _ _ h => h) (yields_stR (by rfl) _ rfl b1 rfl F zf (fun w' h => h.1)) hHeld ?_
  try simp only [Act.put, List.setIfInBounds_toArray, List.set_cons_zero, List.set_cons_succ]
  refine wpAnyH_take (i := 1) (oi := { dst := some 192, op := Op.load _ (Operand.tmp 10), type := _, pos := "ref.go:64", after := #[{ on := 2, ground := Ground.gcOnly Departure.lateStores }], guard := none }) (v := .agg #[.int .i64 0, .bool false, .bool false, .int .i64 0, .int .u32 0]) rfl (by kernel_rfl) (by kernel_rfl) (by kernel_rfl) (fun _ _ _ h => h) (Or.inl ⟨by rfl, ?_⟩) hHeld ?_
  · intro w' hSw
    have k0 := cell_of_row w' _ 0 _ _ _ hSw.2
    have k1 := cell_of_row w' _ 1 _ _ _ hSw.2
    have k2 := cell_of_row w' _ 2 _ _ _ hSw.2
    have k3 := cell_of_row w' _ 3 _ _ _ hSw.2
    have k4 := cell_of_row w' _ 4 _ _ _ hSw.2
    simp at k0 k1 k2 k3 k4
    go_simp
  try simp only [Act.put, List.setIfInBounds_toArray, List.set_cons_zero, List.set_cons_succ]
  refine wpAnyH_ready (rs := [2]) (by kernel_rfl) (by simp) ?_
  refine AllReadyH.cons (o := { dst := none, op := Op.store _ (Operand.tmp 6) (Operand.tmp 191), type := _, pos := "ref.go:64", after := #[{ on := 0, ground := Ground.data }, { on := 0, ground := Ground.phase }, { on := 1, ground := Ground.textOnly Departure.lateStores }], guard := none }) rfl (fun K hK => ?_) AllReadyH.nil
  rw [if_pos (by rfl)]
  have g0 : w6.drew.heap[w.heap.size + 1 + 1]? = some (.cells zero19 25 (0, 0)) := HS6.out.zs
  refine wp_store_st 25 _ _ rfl (w.heap.size + 1 + 1) F rfl rfl 25 zero19 g0 (by rw [ZF.out]; kernel_rfl) (by rw [ZF.out]; rfl) OF.out ?_
  have g1 := setRow_heap w6.drew (w.heap.size + 1 + 1) zero19 F _ _ g0
  have g2 : (w6.drew.setRow (w.heap.size + 1 + 1) F).heap[w.heap.size + 1 + 1 + 1]? = some (.cells (effA 0) 29 (0, 0)) := by rw [setRow_other _ _ _ _ (by omega)]; exact HS6.out.ze
  refine hK.out _ _ ⟨by rw [setRow_other _ _ _ _ nT1]; exact rT6, by rw [setRow_other _ _ _ _ nE1]; exact rE6⟩ (fun hHeld => ?_)
  clear hK K
  try simp only [Act.put, List.setIfInBounds_toArray, List.set_cons_zero, List.set_cons_succ]
  refine wpAnyH_ready (rs := [3]) (by kernel_rfl) (by simp) ?_
  refine AllReadyH.cons (o := { dst := none, op := Op.store _ (Operand.tmp 7) (Operand.tmp 192), type := _, pos := "ref.go:64", after := #[{ on := 1, ground := Ground.data }, { on := 2, ground := Ground.chain }, { on := 0, ground := Ground.phase }, { on := 1, ground := Ground.phase }, { on := 2, ground := Ground.phase }], guard := none }) rfl (fun K hK => ?_) AllReadyH.nil
  rw [if_pos (by rfl)]
  refine wp_store_st 29 _ _ rfl (w.heap.size + 1 + 1 + 1) #[.int .i64 0, .bool false, .bool false, .int .i64 0, .int .u32 0] rfl rfl 29 (effA 0) g2 hz5 rfl hE1 ?_
  have g3 := setRow_heap (w6.drew.setRow (w.heap.size + 1 + 1) F) (w.heap.size + 1 + 1 + 1) (effA 0) #[.int .i64 0, .bool false, .bool false, .int .i64 0, .int .u32 0] _ _ g2
  have g4 : ((w6.drew.setRow (w.heap.size + 1 + 1) F).setRow (w.heap.size + 1 + 1 + 1) #[.int .i64 0, .bool false, .bool false, .int .i64 0, .int .u32 0]).heap[w.heap.size + 1 + 1]? = some (.cells F 25 (0, 0)) := by rw [setRow_other _ _ _ _ (by omega)]; exact g1
  refine hK.out _ _ ⟨by rw [setRow_other _ _ _ _ nT2, setRow_other _ _ _ _ nT1]; exact rT6, by rw [setRow_other _ _ _ _ nE2, setRow_other _ _ _ _ nE1]; exact rE6⟩ (fun hHeld => ?_)
  clear hK K
  try simp only [Act.put, List.setIfInBounds_toArray, List.set_cons_zero, List.set_cons_succ]
  refine wpAnyH_done (by kernel_rfl) ?_ _
  have hB := below_setRow (below_setRow HS6.out.below.drew (w.heap.size + 1 + 1) (by omega) F) (w.heap.size + 1 + 1 + 1) (by omega) #[.int .i64 0, .bool false, .bool false, .int .i64 0, .int .u32 0]
  generalize (w6.drew.setRow (w.heap.size + 1 + 1) F).setRow (w.heap.size + 1 + 1 + 1) #[.int .i64 0, .bool false, .bool false, .int .i64 0, .int .u32 0] = w7 at g3 g4 hB ⊢
  have G3 := Lib.hid g3
  have G4 := Lib.hid g4
  have HB := Lib.hid hB
  clear hHeld g0 g1 g2 g3 g4 hB rT6 rE6
  go_wp2_with fail
  refine bodyPost_ret (v := .tuple #[.agg F, .agg #[.int .i64 0, .bool false, .bool false, .int .i64 0, .int .u32 0]]) (results_two rfl _ _ _ _ _ _ rfl rfl G4.out G3.out Try.underlying25 Try.underlying29 rfl rfl (by rw [ZF.out]; kernel_rfl) hz5) rfl ⟨rfl, HB.out⟩

end Go.Proofs.Ytlgnhjalhfednaa
