/- The document's Do (mummerref09) by the same plain function; the walk of SenseDoes. -/
import Derived.Test.YtlgnhjalhfednaaSenT1
import Derived.Test.YtlgnhjalhfednaaSenT2
import Derived.Test.YtlgnhjalhfednaaSenT3
import Derived.Test.YtlgnhjalhfednaaSenT4
namespace Go.Proofs.Ytlgnhjalhfednaa
open Go.RowKit
set_option linter.unusedSimpArgs false
set_option linter.unusedVariables false
set_option maxRecDepth 100000

theorem refDo_c (x : DX) (h : x.okay) (hp0 : 0 ≤ x.ps) (hp1 : x.ps < 4294967296) (hr : ∀ k, 0 ≤ x.r k ∧ x.r k < 4294967296) (w : World) :
    Calls Try.prog 10 #[.agg x.st, Isa.insV x.op x.a x.b x.imm, .int .u32 x.inp] w fun e w' => e = .returned (doV x) ∧ Below w.heap.size w w' := by
  have hR := fun hm => may_regs h hm
  have hU := h.user
  have hcr := h.cr0
  have hb := h
  obtain ⟨⟨s1, s2, s3, s4, s5⟩, -, q0, q1, a0, a1, b0, b1, i0, i1, pc0, pc1, -⟩ := h
  obtain ⟨r, pc, ps, cr, hh, op, a, b, imm, inp, cause, fl, out, port, val, user⟩ := x
  simp only at s1 s2 s3 s4 s5 q0 q1 a0 a1 b0 b1 i0 i1 pc0 pc1 hR hU hp0 hp1 hr hcr
  subst s1 s2 s3 s4 s5
  rw [user_is hp0 hp1] at hU
  unfold DX.st Isa.insV
  simp only
  unfold doV
  simp only
  by_cases hn : ¬ senseOp op ∨ Isa.mayB (Isa.fm op false) a b imm = false
  · rw [if_pos hn]
    exact rd_bad r pc ps cr hh op a b imm inp w q0 q1 a0 a1 b0 b1 i0 i1 hn
  · rw [if_neg hn]
    have hm : Isa.mayB (Isa.fm op false) a b imm = true := by
      cases e : Isa.mayB (Isa.fm op false) a b imm
      · exact absurd (.inr e) hn
      · rfl
    have hs : senseOp op := Classical.byContradiction fun q => hn (.inl q)
    clear hn
    obtain ⟨⟨-, ra⟩, ⟨-, rb⟩⟩ := hR hm
    cases user
    · rw [if_neg (by simp)]
      rcases hs with rfl | rfl | rfl | rfl | rfl | rfl | rfl | rfl | rfl
      · exact rd_hlt r pc ps cr hh a b imm inp w a0 ra b0 rb i0 i1 pc0 pc1 hp0 hp1 hr hcr hm hU.symm
      · have e : ((cr 2 - 1) % 4294967296 + (Isa.fm 2 false).n) % 4294967296 = cr 2 := by
          have := hcr 2
          have e1 : (Isa.fm 2 false).n = 1 := by decide
          rw [e1]; omega
        have := rd_iret_s r pc ps cr hh a b imm inp w a0 ra b0 rb i0 i1 pc0 pc1 hp0 hp1 hr hcr hm hU.symm
        rw [← e] at this
        exact this
      · exact rd_flush_s r pc ps cr hh a b imm inp w a0 ra b0 rb i0 i1 pc0 pc1 hp0 hp1 hr hcr hm hU.symm
      · exact rd_rdps_s r pc ps cr hh a b imm inp w a0 ra b0 rb i0 i1 pc0 pc1 hp0 hp1 hr hcr hm hU.symm
      · exact rd_wrps_s r pc ps cr hh a b imm inp w a0 ra b0 rb i0 i1 pc0 pc1 hp0 hp1 hr hcr hm hU.symm
      · exact rd_rdcr_s r pc ps cr hh a b imm inp w a0 ra b0 rb i0 i1 pc0 pc1 hp0 hp1 hr hcr hm hU.symm
      · exact rd_wrcr r pc ps cr hh a b imm inp w a0 ra b0 rb i0 i1 pc0 pc1 hp0 hp1 hr hcr hm hU.symm
      · exact rd_in r pc ps cr hh a b imm inp w a0 ra b0 rb i0 i1 pc0 pc1 hp0 hp1 hr hcr hm hU.symm
      · exact rd_out r pc ps cr hh a b imm inp w a0 ra b0 rb i0 i1 pc0 pc1 hp0 hp1 hr hcr hm hU.symm
    · rcases hs with rfl | rfl | rfl | rfl | rfl | rfl | rfl | rfl | rfl
      · rw [if_pos ⟨rfl, by decide⟩]; exact rd_no1 r pc ps cr hh a b imm inp w a0 ra b0 rb i0 i1 pc0 pc1 hp0 hp1 hr hcr hm hU.symm
      · rw [if_neg (by decide)]; exact rd_iret_u r pc ps cr hh a b imm inp w a0 ra b0 rb i0 i1 pc0 pc1 hp0 hp1 hr hcr hm hU.symm
      · rw [if_neg (by decide)]; exact rd_flush_u r pc ps cr hh a b imm inp w a0 ra b0 rb i0 i1 pc0 pc1 hp0 hp1 hr hcr hm hU.symm
      · rw [if_neg (by decide)]; exact rd_rdps_u r pc ps cr hh a b imm inp w a0 ra b0 rb i0 i1 pc0 pc1 hp0 hp1 hr hcr hm hU.symm
      · rw [if_neg (by decide)]; exact rd_wrps_u r pc ps cr hh a b imm inp w a0 ra b0 rb i0 i1 pc0 pc1 hp0 hp1 hr hcr hm hU.symm
      · rw [if_neg (by decide)]; exact rd_rdcr_u r pc ps cr hh a b imm inp w a0 ra b0 rb i0 i1 pc0 pc1 hp0 hp1 hr hcr hm hU.symm
      · rw [if_pos ⟨rfl, by decide⟩]; exact rd_no99 r pc ps cr hh a b imm inp w a0 ra b0 rb i0 i1 pc0 pc1 hp0 hp1 hr hcr hm hU.symm
      · rw [if_pos ⟨rfl, by decide⟩]; exact rd_no100 r pc ps cr hh a b imm inp w a0 ra b0 rb i0 i1 pc0 pc1 hp0 hp1 hr hcr hm hU.symm
      · rw [if_pos ⟨rfl, by decide⟩]; exact rd_no101 r pc ps cr hh a b imm inp w a0 ra b0 rb i0 i1 pc0 pc1 hp0 hp1 hr hcr hm hU.symm

def InR (f : Nat → Int) : Prop := ∀ k, 0 ≤ f k ∧ f k < 4294967296
theorem InR.upd {f : Nat → Int} (h : InR f) (j : Nat) {v : Int} (hv : 0 ≤ v ∧ v < 4294967296) : InR (updN f j v) := fun k => by
  simp only [updN]; split
  · exact hv
  · exact h k
theorem in_247 {x : Int} (h : 0 ≤ x ∧ x < 4294967296) : 0 ≤ bits .and .u32 x 247 ∧ bits .and .u32 x 247 < 4294967296 := by
  rw [← ref_247 h.1 h.2]; omega
theorem in_240 {x y : Int} (h : 0 ≤ x ∧ x < 4294967296) (g : 0 ≤ y ∧ y < 4294967296) : 0 ≤ bits .or .u32 (bits .andNot .u32 x 240) (bits .and .u32 y 240) ∧ bits .or .u32 (bits .andNot .u32 x 240) (bits .and .u32 y 240) < 4294967296 := by
  rw [← ref_240 h.1 h.2 g.1 g.2]; omega

theorem does_law (x : DX) (h : x.okay) (hp : 0 ≤ x.ps ∧ x.ps < 4294967296) (hr : InR x.r) (hi : 0 ≤ x.inp ∧ x.inp < 4294967296) :
    ∃ (r' : Nat → Int) (pc' ps' : Int) (cr' : Nat → Int) (h' : Bool) (c : Int) (fl out : Bool) (po va : Int), doV x = .tuple #[.agg (stA r' pc' ps' cr' h'), .agg #[.int .i64 c, .bool fl, .bool out, .int .i64 po, .int .u32 va]] ∧
      InR r' ∧ (0 ≤ pc' ∧ pc' < 4294967296) ∧ (0 ≤ ps' ∧ ps' < 4294967296) ∧ InR cr' ∧ (0 ≤ c ∧ c < 256) ∧ (0 ≤ po ∧ po < 256) ∧ (0 ≤ va ∧ va < 4294967296) := by
  have hc : InR x.cr := h.cr0
  obtain ⟨⟨s1, s2, s3, s4, s5⟩, -, -, -, a0, a1, b0, b1, -, -, pc0, pc1, -⟩ := h
  obtain ⟨r, pc, ps, cr, hh, op, a, b, imm, inp, cause, fl, out, port, val, user⟩ := x
  simp only at s1 s2 s3 s4 s5 a0 a1 b0 b1 pc0 pc1 hp hr hc hi
  subst s1 s2 s3 s4 s5
  have z : (0 : Int) ≤ 0 ∧ (0 : Int) < 256 := by decide
  have z' : (0 : Int) ≤ 0 ∧ (0 : Int) < 4294967296 := by decide
  have hm : ∀ y : Int, 0 ≤ y % 4294967296 ∧ y % 4294967296 < 4294967296 := fun y => by omega
  unfold doV
  simp only
  split
  · exact ⟨r, pc, ps, cr, hh, 1, false, false, 0, 0, rfl, hr, ⟨pc0, pc1⟩, hp, hc, by decide, z, z'⟩
  · rename_i hn
    split
    · exact ⟨r, pc, ps, cr, hh, 2, false, false, 0, 0, rfl, hr, ⟨pc0, pc1⟩, hp, hc, by decide, z, z'⟩
    · have hs : senseOp op := Classical.byContradiction fun q => hn (.inl q)
      clear hn
      rcases hs with rfl | rfl | rfl | rfl | rfl | rfl | rfl | rfl | rfl
      · exact ⟨_, _, _, _, _, _, _, _, _, _, rfl, hr, hm _, hp, hc, z, z, z'⟩
      · cases user
        · exact ⟨_, _, _, _, _, _, _, _, _, _, rfl, hr, hm _, in_247 (hc 3), hc, z, z, z'⟩
        · exact ⟨_, _, _, _, _, _, _, _, _, _, rfl, hr, hm _, hp, hc, z, z, z'⟩
      · exact ⟨_, _, _, _, _, _, _, _, _, _, rfl, hr, hm _, hp, hc, z, z, z'⟩
      · exact ⟨_, _, _, _, _, _, _, _, _, _, rfl, hr.upd _ hp, hm _, hp, hc, z, z, z'⟩
      · cases user
        · exact ⟨_, _, _, _, _, _, _, _, _, _, rfl, hr, hm _, in_247 (hr _), hc, z, z, z'⟩
        · exact ⟨_, _, _, _, _, _, _, _, _, _, rfl, hr, hm _, in_240 hp (hr _), hc, z, z, z'⟩
      · cases user
        · exact ⟨_, _, _, _, _, _, _, _, _, _, rfl, hr.upd _ (hc _), hm _, hp, hc, z, z, z'⟩
        · exact ⟨_, _, _, _, _, _, _, _, _, _, rfl, hr.upd _ z', hm _, hp, hc, z, z, z'⟩
      · exact ⟨_, _, _, _, _, _, _, _, _, _, rfl, hr, hm _, hp, hc.upd _ (hr _), z, z, z'⟩
      · exact ⟨_, _, _, _, _, _, _, _, _, _, rfl, hr.upd _ hi, hm _, hp, hc, z, z, z'⟩
      · exact ⟨_, _, _, _, _, _, _, _, _, _, rfl, hr, hm _, hp, hc, z, ⟨b0, b1⟩, hr _⟩

def stK19d : List CK := [.i .u32, .i .u32, .i .u32, .i .u32, .i .u32, .i .u32, .i .u32, .i .u32, .i .u32, .i .u32, .i .u32, .i .u32, .i .u32, .i .u32, .i .u32, .i .u32, .i .u32, .i .u32, .b]
theorem st_eqd {r : Nat → Int} {pc ps : Int} {cr : Nat → Int} {h : Bool} (hr : InR r) (hc : InR cr) (hp : 0 ≤ pc ∧ pc < 4294967296) (hs : 0 ≤ ps ∧ ps < 4294967296) (w : World) :
    (binOp .eql 25 (.agg (stA r pc ps cr h)) (.agg (stA r pc ps cr h))).run Try.prog w = .ok (.bool true) w := by
  have hok : okAll stK19d (stA r pc ps cr h).toList :=
    ⟨ck_u32 (hr 0), ck_u32 (hr 1), ck_u32 (hr 2), ck_u32 (hr 3), ck_u32 (hr 4), ck_u32 (hr 5), ck_u32 (hr 6), ck_u32 (hr 7), ck_u32 hp, ck_u32 hs, ck_u32 (hc 0), ck_u32 (hc 1), ck_u32 (hc 2), ck_u32 (hc 3), ck_u32 (hc 4), ck_u32 (hc 5), ck_u32 (hc 6), ck_u32 (hc 7), ⟨h, rfl⟩, trivial⟩
  obtain ⟨b, h1, _, h2⟩ := run_eql_flat (P := Try.prog) (n := 4) (t := 25) (ks := stK19d) (by decide) (by kernel_rfl) (by kernel_rfl) (by kernel_rfl) (by kernel_rfl) hok hok
  obtain rfl : b = true := h2.2 rfl
  exact h1 w
theorem ck_i64s {x : Int} (h : 0 ≤ x ∧ x < 256) : (CK.i .i64).ok (.int .i64 x) := ⟨x, rfl, by
  have hmin : IntKind.i64.min = -9223372036854775808 := rfl
  have hmax : IntKind.i64.max = 9223372036854775807 := rfl
  simp only [Lit.wf, Bool.and_eq_true, decide_eq_true_eq]; omega⟩
theorem ef_eqd {c : Int} {fl out : Bool} {po va : Int} (hc : 0 ≤ c ∧ c < 256) (hp : 0 ≤ po ∧ po < 256) (hv : 0 ≤ va ∧ va < 4294967296) (w : World) :
    (binOp .eql 29 (.agg #[.int .i64 c, .bool fl, .bool out, .int .i64 po, .int .u32 va]) (.agg #[.int .i64 c, .bool fl, .bool out, .int .i64 po, .int .u32 va])).run Try.prog w = .ok (.bool true) w := by
  have hok : okAll [.i .i64, .b, .b, .i .i64, .i .u32] (#[.int .i64 c, .bool fl, .bool out, .int .i64 po, .int .u32 va] : Array Value).toList :=
    ⟨ck_i64s hc, ⟨fl, rfl⟩, ⟨out, rfl⟩, ck_i64s hp, ck_u32 hv, trivial⟩
  obtain ⟨b, h1, _, h2⟩ := run_eql_flat (P := Try.prog) (n := 4) (t := 29) (ks := [.i .i64, .b, .b, .i .i64, .i .u32]) (by decide) (by kernel_rfl) (by kernel_rfl) (by kernel_rfl) (by kernel_rfl) hok hok
  obtain rfl : b = true := h2.2 rfl
  exact h1 w

set_option maxHeartbeats 8000000 in
theorem does_in (r : Nat → Int) (pc ps : Int) (cr : Nat → Int) (h : Bool) (op a b imm inp : Int) (w : World) (h0 : 0 ≤ op) (h1 : op < 256) (h2 : 0 ≤ a) (h3 : a < 256) (h4 : 0 ≤ b) (h5 : b < 256) (h6 : -2147483648 ≤ imm) (h7 : imm < 2147483648)
    (g0 : 0 ≤ pc) (g1 : pc < 4294967296) (g2 : 0 ≤ ps) (g3 : ps < 4294967296) (hi : 0 ≤ inp ∧ inp < 4294967296) (hr : InR r) (hc : InR cr) :
    Calls Try.prog 3 #[.agg (stA r pc ps cr h), .agg #[.int .u8 op, .int .u8 a, .int .u8 b, .int .i32 imm], .int .u32 inp] w fun e w' => e = .returned (.bool true) ∧ Below w.heap.size w w' := by
  have hok : DX.okay ⟨r, pc, ps, cr, h, op, a, b, imm, inp, 0, false, false, 0, 0, (bits .and .u32 ps 1 != 0)⟩ := ⟨⟨rfl, rfl, rfl, rfl, rfl⟩, rfl, h0, h1, h2, h3, h4, h5, h6, h7, g0, g1, hc⟩
  obtain ⟨r', pc', ps', cr', h', c, fl, out, po, va, hv, l1, l2, l3, l4, l5, l6, l7⟩ := does_law _ hok ⟨g2, g3⟩ hr hi
  have hD := fun w => do_c _ hok w
  have hF := fun w => refDo_c _ hok g2 g3 hr w
  rw [hv] at hD hF
  unfold DX.st Isa.insV at hD hF
  simp only at hD hF
  have hE := st_eqd (h := h') l1 l4 l2 l3
  have hE2 := ef_eqd (fl := fl) (out := out) l5 l6 l7
  have K0 := stK r pc ps cr h
  have K2 := stK r' pc' ps' cr' h'
  have HW := Lib.hid works_c
  generalize stA r pc ps cr h = A at K0 hD hF ⊢
  generalize stA r' pc' ps' cr' h' = T at K2 hD hF hE
  have HD := Lib.hid hD
  have HF := Lib.hid hF
  have Z1 := Lib.hid K0.1
  have Z2 := Lib.hid K2.1
  have O2 := Lib.hid K2.2.1
  clear hD hF hv hc hr K0 K2 hok l1 l2 l3 l4 l5 l6 l7
  go_enter Try.func3, Try.ntmps3
  go_wp2_with (first
    | ((with_reducible show wpList _ _ _ (Oper.mk _ (.load 25 _) _ _ _ _ :: _) _ _); refine wpList_load_row rfl 25 _ rfl _ rfl 25 _ (0, 0) _ (by refine heap_old' (heap_new' ?_); simp; done) Try.underlying25 rfl (by rw [Z1.out]; kernel_rfl) ?_))
  refine (HD.out _).mono ?_
  rintro e w1 ⟨rfl, hb⟩
  have hs1 : w.heap.size + 1 < w1.heap.size := by have := hb.size; simp at this; omega
  have hs0 : w.heap.size < w1.heap.size := by omega
  have hB := (below_alloc1 w (.cells A 25)).trans (((below_alloc1 (w.alloc (.cells A 25)) (.cells #[.int .u8 op, .int .u8 a, .int .u8 b, .int .i32 imm] 27)).trans (hb.mono (by simp))).mono (by simp))
  have rA : w1.heap[w.heap.size]? = some (.cells A 25 (0, 0)) := (hb.block _ (by simp; omega)).trans (heap_old' (heap_new' rfl))
  have rI : w1.heap[w.heap.size + 1]? = some (.cells #[.int .u8 op, .int .u8 a, .int .u8 b, .int .i32 imm] 27 (0, 0)) := (hb.block _ (by simp)).trans (heap_new' (by simp))
  have RA := Lib.hid rA
  have i0 : w1.cell? ⟨w.heap.size + 1, 0, none⟩ = some (.int .u8 op) := (cell_of_row w1 _ 0 _ _ _ rI).trans rfl
  have i1 : w1.cell? ⟨w.heap.size + 1, 1, none⟩ = some (.int .u8 a) := (cell_of_row w1 _ 1 _ _ _ rI).trans rfl
  have i2 : w1.cell? ⟨w.heap.size + 1, 2, none⟩ = some (.int .u8 b) := (cell_of_row w1 _ 2 _ _ _ rI).trans rfl
  have i3 : w1.cell? ⟨w.heap.size + 1, 3, none⟩ = some (.int .i32 imm) := (cell_of_row w1 _ 3 _ _ _ rI).trans rfl
  clear hb rA rI
  go_wp2_with (first
    | ((with_reducible show wpList _ _ _ (Oper.mk _ (.load 25 _) _ _ _ _ :: _) _ _); refine wpList_load_row rfl 25 _ rfl _ rfl 25 _ (0, 0) _ (by exact heap_old' (heap_old' RA.out)) Try.underlying25 rfl (by rw [Z1.out]; kernel_rfl) ?_)
    | ((with_reducible show wpList _ _ _ (Oper.mk _ (.store 25 _ _) _ _ _ _ :: _) _ _); refine wpList_store_at rfl 25 _ _ rfl rfl _ T rfl rfl 25 _ (by refine heap_old' (heap_new' ?_); simp; done) (by rw [Z2.out]; kernel_rfl) (by rw [Z2.out]; rfl) O2.out _ (by refine setRow_past _ (setRow_new' _ _ _ _ _ ?_) ?_ <;> simp; done) ?_))
  refine (HF.out _).mono ?_
  rintro e w2 ⟨rfl, hb2⟩
  have rT : w2.heap[w1.heap.size]? = some (.cells T 25 (0, 0)) := (hb2.block _ (by simp; omega)).trans (heap_old' (heap_new' rfl))
  have rE : w2.heap[w1.heap.size + 1]? = some (.cells #[.int .i64 c, .bool fl, .bool out, .int .i64 po, .int .u32 va] 29 (0, 0)) := (hb2.block _ (by simp)).trans (heap_new' (by simp))
  have RT := Lib.hid rT
  have e0 : w2.cell? ⟨w1.heap.size + 1, 0, none⟩ = some (.int .i64 c) := (cell_of_row w2 _ 0 _ _ _ rE).trans rfl
  have e1 : w2.cell? ⟨w1.heap.size + 1, 1, none⟩ = some (.bool fl) := (cell_of_row w2 _ 1 _ _ _ rE).trans rfl
  have e2 : w2.cell? ⟨w1.heap.size + 1, 2, none⟩ = some (.bool out) := (cell_of_row w2 _ 2 _ _ _ rE).trans rfl
  have e3 : w2.cell? ⟨w1.heap.size + 1, 3, none⟩ = some (.int .i64 po) := (cell_of_row w2 _ 3 _ _ _ rE).trans rfl
  have e4 : w2.cell? ⟨w1.heap.size + 1, 4, none⟩ = some (.int .u32 va) := (cell_of_row w2 _ 4 _ _ _ rE).trans rfl
  have hs2 : w1.heap.size + 1 < w2.heap.size := by have := hb2.size; simp at this; omega
  have hB2 : Below w.heap.size w w2 := hB.trans ((((below_alloc1 w1 _).alloc (by simp) _).trans (hb2.mono (by simp; omega))).mono (by omega))
  clear hb2 rT rE i0 i1 i2 i3
  have hs3 : w1.heap.size < w2.heap.size := by omega
  have hs5 : w.heap.size ≤ w2.heap.size := hB2.size
  generalize w1.heap.size + 1 = c1 at e0 e1 e2 e3 e4 hs2 ⊢
  clear hs0 hs1 RA hB
  generalize w1.heap.size = b1 at RT hs3 ⊢
  go_wp2_with (first
    | ((with_reducible show wpList _ _ _ (Oper.mk _ (.load 25 _) _ _ _ _ :: _) _ _); refine wpList_load_row rfl 25 _ rfl _ rfl 25 _ (0, 0) _ (by first | exact heap_old' (heap_new' rfl) | exact heap_old' (heap_old' RT.out)) Try.underlying25 rfl (by rw [Z2.out]; kernel_rfl) ?_)
    | ((with_reducible show wpList _ _ _ (Oper.mk _ (.store 25 _ _) _ _ _ _ :: _) _ _); refine wpList_store_at rfl 25 _ _ rfl rfl _ T rfl rfl 25 _ (by refine heap_old' (heap_new' ?_); simp; done) (by rw [Z2.out]; kernel_rfl) (by rw [Z2.out]; rfl) O2.out _ (by refine setRow_past _ (setRow_new' _ _ _ _ _ ?_) ?_ <;> simp; done) ?_))
  refine (HW.out _).mono ?_
  rintro e w3 ⟨rfl, hb3⟩
  go_wp2_with fail
  go_ret
  exact ⟨rfl, ((hB2.alloc (by omega) _).alloc (by simp; omega) _).trans (hb3.mono (by simp; omega))⟩

theorem does_walk (r0 : Int) (v0 : (Lit.int .u32 r0).wf = true) (r1 : Int) (v1 : (Lit.int .u32 r1).wf = true) (r2 : Int) (v2 : (Lit.int .u32 r2).wf = true) (r3 : Int) (v3 : (Lit.int .u32 r3).wf = true) (r4 : Int) (v4 : (Lit.int .u32 r4).wf = true) (r5 : Int) (v5 : (Lit.int .u32 r5).wf = true) (r6 : Int) (v6 : (Lit.int .u32 r6).wf = true) (r7 : Int) (v7 : (Lit.int .u32 r7).wf = true) (pc : Int) (vp : (Lit.int .u32 pc).wf = true) (ps : Int) (vs : (Lit.int .u32 ps).wf = true) (c0 : Int) (y0 : (Lit.int .u32 c0).wf = true) (c1 : Int) (y1 : (Lit.int .u32 c1).wf = true) (c2 : Int) (y2 : (Lit.int .u32 c2).wf = true) (c3 : Int) (y3 : (Lit.int .u32 c3).wf = true) (c4 : Int) (y4 : (Lit.int .u32 c4).wf = true) (c5 : Int) (y5 : (Lit.int .u32 c5).wf = true) (c6 : Int) (y6 : (Lit.int .u32 c6).wf = true) (c7 : Int) (y7 : (Lit.int .u32 c7).wf = true) (h : Bool) (op : Int) (wo : (Lit.int .u8 op).wf = true) (a : Int) (wa : (Lit.int .u8 a).wf = true) (b : Int) (wb : (Lit.int .u8 b).wf = true) (imm : Int) (wi : (Lit.int .i32 imm).wf = true) (inp : Int) (wn : (Lit.int .u32 inp).wf = true) (w : World) :
    Calls Try.prog 3 #[.agg #[.int .u32 r0, .int .u32 r1, .int .u32 r2, .int .u32 r3, .int .u32 r4, .int .u32 r5, .int .u32 r6, .int .u32 r7, .int .u32 pc, .int .u32 ps, .int .u32 c0, .int .u32 c1, .int .u32 c2, .int .u32 c3, .int .u32 c4, .int .u32 c5, .int .u32 c6, .int .u32 c7, .bool h], .agg #[.int .u8 op, .int .u8 a, .int .u8 b, .int .i32 imm], .int .u32 inp] w fun e w' => e = .returned (.bool true) ∧ Below w.heap.size w w' := by
  obtain ⟨h0, h1⟩ := bd_u8 wo
  obtain ⟨h2, h3⟩ := bd_u8 wa
  obtain ⟨h4, h5⟩ := bd_u8 wb
  obtain ⟨h6, h7⟩ := bd_i32 wi
  obtain ⟨g0, g1⟩ := bd_u32 vp
  obtain ⟨g2, g3⟩ := bd_u32 vs
  exact does_in (fn8 r0 r1 r2 r3 r4 r5 r6 r7) pc ps (fn8 c0 c1 c2 c3 c4 c5 c6 c7) h op a b imm inp w h0 h1 h2 h3 h4 h5 h6 h7 g0 g1 g2 g3 (bd_u32 wn) (fn8_bd v0 v1 v2 v3 v4 v5 v6 v7) (fn8_bd y0 y1 y2 y3 y4 y5 y6 y7)
end Go.Proofs.Ytlgnhjalhfednaa
