/- The walk of SenseKept. -/
import Derived.Test.YtlgnhjalhfednaaSenK
import Derived.Test.YtlgnhjalhfednaaFlatEq
namespace Go.Proofs.Ytlgnhjalhfednaa
open Go.RowKit
set_option linter.unusedSimpArgs false
set_option linter.unusedVariables false

theorem or1 {p : Int} (h0 : 0 ≤ p) (h1 : p < 4294967296) : bits .and .u32 (bits .or .u32 p 1) 1 = 1 := by
  obtain ⟨n, rfl⟩ := Int.eq_ofNat_of_zero_le h0
  have hn : n < 4294967296 := by omega
  have hlt : n ||| 1 < 2 ^ 32 := Nat.or_lt_two_pow (by omega) (by omega)
  rw [u32_or _ _ h0 h1 (by omega) (by omega)]
  rw [u32_and _ _ (by omega) (by have : (2 : Nat) ^ 32 = 4294967296 := by decide
                                 simp only [Int.toNat_natCast, show (1 : Int).toNat = 1 from rfl]; omega) (by omega) (by omega)]
  simp only [Int.toNat_natCast, show (1 : Int).toNat = 1 from rfl]
  rw [Nat.and_or_distrib_right]
  have : n &&& 1 = 0 ∨ n &&& 1 = 1 := by rw [Nat.and_one_is_mod]; omega
  rcases this with e | e <;> rw [e] <;> rfl

theorem kept_bits {p q : Int} (h0 : 0 ≤ p) (h1 : p < 4294967296) (h2 : 0 ≤ q) (h3 : q < 4294967296) : bits .andNot .u32 (bits .or .u32 (bits .andNot .u32 p 240) (bits .and .u32 q 240)) 240 = bits .andNot .u32 p 240 := by
  obtain ⟨n, rfl⟩ := Int.eq_ofNat_of_zero_le h0
  obtain ⟨m, rfl⟩ := Int.eq_ofNat_of_zero_le h2
  have e1 : bits .andNot .u32 (n : Int) 240 = ((n &&& 4294967055 : Nat) : Int) := by
    rw [u32_andNot _ _ h0 h1 (by omega) (by omega)]; rfl
  have e2 : bits .and .u32 (m : Int) 240 = ((m &&& 240 : Nat) : Int) := by
    rw [u32_and _ _ h2 h3 (by omega) (by omega)]; rfl
  have l1 : n &&& 4294967055 ≤ 4294967055 := Nat.and_le_right
  have l2 : m &&& 240 ≤ 240 := Nat.and_le_right
  have e3 : bits .or .u32 ((n &&& 4294967055 : Nat) : Int) ((m &&& 240 : Nat) : Int) = (((n &&& 4294967055) ||| (m &&& 240) : Nat) : Int) := by
    rw [u32_or _ _ (by omega) (by omega) (by omega) (by omega)]; rfl
  have hlt : (n &&& 4294967055) ||| (m &&& 240) < 2 ^ 32 := Nat.or_lt_two_pow (by omega) (by omega)
  have h32 : (2 : Nat) ^ 32 = 4294967296 := by decide
  rw [e1, e2, e3, u32_andNot _ _ (by omega) (by omega) (by omega) (by omega)]
  simp only [Int.toNat_natCast, show 4294967295 - (240 : Int).toNat = 4294967055 from rfl]
  rw [Nat.and_or_distrib_right, Nat.and_assoc, Nat.and_self, Nat.and_assoc, show 240 &&& 4294967055 = 0 from by decide, Nat.and_zero, Nat.or_zero]

theorem kept_law (x : DX) (hx : x.start) (hu : x.user = true) (hp : 0 ≤ x.ps ∧ x.ps < 4294967296) (hr : ∀ k, 0 ≤ x.r k ∧ x.r k < 4294967296) :
    ∃ (r' : Nat → Int) (pc' ps' c po va : Int), doV x = .tuple #[.agg (stA r' pc' ps' x.cr x.h), .agg #[.int .i64 c, .bool false, .bool false, .int .i64 po, .int .u32 va]] ∧ bits .andNot .u32 ps' 240 = bits .andNot .u32 x.ps 240 := by
  obtain ⟨r, pc, ps, cr, hh, op, a, b, imm, inp, cause, fl, out, port, val, user⟩ := x
  obtain ⟨s1, s2, s3, s4, s5⟩ := hx
  simp only at s1 s2 s3 s4 s5 hu hp hr
  subst s1 s2 s3 s4 s5 hu
  unfold doV
  simp only
  split
  · exact ⟨r, pc, ps, 1, 0, 0, rfl, rfl⟩
  · rename_i hn
    split
    · exact ⟨r, pc, ps, 2, 0, 0, rfl, rfl⟩
    · rename_i hs
      have hs' : ¬ sysOp op := fun q => hs ⟨by first | rfl | trivial, q⟩
      have hc : op = 2 ∨ op = 3 ∨ op = 96 ∨ op = 97 ∨ op = 98 := by
        by_cases q : senseOp op
        · unfold senseOp at q; unfold sysOp at hs'; omega
        · exact absurd (.inl q) hn
      rcases hc with rfl | rfl | rfl | rfl | rfl
      · exact ⟨_, _, _, _, _, _, rfl, rfl⟩
      · exact ⟨_, _, _, _, _, _, rfl, rfl⟩
      · exact ⟨_, _, _, _, _, _, rfl, rfl⟩
      · exact ⟨_, _, _, _, _, _, rfl, kept_bits hp.1 hp.2 (hr _).1 (hr _).2⟩
      · exact ⟨_, _, _, _, _, _, rfl, rfl⟩

theorem stA_set9 (r : Nat → Int) (pc ps : Int) (cr : Nat → Int) (h : Bool) (v : Int) : (stA r pc ps cr h).setIfInBounds 9 (.int .u32 v) = stA r pc v cr h := rfl

/-- What the walk asks of a state's cells. -/
def StK (A : Array Value) (ps : Int) (cr : Nat → Int) (h : Bool) : Prop :=
  A.size = 19 ∧ A.all (·.oneCell') = true ∧ A[9]? = some (.int .u32 ps) ∧ A[10]? = some (.int .u32 (cr 0)) ∧ A[11]? = some (.int .u32 (cr 1)) ∧ A[12]? = some (.int .u32 (cr 2)) ∧ A[13]? = some (.int .u32 (cr 3)) ∧ A[14]? = some (.int .u32 (cr 4)) ∧ A[15]? = some (.int .u32 (cr 5)) ∧ A[16]? = some (.int .u32 (cr 6)) ∧ A[17]? = some (.int .u32 (cr 7)) ∧ A[18]? = some (.bool h)

theorem stK (r : Nat → Int) (pc ps : Int) (cr : Nat → Int) (h : Bool) : StK (stA r pc ps cr h) ps cr h := ⟨rfl, by simp [stA, Value.oneCell'], rfl, rfl, rfl, rfl, rfl, rfl, rfl, rfl, rfl, rfl⟩

theorem ck_u32 {x : Int} (h : 0 ≤ x ∧ x < 4294967296) : (CK.i .u32).ok (.int .u32 x) := ⟨x, rfl, WalkArith.wf_u32 (by omega)⟩

theorem eq8 (cr : Nat → Int) (hc : ∀ k, 0 ≤ cr k ∧ cr k < 4294967296) (w : World) : (binOp .eql 23 (.agg #[.int .u32 (cr 0), .int .u32 (cr 1), .int .u32 (cr 2), .int .u32 (cr 3), .int .u32 (cr 4), .int .u32 (cr 5), .int .u32 (cr 6), .int .u32 (cr 7)]) (.agg #[.int .u32 (cr 0), .int .u32 (cr 1), .int .u32 (cr 2), .int .u32 (cr 3), .int .u32 (cr 4), .int .u32 (cr 5), .int .u32 (cr 6), .int .u32 (cr 7)])).run Try.prog w = .ok (.bool true) w := by
  have hok : okAll [.i .u32, .i .u32, .i .u32, .i .u32, .i .u32, .i .u32, .i .u32, .i .u32] [.int .u32 (cr 0), .int .u32 (cr 1), .int .u32 (cr 2), .int .u32 (cr 3), .int .u32 (cr 4), .int .u32 (cr 5), .int .u32 (cr 6), .int .u32 (cr 7)] :=
    ⟨ck_u32 (hc 0), ck_u32 (hc 1), ck_u32 (hc 2), ck_u32 (hc 3), ck_u32 (hc 4), ck_u32 (hc 5), ck_u32 (hc 6), ck_u32 (hc 7), trivial⟩
  obtain ⟨b, h1, _, h2⟩ := run_eql_flat (P := Try.prog) (n := 3) (t := 23) (ks := [.i .u32, .i .u32, .i .u32, .i .u32, .i .u32, .i .u32, .i .u32, .i .u32]) (by decide) (by kernel_rfl) (by kernel_rfl) (by kernel_rfl) (by kernel_rfl) hok hok
  obtain rfl : b = true := h2.2 rfl
  exact h1 w

set_option maxRecDepth 100000 in
set_option maxHeartbeats 8000000 in
theorem kept_in (r : Nat → Int) (pc ps : Int) (cr : Nat → Int) (h : Bool) (op a b imm inp : Int) (w : World) (h0 : 0 ≤ op) (h1 : op < 256) (h2 : 0 ≤ a) (h3 : a < 256) (h4 : 0 ≤ b) (h5 : b < 256) (h6 : -2147483648 ≤ imm) (h7 : imm < 2147483648)
    (g0 : 0 ≤ pc) (g1 : pc < 4294967296) (g2 : 0 ≤ ps) (g3 : ps < 4294967296) (hr : ∀ k, 0 ≤ r k ∧ r k < 4294967296) (hc : ∀ k, 0 ≤ cr k ∧ cr k < 4294967296) :
    Calls Try.prog 4 #[.agg (stA r pc ps cr h), .agg #[.int .u8 op, .int .u8 a, .int .u8 b, .int .i32 imm], .int .u32 inp] w fun e w' => e = .returned (.bool true) ∧ Below w.heap.size w w' := by
  obtain ⟨p1, hp1⟩ : ∃ p1, bits .or .u32 ps 1 = p1 := ⟨_, rfl⟩
  have hb : 0 ≤ p1 ∧ p1 < 4294967296 := by
    rw [← hp1]
    obtain ⟨n, rfl⟩ := Int.eq_ofNat_of_zero_le g2
    have hlt : n ||| 1 < 2 ^ 32 := Nat.or_lt_two_pow (by omega) (by omega)
    have h32 : (2 : Nat) ^ 32 = 4294967296 := by decide
    rw [u32_or _ _ g2 g3 (by omega) (by omega)]
    simp only [Int.toNat_natCast, show (1 : Int).toNat = 1 from rfl]
    omega
  have hu1 := or1 g2 g3
  rw [hp1] at hu1
  obtain ⟨r', pc', ps', c, po, va, hv, hk⟩ := kept_law ⟨r, pc, p1, cr, h, op, a, b, imm, inp, 0, false, false, 0, 0, true⟩ ⟨rfl, rfl, rfl, rfl, rfl⟩ rfl hb hr
  have hD := fun w => do_c ⟨r, pc, p1, cr, h, op, a, b, imm, inp, 0, false, false, 0, 0, true⟩ ⟨⟨rfl, rfl, rfl, rfl, rfl⟩, by simp only; rw [hu1]; rfl, h0, h1, h2, h3, h4, h5, h6, h7, g0, g1, hc⟩ w
  rw [hv] at hD
  unfold DX.st Isa.insV at hD
  simp only at hD hk
  have HS9 := Lib.hid (stA_set9 r pc ps cr h p1)
  have K0 := stK r pc ps cr h
  have K1 := stK r pc p1 cr h
  have K2 := stK r' pc' ps' cr h
  have HW := Lib.hid works_c
  generalize stA r pc ps cr h = A at K0 HS9 ⊢
  generalize stA r pc p1 cr h = A1 at K1 HS9 hD
  generalize stA r' pc' ps' cr h = T at K2 hD
  have HD := Lib.hid hD
  have HK := Lib.hid hk
  have HP := Lib.hid hp1
  have h8 := eq8 cr hc
  clear hD hk hp1 hv hu1 hr hc
  obtain ⟨-, -, a9, -, -, -, -, -, -, -, -, -⟩ := K0
  obtain ⟨z1, o1, b9, b10, b11, b12, b13, b14, b15, b16, b17, b18⟩ := K1
  obtain ⟨z2, o2, t9, t10, t11, t12, t13, t14, t15, t16, t17, t18⟩ := K2
  have Z1 := Lib.hid z1
  have Z2 := Lib.hid z2
  have O2 := Lib.hid o2
  clear z1 z2 o1 o2
  go_enter Try.func4, Try.ntmps4
  go_wp2_with (first
    | ((with_reducible show wpList _ _ _ (Oper.mk _ (.load 25 _) _ _ _ _ :: _) _ _); refine wpList_load_row rfl 25 _ rfl _ rfl 25 _ (0, 0) _ (by refine heap_old' (heap_new' ?_); simp; done) Try.underlying25 rfl (by rw [HP.out, HS9.out, Z1.out]; kernel_rfl) ?_))
  rw [HP.out, HS9.out]
  refine (HD.out _).mono ?_
  rintro e w1 ⟨rfl, hb⟩
  have m9 := cell_belowS hb (p := ⟨w.heap.size, 9, none⟩) (v := _) (by first | (go_simp; exact b9) | (simp; exact b9))
  have m10 := cell_belowS hb (p := ⟨w.heap.size, 10, none⟩) (v := _) (by first | (go_simp; exact b10) | (simp; exact b10))
  have m11 := cell_belowS hb (p := ⟨w.heap.size, 11, none⟩) (v := _) (by first | (go_simp; exact b11) | (simp; exact b11))
  have m12 := cell_belowS hb (p := ⟨w.heap.size, 12, none⟩) (v := _) (by first | (go_simp; exact b12) | (simp; exact b12))
  have m13 := cell_belowS hb (p := ⟨w.heap.size, 13, none⟩) (v := _) (by first | (go_simp; exact b13) | (simp; exact b13))
  have m14 := cell_belowS hb (p := ⟨w.heap.size, 14, none⟩) (v := _) (by first | (go_simp; exact b14) | (simp; exact b14))
  have m15 := cell_belowS hb (p := ⟨w.heap.size, 15, none⟩) (v := _) (by first | (go_simp; exact b15) | (simp; exact b15))
  have m16 := cell_belowS hb (p := ⟨w.heap.size, 16, none⟩) (v := _) (by first | (go_simp; exact b16) | (simp; exact b16))
  have m17 := cell_belowS hb (p := ⟨w.heap.size, 17, none⟩) (v := _) (by first | (go_simp; exact b17) | (simp; exact b17))
  have m18 := cell_belowS hb (p := ⟨w.heap.size, 18, none⟩) (v := _) (by first | (go_simp; exact b18) | (simp; exact b18))
  have hB := (below_alloc1 w (.cells A1 25)).trans (((below_alloc1 (w.alloc (.cells A1 25)) (.cells #[.int .u8 op, .int .u8 a, .int .u8 b, .int .i32 imm] 27)).trans (hb.mono (by simp))).mono (by simp))
  have hs1 : w.heap.size < w1.heap.size := by have := hb.size; simp at this; omega
  clear hb b9 b10 b11 b12 b13 b14 b15 b16 b17 b18 a9
  go_wp2_with (first
    | ((with_reducible show wpList _ _ _ (Oper.mk _ (.store 25 _ _) _ _ _ _ :: _) _ _); refine wpList_store_at rfl 25 _ _ rfl rfl _ T rfl rfl 25 _ (by refine heap_old' (heap_new' ?_); simp; done) (by rw [Z2.out]; kernel_rfl) (by rw [Z2.out]; rfl) O2.out _ (by refine setRow_past _ (setRow_new' _ _ _ _ _ ?_) ?_ <;> simp; done) ?_))
  refine (HW.out _).mono ?_
  rintro e w2 ⟨rfl, hb2⟩
  go_wp2_with fail
  go_ret
  exact ⟨rfl, ((hB.alloc hB.size _).alloc (by have := hB.size; simp; omega) _).trans (hb2.mono (by have := hB.size; simp; omega))⟩

/-- Eight numbers as a function. -/
def fn8 (a0 a1 a2 a3 a4 a5 a6 a7 : Int) : Nat → Int
  | 0 => a0 | 1 => a1 | 2 => a2 | 3 => a3 | 4 => a4 | 5 => a5 | 6 => a6 | 7 => a7 | _ => 0

theorem fn8_bd {a0 a1 a2 a3 a4 a5 a6 a7 : Int} (v0 : (Lit.int .u32 a0).wf = true) (v1 : (Lit.int .u32 a1).wf = true) (v2 : (Lit.int .u32 a2).wf = true) (v3 : (Lit.int .u32 a3).wf = true) (v4 : (Lit.int .u32 a4).wf = true) (v5 : (Lit.int .u32 a5).wf = true) (v6 : (Lit.int .u32 a6).wf = true) (v7 : (Lit.int .u32 a7).wf = true) :
    ∀ k, 0 ≤ fn8 a0 a1 a2 a3 a4 a5 a6 a7 k ∧ fn8 a0 a1 a2 a3 a4 a5 a6 a7 k < 4294967296 := by
  intro k
  match k with
  | 0 => exact bd_u32 v0
  | 1 => exact bd_u32 v1
  | 2 => exact bd_u32 v2
  | 3 => exact bd_u32 v3
  | 4 => exact bd_u32 v4
  | 5 => exact bd_u32 v5
  | 6 => exact bd_u32 v6
  | 7 => exact bd_u32 v7
  | n + 8 => exact ⟨Int.le_refl 0, show (0 : Int) < 4294967296 by decide⟩

theorem kept_walk (r0 : Int) (v0 : (Lit.int .u32 r0).wf = true) (r1 : Int) (v1 : (Lit.int .u32 r1).wf = true) (r2 : Int) (v2 : (Lit.int .u32 r2).wf = true) (r3 : Int) (v3 : (Lit.int .u32 r3).wf = true) (r4 : Int) (v4 : (Lit.int .u32 r4).wf = true) (r5 : Int) (v5 : (Lit.int .u32 r5).wf = true) (r6 : Int) (v6 : (Lit.int .u32 r6).wf = true) (r7 : Int) (v7 : (Lit.int .u32 r7).wf = true) (pc : Int) (vp : (Lit.int .u32 pc).wf = true) (ps : Int) (vs : (Lit.int .u32 ps).wf = true) (c0 : Int) (y0 : (Lit.int .u32 c0).wf = true) (c1 : Int) (y1 : (Lit.int .u32 c1).wf = true) (c2 : Int) (y2 : (Lit.int .u32 c2).wf = true) (c3 : Int) (y3 : (Lit.int .u32 c3).wf = true) (c4 : Int) (y4 : (Lit.int .u32 c4).wf = true) (c5 : Int) (y5 : (Lit.int .u32 c5).wf = true) (c6 : Int) (y6 : (Lit.int .u32 c6).wf = true) (c7 : Int) (y7 : (Lit.int .u32 c7).wf = true) (h : Bool) (op : Int) (wo : (Lit.int .u8 op).wf = true) (a : Int) (wa : (Lit.int .u8 a).wf = true) (b : Int) (wb : (Lit.int .u8 b).wf = true) (imm : Int) (wi : (Lit.int .i32 imm).wf = true) (inp : Int) (wn : (Lit.int .u32 inp).wf = true) (w : World) :
    Calls Try.prog 4 #[.agg #[.int .u32 r0, .int .u32 r1, .int .u32 r2, .int .u32 r3, .int .u32 r4, .int .u32 r5, .int .u32 r6, .int .u32 r7, .int .u32 pc, .int .u32 ps, .int .u32 c0, .int .u32 c1, .int .u32 c2, .int .u32 c3, .int .u32 c4, .int .u32 c5, .int .u32 c6, .int .u32 c7, .bool h], .agg #[.int .u8 op, .int .u8 a, .int .u8 b, .int .i32 imm], .int .u32 inp] w fun e w' => e = .returned (.bool true) ∧ Below w.heap.size w w' := by
  obtain ⟨h0, h1⟩ := bd_u8 wo
  obtain ⟨h2, h3⟩ := bd_u8 wa
  obtain ⟨h4, h5⟩ := bd_u8 wb
  obtain ⟨h6, h7⟩ := bd_i32 wi
  obtain ⟨g0, g1⟩ := bd_u32 vp
  obtain ⟨g2, g3⟩ := bd_u32 vs
  exact kept_in (fn8 r0 r1 r2 r3 r4 r5 r6 r7) pc ps (fn8 c0 c1 c2 c3 c4 c5 c6 c7) h op a b imm inp w h0 h1 h2 h3 h4 h5 h6 h7 g0 g1 g2 g3 (fn8_bd v0 v1 v2 v3 v4 v5 v6 v7) (fn8_bd y0 y1 y2 y3 y4 y5 y6 y7)
end Go.Proofs.Ytlgnhjalhfednaa
