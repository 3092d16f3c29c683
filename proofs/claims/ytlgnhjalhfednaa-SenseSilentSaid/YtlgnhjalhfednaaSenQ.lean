/- The walk of SenseSilent. (Written by mkSQ.py.) -/
import Derived.Test.YtlgnhjalhfednaaSenL
import Derived.Test.YtlgnhjalhfednaaKindG
namespace Go.Proofs.Ytlgnhjalhfednaa
open Go.RowKit
set_option linter.unusedSimpArgs false
set_option linter.unusedVariables false

theorem si_known : ((knownF 1).cls = 4 ∧ hasB (knownF 1) 115 = false) ∧ ((knownF 99).cls = 4 ∧ hasB (knownF 99) 115 = false) ∧ ((knownF 100).cls = 4 ∧ hasB (knownF 100) 115 = false) ∧ ((knownF 101).cls = 4 ∧ hasB (knownF 101) 115 = false) ∧
    ((knownF 2).cls = 4 ∧ hasB (knownF 2) 115 = true) ∧ ((knownF 3).cls = 4 ∧ hasB (knownF 3) 115 = true) ∧ ((knownF 96).cls = 4 ∧ hasB (knownF 96) 115 = true) ∧ ((knownF 97).cls = 4 ∧ hasB (knownF 97) 115 = true) ∧ ((knownF 98).cls = 4 ∧ hasB (knownF 98) 115 = true) := by decide +kernel

/-- What is said of an instruction that is done in the user ring. -/
def SiLaw (op c : Int) (same : Prop) : Prop := (c = 1 ∧ same) ∨ (c = 2 ∧ same ∧ (knownF op).cls = 4 ∧ hasB (knownF op) 115 = false) ∨ (c = 0 ∧ (knownF op).cls = 4 ∧ hasB (knownF op) 115 = true)

theorem silent_law9 (x : DX) (hx : x.start) (hu : x.user = true) :
    ∃ (r' : Nat → Int) (pc' ps' : Int) (cr' : Nat → Int) (h' : Bool) (c : Int) (fl out : Bool) (po va : Int), doV x = .tuple #[.agg (stA r' pc' ps' cr' h'), .agg #[.int .i64 c, .bool fl, .bool out, .int .i64 po, .int .u32 va]] ∧ SiLaw x.op c (stA r' pc' ps' cr' h' = x.st) := by
  obtain ⟨r, pc, ps, cr, hh, op, a, b, imm, inp, cause, fl, out, port, val, user⟩ := x
  obtain ⟨s1, s2, s3, s4, s5⟩ := hx
  simp only at s1 s2 s3 s4 s5 hu
  subst s1 s2 s3 s4 s5 hu
  obtain ⟨k1, k2, k3, k4, k5, k6, k7, k8, k9⟩ := si_known
  unfold doV
  simp only
  split
  · exact ⟨r, pc, ps, cr, hh, 1, false, false, 0, 0, rfl, .inl ⟨rfl, rfl⟩⟩
  · rename_i hn
    split
    · rename_i hs
      refine ⟨r, pc, ps, cr, hh, 2, false, false, 0, 0, rfl, .inr (.inl ⟨rfl, rfl, ?_⟩)⟩
      rcases hs.2 with rfl | rfl | rfl | rfl
      · exact k1
      · exact k2
      · exact k3
      · exact k4
    · rename_i hs
      have hs' : ¬ sysOp op := fun q => hs ⟨by first | rfl | trivial, q⟩
      have hc : op = 2 ∨ op = 3 ∨ op = 96 ∨ op = 97 ∨ op = 98 := by
        by_cases q : senseOp op
        · unfold senseOp at q; unfold sysOp at hs'; omega
        · exact absurd (.inl q) hn
      rcases hc with rfl | rfl | rfl | rfl | rfl
      · exact ⟨_, _, _, _, _, _, _, _, _, _, rfl, .inr (.inr ⟨rfl, k5⟩)⟩
      · exact ⟨_, _, _, _, _, _, _, _, _, _, rfl, .inr (.inr ⟨rfl, k6⟩)⟩
      · exact ⟨_, _, _, _, _, _, _, _, _, _, rfl, .inr (.inr ⟨rfl, k7⟩)⟩
      · exact ⟨_, _, _, _, _, _, _, _, _, _, rfl, .inr (.inr ⟨rfl, k8⟩)⟩
      · exact ⟨_, _, _, _, _, _, _, _, _, _, rfl, .inr (.inr ⟨rfl, k9⟩)⟩

/-- The kinds of a state's cells. -/
def stK19 : List CK := [.i .u32, .i .u32, .i .u32, .i .u32, .i .u32, .i .u32, .i .u32, .i .u32, .i .u32, .i .u32, .i .u32, .i .u32, .i .u32, .i .u32, .i .u32, .i .u32, .i .u32, .i .u32, .b]
theorem st_eq {r : Nat → Int} {pc ps : Int} {cr : Nat → Int} {h : Bool} (hr : ∀ k, 0 ≤ r k ∧ r k < 4294967296) (hc : ∀ k, 0 ≤ cr k ∧ cr k < 4294967296) (hp : 0 ≤ pc ∧ pc < 4294967296) (hs : 0 ≤ ps ∧ ps < 4294967296) (w : World) :
    (binOp .eql 25 (.agg (stA r pc ps cr h)) (.agg (stA r pc ps cr h))).run Try.prog w = .ok (.bool true) w := by
  have hok : okAll stK19 (stA r pc ps cr h).toList :=
    ⟨ck_u32 (hr 0), ck_u32 (hr 1), ck_u32 (hr 2), ck_u32 (hr 3), ck_u32 (hr 4), ck_u32 (hr 5), ck_u32 (hr 6), ck_u32 (hr 7), ck_u32 hp, ck_u32 hs, ck_u32 (hc 0), ck_u32 (hc 1), ck_u32 (hc 2), ck_u32 (hc 3), ck_u32 (hc 4), ck_u32 (hc 5), ck_u32 (hc 6), ck_u32 (hc 7), ⟨h, rfl⟩, trivial⟩
  obtain ⟨b, h1, _, h2⟩ := run_eql_flat (P := Try.prog) (n := 4) (t := 25) (ks := stK19) (by decide) (by kernel_rfl) (by kernel_rfl) (by kernel_rfl) (by kernel_rfl) hok hok
  obtain rfl : b = true := h2.2 rfl
  exact h1 w

/-- The blocks that the walk lays, and the table. -/
structure SiS (w : World) (A T I E : Array Value) (b1 : Nat) (w' : World) : Prop where
  a : w'.heap[w.heap.size]? = some (.cells A 25 (0, 0))
  i : w'.heap[w.heap.size + 1]? = some (.cells I 27 (0, 0))
  t : w'.heap[b1]? = some (.cells T 25 (0, 0))
  e : w'.heap[b1 + 1]? = some (.cells E 29 (0, 0))
  tab : TabIs w' (w.heap.size + 1 + 1)
  below : Below w.heap.size w w'
  size : b1 + 1 < w'.heap.size
  two : w.heap.size + 1 + 1 < b1

theorem SiS.next {w w1 w2 : World} {A T I E : Array Value} {b1 : Nat} (h : SiS w A T I E b1 w1) (hb : Below w1.heap.size w1 w2) : SiS w A T I E b1 w2 :=
  ⟨(hb.block _ (by have := h.size; have := h.two; omega)).trans h.a, (hb.block _ (by have := h.size; have := h.two; omega)).trans h.i, (hb.block _ (by have := h.size; omega)).trans h.t, (hb.block _ h.size).trans h.e, tab_below h.tab hb, h.below.trans (hb.mono (by have := h.size; have := h.two; omega)), Nat.lt_of_lt_of_le h.size hb.size, h.two⟩
theorem SiS.grown {w w1 w2 : World} {A T I E : Array Value} {b1 : Nat} (h : SiS w A T I E b1 w1) (ht : TabIs w2 (w.heap.size + 1 + 1)) (hg : w1.grownBy w2 (some (w.heap.size + 1 + 1))) : SiS w A T I E b1 w2 := by
  have hs := h.size
  have h2 := h.two
  exact ⟨(hg.block _ (by omega) (by simp; omega)).trans h.a, (hg.block _ (by omega) (by simp)).trans h.i, (hg.block _ (by omega) (by simp; omega)).trans h.t, (hg.block _ h.size (by simp; omega)).trans h.e, ht, h.below.grown hg h.below.size (fun k hk => by cases hk; omega), Nat.lt_of_lt_of_le h.size hg.size, h.two⟩
theorem SiS.drew {w w1 : World} {A T I E : Array Value} {b1 : Nat} (h : SiS w A T I E b1 w1) : SiS w A T I E b1 w1.drew := ⟨h.a, h.i, h.t, h.e, tab_kept h.tab ⟨rfl, rfl, rfl, Nat.le_refl _, fun _ _ _ => rfl⟩, h.below.drew, h.size, h.two⟩

/-- A whole state out of a variable, in every world that a condition lets in. -/
theorem yields_stS {ops : Array Oper} {Sp : World → Prop} {op : Oper} {a : Act} (hw : Region.wanted op (yielded ops a.tmps) = true) (x : Operand) (ho : op.op = .load 25 x)
    (b : Nat) (hx : a.eval x = .pointer (some ⟨b, 0, none⟩)) (cs : Array Value) (hs : cs.size = 19) (hS : ∀ w, Sp w → w.heap[b]? = some (.cells cs 25 (0, 0))) : YieldsIf Try.prog ops Sp op (.agg cs) a :=
  .inl ⟨hw, fun w hw' => by
    unfold execOp
    simp only [ho, Instr.loadAt, Instr.sureAddr, hx, Sem.run_bind, Sem.run_pure, Result.andThen_ok, run_loadVar_row w b 25 25 cs (0, 0) _ (hS w hw') Try.underlying25 rfl (by rw [hs]; kernel_rfl)]⟩

set_option maxRecDepth 100000 in
set_option maxHeartbeats 8000000 in
theorem silent_in (r : Nat → Int) (pc ps : Int) (cr : Nat → Int) (h : Bool) (op a b imm inp : Int) (w : World) (h0 : 0 ≤ op) (h1 : op < 256) (h2 : 0 ≤ a) (h3 : a < 256) (h4 : 0 ≤ b) (h5 : b < 256) (h6 : -2147483648 ≤ imm) (h7 : imm < 2147483648)
    (g0 : 0 ≤ pc) (g1 : pc < 4294967296) (g2 : 0 ≤ ps) (g3 : ps < 4294967296) (hr : ∀ k, 0 ≤ r k ∧ r k < 4294967296) (hc : ∀ k, 0 ≤ cr k ∧ cr k < 4294967296) :
    Calls Try.prog 7 #[.agg (stA r pc ps cr h), .agg #[.int .u8 op, .int .u8 a, .int .u8 b, .int .i32 imm], .int .u32 inp] w fun e w' => e = .returned (.bool true) ∧ Below w.heap.size w w' := by
  obtain ⟨p1, hp1⟩ : ∃ p1, bits .or .u32 ps 1 = p1 := ⟨_, rfl⟩
  have hb : 0 ≤ p1 ∧ p1 < 4294967296 := by
    rw [← hp1]
    obtain ⟨n, rfl⟩ := Int.eq_ofNat_of_zero_le g2
    have hlt : n ||| 1 < 2 ^ 32 := Nat.or_lt_two_pow (by omega) (by omega)
    have h32 : (2 : Nat) ^ 32 = 4294967296 := by decide
    rw [u32_or _ _ g2 g3 (by omega) (by omega)]
    simp only [Int.toNat_natCast, show (1 : Int).toNat = 1 from rfl]
    omega
  have hu1 := or1 g2 g3
  rw [hp1] at hu1
  obtain ⟨r', pc', ps', cr', h', c, fl, out, po, va, hv, hk⟩ := silent_law9 ⟨r, pc, p1, cr, h, op, a, b, imm, inp, 0, false, false, 0, 0, true⟩ ⟨rfl, rfl, rfl, rfl, rfl⟩ rfl
  have hD := fun w => do_c ⟨r, pc, p1, cr, h, op, a, b, imm, inp, 0, false, false, 0, 0, true⟩ ⟨⟨rfl, rfl, rfl, rfl, rfl⟩, by simp only; rw [hu1]; rfl, h0, h1, h2, h3, h4, h5, h6, h7, g0, g1, hc⟩ w
  rw [hv] at hD
  unfold DX.st Isa.insV at hD
  unfold DX.st at hk
  simp only at hD hk
  have hE := st_eq (pc := pc) (ps := p1) (h := h) hr hc ⟨g0, g1⟩ hb
  have HS9 := Lib.hid (stA_set9 r pc ps cr h p1)
  have K0 := stK r pc ps cr h
  have K1 := stK r pc p1 cr h
  have K2 := stK r' pc' ps' cr' h'
  have HW := Lib.hid works_c
  have HN := Lib.hid new_c
  have hCl := fun (tb : Nat) (w : World) (h : TabIs w tb) => class_c tb op w h h0 h1
  have hSi := fun (tb : Nat) (w : World) (h : TabIs w tb) => silent_c tb op w h h0 h1
  unfold SiLaw at hk
  generalize (knownF op).cls = cls at hCl hk
  generalize hasB (knownF op) 115 = si at hSi hk
  generalize stA r pc ps cr h = A at K0 HS9 ⊢
  generalize stA r pc p1 cr h = A1 at K1 HS9 hD hk hE
  generalize stA r' pc' ps' cr' h' = T at K2 hD hk
  have HD := Lib.hid hD
  have HK := Lib.hid hk
  have HP := Lib.hid hp1
  have HE := Lib.hid hE
  have HCl := Lib.hid hCl
  have HSi := Lib.hid hSi
  clear hD hk hp1 hv hu1 hr hc hE hCl hSi
  obtain ⟨-, -, a9, -, -, -, -, -, -, -, -, -⟩ := K0
  have Z1 := Lib.hid K1.1
  have Z2 := Lib.hid K2.1
  have O2 := Lib.hid K2.2.1
  clear K1 K2
  go_enter Try.func7, Try.ntmps7
  go_wp2_with fail
  refine (HN.out _).mono ?_
  rintro e w1 ⟨rfl, hT1, hs1, hb1⟩
  have hsz : w.heap.size + 1 + 1 < w1.heap.size := by simpa using hs1
  have rA : w1.heap[w.heap.size]? = some (.cells A1 25 (0, 0)) := by
    rw [hb1.block _ (by simp; omega), HP.out, HS9.out]
    exact heap_old' (heap_new' rfl)
  have rI : w1.heap[w.heap.size + 1]? = some (.cells #[.int .u8 op, .int .u8 a, .int .u8 b, .int .i32 imm] 27 (0, 0)) := by
    rw [hb1.block _ (by simp)]; exact heap_new' (by simp)
  have hB1 : Below w.heap.size w w1 := ((below_alloc1 w _).alloc (by simp) _).trans (hb1.mono (by simp; omega))
  have HT1 : Hid (TabIs w1 (w.heap.size + 1 + 1)) := Lib.hid (by simpa using hT1)
  have RA := Lib.hid rA
  have RI := Lib.hid rI
  have i0 := cell_of_row w1 _ 0 _ _ _ rI
  have i1 := cell_of_row w1 _ 1 _ _ _ rI
  have i2 := cell_of_row w1 _ 2 _ _ _ rI
  have i3 := cell_of_row w1 _ 3 _ _ _ rI
  simp at i0 i1 i2 i3
  clear hs1 hb1 hT1 rA rI a9
  go_wp2_with (first
    | ((with_reducible show wpList _ _ _ (Oper.mk _ (.load 25 _) _ _ _ _ :: _) _ _); refine wpList_load_row rfl 25 _ rfl _ rfl 25 _ (0, 0) _ (by exact RA.out) Try.underlying25 rfl (by rw [Z1.out]; kernel_rfl) ?_))
  refine (HD.out _).mono ?_
  rintro e w2 ⟨rfl, hb2⟩
  clear i0 i1 i2 i3
  have hs2 := hb2.size
  have rA2 := (hb2.block _ (by omega)).trans RA.out
  have rI2 := (hb2.block _ (by omega)).trans RI.out
  have RA2 := Lib.hid rA2
  have RI2 := Lib.hid rI2
  have HT2 := Lib.hid (tab_below HT1.out hb2)
  have hB2 : Below w.heap.size w w2 := hB1.trans (hb2.mono (by omega))
  have hs2' : w.heap.size + 1 + 1 < w2.heap.size := by omega
  have k0 : w2.cell? ⟨w.heap.size + 1, 0, none⟩ = some (.int .u8 op) := (cell_of_row w2 _ 0 _ _ _ rI2).trans rfl
  have HS : ∀ (c : Int), Hid (SiS w A1 T #[.int .u8 op, .int .u8 a, .int .u8 b, .int .i32 imm] #[.int .i64 c, .bool fl, .bool out, .int .i64 po, .int .u32 va] w2.heap.size ((w2.alloc (.cells T 25)).alloc (.cells #[.int .i64 c, .bool fl, .bool out, .int .i64 po, .int .u32 va] 29))) := fun c =>
    Lib.hid (by
      have t2 := tab_below (tab_below HT2.out (below_alloc1 w2 (.cells T 25))) (below_alloc1 _ (.cells #[.int .i64 c, .bool fl, .bool out, .int .i64 po, .int .u32 va] 29))
      exact ⟨heap_old' (heap_old' RA2.out), heap_old' (heap_old' RI2.out), heap_old' (heap_new' rfl), heap_new' (by simp), t2, (hB2.alloc (by omega) _).alloc (by simp; omega) _, by simp, by omega⟩)
  have HS := Lib.hid HS
  clear hb2 rA2 rI2 hs2 hsz RA RI hB1
  rcases HK.out with ⟨rfl, hT⟩ | ⟨rfl, hT, rfl, rfl⟩ | ⟨rfl, rfl, rfl⟩
  · -- nothing is done
    obtain rfl : A1 = T := hT.symm
    have hE := HE.out
    clear HS k0 HK
    go_wp2_with (first
      | ((with_reducible show wpList _ _ _ (Oper.mk _ (.store 25 _ _) _ _ _ _ :: _) _ _); refine wpList_store_at rfl 25 _ _ rfl rfl _ A1 rfl rfl 25 _ (by refine heap_old' (heap_new' ?_); simp; done) (by rw [Z2.out]; kernel_rfl) (by rw [Z2.out]; rfl) O2.out _ (by refine setRow_past _ (setRow_new' _ _ _ _ _ ?_) ?_ <;> simp; done) ?_)
      | ((with_reducible show wpList _ _ _ (Oper.mk _ (.load 25 _) _ _ _ _ :: _) _ _); refine wpList_load_row rfl 25 _ rfl _ rfl 25 _ (0, 0) _ (by first | exact heap_old' (heap_new' rfl) | exact heap_old' (heap_old' RA2.out)) Try.underlying25 rfl (by rw [Z1.out]; kernel_rfl) ?_))
    refine (HW.out _).mono ?_
    rintro e w5 ⟨rfl, hb5⟩
    go_wp2_with fail
    go_ret
    exact ⟨rfl, ((hB2.alloc (by omega) _).alloc (by simp; omega) _).trans (hb5.mono (by simp; omega))⟩
  · -- cause 2
    obtain rfl : A1 = T := hT.symm
    have hE := HE.out
    clear k0 HK
    go_wp2_with (first
      | ((with_reducible show wpList _ _ _ (Oper.mk _ (.store 25 _ _) _ _ _ _ :: _) _ _); refine wpList_store_at rfl 25 _ _ rfl rfl _ A1 rfl rfl 25 _ (by refine heap_old' (heap_new' ?_); simp; done) (by rw [Z2.out]; kernel_rfl) (by rw [Z2.out]; rfl) O2.out _ (by refine setRow_past _ (setRow_new' _ _ _ _ _ ?_) ?_ <;> simp; done) ?_))
    have HS := Lib.hid (HS.out 2).out
    have hz := Z1.out
    refine wp_region_held_drew (S := fun w' => SiS w A1 A1 #[.int .u8 op, .int .u8 a, .int .u8 b, .int .i32 imm] #[.int .i64 2, .bool fl, .bool out, .int .i64 po, .int .u32 va] w2.heap.size w') (by kernel_rfl) HS.out.drew (fun hHeld => ?_)
    refine wpAnyH_take (i := 0) (oi := { dst := some 31, op := Op.move (Operand.tmp 7), type := _, pos := "law.go:39", after := #[], guard := none }) (v := .pointer (some ⟨w.heap.size + 1 + 1, 0, none⟩)) rfl (by kernel_rfl) (by kernel_rfl) (by kernel_rfl) (fun _ _ _ h => h) (Or.inl ⟨by rfl, ?_⟩) hHeld ?_
    · intro w' hSw
      have k0 : w'.cell? ⟨w.heap.size + 1, 0, none⟩ = some (.int .u8 op) := (cell_of_row w' _ 0 _ _ _ hSw.i).trans rfl
      have k1 : w'.cell? ⟨w2.heap.size + 1, 0, none⟩ = some (.int .i64 2) := (cell_of_row w' _ 0 _ _ _ hSw.e).trans rfl
      go_simp
    try simp only [Act.put, List.setIfInBounds_toArray, List.set_cons_zero, List.set_cons_succ]
    refine wpAnyH_take (i := 1) (oi := { dst := some 32, op := Op.fieldAddr _ (Operand.tmp 4) 0, type := _, pos := "law.go:39", after := #[], guard := none }) (v := .pointer (some ⟨w.heap.size + 1, 0, none⟩)) rfl (by kernel_rfl) (by kernel_rfl) (by kernel_rfl) (fun _ _ _ h => h) (Or.inl ⟨by rfl, ?_⟩) hHeld ?_
    · intro w' hSw
      have k0 : w'.cell? ⟨w.heap.size + 1, 0, none⟩ = some (.int .u8 op) := (cell_of_row w' _ 0 _ _ _ hSw.i).trans rfl
      have k1 : w'.cell? ⟨w2.heap.size + 1, 0, none⟩ = some (.int .i64 2) := (cell_of_row w' _ 0 _ _ _ hSw.e).trans rfl
      go_simp
    try simp only [Act.put, List.setIfInBounds_toArray, List.set_cons_zero, List.set_cons_succ]
    refine wpAnyH_take (i := 2) (oi := { dst := some 33, op := Op.load _ (Operand.tmp 32), type := _, pos := "law.go:39", after := #[{ on := 1, ground := Ground.data }], guard := none }) (v := .int .u8 op) rfl (by kernel_rfl) (by kernel_rfl) (by kernel_rfl) (fun _ _ _ h => h) (Or.inl ⟨by rfl, ?_⟩) hHeld ?_
    · intro w' hSw
      have k0 : w'.cell? ⟨w.heap.size + 1, 0, none⟩ = some (.int .u8 op) := (cell_of_row w' _ 0 _ _ _ hSw.i).trans rfl
      have k1 : w'.cell? ⟨w2.heap.size + 1, 0, none⟩ = some (.int .i64 2) := (cell_of_row w' _ 0 _ _ _ hSw.e).trans rfl
      go_simp
    try simp only [Act.put, List.setIfInBounds_toArray, List.set_cons_zero, List.set_cons_succ]
    refine wpAnyH_ready (rs := [3]) (by kernel_rfl) (by simp) ?_
    refine AllReadyH.cons (o := { dst := some 34, op := Op.call { callee := Callee.value (Operand.func _), args := #[Operand.tmp 31, Operand.tmp 33], argTypes := _ }, type := _, pos := "law.go:39", after := #[{ on := 0, ground := Ground.data }, { on := 2, ground := Ground.data }], guard := none }) rfl (fun K hK => ?_) AllReadyH.nil
    go_simp
    go_at_call 13
    refine (HCl.out _ _ hHeld.tab).mono ?_
    rintro e w3 ⟨rfl, hT3, hG3⟩
    refine hK.out _ _ (hHeld.grown hT3 hG3) (fun hHeld => ?_)
    clear hK K hT3 hG3
    try simp only [Act.put, List.setIfInBounds_toArray, List.set_cons_zero, List.set_cons_succ]
    refine wpAnyH_take (i := 4) (oi := { dst := some 35, op := Op.binOp BinOp.eql _ (Operand.tmp 34) (Operand.const (Value.int IntKind.i64 4)) _, type := _, pos := "law.go:39", after := #[{ on := 3, ground := Ground.data }], guard := none }) (v := .bool true) rfl (by kernel_rfl) (by kernel_rfl) (by kernel_rfl) (fun _ _ _ h => h) (Or.inl ⟨by rfl, ?_⟩) hHeld ?_
    · intro w' hSw
      have k0 : w'.cell? ⟨w.heap.size + 1, 0, none⟩ = some (.int .u8 op) := (cell_of_row w' _ 0 _ _ _ hSw.i).trans rfl
      have k1 : w'.cell? ⟨w2.heap.size + 1, 0, none⟩ = some (.int .i64 2) := (cell_of_row w' _ 0 _ _ _ hSw.e).trans rfl
      go_simp
    try simp only [Act.put, List.setIfInBounds_toArray, List.set_cons_zero, List.set_cons_succ]
    refine wpAnyH_take (i := 5) (oi := { dst := some 36, op := Op.move (Operand.tmp 35), type := _, pos := "law.go:39", after := #[{ on := 4, ground := Ground.data }, { on := 3, ground := Ground.chain }], guard := none }) (v := .bool true) rfl (by kernel_rfl) (by kernel_rfl) (by kernel_rfl) (fun _ _ _ h => h) (Or.inl ⟨by rfl, ?_⟩) hHeld ?_
    · intro w' hSw
      have k0 : w'.cell? ⟨w.heap.size + 1, 0, none⟩ = some (.int .u8 op) := (cell_of_row w' _ 0 _ _ _ hSw.i).trans rfl
      have k1 : w'.cell? ⟨w2.heap.size + 1, 0, none⟩ = some (.int .i64 2) := (cell_of_row w' _ 0 _ _ _ hSw.e).trans rfl
      go_simp
    try simp only [Act.put, List.setIfInBounds_toArray, List.set_cons_zero, List.set_cons_succ]
    refine wpAnyH_take (i := 6) (oi := { dst := some 37, op := Op.fieldAddr _ (Operand.tmp 9) 0, type := _, pos := "law.go:39", after := #[{ on := 5, ground := Ground.guard }], guard := some (5, true) }) (v := .pointer (some ⟨w2.heap.size + 1, 0, none⟩)) rfl (by kernel_rfl) (by kernel_rfl) (by kernel_rfl) (fun _ _ _ h => h) (Or.inl ⟨by rfl, ?_⟩) hHeld ?_
    · intro w' hSw
      have k0 : w'.cell? ⟨w.heap.size + 1, 0, none⟩ = some (.int .u8 op) := (cell_of_row w' _ 0 _ _ _ hSw.i).trans rfl
      have k1 : w'.cell? ⟨w2.heap.size + 1, 0, none⟩ = some (.int .i64 2) := (cell_of_row w' _ 0 _ _ _ hSw.e).trans rfl
      go_simp
    try simp only [Act.put, List.setIfInBounds_toArray, List.set_cons_zero, List.set_cons_succ]
    refine wpAnyH_take (i := 7) (oi := { dst := some 38, op := Op.load _ (Operand.tmp 37), type := _, pos := "law.go:39", after := #[{ on := 6, ground := Ground.data }, { on := 5, ground := Ground.guard }], guard := some (5, true) }) (v := .int .i64 2) rfl (by kernel_rfl) (by kernel_rfl) (by kernel_rfl) (fun _ _ _ h => h) (Or.inl ⟨by rfl, ?_⟩) hHeld ?_
    · intro w' hSw
      have k0 : w'.cell? ⟨w.heap.size + 1, 0, none⟩ = some (.int .u8 op) := (cell_of_row w' _ 0 _ _ _ hSw.i).trans rfl
      have k1 : w'.cell? ⟨w2.heap.size + 1, 0, none⟩ = some (.int .i64 2) := (cell_of_row w' _ 0 _ _ _ hSw.e).trans rfl
      go_simp
    try simp only [Act.put, List.setIfInBounds_toArray, List.set_cons_zero, List.set_cons_succ]
    refine wpAnyH_take (i := 8) (oi := { dst := some 39, op := Op.binOp BinOp.eql _ (Operand.tmp 38) (Operand.const (Value.int IntKind.i64 0)) _, type := _, pos := "law.go:39", after := #[{ on := 7, ground := Ground.data }, { on := 5, ground := Ground.guard }], guard := some (5, true) }) (v := .bool false) rfl (by kernel_rfl) (by kernel_rfl) (by kernel_rfl) (fun _ _ _ h => h) (Or.inl ⟨by rfl, ?_⟩) hHeld ?_
    · intro w' hSw
      have k0 : w'.cell? ⟨w.heap.size + 1, 0, none⟩ = some (.int .u8 op) := (cell_of_row w' _ 0 _ _ _ hSw.i).trans rfl
      have k1 : w'.cell? ⟨w2.heap.size + 1, 0, none⟩ = some (.int .i64 2) := (cell_of_row w' _ 0 _ _ _ hSw.e).trans rfl
      go_simp
    try simp only [Act.put, List.setIfInBounds_toArray, List.set_cons_zero, List.set_cons_succ]
    refine wpAnyH_take (i := 9) (oi := { dst := some 40, op := Op.move (Operand.tmp 7), type := _, pos := "law.go:39", after := #[{ on := 5, ground := Ground.guard }], guard := some (5, true) }) (v := .pointer (some ⟨w.heap.size + 1 + 1, 0, none⟩)) rfl (by kernel_rfl) (by kernel_rfl) (by kernel_rfl) (fun _ _ _ h => h) (Or.inl ⟨by rfl, ?_⟩) hHeld ?_
    · intro w' hSw
      have k0 : w'.cell? ⟨w.heap.size + 1, 0, none⟩ = some (.int .u8 op) := (cell_of_row w' _ 0 _ _ _ hSw.i).trans rfl
      have k1 : w'.cell? ⟨w2.heap.size + 1, 0, none⟩ = some (.int .i64 2) := (cell_of_row w' _ 0 _ _ _ hSw.e).trans rfl
      go_simp
    try simp only [Act.put, List.setIfInBounds_toArray, List.set_cons_zero, List.set_cons_succ]
    refine wpAnyH_take (i := 10) (oi := { dst := some 41, op := Op.fieldAddr _ (Operand.tmp 4) 0, type := _, pos := "law.go:39", after := #[{ on := 5, ground := Ground.guard }], guard := some (5, true) }) (v := .pointer (some ⟨w.heap.size + 1, 0, none⟩)) rfl (by kernel_rfl) (by kernel_rfl) (by kernel_rfl) (fun _ _ _ h => h) (Or.inl ⟨by rfl, ?_⟩) hHeld ?_
    · intro w' hSw
      have k0 : w'.cell? ⟨w.heap.size + 1, 0, none⟩ = some (.int .u8 op) := (cell_of_row w' _ 0 _ _ _ hSw.i).trans rfl
      have k1 : w'.cell? ⟨w2.heap.size + 1, 0, none⟩ = some (.int .i64 2) := (cell_of_row w' _ 0 _ _ _ hSw.e).trans rfl
      go_simp
    try simp only [Act.put, List.setIfInBounds_toArray, List.set_cons_zero, List.set_cons_succ]
    refine wpAnyH_take (i := 11) (oi := { dst := some 42, op := Op.load _ (Operand.tmp 41), type := _, pos := "law.go:39", after := #[{ on := 10, ground := Ground.data }, { on := 5, ground := Ground.guard }], guard := some (5, true) }) (v := .int .u8 op) rfl (by kernel_rfl) (by kernel_rfl) (by kernel_rfl) (fun _ _ _ h => h) (Or.inl ⟨by rfl, ?_⟩) hHeld ?_
    · intro w' hSw
      have k0 : w'.cell? ⟨w.heap.size + 1, 0, none⟩ = some (.int .u8 op) := (cell_of_row w' _ 0 _ _ _ hSw.i).trans rfl
      have k1 : w'.cell? ⟨w2.heap.size + 1, 0, none⟩ = some (.int .i64 2) := (cell_of_row w' _ 0 _ _ _ hSw.e).trans rfl
      go_simp
    try simp only [Act.put, List.setIfInBounds_toArray, List.set_cons_zero, List.set_cons_succ]
    refine wpAnyH_ready (rs := [12]) (by kernel_rfl) (by simp) ?_
    refine AllReadyH.cons (o := { dst := some 43, op := Op.call { callee := Callee.value (Operand.func _), args := #[Operand.tmp 40, Operand.tmp 42], argTypes := _ }, type := _, pos := "law.go:39", after := #[{ on := 9, ground := Ground.data }, { on := 11, ground := Ground.data }, { on := 5, ground := Ground.chain }, { on := 5, ground := Ground.guard }], guard := some (5, true) }) rfl (fun K hK => ?_) AllReadyH.nil
    go_simp
    go_at_call 14
    refine (HSi.out _ _ hHeld.tab).mono ?_
    rintro e w4 ⟨rfl, hT4, hG4⟩
    refine hK.out _ _ (hHeld.grown hT4 hG4) (fun hHeld => ?_)
    clear hK K hT4 hG4
    try simp only [Act.put, List.setIfInBounds_toArray, List.set_cons_zero, List.set_cons_succ]
    refine wpAnyH_take (i := 13) (oi := { dst := some 44, op := Op.binOp BinOp.eql _ (Operand.tmp 39) (Operand.tmp 43) _, type := _, pos := "law.go:39", after := #[{ on := 8, ground := Ground.data }, { on := 12, ground := Ground.data }, { on := 5, ground := Ground.guard }], guard := some (5, true) }) (v := .bool true) rfl (by kernel_rfl) (by kernel_rfl) (by kernel_rfl) (fun _ _ _ h => h) (Or.inl ⟨by rfl, ?_⟩) hHeld ?_
    · intro w' hSw
      have k0 : w'.cell? ⟨w.heap.size + 1, 0, none⟩ = some (.int .u8 op) := (cell_of_row w' _ 0 _ _ _ hSw.i).trans rfl
      have k1 : w'.cell? ⟨w2.heap.size + 1, 0, none⟩ = some (.int .i64 2) := (cell_of_row w' _ 0 _ _ _ hSw.e).trans rfl
      go_simp
    try simp only [Act.put, List.setIfInBounds_toArray, List.set_cons_zero, List.set_cons_succ]
    refine wpAnyH_take (i := 14) (oi := { dst := some 45, op := Op.pick (Operand.tmp 36) (Operand.tmp 44) (Operand.const (Value.bool false)), type := _, pos := "law.go:39", after := #[{ on := 5, ground := Ground.data }, { on := 13, ground := Ground.data }], guard := none }) (v := .bool true) rfl (by kernel_rfl) (by kernel_rfl) (by kernel_rfl) (fun _ _ _ h => h) (Or.inl ⟨by rfl, ?_⟩) hHeld ?_
    · intro w' hSw
      have k0 : w'.cell? ⟨w.heap.size + 1, 0, none⟩ = some (.int .u8 op) := (cell_of_row w' _ 0 _ _ _ hSw.i).trans rfl
      have k1 : w'.cell? ⟨w2.heap.size + 1, 0, none⟩ = some (.int .i64 2) := (cell_of_row w' _ 0 _ _ _ hSw.e).trans rfl
      go_simp
    try simp only [Act.put, List.setIfInBounds_toArray, List.set_cons_zero, List.set_cons_succ]
    refine wpAnyH_take (i := 15) (oi := { dst := some 46, op := Op.move (Operand.tmp 45), type := _, pos := "law.go:39", after := #[{ on := 14, ground := Ground.data }, { on := 12, ground := Ground.chain }], guard := none }) (v := .bool true) rfl (by kernel_rfl) (by kernel_rfl) (by kernel_rfl) (fun _ _ _ h => h) (Or.inl ⟨by rfl, ?_⟩) hHeld ?_
    · intro w' hSw
      have k0 : w'.cell? ⟨w.heap.size + 1, 0, none⟩ = some (.int .u8 op) := (cell_of_row w' _ 0 _ _ _ hSw.i).trans rfl
      have k1 : w'.cell? ⟨w2.heap.size + 1, 0, none⟩ = some (.int .i64 2) := (cell_of_row w' _ 0 _ _ _ hSw.e).trans rfl
      go_simp
    try simp only [Act.put, List.setIfInBounds_toArray, List.set_cons_zero, List.set_cons_succ]
    refine wpAnyH_take (i := 16) (oi := { dst := some 47, op := Op.fieldAddr _ (Operand.tmp 9) 0, type := _, pos := "law.go:39", after := #[{ on := 15, ground := Ground.guard }], guard := some (15, true) }) (v := .pointer (some ⟨w2.heap.size + 1, 0, none⟩)) rfl (by kernel_rfl) (by kernel_rfl) (by kernel_rfl) (fun _ _ _ h => h) (Or.inl ⟨by rfl, ?_⟩) hHeld ?_
    · intro w' hSw
      have k0 : w'.cell? ⟨w.heap.size + 1, 0, none⟩ = some (.int .u8 op) := (cell_of_row w' _ 0 _ _ _ hSw.i).trans rfl
      have k1 : w'.cell? ⟨w2.heap.size + 1, 0, none⟩ = some (.int .i64 2) := (cell_of_row w' _ 0 _ _ _ hSw.e).trans rfl
      go_simp
    try simp only [Act.put, List.setIfInBounds_toArray, List.set_cons_zero, List.set_cons_succ]
    refine wpAnyH_take (i := 17) (oi := { dst := some 48, op := Op.load _ (Operand.tmp 47), type := _, pos := "law.go:39", after := #[{ on := 16, ground := Ground.data }, { on := 15, ground := Ground.guard }], guard := some (15, true) }) (v := .int .i64 2) rfl (by kernel_rfl) (by kernel_rfl) (by kernel_rfl) (fun _ _ _ h => h) (Or.inl ⟨by rfl, ?_⟩) hHeld ?_
    · intro w' hSw
      have k0 : w'.cell? ⟨w.heap.size + 1, 0, none⟩ = some (.int .u8 op) := (cell_of_row w' _ 0 _ _ _ hSw.i).trans rfl
      have k1 : w'.cell? ⟨w2.heap.size + 1, 0, none⟩ = some (.int .i64 2) := (cell_of_row w' _ 0 _ _ _ hSw.e).trans rfl
      go_simp
    try simp only [Act.put, List.setIfInBounds_toArray, List.set_cons_zero, List.set_cons_succ]
    refine wpAnyH_take (i := 18) (oi := { dst := some 49, op := Op.binOp BinOp.eql _ (Operand.tmp 48) (Operand.const (Value.int IntKind.i64 0)) _, type := _, pos := "law.go:39", after := #[{ on := 17, ground := Ground.data }, { on := 15, ground := Ground.guard }], guard := some (15, true) }) (v := .bool false) rfl (by kernel_rfl) (by kernel_rfl) (by kernel_rfl) (fun _ _ _ h => h) (Or.inl ⟨by rfl, ?_⟩) hHeld ?_
    · intro w' hSw
      have k0 : w'.cell? ⟨w.heap.size + 1, 0, none⟩ = some (.int .u8 op) := (cell_of_row w' _ 0 _ _ _ hSw.i).trans rfl
      have k1 : w'.cell? ⟨w2.heap.size + 1, 0, none⟩ = some (.int .i64 2) := (cell_of_row w' _ 0 _ _ _ hSw.e).trans rfl
      go_simp
    try simp only [Act.put, List.setIfInBounds_toArray, List.set_cons_zero, List.set_cons_succ]
    refine wpAnyH_take (i := 19) (oi := { dst := some 50, op := Op.move (Operand.tmp 49), type := _, pos := "law.go:39", after := #[{ on := 18, ground := Ground.data }, { on := 15, ground := Ground.chain }, { on := 15, ground := Ground.guard }], guard := some (15, true) }) (v := .bool false) rfl (by kernel_rfl) (by kernel_rfl) (by kernel_rfl) (fun _ _ _ h => h) (Or.inl ⟨by rfl, ?_⟩) hHeld ?_
    · intro w' hSw
      have k0 : w'.cell? ⟨w.heap.size + 1, 0, none⟩ = some (.int .u8 op) := (cell_of_row w' _ 0 _ _ _ hSw.i).trans rfl
      have k1 : w'.cell? ⟨w2.heap.size + 1, 0, none⟩ = some (.int .i64 2) := (cell_of_row w' _ 0 _ _ _ hSw.e).trans rfl
      go_simp
    try simp only [Act.put, List.setIfInBounds_toArray, List.set_cons_zero, List.set_cons_succ]
    refine wpAnyH_take (i := 20) (oi := { dst := some 51, op := Op.load _ (Operand.tmp 8), type := _, pos := "law.go:39", after := #[{ on := 19, ground := Ground.guard }], guard := some (19, false) }) (v := .agg A1) rfl (by kernel_rfl) (by kernel_rfl) (by kernel_rfl) (fun _ _ _ h => h) (yields_stS (by rfl) _ rfl w2.heap.size rfl A1 hz (fun w' h => h.t)) hHeld ?_
    try simp only [Act.put, List.setIfInBounds_toArray, List.set_cons_zero, List.set_cons_succ]
    refine wpAnyH_take (i := 21) (oi := { dst := some 52, op := Op.load _ (Operand.tmp 3), type := _, pos := "law.go:39", after := #[{ on := 19, ground := Ground.guard }], guard := some (19, false) }) (v := .agg A1) rfl (by kernel_rfl) (by kernel_rfl) (by kernel_rfl) (fun _ _ _ h => h) (yields_stS (by rfl) _ rfl w.heap.size rfl A1 hz (fun w' h => h.a)) hHeld ?_
    try simp only [Act.put, List.setIfInBounds_toArray, List.set_cons_zero, List.set_cons_succ]
    refine wpAnyH_take (i := 22) (oi := { dst := some 53, op := Op.binOp BinOp.eql _ (Operand.tmp 51) (Operand.tmp 52) _, type := _, pos := "law.go:39", after := #[{ on := 20, ground := Ground.data }, { on := 21, ground := Ground.data }, { on := 19, ground := Ground.guard }], guard := some (19, false) }) (v := .bool true) rfl (by kernel_rfl) (by kernel_rfl) (by kernel_rfl) (fun _ _ _ h => h) (Or.inl ⟨by rfl, ?_⟩) hHeld ?_
    · intro w' hSw
      have k0 : w'.cell? ⟨w.heap.size + 1, 0, none⟩ = some (.int .u8 op) := (cell_of_row w' _ 0 _ _ _ hSw.i).trans rfl
      have k1 : w'.cell? ⟨w2.heap.size + 1, 0, none⟩ = some (.int .i64 2) := (cell_of_row w' _ 0 _ _ _ hSw.e).trans rfl
      go_simp
    try simp only [Act.put, List.setIfInBounds_toArray, List.set_cons_zero, List.set_cons_succ]
    refine wpAnyH_take (i := 23) (oi := { dst := some 54, op := Op.pick (Operand.tmp 50) (Operand.const (Value.bool true)) (Operand.tmp 53), type := _, pos := "law.go:39", after := #[{ on := 19, ground := Ground.data }, { on := 22, ground := Ground.data }, { on := 15, ground := Ground.guard }], guard := some (15, true) }) (v := .bool true) rfl (by kernel_rfl) (by kernel_rfl) (by kernel_rfl) (fun _ _ _ h => h) (Or.inl ⟨by rfl, ?_⟩) hHeld ?_
    · intro w' hSw
      have k0 : w'.cell? ⟨w.heap.size + 1, 0, none⟩ = some (.int .u8 op) := (cell_of_row w' _ 0 _ _ _ hSw.i).trans rfl
      have k1 : w'.cell? ⟨w2.heap.size + 1, 0, none⟩ = some (.int .i64 2) := (cell_of_row w' _ 0 _ _ _ hSw.e).trans rfl
      go_simp
    try simp only [Act.put, List.setIfInBounds_toArray, List.set_cons_zero, List.set_cons_succ]
    refine wpAnyH_take (i := 24) (oi := { dst := some 55, op := Op.pick (Operand.tmp 46) (Operand.tmp 54) (Operand.const (Value.bool false)), type := _, pos := "law.go:39", after := #[{ on := 15, ground := Ground.data }, { on := 23, ground := Ground.data }], guard := none }) (v := .bool true) rfl (by kernel_rfl) (by kernel_rfl) (by kernel_rfl) (fun _ _ _ h => h) (Or.inl ⟨by rfl, ?_⟩) hHeld ?_
    · intro w' hSw
      have k0 : w'.cell? ⟨w.heap.size + 1, 0, none⟩ = some (.int .u8 op) := (cell_of_row w' _ 0 _ _ _ hSw.i).trans rfl
      have k1 : w'.cell? ⟨w2.heap.size + 1, 0, none⟩ = some (.int .i64 2) := (cell_of_row w' _ 0 _ _ _ hSw.e).trans rfl
      go_simp
    try simp only [Act.put, List.setIfInBounds_toArray, List.set_cons_zero, List.set_cons_succ]
    refine wpAnyH_take (i := 25) (oi := { dst := some 56, op := Op.move (Operand.tmp 55), type := _, pos := "law.go:39", after := #[{ on := 24, ground := Ground.data }, { on := 19, ground := Ground.chain }], guard := none }) (v := .bool true) rfl (by kernel_rfl) (by kernel_rfl) (by kernel_rfl) (fun _ _ _ h => h) (Or.inl ⟨by rfl, ?_⟩) hHeld ?_
    · intro w' hSw
      have k0 : w'.cell? ⟨w.heap.size + 1, 0, none⟩ = some (.int .u8 op) := (cell_of_row w' _ 0 _ _ _ hSw.i).trans rfl
      have k1 : w'.cell? ⟨w2.heap.size + 1, 0, none⟩ = some (.int .i64 2) := (cell_of_row w' _ 0 _ _ _ hSw.e).trans rfl
      go_simp
    try simp only [Act.put, List.setIfInBounds_toArray, List.set_cons_zero, List.set_cons_succ]
    refine wpAnyH_ready (rs := [26]) (by kernel_rfl) (by simp) ?_
    refine AllReadyH.cons (o := { dst := some 57, op := Op.call { callee := Callee.value (Operand.func _), args := #[], argTypes := _ }, type := _, pos := "law.go:39", after := #[{ on := 25, ground := Ground.chain }, { on := 25, ground := Ground.guard }], guard := some (25, true) }) rfl (fun K hK => ?_) AllReadyH.nil
    go_simp
    go_at_call 11
    refine (HW.out _).mono ?_
    rintro e w5 ⟨rfl, hb5⟩
    refine hK.out _ _ (hHeld.next hb5) (fun hHeld => ?_)
    clear hK K hb5
    try simp only [Act.put, List.setIfInBounds_toArray, List.set_cons_zero, List.set_cons_succ]
    refine wpAnyH_take (i := 27) (oi := { dst := some 58, op := Op.pick (Operand.tmp 56) (Operand.tmp 57) (Operand.const (Value.bool false)), type := _, pos := "law.go:39", after := #[{ on := 25, ground := Ground.data }, { on := 26, ground := Ground.data }], guard := none }) (v := .bool true) rfl (by kernel_rfl) (by kernel_rfl) (by kernel_rfl) (fun _ _ _ h => h) (Or.inl ⟨by rfl, ?_⟩) hHeld ?_
    · intro w' hSw
      have k0 : w'.cell? ⟨w.heap.size + 1, 0, none⟩ = some (.int .u8 op) := (cell_of_row w' _ 0 _ _ _ hSw.i).trans rfl
      have k1 : w'.cell? ⟨w2.heap.size + 1, 0, none⟩ = some (.int .i64 2) := (cell_of_row w' _ 0 _ _ _ hSw.e).trans rfl
      go_simp
    try simp only [Act.put, List.setIfInBounds_toArray, List.set_cons_zero, List.set_cons_succ]
    refine wpAnyH_take (i := 28) (oi := { dst := some 6, op := Op.assign (Operand.tmp 58), type := _, pos := "law.go:39", after := #[{ on := 27, ground := Ground.data }, { on := 26, ground := Ground.chain }, { on := 0, ground := Ground.phase }, { on := 1, ground := Ground.phase }, { on := 2, ground := Ground.phase }, { on := 3, ground := Ground.phase }, { on := 4, ground := Ground.phase }, { on := 5, ground := Ground.phase }, { on := 6, ground := Ground.phase }, { on := 7, ground := Ground.phase }, { on := 8, ground := Ground.phase }, { on := 9, ground := Ground.phase }, { on := 10, ground := Ground.phase }, { on := 11, ground := Ground.phase }, { on := 12, ground := Ground.phase }, { on := 13, ground := Ground.phase }, { on := 14, ground := Ground.phase }, { on := 15, ground := Ground.phase }, { on := 16, ground := Ground.phase }, { on := 17, ground := Ground.phase }, { on := 18, ground := Ground.phase }, { on := 19, ground := Ground.phase }, { on := 20, ground := Ground.phase }, { on := 21, ground := Ground.phase }, { on := 22, ground := Ground.phase }, { on := 23, ground := Ground.phase }, { on := 24, ground := Ground.phase }, { on := 25, ground := Ground.phase }, { on := 26, ground := Ground.phase }, { on := 27, ground := Ground.phase }], guard := none }) (v := .bool true) rfl (by kernel_rfl) (by kernel_rfl) (by kernel_rfl) (fun _ _ _ h => h) (Or.inl ⟨by rfl, ?_⟩) hHeld ?_
    · intro w' hSw
      have k0 : w'.cell? ⟨w.heap.size + 1, 0, none⟩ = some (.int .u8 op) := (cell_of_row w' _ 0 _ _ _ hSw.i).trans rfl
      have k1 : w'.cell? ⟨w2.heap.size + 1, 0, none⟩ = some (.int .i64 2) := (cell_of_row w' _ 0 _ _ _ hSw.e).trans rfl
      go_simp
    try simp only [Act.put, List.setIfInBounds_toArray, List.set_cons_zero, List.set_cons_succ]
    refine wpAnyH_done (by kernel_rfl) ?_ _
    go_wp2_with fail
    go_ret
    exact ⟨rfl, hHeld.below⟩
  · -- cause 0
    have hE := HE.out
    clear k0 HK
    go_wp2_with (first
      | ((with_reducible show wpList _ _ _ (Oper.mk _ (.store 25 _ _) _ _ _ _ :: _) _ _); refine wpList_store_at rfl 25 _ _ rfl rfl _ T rfl rfl 25 _ (by refine heap_old' (heap_new' ?_); simp; done) (by rw [Z2.out]; kernel_rfl) (by rw [Z2.out]; rfl) O2.out _ (by refine setRow_past _ (setRow_new' _ _ _ _ _ ?_) ?_ <;> simp; done) ?_))
    have HS := Lib.hid (HS.out 0).out
    have hz := Z1.out
    refine wp_region_held_drew (S := fun w' => SiS w A1 T #[.int .u8 op, .int .u8 a, .int .u8 b, .int .i32 imm] #[.int .i64 0, .bool fl, .bool out, .int .i64 po, .int .u32 va] w2.heap.size w') (by kernel_rfl) HS.out.drew (fun hHeld => ?_)
    refine wpAnyH_take (i := 0) (oi := { dst := some 31, op := Op.move (Operand.tmp 7), type := _, pos := "law.go:39", after := #[], guard := none }) (v := .pointer (some ⟨w.heap.size + 1 + 1, 0, none⟩)) rfl (by kernel_rfl) (by kernel_rfl) (by kernel_rfl) (fun _ _ _ h => h) (Or.inl ⟨by rfl, ?_⟩) hHeld ?_
    · intro w' hSw
      have k0 : w'.cell? ⟨w.heap.size + 1, 0, none⟩ = some (.int .u8 op) := (cell_of_row w' _ 0 _ _ _ hSw.i).trans rfl
      have k1 : w'.cell? ⟨w2.heap.size + 1, 0, none⟩ = some (.int .i64 0) := (cell_of_row w' _ 0 _ _ _ hSw.e).trans rfl
      go_simp
    try simp only [Act.put, List.setIfInBounds_toArray, List.set_cons_zero, List.set_cons_succ]
    refine wpAnyH_take (i := 1) (oi := { dst := some 32, op := Op.fieldAddr _ (Operand.tmp 4) 0, type := _, pos := "law.go:39", after := #[], guard := none }) (v := .pointer (some ⟨w.heap.size + 1, 0, none⟩)) rfl (by kernel_rfl) (by kernel_rfl) (by kernel_rfl) (fun _ _ _ h => h) (Or.inl ⟨by rfl, ?_⟩) hHeld ?_
    · intro w' hSw
      have k0 : w'.cell? ⟨w.heap.size + 1, 0, none⟩ = some (.int .u8 op) := (cell_of_row w' _ 0 _ _ _ hSw.i).trans rfl
      have k1 : w'.cell? ⟨w2.heap.size + 1, 0, none⟩ = some (.int .i64 0) := (cell_of_row w' _ 0 _ _ _ hSw.e).trans rfl
      go_simp
    try simp only [Act.put, List.setIfInBounds_toArray, List.set_cons_zero, List.set_cons_succ]
    refine wpAnyH_take (i := 2) (oi := { dst := some 33, op := Op.load _ (Operand.tmp 32), type := _, pos := "law.go:39", after := #[{ on := 1, ground := Ground.data }], guard := none }) (v := .int .u8 op) rfl (by kernel_rfl) (by kernel_rfl) (by kernel_rfl) (fun _ _ _ h => h) (Or.inl ⟨by rfl, ?_⟩) hHeld ?_
    · intro w' hSw
      have k0 : w'.cell? ⟨w.heap.size + 1, 0, none⟩ = some (.int .u8 op) := (cell_of_row w' _ 0 _ _ _ hSw.i).trans rfl
      have k1 : w'.cell? ⟨w2.heap.size + 1, 0, none⟩ = some (.int .i64 0) := (cell_of_row w' _ 0 _ _ _ hSw.e).trans rfl
      go_simp
    try simp only [Act.put, List.setIfInBounds_toArray, List.set_cons_zero, List.set_cons_succ]
    refine wpAnyH_ready (rs := [3]) (by kernel_rfl) (by simp) ?_
    refine AllReadyH.cons (o := { dst := some 34, op := Op.call { callee := Callee.value (Operand.func _), args := #[Operand.tmp 31, Operand.tmp 33], argTypes := _ }, type := _, pos := "law.go:39", after := #[{ on := 0, ground := Ground.data }, { on := 2, ground := Ground.data }], guard := none }) rfl (fun K hK => ?_) AllReadyH.nil
    go_simp
    go_at_call 13
    refine (HCl.out _ _ hHeld.tab).mono ?_
    rintro e w3 ⟨rfl, hT3, hG3⟩
    refine hK.out _ _ (hHeld.grown hT3 hG3) (fun hHeld => ?_)
    clear hK K hT3 hG3
    try simp only [Act.put, List.setIfInBounds_toArray, List.set_cons_zero, List.set_cons_succ]
    refine wpAnyH_take (i := 4) (oi := { dst := some 35, op := Op.binOp BinOp.eql _ (Operand.tmp 34) (Operand.const (Value.int IntKind.i64 4)) _, type := _, pos := "law.go:39", after := #[{ on := 3, ground := Ground.data }], guard := none }) (v := .bool true) rfl (by kernel_rfl) (by kernel_rfl) (by kernel_rfl) (fun _ _ _ h => h) (Or.inl ⟨by rfl, ?_⟩) hHeld ?_
    · intro w' hSw
      have k0 : w'.cell? ⟨w.heap.size + 1, 0, none⟩ = some (.int .u8 op) := (cell_of_row w' _ 0 _ _ _ hSw.i).trans rfl
      have k1 : w'.cell? ⟨w2.heap.size + 1, 0, none⟩ = some (.int .i64 0) := (cell_of_row w' _ 0 _ _ _ hSw.e).trans rfl
      go_simp
    try simp only [Act.put, List.setIfInBounds_toArray, List.set_cons_zero, List.set_cons_succ]
    refine wpAnyH_take (i := 5) (oi := { dst := some 36, op := Op.move (Operand.tmp 35), type := _, pos := "law.go:39", after := #[{ on := 4, ground := Ground.data }, { on := 3, ground := Ground.chain }], guard := none }) (v := .bool true) rfl (by kernel_rfl) (by kernel_rfl) (by kernel_rfl) (fun _ _ _ h => h) (Or.inl ⟨by rfl, ?_⟩) hHeld ?_
    · intro w' hSw
      have k0 : w'.cell? ⟨w.heap.size + 1, 0, none⟩ = some (.int .u8 op) := (cell_of_row w' _ 0 _ _ _ hSw.i).trans rfl
      have k1 : w'.cell? ⟨w2.heap.size + 1, 0, none⟩ = some (.int .i64 0) := (cell_of_row w' _ 0 _ _ _ hSw.e).trans rfl
      go_simp
    try simp only [Act.put, List.setIfInBounds_toArray, List.set_cons_zero, List.set_cons_succ]
    refine wpAnyH_take (i := 6) (oi := { dst := some 37, op := Op.fieldAddr _ (Operand.tmp 9) 0, type := _, pos := "law.go:39", after := #[{ on := 5, ground := Ground.guard }], guard := some (5, true) }) (v := .pointer (some ⟨w2.heap.size + 1, 0, none⟩)) rfl (by kernel_rfl) (by kernel_rfl) (by kernel_rfl) (fun _ _ _ h => h) (Or.inl ⟨by rfl, ?_⟩) hHeld ?_
    · intro w' hSw
      have k0 : w'.cell? ⟨w.heap.size + 1, 0, none⟩ = some (.int .u8 op) := (cell_of_row w' _ 0 _ _ _ hSw.i).trans rfl
      have k1 : w'.cell? ⟨w2.heap.size + 1, 0, none⟩ = some (.int .i64 0) := (cell_of_row w' _ 0 _ _ _ hSw.e).trans rfl
      go_simp
    try simp only [Act.put, List.setIfInBounds_toArray, List.set_cons_zero, List.set_cons_succ]
    refine wpAnyH_take (i := 7) (oi := { dst := some 38, op := Op.load _ (Operand.tmp 37), type := _, pos := "law.go:39", after := #[{ on := 6, ground := Ground.data }, { on := 5, ground := Ground.guard }], guard := some (5, true) }) (v := .int .i64 0) rfl (by kernel_rfl) (by kernel_rfl) (by kernel_rfl) (fun _ _ _ h => h) (Or.inl ⟨by rfl, ?_⟩) hHeld ?_
    · intro w' hSw
      have k0 : w'.cell? ⟨w.heap.size + 1, 0, none⟩ = some (.int .u8 op) := (cell_of_row w' _ 0 _ _ _ hSw.i).trans rfl
      have k1 : w'.cell? ⟨w2.heap.size + 1, 0, none⟩ = some (.int .i64 0) := (cell_of_row w' _ 0 _ _ _ hSw.e).trans rfl
      go_simp
    try simp only [Act.put, List.setIfInBounds_toArray, List.set_cons_zero, List.set_cons_succ]
    refine wpAnyH_take (i := 8) (oi := { dst := some 39, op := Op.binOp BinOp.eql _ (Operand.tmp 38) (Operand.const (Value.int IntKind.i64 0)) _, type := _, pos := "law.go:39", after := #[{ on := 7, ground := Ground.data }, { on := 5, ground := Ground.guard }], guard := some (5, true) }) (v := .bool true) rfl (by kernel_rfl) (by kernel_rfl) (by kernel_rfl) (fun _ _ _ h => h) (Or.inl ⟨by rfl, ?_⟩) hHeld ?_
    · intro w' hSw
      have k0 : w'.cell? ⟨w.heap.size + 1, 0, none⟩ = some (.int .u8 op) := (cell_of_row w' _ 0 _ _ _ hSw.i).trans rfl
      have k1 : w'.cell? ⟨w2.heap.size + 1, 0, none⟩ = some (.int .i64 0) := (cell_of_row w' _ 0 _ _ _ hSw.e).trans rfl
      go_simp
    try simp only [Act.put, List.setIfInBounds_toArray, List.set_cons_zero, List.set_cons_succ]
    refine wpAnyH_take (i := 9) (oi := { dst := some 40, op := Op.move (Operand.tmp 7), type := _, pos := "law.go:39", after := #[{ on := 5, ground := Ground.guard }], guard := some (5, true) }) (v := .pointer (some ⟨w.heap.size + 1 + 1, 0, none⟩)) rfl (by kernel_rfl) (by kernel_rfl) (by kernel_rfl) (fun _ _ _ h => h) (Or.inl ⟨by rfl, ?_⟩) hHeld ?_
    · intro w' hSw
      have k0 : w'.cell? ⟨w.heap.size + 1, 0, none⟩ = some (.int .u8 op) := (cell_of_row w' _ 0 _ _ _ hSw.i).trans rfl
      have k1 : w'.cell? ⟨w2.heap.size + 1, 0, none⟩ = some (.int .i64 0) := (cell_of_row w' _ 0 _ _ _ hSw.e).trans rfl
      go_simp
    try simp only [Act.put, List.setIfInBounds_toArray, List.set_cons_zero, List.set_cons_succ]
    refine wpAnyH_take (i := 10) (oi := { dst := some 41, op := Op.fieldAddr _ (Operand.tmp 4) 0, type := _, pos := "law.go:39", after := #[{ on := 5, ground := Ground.guard }], guard := some (5, true) }) (v := .pointer (some ⟨w.heap.size + 1, 0, none⟩)) rfl (by kernel_rfl) (by kernel_rfl) (by kernel_rfl) (fun _ _ _ h => h) (Or.inl ⟨by rfl, ?_⟩) hHeld ?_
    · intro w' hSw
      have k0 : w'.cell? ⟨w.heap.size + 1, 0, none⟩ = some (.int .u8 op) := (cell_of_row w' _ 0 _ _ _ hSw.i).trans rfl
      have k1 : w'.cell? ⟨w2.heap.size + 1, 0, none⟩ = some (.int .i64 0) := (cell_of_row w' _ 0 _ _ _ hSw.e).trans rfl
      go_simp
    try simp only [Act.put, List.setIfInBounds_toArray, List.set_cons_zero, List.set_cons_succ]
    refine wpAnyH_take (i := 11) (oi := { dst := some 42, op := Op.load _ (Operand.tmp 41), type := _, pos := "law.go:39", after := #[{ on := 10, ground := Ground.data }, { on := 5, ground := Ground.guard }], guard := some (5, true) }) (v := .int .u8 op) rfl (by kernel_rfl) (by kernel_rfl) (by kernel_rfl) (fun _ _ _ h => h) (Or.inl ⟨by rfl, ?_⟩) hHeld ?_
    · intro w' hSw
      have k0 : w'.cell? ⟨w.heap.size + 1, 0, none⟩ = some (.int .u8 op) := (cell_of_row w' _ 0 _ _ _ hSw.i).trans rfl
      have k1 : w'.cell? ⟨w2.heap.size + 1, 0, none⟩ = some (.int .i64 0) := (cell_of_row w' _ 0 _ _ _ hSw.e).trans rfl
      go_simp
    try simp only [Act.put, List.setIfInBounds_toArray, List.set_cons_zero, List.set_cons_succ]
    refine wpAnyH_ready (rs := [12]) (by kernel_rfl) (by simp) ?_
    refine AllReadyH.cons (o := { dst := some 43, op := Op.call { callee := Callee.value (Operand.func _), args := #[Operand.tmp 40, Operand.tmp 42], argTypes := _ }, type := _, pos := "law.go:39", after := #[{ on := 9, ground := Ground.data }, { on := 11, ground := Ground.data }, { on := 5, ground := Ground.chain }, { on := 5, ground := Ground.guard }], guard := some (5, true) }) rfl (fun K hK => ?_) AllReadyH.nil
    go_simp
    go_at_call 14
    refine (HSi.out _ _ hHeld.tab).mono ?_
    rintro e w4 ⟨rfl, hT4, hG4⟩
    refine hK.out _ _ (hHeld.grown hT4 hG4) (fun hHeld => ?_)
    clear hK K hT4 hG4
    try simp only [Act.put, List.setIfInBounds_toArray, List.set_cons_zero, List.set_cons_succ]
    refine wpAnyH_take (i := 13) (oi := { dst := some 44, op := Op.binOp BinOp.eql _ (Operand.tmp 39) (Operand.tmp 43) _, type := _, pos := "law.go:39", after := #[{ on := 8, ground := Ground.data }, { on := 12, ground := Ground.data }, { on := 5, ground := Ground.guard }], guard := some (5, true) }) (v := .bool true) rfl (by kernel_rfl) (by kernel_rfl) (by kernel_rfl) (fun _ _ _ h => h) (Or.inl ⟨by rfl, ?_⟩) hHeld ?_
    · intro w' hSw
      have k0 : w'.cell? ⟨w.heap.size + 1, 0, none⟩ = some (.int .u8 op) := (cell_of_row w' _ 0 _ _ _ hSw.i).trans rfl
      have k1 : w'.cell? ⟨w2.heap.size + 1, 0, none⟩ = some (.int .i64 0) := (cell_of_row w' _ 0 _ _ _ hSw.e).trans rfl
      go_simp
    try simp only [Act.put, List.setIfInBounds_toArray, List.set_cons_zero, List.set_cons_succ]
    refine wpAnyH_take (i := 14) (oi := { dst := some 45, op := Op.pick (Operand.tmp 36) (Operand.tmp 44) (Operand.const (Value.bool false)), type := _, pos := "law.go:39", after := #[{ on := 5, ground := Ground.data }, { on := 13, ground := Ground.data }], guard := none }) (v := .bool true) rfl (by kernel_rfl) (by kernel_rfl) (by kernel_rfl) (fun _ _ _ h => h) (Or.inl ⟨by rfl, ?_⟩) hHeld ?_
    · intro w' hSw
      have k0 : w'.cell? ⟨w.heap.size + 1, 0, none⟩ = some (.int .u8 op) := (cell_of_row w' _ 0 _ _ _ hSw.i).trans rfl
      have k1 : w'.cell? ⟨w2.heap.size + 1, 0, none⟩ = some (.int .i64 0) := (cell_of_row w' _ 0 _ _ _ hSw.e).trans rfl
      go_simp
    try simp only [Act.put, List.setIfInBounds_toArray, List.set_cons_zero, List.set_cons_succ]
    refine wpAnyH_take (i := 15) (oi := { dst := some 46, op := Op.move (Operand.tmp 45), type := _, pos := "law.go:39", after := #[{ on := 14, ground := Ground.data }, { on := 12, ground := Ground.chain }], guard := none }) (v := .bool true) rfl (by kernel_rfl) (by kernel_rfl) (by kernel_rfl) (fun _ _ _ h => h) (Or.inl ⟨by rfl, ?_⟩) hHeld ?_
    · intro w' hSw
      have k0 : w'.cell? ⟨w.heap.size + 1, 0, none⟩ = some (.int .u8 op) := (cell_of_row w' _ 0 _ _ _ hSw.i).trans rfl
      have k1 : w'.cell? ⟨w2.heap.size + 1, 0, none⟩ = some (.int .i64 0) := (cell_of_row w' _ 0 _ _ _ hSw.e).trans rfl
      go_simp
    try simp only [Act.put, List.setIfInBounds_toArray, List.set_cons_zero, List.set_cons_succ]
    refine wpAnyH_take (i := 16) (oi := { dst := some 47, op := Op.fieldAddr _ (Operand.tmp 9) 0, type := _, pos := "law.go:39", after := #[{ on := 15, ground := Ground.guard }], guard := some (15, true) }) (v := .pointer (some ⟨w2.heap.size + 1, 0, none⟩)) rfl (by kernel_rfl) (by kernel_rfl) (by kernel_rfl) (fun _ _ _ h => h) (Or.inl ⟨by rfl, ?_⟩) hHeld ?_
    · intro w' hSw
      have k0 : w'.cell? ⟨w.heap.size + 1, 0, none⟩ = some (.int .u8 op) := (cell_of_row w' _ 0 _ _ _ hSw.i).trans rfl
      have k1 : w'.cell? ⟨w2.heap.size + 1, 0, none⟩ = some (.int .i64 0) := (cell_of_row w' _ 0 _ _ _ hSw.e).trans rfl
      go_simp
    try simp only [Act.put, List.setIfInBounds_toArray, List.set_cons_zero, List.set_cons_succ]
    refine wpAnyH_take (i := 17) (oi := { dst := some 48, op := Op.load _ (Operand.tmp 47), type := _, pos := "law.go:39", after := #[{ on := 16, ground := Ground.data }, { on := 15, ground := Ground.guard }], guard := some (15, true) }) (v := .int .i64 0) rfl (by kernel_rfl) (by kernel_rfl) (by kernel_rfl) (fun _ _ _ h => h) (Or.inl ⟨by rfl, ?_⟩) hHeld ?_
    · intro w' hSw
      have k0 : w'.cell? ⟨w.heap.size + 1, 0, none⟩ = some (.int .u8 op) := (cell_of_row w' _ 0 _ _ _ hSw.i).trans rfl
      have k1 : w'.cell? ⟨w2.heap.size + 1, 0, none⟩ = some (.int .i64 0) := (cell_of_row w' _ 0 _ _ _ hSw.e).trans rfl
      go_simp
    try simp only [Act.put, List.setIfInBounds_toArray, List.set_cons_zero, List.set_cons_succ]
    refine wpAnyH_take (i := 18) (oi := { dst := some 49, op := Op.binOp BinOp.eql _ (Operand.tmp 48) (Operand.const (Value.int IntKind.i64 0)) _, type := _, pos := "law.go:39", after := #[{ on := 17, ground := Ground.data }, { on := 15, ground := Ground.guard }], guard := some (15, true) }) (v := .bool true) rfl (by kernel_rfl) (by kernel_rfl) (by kernel_rfl) (fun _ _ _ h => h) (Or.inl ⟨by rfl, ?_⟩) hHeld ?_
    · intro w' hSw
      have k0 : w'.cell? ⟨w.heap.size + 1, 0, none⟩ = some (.int .u8 op) := (cell_of_row w' _ 0 _ _ _ hSw.i).trans rfl
      have k1 : w'.cell? ⟨w2.heap.size + 1, 0, none⟩ = some (.int .i64 0) := (cell_of_row w' _ 0 _ _ _ hSw.e).trans rfl
      go_simp
    try simp only [Act.put, List.setIfInBounds_toArray, List.set_cons_zero, List.set_cons_succ]
    refine wpAnyH_take (i := 19) (oi := { dst := some 50, op := Op.move (Operand.tmp 49), type := _, pos := "law.go:39", after := #[{ on := 18, ground := Ground.data }, { on := 15, ground := Ground.chain }, { on := 15, ground := Ground.guard }], guard := some (15, true) }) (v := .bool true) rfl (by kernel_rfl) (by kernel_rfl) (by kernel_rfl) (fun _ _ _ h => h) (Or.inl ⟨by rfl, ?_⟩) hHeld ?_
    · intro w' hSw
      have k0 : w'.cell? ⟨w.heap.size + 1, 0, none⟩ = some (.int .u8 op) := (cell_of_row w' _ 0 _ _ _ hSw.i).trans rfl
      have k1 : w'.cell? ⟨w2.heap.size + 1, 0, none⟩ = some (.int .i64 0) := (cell_of_row w' _ 0 _ _ _ hSw.e).trans rfl
      go_simp
    try simp only [Act.put, List.setIfInBounds_toArray, List.set_cons_zero, List.set_cons_succ]
    refine wpAnyH_take (i := 20) (oi := { dst := some 51, op := Op.load _ (Operand.tmp 8), type := _, pos := "law.go:39", after := #[{ on := 19, ground := Ground.guard }], guard := some (19, false) }) (v := undef) rfl (by kernel_rfl) (by kernel_rfl) (by kernel_rfl) (fun _ _ _ h => h) (Or.inr ⟨by rfl, rfl⟩) hHeld ?_
    try simp only [Act.put, List.setIfInBounds_toArray, List.set_cons_zero, List.set_cons_succ]
    refine wpAnyH_take (i := 21) (oi := { dst := some 52, op := Op.load _ (Operand.tmp 3), type := _, pos := "law.go:39", after := #[{ on := 19, ground := Ground.guard }], guard := some (19, false) }) (v := undef) rfl (by kernel_rfl) (by kernel_rfl) (by kernel_rfl) (fun _ _ _ h => h) (Or.inr ⟨by rfl, rfl⟩) hHeld ?_
    try simp only [Act.put, List.setIfInBounds_toArray, List.set_cons_zero, List.set_cons_succ]
    refine wpAnyH_take (i := 22) (oi := { dst := some 53, op := Op.binOp BinOp.eql _ (Operand.tmp 51) (Operand.tmp 52) _, type := _, pos := "law.go:39", after := #[{ on := 20, ground := Ground.data }, { on := 21, ground := Ground.data }, { on := 19, ground := Ground.guard }], guard := some (19, false) }) (v := undef) rfl (by kernel_rfl) (by kernel_rfl) (by kernel_rfl) (fun _ _ _ h => h) (Or.inr ⟨by rfl, rfl⟩) hHeld ?_
    try simp only [Act.put, List.setIfInBounds_toArray, List.set_cons_zero, List.set_cons_succ]
    refine wpAnyH_take (i := 23) (oi := { dst := some 54, op := Op.pick (Operand.tmp 50) (Operand.const (Value.bool true)) (Operand.tmp 53), type := _, pos := "law.go:39", after := #[{ on := 19, ground := Ground.data }, { on := 22, ground := Ground.data }, { on := 15, ground := Ground.guard }], guard := some (15, true) }) (v := .bool true) rfl (by kernel_rfl) (by kernel_rfl) (by kernel_rfl) (fun _ _ _ h => h) (Or.inl ⟨by rfl, ?_⟩) hHeld ?_
    · intro w' hSw
      have k0 : w'.cell? ⟨w.heap.size + 1, 0, none⟩ = some (.int .u8 op) := (cell_of_row w' _ 0 _ _ _ hSw.i).trans rfl
      have k1 : w'.cell? ⟨w2.heap.size + 1, 0, none⟩ = some (.int .i64 0) := (cell_of_row w' _ 0 _ _ _ hSw.e).trans rfl
      go_simp
    try simp only [Act.put, List.setIfInBounds_toArray, List.set_cons_zero, List.set_cons_succ]
    refine wpAnyH_take (i := 24) (oi := { dst := some 55, op := Op.pick (Operand.tmp 46) (Operand.tmp 54) (Operand.const (Value.bool false)), type := _, pos := "law.go:39", after := #[{ on := 15, ground := Ground.data }, { on := 23, ground := Ground.data }], guard := none }) (v := .bool true) rfl (by kernel_rfl) (by kernel_rfl) (by kernel_rfl) (fun _ _ _ h => h) (Or.inl ⟨by rfl, ?_⟩) hHeld ?_
    · intro w' hSw
      have k0 : w'.cell? ⟨w.heap.size + 1, 0, none⟩ = some (.int .u8 op) := (cell_of_row w' _ 0 _ _ _ hSw.i).trans rfl
      have k1 : w'.cell? ⟨w2.heap.size + 1, 0, none⟩ = some (.int .i64 0) := (cell_of_row w' _ 0 _ _ _ hSw.e).trans rfl
      go_simp
    try simp only [Act.put, List.setIfInBounds_toArray, List.set_cons_zero, List.set_cons_succ]
    refine wpAnyH_take (i := 25) (oi := { dst := some 56, op := Op.move (Operand.tmp 55), type := _, pos := "law.go:39", after := #[{ on := 24, ground := Ground.data }, { on := 19, ground := Ground.chain }], guard := none }) (v := .bool true) rfl (by kernel_rfl) (by kernel_rfl) (by kernel_rfl) (fun _ _ _ h => h) (Or.inl ⟨by rfl, ?_⟩) hHeld ?_
    · intro w' hSw
      have k0 : w'.cell? ⟨w.heap.size + 1, 0, none⟩ = some (.int .u8 op) := (cell_of_row w' _ 0 _ _ _ hSw.i).trans rfl
      have k1 : w'.cell? ⟨w2.heap.size + 1, 0, none⟩ = some (.int .i64 0) := (cell_of_row w' _ 0 _ _ _ hSw.e).trans rfl
      go_simp
    try simp only [Act.put, List.setIfInBounds_toArray, List.set_cons_zero, List.set_cons_succ]
    refine wpAnyH_ready (rs := [26]) (by kernel_rfl) (by simp) ?_
    refine AllReadyH.cons (o := { dst := some 57, op := Op.call { callee := Callee.value (Operand.func _), args := #[], argTypes := _ }, type := _, pos := "law.go:39", after := #[{ on := 25, ground := Ground.chain }, { on := 25, ground := Ground.guard }], guard := some (25, true) }) rfl (fun K hK => ?_) AllReadyH.nil
    go_simp
    go_at_call 11
    refine (HW.out _).mono ?_
    rintro e w5 ⟨rfl, hb5⟩
    refine hK.out _ _ (hHeld.next hb5) (fun hHeld => ?_)
    clear hK K hb5
    try simp only [Act.put, List.setIfInBounds_toArray, List.set_cons_zero, List.set_cons_succ]
    refine wpAnyH_take (i := 27) (oi := { dst := some 58, op := Op.pick (Operand.tmp 56) (Operand.tmp 57) (Operand.const (Value.bool false)), type := _, pos := "law.go:39", after := #[{ on := 25, ground := Ground.data }, { on := 26, ground := Ground.data }], guard := none }) (v := .bool true) rfl (by kernel_rfl) (by kernel_rfl) (by kernel_rfl) (fun _ _ _ h => h) (Or.inl ⟨by rfl, ?_⟩) hHeld ?_
    · intro w' hSw
      have k0 : w'.cell? ⟨w.heap.size + 1, 0, none⟩ = some (.int .u8 op) := (cell_of_row w' _ 0 _ _ _ hSw.i).trans rfl
      have k1 : w'.cell? ⟨w2.heap.size + 1, 0, none⟩ = some (.int .i64 0) := (cell_of_row w' _ 0 _ _ _ hSw.e).trans rfl
      go_simp
    try simp only [Act.put, List.setIfInBounds_toArray, List.set_cons_zero, List.set_cons_succ]
    refine wpAnyH_take (i := 28) (oi := { dst := some 6, op := Op.assign (Operand.tmp 58), type := _, pos := "law.go:39", after := #[{ on := 27, ground := Ground.data }, { on := 26, ground := Ground.chain }, { on := 0, ground := Ground.phase }, { on := 1, ground := Ground.phase }, { on := 2, ground := Ground.phase }, { on := 3, ground := Ground.phase }, { on := 4, ground := Ground.phase }, { on := 5, ground := Ground.phase }, { on := 6, ground := Ground.phase }, { on := 7, ground := Ground.phase }, { on := 8, ground := Ground.phase }, { on := 9, ground := Ground.phase }, { on := 10, ground := Ground.phase }, { on := 11, ground := Ground.phase }, { on := 12, ground := Ground.phase }, { on := 13, ground := Ground.phase }, { on := 14, ground := Ground.phase }, { on := 15, ground := Ground.phase }, { on := 16, ground := Ground.phase }, { on := 17, ground := Ground.phase }, { on := 18, ground := Ground.phase }, { on := 19, ground := Ground.phase }, { on := 20, ground := Ground.phase }, { on := 21, ground := Ground.phase }, { on := 22, ground := Ground.phase }, { on := 23, ground := Ground.phase }, { on := 24, ground := Ground.phase }, { on := 25, ground := Ground.phase }, { on := 26, ground := Ground.phase }, { on := 27, ground := Ground.phase }], guard := none }) (v := .bool true) rfl (by kernel_rfl) (by kernel_rfl) (by kernel_rfl) (fun _ _ _ h => h) (Or.inl ⟨by rfl, ?_⟩) hHeld ?_
    · intro w' hSw
      have k0 : w'.cell? ⟨w.heap.size + 1, 0, none⟩ = some (.int .u8 op) := (cell_of_row w' _ 0 _ _ _ hSw.i).trans rfl
      have k1 : w'.cell? ⟨w2.heap.size + 1, 0, none⟩ = some (.int .i64 0) := (cell_of_row w' _ 0 _ _ _ hSw.e).trans rfl
      go_simp
    try simp only [Act.put, List.setIfInBounds_toArray, List.set_cons_zero, List.set_cons_succ]
    refine wpAnyH_done (by kernel_rfl) ?_ _
    go_wp2_with fail
    go_ret
    exact ⟨rfl, hHeld.below⟩

theorem silent_walk (r0 : Int) (v0 : (Lit.int .u32 r0).wf = true) (r1 : Int) (v1 : (Lit.int .u32 r1).wf = true) (r2 : Int) (v2 : (Lit.int .u32 r2).wf = true) (r3 : Int) (v3 : (Lit.int .u32 r3).wf = true) (r4 : Int) (v4 : (Lit.int .u32 r4).wf = true) (r5 : Int) (v5 : (Lit.int .u32 r5).wf = true) (r6 : Int) (v6 : (Lit.int .u32 r6).wf = true) (r7 : Int) (v7 : (Lit.int .u32 r7).wf = true) (pc : Int) (vp : (Lit.int .u32 pc).wf = true) (ps : Int) (vs : (Lit.int .u32 ps).wf = true) (c0 : Int) (y0 : (Lit.int .u32 c0).wf = true) (c1 : Int) (y1 : (Lit.int .u32 c1).wf = true) (c2 : Int) (y2 : (Lit.int .u32 c2).wf = true) (c3 : Int) (y3 : (Lit.int .u32 c3).wf = true) (c4 : Int) (y4 : (Lit.int .u32 c4).wf = true) (c5 : Int) (y5 : (Lit.int .u32 c5).wf = true) (c6 : Int) (y6 : (Lit.int .u32 c6).wf = true) (c7 : Int) (y7 : (Lit.int .u32 c7).wf = true) (h : Bool) (op : Int) (wo : (Lit.int .u8 op).wf = true) (a : Int) (wa : (Lit.int .u8 a).wf = true) (b : Int) (wb : (Lit.int .u8 b).wf = true) (imm : Int) (wi : (Lit.int .i32 imm).wf = true) (inp : Int) (wn : (Lit.int .u32 inp).wf = true) (w : World) :
    Calls Try.prog 7 #[.agg #[.int .u32 r0, .int .u32 r1, .int .u32 r2, .int .u32 r3, .int .u32 r4, .int .u32 r5, .int .u32 r6, .int .u32 r7, .int .u32 pc, .int .u32 ps, .int .u32 c0, .int .u32 c1, .int .u32 c2, .int .u32 c3, .int .u32 c4, .int .u32 c5, .int .u32 c6, .int .u32 c7, .bool h], .agg #[.int .u8 op, .int .u8 a, .int .u8 b, .int .i32 imm], .int .u32 inp] w fun e w' => e = .returned (.bool true) ∧ Below w.heap.size w w' := by
  obtain ⟨h0, h1⟩ := bd_u8 wo
  obtain ⟨h2, h3⟩ := bd_u8 wa
  obtain ⟨h4, h5⟩ := bd_u8 wb
  obtain ⟨h6, h7⟩ := bd_i32 wi
  obtain ⟨g0, g1⟩ := bd_u32 vp
  obtain ⟨g2, g3⟩ := bd_u32 vs
  exact silent_in (fn8 r0 r1 r2 r3 r4 r5 r6 r7) pc ps (fn8 c0 c1 c2 c3 c4 c5 c6 c7) h op a b imm inp w h0 h1 h2 h3 h4 h5 h6 h7 g0 g1 g2 g3 (fn8_bd v0 v1 v2 v3 v4 v5 v6 v7) (fn8_bd y0 y1 y2 y3 y4 y5 y6 y7)
end Go.Proofs.Ytlgnhjalhfednaa
