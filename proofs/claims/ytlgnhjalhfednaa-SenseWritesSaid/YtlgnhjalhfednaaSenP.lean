/- The walk of SenseWrites. (Written by mkSP.py.) -/
import Derived.Test.YtlgnhjalhfednaaSenM
import Derived.Test.YtlgnhjalhfednaaKindK
import Derived.BigQuiet
import Derived.WalkSmall
import Derived.Deep.QuietTactic
namespace Go.Proofs.Ytlgnhjalhfednaa
open Go.RowKit
set_option linter.unusedSimpArgs false
set_option linter.unusedVariables false

theorem wr_known : (hasB (knownF 96) 65 = true ∧ hasB (knownF 96) 76 = false ∧ hasB (knownF 96) 80 = false) ∧ (hasB (knownF 98) 65 = true ∧ hasB (knownF 98) 76 = false ∧ hasB (knownF 98) 80 = false) ∧ (hasB (knownF 100) 65 = true ∧ hasB (knownF 100) 76 = false ∧ hasB (knownF 100) 80 = false) := by decide +kernel

theorem setW_one (a b : Int) (h0 : 0 ≤ a) (h1 : a < 8) : setWAt true false false a b 3 = ((2 ^ a.toNat : Nat) : Int) := by
  have h : ∀ i : Fin 8, setWAt true false false (i.val : Int) 0 3 = ((2 ^ (i.val : Int).toNat : Nat) : Int) := by decide +kernel
  have e : setWAt true false false a b 3 = setWAt true false false a 0 3 := rfl
  obtain ⟨n, rfl⟩ : ∃ n : Nat, a = (n : Int) := ⟨a.toNat, by omega⟩
  rw [e]
  exact h ⟨n, by omega⟩

theorem updN_same {f : Nat → Int} {j k : Nat} {v : Int} (h : updN f j v k ≠ f k) : k = j := by
  simp only [updN] at h
  split at h
  · assumption
  · exact absurd rfl h

theorem writes_law9 (x : DX) (h : x.okay) : ∃ (r' : Nat → Int) (pc' ps' : Int) (cr' : Nat → Int) (h' : Bool) (c : Int) (fl out : Bool) (po va : Int), doV x = .tuple #[.agg (stA r' pc' ps' cr' h'), .agg #[.int .i64 c, .bool fl, .bool out, .int .i64 po, .int .u32 va]] ∧
    ∀ k, k < 8 → r' k ≠ x.r k → c = 0 ∧ writesF (knownF x.op) (Isa.mayB (Isa.fm x.op true) x.a x.b x.imm) x.a x.b = ((2 ^ k : Nat) : Int) := by
  have hR := fun hm => may_regs h hm
  obtain ⟨r, pc, ps, cr, hh, op, a, b, imm, inp, cause, fl, out, port, val, user⟩ := x
  obtain ⟨⟨s1, s2, s3, s4, s5⟩, -, -, -, a0, -, -, -, -, -, -, -, -⟩ := h
  simp only at s1 s2 s3 s4 s5 a0 hR
  subst s1 s2 s3 s4 s5
  obtain ⟨⟨p1, p2, p3⟩, ⟨q1, q2, q3⟩, ⟨t1, t2, t3⟩⟩ := wr_known
  unfold doV
  simp only
  split
  · exact ⟨r, pc, ps, cr, hh, 1, false, false, 0, 0, rfl, fun k _ e => absurd rfl e⟩
  · rename_i hn
    have hm : Isa.mayB (Isa.fm op false) a b imm = true := by
      cases e : Isa.mayB (Isa.fm op false) a b imm
      · exact absurd (.inr e) hn
      · rfl
    have ra := (hR hm).1.2
    split
    · exact ⟨r, pc, ps, cr, hh, 2, false, false, 0, 0, rfl, fun k _ e => absurd rfl e⟩
    · rename_i hs
      have hc : senseOp op := Classical.byContradiction fun q => hn (.inl q)
      clear hn
      rcases hc with rfl | rfl | rfl | rfl | rfl | rfl | rfl | rfl | rfl
      · exact ⟨_, _, _, _, _, _, _, _, _, _, rfl, fun k _ e => absurd rfl e⟩
      · cases user <;> exact ⟨_, _, _, _, _, _, _, _, _, _, rfl, fun k _ e => absurd rfl e⟩
      · exact ⟨_, _, _, _, _, _, _, _, _, _, rfl, fun k _ e => absurd rfl e⟩
      · refine ⟨updN r a.toNat ps, _, _, _, _, _, _, _, _, _, rfl, fun k _ e => ⟨rfl, ?_⟩⟩
        rw [updN_same e]
        unfold writesF
        rw [show Isa.fm 96 true = Isa.fm 96 false from rfl, hm, if_pos rfl, p1, p2, p3]
        exact setW_one a b a0 ra
      · cases user <;> exact ⟨_, _, _, _, _, _, _, _, _, _, rfl, fun k _ e => absurd rfl e⟩
      · cases user
        · refine ⟨updN r a.toNat (cr b.toNat), _, _, _, _, _, _, _, _, _, rfl, fun k _ e => ⟨rfl, ?_⟩⟩
          rw [updN_same e]
          unfold writesF
          rw [show Isa.fm 98 true = Isa.fm 98 false from rfl, hm, if_pos rfl, q1, q2, q3]
          exact setW_one a b a0 ra
        · refine ⟨updN r a.toNat 0, _, _, _, _, _, _, _, _, _, rfl, fun k _ e => ⟨rfl, ?_⟩⟩
          rw [updN_same e]
          unfold writesF
          rw [show Isa.fm 98 true = Isa.fm 98 false from rfl, hm, if_pos rfl, q1, q2, q3]
          exact setW_one a b a0 ra
      · exact ⟨_, _, _, _, _, _, _, _, _, _, rfl, fun k _ e => absurd rfl e⟩
      · refine ⟨updN r a.toNat inp, _, _, _, _, _, _, _, _, _, rfl, fun k _ e => ⟨rfl, ?_⟩⟩
        rw [updN_same e]
        unfold writesF
        rw [show Isa.fm 100 true = Isa.fm 100 false from rfl, hm, if_pos rfl, t1, t2, t3]
        exact setW_one a b a0 ra
      · exact ⟨_, _, _, _, _, _, _, _, _, _, rfl, fun k _ e => absurd rfl e⟩

/-- The blocks that the walk lays. -/
structure WrS (w : World) (A T I E : Array Value) (b1 : Nat) (w' : World) : Prop where
  a : w'.heap[w.heap.size]? = some (.cells A 25 (0, 0))
  i : w'.heap[w.heap.size + 1]? = some (.cells I 27 (0, 0))
  t : w'.heap[b1]? = some (.cells T 25 (0, 0))
  e : w'.heap[b1 + 1]? = some (.cells E 29 (0, 0))
  below : Below w.heap.size w w'
  size : b1 + 1 < w'.heap.size
  two : w.heap.size + 1 < b1

theorem WrS.next {w w1 w2 : World} {A T I E : Array Value} {b1 : Nat} (h : WrS w A T I E b1 w1) (hb : Below w1.heap.size w1 w2) : WrS w A T I E b1 w2 :=
  ⟨(hb.block _ (by have := h.size; have := h.two; omega)).trans h.a, (hb.block _ (by have := h.size; have := h.two; omega)).trans h.i, (hb.block _ (by have := h.size; omega)).trans h.t, (hb.block _ h.size).trans h.e, h.below.trans (hb.mono (by have := h.size; have := h.two; omega)), Nat.lt_of_lt_of_le h.size hb.size, h.two⟩
theorem WrS.grown {w w1 w2 : World} {A T I E : Array Value} {b1 tb : Nat} (h : WrS w A T I E b1 w1) (hg : w1.grownBy w2 (some tb)) (ht : b1 + 1 < tb) : WrS w A T I E b1 w2 := by
  have hs := h.size
  have h2 := h.two
  exact ⟨(hg.block _ (by omega) (by simp; omega)).trans h.a, (hg.block _ (by omega) (by simp; omega)).trans h.i, (hg.block _ (by omega) (by simp; omega)).trans h.t, (hg.block _ h.size (by simp; omega)).trans h.e, h.below.grown hg h.below.size (fun k hk => by cases hk; omega), Nat.lt_of_lt_of_le h.size hg.size, h.two⟩
theorem WrS.drewN {w w1 : World} {A T I E : Array Value} {b1 : Nat} (h : WrS w A T I E b1 w1) (n : Nat) : WrS w A T I E b1 (w1.drewN n) := ⟨h.a, h.i, h.t, h.e, below_drewN h.below n, h.size, h.two⟩
theorem WrS.drew {w w1 : World} {A T I E : Array Value} {b1 : Nat} (h : WrS w A T I E b1 w1) : WrS w A T I E b1 w1.drew := ⟨h.a, h.i, h.t, h.e, h.below.drew, h.size, h.two⟩

set_option maxRecDepth 100000 in
set_option maxHeartbeats 8000000 in
theorem writes_in (r : Nat → Int) (pc ps : Int) (cr : Nat → Int) (h : Bool) (op a b imm inp : Int) (w : World) (h0 : 0 ≤ op) (h1 : op < 256) (h2 : 0 ≤ a) (h3 : a < 256) (h4 : 0 ≤ b) (h5 : b < 256) (h6 : -2147483648 ≤ imm) (h7 : imm < 2147483648)
    (g0 : 0 ≤ pc) (g1 : pc < 4294967296) (hc : ∀ k, 0 ≤ cr k ∧ cr k < 4294967296) :
    Calls Try.prog 8 #[.agg (stA r pc ps cr h), .agg #[.int .u8 op, .int .u8 a, .int .u8 b, .int .i32 imm], .int .u32 inp] w fun e w' => e = .returned (.bool true) ∧ Below w.heap.size w w' := by
  have hok : DX.okay ⟨r, pc, ps, cr, h, op, a, b, imm, inp, 0, false, false, 0, 0, (bits .and .u32 ps 1 != 0)⟩ := ⟨⟨rfl, rfl, rfl, rfl, rfl⟩, rfl, h0, h1, h2, h3, h4, h5, h6, h7, g0, g1, hc⟩
  obtain ⟨r', pc', ps', cr', h', c, fl, out, po, va, hv, hk⟩ := writes_law9 _ hok
  have hD := fun w => do_c _ hok w
  rw [hv] at hD
  unfold DX.st Isa.insV at hD
  simp only at hD hk
  have HN := Lib.hid new_c
  have hWr := fun (tb : Nat) (w : World) (h : TabIs w tb) (hlt : tb < w.heap.size) => tl_writes (tl_made tb) op a b imm w h h0 h1 h2 h3 h4 h5 h6 h7 (fun k hk => by cases hk; exact hlt)
  unfold Isa.insV at hWr
  have hA : ∀ k, k < 8 → (stA r pc ps cr h)[k]? = some (.int .u32 (r k)) := fun k hk => stA_R r pc ps cr h hk
  have hT : ∀ k, k < 8 → (stA r' pc' ps' cr' h')[k]? = some (.int .u32 (r' k)) := fun k hk => stA_R r' pc' ps' cr' h' hk
  have K0 := stK r pc ps cr h
  have K2 := stK r' pc' ps' cr' h'
  have HW := Lib.hid works_c
  generalize stA r pc ps cr h = A at K0 hA hD ⊢
  generalize stA r' pc' ps' cr' h' = T at K2 hT hD
  generalize writesF (knownF op) (Isa.mayB (Isa.fm op true) a b imm) a b = wv at hWr hk
  have HD := Lib.hid hD
  have HK := Lib.hid hk
  have HA := Lib.hid hA
  have HT := Lib.hid hT
  have HWr := Lib.hid hWr
  have Z1 := Lib.hid K0.1
  have Z2 := Lib.hid K2.1
  have O2 := Lib.hid K2.2.1
  clear hD hk hv hc hA hT hWr K0 K2 hok
  go_enter Try.func8, Try.ntmps8
  go_wp2_with (first
    | ((with_reducible show wpList _ _ _ (Oper.mk _ (.load 25 _) _ _ _ _ :: _) _ _); refine wpList_load_row rfl 25 _ rfl _ rfl 25 _ (0, 0) _ (by refine heap_old' (heap_new' ?_); simp; done) Try.underlying25 rfl (by rw [Z1.out]; kernel_rfl) ?_))
  refine (HD.out _).mono ?_
  rintro e w1 ⟨rfl, hb⟩
  have hs1 : w.heap.size + 1 < w1.heap.size := by have := hb.size; simp at this; omega
  have hB := (below_alloc1 w (.cells A 25)).trans (((below_alloc1 (w.alloc (.cells A 25)) (.cells #[.int .u8 op, .int .u8 a, .int .u8 b, .int .i32 imm] 27)).trans (hb.mono (by simp))).mono (by simp))
  have rA : w1.heap[w.heap.size]? = some (.cells A 25 (0, 0)) := (hb.block _ (by simp; omega)).trans (heap_old' (heap_new' rfl))
  have rI : w1.heap[w.heap.size + 1]? = some (.cells #[.int .u8 op, .int .u8 a, .int .u8 b, .int .i32 imm] 27 (0, 0)) := (hb.block _ (by simp)).trans (heap_new' (by simp))
  have RA := Lib.hid rA
  have RI := Lib.hid rI
  clear hb rA rI
  go_wp2_with (first
    | ((with_reducible show wpList _ _ _ (Oper.mk _ (.store 25 _ _) _ _ _ _ :: _) _ _); refine wpList_store_at rfl 25 _ _ rfl rfl _ T rfl rfl 25 _ (by refine heap_old' (heap_new' ?_); simp; done) (by rw [Z2.out]; kernel_rfl) (by rw [Z2.out]; rfl) O2.out _ (by refine setRow_past _ (setRow_new' _ _ _ _ _ ?_) ?_ <;> simp; done) ?_))
  have HS : Hid (WrS w A T #[.int .u8 op, .int .u8 a, .int .u8 b, .int .i32 imm] #[.int .i64 c, .bool fl, .bool out, .int .i64 po, .int .u32 va] w1.heap.size ((w1.alloc (.cells T 25)).alloc (.cells #[.int .i64 c, .bool fl, .bool out, .int .i64 po, .int .u32 va] 29))) :=
    Lib.hid ⟨heap_old' (heap_old' RA.out), heap_old' (heap_old' RI.out), heap_old' (heap_new' rfl), heap_new' (by simp), (hB.alloc hB.size _).alloc (by have := hB.size; simp; omega) _, by simp, hs1⟩
  generalize (w1.alloc (.cells T 25)).alloc (.cells #[.int .i64 c, .bool fl, .bool out, .int .i64 po, .int .u32 va] 29) = w2 at HS ⊢
  generalize w1.heap.size = b1 at HS ⊢
  clear RA RI hB hs1
  refine wp_region_held_drew (S := fun w' => WrS w A T #[.int .u8 op, .int .u8 a, .int .u8 b, .int .i32 imm] #[.int .i64 c, .bool fl, .bool out, .int .i64 po, .int .u32 va] b1 w') (by kernel_rfl) HS.out.drew (fun hHeld => ?_)
  refine wpAnyH_take (i := 1) (oi := { dst := some 19, op := Op.load _ (Operand.tmp 4), type := _, pos := "law.go:66", after := #[], guard := none }) (v := .agg #[.int .u8 op, .int .u8 a, .int .u8 b, .int .i32 imm]) rfl (by kernel_rfl) (by kernel_rfl) (by kernel_rfl) (fun _ _ _ h => h) (Or.inl ⟨by rfl, ?_⟩) hHeld ?_
  · intro w' hSw
    have k0 := cell_of_row w' _ 0 _ _ _ hSw.i
    have k1 := cell_of_row w' _ 1 _ _ _ hSw.i
    have k2 := cell_of_row w' _ 2 _ _ _ hSw.i
    have k3 := cell_of_row w' _ 3 _ _ _ hSw.i
    simp at k0 k1 k2 k3
    go_simp
  try simp only [Act.put, List.setIfInBounds_toArray, List.set_cons_zero, List.set_cons_succ]
  refine wpAnyH_ready (rs := [0]) (by kernel_rfl) (by simp) ?_
  refine AllReadyH.cons (o := { dst := some 18, op := Op.call { callee := Callee.value (Operand.func _), args := #[], argTypes := _ }, type := _, pos := "law.go:66", after := #[], guard := none }) rfl (fun K hK => ?_) AllReadyH.nil
  go_simp
  go_at_call 12
  refine (HN.out _).mono ?_
  rintro e w3 ⟨rfl, hT1, hs3, hb3⟩
  have hsz : b1 + 1 < w2.drew.heap.size := hHeld.size
  refine hK.out _ _ (hHeld.next hb3) (fun hHeld => ?_)
  clear hK K HS
  try simp only [Act.put, List.setIfInBounds_toArray, List.set_cons_zero, List.set_cons_succ]
  refine wpAnyH_ready (rs := [2]) (by kernel_rfl) (by simp) ?_
  refine AllReadyH.cons (o := { dst := some 20, op := Op.call { callee := Callee.value (Operand.func _), args := #[Operand.tmp 18, Operand.tmp 19], argTypes := _ }, type := _, pos := "law.go:66", after := #[{ on := 0, ground := Ground.data }, { on := 1, ground := Ground.data }, { on := 0, ground := Ground.chain }], guard := none }) rfl (fun K hK => ?_) AllReadyH.nil
  go_simp
  go_at_call 15
  refine (HWr.out _ _ hT1 hs3).mono ?_
  rintro e w4 ⟨rfl, hT2, hG4⟩
  refine hK.out _ _ (hHeld.grown hG4 hsz) (fun hHeld => ?_)
  clear hK K hb3 hT2 hG4 hT1
  try simp only [Act.put, List.setIfInBounds_toArray, List.set_cons_zero, List.set_cons_succ]
  refine wpAnyH_take (i := 3) (oi := { dst := some 9, op := Op.assign (Operand.tmp 20), type := _, pos := "law.go:66", after := #[{ on := 2, ground := Ground.data }, { on := 2, ground := Ground.chain }, { on := 0, ground := Ground.phase }, { on := 1, ground := Ground.phase }, { on := 2, ground := Ground.phase }], guard := none }) (v := .int .u8 wv) rfl (by kernel_rfl) (by kernel_rfl) (by kernel_rfl) (fun _ _ _ h => h) (Or.inl ⟨by rfl, ?_⟩) hHeld ?_
  · intro w' hSw
    have k0 := cell_of_row w' _ 0 _ _ _ hSw.i
    have k1 := cell_of_row w' _ 1 _ _ _ hSw.i
    have k2 := cell_of_row w' _ 2 _ _ _ hSw.i
    have k3 := cell_of_row w' _ 3 _ _ _ hSw.i
    simp at k0 k1 k2 k3
    go_simp
  try simp only [Act.put, List.setIfInBounds_toArray, List.set_cons_zero, List.set_cons_succ]
  refine wpAnyH_done (by kernel_rfl) ?_ _
  have HS4 := Lib.hid hHeld
  clear hHeld hsz hs3
  go_wp2_with fail
  go_loopg [10] 8 (fun gk vn wr => ∃ k : Nat, gk + k = 8 ∧ vn = .int .i64 (k : Int) ∧ Hid (WrS w A T #[.int .u8 op, .int .u8 a, .int .u8 b, .int .i32 imm] #[.int .i64 c, .bool fl, .bool out, .int .i64 po, .int .u32 va] b1 wr))
  case atStart => exact ⟨0, rfl, rfl, HS4⟩
  case round =>
    obtain ⟨k, hk, rfl, HSr⟩ := hrel
    clear HS4
    by_cases c1 : k < 8
    · have i1 : (k : Int) < 8 := by omega
      have ca := (cell_of_row wr _ k _ _ _ HSr.out.a).trans (HA.out k c1)
      have ct := (cell_of_row wr _ k _ _ _ HSr.out.t).trans (HT.out k c1)
      have ce : wr.cell? ⟨b1 + 1, 0, none⟩ = some (.int .i64 c) := (cell_of_row wr _ 0 _ _ _ HSr.out.e).trans rfl
      by_cases c2 : r' k = r k
      · have e2 : (r' k != r k) = false := by simp [c2]
        clear c2
        go_wp2_with fail
        go_quiet (fail)
        go_wp2_with fail
        go_roundg (gk - 1)
        case measure => omega
        case rel => exact ⟨k + 1, by omega, rfl, Lib.hid (HSr.out.drewN _)⟩
      · obtain ⟨rfl, rfl⟩ := HK.out k c1 c2
        have hk8 : k = 0 ∨ k = 1 ∨ k = 2 ∨ k = 3 ∨ k = 4 ∨ k = 5 ∨ k = 6 ∨ k = 7 := by omega
        rcases hk8 with rfl | rfl | rfl | rfl | rfl | rfl | rfl | rfl
        all_goals
          have e2 : (r' _ != r _) = true := bne_iff_ne.2 c2
          clear c2
          go_wp2_with fail
          go_quiet (fail)
          go_wp2_with fail
          go_roundg (gk - 1)
          case measure => omega
          case rel => exact ⟨_ + 1, by omega, rfl, Lib.hid (HSr.out.drewN _)⟩
    · have i1 : ¬ (k : Int) < 8 := by omega
      go_wp2_with fail
      refine (HW.out _).mono ?_
      rintro e w5 ⟨rfl, hb5⟩
      go_wp2_with fail
      go_ret
      exact ⟨rfl, HSr.out.below.trans (hb5.mono (HSr.out.below.size))⟩

theorem writes_walk (r0 : Int) (v0 : (Lit.int .u32 r0).wf = true) (r1 : Int) (v1 : (Lit.int .u32 r1).wf = true) (r2 : Int) (v2 : (Lit.int .u32 r2).wf = true) (r3 : Int) (v3 : (Lit.int .u32 r3).wf = true) (r4 : Int) (v4 : (Lit.int .u32 r4).wf = true) (r5 : Int) (v5 : (Lit.int .u32 r5).wf = true) (r6 : Int) (v6 : (Lit.int .u32 r6).wf = true) (r7 : Int) (v7 : (Lit.int .u32 r7).wf = true) (pc : Int) (vp : (Lit.int .u32 pc).wf = true) (ps : Int) (vs : (Lit.int .u32 ps).wf = true) (c0 : Int) (y0 : (Lit.int .u32 c0).wf = true) (c1 : Int) (y1 : (Lit.int .u32 c1).wf = true) (c2 : Int) (y2 : (Lit.int .u32 c2).wf = true) (c3 : Int) (y3 : (Lit.int .u32 c3).wf = true) (c4 : Int) (y4 : (Lit.int .u32 c4).wf = true) (c5 : Int) (y5 : (Lit.int .u32 c5).wf = true) (c6 : Int) (y6 : (Lit.int .u32 c6).wf = true) (c7 : Int) (y7 : (Lit.int .u32 c7).wf = true) (h : Bool) (op : Int) (wo : (Lit.int .u8 op).wf = true) (a : Int) (wa : (Lit.int .u8 a).wf = true) (b : Int) (wb : (Lit.int .u8 b).wf = true) (imm : Int) (wi : (Lit.int .i32 imm).wf = true) (inp : Int) (wn : (Lit.int .u32 inp).wf = true) (w : World) :
    Calls Try.prog 8 #[.agg #[.int .u32 r0, .int .u32 r1, .int .u32 r2, .int .u32 r3, .int .u32 r4, .int .u32 r5, .int .u32 r6, .int .u32 r7, .int .u32 pc, .int .u32 ps, .int .u32 c0, .int .u32 c1, .int .u32 c2, .int .u32 c3, .int .u32 c4, .int .u32 c5, .int .u32 c6, .int .u32 c7, .bool h], .agg #[.int .u8 op, .int .u8 a, .int .u8 b, .int .i32 imm], .int .u32 inp] w fun e w' => e = .returned (.bool true) ∧ Below w.heap.size w w' := by
  obtain ⟨h0, h1⟩ := bd_u8 wo
  obtain ⟨h2, h3⟩ := bd_u8 wa
  obtain ⟨h4, h5⟩ := bd_u8 wb
  obtain ⟨h6, h7⟩ := bd_i32 wi
  obtain ⟨g0, g1⟩ := bd_u32 vp
  exact writes_in (fn8 r0 r1 r2 r3 r4 r5 r6 r7) pc ps (fn8 c0 c1 c2 c3 c4 c5 c6 c7) h op a b imm inp w h0 h1 h2 h3 h4 h5 h6 h7 g0 g1 (fn8_bd y0 y1 y2 y3 y4 y5 y6 y7)
end Go.Proofs.Ytlgnhjalhfednaa
