/- The walk of SenseUnlike. (Written by mkSW.py.) -/
import Derived.Test.YtlgnhjalhfednaaSenV
import Derived.Great.Walk
import Derived.Deep.RegionHeld
namespace Go.Proofs.Ytlgnhjalhfednaa
open Go.RowKit
set_option linter.unusedSimpArgs false
set_option linter.unusedVariables false
set_option maxRecDepth 100000

/-- The five instructions' cells. -/
def lU (x y : Int) : Array Value := #[.int .u8 2, .int .u8 0, .int .u8 0, .int .i32 0, .int .u8 3, .int .u8 0, .int .u8 0, .int .i32 0, .int .u8 96, .int .u8 x, .int .u8 0, .int .i32 0, .int .u8 97, .int .u8 x, .int .u8 0, .int .i32 0, .int .u8 98, .int .u8 x, .int .u8 y, .int .i32 0]
theorem lU_at (x y : Int) (k : Nat) (h : k < 5) : (lU x y)[k * 4]? = some (.int .u8 (insU x y k).1) ∧ (lU x y)[k * 4 + 1]? = some (.int .u8 (insU x y k).2.1) ∧ (lU x y)[k * 4 + 2]? = some (.int .u8 (insU x y k).2.2) ∧ (lU x y)[k * 4 + 3]? = some (.int .i32 0) := by
  have : k = 0 ∨ k = 1 ∨ k = 2 ∨ k = 3 ∨ k = 4 := by omega
  rcases this with rfl | rfl | rfl | rfl | rfl <;> exact ⟨rfl, rfl, rfl, rfl⟩

/-- The blocks that the loop reads. -/
structure UlS (w : World) (S U L : Array Value) (w' : World) : Prop where
  s : w'.heap[w.heap.size]? = some (.cells S 25 (0, 0))
  u : w'.heap[w.heap.size + 1]? = some (.cells U 25 (0, 0))
  l : w'.heap[w.heap.size + 1 + 1]? = some (.cells L 27 (0, 0))
  below : Below w.heap.size w w'
  size : w.heap.size + 1 + 1 < w'.heap.size
theorem UlS.next {w w1 w2 : World} {S U L : Array Value} (h : UlS w S U L w1) (hb : Below w1.heap.size w1 w2) : UlS w S U L w2 :=
  have hs := h.size
  ⟨(hb.block _ (by omega)).trans h.s, (hb.block _ (by omega)).trans h.u, (hb.block _ (by omega)).trans h.l, h.below.trans (hb.mono (by omega)), Nat.lt_of_lt_of_le h.size hb.size⟩
theorem UlS.drew {w w1 : World} {S U L : Array Value} (h : UlS w S U L w1) : UlS w S U L w1.drew := ⟨h.s, h.u, h.l, h.below.drew, h.size⟩
theorem UlS.row {w w1 : World} {S U L : Array Value} (h : UlS w S U L w1) (b : Nat) (c : Array Value) (hb : w.heap.size + 1 + 1 < b) : UlS w S U L (w1.setRow b c) :=
  ⟨(setRow_other _ _ _ _ (by omega)).trans h.s, (setRow_other _ _ _ _ (by omega)).trans h.u, (setRow_other _ _ _ _ (by omega)).trans h.l, ⟨h.below.os, h.below.tape, h.below.output, by simpa [World.setRow] using h.below.size, fun j hj => (setRow_other _ _ _ _ (by omega)).trans (h.below.block j hj)⟩, by simpa [World.setRow] using h.size⟩
theorem UlS.cellS {w w1 : World} {S U L : Array Value} (h : UlS w S U L w1) (b j : Nat) (v : Value) (hb : w.heap.size + 1 + 1 < b) : UlS w S U L (w1.setCell ⟨b, j, none⟩ v) :=
  have hk : ∀ k, k ≠ b → (w1.setCell ⟨b, j, none⟩ v).heap[k]? = w1.heap[k]? := fun k hk => Below.heap_setCell w1 ⟨b, j, none⟩ _ k hk
  ⟨(hk _ (by omega)).trans h.s, (hk _ (by omega)).trans h.u, (hk _ (by omega)).trans h.l, h.below.setCell (by simp; omega) _, by have := h.size; simpa using this⟩

/-- The blocks that stay, and further rows. -/
structure UlX (w : World) (S U L : Array Value) (X : List (Nat × Obj)) (w' : World) : Prop where
  base : UlS w S U L w'
  rows : ∀ p ∈ X, w'.heap[p.1]? = some p.2
theorem UlX.next {w w1 w2 : World} {S U L : Array Value} {X : List (Nat × Obj)} (h : UlX w S U L X w1) (hb : Below w1.heap.size w1 w2) : UlX w S U L X w2 :=
  ⟨h.base.next hb, fun p hp => (hb.block _ (Array.getElem?_eq_some_iff.1 (h.rows p hp)).1).trans (h.rows p hp)⟩
theorem UlX.drew {w w1 : World} {S U L : Array Value} {X : List (Nat × Obj)} (h : UlX w S U L X w1) : UlX w S U L X w1.drew := ⟨h.base.drew, h.rows⟩
theorem UlX.row {w w1 : World} {S U L : Array Value} {X : List (Nat × Obj)} (h : UlX w S U L X w1) (b : Nat) (c : Array Value) (hb : w.heap.size + 1 + 1 < b) (hX : ∀ p ∈ X, p.1 ≠ b) : UlX w S U L X (w1.setRow b c) :=
  ⟨h.base.row b c hb, fun p hp => (setRow_other _ _ _ _ (hX p hp)).trans (h.rows p hp)⟩

theorem wpList_load_rowG {P : Program} {ops : Array Oper} {rest : List Oper} {o : Oper} {a : Act} {w : World} {Q : Exit → Act → World → Prop} (hw : Region.wanted o (yielded ops a.tmps) = true) (ty : TypeId) (x : Operand) (ho : o.op = .load ty x)
    (g : Nat) (hx : a.eval x = .pointer (some ⟨g, 0, none⟩)) (t : TypeId) (cs : Array Value) (fr : Nat × Nat) (d : TypeDesc) (hg : w.heap[g]? = some (.cells cs t fr))
    (hu : P.underlying ty = some d) (hd : (match d with | .struct _ | .array _ _ => true | _ => false) = true) (hi : (P.info? ty).map (·.size) = some cs.size)
    (h : wpList P ops Q rest (a.put o.dst (.agg cs)) w) : wpList P ops Q (o :: rest) a w := by
  unfold wpList
  rw [if_pos hw]
  exact .inl (wp_load_row ty x ho g hx t cs fr d hg hu hd hi h)

theorem row_setCu {w : World} {b : Nat} {A : Array Value} {t : TypeId} {f : Nat × Nat} (h : w.heap[b]? = some (.cells A t f)) (j : Nat) (v : Value) : (w.setCell ⟨b, j, none⟩ v).heap[b]? = some (.cells (A.setIfInBounds j v) t f) := by
  unfold World.setCell
  simp only
  rw [Array.getElem?_modify, if_pos rfl, h]
  rfl
theorem row_setOu {w : World} {b c : Nat} {o : Obj} (h : w.heap[b]? = some o) (hc : b ≠ c) (j : Nat) (v : Value) : (w.setCell ⟨c, j, none⟩ v).heap[b]? = some o := (Below.heap_setCell w ⟨c, j, none⟩ _ b hc).trans h
theorem row_freeu {w : World} {b : Nat} {A : Array Value} {t : TypeId} (h : w.heap[b]? = some (.cells A t (0, 0))) (j : Nat) : w.frozen? ⟨b, j, none⟩ = false := by simp [World.frozen?, h]
/-- A post that asks a plain end. -/
def OnlyN (R : Act → World → Prop) : Exit → Act → World → Prop
  | .normal, a, w => R a w
  | _, _, _ => False
theorem wp_splitN {P : Program} {c : Code} {Q : Exit → Act → World → Prop} {a : Act} {w : World} (R : Act → Act → World → Prop) (h1 : c.wp P (OnlyN (R a)) a w) (h2 : ∀ a' w', R a a' w' → Q .normal a' w') : c.wp P Q a w :=
  Code.wp_mono (fun e a' w' h => by
    cases e with
    | normal => exact h2 _ _ h
    | _ => exact h.elim) h1
theorem wp_split {P : Program} {c : Code} {Q : Exit → Act → World → Prop} {a : Act} {w : World} (R : Act → Act → World → Prop) (h1 : c.wp P (fun e a' w' => e = .normal ∧ R a a' w') a w) (h2 : ∀ a' w', R a a' w' → Q .normal a' w') : c.wp P Q a w :=
  Code.wp_mono (fun e a' w' h => by obtain ⟨rfl, hr⟩ := h; exact h2 _ _ hr) h1
theorem yields_stU {ops : Array Oper} {Sp : World → Prop} {op : Oper} {a : Act} (hw : Region.wanted op (yielded ops a.tmps) = true) (x : Operand) (ho : op.op = .load 25 x)
    (b : Nat) (hx : a.eval x = .pointer (some ⟨b, 0, none⟩)) (cs : Array Value) (hs : cs.size = 19) (hS : ∀ w, Sp w → w.heap[b]? = some (.cells cs 25 (0, 0))) : YieldsIf Try.prog ops Sp op (.agg cs) a :=
  .inl ⟨hw, fun w hw' => by
    unfold execOp
    simp only [ho, Instr.loadAt, Instr.sureAddr, hx, Sem.run_bind, Sem.run_pure, Result.andThen_ok, run_loadVar_row w b 25 25 cs (0, 0) _ (hS w hw') Try.underlying25 rfl (by rw [hs]; kernel_rfl)]⟩

set_option maxHeartbeats 8000000 in
theorem unlike_walk (a : Int) (wa : (Lit.int .u8 a).wf = true) (b : Int) (wb : (Lit.int .u8 b).wf = true) (w : World) :
    Calls Try.prog 5 #[.int .u8 a, .int .u8 b] w fun e w' => e = .returned (.bool true) ∧ Below w.heap.size w w' := by
  obtain ⟨h2, h3⟩ := bd_u8 wa
  obtain ⟨h4, h5⟩ := bd_u8 wb
  have xa : 0 ≤ a % 8 ∧ a % 8 < 8 := by omega
  have xb : 0 ≤ b % 8 ∧ b % 8 < 8 := by omega
  have nk : (a % 8).toNat < 8 := by omega
  have nj : (b % 8).toNat < 8 := by omega
  have HU := Lib.hid (ul_all (a % 8) (b % 8) xa xb)
  have HLc := Lib.hid (lU_at (a % 8) (b % 8))
  have HW := Lib.hid works_c
  obtain ⟨R0, hR0⟩ : ∃ R, R = stA z0f 40 2 z0f false := ⟨_, rfl⟩
  obtain ⟨S, hS⟩ : ∃ R, R = sU (b % 8).toNat := ⟨_, rfl⟩
  obtain ⟨U, hU⟩ : ∃ R, R = uU (b % 8).toNat := ⟨_, rfl⟩
  obtain ⟨R2, hR2⟩ : ∃ R, R = stA z0f 40 2 (updN z0f (b % 8).toNat 9) false := ⟨_, rfl⟩
  have HR1 := Lib.hid (show R0.setIfInBounds (a % 8).toNat (.int .u32 0) = R0 by
    rw [hR0, stA_setR _ _ _ _ _ nk]; congr 1; funext j; simp only [updN, z0f]; split <;> rfl)
  have HR2 := Lib.hid (show R0.setIfInBounds (10 + (b % 8).toNat) (.int .u32 9) = R2 by rw [hR0, hR2, stA_setC _ _ _ _ _ nj])
  have HR3 := Lib.hid (show R2.setIfInBounds 12 (.int .u32 7) = S by rw [hR2, hS]; exact stA_setC z0f 40 2 _ false (k := 2) (by decide) 7)
  have HSU := Lib.hid (show S.setIfInBounds 9 (.int .u32 3) = U by rw [hS, hU]; rfl)
  have f1 : R0[(a % 8).toNat]? = some (.int .u32 0) := by rw [hR0, stA_R _ _ _ _ _ nk]; rfl
  have f2 : (R0.setIfInBounds (a % 8).toNat (.int .u32 0))[10 + (b % 8).toNat]? = some (.int .u32 0) := by rw [HR1.out, hR0, stA_C _ _ _ _ _ nj]; rfl
  have f3 : ((R0.setIfInBounds (a % 8).toNat (.int .u32 0)).setIfInBounds (10 + (b % 8).toNat) (.int .u32 9))[12]? = some (.int .u32 (updN z0f (b % 8).toNat 9 2)) := by rw [HR1.out, HR2.out, hR2]; rfl
  have f4 : S[9]? = some (.int .u32 2) := by rw [hS]; rfl
  have hb0 : Try.prog.built 25 [(1, .int .u32 40), (2, .int .u32 2)] = some R0 := by rw [hR0]; kernel_rfl
  have HB0 := Lib.hid hb0
  have o21 : bits .or .u32 2 1 = 3 := by decide +kernel
  have z0 : R0.size = 19 := by rw [hR0]; rfl
  have zS : S.size = 19 := by rw [hS]; rfl
  have oS : S.all (·.oneCell') = true := by rw [hS]; simp [sU, stA, Value.oneCell']
  have oR : R0.all (·.oneCell') = true := by rw [hR0]; simp [stA, Value.oneCell']
  have zU : U.size = 19 := by rw [hU]; rfl
  have Z0 := Lib.hid z0
  have ZS := Lib.hid zS
  have OS := Lib.hid oS
  have OR := Lib.hid oR
  have HSe := Lib.hid hS
  have HUe := Lib.hid hU
  have ZU := Lib.hid zU
  clear hR0 hS hU hR2 hb0 z0 zS oS oR zU
  go_enter Try.func5, Try.ntmps5
  go_wp2_with (first
    | ((with_reducible show wpList _ _ _ (Oper.mk _ (.build 25 _) _ _ _ _ :: _) _ _); refine wpList_buildTo rfl 25 _ rfl _ rfl R0 ?hbuilt ?_)
    | ((with_reducible show wpList _ _ _ (Oper.mk _ (.store 25 _ _) _ _ _ _ :: _) _ _); refine wpList_store_at rfl 25 _ _ rfl rfl _ R0 rfl rfl 25 _ (by exact heap_new' rfl) (by rw [Z0.out]; kernel_rfl) (by rw [Z0.out]; rfl) OR.out _ (by exact setRow_new' _ _ _ _ _ rfl) ?_)
    | ((with_reducible show wpList _ _ _ (Oper.mk _ (.store 25 _ _) _ _ _ _ :: _) _ _); refine wpList_store_at rfl 25 _ _ rfl rfl _ S rfl rfl 25 _ (by exact heap_new' (by simp)) (by rw [ZS.out]; kernel_rfl) (by rw [ZS.out]; rfl) OS.out _ (by exact setRow_new' _ _ _ _ _ (by simp)) ?_)
    | ((with_reducible show wpList _ _ _ (Oper.mk _ (.load 25 _) _ _ _ _ :: _) _ _); refine wpList_load_row rfl 25 _ rfl _ rfl 25 S (0, 0) _ (by rw [HR1.out, HR2.out, HR3.out]; exact heap_new' rfl) Try.underlying25 rfl (by rw [ZS.out]; kernel_rfl) ?_))
  case hbuilt => exact HB0.out
  have HS : Hid (UlS w S U (lU (a % 8) (b % 8)) ((((w.alloc (.cells S 25))).alloc (.cells U 25)).alloc (.cells (lU (a % 8) (b % 8)) 27))) :=
    Lib.hid ⟨heap_old' (heap_old' (heap_new' rfl)), heap_old' (heap_new' (by simp)), heap_new' (by simp), ((below_alloc1 w _).alloc (by simp) _).alloc (by simp; omega) _, by simp⟩
  rw [HR1.out, HR2.out, HR3.out, HSU.out]
  unfold lU at HS
  generalize ((w.alloc (.cells S 25)).alloc (.cells U 25)).alloc (.cells #[.int .u8 2, .int .u8 0, .int .u8 0, .int .i32 0, .int .u8 3, .int .u8 0, .int .u8 0, .int .i32 0, .int .u8 96, .int .u8 (a % 8), .int .u8 0, .int .i32 0, .int .u8 97, .int .u8 (a % 8), .int .u8 0, .int .i32 0, .int .u8 98, .int .u8 (a % 8), .int .u8 (b % 8), .int .i32 0] 27) = w0 at HS ⊢
  have HS : Hid (UlS w S U (lU (a % 8) (b % 8)) w0) := HS
  clear f1 f2 f3 f4 HB0 HR1 HR2 HR3 HSU
  have zS := ZS.out
  have zU := ZU.out
  go_loopg [10] 5 (fun gk vn wr => ∃ k : Nat, gk + k = 5 ∧ vn = .int .i64 (k : Int) ∧ Hid (UlS w S U (lU (a % 8) (b % 8)) wr))
  case atStart => exact ⟨0, rfl, rfl, HS⟩
  case round =>
    obtain ⟨k, hk, rfl, HSr⟩ := hrel
    clear HS
    by_cases c1 : k < 5
    · have i1 : (k : Int) < 5 := by omega
      obtain ⟨l0, l1, l2, l3⟩ := HLc.out k c1
      obtain ⟨T, V, V2, pv, f, g, β, hK⟩ := HU.out k
      generalize (insU (a % 8) (b % 8) k).1 = op at l0 hK
      generalize (insU (a % 8) (b % 8) k).2.1 = ia at l1 hK
      generalize (insU (a % 8) (b % 8) k).2.2 = ib at l2 hK
      have l0 := Lib.hid l0
      have l1 := Lib.hid l1
      have l2 := Lib.hid l2
      have l3 := Lib.hid l3
      have hd1 := hK.d1
      have hd2 := hK.d2
      rw [← HSe.out] at hd1
      rw [← HUe.out] at hd2
      have D1 := Lib.hid hd1
      have D2 := Lib.hid hd2
      have C9 := Lib.hid hK.c9
      have SET := Lib.hid hK.set
      have Z2 := Lib.hid hK.z2
      have EQ := Lib.hid hK.eq
      have DIF := Lib.hid hK.dif
      clear hd1 hd2
      have ZT := Lib.hid hK.zT
      have OT := Lib.hid hK.oT
      have ZV := Lib.hid hK.zV
      have OV := Lib.hid hK.oV
      clear hK
      go_wp2_with fail
      refine wp_splitN (fun a0 a' w' => ∃ ba be : Nat, a' = (((((((((((a0.put (some 50) (.agg S)).put (some 51) (.slice (some ⟨w.heap.size + 1 + 1, 0, none⟩) 5 5)).put (some 52) (.int .i64 (k : Int))).put (some 53) (.pointer (some ⟨w.heap.size + 1 + 1, k * 4, none⟩))).put (some 54) (.agg #[.int .u8 op, .int .u8 ia, .int .u8 ib, .int .i32 0])).put (some 55) (.tuple #[.agg T, .agg (efU f)])).put (some 49) (.tuple #[.agg T, .agg (efU f)])).put (some 56) (.agg T)).put (some 57) (.agg ((efU f)))).put (some 11) (.pointer (some ⟨ba, 0, none⟩))).put (some 12) (.pointer (some ⟨be, 0, none⟩))) ∧ UlX w S U (lU (a % 8) (b % 8)) [] w' ∧ w'.heap[ba]? = some (.cells T 25 (0, 0)) ∧ w'.heap[be]? = some (.cells ((efU f)) 29 (0, 0)) ∧ ba ≠ be ∧ w.heap.size + 1 + 1 < ba ∧ w.heap.size + 1 + 1 < be) ?_ ?_
      · refine wp_region_held_drew (S := fun w' => UlX w S U (lU (a % 8) (b % 8)) [] w') (by kernel_rfl) (UlX.drew ⟨HSr.out, fun p hp => by cases hp⟩) (fun hHeld => ?_)
        have sz : w.heap.size < wr.drew.heap.size := by have := hHeld.base.size; omega
        generalize wr.drew = v12 at hHeld sz ⊢
        refine wpAnyH_take (i := 0) (oi := { dst := some 50, op := Op.load _ (Operand.tmp 7), type := _, pos := "law.go:53", after := #[], guard := none }) (v := .agg S) rfl (by kernel_rfl) (by kernel_rfl) (by kernel_rfl) (fun _ _ _ h => h) (yields_stU (by rfl) _ rfl (w.heap.size) rfl S zS (fun w' h => h.base.s)) hHeld ?_
        try simp only [Act.put, List.setIfInBounds_toArray, List.set_cons_zero, List.set_cons_succ]
        refine wpAnyH_take (i := 1) (oi := { dst := some 51, op := Op.move (Operand.tmp 9), type := _, pos := "law.go:53", after := #[], guard := none }) (v := .slice (some ⟨w.heap.size + 1 + 1, 0, none⟩) 5 5) rfl (by kernel_rfl) (by kernel_rfl) (by kernel_rfl) (fun _ _ _ h => h) (Or.inl ⟨by rfl, ?_⟩) hHeld ?_
        · intro w' hSw
          have k0 : w'.cell? ⟨w.heap.size + 1 + 1, k * 4, none⟩ = some (.int .u8 op) := (cell_of_row w' _ _ _ _ _ hSw.base.l).trans l0.out
          have k1 : w'.cell? ⟨w.heap.size + 1 + 1, k * 4 + 1, none⟩ = some (.int .u8 ia) := (cell_of_row w' _ _ _ _ _ hSw.base.l).trans l1.out
          have k2 : w'.cell? ⟨w.heap.size + 1 + 1, k * 4 + 2, none⟩ = some (.int .u8 ib) := (cell_of_row w' _ _ _ _ _ hSw.base.l).trans l2.out
          have k3 : w'.cell? ⟨w.heap.size + 1 + 1, k * 4 + 3, none⟩ = some (.int .i32 0) := (cell_of_row w' _ _ _ _ _ hSw.base.l).trans l3.out
          go_simp
        try simp only [Act.put, List.setIfInBounds_toArray, List.set_cons_zero, List.set_cons_succ]
        refine wpAnyH_take (i := 2) (oi := { dst := some 52, op := Op.move (Operand.tmp 10), type := _, pos := "law.go:53", after := #[], guard := none }) (v := .int .i64 (k : Int)) rfl (by kernel_rfl) (by kernel_rfl) (by kernel_rfl) (fun _ _ _ h => h) (Or.inl ⟨by rfl, ?_⟩) hHeld ?_
        · intro w' hSw
          have k0 : w'.cell? ⟨w.heap.size + 1 + 1, k * 4, none⟩ = some (.int .u8 op) := (cell_of_row w' _ _ _ _ _ hSw.base.l).trans l0.out
          have k1 : w'.cell? ⟨w.heap.size + 1 + 1, k * 4 + 1, none⟩ = some (.int .u8 ia) := (cell_of_row w' _ _ _ _ _ hSw.base.l).trans l1.out
          have k2 : w'.cell? ⟨w.heap.size + 1 + 1, k * 4 + 2, none⟩ = some (.int .u8 ib) := (cell_of_row w' _ _ _ _ _ hSw.base.l).trans l2.out
          have k3 : w'.cell? ⟨w.heap.size + 1 + 1, k * 4 + 3, none⟩ = some (.int .i32 0) := (cell_of_row w' _ _ _ _ _ hSw.base.l).trans l3.out
          go_simp
        try simp only [Act.put, List.setIfInBounds_toArray, List.set_cons_zero, List.set_cons_succ]
        refine wpAnyH_take (i := 3) (oi := { dst := some 53, op := Op.indexAddr _ (Operand.tmp 51) (Operand.tmp 52), type := _, pos := "law.go:53", after := #[{ on := 1, ground := Ground.data }, { on := 2, ground := Ground.data }], guard := none }) (v := .pointer (some ⟨w.heap.size + 1 + 1, k * 4, none⟩)) rfl (by kernel_rfl) (by kernel_rfl) (by kernel_rfl) (fun _ _ _ h => h) (Or.inl ⟨by rfl, ?_⟩) hHeld ?_
        · intro w' hSw
          have k0 : w'.cell? ⟨w.heap.size + 1 + 1, k * 4, none⟩ = some (.int .u8 op) := (cell_of_row w' _ _ _ _ _ hSw.base.l).trans l0.out
          have k1 : w'.cell? ⟨w.heap.size + 1 + 1, k * 4 + 1, none⟩ = some (.int .u8 ia) := (cell_of_row w' _ _ _ _ _ hSw.base.l).trans l1.out
          have k2 : w'.cell? ⟨w.heap.size + 1 + 1, k * 4 + 2, none⟩ = some (.int .u8 ib) := (cell_of_row w' _ _ _ _ _ hSw.base.l).trans l2.out
          have k3 : w'.cell? ⟨w.heap.size + 1 + 1, k * 4 + 3, none⟩ = some (.int .i32 0) := (cell_of_row w' _ _ _ _ _ hSw.base.l).trans l3.out
          go_simp
        try simp only [Act.put, List.setIfInBounds_toArray, List.set_cons_zero, List.set_cons_succ]
        refine wpAnyH_take (i := 4) (oi := { dst := some 54, op := Op.load _ (Operand.tmp 53), type := _, pos := "law.go:53", after := #[{ on := 3, ground := Ground.data }], guard := none }) (v := .agg #[.int .u8 op, .int .u8 ia, .int .u8 ib, .int .i32 0]) rfl (by kernel_rfl) (by kernel_rfl) (by kernel_rfl) (fun _ _ _ h => h) (Or.inl ⟨by rfl, ?_⟩) hHeld ?_
        · intro w' hSw
          have k0 : w'.cell? ⟨w.heap.size + 1 + 1, k * 4, none⟩ = some (.int .u8 op) := (cell_of_row w' _ _ _ _ _ hSw.base.l).trans l0.out
          have k1 : w'.cell? ⟨w.heap.size + 1 + 1, k * 4 + 1, none⟩ = some (.int .u8 ia) := (cell_of_row w' _ _ _ _ _ hSw.base.l).trans l1.out
          have k2 : w'.cell? ⟨w.heap.size + 1 + 1, k * 4 + 2, none⟩ = some (.int .u8 ib) := (cell_of_row w' _ _ _ _ _ hSw.base.l).trans l2.out
          have k3 : w'.cell? ⟨w.heap.size + 1 + 1, k * 4 + 3, none⟩ = some (.int .i32 0) := (cell_of_row w' _ _ _ _ _ hSw.base.l).trans l3.out
          go_simp
        try simp only [Act.put, List.setIfInBounds_toArray, List.set_cons_zero, List.set_cons_succ]
        refine wpAnyH_ready (rs := [5, 9, 10]) (by kernel_rfl) (by simp) ?_
        refine (AllReadyH.cons (o := { dst := some 55, op := Op.call { callee := Callee.value (Operand.func _), args := #[Operand.tmp 50, Operand.tmp 54, Operand.const (Value.int IntKind.u32 0)], argTypes := _ }, type := _, pos := "law.go:53", after := #[{ on := 0, ground := Ground.data }, { on := 4, ground := Ground.data }], guard := none }) rfl (fun K hK => ?_) (AllReadyH.cons (o := { dst := some 11, op := Op.alloc 25, type := _, pos := "law.go:53", after := #[], guard := none }) rfl (fun K hK => ?_) (AllReadyH.cons (o := { dst := some 12, op := Op.alloc 29, type := _, pos := "law.go:53", after := #[], guard := none }) rfl (fun K hK => ?_) AllReadyH.nil)))
        · skip
          go_simp
          go_at_call 9
          refine (D1.out _).mono ?_
          rintro e v12_1 ⟨rfl, hb⟩
          have sz := Nat.lt_of_lt_of_le sz hb.size
          refine hK.out _ _ (hHeld.next hb) (fun hHeld => ?_)
          clear hK K hb
          try simp only [Act.put, List.setIfInBounds_toArray, List.set_cons_zero, List.set_cons_succ]
          refine wpAnyH_take (i := 6) (oi := { dst := some 49, op := Op.move (Operand.tmp 55), type := _, pos := "law.go:53", after := #[{ on := 5, ground := Ground.data }], guard := none }) (v := .tuple #[.agg T, .agg (efU f)]) rfl (by kernel_rfl) (by kernel_rfl) (by kernel_rfl) (fun _ _ _ h => h) (Or.inl ⟨by rfl, ?_⟩) hHeld ?_
          · intro w' hSw
            have k0 : w'.cell? ⟨w.heap.size + 1 + 1, k * 4, none⟩ = some (.int .u8 op) := (cell_of_row w' _ _ _ _ _ hSw.base.l).trans l0.out
            have k1 : w'.cell? ⟨w.heap.size + 1 + 1, k * 4 + 1, none⟩ = some (.int .u8 ia) := (cell_of_row w' _ _ _ _ _ hSw.base.l).trans l1.out
            have k2 : w'.cell? ⟨w.heap.size + 1 + 1, k * 4 + 2, none⟩ = some (.int .u8 ib) := (cell_of_row w' _ _ _ _ _ hSw.base.l).trans l2.out
            have k3 : w'.cell? ⟨w.heap.size + 1 + 1, k * 4 + 3, none⟩ = some (.int .i32 0) := (cell_of_row w' _ _ _ _ _ hSw.base.l).trans l3.out
            go_simp
          try simp only [Act.put, List.setIfInBounds_toArray, List.set_cons_zero, List.set_cons_succ]
          refine wpAnyH_take (i := 7) (oi := { dst := some 56, op := Op.extract (Operand.tmp 49) 0, type := _, pos := "law.go:53", after := #[{ on := 6, ground := Ground.data }], guard := none }) (v := .agg T) rfl (by kernel_rfl) (by kernel_rfl) (by kernel_rfl) (fun _ _ _ h => h) (Or.inl ⟨by rfl, ?_⟩) hHeld ?_
          · intro w' hSw
            have k0 : w'.cell? ⟨w.heap.size + 1 + 1, k * 4, none⟩ = some (.int .u8 op) := (cell_of_row w' _ _ _ _ _ hSw.base.l).trans l0.out
            have k1 : w'.cell? ⟨w.heap.size + 1 + 1, k * 4 + 1, none⟩ = some (.int .u8 ia) := (cell_of_row w' _ _ _ _ _ hSw.base.l).trans l1.out
            have k2 : w'.cell? ⟨w.heap.size + 1 + 1, k * 4 + 2, none⟩ = some (.int .u8 ib) := (cell_of_row w' _ _ _ _ _ hSw.base.l).trans l2.out
            have k3 : w'.cell? ⟨w.heap.size + 1 + 1, k * 4 + 3, none⟩ = some (.int .i32 0) := (cell_of_row w' _ _ _ _ _ hSw.base.l).trans l3.out
            go_simp
          try simp only [Act.put, List.setIfInBounds_toArray, List.set_cons_zero, List.set_cons_succ]
          refine wpAnyH_take (i := 8) (oi := { dst := some 57, op := Op.extract (Operand.tmp 49) 1, type := _, pos := "law.go:53", after := #[{ on := 6, ground := Ground.data }, { on := 11, ground := Ground.gcOnly Departure.lateStores }], guard := none }) (v := .agg (efU f)) rfl (by kernel_rfl) (by kernel_rfl) (by kernel_rfl) (fun _ _ _ h => h) (Or.inl ⟨by rfl, ?_⟩) hHeld ?_
          · intro w' hSw
            have k0 : w'.cell? ⟨w.heap.size + 1 + 1, k * 4, none⟩ = some (.int .u8 op) := (cell_of_row w' _ _ _ _ _ hSw.base.l).trans l0.out
            have k1 : w'.cell? ⟨w.heap.size + 1 + 1, k * 4 + 1, none⟩ = some (.int .u8 ia) := (cell_of_row w' _ _ _ _ _ hSw.base.l).trans l1.out
            have k2 : w'.cell? ⟨w.heap.size + 1 + 1, k * 4 + 2, none⟩ = some (.int .u8 ib) := (cell_of_row w' _ _ _ _ _ hSw.base.l).trans l2.out
            have k3 : w'.cell? ⟨w.heap.size + 1 + 1, k * 4 + 3, none⟩ = some (.int .i32 0) := (cell_of_row w' _ _ _ _ _ hSw.base.l).trans l3.out
            go_simp
          try simp only [Act.put, List.setIfInBounds_toArray, List.set_cons_zero, List.set_cons_succ]
          refine wpAnyH_ready (rs := [9, 10]) (by kernel_rfl) (by simp) ?_
          refine (AllReadyH.cons (o := { dst := some 11, op := Op.alloc 25, type := _, pos := "law.go:53", after := #[], guard := none }) rfl (fun K hK => ?_) (AllReadyH.cons (o := { dst := some 12, op := Op.alloc 29, type := _, pos := "law.go:53", after := #[], guard := none }) rfl (fun K hK => ?_) AllReadyH.nil))
          · skip
            go_simp
            have rZa : (v12_1.alloc (.cells #[.int .u32 0, .int .u32 0, .int .u32 0, .int .u32 0, .int .u32 0, .int .u32 0, .int .u32 0, .int .u32 0, .int .u32 0, .int .u32 0, .int .u32 0, .int .u32 0, .int .u32 0, .int .u32 0, .int .u32 0, .int .u32 0, .int .u32 0, .int .u32 0, .bool false] 25)).heap[v12_1.heap.size]? = some (.cells #[.int .u32 0, .int .u32 0, .int .u32 0, .int .u32 0, .int .u32 0, .int .u32 0, .int .u32 0, .int .u32 0, .int .u32 0, .int .u32 0, .int .u32 0, .int .u32 0, .int .u32 0, .int .u32 0, .int .u32 0, .int .u32 0, .int .u32 0, .int .u32 0, .bool false] 25 (0, 0)) := heap_new' rfl
            have la : w.heap.size + 1 + 1 < v12_1.heap.size := hHeld.base.size
            have sz : w.heap.size < (v12_1.alloc (.cells #[.int .u32 0, .int .u32 0, .int .u32 0, .int .u32 0, .int .u32 0, .int .u32 0, .int .u32 0, .int .u32 0, .int .u32 0, .int .u32 0, .int .u32 0, .int .u32 0, .int .u32 0, .int .u32 0, .int .u32 0, .int .u32 0, .int .u32 0, .int .u32 0, .bool false] 25)).heap.size := by simp; omega
            refine hK.out _ _ (hHeld.next (below_alloc1 _ _)) (fun hHeld => ?_)
            clear hK K
            try simp only [Act.put, List.setIfInBounds_toArray, List.set_cons_zero, List.set_cons_succ]
            generalize v12_1.alloc (.cells #[.int .u32 0, .int .u32 0, .int .u32 0, .int .u32 0, .int .u32 0, .int .u32 0, .int .u32 0, .int .u32 0, .int .u32 0, .int .u32 0, .int .u32 0, .int .u32 0, .int .u32 0, .int .u32 0, .int .u32 0, .int .u32 0, .int .u32 0, .int .u32 0, .bool false] 25) = v12_2 at hHeld rZa sz ⊢
            generalize v12_1.heap.size = ba at rZa la ⊢
            refine wpAnyH_ready (rs := [10]) (by kernel_rfl) (by simp) ?_
            refine (AllReadyH.cons (o := { dst := some 12, op := Op.alloc 29, type := _, pos := "law.go:53", after := #[], guard := none }) rfl (fun K hK => ?_) AllReadyH.nil)
            · skip
              go_simp
              have rZe : (v12_2.alloc (.cells #[.int .i64 0, .bool false, .bool false, .int .i64 0, .int .u32 0] 29)).heap[v12_2.heap.size]? = some (.cells #[.int .i64 0, .bool false, .bool false, .int .i64 0, .int .u32 0] 29 (0, 0)) := heap_new' rfl
              have hne : ba ≠ v12_2.heap.size := Nat.ne_of_lt (Array.getElem?_eq_some_iff.1 rZa).1
              have rZa := heap_old' (o := .cells #[.int .i64 0, .bool false, .bool false, .int .i64 0, .int .u32 0] 29) rZa
              have le : w.heap.size + 1 + 1 < v12_2.heap.size := hHeld.base.size
              have sz : w.heap.size < (v12_2.alloc (.cells #[.int .i64 0, .bool false, .bool false, .int .i64 0, .int .u32 0] 29)).heap.size := by simp; omega
              refine hK.out _ _ (hHeld.next (below_alloc1 _ _)) (fun hHeld => ?_)
              clear hK K
              try simp only [Act.put, List.setIfInBounds_toArray, List.set_cons_zero, List.set_cons_succ]
              generalize v12_2.alloc (.cells #[.int .i64 0, .bool false, .bool false, .int .i64 0, .int .u32 0] 29) = v12_3 at hHeld rZe rZa sz ⊢
              generalize v12_2.heap.size = be at rZe le hne ⊢
              refine wpAnyH_ready (rs := [11]) (by kernel_rfl) (by simp) ?_
              refine AllReadyH.cons (o := { dst := none, op := Op.store _ (Operand.tmp 11) (Operand.tmp 56), type := _, pos := "law.go:53", after := #[{ on := 9, ground := Ground.data }, { on := 7, ground := Ground.data }, { on := 5, ground := Ground.chain }, { on := 0, ground := Ground.phase }, { on := 1, ground := Ground.phase }, { on := 2, ground := Ground.phase }, { on := 3, ground := Ground.phase }, { on := 4, ground := Ground.phase }, { on := 5, ground := Ground.phase }, { on := 6, ground := Ground.phase }, { on := 7, ground := Ground.phase }, { on := 8, ground := Ground.textOnly Departure.lateStores }, { on := 9, ground := Ground.phase }, { on := 10, ground := Ground.phase }], guard := none }) rfl (fun K hK => ?_) AllReadyH.nil
              rw [if_pos (by rfl)]
              refine wp_store_st 25 _ _ rfl ba T rfl rfl 25 _ rZa (by rw [ZT.out]; kernel_rfl) (by rw [ZT.out]; rfl) OT.out ?_
              have rT := setRow_heap _ ba _ T _ _ rZa
              have rZe := (setRow_other _ _ _ T hne.symm).trans rZe
              refine hK.out _ _ (hHeld.row _ _ la (by intro p hp; cases hp)) (fun hHeld => ?_)
              clear hK K
              try simp only [Act.put, List.setIfInBounds_toArray, List.set_cons_zero, List.set_cons_succ]
              refine wpAnyH_ready (rs := [12]) (by kernel_rfl) (by simp) ?_
              refine AllReadyH.cons (o := { dst := none, op := Op.store _ (Operand.tmp 12) (Operand.tmp 57), type := _, pos := "law.go:53", after := #[{ on := 10, ground := Ground.data }, { on := 8, ground := Ground.data }, { on := 11, ground := Ground.chain }, { on := 0, ground := Ground.phase }, { on := 1, ground := Ground.phase }, { on := 2, ground := Ground.phase }, { on := 3, ground := Ground.phase }, { on := 4, ground := Ground.phase }, { on := 5, ground := Ground.phase }, { on := 6, ground := Ground.phase }, { on := 7, ground := Ground.phase }, { on := 8, ground := Ground.phase }, { on := 9, ground := Ground.phase }, { on := 10, ground := Ground.phase }, { on := 11, ground := Ground.phase }], guard := none }) rfl (fun K hK => ?_) AllReadyH.nil
              rw [if_pos (by rfl)]
              refine wp_store_st 29 _ _ rfl be ((efU f)) rfl rfl 29 _ rZe (by kernel_rfl) (by rfl) (by simp [efU, Value.oneCell']) ?_
              have rE := setRow_heap _ be _ ((efU f)) _ _ rZe
              have rT := (setRow_other _ _ _ ((efU f)) hne).trans rT
              refine hK.out _ _ (hHeld.row _ _ le (by intro p hp; cases hp)) (fun hHeld => ?_)
              clear hK K
              refine wpAnyH_done (by kernel_rfl) ?_ _
              exact ⟨ba, be, rfl, hHeld, rT, rE, hne, la, le⟩
          · skip
            go_simp
            have rZe : (v12_1.alloc (.cells #[.int .i64 0, .bool false, .bool false, .int .i64 0, .int .u32 0] 29)).heap[v12_1.heap.size]? = some (.cells #[.int .i64 0, .bool false, .bool false, .int .i64 0, .int .u32 0] 29 (0, 0)) := heap_new' rfl
            have le : w.heap.size + 1 + 1 < v12_1.heap.size := hHeld.base.size
            have sz : w.heap.size < (v12_1.alloc (.cells #[.int .i64 0, .bool false, .bool false, .int .i64 0, .int .u32 0] 29)).heap.size := by simp; omega
            refine hK.out _ _ (hHeld.next (below_alloc1 _ _)) (fun hHeld => ?_)
            clear hK K
            try simp only [Act.put, List.setIfInBounds_toArray, List.set_cons_zero, List.set_cons_succ]
            generalize v12_1.alloc (.cells #[.int .i64 0, .bool false, .bool false, .int .i64 0, .int .u32 0] 29) = v12_4 at hHeld rZe sz ⊢
            generalize v12_1.heap.size = be at rZe le ⊢
            refine wpAnyH_ready (rs := [9]) (by kernel_rfl) (by simp) ?_
            refine (AllReadyH.cons (o := { dst := some 11, op := Op.alloc 25, type := _, pos := "law.go:53", after := #[], guard := none }) rfl (fun K hK => ?_) AllReadyH.nil)
            · skip
              go_simp
              have rZa : (v12_4.alloc (.cells #[.int .u32 0, .int .u32 0, .int .u32 0, .int .u32 0, .int .u32 0, .int .u32 0, .int .u32 0, .int .u32 0, .int .u32 0, .int .u32 0, .int .u32 0, .int .u32 0, .int .u32 0, .int .u32 0, .int .u32 0, .int .u32 0, .int .u32 0, .int .u32 0, .bool false] 25)).heap[v12_4.heap.size]? = some (.cells #[.int .u32 0, .int .u32 0, .int .u32 0, .int .u32 0, .int .u32 0, .int .u32 0, .int .u32 0, .int .u32 0, .int .u32 0, .int .u32 0, .int .u32 0, .int .u32 0, .int .u32 0, .int .u32 0, .int .u32 0, .int .u32 0, .int .u32 0, .int .u32 0, .bool false] 25 (0, 0)) := heap_new' rfl
              have hne : v12_4.heap.size ≠ be := (Nat.ne_of_lt (Array.getElem?_eq_some_iff.1 rZe).1).symm
              have rZe := heap_old' (o := .cells #[.int .u32 0, .int .u32 0, .int .u32 0, .int .u32 0, .int .u32 0, .int .u32 0, .int .u32 0, .int .u32 0, .int .u32 0, .int .u32 0, .int .u32 0, .int .u32 0, .int .u32 0, .int .u32 0, .int .u32 0, .int .u32 0, .int .u32 0, .int .u32 0, .bool false] 25) rZe
              have la : w.heap.size + 1 + 1 < v12_4.heap.size := hHeld.base.size
              have sz : w.heap.size < (v12_4.alloc (.cells #[.int .u32 0, .int .u32 0, .int .u32 0, .int .u32 0, .int .u32 0, .int .u32 0, .int .u32 0, .int .u32 0, .int .u32 0, .int .u32 0, .int .u32 0, .int .u32 0, .int .u32 0, .int .u32 0, .int .u32 0, .int .u32 0, .int .u32 0, .int .u32 0, .bool false] 25)).heap.size := by simp; omega
              refine hK.out _ _ (hHeld.next (below_alloc1 _ _)) (fun hHeld => ?_)
              clear hK K
              try simp only [Act.put, List.setIfInBounds_toArray, List.set_cons_zero, List.set_cons_succ]
              generalize v12_4.alloc (.cells #[.int .u32 0, .int .u32 0, .int .u32 0, .int .u32 0, .int .u32 0, .int .u32 0, .int .u32 0, .int .u32 0, .int .u32 0, .int .u32 0, .int .u32 0, .int .u32 0, .int .u32 0, .int .u32 0, .int .u32 0, .int .u32 0, .int .u32 0, .int .u32 0, .bool false] 25) = v12_5 at hHeld rZa rZe sz ⊢
              generalize v12_4.heap.size = ba at rZa la hne ⊢
              refine wpAnyH_ready (rs := [11]) (by kernel_rfl) (by simp) ?_
              refine AllReadyH.cons (o := { dst := none, op := Op.store _ (Operand.tmp 11) (Operand.tmp 56), type := _, pos := "law.go:53", after := #[{ on := 9, ground := Ground.data }, { on := 7, ground := Ground.data }, { on := 5, ground := Ground.chain }, { on := 0, ground := Ground.phase }, { on := 1, ground := Ground.phase }, { on := 2, ground := Ground.phase }, { on := 3, ground := Ground.phase }, { on := 4, ground := Ground.phase }, { on := 5, ground := Ground.phase }, { on := 6, ground := Ground.phase }, { on := 7, ground := Ground.phase }, { on := 8, ground := Ground.textOnly Departure.lateStores }, { on := 9, ground := Ground.phase }, { on := 10, ground := Ground.phase }], guard := none }) rfl (fun K hK => ?_) AllReadyH.nil
              rw [if_pos (by rfl)]
              refine wp_store_st 25 _ _ rfl ba T rfl rfl 25 _ rZa (by rw [ZT.out]; kernel_rfl) (by rw [ZT.out]; rfl) OT.out ?_
              have rT := setRow_heap _ ba _ T _ _ rZa
              have rZe := (setRow_other _ _ _ T hne.symm).trans rZe
              refine hK.out _ _ (hHeld.row _ _ la (by intro p hp; cases hp)) (fun hHeld => ?_)
              clear hK K
              try simp only [Act.put, List.setIfInBounds_toArray, List.set_cons_zero, List.set_cons_succ]
              refine wpAnyH_ready (rs := [12]) (by kernel_rfl) (by simp) ?_
              refine AllReadyH.cons (o := { dst := none, op := Op.store _ (Operand.tmp 12) (Operand.tmp 57), type := _, pos := "law.go:53", after := #[{ on := 10, ground := Ground.data }, { on := 8, ground := Ground.data }, { on := 11, ground := Ground.chain }, { on := 0, ground := Ground.phase }, { on := 1, ground := Ground.phase }, { on := 2, ground := Ground.phase }, { on := 3, ground := Ground.phase }, { on := 4, ground := Ground.phase }, { on := 5, ground := Ground.phase }, { on := 6, ground := Ground.phase }, { on := 7, ground := Ground.phase }, { on := 8, ground := Ground.phase }, { on := 9, ground := Ground.phase }, { on := 10, ground := Ground.phase }, { on := 11, ground := Ground.phase }], guard := none }) rfl (fun K hK => ?_) AllReadyH.nil
              rw [if_pos (by rfl)]
              refine wp_store_st 29 _ _ rfl be ((efU f)) rfl rfl 29 _ rZe (by kernel_rfl) (by rfl) (by simp [efU, Value.oneCell']) ?_
              have rE := setRow_heap _ be _ ((efU f)) _ _ rZe
              have rT := (setRow_other _ _ _ ((efU f)) hne).trans rT
              refine hK.out _ _ (hHeld.row _ _ le (by intro p hp; cases hp)) (fun hHeld => ?_)
              clear hK K
              refine wpAnyH_done (by kernel_rfl) ?_ _
              exact ⟨ba, be, rfl, hHeld, rT, rE, hne, la, le⟩
        · skip
          go_simp
          have rZa : (v12.alloc (.cells #[.int .u32 0, .int .u32 0, .int .u32 0, .int .u32 0, .int .u32 0, .int .u32 0, .int .u32 0, .int .u32 0, .int .u32 0, .int .u32 0, .int .u32 0, .int .u32 0, .int .u32 0, .int .u32 0, .int .u32 0, .int .u32 0, .int .u32 0, .int .u32 0, .bool false] 25)).heap[v12.heap.size]? = some (.cells #[.int .u32 0, .int .u32 0, .int .u32 0, .int .u32 0, .int .u32 0, .int .u32 0, .int .u32 0, .int .u32 0, .int .u32 0, .int .u32 0, .int .u32 0, .int .u32 0, .int .u32 0, .int .u32 0, .int .u32 0, .int .u32 0, .int .u32 0, .int .u32 0, .bool false] 25 (0, 0)) := heap_new' rfl
          have la : w.heap.size + 1 + 1 < v12.heap.size := hHeld.base.size
          have sz : w.heap.size < (v12.alloc (.cells #[.int .u32 0, .int .u32 0, .int .u32 0, .int .u32 0, .int .u32 0, .int .u32 0, .int .u32 0, .int .u32 0, .int .u32 0, .int .u32 0, .int .u32 0, .int .u32 0, .int .u32 0, .int .u32 0, .int .u32 0, .int .u32 0, .int .u32 0, .int .u32 0, .bool false] 25)).heap.size := by simp; omega
          refine hK.out _ _ (hHeld.next (below_alloc1 _ _)) (fun hHeld => ?_)
          clear hK K
          try simp only [Act.put, List.setIfInBounds_toArray, List.set_cons_zero, List.set_cons_succ]
          generalize v12.alloc (.cells #[.int .u32 0, .int .u32 0, .int .u32 0, .int .u32 0, .int .u32 0, .int .u32 0, .int .u32 0, .int .u32 0, .int .u32 0, .int .u32 0, .int .u32 0, .int .u32 0, .int .u32 0, .int .u32 0, .int .u32 0, .int .u32 0, .int .u32 0, .int .u32 0, .bool false] 25) = v12_6 at hHeld rZa sz ⊢
          generalize v12.heap.size = ba at rZa la ⊢
          refine wpAnyH_ready (rs := [5, 10]) (by kernel_rfl) (by simp) ?_
          refine (AllReadyH.cons (o := { dst := some 55, op := Op.call { callee := Callee.value (Operand.func _), args := #[Operand.tmp 50, Operand.tmp 54, Operand.const (Value.int IntKind.u32 0)], argTypes := _ }, type := _, pos := "law.go:53", after := #[{ on := 0, ground := Ground.data }, { on := 4, ground := Ground.data }], guard := none }) rfl (fun K hK => ?_) (AllReadyH.cons (o := { dst := some 12, op := Op.alloc 29, type := _, pos := "law.go:53", after := #[], guard := none }) rfl (fun K hK => ?_) AllReadyH.nil))
          · skip
            go_simp
            go_at_call 9
            refine (D1.out _).mono ?_
            rintro e v12_7 ⟨rfl, hb⟩
            have rZa := (hb.block _ (Array.getElem?_eq_some_iff.1 rZa).1).trans rZa
            have sz := Nat.lt_of_lt_of_le sz hb.size
            refine hK.out _ _ (hHeld.next hb) (fun hHeld => ?_)
            clear hK K hb
            try simp only [Act.put, List.setIfInBounds_toArray, List.set_cons_zero, List.set_cons_succ]
            refine wpAnyH_take (i := 6) (oi := { dst := some 49, op := Op.move (Operand.tmp 55), type := _, pos := "law.go:53", after := #[{ on := 5, ground := Ground.data }], guard := none }) (v := .tuple #[.agg T, .agg (efU f)]) rfl (by kernel_rfl) (by kernel_rfl) (by kernel_rfl) (fun _ _ _ h => h) (Or.inl ⟨by rfl, ?_⟩) hHeld ?_
            · intro w' hSw
              have k0 : w'.cell? ⟨w.heap.size + 1 + 1, k * 4, none⟩ = some (.int .u8 op) := (cell_of_row w' _ _ _ _ _ hSw.base.l).trans l0.out
              have k1 : w'.cell? ⟨w.heap.size + 1 + 1, k * 4 + 1, none⟩ = some (.int .u8 ia) := (cell_of_row w' _ _ _ _ _ hSw.base.l).trans l1.out
              have k2 : w'.cell? ⟨w.heap.size + 1 + 1, k * 4 + 2, none⟩ = some (.int .u8 ib) := (cell_of_row w' _ _ _ _ _ hSw.base.l).trans l2.out
              have k3 : w'.cell? ⟨w.heap.size + 1 + 1, k * 4 + 3, none⟩ = some (.int .i32 0) := (cell_of_row w' _ _ _ _ _ hSw.base.l).trans l3.out
              go_simp
            try simp only [Act.put, List.setIfInBounds_toArray, List.set_cons_zero, List.set_cons_succ]
            refine wpAnyH_take (i := 7) (oi := { dst := some 56, op := Op.extract (Operand.tmp 49) 0, type := _, pos := "law.go:53", after := #[{ on := 6, ground := Ground.data }], guard := none }) (v := .agg T) rfl (by kernel_rfl) (by kernel_rfl) (by kernel_rfl) (fun _ _ _ h => h) (Or.inl ⟨by rfl, ?_⟩) hHeld ?_
            · intro w' hSw
              have k0 : w'.cell? ⟨w.heap.size + 1 + 1, k * 4, none⟩ = some (.int .u8 op) := (cell_of_row w' _ _ _ _ _ hSw.base.l).trans l0.out
              have k1 : w'.cell? ⟨w.heap.size + 1 + 1, k * 4 + 1, none⟩ = some (.int .u8 ia) := (cell_of_row w' _ _ _ _ _ hSw.base.l).trans l1.out
              have k2 : w'.cell? ⟨w.heap.size + 1 + 1, k * 4 + 2, none⟩ = some (.int .u8 ib) := (cell_of_row w' _ _ _ _ _ hSw.base.l).trans l2.out
              have k3 : w'.cell? ⟨w.heap.size + 1 + 1, k * 4 + 3, none⟩ = some (.int .i32 0) := (cell_of_row w' _ _ _ _ _ hSw.base.l).trans l3.out
              go_simp
            try simp only [Act.put, List.setIfInBounds_toArray, List.set_cons_zero, List.set_cons_succ]
            refine wpAnyH_take (i := 8) (oi := { dst := some 57, op := Op.extract (Operand.tmp 49) 1, type := _, pos := "law.go:53", after := #[{ on := 6, ground := Ground.data }, { on := 11, ground := Ground.gcOnly Departure.lateStores }], guard := none }) (v := .agg (efU f)) rfl (by kernel_rfl) (by kernel_rfl) (by kernel_rfl) (fun _ _ _ h => h) (Or.inl ⟨by rfl, ?_⟩) hHeld ?_
            · intro w' hSw
              have k0 : w'.cell? ⟨w.heap.size + 1 + 1, k * 4, none⟩ = some (.int .u8 op) := (cell_of_row w' _ _ _ _ _ hSw.base.l).trans l0.out
              have k1 : w'.cell? ⟨w.heap.size + 1 + 1, k * 4 + 1, none⟩ = some (.int .u8 ia) := (cell_of_row w' _ _ _ _ _ hSw.base.l).trans l1.out
              have k2 : w'.cell? ⟨w.heap.size + 1 + 1, k * 4 + 2, none⟩ = some (.int .u8 ib) := (cell_of_row w' _ _ _ _ _ hSw.base.l).trans l2.out
              have k3 : w'.cell? ⟨w.heap.size + 1 + 1, k * 4 + 3, none⟩ = some (.int .i32 0) := (cell_of_row w' _ _ _ _ _ hSw.base.l).trans l3.out
              go_simp
            try simp only [Act.put, List.setIfInBounds_toArray, List.set_cons_zero, List.set_cons_succ]
            refine wpAnyH_ready (rs := [10]) (by kernel_rfl) (by simp) ?_
            refine (AllReadyH.cons (o := { dst := some 12, op := Op.alloc 29, type := _, pos := "law.go:53", after := #[], guard := none }) rfl (fun K hK => ?_) AllReadyH.nil)
            · skip
              go_simp
              have rZe : (v12_7.alloc (.cells #[.int .i64 0, .bool false, .bool false, .int .i64 0, .int .u32 0] 29)).heap[v12_7.heap.size]? = some (.cells #[.int .i64 0, .bool false, .bool false, .int .i64 0, .int .u32 0] 29 (0, 0)) := heap_new' rfl
              have hne : ba ≠ v12_7.heap.size := Nat.ne_of_lt (Array.getElem?_eq_some_iff.1 rZa).1
              have rZa := heap_old' (o := .cells #[.int .i64 0, .bool false, .bool false, .int .i64 0, .int .u32 0] 29) rZa
              have le : w.heap.size + 1 + 1 < v12_7.heap.size := hHeld.base.size
              have sz : w.heap.size < (v12_7.alloc (.cells #[.int .i64 0, .bool false, .bool false, .int .i64 0, .int .u32 0] 29)).heap.size := by simp; omega
              refine hK.out _ _ (hHeld.next (below_alloc1 _ _)) (fun hHeld => ?_)
              clear hK K
              try simp only [Act.put, List.setIfInBounds_toArray, List.set_cons_zero, List.set_cons_succ]
              generalize v12_7.alloc (.cells #[.int .i64 0, .bool false, .bool false, .int .i64 0, .int .u32 0] 29) = v12_8 at hHeld rZe rZa sz ⊢
              generalize v12_7.heap.size = be at rZe le hne ⊢
              refine wpAnyH_ready (rs := [11]) (by kernel_rfl) (by simp) ?_
              refine AllReadyH.cons (o := { dst := none, op := Op.store _ (Operand.tmp 11) (Operand.tmp 56), type := _, pos := "law.go:53", after := #[{ on := 9, ground := Ground.data }, { on := 7, ground := Ground.data }, { on := 5, ground := Ground.chain }, { on := 0, ground := Ground.phase }, { on := 1, ground := Ground.phase }, { on := 2, ground := Ground.phase }, { on := 3, ground := Ground.phase }, { on := 4, ground := Ground.phase }, { on := 5, ground := Ground.phase }, { on := 6, ground := Ground.phase }, { on := 7, ground := Ground.phase }, { on := 8, ground := Ground.textOnly Departure.lateStores }, { on := 9, ground := Ground.phase }, { on := 10, ground := Ground.phase }], guard := none }) rfl (fun K hK => ?_) AllReadyH.nil
              rw [if_pos (by rfl)]
              refine wp_store_st 25 _ _ rfl ba T rfl rfl 25 _ rZa (by rw [ZT.out]; kernel_rfl) (by rw [ZT.out]; rfl) OT.out ?_
              have rT := setRow_heap _ ba _ T _ _ rZa
              have rZe := (setRow_other _ _ _ T hne.symm).trans rZe
              refine hK.out _ _ (hHeld.row _ _ la (by intro p hp; cases hp)) (fun hHeld => ?_)
              clear hK K
              try simp only [Act.put, List.setIfInBounds_toArray, List.set_cons_zero, List.set_cons_succ]
              refine wpAnyH_ready (rs := [12]) (by kernel_rfl) (by simp) ?_
              refine AllReadyH.cons (o := { dst := none, op := Op.store _ (Operand.tmp 12) (Operand.tmp 57), type := _, pos := "law.go:53", after := #[{ on := 10, ground := Ground.data }, { on := 8, ground := Ground.data }, { on := 11, ground := Ground.chain }, { on := 0, ground := Ground.phase }, { on := 1, ground := Ground.phase }, { on := 2, ground := Ground.phase }, { on := 3, ground := Ground.phase }, { on := 4, ground := Ground.phase }, { on := 5, ground := Ground.phase }, { on := 6, ground := Ground.phase }, { on := 7, ground := Ground.phase }, { on := 8, ground := Ground.phase }, { on := 9, ground := Ground.phase }, { on := 10, ground := Ground.phase }, { on := 11, ground := Ground.phase }], guard := none }) rfl (fun K hK => ?_) AllReadyH.nil
              rw [if_pos (by rfl)]
              refine wp_store_st 29 _ _ rfl be ((efU f)) rfl rfl 29 _ rZe (by kernel_rfl) (by rfl) (by simp [efU, Value.oneCell']) ?_
              have rE := setRow_heap _ be _ ((efU f)) _ _ rZe
              have rT := (setRow_other _ _ _ ((efU f)) hne).trans rT
              refine hK.out _ _ (hHeld.row _ _ le (by intro p hp; cases hp)) (fun hHeld => ?_)
              clear hK K
              refine wpAnyH_done (by kernel_rfl) ?_ _
              exact ⟨ba, be, rfl, hHeld, rT, rE, hne, la, le⟩
          · skip
            go_simp
            have rZe : (v12_6.alloc (.cells #[.int .i64 0, .bool false, .bool false, .int .i64 0, .int .u32 0] 29)).heap[v12_6.heap.size]? = some (.cells #[.int .i64 0, .bool false, .bool false, .int .i64 0, .int .u32 0] 29 (0, 0)) := heap_new' rfl
            have hne : ba ≠ v12_6.heap.size := Nat.ne_of_lt (Array.getElem?_eq_some_iff.1 rZa).1
            have rZa := heap_old' (o := .cells #[.int .i64 0, .bool false, .bool false, .int .i64 0, .int .u32 0] 29) rZa
            have le : w.heap.size + 1 + 1 < v12_6.heap.size := hHeld.base.size
            have sz : w.heap.size < (v12_6.alloc (.cells #[.int .i64 0, .bool false, .bool false, .int .i64 0, .int .u32 0] 29)).heap.size := by simp; omega
            refine hK.out _ _ (hHeld.next (below_alloc1 _ _)) (fun hHeld => ?_)
            clear hK K
            try simp only [Act.put, List.setIfInBounds_toArray, List.set_cons_zero, List.set_cons_succ]
            generalize v12_6.alloc (.cells #[.int .i64 0, .bool false, .bool false, .int .i64 0, .int .u32 0] 29) = v12_9 at hHeld rZe rZa sz ⊢
            generalize v12_6.heap.size = be at rZe le hne ⊢
            refine wpAnyH_ready (rs := [5]) (by kernel_rfl) (by simp) ?_
            refine (AllReadyH.cons (o := { dst := some 55, op := Op.call { callee := Callee.value (Operand.func _), args := #[Operand.tmp 50, Operand.tmp 54, Operand.const (Value.int IntKind.u32 0)], argTypes := _ }, type := _, pos := "law.go:53", after := #[{ on := 0, ground := Ground.data }, { on := 4, ground := Ground.data }], guard := none }) rfl (fun K hK => ?_) AllReadyH.nil)
            · skip
              go_simp
              go_at_call 9
              refine (D1.out _).mono ?_
              rintro e v12_10 ⟨rfl, hb⟩
              have rZa := (hb.block _ (Array.getElem?_eq_some_iff.1 rZa).1).trans rZa
              have rZe := (hb.block _ (Array.getElem?_eq_some_iff.1 rZe).1).trans rZe
              have sz := Nat.lt_of_lt_of_le sz hb.size
              refine hK.out _ _ (hHeld.next hb) (fun hHeld => ?_)
              clear hK K hb
              try simp only [Act.put, List.setIfInBounds_toArray, List.set_cons_zero, List.set_cons_succ]
              refine wpAnyH_take (i := 6) (oi := { dst := some 49, op := Op.move (Operand.tmp 55), type := _, pos := "law.go:53", after := #[{ on := 5, ground := Ground.data }], guard := none }) (v := .tuple #[.agg T, .agg (efU f)]) rfl (by kernel_rfl) (by kernel_rfl) (by kernel_rfl) (fun _ _ _ h => h) (Or.inl ⟨by rfl, ?_⟩) hHeld ?_
              · intro w' hSw
                have k0 : w'.cell? ⟨w.heap.size + 1 + 1, k * 4, none⟩ = some (.int .u8 op) := (cell_of_row w' _ _ _ _ _ hSw.base.l).trans l0.out
                have k1 : w'.cell? ⟨w.heap.size + 1 + 1, k * 4 + 1, none⟩ = some (.int .u8 ia) := (cell_of_row w' _ _ _ _ _ hSw.base.l).trans l1.out
                have k2 : w'.cell? ⟨w.heap.size + 1 + 1, k * 4 + 2, none⟩ = some (.int .u8 ib) := (cell_of_row w' _ _ _ _ _ hSw.base.l).trans l2.out
                have k3 : w'.cell? ⟨w.heap.size + 1 + 1, k * 4 + 3, none⟩ = some (.int .i32 0) := (cell_of_row w' _ _ _ _ _ hSw.base.l).trans l3.out
                go_simp
              try simp only [Act.put, List.setIfInBounds_toArray, List.set_cons_zero, List.set_cons_succ]
              refine wpAnyH_take (i := 7) (oi := { dst := some 56, op := Op.extract (Operand.tmp 49) 0, type := _, pos := "law.go:53", after := #[{ on := 6, ground := Ground.data }], guard := none }) (v := .agg T) rfl (by kernel_rfl) (by kernel_rfl) (by kernel_rfl) (fun _ _ _ h => h) (Or.inl ⟨by rfl, ?_⟩) hHeld ?_
              · intro w' hSw
                have k0 : w'.cell? ⟨w.heap.size + 1 + 1, k * 4, none⟩ = some (.int .u8 op) := (cell_of_row w' _ _ _ _ _ hSw.base.l).trans l0.out
                have k1 : w'.cell? ⟨w.heap.size + 1 + 1, k * 4 + 1, none⟩ = some (.int .u8 ia) := (cell_of_row w' _ _ _ _ _ hSw.base.l).trans l1.out
                have k2 : w'.cell? ⟨w.heap.size + 1 + 1, k * 4 + 2, none⟩ = some (.int .u8 ib) := (cell_of_row w' _ _ _ _ _ hSw.base.l).trans l2.out
                have k3 : w'.cell? ⟨w.heap.size + 1 + 1, k * 4 + 3, none⟩ = some (.int .i32 0) := (cell_of_row w' _ _ _ _ _ hSw.base.l).trans l3.out
                go_simp
              try simp only [Act.put, List.setIfInBounds_toArray, List.set_cons_zero, List.set_cons_succ]
              refine wpAnyH_take (i := 8) (oi := { dst := some 57, op := Op.extract (Operand.tmp 49) 1, type := _, pos := "law.go:53", after := #[{ on := 6, ground := Ground.data }, { on := 11, ground := Ground.gcOnly Departure.lateStores }], guard := none }) (v := .agg (efU f)) rfl (by kernel_rfl) (by kernel_rfl) (by kernel_rfl) (fun _ _ _ h => h) (Or.inl ⟨by rfl, ?_⟩) hHeld ?_
              · intro w' hSw
                have k0 : w'.cell? ⟨w.heap.size + 1 + 1, k * 4, none⟩ = some (.int .u8 op) := (cell_of_row w' _ _ _ _ _ hSw.base.l).trans l0.out
                have k1 : w'.cell? ⟨w.heap.size + 1 + 1, k * 4 + 1, none⟩ = some (.int .u8 ia) := (cell_of_row w' _ _ _ _ _ hSw.base.l).trans l1.out
                have k2 : w'.cell? ⟨w.heap.size + 1 + 1, k * 4 + 2, none⟩ = some (.int .u8 ib) := (cell_of_row w' _ _ _ _ _ hSw.base.l).trans l2.out
                have k3 : w'.cell? ⟨w.heap.size + 1 + 1, k * 4 + 3, none⟩ = some (.int .i32 0) := (cell_of_row w' _ _ _ _ _ hSw.base.l).trans l3.out
                go_simp
              try simp only [Act.put, List.setIfInBounds_toArray, List.set_cons_zero, List.set_cons_succ]
              refine wpAnyH_ready (rs := [11]) (by kernel_rfl) (by simp) ?_
              refine AllReadyH.cons (o := { dst := none, op := Op.store _ (Operand.tmp 11) (Operand.tmp 56), type := _, pos := "law.go:53", after := #[{ on := 9, ground := Ground.data }, { on := 7, ground := Ground.data }, { on := 5, ground := Ground.chain }, { on := 0, ground := Ground.phase }, { on := 1, ground := Ground.phase }, { on := 2, ground := Ground.phase }, { on := 3, ground := Ground.phase }, { on := 4, ground := Ground.phase }, { on := 5, ground := Ground.phase }, { on := 6, ground := Ground.phase }, { on := 7, ground := Ground.phase }, { on := 8, ground := Ground.textOnly Departure.lateStores }, { on := 9, ground := Ground.phase }, { on := 10, ground := Ground.phase }], guard := none }) rfl (fun K hK => ?_) AllReadyH.nil
              rw [if_pos (by rfl)]
              refine wp_store_st 25 _ _ rfl ba T rfl rfl 25 _ rZa (by rw [ZT.out]; kernel_rfl) (by rw [ZT.out]; rfl) OT.out ?_
              have rT := setRow_heap _ ba _ T _ _ rZa
              have rZe := (setRow_other _ _ _ T hne.symm).trans rZe
              refine hK.out _ _ (hHeld.row _ _ la (by intro p hp; cases hp)) (fun hHeld => ?_)
              clear hK K
              try simp only [Act.put, List.setIfInBounds_toArray, List.set_cons_zero, List.set_cons_succ]
              refine wpAnyH_ready (rs := [12]) (by kernel_rfl) (by simp) ?_
              refine AllReadyH.cons (o := { dst := none, op := Op.store _ (Operand.tmp 12) (Operand.tmp 57), type := _, pos := "law.go:53", after := #[{ on := 10, ground := Ground.data }, { on := 8, ground := Ground.data }, { on := 11, ground := Ground.chain }, { on := 0, ground := Ground.phase }, { on := 1, ground := Ground.phase }, { on := 2, ground := Ground.phase }, { on := 3, ground := Ground.phase }, { on := 4, ground := Ground.phase }, { on := 5, ground := Ground.phase }, { on := 6, ground := Ground.phase }, { on := 7, ground := Ground.phase }, { on := 8, ground := Ground.phase }, { on := 9, ground := Ground.phase }, { on := 10, ground := Ground.phase }, { on := 11, ground := Ground.phase }], guard := none }) rfl (fun K hK => ?_) AllReadyH.nil
              rw [if_pos (by rfl)]
              refine wp_store_st 29 _ _ rfl be ((efU f)) rfl rfl 29 _ rZe (by kernel_rfl) (by rfl) (by simp [efU, Value.oneCell']) ?_
              have rE := setRow_heap _ be _ ((efU f)) _ _ rZe
              have rT := (setRow_other _ _ _ ((efU f)) hne).trans rT
              refine hK.out _ _ (hHeld.row _ _ le (by intro p hp; cases hp)) (fun hHeld => ?_)
              clear hK K
              refine wpAnyH_done (by kernel_rfl) ?_ _
              exact ⟨ba, be, rfl, hHeld, rT, rE, hne, la, le⟩
        · skip
          go_simp
          have rZe : (v12.alloc (.cells #[.int .i64 0, .bool false, .bool false, .int .i64 0, .int .u32 0] 29)).heap[v12.heap.size]? = some (.cells #[.int .i64 0, .bool false, .bool false, .int .i64 0, .int .u32 0] 29 (0, 0)) := heap_new' rfl
          have le : w.heap.size + 1 + 1 < v12.heap.size := hHeld.base.size
          have sz : w.heap.size < (v12.alloc (.cells #[.int .i64 0, .bool false, .bool false, .int .i64 0, .int .u32 0] 29)).heap.size := by simp; omega
          refine hK.out _ _ (hHeld.next (below_alloc1 _ _)) (fun hHeld => ?_)
          clear hK K
          try simp only [Act.put, List.setIfInBounds_toArray, List.set_cons_zero, List.set_cons_succ]
          generalize v12.alloc (.cells #[.int .i64 0, .bool false, .bool false, .int .i64 0, .int .u32 0] 29) = v12_11 at hHeld rZe sz ⊢
          generalize v12.heap.size = be at rZe le ⊢
          refine wpAnyH_ready (rs := [5, 9]) (by kernel_rfl) (by simp) ?_
          refine (AllReadyH.cons (o := { dst := some 55, op := Op.call { callee := Callee.value (Operand.func _), args := #[Operand.tmp 50, Operand.tmp 54, Operand.const (Value.int IntKind.u32 0)], argTypes := _ }, type := _, pos := "law.go:53", after := #[{ on := 0, ground := Ground.data }, { on := 4, ground := Ground.data }], guard := none }) rfl (fun K hK => ?_) (AllReadyH.cons (o := { dst := some 11, op := Op.alloc 25, type := _, pos := "law.go:53", after := #[], guard := none }) rfl (fun K hK => ?_) AllReadyH.nil))
          · skip
            go_simp
            go_at_call 9
            refine (D1.out _).mono ?_
            rintro e v12_12 ⟨rfl, hb⟩
            have rZe := (hb.block _ (Array.getElem?_eq_some_iff.1 rZe).1).trans rZe
            have sz := Nat.lt_of_lt_of_le sz hb.size
            refine hK.out _ _ (hHeld.next hb) (fun hHeld => ?_)
            clear hK K hb
            try simp only [Act.put, List.setIfInBounds_toArray, List.set_cons_zero, List.set_cons_succ]
            refine wpAnyH_take (i := 6) (oi := { dst := some 49, op := Op.move (Operand.tmp 55), type := _, pos := "law.go:53", after := #[{ on := 5, ground := Ground.data }], guard := none }) (v := .tuple #[.agg T, .agg (efU f)]) rfl (by kernel_rfl) (by kernel_rfl) (by kernel_rfl) (fun _ _ _ h => h) (Or.inl ⟨by rfl, ?_⟩) hHeld ?_
            · intro w' hSw
              have k0 : w'.cell? ⟨w.heap.size + 1 + 1, k * 4, none⟩ = some (.int .u8 op) := (cell_of_row w' _ _ _ _ _ hSw.base.l).trans l0.out
              have k1 : w'.cell? ⟨w.heap.size + 1 + 1, k * 4 + 1, none⟩ = some (.int .u8 ia) := (cell_of_row w' _ _ _ _ _ hSw.base.l).trans l1.out
              have k2 : w'.cell? ⟨w.heap.size + 1 + 1, k * 4 + 2, none⟩ = some (.int .u8 ib) := (cell_of_row w' _ _ _ _ _ hSw.base.l).trans l2.out
              have k3 : w'.cell? ⟨w.heap.size + 1 + 1, k * 4 + 3, none⟩ = some (.int .i32 0) := (cell_of_row w' _ _ _ _ _ hSw.base.l).trans l3.out
              go_simp
            try simp only [Act.put, List.setIfInBounds_toArray, List.set_cons_zero, List.set_cons_succ]
            refine wpAnyH_take (i := 7) (oi := { dst := some 56, op := Op.extract (Operand.tmp 49) 0, type := _, pos := "law.go:53", after := #[{ on := 6, ground := Ground.data }], guard := none }) (v := .agg T) rfl (by kernel_rfl) (by kernel_rfl) (by kernel_rfl) (fun _ _ _ h => h) (Or.inl ⟨by rfl, ?_⟩) hHeld ?_
            · intro w' hSw
              have k0 : w'.cell? ⟨w.heap.size + 1 + 1, k * 4, none⟩ = some (.int .u8 op) := (cell_of_row w' _ _ _ _ _ hSw.base.l).trans l0.out
              have k1 : w'.cell? ⟨w.heap.size + 1 + 1, k * 4 + 1, none⟩ = some (.int .u8 ia) := (cell_of_row w' _ _ _ _ _ hSw.base.l).trans l1.out
              have k2 : w'.cell? ⟨w.heap.size + 1 + 1, k * 4 + 2, none⟩ = some (.int .u8 ib) := (cell_of_row w' _ _ _ _ _ hSw.base.l).trans l2.out
              have k3 : w'.cell? ⟨w.heap.size + 1 + 1, k * 4 + 3, none⟩ = some (.int .i32 0) := (cell_of_row w' _ _ _ _ _ hSw.base.l).trans l3.out
              go_simp
            try simp only [Act.put, List.setIfInBounds_toArray, List.set_cons_zero, List.set_cons_succ]
            refine wpAnyH_take (i := 8) (oi := { dst := some 57, op := Op.extract (Operand.tmp 49) 1, type := _, pos := "law.go:53", after := #[{ on := 6, ground := Ground.data }, { on := 11, ground := Ground.gcOnly Departure.lateStores }], guard := none }) (v := .agg (efU f)) rfl (by kernel_rfl) (by kernel_rfl) (by kernel_rfl) (fun _ _ _ h => h) (Or.inl ⟨by rfl, ?_⟩) hHeld ?_
            · intro w' hSw
              have k0 : w'.cell? ⟨w.heap.size + 1 + 1, k * 4, none⟩ = some (.int .u8 op) := (cell_of_row w' _ _ _ _ _ hSw.base.l).trans l0.out
              have k1 : w'.cell? ⟨w.heap.size + 1 + 1, k * 4 + 1, none⟩ = some (.int .u8 ia) := (cell_of_row w' _ _ _ _ _ hSw.base.l).trans l1.out
              have k2 : w'.cell? ⟨w.heap.size + 1 + 1, k * 4 + 2, none⟩ = some (.int .u8 ib) := (cell_of_row w' _ _ _ _ _ hSw.base.l).trans l2.out
              have k3 : w'.cell? ⟨w.heap.size + 1 + 1, k * 4 + 3, none⟩ = some (.int .i32 0) := (cell_of_row w' _ _ _ _ _ hSw.base.l).trans l3.out
              go_simp
            try simp only [Act.put, List.setIfInBounds_toArray, List.set_cons_zero, List.set_cons_succ]
            refine wpAnyH_ready (rs := [9]) (by kernel_rfl) (by simp) ?_
            refine (AllReadyH.cons (o := { dst := some 11, op := Op.alloc 25, type := _, pos := "law.go:53", after := #[], guard := none }) rfl (fun K hK => ?_) AllReadyH.nil)
            · skip
              go_simp
              have rZa : (v12_12.alloc (.cells #[.int .u32 0, .int .u32 0, .int .u32 0, .int .u32 0, .int .u32 0, .int .u32 0, .int .u32 0, .int .u32 0, .int .u32 0, .int .u32 0, .int .u32 0, .int .u32 0, .int .u32 0, .int .u32 0, .int .u32 0, .int .u32 0, .int .u32 0, .int .u32 0, .bool false] 25)).heap[v12_12.heap.size]? = some (.cells #[.int .u32 0, .int .u32 0, .int .u32 0, .int .u32 0, .int .u32 0, .int .u32 0, .int .u32 0, .int .u32 0, .int .u32 0, .int .u32 0, .int .u32 0, .int .u32 0, .int .u32 0, .int .u32 0, .int .u32 0, .int .u32 0, .int .u32 0, .int .u32 0, .bool false] 25 (0, 0)) := heap_new' rfl
              have hne : v12_12.heap.size ≠ be := (Nat.ne_of_lt (Array.getElem?_eq_some_iff.1 rZe).1).symm
              have rZe := heap_old' (o := .cells #[.int .u32 0, .int .u32 0, .int .u32 0, .int .u32 0, .int .u32 0, .int .u32 0, .int .u32 0, .int .u32 0, .int .u32 0, .int .u32 0, .int .u32 0, .int .u32 0, .int .u32 0, .int .u32 0, .int .u32 0, .int .u32 0, .int .u32 0, .int .u32 0, .bool false] 25) rZe
              have la : w.heap.size + 1 + 1 < v12_12.heap.size := hHeld.base.size
              have sz : w.heap.size < (v12_12.alloc (.cells #[.int .u32 0, .int .u32 0, .int .u32 0, .int .u32 0, .int .u32 0, .int .u32 0, .int .u32 0, .int .u32 0, .int .u32 0, .int .u32 0, .int .u32 0, .int .u32 0, .int .u32 0, .int .u32 0, .int .u32 0, .int .u32 0, .int .u32 0, .int .u32 0, .bool false] 25)).heap.size := by simp; omega
              refine hK.out _ _ (hHeld.next (below_alloc1 _ _)) (fun hHeld => ?_)
              clear hK K
              try simp only [Act.put, List.setIfInBounds_toArray, List.set_cons_zero, List.set_cons_succ]
              generalize v12_12.alloc (.cells #[.int .u32 0, .int .u32 0, .int .u32 0, .int .u32 0, .int .u32 0, .int .u32 0, .int .u32 0, .int .u32 0, .int .u32 0, .int .u32 0, .int .u32 0, .int .u32 0, .int .u32 0, .int .u32 0, .int .u32 0, .int .u32 0, .int .u32 0, .int .u32 0, .bool false] 25) = v12_13 at hHeld rZa rZe sz ⊢
              generalize v12_12.heap.size = ba at rZa la hne ⊢
              refine wpAnyH_ready (rs := [11]) (by kernel_rfl) (by simp) ?_
              refine AllReadyH.cons (o := { dst := none, op := Op.store _ (Operand.tmp 11) (Operand.tmp 56), type := _, pos := "law.go:53", after := #[{ on := 9, ground := Ground.data }, { on := 7, ground := Ground.data }, { on := 5, ground := Ground.chain }, { on := 0, ground := Ground.phase }, { on := 1, ground := Ground.phase }, { on := 2, ground := Ground.phase }, { on := 3, ground := Ground.phase }, { on := 4, ground := Ground.phase }, { on := 5, ground := Ground.phase }, { on := 6, ground := Ground.phase }, { on := 7, ground := Ground.phase }, { on := 8, ground := Ground.textOnly Departure.lateStores }, { on := 9, ground := Ground.phase }, { on := 10, ground := Ground.phase }], guard := none }) rfl (fun K hK => ?_) AllReadyH.nil
              rw [if_pos (by rfl)]
              refine wp_store_st 25 _ _ rfl ba T rfl rfl 25 _ rZa (by rw [ZT.out]; kernel_rfl) (by rw [ZT.out]; rfl) OT.out ?_
              have rT := setRow_heap _ ba _ T _ _ rZa
              have rZe := (setRow_other _ _ _ T hne.symm).trans rZe
              refine hK.out _ _ (hHeld.row _ _ la (by intro p hp; cases hp)) (fun hHeld => ?_)
              clear hK K
              try simp only [Act.put, List.setIfInBounds_toArray, List.set_cons_zero, List.set_cons_succ]
              refine wpAnyH_ready (rs := [12]) (by kernel_rfl) (by simp) ?_
              refine AllReadyH.cons (o := { dst := none, op := Op.store _ (Operand.tmp 12) (Operand.tmp 57), type := _, pos := "law.go:53", after := #[{ on := 10, ground := Ground.data }, { on := 8, ground := Ground.data }, { on := 11, ground := Ground.chain }, { on := 0, ground := Ground.phase }, { on := 1, ground := Ground.phase }, { on := 2, ground := Ground.phase }, { on := 3, ground := Ground.phase }, { on := 4, ground := Ground.phase }, { on := 5, ground := Ground.phase }, { on := 6, ground := Ground.phase }, { on := 7, ground := Ground.phase }, { on := 8, ground := Ground.phase }, { on := 9, ground := Ground.phase }, { on := 10, ground := Ground.phase }, { on := 11, ground := Ground.phase }], guard := none }) rfl (fun K hK => ?_) AllReadyH.nil
              rw [if_pos (by rfl)]
              refine wp_store_st 29 _ _ rfl be ((efU f)) rfl rfl 29 _ rZe (by kernel_rfl) (by rfl) (by simp [efU, Value.oneCell']) ?_
              have rE := setRow_heap _ be _ ((efU f)) _ _ rZe
              have rT := (setRow_other _ _ _ ((efU f)) hne).trans rT
              refine hK.out _ _ (hHeld.row _ _ le (by intro p hp; cases hp)) (fun hHeld => ?_)
              clear hK K
              refine wpAnyH_done (by kernel_rfl) ?_ _
              exact ⟨ba, be, rfl, hHeld, rT, rE, hne, la, le⟩
          · skip
            go_simp
            have rZa : (v12_11.alloc (.cells #[.int .u32 0, .int .u32 0, .int .u32 0, .int .u32 0, .int .u32 0, .int .u32 0, .int .u32 0, .int .u32 0, .int .u32 0, .int .u32 0, .int .u32 0, .int .u32 0, .int .u32 0, .int .u32 0, .int .u32 0, .int .u32 0, .int .u32 0, .int .u32 0, .bool false] 25)).heap[v12_11.heap.size]? = some (.cells #[.int .u32 0, .int .u32 0, .int .u32 0, .int .u32 0, .int .u32 0, .int .u32 0, .int .u32 0, .int .u32 0, .int .u32 0, .int .u32 0, .int .u32 0, .int .u32 0, .int .u32 0, .int .u32 0, .int .u32 0, .int .u32 0, .int .u32 0, .int .u32 0, .bool false] 25 (0, 0)) := heap_new' rfl
            have hne : v12_11.heap.size ≠ be := (Nat.ne_of_lt (Array.getElem?_eq_some_iff.1 rZe).1).symm
            have rZe := heap_old' (o := .cells #[.int .u32 0, .int .u32 0, .int .u32 0, .int .u32 0, .int .u32 0, .int .u32 0, .int .u32 0, .int .u32 0, .int .u32 0, .int .u32 0, .int .u32 0, .int .u32 0, .int .u32 0, .int .u32 0, .int .u32 0, .int .u32 0, .int .u32 0, .int .u32 0, .bool false] 25) rZe
            have la : w.heap.size + 1 + 1 < v12_11.heap.size := hHeld.base.size
            have sz : w.heap.size < (v12_11.alloc (.cells #[.int .u32 0, .int .u32 0, .int .u32 0, .int .u32 0, .int .u32 0, .int .u32 0, .int .u32 0, .int .u32 0, .int .u32 0, .int .u32 0, .int .u32 0, .int .u32 0, .int .u32 0, .int .u32 0, .int .u32 0, .int .u32 0, .int .u32 0, .int .u32 0, .bool false] 25)).heap.size := by simp; omega
            refine hK.out _ _ (hHeld.next (below_alloc1 _ _)) (fun hHeld => ?_)
            clear hK K
            try simp only [Act.put, List.setIfInBounds_toArray, List.set_cons_zero, List.set_cons_succ]
            generalize v12_11.alloc (.cells #[.int .u32 0, .int .u32 0, .int .u32 0, .int .u32 0, .int .u32 0, .int .u32 0, .int .u32 0, .int .u32 0, .int .u32 0, .int .u32 0, .int .u32 0, .int .u32 0, .int .u32 0, .int .u32 0, .int .u32 0, .int .u32 0, .int .u32 0, .int .u32 0, .bool false] 25) = v12_14 at hHeld rZa rZe sz ⊢
            generalize v12_11.heap.size = ba at rZa la hne ⊢
            refine wpAnyH_ready (rs := [5]) (by kernel_rfl) (by simp) ?_
            refine (AllReadyH.cons (o := { dst := some 55, op := Op.call { callee := Callee.value (Operand.func _), args := #[Operand.tmp 50, Operand.tmp 54, Operand.const (Value.int IntKind.u32 0)], argTypes := _ }, type := _, pos := "law.go:53", after := #[{ on := 0, ground := Ground.data }, { on := 4, ground := Ground.data }], guard := none }) rfl (fun K hK => ?_) AllReadyH.nil)
            · skip
              go_simp
              go_at_call 9
              refine (D1.out _).mono ?_
              rintro e v12_15 ⟨rfl, hb⟩
              have rZa := (hb.block _ (Array.getElem?_eq_some_iff.1 rZa).1).trans rZa
              have rZe := (hb.block _ (Array.getElem?_eq_some_iff.1 rZe).1).trans rZe
              have sz := Nat.lt_of_lt_of_le sz hb.size
              refine hK.out _ _ (hHeld.next hb) (fun hHeld => ?_)
              clear hK K hb
              try simp only [Act.put, List.setIfInBounds_toArray, List.set_cons_zero, List.set_cons_succ]
              refine wpAnyH_take (i := 6) (oi := { dst := some 49, op := Op.move (Operand.tmp 55), type := _, pos := "law.go:53", after := #[{ on := 5, ground := Ground.data }], guard := none }) (v := .tuple #[.agg T, .agg (efU f)]) rfl (by kernel_rfl) (by kernel_rfl) (by kernel_rfl) (fun _ _ _ h => h) (Or.inl ⟨by rfl, ?_⟩) hHeld ?_
              · intro w' hSw
                have k0 : w'.cell? ⟨w.heap.size + 1 + 1, k * 4, none⟩ = some (.int .u8 op) := (cell_of_row w' _ _ _ _ _ hSw.base.l).trans l0.out
                have k1 : w'.cell? ⟨w.heap.size + 1 + 1, k * 4 + 1, none⟩ = some (.int .u8 ia) := (cell_of_row w' _ _ _ _ _ hSw.base.l).trans l1.out
                have k2 : w'.cell? ⟨w.heap.size + 1 + 1, k * 4 + 2, none⟩ = some (.int .u8 ib) := (cell_of_row w' _ _ _ _ _ hSw.base.l).trans l2.out
                have k3 : w'.cell? ⟨w.heap.size + 1 + 1, k * 4 + 3, none⟩ = some (.int .i32 0) := (cell_of_row w' _ _ _ _ _ hSw.base.l).trans l3.out
                go_simp
              try simp only [Act.put, List.setIfInBounds_toArray, List.set_cons_zero, List.set_cons_succ]
              refine wpAnyH_take (i := 7) (oi := { dst := some 56, op := Op.extract (Operand.tmp 49) 0, type := _, pos := "law.go:53", after := #[{ on := 6, ground := Ground.data }], guard := none }) (v := .agg T) rfl (by kernel_rfl) (by kernel_rfl) (by kernel_rfl) (fun _ _ _ h => h) (Or.inl ⟨by rfl, ?_⟩) hHeld ?_
              · intro w' hSw
                have k0 : w'.cell? ⟨w.heap.size + 1 + 1, k * 4, none⟩ = some (.int .u8 op) := (cell_of_row w' _ _ _ _ _ hSw.base.l).trans l0.out
                have k1 : w'.cell? ⟨w.heap.size + 1 + 1, k * 4 + 1, none⟩ = some (.int .u8 ia) := (cell_of_row w' _ _ _ _ _ hSw.base.l).trans l1.out
                have k2 : w'.cell? ⟨w.heap.size + 1 + 1, k * 4 + 2, none⟩ = some (.int .u8 ib) := (cell_of_row w' _ _ _ _ _ hSw.base.l).trans l2.out
                have k3 : w'.cell? ⟨w.heap.size + 1 + 1, k * 4 + 3, none⟩ = some (.int .i32 0) := (cell_of_row w' _ _ _ _ _ hSw.base.l).trans l3.out
                go_simp
              try simp only [Act.put, List.setIfInBounds_toArray, List.set_cons_zero, List.set_cons_succ]
              refine wpAnyH_take (i := 8) (oi := { dst := some 57, op := Op.extract (Operand.tmp 49) 1, type := _, pos := "law.go:53", after := #[{ on := 6, ground := Ground.data }, { on := 11, ground := Ground.gcOnly Departure.lateStores }], guard := none }) (v := .agg (efU f)) rfl (by kernel_rfl) (by kernel_rfl) (by kernel_rfl) (fun _ _ _ h => h) (Or.inl ⟨by rfl, ?_⟩) hHeld ?_
              · intro w' hSw
                have k0 : w'.cell? ⟨w.heap.size + 1 + 1, k * 4, none⟩ = some (.int .u8 op) := (cell_of_row w' _ _ _ _ _ hSw.base.l).trans l0.out
                have k1 : w'.cell? ⟨w.heap.size + 1 + 1, k * 4 + 1, none⟩ = some (.int .u8 ia) := (cell_of_row w' _ _ _ _ _ hSw.base.l).trans l1.out
                have k2 : w'.cell? ⟨w.heap.size + 1 + 1, k * 4 + 2, none⟩ = some (.int .u8 ib) := (cell_of_row w' _ _ _ _ _ hSw.base.l).trans l2.out
                have k3 : w'.cell? ⟨w.heap.size + 1 + 1, k * 4 + 3, none⟩ = some (.int .i32 0) := (cell_of_row w' _ _ _ _ _ hSw.base.l).trans l3.out
                go_simp
              try simp only [Act.put, List.setIfInBounds_toArray, List.set_cons_zero, List.set_cons_succ]
              refine wpAnyH_ready (rs := [11]) (by kernel_rfl) (by simp) ?_
              refine AllReadyH.cons (o := { dst := none, op := Op.store _ (Operand.tmp 11) (Operand.tmp 56), type := _, pos := "law.go:53", after := #[{ on := 9, ground := Ground.data }, { on := 7, ground := Ground.data }, { on := 5, ground := Ground.chain }, { on := 0, ground := Ground.phase }, { on := 1, ground := Ground.phase }, { on := 2, ground := Ground.phase }, { on := 3, ground := Ground.phase }, { on := 4, ground := Ground.phase }, { on := 5, ground := Ground.phase }, { on := 6, ground := Ground.phase }, { on := 7, ground := Ground.phase }, { on := 8, ground := Ground.textOnly Departure.lateStores }, { on := 9, ground := Ground.phase }, { on := 10, ground := Ground.phase }], guard := none }) rfl (fun K hK => ?_) AllReadyH.nil
              rw [if_pos (by rfl)]
              refine wp_store_st 25 _ _ rfl ba T rfl rfl 25 _ rZa (by rw [ZT.out]; kernel_rfl) (by rw [ZT.out]; rfl) OT.out ?_
              have rT := setRow_heap _ ba _ T _ _ rZa
              have rZe := (setRow_other _ _ _ T hne.symm).trans rZe
              refine hK.out _ _ (hHeld.row _ _ la (by intro p hp; cases hp)) (fun hHeld => ?_)
              clear hK K
              try simp only [Act.put, List.setIfInBounds_toArray, List.set_cons_zero, List.set_cons_succ]
              refine wpAnyH_ready (rs := [12]) (by kernel_rfl) (by simp) ?_
              refine AllReadyH.cons (o := { dst := none, op := Op.store _ (Operand.tmp 12) (Operand.tmp 57), type := _, pos := "law.go:53", after := #[{ on := 10, ground := Ground.data }, { on := 8, ground := Ground.data }, { on := 11, ground := Ground.chain }, { on := 0, ground := Ground.phase }, { on := 1, ground := Ground.phase }, { on := 2, ground := Ground.phase }, { on := 3, ground := Ground.phase }, { on := 4, ground := Ground.phase }, { on := 5, ground := Ground.phase }, { on := 6, ground := Ground.phase }, { on := 7, ground := Ground.phase }, { on := 8, ground := Ground.phase }, { on := 9, ground := Ground.phase }, { on := 10, ground := Ground.phase }, { on := 11, ground := Ground.phase }], guard := none }) rfl (fun K hK => ?_) AllReadyH.nil
              rw [if_pos (by rfl)]
              refine wp_store_st 29 _ _ rfl be ((efU f)) rfl rfl 29 _ rZe (by kernel_rfl) (by rfl) (by simp [efU, Value.oneCell']) ?_
              have rE := setRow_heap _ be _ ((efU f)) _ _ rZe
              have rT := (setRow_other _ _ _ ((efU f)) hne).trans rT
              refine hK.out _ _ (hHeld.row _ _ le (by intro p hp; cases hp)) (fun hHeld => ?_)
              clear hK K
              refine wpAnyH_done (by kernel_rfl) ?_ _
              exact ⟨ba, be, rfl, hHeld, rT, rE, hne, la, le⟩
      · rintro a' w1 ⟨cT, cE, rfl, hX, rT, rE, hne0, lT, lE⟩
        simp only [Act.put, List.setIfInBounds_toArray, List.set_cons_zero, List.set_cons_succ]
        go_wp2_with fail
        refine wp_splitN (fun a0 a' w' => ∃ ba be : Nat, a' = (((((((((((a0.put (some 59) (.agg U)).put (some 60) (.slice (some ⟨w.heap.size + 1 + 1, 0, none⟩) 5 5)).put (some 61) (.int .i64 (k : Int))).put (some 62) (.pointer (some ⟨w.heap.size + 1 + 1, k * 4, none⟩))).put (some 63) (.agg #[.int .u8 op, .int .u8 ia, .int .u8 ib, .int .i32 0])).put (some 64) (.tuple #[.agg V, .agg (efU g)])).put (some 58) (.tuple #[.agg V, .agg (efU g)])).put (some 65) (.agg V)).put (some 66) (.agg ((efU g)))).put (some 13) (.pointer (some ⟨ba, 0, none⟩))).put (some 14) (.pointer (some ⟨be, 0, none⟩))) ∧ UlX w S U (lU (a % 8) (b % 8)) [(cT, .cells T 25 (0, 0)), (cE, .cells (efU f) 29 (0, 0))] w' ∧ w'.heap[ba]? = some (.cells V 25 (0, 0)) ∧ w'.heap[be]? = some (.cells ((efU g)) 29 (0, 0)) ∧ ba ≠ be ∧ w.heap.size + 1 + 1 < ba ∧ w.heap.size + 1 + 1 < be ∧ (cT < ba ∧ cE < ba) ∧ (cT < be ∧ cE < be)) ?_ ?_
        · refine wp_region_held_drew (S := fun w' => UlX w S U (lU (a % 8) (b % 8)) [(cT, .cells T 25 (0, 0)), (cE, .cells (efU f) 29 (0, 0))] w') (by kernel_rfl) (UlX.drew ⟨hX.base, fun p hp => by simp only [List.mem_cons, List.not_mem_nil, or_false] at hp; rcases hp with rfl | rfl; exact rT; exact rE⟩) (fun hHeld => ?_)
          have sz : w.heap.size < w1.drew.heap.size := by have := hHeld.base.size; omega
          generalize w1.drew = v13 at hHeld sz ⊢
          refine wpAnyH_take (i := 0) (oi := { dst := some 59, op := Op.load _ (Operand.tmp 8), type := _, pos := "law.go:54", after := #[], guard := none }) (v := .agg U) rfl (by kernel_rfl) (by kernel_rfl) (by kernel_rfl) (fun _ _ _ h => h) (yields_stU (by rfl) _ rfl (w.heap.size + 1) rfl U zU (fun w' h => h.base.u)) hHeld ?_
          try simp only [Act.put, List.setIfInBounds_toArray, List.set_cons_zero, List.set_cons_succ]
          refine wpAnyH_take (i := 1) (oi := { dst := some 60, op := Op.move (Operand.tmp 9), type := _, pos := "law.go:54", after := #[], guard := none }) (v := .slice (some ⟨w.heap.size + 1 + 1, 0, none⟩) 5 5) rfl (by kernel_rfl) (by kernel_rfl) (by kernel_rfl) (fun _ _ _ h => h) (Or.inl ⟨by rfl, ?_⟩) hHeld ?_
          · intro w' hSw
            have k0 : w'.cell? ⟨w.heap.size + 1 + 1, k * 4, none⟩ = some (.int .u8 op) := (cell_of_row w' _ _ _ _ _ hSw.base.l).trans l0.out
            have k1 : w'.cell? ⟨w.heap.size + 1 + 1, k * 4 + 1, none⟩ = some (.int .u8 ia) := (cell_of_row w' _ _ _ _ _ hSw.base.l).trans l1.out
            have k2 : w'.cell? ⟨w.heap.size + 1 + 1, k * 4 + 2, none⟩ = some (.int .u8 ib) := (cell_of_row w' _ _ _ _ _ hSw.base.l).trans l2.out
            have k3 : w'.cell? ⟨w.heap.size + 1 + 1, k * 4 + 3, none⟩ = some (.int .i32 0) := (cell_of_row w' _ _ _ _ _ hSw.base.l).trans l3.out
            go_simp
          try simp only [Act.put, List.setIfInBounds_toArray, List.set_cons_zero, List.set_cons_succ]
          refine wpAnyH_take (i := 2) (oi := { dst := some 61, op := Op.move (Operand.tmp 10), type := _, pos := "law.go:54", after := #[], guard := none }) (v := .int .i64 (k : Int)) rfl (by kernel_rfl) (by kernel_rfl) (by kernel_rfl) (fun _ _ _ h => h) (Or.inl ⟨by rfl, ?_⟩) hHeld ?_
          · intro w' hSw
            have k0 : w'.cell? ⟨w.heap.size + 1 + 1, k * 4, none⟩ = some (.int .u8 op) := (cell_of_row w' _ _ _ _ _ hSw.base.l).trans l0.out
            have k1 : w'.cell? ⟨w.heap.size + 1 + 1, k * 4 + 1, none⟩ = some (.int .u8 ia) := (cell_of_row w' _ _ _ _ _ hSw.base.l).trans l1.out
            have k2 : w'.cell? ⟨w.heap.size + 1 + 1, k * 4 + 2, none⟩ = some (.int .u8 ib) := (cell_of_row w' _ _ _ _ _ hSw.base.l).trans l2.out
            have k3 : w'.cell? ⟨w.heap.size + 1 + 1, k * 4 + 3, none⟩ = some (.int .i32 0) := (cell_of_row w' _ _ _ _ _ hSw.base.l).trans l3.out
            go_simp
          try simp only [Act.put, List.setIfInBounds_toArray, List.set_cons_zero, List.set_cons_succ]
          refine wpAnyH_take (i := 3) (oi := { dst := some 62, op := Op.indexAddr _ (Operand.tmp 60) (Operand.tmp 61), type := _, pos := "law.go:54", after := #[{ on := 1, ground := Ground.data }, { on := 2, ground := Ground.data }], guard := none }) (v := .pointer (some ⟨w.heap.size + 1 + 1, k * 4, none⟩)) rfl (by kernel_rfl) (by kernel_rfl) (by kernel_rfl) (fun _ _ _ h => h) (Or.inl ⟨by rfl, ?_⟩) hHeld ?_
          · intro w' hSw
            have k0 : w'.cell? ⟨w.heap.size + 1 + 1, k * 4, none⟩ = some (.int .u8 op) := (cell_of_row w' _ _ _ _ _ hSw.base.l).trans l0.out
            have k1 : w'.cell? ⟨w.heap.size + 1 + 1, k * 4 + 1, none⟩ = some (.int .u8 ia) := (cell_of_row w' _ _ _ _ _ hSw.base.l).trans l1.out
            have k2 : w'.cell? ⟨w.heap.size + 1 + 1, k * 4 + 2, none⟩ = some (.int .u8 ib) := (cell_of_row w' _ _ _ _ _ hSw.base.l).trans l2.out
            have k3 : w'.cell? ⟨w.heap.size + 1 + 1, k * 4 + 3, none⟩ = some (.int .i32 0) := (cell_of_row w' _ _ _ _ _ hSw.base.l).trans l3.out
            go_simp
          try simp only [Act.put, List.setIfInBounds_toArray, List.set_cons_zero, List.set_cons_succ]
          refine wpAnyH_take (i := 4) (oi := { dst := some 63, op := Op.load _ (Operand.tmp 62), type := _, pos := "law.go:54", after := #[{ on := 3, ground := Ground.data }], guard := none }) (v := .agg #[.int .u8 op, .int .u8 ia, .int .u8 ib, .int .i32 0]) rfl (by kernel_rfl) (by kernel_rfl) (by kernel_rfl) (fun _ _ _ h => h) (Or.inl ⟨by rfl, ?_⟩) hHeld ?_
          · intro w' hSw
            have k0 : w'.cell? ⟨w.heap.size + 1 + 1, k * 4, none⟩ = some (.int .u8 op) := (cell_of_row w' _ _ _ _ _ hSw.base.l).trans l0.out
            have k1 : w'.cell? ⟨w.heap.size + 1 + 1, k * 4 + 1, none⟩ = some (.int .u8 ia) := (cell_of_row w' _ _ _ _ _ hSw.base.l).trans l1.out
            have k2 : w'.cell? ⟨w.heap.size + 1 + 1, k * 4 + 2, none⟩ = some (.int .u8 ib) := (cell_of_row w' _ _ _ _ _ hSw.base.l).trans l2.out
            have k3 : w'.cell? ⟨w.heap.size + 1 + 1, k * 4 + 3, none⟩ = some (.int .i32 0) := (cell_of_row w' _ _ _ _ _ hSw.base.l).trans l3.out
            go_simp
          try simp only [Act.put, List.setIfInBounds_toArray, List.set_cons_zero, List.set_cons_succ]
          refine wpAnyH_ready (rs := [5, 9, 10]) (by kernel_rfl) (by simp) ?_
          refine (AllReadyH.cons (o := { dst := some 64, op := Op.call { callee := Callee.value (Operand.func _), args := #[Operand.tmp 59, Operand.tmp 63, Operand.const (Value.int IntKind.u32 0)], argTypes := _ }, type := _, pos := "law.go:54", after := #[{ on := 0, ground := Ground.data }, { on := 4, ground := Ground.data }], guard := none }) rfl (fun K hK => ?_) (AllReadyH.cons (o := { dst := some 13, op := Op.alloc 25, type := _, pos := "law.go:54", after := #[], guard := none }) rfl (fun K hK => ?_) (AllReadyH.cons (o := { dst := some 14, op := Op.alloc 29, type := _, pos := "law.go:54", after := #[], guard := none }) rfl (fun K hK => ?_) AllReadyH.nil)))
          · skip
            go_simp
            go_at_call 9
            refine (D2.out _).mono ?_
            rintro e v13_1 ⟨rfl, hb⟩
            have sz := Nat.lt_of_lt_of_le sz hb.size
            refine hK.out _ _ (hHeld.next hb) (fun hHeld => ?_)
            clear hK K hb
            try simp only [Act.put, List.setIfInBounds_toArray, List.set_cons_zero, List.set_cons_succ]
            refine wpAnyH_take (i := 6) (oi := { dst := some 58, op := Op.move (Operand.tmp 64), type := _, pos := "law.go:54", after := #[{ on := 5, ground := Ground.data }], guard := none }) (v := .tuple #[.agg V, .agg (efU g)]) rfl (by kernel_rfl) (by kernel_rfl) (by kernel_rfl) (fun _ _ _ h => h) (Or.inl ⟨by rfl, ?_⟩) hHeld ?_
            · intro w' hSw
              have k0 : w'.cell? ⟨w.heap.size + 1 + 1, k * 4, none⟩ = some (.int .u8 op) := (cell_of_row w' _ _ _ _ _ hSw.base.l).trans l0.out
              have k1 : w'.cell? ⟨w.heap.size + 1 + 1, k * 4 + 1, none⟩ = some (.int .u8 ia) := (cell_of_row w' _ _ _ _ _ hSw.base.l).trans l1.out
              have k2 : w'.cell? ⟨w.heap.size + 1 + 1, k * 4 + 2, none⟩ = some (.int .u8 ib) := (cell_of_row w' _ _ _ _ _ hSw.base.l).trans l2.out
              have k3 : w'.cell? ⟨w.heap.size + 1 + 1, k * 4 + 3, none⟩ = some (.int .i32 0) := (cell_of_row w' _ _ _ _ _ hSw.base.l).trans l3.out
              go_simp
            try simp only [Act.put, List.setIfInBounds_toArray, List.set_cons_zero, List.set_cons_succ]
            refine wpAnyH_take (i := 7) (oi := { dst := some 65, op := Op.extract (Operand.tmp 58) 0, type := _, pos := "law.go:54", after := #[{ on := 6, ground := Ground.data }], guard := none }) (v := .agg V) rfl (by kernel_rfl) (by kernel_rfl) (by kernel_rfl) (fun _ _ _ h => h) (Or.inl ⟨by rfl, ?_⟩) hHeld ?_
            · intro w' hSw
              have k0 : w'.cell? ⟨w.heap.size + 1 + 1, k * 4, none⟩ = some (.int .u8 op) := (cell_of_row w' _ _ _ _ _ hSw.base.l).trans l0.out
              have k1 : w'.cell? ⟨w.heap.size + 1 + 1, k * 4 + 1, none⟩ = some (.int .u8 ia) := (cell_of_row w' _ _ _ _ _ hSw.base.l).trans l1.out
              have k2 : w'.cell? ⟨w.heap.size + 1 + 1, k * 4 + 2, none⟩ = some (.int .u8 ib) := (cell_of_row w' _ _ _ _ _ hSw.base.l).trans l2.out
              have k3 : w'.cell? ⟨w.heap.size + 1 + 1, k * 4 + 3, none⟩ = some (.int .i32 0) := (cell_of_row w' _ _ _ _ _ hSw.base.l).trans l3.out
              go_simp
            try simp only [Act.put, List.setIfInBounds_toArray, List.set_cons_zero, List.set_cons_succ]
            refine wpAnyH_take (i := 8) (oi := { dst := some 66, op := Op.extract (Operand.tmp 58) 1, type := _, pos := "law.go:54", after := #[{ on := 6, ground := Ground.data }, { on := 11, ground := Ground.gcOnly Departure.lateStores }], guard := none }) (v := .agg (efU g)) rfl (by kernel_rfl) (by kernel_rfl) (by kernel_rfl) (fun _ _ _ h => h) (Or.inl ⟨by rfl, ?_⟩) hHeld ?_
            · intro w' hSw
              have k0 : w'.cell? ⟨w.heap.size + 1 + 1, k * 4, none⟩ = some (.int .u8 op) := (cell_of_row w' _ _ _ _ _ hSw.base.l).trans l0.out
              have k1 : w'.cell? ⟨w.heap.size + 1 + 1, k * 4 + 1, none⟩ = some (.int .u8 ia) := (cell_of_row w' _ _ _ _ _ hSw.base.l).trans l1.out
              have k2 : w'.cell? ⟨w.heap.size + 1 + 1, k * 4 + 2, none⟩ = some (.int .u8 ib) := (cell_of_row w' _ _ _ _ _ hSw.base.l).trans l2.out
              have k3 : w'.cell? ⟨w.heap.size + 1 + 1, k * 4 + 3, none⟩ = some (.int .i32 0) := (cell_of_row w' _ _ _ _ _ hSw.base.l).trans l3.out
              go_simp
            try simp only [Act.put, List.setIfInBounds_toArray, List.set_cons_zero, List.set_cons_succ]
            refine wpAnyH_ready (rs := [9, 10]) (by kernel_rfl) (by simp) ?_
            refine (AllReadyH.cons (o := { dst := some 13, op := Op.alloc 25, type := _, pos := "law.go:54", after := #[], guard := none }) rfl (fun K hK => ?_) (AllReadyH.cons (o := { dst := some 14, op := Op.alloc 29, type := _, pos := "law.go:54", after := #[], guard := none }) rfl (fun K hK => ?_) AllReadyH.nil))
            · skip
              go_simp
              have rZa : (v13_1.alloc (.cells #[.int .u32 0, .int .u32 0, .int .u32 0, .int .u32 0, .int .u32 0, .int .u32 0, .int .u32 0, .int .u32 0, .int .u32 0, .int .u32 0, .int .u32 0, .int .u32 0, .int .u32 0, .int .u32 0, .int .u32 0, .int .u32 0, .int .u32 0, .int .u32 0, .bool false] 25)).heap[v13_1.heap.size]? = some (.cells #[.int .u32 0, .int .u32 0, .int .u32 0, .int .u32 0, .int .u32 0, .int .u32 0, .int .u32 0, .int .u32 0, .int .u32 0, .int .u32 0, .int .u32 0, .int .u32 0, .int .u32 0, .int .u32 0, .int .u32 0, .int .u32 0, .int .u32 0, .int .u32 0, .bool false] 25 (0, 0)) := heap_new' rfl
              have la : w.heap.size + 1 + 1 < v13_1.heap.size := hHeld.base.size
              have xa : cT < v13_1.heap.size ∧ cE < v13_1.heap.size := ⟨(Array.getElem?_eq_some_iff.1 (hHeld.rows _ (List.mem_cons_self ..))).1, (Array.getElem?_eq_some_iff.1 (hHeld.rows _ (List.mem_cons_of_mem _ (List.mem_cons_self ..)))).1⟩
              have sz : w.heap.size < (v13_1.alloc (.cells #[.int .u32 0, .int .u32 0, .int .u32 0, .int .u32 0, .int .u32 0, .int .u32 0, .int .u32 0, .int .u32 0, .int .u32 0, .int .u32 0, .int .u32 0, .int .u32 0, .int .u32 0, .int .u32 0, .int .u32 0, .int .u32 0, .int .u32 0, .int .u32 0, .bool false] 25)).heap.size := by simp; omega
              refine hK.out _ _ (hHeld.next (below_alloc1 _ _)) (fun hHeld => ?_)
              clear hK K
              try simp only [Act.put, List.setIfInBounds_toArray, List.set_cons_zero, List.set_cons_succ]
              generalize v13_1.alloc (.cells #[.int .u32 0, .int .u32 0, .int .u32 0, .int .u32 0, .int .u32 0, .int .u32 0, .int .u32 0, .int .u32 0, .int .u32 0, .int .u32 0, .int .u32 0, .int .u32 0, .int .u32 0, .int .u32 0, .int .u32 0, .int .u32 0, .int .u32 0, .int .u32 0, .bool false] 25) = v13_2 at hHeld rZa sz ⊢
              generalize v13_1.heap.size = ba at rZa la xa ⊢
              refine wpAnyH_ready (rs := [10]) (by kernel_rfl) (by simp) ?_
              refine (AllReadyH.cons (o := { dst := some 14, op := Op.alloc 29, type := _, pos := "law.go:54", after := #[], guard := none }) rfl (fun K hK => ?_) AllReadyH.nil)
              · skip
                go_simp
                have rZe : (v13_2.alloc (.cells #[.int .i64 0, .bool false, .bool false, .int .i64 0, .int .u32 0] 29)).heap[v13_2.heap.size]? = some (.cells #[.int .i64 0, .bool false, .bool false, .int .i64 0, .int .u32 0] 29 (0, 0)) := heap_new' rfl
                have hne : ba ≠ v13_2.heap.size := Nat.ne_of_lt (Array.getElem?_eq_some_iff.1 rZa).1
                have rZa := heap_old' (o := .cells #[.int .i64 0, .bool false, .bool false, .int .i64 0, .int .u32 0] 29) rZa
                have le : w.heap.size + 1 + 1 < v13_2.heap.size := hHeld.base.size
                have xe : cT < v13_2.heap.size ∧ cE < v13_2.heap.size := ⟨(Array.getElem?_eq_some_iff.1 (hHeld.rows _ (List.mem_cons_self ..))).1, (Array.getElem?_eq_some_iff.1 (hHeld.rows _ (List.mem_cons_of_mem _ (List.mem_cons_self ..)))).1⟩
                have sz : w.heap.size < (v13_2.alloc (.cells #[.int .i64 0, .bool false, .bool false, .int .i64 0, .int .u32 0] 29)).heap.size := by simp; omega
                refine hK.out _ _ (hHeld.next (below_alloc1 _ _)) (fun hHeld => ?_)
                clear hK K
                try simp only [Act.put, List.setIfInBounds_toArray, List.set_cons_zero, List.set_cons_succ]
                generalize v13_2.alloc (.cells #[.int .i64 0, .bool false, .bool false, .int .i64 0, .int .u32 0] 29) = v13_3 at hHeld rZe rZa sz ⊢
                generalize v13_2.heap.size = be at rZe le xe hne ⊢
                refine wpAnyH_ready (rs := [11]) (by kernel_rfl) (by simp) ?_
                refine AllReadyH.cons (o := { dst := none, op := Op.store _ (Operand.tmp 13) (Operand.tmp 65), type := _, pos := "law.go:54", after := #[{ on := 9, ground := Ground.data }, { on := 7, ground := Ground.data }, { on := 5, ground := Ground.chain }, { on := 0, ground := Ground.phase }, { on := 1, ground := Ground.phase }, { on := 2, ground := Ground.phase }, { on := 3, ground := Ground.phase }, { on := 4, ground := Ground.phase }, { on := 5, ground := Ground.phase }, { on := 6, ground := Ground.phase }, { on := 7, ground := Ground.phase }, { on := 8, ground := Ground.textOnly Departure.lateStores }, { on := 9, ground := Ground.phase }, { on := 10, ground := Ground.phase }], guard := none }) rfl (fun K hK => ?_) AllReadyH.nil
                rw [if_pos (by rfl)]
                refine wp_store_st 25 _ _ rfl ba V rfl rfl 25 _ rZa (by rw [ZV.out]; kernel_rfl) (by rw [ZV.out]; rfl) OV.out ?_
                have rT := setRow_heap _ ba _ V _ _ rZa
                have rZe := (setRow_other _ _ _ V hne.symm).trans rZe
                refine hK.out _ _ (hHeld.row _ _ la (by intro p hp; simp only [List.mem_cons, List.not_mem_nil, or_false] at hp; rcases hp with rfl | rfl <;> simp <;> omega)) (fun hHeld => ?_)
                clear hK K
                try simp only [Act.put, List.setIfInBounds_toArray, List.set_cons_zero, List.set_cons_succ]
                refine wpAnyH_ready (rs := [12]) (by kernel_rfl) (by simp) ?_
                refine AllReadyH.cons (o := { dst := none, op := Op.store _ (Operand.tmp 14) (Operand.tmp 66), type := _, pos := "law.go:54", after := #[{ on := 10, ground := Ground.data }, { on := 8, ground := Ground.data }, { on := 11, ground := Ground.chain }, { on := 0, ground := Ground.phase }, { on := 1, ground := Ground.phase }, { on := 2, ground := Ground.phase }, { on := 3, ground := Ground.phase }, { on := 4, ground := Ground.phase }, { on := 5, ground := Ground.phase }, { on := 6, ground := Ground.phase }, { on := 7, ground := Ground.phase }, { on := 8, ground := Ground.phase }, { on := 9, ground := Ground.phase }, { on := 10, ground := Ground.phase }, { on := 11, ground := Ground.phase }], guard := none }) rfl (fun K hK => ?_) AllReadyH.nil
                rw [if_pos (by rfl)]
                refine wp_store_st 29 _ _ rfl be ((efU g)) rfl rfl 29 _ rZe (by kernel_rfl) (by rfl) (by simp [efU, Value.oneCell']) ?_
                have rE := setRow_heap _ be _ ((efU g)) _ _ rZe
                have rT := (setRow_other _ _ _ ((efU g)) hne).trans rT
                refine hK.out _ _ (hHeld.row _ _ le (by intro p hp; simp only [List.mem_cons, List.not_mem_nil, or_false] at hp; rcases hp with rfl | rfl <;> simp <;> omega)) (fun hHeld => ?_)
                clear hK K
                refine wpAnyH_done (by kernel_rfl) ?_ _
                exact ⟨ba, be, rfl, hHeld, rT, rE, hne, la, le, xa, xe⟩
            · skip
              go_simp
              have rZe : (v13_1.alloc (.cells #[.int .i64 0, .bool false, .bool false, .int .i64 0, .int .u32 0] 29)).heap[v13_1.heap.size]? = some (.cells #[.int .i64 0, .bool false, .bool false, .int .i64 0, .int .u32 0] 29 (0, 0)) := heap_new' rfl
              have le : w.heap.size + 1 + 1 < v13_1.heap.size := hHeld.base.size
              have xe : cT < v13_1.heap.size ∧ cE < v13_1.heap.size := ⟨(Array.getElem?_eq_some_iff.1 (hHeld.rows _ (List.mem_cons_self ..))).1, (Array.getElem?_eq_some_iff.1 (hHeld.rows _ (List.mem_cons_of_mem _ (List.mem_cons_self ..)))).1⟩
              have sz : w.heap.size < (v13_1.alloc (.cells #[.int .i64 0, .bool false, .bool false, .int .i64 0, .int .u32 0] 29)).heap.size := by simp; omega
              refine hK.out _ _ (hHeld.next (below_alloc1 _ _)) (fun hHeld => ?_)
              clear hK K
              try simp only [Act.put, List.setIfInBounds_toArray, List.set_cons_zero, List.set_cons_succ]
              generalize v13_1.alloc (.cells #[.int .i64 0, .bool false, .bool false, .int .i64 0, .int .u32 0] 29) = v13_4 at hHeld rZe sz ⊢
              generalize v13_1.heap.size = be at rZe le xe ⊢
              refine wpAnyH_ready (rs := [9]) (by kernel_rfl) (by simp) ?_
              refine (AllReadyH.cons (o := { dst := some 13, op := Op.alloc 25, type := _, pos := "law.go:54", after := #[], guard := none }) rfl (fun K hK => ?_) AllReadyH.nil)
              · skip
                go_simp
                have rZa : (v13_4.alloc (.cells #[.int .u32 0, .int .u32 0, .int .u32 0, .int .u32 0, .int .u32 0, .int .u32 0, .int .u32 0, .int .u32 0, .int .u32 0, .int .u32 0, .int .u32 0, .int .u32 0, .int .u32 0, .int .u32 0, .int .u32 0, .int .u32 0, .int .u32 0, .int .u32 0, .bool false] 25)).heap[v13_4.heap.size]? = some (.cells #[.int .u32 0, .int .u32 0, .int .u32 0, .int .u32 0, .int .u32 0, .int .u32 0, .int .u32 0, .int .u32 0, .int .u32 0, .int .u32 0, .int .u32 0, .int .u32 0, .int .u32 0, .int .u32 0, .int .u32 0, .int .u32 0, .int .u32 0, .int .u32 0, .bool false] 25 (0, 0)) := heap_new' rfl
                have hne : v13_4.heap.size ≠ be := (Nat.ne_of_lt (Array.getElem?_eq_some_iff.1 rZe).1).symm
                have rZe := heap_old' (o := .cells #[.int .u32 0, .int .u32 0, .int .u32 0, .int .u32 0, .int .u32 0, .int .u32 0, .int .u32 0, .int .u32 0, .int .u32 0, .int .u32 0, .int .u32 0, .int .u32 0, .int .u32 0, .int .u32 0, .int .u32 0, .int .u32 0, .int .u32 0, .int .u32 0, .bool false] 25) rZe
                have la : w.heap.size + 1 + 1 < v13_4.heap.size := hHeld.base.size
                have xa : cT < v13_4.heap.size ∧ cE < v13_4.heap.size := ⟨(Array.getElem?_eq_some_iff.1 (hHeld.rows _ (List.mem_cons_self ..))).1, (Array.getElem?_eq_some_iff.1 (hHeld.rows _ (List.mem_cons_of_mem _ (List.mem_cons_self ..)))).1⟩
                have sz : w.heap.size < (v13_4.alloc (.cells #[.int .u32 0, .int .u32 0, .int .u32 0, .int .u32 0, .int .u32 0, .int .u32 0, .int .u32 0, .int .u32 0, .int .u32 0, .int .u32 0, .int .u32 0, .int .u32 0, .int .u32 0, .int .u32 0, .int .u32 0, .int .u32 0, .int .u32 0, .int .u32 0, .bool false] 25)).heap.size := by simp; omega
                refine hK.out _ _ (hHeld.next (below_alloc1 _ _)) (fun hHeld => ?_)
                clear hK K
                try simp only [Act.put, List.setIfInBounds_toArray, List.set_cons_zero, List.set_cons_succ]
                generalize v13_4.alloc (.cells #[.int .u32 0, .int .u32 0, .int .u32 0, .int .u32 0, .int .u32 0, .int .u32 0, .int .u32 0, .int .u32 0, .int .u32 0, .int .u32 0, .int .u32 0, .int .u32 0, .int .u32 0, .int .u32 0, .int .u32 0, .int .u32 0, .int .u32 0, .int .u32 0, .bool false] 25) = v13_5 at hHeld rZa rZe sz ⊢
                generalize v13_4.heap.size = ba at rZa la xa hne ⊢
                refine wpAnyH_ready (rs := [11]) (by kernel_rfl) (by simp) ?_
                refine AllReadyH.cons (o := { dst := none, op := Op.store _ (Operand.tmp 13) (Operand.tmp 65), type := _, pos := "law.go:54", after := #[{ on := 9, ground := Ground.data }, { on := 7, ground := Ground.data }, { on := 5, ground := Ground.chain }, { on := 0, ground := Ground.phase }, { on := 1, ground := Ground.phase }, { on := 2, ground := Ground.phase }, { on := 3, ground := Ground.phase }, { on := 4, ground := Ground.phase }, { on := 5, ground := Ground.phase }, { on := 6, ground := Ground.phase }, { on := 7, ground := Ground.phase }, { on := 8, ground := Ground.textOnly Departure.lateStores }, { on := 9, ground := Ground.phase }, { on := 10, ground := Ground.phase }], guard := none }) rfl (fun K hK => ?_) AllReadyH.nil
                rw [if_pos (by rfl)]
                refine wp_store_st 25 _ _ rfl ba V rfl rfl 25 _ rZa (by rw [ZV.out]; kernel_rfl) (by rw [ZV.out]; rfl) OV.out ?_
                have rT := setRow_heap _ ba _ V _ _ rZa
                have rZe := (setRow_other _ _ _ V hne.symm).trans rZe
                refine hK.out _ _ (hHeld.row _ _ la (by intro p hp; simp only [List.mem_cons, List.not_mem_nil, or_false] at hp; rcases hp with rfl | rfl <;> simp <;> omega)) (fun hHeld => ?_)
                clear hK K
                try simp only [Act.put, List.setIfInBounds_toArray, List.set_cons_zero, List.set_cons_succ]
                refine wpAnyH_ready (rs := [12]) (by kernel_rfl) (by simp) ?_
                refine AllReadyH.cons (o := { dst := none, op := Op.store _ (Operand.tmp 14) (Operand.tmp 66), type := _, pos := "law.go:54", after := #[{ on := 10, ground := Ground.data }, { on := 8, ground := Ground.data }, { on := 11, ground := Ground.chain }, { on := 0, ground := Ground.phase }, { on := 1, ground := Ground.phase }, { on := 2, ground := Ground.phase }, { on := 3, ground := Ground.phase }, { on := 4, ground := Ground.phase }, { on := 5, ground := Ground.phase }, { on := 6, ground := Ground.phase }, { on := 7, ground := Ground.phase }, { on := 8, ground := Ground.phase }, { on := 9, ground := Ground.phase }, { on := 10, ground := Ground.phase }, { on := 11, ground := Ground.phase }], guard := none }) rfl (fun K hK => ?_) AllReadyH.nil
                rw [if_pos (by rfl)]
                refine wp_store_st 29 _ _ rfl be ((efU g)) rfl rfl 29 _ rZe (by kernel_rfl) (by rfl) (by simp [efU, Value.oneCell']) ?_
                have rE := setRow_heap _ be _ ((efU g)) _ _ rZe
                have rT := (setRow_other _ _ _ ((efU g)) hne).trans rT
                refine hK.out _ _ (hHeld.row _ _ le (by intro p hp; simp only [List.mem_cons, List.not_mem_nil, or_false] at hp; rcases hp with rfl | rfl <;> simp <;> omega)) (fun hHeld => ?_)
                clear hK K
                refine wpAnyH_done (by kernel_rfl) ?_ _
                exact ⟨ba, be, rfl, hHeld, rT, rE, hne, la, le, xa, xe⟩
          · skip
            go_simp
            have rZa : (v13.alloc (.cells #[.int .u32 0, .int .u32 0, .int .u32 0, .int .u32 0, .int .u32 0, .int .u32 0, .int .u32 0, .int .u32 0, .int .u32 0, .int .u32 0, .int .u32 0, .int .u32 0, .int .u32 0, .int .u32 0, .int .u32 0, .int .u32 0, .int .u32 0, .int .u32 0, .bool false] 25)).heap[v13.heap.size]? = some (.cells #[.int .u32 0, .int .u32 0, .int .u32 0, .int .u32 0, .int .u32 0, .int .u32 0, .int .u32 0, .int .u32 0, .int .u32 0, .int .u32 0, .int .u32 0, .int .u32 0, .int .u32 0, .int .u32 0, .int .u32 0, .int .u32 0, .int .u32 0, .int .u32 0, .bool false] 25 (0, 0)) := heap_new' rfl
            have la : w.heap.size + 1 + 1 < v13.heap.size := hHeld.base.size
            have xa : cT < v13.heap.size ∧ cE < v13.heap.size := ⟨(Array.getElem?_eq_some_iff.1 (hHeld.rows _ (List.mem_cons_self ..))).1, (Array.getElem?_eq_some_iff.1 (hHeld.rows _ (List.mem_cons_of_mem _ (List.mem_cons_self ..)))).1⟩
            have sz : w.heap.size < (v13.alloc (.cells #[.int .u32 0, .int .u32 0, .int .u32 0, .int .u32 0, .int .u32 0, .int .u32 0, .int .u32 0, .int .u32 0, .int .u32 0, .int .u32 0, .int .u32 0, .int .u32 0, .int .u32 0, .int .u32 0, .int .u32 0, .int .u32 0, .int .u32 0, .int .u32 0, .bool false] 25)).heap.size := by simp; omega
            refine hK.out _ _ (hHeld.next (below_alloc1 _ _)) (fun hHeld => ?_)
            clear hK K
            try simp only [Act.put, List.setIfInBounds_toArray, List.set_cons_zero, List.set_cons_succ]
            generalize v13.alloc (.cells #[.int .u32 0, .int .u32 0, .int .u32 0, .int .u32 0, .int .u32 0, .int .u32 0, .int .u32 0, .int .u32 0, .int .u32 0, .int .u32 0, .int .u32 0, .int .u32 0, .int .u32 0, .int .u32 0, .int .u32 0, .int .u32 0, .int .u32 0, .int .u32 0, .bool false] 25) = v13_6 at hHeld rZa sz ⊢
            generalize v13.heap.size = ba at rZa la xa ⊢
            refine wpAnyH_ready (rs := [5, 10]) (by kernel_rfl) (by simp) ?_
            refine (AllReadyH.cons (o := { dst := some 64, op := Op.call { callee := Callee.value (Operand.func _), args := #[Operand.tmp 59, Operand.tmp 63, Operand.const (Value.int IntKind.u32 0)], argTypes := _ }, type := _, pos := "law.go:54", after := #[{ on := 0, ground := Ground.data }, { on := 4, ground := Ground.data }], guard := none }) rfl (fun K hK => ?_) (AllReadyH.cons (o := { dst := some 14, op := Op.alloc 29, type := _, pos := "law.go:54", after := #[], guard := none }) rfl (fun K hK => ?_) AllReadyH.nil))
            · skip
              go_simp
              go_at_call 9
              refine (D2.out _).mono ?_
              rintro e v13_7 ⟨rfl, hb⟩
              have rZa := (hb.block _ (Array.getElem?_eq_some_iff.1 rZa).1).trans rZa
              have sz := Nat.lt_of_lt_of_le sz hb.size
              refine hK.out _ _ (hHeld.next hb) (fun hHeld => ?_)
              clear hK K hb
              try simp only [Act.put, List.setIfInBounds_toArray, List.set_cons_zero, List.set_cons_succ]
              refine wpAnyH_take (i := 6) (oi := { dst := some 58, op := Op.move (Operand.tmp 64), type := _, pos := "law.go:54", after := #[{ on := 5, ground := Ground.data }], guard := none }) (v := .tuple #[.agg V, .agg (efU g)]) rfl (by kernel_rfl) (by kernel_rfl) (by kernel_rfl) (fun _ _ _ h => h) (Or.inl ⟨by rfl, ?_⟩) hHeld ?_
              · intro w' hSw
                have k0 : w'.cell? ⟨w.heap.size + 1 + 1, k * 4, none⟩ = some (.int .u8 op) := (cell_of_row w' _ _ _ _ _ hSw.base.l).trans l0.out
                have k1 : w'.cell? ⟨w.heap.size + 1 + 1, k * 4 + 1, none⟩ = some (.int .u8 ia) := (cell_of_row w' _ _ _ _ _ hSw.base.l).trans l1.out
                have k2 : w'.cell? ⟨w.heap.size + 1 + 1, k * 4 + 2, none⟩ = some (.int .u8 ib) := (cell_of_row w' _ _ _ _ _ hSw.base.l).trans l2.out
                have k3 : w'.cell? ⟨w.heap.size + 1 + 1, k * 4 + 3, none⟩ = some (.int .i32 0) := (cell_of_row w' _ _ _ _ _ hSw.base.l).trans l3.out
                go_simp
              try simp only [Act.put, List.setIfInBounds_toArray, List.set_cons_zero, List.set_cons_succ]
              refine wpAnyH_take (i := 7) (oi := { dst := some 65, op := Op.extract (Operand.tmp 58) 0, type := _, pos := "law.go:54", after := #[{ on := 6, ground := Ground.data }], guard := none }) (v := .agg V) rfl (by kernel_rfl) (by kernel_rfl) (by kernel_rfl) (fun _ _ _ h => h) (Or.inl ⟨by rfl, ?_⟩) hHeld ?_
              · intro w' hSw
                have k0 : w'.cell? ⟨w.heap.size + 1 + 1, k * 4, none⟩ = some (.int .u8 op) := (cell_of_row w' _ _ _ _ _ hSw.base.l).trans l0.out
                have k1 : w'.cell? ⟨w.heap.size + 1 + 1, k * 4 + 1, none⟩ = some (.int .u8 ia) := (cell_of_row w' _ _ _ _ _ hSw.base.l).trans l1.out
                have k2 : w'.cell? ⟨w.heap.size + 1 + 1, k * 4 + 2, none⟩ = some (.int .u8 ib) := (cell_of_row w' _ _ _ _ _ hSw.base.l).trans l2.out
                have k3 : w'.cell? ⟨w.heap.size + 1 + 1, k * 4 + 3, none⟩ = some (.int .i32 0) := (cell_of_row w' _ _ _ _ _ hSw.base.l).trans l3.out
                go_simp
              try simp only [Act.put, List.setIfInBounds_toArray, List.set_cons_zero, List.set_cons_succ]
              refine wpAnyH_take (i := 8) (oi := { dst := some 66, op := Op.extract (Operand.tmp 58) 1, type := _, pos := "law.go:54", after := #[{ on := 6, ground := Ground.data }, { on := 11, ground := Ground.gcOnly Departure.lateStores }], guard := none }) (v := .agg (efU g)) rfl (by kernel_rfl) (by kernel_rfl) (by kernel_rfl) (fun _ _ _ h => h) (Or.inl ⟨by rfl, ?_⟩) hHeld ?_
              · intro w' hSw
                have k0 : w'.cell? ⟨w.heap.size + 1 + 1, k * 4, none⟩ = some (.int .u8 op) := (cell_of_row w' _ _ _ _ _ hSw.base.l).trans l0.out
                have k1 : w'.cell? ⟨w.heap.size + 1 + 1, k * 4 + 1, none⟩ = some (.int .u8 ia) := (cell_of_row w' _ _ _ _ _ hSw.base.l).trans l1.out
                have k2 : w'.cell? ⟨w.heap.size + 1 + 1, k * 4 + 2, none⟩ = some (.int .u8 ib) := (cell_of_row w' _ _ _ _ _ hSw.base.l).trans l2.out
                have k3 : w'.cell? ⟨w.heap.size + 1 + 1, k * 4 + 3, none⟩ = some (.int .i32 0) := (cell_of_row w' _ _ _ _ _ hSw.base.l).trans l3.out
                go_simp
              try simp only [Act.put, List.setIfInBounds_toArray, List.set_cons_zero, List.set_cons_succ]
              refine wpAnyH_ready (rs := [10]) (by kernel_rfl) (by simp) ?_
              refine (AllReadyH.cons (o := { dst := some 14, op := Op.alloc 29, type := _, pos := "law.go:54", after := #[], guard := none }) rfl (fun K hK => ?_) AllReadyH.nil)
              · skip
                go_simp
                have rZe : (v13_7.alloc (.cells #[.int .i64 0, .bool false, .bool false, .int .i64 0, .int .u32 0] 29)).heap[v13_7.heap.size]? = some (.cells #[.int .i64 0, .bool false, .bool false, .int .i64 0, .int .u32 0] 29 (0, 0)) := heap_new' rfl
                have hne : ba ≠ v13_7.heap.size := Nat.ne_of_lt (Array.getElem?_eq_some_iff.1 rZa).1
                have rZa := heap_old' (o := .cells #[.int .i64 0, .bool false, .bool false, .int .i64 0, .int .u32 0] 29) rZa
                have le : w.heap.size + 1 + 1 < v13_7.heap.size := hHeld.base.size
                have xe : cT < v13_7.heap.size ∧ cE < v13_7.heap.size := ⟨(Array.getElem?_eq_some_iff.1 (hHeld.rows _ (List.mem_cons_self ..))).1, (Array.getElem?_eq_some_iff.1 (hHeld.rows _ (List.mem_cons_of_mem _ (List.mem_cons_self ..)))).1⟩
                have sz : w.heap.size < (v13_7.alloc (.cells #[.int .i64 0, .bool false, .bool false, .int .i64 0, .int .u32 0] 29)).heap.size := by simp; omega
                refine hK.out _ _ (hHeld.next (below_alloc1 _ _)) (fun hHeld => ?_)
                clear hK K
                try simp only [Act.put, List.setIfInBounds_toArray, List.set_cons_zero, List.set_cons_succ]
                generalize v13_7.alloc (.cells #[.int .i64 0, .bool false, .bool false, .int .i64 0, .int .u32 0] 29) = v13_8 at hHeld rZe rZa sz ⊢
                generalize v13_7.heap.size = be at rZe le xe hne ⊢
                refine wpAnyH_ready (rs := [11]) (by kernel_rfl) (by simp) ?_
                refine AllReadyH.cons (o := { dst := none, op := Op.store _ (Operand.tmp 13) (Operand.tmp 65), type := _, pos := "law.go:54", after := #[{ on := 9, ground := Ground.data }, { on := 7, ground := Ground.data }, { on := 5, ground := Ground.chain }, { on := 0, ground := Ground.phase }, { on := 1, ground := Ground.phase }, { on := 2, ground := Ground.phase }, { on := 3, ground := Ground.phase }, { on := 4, ground := Ground.phase }, { on := 5, ground := Ground.phase }, { on := 6, ground := Ground.phase }, { on := 7, ground := Ground.phase }, { on := 8, ground := Ground.textOnly Departure.lateStores }, { on := 9, ground := Ground.phase }, { on := 10, ground := Ground.phase }], guard := none }) rfl (fun K hK => ?_) AllReadyH.nil
                rw [if_pos (by rfl)]
                refine wp_store_st 25 _ _ rfl ba V rfl rfl 25 _ rZa (by rw [ZV.out]; kernel_rfl) (by rw [ZV.out]; rfl) OV.out ?_
                have rT := setRow_heap _ ba _ V _ _ rZa
                have rZe := (setRow_other _ _ _ V hne.symm).trans rZe
                refine hK.out _ _ (hHeld.row _ _ la (by intro p hp; simp only [List.mem_cons, List.not_mem_nil, or_false] at hp; rcases hp with rfl | rfl <;> simp <;> omega)) (fun hHeld => ?_)
                clear hK K
                try simp only [Act.put, List.setIfInBounds_toArray, List.set_cons_zero, List.set_cons_succ]
                refine wpAnyH_ready (rs := [12]) (by kernel_rfl) (by simp) ?_
                refine AllReadyH.cons (o := { dst := none, op := Op.store _ (Operand.tmp 14) (Operand.tmp 66), type := _, pos := "law.go:54", after := #[{ on := 10, ground := Ground.data }, { on := 8, ground := Ground.data }, { on := 11, ground := Ground.chain }, { on := 0, ground := Ground.phase }, { on := 1, ground := Ground.phase }, { on := 2, ground := Ground.phase }, { on := 3, ground := Ground.phase }, { on := 4, ground := Ground.phase }, { on := 5, ground := Ground.phase }, { on := 6, ground := Ground.phase }, { on := 7, ground := Ground.phase }, { on := 8, ground := Ground.phase }, { on := 9, ground := Ground.phase }, { on := 10, ground := Ground.phase }, { on := 11, ground := Ground.phase }], guard := none }) rfl (fun K hK => ?_) AllReadyH.nil
                rw [if_pos (by rfl)]
                refine wp_store_st 29 _ _ rfl be ((efU g)) rfl rfl 29 _ rZe (by kernel_rfl) (by rfl) (by simp [efU, Value.oneCell']) ?_
                have rE := setRow_heap _ be _ ((efU g)) _ _ rZe
                have rT := (setRow_other _ _ _ ((efU g)) hne).trans rT
                refine hK.out _ _ (hHeld.row _ _ le (by intro p hp; simp only [List.mem_cons, List.not_mem_nil, or_false] at hp; rcases hp with rfl | rfl <;> simp <;> omega)) (fun hHeld => ?_)
                clear hK K
                refine wpAnyH_done (by kernel_rfl) ?_ _
                exact ⟨ba, be, rfl, hHeld, rT, rE, hne, la, le, xa, xe⟩
            · skip
              go_simp
              have rZe : (v13_6.alloc (.cells #[.int .i64 0, .bool false, .bool false, .int .i64 0, .int .u32 0] 29)).heap[v13_6.heap.size]? = some (.cells #[.int .i64 0, .bool false, .bool false, .int .i64 0, .int .u32 0] 29 (0, 0)) := heap_new' rfl
              have hne : ba ≠ v13_6.heap.size := Nat.ne_of_lt (Array.getElem?_eq_some_iff.1 rZa).1
              have rZa := heap_old' (o := .cells #[.int .i64 0, .bool false, .bool false, .int .i64 0, .int .u32 0] 29) rZa
              have le : w.heap.size + 1 + 1 < v13_6.heap.size := hHeld.base.size
              have xe : cT < v13_6.heap.size ∧ cE < v13_6.heap.size := ⟨(Array.getElem?_eq_some_iff.1 (hHeld.rows _ (List.mem_cons_self ..))).1, (Array.getElem?_eq_some_iff.1 (hHeld.rows _ (List.mem_cons_of_mem _ (List.mem_cons_self ..)))).1⟩
              have sz : w.heap.size < (v13_6.alloc (.cells #[.int .i64 0, .bool false, .bool false, .int .i64 0, .int .u32 0] 29)).heap.size := by simp; omega
              refine hK.out _ _ (hHeld.next (below_alloc1 _ _)) (fun hHeld => ?_)
              clear hK K
              try simp only [Act.put, List.setIfInBounds_toArray, List.set_cons_zero, List.set_cons_succ]
              generalize v13_6.alloc (.cells #[.int .i64 0, .bool false, .bool false, .int .i64 0, .int .u32 0] 29) = v13_9 at hHeld rZe rZa sz ⊢
              generalize v13_6.heap.size = be at rZe le xe hne ⊢
              refine wpAnyH_ready (rs := [5]) (by kernel_rfl) (by simp) ?_
              refine (AllReadyH.cons (o := { dst := some 64, op := Op.call { callee := Callee.value (Operand.func _), args := #[Operand.tmp 59, Operand.tmp 63, Operand.const (Value.int IntKind.u32 0)], argTypes := _ }, type := _, pos := "law.go:54", after := #[{ on := 0, ground := Ground.data }, { on := 4, ground := Ground.data }], guard := none }) rfl (fun K hK => ?_) AllReadyH.nil)
              · skip
                go_simp
                go_at_call 9
                refine (D2.out _).mono ?_
                rintro e v13_10 ⟨rfl, hb⟩
                have rZa := (hb.block _ (Array.getElem?_eq_some_iff.1 rZa).1).trans rZa
                have rZe := (hb.block _ (Array.getElem?_eq_some_iff.1 rZe).1).trans rZe
                have sz := Nat.lt_of_lt_of_le sz hb.size
                refine hK.out _ _ (hHeld.next hb) (fun hHeld => ?_)
                clear hK K hb
                try simp only [Act.put, List.setIfInBounds_toArray, List.set_cons_zero, List.set_cons_succ]
                refine wpAnyH_take (i := 6) (oi := { dst := some 58, op := Op.move (Operand.tmp 64), type := _, pos := "law.go:54", after := #[{ on := 5, ground := Ground.data }], guard := none }) (v := .tuple #[.agg V, .agg (efU g)]) rfl (by kernel_rfl) (by kernel_rfl) (by kernel_rfl) (fun _ _ _ h => h) (Or.inl ⟨by rfl, ?_⟩) hHeld ?_
                · intro w' hSw
                  have k0 : w'.cell? ⟨w.heap.size + 1 + 1, k * 4, none⟩ = some (.int .u8 op) := (cell_of_row w' _ _ _ _ _ hSw.base.l).trans l0.out
                  have k1 : w'.cell? ⟨w.heap.size + 1 + 1, k * 4 + 1, none⟩ = some (.int .u8 ia) := (cell_of_row w' _ _ _ _ _ hSw.base.l).trans l1.out
                  have k2 : w'.cell? ⟨w.heap.size + 1 + 1, k * 4 + 2, none⟩ = some (.int .u8 ib) := (cell_of_row w' _ _ _ _ _ hSw.base.l).trans l2.out
                  have k3 : w'.cell? ⟨w.heap.size + 1 + 1, k * 4 + 3, none⟩ = some (.int .i32 0) := (cell_of_row w' _ _ _ _ _ hSw.base.l).trans l3.out
                  go_simp
                try simp only [Act.put, List.setIfInBounds_toArray, List.set_cons_zero, List.set_cons_succ]
                refine wpAnyH_take (i := 7) (oi := { dst := some 65, op := Op.extract (Operand.tmp 58) 0, type := _, pos := "law.go:54", after := #[{ on := 6, ground := Ground.data }], guard := none }) (v := .agg V) rfl (by kernel_rfl) (by kernel_rfl) (by kernel_rfl) (fun _ _ _ h => h) (Or.inl ⟨by rfl, ?_⟩) hHeld ?_
                · intro w' hSw
                  have k0 : w'.cell? ⟨w.heap.size + 1 + 1, k * 4, none⟩ = some (.int .u8 op) := (cell_of_row w' _ _ _ _ _ hSw.base.l).trans l0.out
                  have k1 : w'.cell? ⟨w.heap.size + 1 + 1, k * 4 + 1, none⟩ = some (.int .u8 ia) := (cell_of_row w' _ _ _ _ _ hSw.base.l).trans l1.out
                  have k2 : w'.cell? ⟨w.heap.size + 1 + 1, k * 4 + 2, none⟩ = some (.int .u8 ib) := (cell_of_row w' _ _ _ _ _ hSw.base.l).trans l2.out
                  have k3 : w'.cell? ⟨w.heap.size + 1 + 1, k * 4 + 3, none⟩ = some (.int .i32 0) := (cell_of_row w' _ _ _ _ _ hSw.base.l).trans l3.out
                  go_simp
                try simp only [Act.put, List.setIfInBounds_toArray, List.set_cons_zero, List.set_cons_succ]
                refine wpAnyH_take (i := 8) (oi := { dst := some 66, op := Op.extract (Operand.tmp 58) 1, type := _, pos := "law.go:54", after := #[{ on := 6, ground := Ground.data }, { on := 11, ground := Ground.gcOnly Departure.lateStores }], guard := none }) (v := .agg (efU g)) rfl (by kernel_rfl) (by kernel_rfl) (by kernel_rfl) (fun _ _ _ h => h) (Or.inl ⟨by rfl, ?_⟩) hHeld ?_
                · intro w' hSw
                  have k0 : w'.cell? ⟨w.heap.size + 1 + 1, k * 4, none⟩ = some (.int .u8 op) := (cell_of_row w' _ _ _ _ _ hSw.base.l).trans l0.out
                  have k1 : w'.cell? ⟨w.heap.size + 1 + 1, k * 4 + 1, none⟩ = some (.int .u8 ia) := (cell_of_row w' _ _ _ _ _ hSw.base.l).trans l1.out
                  have k2 : w'.cell? ⟨w.heap.size + 1 + 1, k * 4 + 2, none⟩ = some (.int .u8 ib) := (cell_of_row w' _ _ _ _ _ hSw.base.l).trans l2.out
                  have k3 : w'.cell? ⟨w.heap.size + 1 + 1, k * 4 + 3, none⟩ = some (.int .i32 0) := (cell_of_row w' _ _ _ _ _ hSw.base.l).trans l3.out
                  go_simp
                try simp only [Act.put, List.setIfInBounds_toArray, List.set_cons_zero, List.set_cons_succ]
                refine wpAnyH_ready (rs := [11]) (by kernel_rfl) (by simp) ?_
                refine AllReadyH.cons (o := { dst := none, op := Op.store _ (Operand.tmp 13) (Operand.tmp 65), type := _, pos := "law.go:54", after := #[{ on := 9, ground := Ground.data }, { on := 7, ground := Ground.data }, { on := 5, ground := Ground.chain }, { on := 0, ground := Ground.phase }, { on := 1, ground := Ground.phase }, { on := 2, ground := Ground.phase }, { on := 3, ground := Ground.phase }, { on := 4, ground := Ground.phase }, { on := 5, ground := Ground.phase }, { on := 6, ground := Ground.phase }, { on := 7, ground := Ground.phase }, { on := 8, ground := Ground.textOnly Departure.lateStores }, { on := 9, ground := Ground.phase }, { on := 10, ground := Ground.phase }], guard := none }) rfl (fun K hK => ?_) AllReadyH.nil
                rw [if_pos (by rfl)]
                refine wp_store_st 25 _ _ rfl ba V rfl rfl 25 _ rZa (by rw [ZV.out]; kernel_rfl) (by rw [ZV.out]; rfl) OV.out ?_
                have rT := setRow_heap _ ba _ V _ _ rZa
                have rZe := (setRow_other _ _ _ V hne.symm).trans rZe
                refine hK.out _ _ (hHeld.row _ _ la (by intro p hp; simp only [List.mem_cons, List.not_mem_nil, or_false] at hp; rcases hp with rfl | rfl <;> simp <;> omega)) (fun hHeld => ?_)
                clear hK K
                try simp only [Act.put, List.setIfInBounds_toArray, List.set_cons_zero, List.set_cons_succ]
                refine wpAnyH_ready (rs := [12]) (by kernel_rfl) (by simp) ?_
                refine AllReadyH.cons (o := { dst := none, op := Op.store _ (Operand.tmp 14) (Operand.tmp 66), type := _, pos := "law.go:54", after := #[{ on := 10, ground := Ground.data }, { on := 8, ground := Ground.data }, { on := 11, ground := Ground.chain }, { on := 0, ground := Ground.phase }, { on := 1, ground := Ground.phase }, { on := 2, ground := Ground.phase }, { on := 3, ground := Ground.phase }, { on := 4, ground := Ground.phase }, { on := 5, ground := Ground.phase }, { on := 6, ground := Ground.phase }, { on := 7, ground := Ground.phase }, { on := 8, ground := Ground.phase }, { on := 9, ground := Ground.phase }, { on := 10, ground := Ground.phase }, { on := 11, ground := Ground.phase }], guard := none }) rfl (fun K hK => ?_) AllReadyH.nil
                rw [if_pos (by rfl)]
                refine wp_store_st 29 _ _ rfl be ((efU g)) rfl rfl 29 _ rZe (by kernel_rfl) (by rfl) (by simp [efU, Value.oneCell']) ?_
                have rE := setRow_heap _ be _ ((efU g)) _ _ rZe
                have rT := (setRow_other _ _ _ ((efU g)) hne).trans rT
                refine hK.out _ _ (hHeld.row _ _ le (by intro p hp; simp only [List.mem_cons, List.not_mem_nil, or_false] at hp; rcases hp with rfl | rfl <;> simp <;> omega)) (fun hHeld => ?_)
                clear hK K
                refine wpAnyH_done (by kernel_rfl) ?_ _
                exact ⟨ba, be, rfl, hHeld, rT, rE, hne, la, le, xa, xe⟩
          · skip
            go_simp
            have rZe : (v13.alloc (.cells #[.int .i64 0, .bool false, .bool false, .int .i64 0, .int .u32 0] 29)).heap[v13.heap.size]? = some (.cells #[.int .i64 0, .bool false, .bool false, .int .i64 0, .int .u32 0] 29 (0, 0)) := heap_new' rfl
            have le : w.heap.size + 1 + 1 < v13.heap.size := hHeld.base.size
            have xe : cT < v13.heap.size ∧ cE < v13.heap.size := ⟨(Array.getElem?_eq_some_iff.1 (hHeld.rows _ (List.mem_cons_self ..))).1, (Array.getElem?_eq_some_iff.1 (hHeld.rows _ (List.mem_cons_of_mem _ (List.mem_cons_self ..)))).1⟩
            have sz : w.heap.size < (v13.alloc (.cells #[.int .i64 0, .bool false, .bool false, .int .i64 0, .int .u32 0] 29)).heap.size := by simp; omega
            refine hK.out _ _ (hHeld.next (below_alloc1 _ _)) (fun hHeld => ?_)
            clear hK K
            try simp only [Act.put, List.setIfInBounds_toArray, List.set_cons_zero, List.set_cons_succ]
            generalize v13.alloc (.cells #[.int .i64 0, .bool false, .bool false, .int .i64 0, .int .u32 0] 29) = v13_11 at hHeld rZe sz ⊢
            generalize v13.heap.size = be at rZe le xe ⊢
            refine wpAnyH_ready (rs := [5, 9]) (by kernel_rfl) (by simp) ?_
            refine (AllReadyH.cons (o := { dst := some 64, op := Op.call { callee := Callee.value (Operand.func _), args := #[Operand.tmp 59, Operand.tmp 63, Operand.const (Value.int IntKind.u32 0)], argTypes := _ }, type := _, pos := "law.go:54", after := #[{ on := 0, ground := Ground.data }, { on := 4, ground := Ground.data }], guard := none }) rfl (fun K hK => ?_) (AllReadyH.cons (o := { dst := some 13, op := Op.alloc 25, type := _, pos := "law.go:54", after := #[], guard := none }) rfl (fun K hK => ?_) AllReadyH.nil))
            · skip
              go_simp
              go_at_call 9
              refine (D2.out _).mono ?_
              rintro e v13_12 ⟨rfl, hb⟩
              have rZe := (hb.block _ (Array.getElem?_eq_some_iff.1 rZe).1).trans rZe
              have sz := Nat.lt_of_lt_of_le sz hb.size
              refine hK.out _ _ (hHeld.next hb) (fun hHeld => ?_)
              clear hK K hb
              try simp only [Act.put, List.setIfInBounds_toArray, List.set_cons_zero, List.set_cons_succ]
              refine wpAnyH_take (i := 6) (oi := { dst := some 58, op := Op.move (Operand.tmp 64), type := _, pos := "law.go:54", after := #[{ on := 5, ground := Ground.data }], guard := none }) (v := .tuple #[.agg V, .agg (efU g)]) rfl (by kernel_rfl) (by kernel_rfl) (by kernel_rfl) (fun _ _ _ h => h) (Or.inl ⟨by rfl, ?_⟩) hHeld ?_
              · intro w' hSw
                have k0 : w'.cell? ⟨w.heap.size + 1 + 1, k * 4, none⟩ = some (.int .u8 op) := (cell_of_row w' _ _ _ _ _ hSw.base.l).trans l0.out
                have k1 : w'.cell? ⟨w.heap.size + 1 + 1, k * 4 + 1, none⟩ = some (.int .u8 ia) := (cell_of_row w' _ _ _ _ _ hSw.base.l).trans l1.out
                have k2 : w'.cell? ⟨w.heap.size + 1 + 1, k * 4 + 2, none⟩ = some (.int .u8 ib) := (cell_of_row w' _ _ _ _ _ hSw.base.l).trans l2.out
                have k3 : w'.cell? ⟨w.heap.size + 1 + 1, k * 4 + 3, none⟩ = some (.int .i32 0) := (cell_of_row w' _ _ _ _ _ hSw.base.l).trans l3.out
                go_simp
              try simp only [Act.put, List.setIfInBounds_toArray, List.set_cons_zero, List.set_cons_succ]
              refine wpAnyH_take (i := 7) (oi := { dst := some 65, op := Op.extract (Operand.tmp 58) 0, type := _, pos := "law.go:54", after := #[{ on := 6, ground := Ground.data }], guard := none }) (v := .agg V) rfl (by kernel_rfl) (by kernel_rfl) (by kernel_rfl) (fun _ _ _ h => h) (Or.inl ⟨by rfl, ?_⟩) hHeld ?_
              · intro w' hSw
                have k0 : w'.cell? ⟨w.heap.size + 1 + 1, k * 4, none⟩ = some (.int .u8 op) := (cell_of_row w' _ _ _ _ _ hSw.base.l).trans l0.out
                have k1 : w'.cell? ⟨w.heap.size + 1 + 1, k * 4 + 1, none⟩ = some (.int .u8 ia) := (cell_of_row w' _ _ _ _ _ hSw.base.l).trans l1.out
                have k2 : w'.cell? ⟨w.heap.size + 1 + 1, k * 4 + 2, none⟩ = some (.int .u8 ib) := (cell_of_row w' _ _ _ _ _ hSw.base.l).trans l2.out
                have k3 : w'.cell? ⟨w.heap.size + 1 + 1, k * 4 + 3, none⟩ = some (.int .i32 0) := (cell_of_row w' _ _ _ _ _ hSw.base.l).trans l3.out
                go_simp
              try simp only [Act.put, List.setIfInBounds_toArray, List.set_cons_zero, List.set_cons_succ]
              refine wpAnyH_take (i := 8) (oi := { dst := some 66, op := Op.extract (Operand.tmp 58) 1, type := _, pos := "law.go:54", after := #[{ on := 6, ground := Ground.data }, { on := 11, ground := Ground.gcOnly Departure.lateStores }], guard := none }) (v := .agg (efU g)) rfl (by kernel_rfl) (by kernel_rfl) (by kernel_rfl) (fun _ _ _ h => h) (Or.inl ⟨by rfl, ?_⟩) hHeld ?_
              · intro w' hSw
                have k0 : w'.cell? ⟨w.heap.size + 1 + 1, k * 4, none⟩ = some (.int .u8 op) := (cell_of_row w' _ _ _ _ _ hSw.base.l).trans l0.out
                have k1 : w'.cell? ⟨w.heap.size + 1 + 1, k * 4 + 1, none⟩ = some (.int .u8 ia) := (cell_of_row w' _ _ _ _ _ hSw.base.l).trans l1.out
                have k2 : w'.cell? ⟨w.heap.size + 1 + 1, k * 4 + 2, none⟩ = some (.int .u8 ib) := (cell_of_row w' _ _ _ _ _ hSw.base.l).trans l2.out
                have k3 : w'.cell? ⟨w.heap.size + 1 + 1, k * 4 + 3, none⟩ = some (.int .i32 0) := (cell_of_row w' _ _ _ _ _ hSw.base.l).trans l3.out
                go_simp
              try simp only [Act.put, List.setIfInBounds_toArray, List.set_cons_zero, List.set_cons_succ]
              refine wpAnyH_ready (rs := [9]) (by kernel_rfl) (by simp) ?_
              refine (AllReadyH.cons (o := { dst := some 13, op := Op.alloc 25, type := _, pos := "law.go:54", after := #[], guard := none }) rfl (fun K hK => ?_) AllReadyH.nil)
              · skip
                go_simp
                have rZa : (v13_12.alloc (.cells #[.int .u32 0, .int .u32 0, .int .u32 0, .int .u32 0, .int .u32 0, .int .u32 0, .int .u32 0, .int .u32 0, .int .u32 0, .int .u32 0, .int .u32 0, .int .u32 0, .int .u32 0, .int .u32 0, .int .u32 0, .int .u32 0, .int .u32 0, .int .u32 0, .bool false] 25)).heap[v13_12.heap.size]? = some (.cells #[.int .u32 0, .int .u32 0, .int .u32 0, .int .u32 0, .int .u32 0, .int .u32 0, .int .u32 0, .int .u32 0, .int .u32 0, .int .u32 0, .int .u32 0, .int .u32 0, .int .u32 0, .int .u32 0, .int .u32 0, .int .u32 0, .int .u32 0, .int .u32 0, .bool false] 25 (0, 0)) := heap_new' rfl
                have hne : v13_12.heap.size ≠ be := (Nat.ne_of_lt (Array.getElem?_eq_some_iff.1 rZe).1).symm
                have rZe := heap_old' (o := .cells #[.int .u32 0, .int .u32 0, .int .u32 0, .int .u32 0, .int .u32 0, .int .u32 0, .int .u32 0, .int .u32 0, .int .u32 0, .int .u32 0, .int .u32 0, .int .u32 0, .int .u32 0, .int .u32 0, .int .u32 0, .int .u32 0, .int .u32 0, .int .u32 0, .bool false] 25) rZe
                have la : w.heap.size + 1 + 1 < v13_12.heap.size := hHeld.base.size
                have xa : cT < v13_12.heap.size ∧ cE < v13_12.heap.size := ⟨(Array.getElem?_eq_some_iff.1 (hHeld.rows _ (List.mem_cons_self ..))).1, (Array.getElem?_eq_some_iff.1 (hHeld.rows _ (List.mem_cons_of_mem _ (List.mem_cons_self ..)))).1⟩
                have sz : w.heap.size < (v13_12.alloc (.cells #[.int .u32 0, .int .u32 0, .int .u32 0, .int .u32 0, .int .u32 0, .int .u32 0, .int .u32 0, .int .u32 0, .int .u32 0, .int .u32 0, .int .u32 0, .int .u32 0, .int .u32 0, .int .u32 0, .int .u32 0, .int .u32 0, .int .u32 0, .int .u32 0, .bool false] 25)).heap.size := by simp; omega
                refine hK.out _ _ (hHeld.next (below_alloc1 _ _)) (fun hHeld => ?_)
                clear hK K
                try simp only [Act.put, List.setIfInBounds_toArray, List.set_cons_zero, List.set_cons_succ]
                generalize v13_12.alloc (.cells #[.int .u32 0, .int .u32 0, .int .u32 0, .int .u32 0, .int .u32 0, .int .u32 0, .int .u32 0, .int .u32 0, .int .u32 0, .int .u32 0, .int .u32 0, .int .u32 0, .int .u32 0, .int .u32 0, .int .u32 0, .int .u32 0, .int .u32 0, .int .u32 0, .bool false] 25) = v13_13 at hHeld rZa rZe sz ⊢
                generalize v13_12.heap.size = ba at rZa la xa hne ⊢
                refine wpAnyH_ready (rs := [11]) (by kernel_rfl) (by simp) ?_
                refine AllReadyH.cons (o := { dst := none, op := Op.store _ (Operand.tmp 13) (Operand.tmp 65), type := _, pos := "law.go:54", after := #[{ on := 9, ground := Ground.data }, { on := 7, ground := Ground.data }, { on := 5, ground := Ground.chain }, { on := 0, ground := Ground.phase }, { on := 1, ground := Ground.phase }, { on := 2, ground := Ground.phase }, { on := 3, ground := Ground.phase }, { on := 4, ground := Ground.phase }, { on := 5, ground := Ground.phase }, { on := 6, ground := Ground.phase }, { on := 7, ground := Ground.phase }, { on := 8, ground := Ground.textOnly Departure.lateStores }, { on := 9, ground := Ground.phase }, { on := 10, ground := Ground.phase }], guard := none }) rfl (fun K hK => ?_) AllReadyH.nil
                rw [if_pos (by rfl)]
                refine wp_store_st 25 _ _ rfl ba V rfl rfl 25 _ rZa (by rw [ZV.out]; kernel_rfl) (by rw [ZV.out]; rfl) OV.out ?_
                have rT := setRow_heap _ ba _ V _ _ rZa
                have rZe := (setRow_other _ _ _ V hne.symm).trans rZe
                refine hK.out _ _ (hHeld.row _ _ la (by intro p hp; simp only [List.mem_cons, List.not_mem_nil, or_false] at hp; rcases hp with rfl | rfl <;> simp <;> omega)) (fun hHeld => ?_)
                clear hK K
                try simp only [Act.put, List.setIfInBounds_toArray, List.set_cons_zero, List.set_cons_succ]
                refine wpAnyH_ready (rs := [12]) (by kernel_rfl) (by simp) ?_
                refine AllReadyH.cons (o := { dst := none, op := Op.store _ (Operand.tmp 14) (Operand.tmp 66), type := _, pos := "law.go:54", after := #[{ on := 10, ground := Ground.data }, { on := 8, ground := Ground.data }, { on := 11, ground := Ground.chain }, { on := 0, ground := Ground.phase }, { on := 1, ground := Ground.phase }, { on := 2, ground := Ground.phase }, { on := 3, ground := Ground.phase }, { on := 4, ground := Ground.phase }, { on := 5, ground := Ground.phase }, { on := 6, ground := Ground.phase }, { on := 7, ground := Ground.phase }, { on := 8, ground := Ground.phase }, { on := 9, ground := Ground.phase }, { on := 10, ground := Ground.phase }, { on := 11, ground := Ground.phase }], guard := none }) rfl (fun K hK => ?_) AllReadyH.nil
                rw [if_pos (by rfl)]
                refine wp_store_st 29 _ _ rfl be ((efU g)) rfl rfl 29 _ rZe (by kernel_rfl) (by rfl) (by simp [efU, Value.oneCell']) ?_
                have rE := setRow_heap _ be _ ((efU g)) _ _ rZe
                have rT := (setRow_other _ _ _ ((efU g)) hne).trans rT
                refine hK.out _ _ (hHeld.row _ _ le (by intro p hp; simp only [List.mem_cons, List.not_mem_nil, or_false] at hp; rcases hp with rfl | rfl <;> simp <;> omega)) (fun hHeld => ?_)
                clear hK K
                refine wpAnyH_done (by kernel_rfl) ?_ _
                exact ⟨ba, be, rfl, hHeld, rT, rE, hne, la, le, xa, xe⟩
            · skip
              go_simp
              have rZa : (v13_11.alloc (.cells #[.int .u32 0, .int .u32 0, .int .u32 0, .int .u32 0, .int .u32 0, .int .u32 0, .int .u32 0, .int .u32 0, .int .u32 0, .int .u32 0, .int .u32 0, .int .u32 0, .int .u32 0, .int .u32 0, .int .u32 0, .int .u32 0, .int .u32 0, .int .u32 0, .bool false] 25)).heap[v13_11.heap.size]? = some (.cells #[.int .u32 0, .int .u32 0, .int .u32 0, .int .u32 0, .int .u32 0, .int .u32 0, .int .u32 0, .int .u32 0, .int .u32 0, .int .u32 0, .int .u32 0, .int .u32 0, .int .u32 0, .int .u32 0, .int .u32 0, .int .u32 0, .int .u32 0, .int .u32 0, .bool false] 25 (0, 0)) := heap_new' rfl
              have hne : v13_11.heap.size ≠ be := (Nat.ne_of_lt (Array.getElem?_eq_some_iff.1 rZe).1).symm
              have rZe := heap_old' (o := .cells #[.int .u32 0, .int .u32 0, .int .u32 0, .int .u32 0, .int .u32 0, .int .u32 0, .int .u32 0, .int .u32 0, .int .u32 0, .int .u32 0, .int .u32 0, .int .u32 0, .int .u32 0, .int .u32 0, .int .u32 0, .int .u32 0, .int .u32 0, .int .u32 0, .bool false] 25) rZe
              have la : w.heap.size + 1 + 1 < v13_11.heap.size := hHeld.base.size
              have xa : cT < v13_11.heap.size ∧ cE < v13_11.heap.size := ⟨(Array.getElem?_eq_some_iff.1 (hHeld.rows _ (List.mem_cons_self ..))).1, (Array.getElem?_eq_some_iff.1 (hHeld.rows _ (List.mem_cons_of_mem _ (List.mem_cons_self ..)))).1⟩
              have sz : w.heap.size < (v13_11.alloc (.cells #[.int .u32 0, .int .u32 0, .int .u32 0, .int .u32 0, .int .u32 0, .int .u32 0, .int .u32 0, .int .u32 0, .int .u32 0, .int .u32 0, .int .u32 0, .int .u32 0, .int .u32 0, .int .u32 0, .int .u32 0, .int .u32 0, .int .u32 0, .int .u32 0, .bool false] 25)).heap.size := by simp; omega
              refine hK.out _ _ (hHeld.next (below_alloc1 _ _)) (fun hHeld => ?_)
              clear hK K
              try simp only [Act.put, List.setIfInBounds_toArray, List.set_cons_zero, List.set_cons_succ]
              generalize v13_11.alloc (.cells #[.int .u32 0, .int .u32 0, .int .u32 0, .int .u32 0, .int .u32 0, .int .u32 0, .int .u32 0, .int .u32 0, .int .u32 0, .int .u32 0, .int .u32 0, .int .u32 0, .int .u32 0, .int .u32 0, .int .u32 0, .int .u32 0, .int .u32 0, .int .u32 0, .bool false] 25) = v13_14 at hHeld rZa rZe sz ⊢
              generalize v13_11.heap.size = ba at rZa la xa hne ⊢
              refine wpAnyH_ready (rs := [5]) (by kernel_rfl) (by simp) ?_
              refine (AllReadyH.cons (o := { dst := some 64, op := Op.call { callee := Callee.value (Operand.func _), args := #[Operand.tmp 59, Operand.tmp 63, Operand.const (Value.int IntKind.u32 0)], argTypes := _ }, type := _, pos := "law.go:54", after := #[{ on := 0, ground := Ground.data }, { on := 4, ground := Ground.data }], guard := none }) rfl (fun K hK => ?_) AllReadyH.nil)
              · skip
                go_simp
                go_at_call 9
                refine (D2.out _).mono ?_
                rintro e v13_15 ⟨rfl, hb⟩
                have rZa := (hb.block _ (Array.getElem?_eq_some_iff.1 rZa).1).trans rZa
                have rZe := (hb.block _ (Array.getElem?_eq_some_iff.1 rZe).1).trans rZe
                have sz := Nat.lt_of_lt_of_le sz hb.size
                refine hK.out _ _ (hHeld.next hb) (fun hHeld => ?_)
                clear hK K hb
                try simp only [Act.put, List.setIfInBounds_toArray, List.set_cons_zero, List.set_cons_succ]
                refine wpAnyH_take (i := 6) (oi := { dst := some 58, op := Op.move (Operand.tmp 64), type := _, pos := "law.go:54", after := #[{ on := 5, ground := Ground.data }], guard := none }) (v := .tuple #[.agg V, .agg (efU g)]) rfl (by kernel_rfl) (by kernel_rfl) (by kernel_rfl) (fun _ _ _ h => h) (Or.inl ⟨by rfl, ?_⟩) hHeld ?_
                · intro w' hSw
                  have k0 : w'.cell? ⟨w.heap.size + 1 + 1, k * 4, none⟩ = some (.int .u8 op) := (cell_of_row w' _ _ _ _ _ hSw.base.l).trans l0.out
                  have k1 : w'.cell? ⟨w.heap.size + 1 + 1, k * 4 + 1, none⟩ = some (.int .u8 ia) := (cell_of_row w' _ _ _ _ _ hSw.base.l).trans l1.out
                  have k2 : w'.cell? ⟨w.heap.size + 1 + 1, k * 4 + 2, none⟩ = some (.int .u8 ib) := (cell_of_row w' _ _ _ _ _ hSw.base.l).trans l2.out
                  have k3 : w'.cell? ⟨w.heap.size + 1 + 1, k * 4 + 3, none⟩ = some (.int .i32 0) := (cell_of_row w' _ _ _ _ _ hSw.base.l).trans l3.out
                  go_simp
                try simp only [Act.put, List.setIfInBounds_toArray, List.set_cons_zero, List.set_cons_succ]
                refine wpAnyH_take (i := 7) (oi := { dst := some 65, op := Op.extract (Operand.tmp 58) 0, type := _, pos := "law.go:54", after := #[{ on := 6, ground := Ground.data }], guard := none }) (v := .agg V) rfl (by kernel_rfl) (by kernel_rfl) (by kernel_rfl) (fun _ _ _ h => h) (Or.inl ⟨by rfl, ?_⟩) hHeld ?_
                · intro w' hSw
                  have k0 : w'.cell? ⟨w.heap.size + 1 + 1, k * 4, none⟩ = some (.int .u8 op) := (cell_of_row w' _ _ _ _ _ hSw.base.l).trans l0.out
                  have k1 : w'.cell? ⟨w.heap.size + 1 + 1, k * 4 + 1, none⟩ = some (.int .u8 ia) := (cell_of_row w' _ _ _ _ _ hSw.base.l).trans l1.out
                  have k2 : w'.cell? ⟨w.heap.size + 1 + 1, k * 4 + 2, none⟩ = some (.int .u8 ib) := (cell_of_row w' _ _ _ _ _ hSw.base.l).trans l2.out
                  have k3 : w'.cell? ⟨w.heap.size + 1 + 1, k * 4 + 3, none⟩ = some (.int .i32 0) := (cell_of_row w' _ _ _ _ _ hSw.base.l).trans l3.out
                  go_simp
                try simp only [Act.put, List.setIfInBounds_toArray, List.set_cons_zero, List.set_cons_succ]
                refine wpAnyH_take (i := 8) (oi := { dst := some 66, op := Op.extract (Operand.tmp 58) 1, type := _, pos := "law.go:54", after := #[{ on := 6, ground := Ground.data }, { on := 11, ground := Ground.gcOnly Departure.lateStores }], guard := none }) (v := .agg (efU g)) rfl (by kernel_rfl) (by kernel_rfl) (by kernel_rfl) (fun _ _ _ h => h) (Or.inl ⟨by rfl, ?_⟩) hHeld ?_
                · intro w' hSw
                  have k0 : w'.cell? ⟨w.heap.size + 1 + 1, k * 4, none⟩ = some (.int .u8 op) := (cell_of_row w' _ _ _ _ _ hSw.base.l).trans l0.out
                  have k1 : w'.cell? ⟨w.heap.size + 1 + 1, k * 4 + 1, none⟩ = some (.int .u8 ia) := (cell_of_row w' _ _ _ _ _ hSw.base.l).trans l1.out
                  have k2 : w'.cell? ⟨w.heap.size + 1 + 1, k * 4 + 2, none⟩ = some (.int .u8 ib) := (cell_of_row w' _ _ _ _ _ hSw.base.l).trans l2.out
                  have k3 : w'.cell? ⟨w.heap.size + 1 + 1, k * 4 + 3, none⟩ = some (.int .i32 0) := (cell_of_row w' _ _ _ _ _ hSw.base.l).trans l3.out
                  go_simp
                try simp only [Act.put, List.setIfInBounds_toArray, List.set_cons_zero, List.set_cons_succ]
                refine wpAnyH_ready (rs := [11]) (by kernel_rfl) (by simp) ?_
                refine AllReadyH.cons (o := { dst := none, op := Op.store _ (Operand.tmp 13) (Operand.tmp 65), type := _, pos := "law.go:54", after := #[{ on := 9, ground := Ground.data }, { on := 7, ground := Ground.data }, { on := 5, ground := Ground.chain }, { on := 0, ground := Ground.phase }, { on := 1, ground := Ground.phase }, { on := 2, ground := Ground.phase }, { on := 3, ground := Ground.phase }, { on := 4, ground := Ground.phase }, { on := 5, ground := Ground.phase }, { on := 6, ground := Ground.phase }, { on := 7, ground := Ground.phase }, { on := 8, ground := Ground.textOnly Departure.lateStores }, { on := 9, ground := Ground.phase }, { on := 10, ground := Ground.phase }], guard := none }) rfl (fun K hK => ?_) AllReadyH.nil
                rw [if_pos (by rfl)]
                refine wp_store_st 25 _ _ rfl ba V rfl rfl 25 _ rZa (by rw [ZV.out]; kernel_rfl) (by rw [ZV.out]; rfl) OV.out ?_
                have rT := setRow_heap _ ba _ V _ _ rZa
                have rZe := (setRow_other _ _ _ V hne.symm).trans rZe
                refine hK.out _ _ (hHeld.row _ _ la (by intro p hp; simp only [List.mem_cons, List.not_mem_nil, or_false] at hp; rcases hp with rfl | rfl <;> simp <;> omega)) (fun hHeld => ?_)
                clear hK K
                try simp only [Act.put, List.setIfInBounds_toArray, List.set_cons_zero, List.set_cons_succ]
                refine wpAnyH_ready (rs := [12]) (by kernel_rfl) (by simp) ?_
                refine AllReadyH.cons (o := { dst := none, op := Op.store _ (Operand.tmp 14) (Operand.tmp 66), type := _, pos := "law.go:54", after := #[{ on := 10, ground := Ground.data }, { on := 8, ground := Ground.data }, { on := 11, ground := Ground.chain }, { on := 0, ground := Ground.phase }, { on := 1, ground := Ground.phase }, { on := 2, ground := Ground.phase }, { on := 3, ground := Ground.phase }, { on := 4, ground := Ground.phase }, { on := 5, ground := Ground.phase }, { on := 6, ground := Ground.phase }, { on := 7, ground := Ground.phase }, { on := 8, ground := Ground.phase }, { on := 9, ground := Ground.phase }, { on := 10, ground := Ground.phase }, { on := 11, ground := Ground.phase }], guard := none }) rfl (fun K hK => ?_) AllReadyH.nil
                rw [if_pos (by rfl)]
                refine wp_store_st 29 _ _ rfl be ((efU g)) rfl rfl 29 _ rZe (by kernel_rfl) (by rfl) (by simp [efU, Value.oneCell']) ?_
                have rE := setRow_heap _ be _ ((efU g)) _ _ rZe
                have rT := (setRow_other _ _ _ ((efU g)) hne).trans rT
                refine hK.out _ _ (hHeld.row _ _ le (by intro p hp; simp only [List.mem_cons, List.not_mem_nil, or_false] at hp; rcases hp with rfl | rfl <;> simp <;> omega)) (fun hHeld => ?_)
                clear hK K
                refine wpAnyH_done (by kernel_rfl) ?_ _
                exact ⟨ba, be, rfl, hHeld, rT, rE, hne, la, le, xa, xe⟩
        · rintro a' w2 ⟨cV, cF, rfl, hY, rV, rF, hne1, lV, lF, ⟨n1, n2⟩, ⟨n3, n4⟩⟩
          have rT := hY.rows _ (List.mem_cons_self ..)
          have rE := hY.rows _ (List.mem_cons_of_mem _ (List.mem_cons_self ..))
          simp only at rT rE
          simp only [Act.put, List.setIfInBounds_toArray, List.set_cons_zero, List.set_cons_succ]
          have v9 : w2.cell? ⟨cV, 9, none⟩ = some (.int .u32 pv) := (cell_of_row w2 _ 9 _ _ _ rV).trans C9.out
          have p9 := row_freeu rV 9
          have e0 : w2.cell? ⟨cE, 0, none⟩ = some (.int .i64 0) := (cell_of_row w2 _ 0 _ _ _ rE).trans rfl
          have e1 : w2.cell? ⟨cE, 1, none⟩ = some (.bool f) := (cell_of_row w2 _ 1 _ _ _ rE).trans rfl
          have e2 : w2.cell? ⟨cE, 2, none⟩ = some (.bool false) := (cell_of_row w2 _ 2 _ _ _ rE).trans rfl
          have e3 : w2.cell? ⟨cE, 3, none⟩ = some (.int .i64 0) := (cell_of_row w2 _ 3 _ _ _ rE).trans rfl
          have e4 : w2.cell? ⟨cE, 4, none⟩ = some (.int .u32 0) := (cell_of_row w2 _ 4 _ _ _ rE).trans rfl
          have g0 : w2.cell? ⟨cF, 0, none⟩ = some (.int .i64 0) := (cell_of_row w2 _ 0 _ _ _ rF).trans rfl
          have g1 : w2.cell? ⟨cF, 1, none⟩ = some (.bool g) := (cell_of_row w2 _ 1 _ _ _ rF).trans rfl
          have g2 : w2.cell? ⟨cF, 2, none⟩ = some (.bool false) := (cell_of_row w2 _ 2 _ _ _ rF).trans rfl
          have g3 : w2.cell? ⟨cF, 3, none⟩ = some (.int .i64 0) := (cell_of_row w2 _ 3 _ _ _ rF).trans rfl
          have g4 : w2.cell? ⟨cF, 4, none⟩ = some (.int .u32 0) := (cell_of_row w2 _ 4 _ _ _ rF).trans rfl
          have RV := Lib.hid rV
          have RT := Lib.hid rT
          have HY := Lib.hid (fun v => hY.base.cellS cV 9 v lV)
          have n1 : cT ≠ cV := by omega
          have n2' : cE ≠ cV := by omega
          have n2'' : cV ≠ cE := by omega
          have n5 : cF ≠ cV := by omega
          have n5' : cV ≠ cF := by omega
          have hE := EQ.out
          have hEF : ∀ w, (binOp .eql 29 (.agg #[.int .i64 0, .bool true, .bool false, .int .i64 0, .int .u32 0]) (.agg #[.int .i64 0, .bool false, .bool false, .int .i64 0, .int .u32 0])).run Try.prog w = .ok (.bool false) w := fun _ => by kernel_rfl
          clear hX rV rF rT rE hY
          have hfg := DIF.out
          cases β
          · go_wp2_with (first
            | ((with_reducible show wpList _ _ _ (Oper.mk _ (.load 25 _) _ _ _ _ :: _) _ _); refine wpList_load_rowG (by rfl) 25 _ rfl _ rfl 25 T (0, 0) _ (by exact row_setOu RT.out n1 _ _) Try.underlying25 rfl (by rw [ZT.out]; kernel_rfl) ?_)
            | ((with_reducible show wpList _ _ _ (Oper.mk _ (.load 25 _) _ _ _ _ :: _) _ _); refine wpList_load_rowG (by rfl) 25 _ rfl _ rfl 25 V2 (0, 0) _ (by rw [← SET.out]; exact row_setCu RV.out _ _) Try.underlying25 rfl (by rw [Z2.out]; kernel_rfl) ?_))
            go_roundg (gk - 1)
            case measure => omega
            case rel => exact ⟨k + 1, by omega, rfl, Lib.hid (HY.out _)⟩
          · obtain ⟨rfl, rfl⟩ : f = true ∧ g = false := by rcases hfg with h | h; cases h; exact h
            go_wp2_with (first
            | ((with_reducible show wpList _ _ _ (Oper.mk _ (.load 25 _) _ _ _ _ :: _) _ _); refine wpList_load_rowG (by rfl) 25 _ rfl _ rfl 25 T (0, 0) _ (by exact row_setOu RT.out n1 _ _) Try.underlying25 rfl (by rw [ZT.out]; kernel_rfl) ?_)
            | ((with_reducible show wpList _ _ _ (Oper.mk _ (.load 25 _) _ _ _ _ :: _) _ _); refine wpList_load_rowG (by rfl) 25 _ rfl _ rfl 25 V2 (0, 0) _ (by rw [← SET.out]; exact row_setCu RV.out _ _) Try.underlying25 rfl (by rw [Z2.out]; kernel_rfl) ?_))
            go_roundg (gk - 1)
            case measure => omega
            case rel => exact ⟨k + 1, by omega, rfl, Lib.hid (HY.out _)⟩
    · have i1 : ¬ (k : Int) < 5 := by omega
      go_wp2_with fail
      refine (HW.out _).mono ?_
      rintro e w5 ⟨rfl, hb5⟩
      go_wp2_with fail
      go_ret
      exact ⟨rfl, HSr.out.below.trans (hb5.mono HSr.out.below.size)⟩
end Go.Proofs.Ytlgnhjalhfednaa
