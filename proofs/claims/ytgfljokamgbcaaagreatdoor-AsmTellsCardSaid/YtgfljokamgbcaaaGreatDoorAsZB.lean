/- asm.Assemble. (Written by mkAZB.py.) -/
import Derived.Test.YtgfljokamgbcaaaGreatDoorAsZ
import Derived.Test.YtgfljokamgbcaaaGreatDoorAsS
import Derived.Test.YtgfljokamgbcaaaGreatDoorAsT
import Derived.Test.YtgfljokamgbcaaaGreatDoorAsU
import Derived.LoopN
namespace Go.Proofs.YtgfljokamgbcaaaGreatDoor
open Go.RowKit Go.Shelf
set_option linter.unusedSimpArgs false
set_option linter.unusedVariables false
set_option maxRecDepth 100000
attribute [local go_sem] Oper.semAt_some

theorem loop_three {P : Program} {c : Code} {Q : Exit → Act → World → Prop} {a : Act} {w : World} (I : Nat → Act → World → Prop)
    (hr : ∀ i a w, i ≤ 2 → I i a w → c.wp P (Exit.then (fun a' w' => i < 2 ∧ I (i + 1) a' w') Q) a w) (h0 : I 0 a w) : (Code.loop c).wp P Q a w := by
  refine wp_loop_rounds 3 ?_
  have key : ∀ (j i : Nat) (a : Act) (w : World), i + j = 3 → i ≤ 2 → I i a w → Code.rounds P c Q j a w := by
    intro j
    induction j with
    | zero => intro i a w h h2 _; omega
    | succ j ih =>
      intro i a w h h2 hi
      rw [rounds_succ]
      refine Code.wp_mono (fun e a' w' hq => ?_) (hr i a w h2 hi)
      cases e <;> first | exact hq | exact ih (i + 1) a' w' (by omega) (by have := hq.1; omega) hq.2
  exact key 3 0 a w rfl (by decide) h0

/-- How far Assemble is. -/
def StgA (L : List UInt8) : Nat → St → Prop
  | 0, S => S = ⟨0, [], [], []⟩
  | 1, S => passF false ⟨0, [], [], []⟩ 0 (linesF L) = .ok S
  | _, S => asmF L = .ok S
theorem stg_next {L : List UInt8} (hl : longB L = false) {i : Nat} {S T : St} (hi : i < 2) (h : StgA L i S) (hp : passF (decide (i = 1)) { S with at' := 0 } 0 (linesF L) = .ok T) : StgA L (i + 1) T := by
  rcases i with _ | _ | i
  · have h : S = ⟨0, [], [], []⟩ := h
    subst h
    exact hp
  · have h : passF false ⟨0, [], [], []⟩ 0 (linesF L) = .ok S := h
    show asmF L = .ok T
    unfold asmF
    rw [hl, if_neg (by decide), h]
    exact hp
  · omega
theorem stg_bad {L : List UInt8} (hl : longB L = false) {i : Nat} {S : St} {x : Int × Int} (hi : i < 2) (h : StgA L i S) (hp : passF (decide (i = 1)) { S with at' := 0 } 0 (linesF L) = .error x) : asmF L = .error x := by
  unfold asmF
  rw [hl, if_neg (by decide)]
  rcases i with _ | _ | i
  · have h : S = ⟨0, [], [], []⟩ := h
    subst h
    have hp : passF false ⟨0, [], [], []⟩ 0 (linesF L) = .error x := hp
    rw [hp]
  · have h : passF false ⟨0, [], [], []⟩ 0 (linesF L) = .ok S := h
    rw [h]
    exact hp
  · omega
theorem stok0 {S : St} {k : Nat} (h : StOk S k) : StOk { S with at' := 0 } k := ⟨Int.le_refl _, by simp, h.bl, h.ml, h.ll, h.lb⟩

theorem lines_lenZ (L : List UInt8) (h : longB L = false) : (linesF L).length ≤ 513 := by
  unfold longB at h
  simp only [Bool.or_eq_false_iff, decide_eq_false_iff_not] at h
  unfold linesF
  rw [List.length_map, splitC_len]
  have := h.2
  omega
theorem st0_okZ : StOk ⟨0, [], [], []⟩ 0 := ⟨by decide, by decide, by simp, by simp, by simp, by simp⟩
theorem lines_words (L : List UInt8) (hL : L.length ≤ 8192) : ∀ ws ∈ linesF L, ws.length ≤ 8193 := by
  intro ws h
  unfold linesF at h
  obtain ⟨s, hs, rfl⟩ := List.mem_map.1 h
  exact (lineW_ok s 8192 (Nat.le_trans (splitC_le 10 L s hs) hL)).1

abbrev markD (D : Nat) : Deferred := { target := .collected D, args := #[] }
structure LpW (base R tb sb wk : Nat) (w0 w : World) : Prop where
  res : w.heap[R]? = some (.cells zPr 27 (0, 0))
  work : w.heap[tb]? = some (.cells #[.pointer (some ⟨wk, 0, none⟩)] 39 (0, 0))
  bools : w.heap[sb]? = some (.cells #[.bool false, .bool true] 4 (0, 0))
  below : Below base w0 w
theorem LpW.fr {base pb R tb sb wk : Nat} {w0 w w' : World} {es cl} (h : LpW base R tb sb wk w0 w) (hf : Fr base pb w w') (hp : w.heap[pb]? = some (.map es cl)) : LpW base R tb sb wk w0 w' :=
  ⟨hf.out _ _ h.res (by simp [OutO]) (fun e => by subst e; have := h.res; rw [hp] at this; cases this), hf.out _ _ h.work (by simp [OutO]) (fun e => by subst e; have := h.work; rw [hp] at this; cases this), hf.out _ _ h.bools (by simp [OutO]) (fun e => by subst e; have := h.bools; rw [hp] at this; cases this), h.below.trans hf.below⟩
theorem LpW.belowW {base R tb sb wk : Nat} {w0 w w' : World} (h : LpW base R tb sb wk w0 w) (hb : Below w.heap.size w w') (hs : base ≤ w.heap.size) : LpW base R tb sb wk w0 w' :=
  ⟨(hb.block _ (heap_ltA h.res)).trans h.res, (hb.block _ (heap_ltA h.work)).trans h.work, (hb.block _ (heap_ltA h.bools)).trans h.bools, h.below.trans (hb.mono hs)⟩
/-- At a return the marks are taken, one by one. -/
theorem leaves_marks {F : Fence} {n : Nat} {P : Program} {fn : Func} {tmps : Array Value} {R : Ending → World → Prop} {base : Nat} : ∀ (Ds : List Nat) (W : World), Ds.Pairwise (· ≠ ·) → (∀ D ∈ Ds, base ≤ D ∧ W.heap[D]? = some (Obj.deferred (some []))) →
    (∀ W', Below base W W' → (∀ k, k ∉ Ds → W'.heap[k]? = W.heap[k]?) → LeavesInM F n P fn tmps R [] .returning W') → LeavesInM F n P fn tmps R (Ds.map markD) .returning W
  | [], W, _, _, h => h W (Below.refl _ _) (fun _ _ => rfl)
  | D :: Ds, W, hp, hd, h => by
    rw [List.pairwise_cons] at hp
    obtain ⟨hb, hD⟩ := hd D List.mem_cons_self
    have hB : Below base W (W.putObj D (.deferred none)) := (Below.refl _ W).grown (grownBy_putObj' W D _) (by have := heap_ltA hD; omega) (fun k e => by cases e; omega)
    refine ⟨by simp, .inl ⟨_, _, rfl, run_takeDeferred hD, ?_⟩⟩
    refine leaves_marks Ds _ hp.2 (fun E hE => ⟨(hd E (List.mem_cons_of_mem _ hE)).1, (World.putObj_heap_other (fun e => hp.1 E hE (by omega))).trans (hd E (List.mem_cons_of_mem _ hE)).2⟩) (fun W' hb' hk => h W' (hB.trans hb') (fun k hk2 => ?_))
    rw [hk k (fun h => hk2 (List.mem_cons_of_mem _ h))]
    exact World.putObj_heap_other (fun e => hk2 (by rw [show k = D by omega]; exact List.mem_cons_self))
/-- What the loop over the two passes keeps. -/
def LpI (L : List UInt8) (s : ByteArray) (base R pb ob wk tb sb : Nat) (w0 : World) (i : Nat) (a : Act) (W : World) : Prop :=
  ∃ (S : St) (ag : Bool) (Ds : List Nat), i ≤ 2 ∧ StgA L i S ∧ StOk S (i * 1100) ∧ AsOk base wk pb ob ag S W ∧ LpW base R tb sb wk w0 W ∧ Ds.length = i ∧ Ds.Pairwise (· ≠ ·) ∧ (∀ D ∈ Ds, base ≤ D ∧ W.heap[D]? = some (Obj.deferred (some []))) ∧
    ∃ x1 x6 x7 x8 x9 x10 x11 x12 x13 x14 x15 x16 x17 x18 x22 x23 x24 x25 x26 x27 x28 x29 x30 x31 x32 x33 x34 x35 x36 x37 x38 x39 x40 x41 x42 x43 x44 x45 x46 x47 x48 x49 x50 x51 x52 : Value, a = { tmps := #[.string s, x1, .pointer (some ⟨R, 0, none⟩), .int .i64 0, .int .i64 0, .pointer (some ⟨tb, 0, none⟩), x6, x7, x8, x9, x10, x11, x12, x13, x14, x15, x16, x17, x18, .slice (some ⟨sb, 0, none⟩) 2 2, .int .i64 2, .int .i64 (i : Int), x22, x23, x24, x25, x26, x27, x28, x29, x30, x31, x32, x33, x34, x35, x36, x37, x38, x39, x40, x41, x42, x43, x44, x45, x46, x47, x48, x49, x50, x51, x52], defers := Ds.map markD }

/-- A round's variable. -/
def AxZ (tb bb yb : Nat) (x : LnE) (a : Act) (W : World) : Prop :=
  ∃ (lb : Nat), W.heap[lb]? = some (.cells #[.int .i64 x.n, .slice x.ao x.ws.length x.cap] 51 (0, 0)) ∧ ∃ y0 y1 y2 y3 y4 y6 y7 y11 y12 y13 y14 y15 y16 y17 y18 y19 y20 y21 y22 y23 y24 y25 y26 y27 y28 y29 y30 y31 y32 y33 y34 y35 y36 y37 y38 y39 y40 y41 y42 y43 y44 y45 y46 y47 y48 y49 y50 y51 y52 : Value, a = { tmps := #[y0, y1, y2, y3, y4, .pointer (some ⟨tb, 0, none⟩), y6, y7, .pointer (some ⟨bb, 0, none⟩), .pointer (some ⟨yb, 0, none⟩), .pointer (some ⟨lb, 0, none⟩), y11, y12, y13, y14, y15, y16, y17, y18, y19, y20, y21, y22, y23, y24, y25, y26, y27, y28, y29, y30, y31, y32, y33, y34, y35, y36, y37, y38, y39, y40, y41, y42, y43, y44, y45, y46, y47, y48, y49, y50, y51, y52], defers := [] }

set_option maxHeartbeats 32000000 in
theorem asm_in (n : Nat) (hn : 9 ≤ n) (L : List UInt8) (hL : L.length ≤ 9223372036854775807) (w : World) (HT : Hid (pTab w)) :
    CallsIn Fence.wide n Tryz.prog 5 #[.string ⟨L.toArray⟩] w (AsmP (asmF L) w) := by
  have h1 : 1 ≤ n := by omega
  have HLg := Lib.hid fun (W : World) => long_c L hL W
  have HOp := Lib.hid fun (W : World) (H : Hid (pTab W)) => operations_c W H
  have HLi := Lib.hid fun (W : World) => lines_c L W
  have hmm := @run_makeMap Tryz.prog
  generalize hs : (⟨L.toArray⟩ : ByteArray) = s at HLg HLi ⊢
  have HS := Lib.hid hs
  clear hs
  refine callsIn_of_wp_marks Tryz.func5 rfl trivial ?_ rfl
  simp only [Tryz.ntmps5, List.size_toArray, List.length_cons, List.length_nil, Nat.reduceAdd, Nat.reduceSub, Array.replicate_succ, Array.replicate_zero, List.push_toArray, List.append_toArray, List.nil_append, List.cons_append]
  refine wpIn_wide.2 ?_
  by_cases hlg : longB L = true
  · rw [hlg] at HLg
    have hR : asmF L = .error (0, 3) := by unfold asmF; rw [if_pos hlg]
    rw [hR]
    clear hR hlg HOp HLi hmm HS
    go_wp2_with fail
    refine (HLg.out _).mono ?_
    rintro e w1 ⟨rfl, rfl⟩
    go_wp2_with fail
    refine ⟨.tuple #[.agg zPr, .int .i64 0, .int .i64 3], ?_, ?_, rfl⟩
    · simp [results, Tryz.f5, go_sem]
    · exact (Below.refl _ _).alloc (Nat.le_refl _) _
  have hlf : longB L = false := by simpa using hlg
  have hLs : L.length ≤ 8192 := by
    unfold longB at hlf
    simp only [Bool.or_eq_false_iff, decide_eq_false_iff_not] at hlf
    omega
  rw [hlf] at HLg
  have HLF := Lib.hid hlf
  clear hlf hlg
  go_wp2_with fail
  refine (HLg.out _).mono ?_
  rintro e w1 ⟨rfl, rfl⟩
  go_wp2_with fail
  refine (HOp.out _ (Lib.hid (pTab_of (B := w.heap.size) (Lib.TabBelow.on HT.out (((Below.refl _ w).alloc (Nat.le_refl _) _).alloc (by simp) _)) (by simp; omega)))).mono ?_
  rintro e w2 ⟨rfl, hM, hB2⟩
  go_wp2_with fail
  obtain ⟨W0, hW0⟩ : ∃ x, x = ((w2.alloc (.cells #[.int .i64 0, .bool false, .map (some (w.heap.size + 1)), .map (some (w.heap.size + 1 + 1)), .slice none 0 0, .slice none 0 0, .slice none 0 0] 44)).alloc (.cells #[.pointer (some ⟨w2.heap.size, 0, none⟩)] 39)).alloc (.cells #[.bool false, .bool true] 4) := ⟨_, rfl⟩
  rw [← hW0]
  have hB2' : Below w.heap.size w w2 := ((((Below.refl _ w).alloc (Nat.le_refl _) _).alloc (by simp) _).trans (hB2.mono (by simp; omega)))
  have hs2 : w.heap.size + 1 + 1 ≤ w2.heap.size := by have := hB2.size; simpa using this
  have hB0 : Below w.heap.size w W0 := by rw [hW0]; exact ((hB2'.alloc (by omega) _).alloc (by simp; omega) _).alloc (by simp; omega) _
  have hb20 : Below w2.heap.size w2 W0 := by rw [hW0]; exact (((Below.refl _ w2).alloc (Nat.le_refl _) _).alloc (by simp) _).alloc (by simp; omega) _
  have hpm0 : SMap w2 3 .i64 (w.heap.size + 1) 0 (findL []) := by
    have h1 := ((SMap.made (w.alloc (.cells zPr 27)) 3 .i64).ext (g := findL []) (fun s => rfl)).below hB2
    simpa using h1
  have hM' : SMap w2 5 .u8 (w.heap.size + 1 + 1) 256 opF := by simpa using hM
  have hAs0 : AsOk w.heap.size w2.heap.size (w.heap.size + 1) (w.heap.size + 1 + 1) false ⟨0, [], [], []⟩ W0 := by
    refine AsOk.of ⟨_, _, _, ⟨?_, by omega, by omega, by omega, by omega, World.ownsRow_nil _ _ _ _, World.ownsRow_nil _ _ _ _, World.ownsRow_nil _ _ _ _, ?_, ?_⟩⟩ (by have := hB0.size; omega) st0_okZ (by decide) (Lib.TabBelow.on HT.out hB0)
    · rw [hW0]; exact heap_oldT (heap_oldT (heap_newT rfl))
    · exact hpm0.below hb20
    · exact hM'.below hb20
  have hLp0 : LpW w.heap.size w.heap.size (w2.heap.size + 1) (w2.heap.size + 1 + 1) w2.heap.size w W0 := by
    refine ⟨?_, ?_, ?_, hB0⟩
    · rw [hb20.block _ (by omega), hB2.block _ (by simp; omega)]
      exact heap_oldT (heap_newT rfl)
    · rw [hW0]; exact heap_oldT (heap_newT (by simp))
    · rw [hW0]; exact heap_newT (by simp)
  clear hpm0 hb20 hB0 hB2 hB2' hM hM' hW0
  refine loop_three (fun i a' W => LpI L s w.heap.size w.heap.size (w.heap.size + 1) (w.heap.size + 1 + 1) w2.heap.size (w2.heap.size + 1) (w2.heap.size + 1 + 1) w i a' W) ?round ?start
  case start => exact ⟨⟨0, [], [], []⟩, false, [], by decide, rfl, st0_okZ, hAs0, hLp0, rfl, List.Pairwise.nil, (fun D h => by cases h), _, _, _, _, _, _, _, _, _, _, _, _, _, _, _, _, _, _, _, _, _, _, _, _, _, _, _, _, _, _, _, _, _, _, _, _, _, _, _, _, _, _, _, _, _, rfl⟩
  case round =>
    intro i a W hi hI
    clear hAs0 hLp0 W0 HOp HLg
    generalize w2.heap.size + 1 + 1 = sb at hI
    generalize w2.heap.size + 1 = tb at hI
    generalize w2.heap.size = wk at hI
    generalize w.heap.size + 1 + 1 = ob at hI
    generalize w.heap.size + 1 = pb at hI
    obtain ⟨S, ag, Ds, -, hst, hok, hAs, hLp, hDl, hDp, hDk, x1, x6, x7, x8, x9, x10, x11, x12, x13, x14, x15, x16, x17, x18, x22, x23, x24, x25, x26, x27, x28, x29, x30, x31, x32, x33, x34, x35, x36, x37, x38, x39, x40, x41, x42, x43, x44, x45, x46, x47, x48, x49, x50, x51, x52, rfl⟩ := hI
    clear hmm
    obtain ⟨vB, vL, vM, hF⟩ := hAs.is
    have hbs := hAs.hs
    have hbD := hDk
    have htbk := hLp.work
    have htw : tb ≠ wk := fun e => by subst e; rw [hF.h] at htbk; cases htbk
    have hRw : w.heap.size ≠ wk := fun e => by have := hLp.res; rw [e, hF.h] at this; cases this
    have hRt : w.heap.size ≠ tb := fun e => by have := hLp.res; rw [e, htbk] at this; cases this
    have k0 := cell_of_row W tb 0 _ _ _ htbk
    by_cases c1 : i < 2
    · have i1 : (i : Int) < 2 := by omega
      obtain ⟨b, hb⟩ : ∃ b, b = decide (i = 1) := ⟨_, rfl⟩
      have hbc : W.cell? ⟨sb, i, none⟩ = some (.bool b) := by
        rw [cell_of_row W sb i _ _ _ hLp.bools, hb]
        rcases i with _ | _ | i
        · rfl
        · rfl
        · omega
      have hsbl := heap_ltA hLp.bools
      -- the pass's own world
      obtain ⟨W1, hW1⟩ : ∃ x, x = ((W.setCell ⟨wk, 1, none⟩ (.bool b)).setCell ⟨wk, 0, none⟩ (.int .i64 0)).drew := ⟨_, rfl⟩
      have hFa := hF.setAgain b
      have hFb := hFa.setAt 0
      have hF1 := hFb.drew
      have q1 : W.cell? ⟨wk, 1, none⟩ = some (.bool ag) := hF.cell 1
      have q2 := hF.frozen 1
      have q3 : W.cell? ⟨wk, 0, none⟩ = some (.int .i64 S.at') := hF.cell 0
      have q4 := hF.frozen 0
      have r1 := row_setOR (w := W) (b := tb) (c := wk) htbk htw 1 (.bool b)
      have r2 := row_setOR r1 htw 0 (.int .i64 0)
      have kT0 := Lib.hid (show W.drew.cell? ⟨tb, 0, none⟩ = some (.pointer (some ⟨wk, 0, none⟩)) from cell_of_row W.drew tb 0 _ _ _ htbk)
      have kT1 := Lib.hid (show (W.setCell ⟨wk, 1, none⟩ (.bool b)).drew.cell? ⟨tb, 0, none⟩ = some (.pointer (some ⟨wk, 0, none⟩)) from cell_of_row _ tb 0 _ _ _ r1)
      have kT2 := Lib.hid (show ((W.setCell ⟨wk, 1, none⟩ (.bool b)).setCell ⟨wk, 0, none⟩ (.int .i64 0)).drew.cell? ⟨tb, 0, none⟩ = some (.pointer (some ⟨wk, 0, none⟩)) from cell_of_row _ tb 0 _ _ _ r2)
      have hFr1 : Fr w.heap.size pb W W1 := by
        rw [hW1]
        exact ((Fr.setWk (.bool b) hF.h hF.le).trans (Fr.setWk (.int .i64 0) hFa.h hF.le)).trans (Fr.of_below (Below.refl _ _).drew (by simpa [World.setCell] using hbs))
      obtain ⟨es, cl, hpm⟩ := hF.pm.heap
      have hLp1 := hLp.fr hFr1 hpm
      have hA1 : AsOk w.heap.size wk pb ob b { S with at' := 0 } W1 := by
        rw [hW1] at hFr1 ⊢
        exact AsOk.of ⟨_, _, _, hF1⟩ (Nat.le_trans hbs hFr1.size) (stok0 hok) (by omega) (hAs.tab.on hFr1.below)
      have hDk1 : ∀ D ∈ Ds, w.heap.size ≤ D ∧ W1.heap[D]? = some (Obj.deferred (some [])) := fun D hD => ⟨(hDk D hD).1, hFr1.out _ _ (hDk D hD).2 trivial (fun e => by have := (hDk D hD).2; rw [e, hpm] at this; cases this)⟩
      have hsz1 : W1.heap.size = W.heap.size := by rw [hW1]; simp [World.setCell]
      have HH := Lib.hid (And.intro hLp1 (And.intro hA1 hDk1))
      have hok0 := Lib.hid (stok0 hok)
      have HSt := Lib.hid hst
      have HDD := Lib.hid (And.intro hDl hDp)
      have HBi := Lib.hid hb
      clear hb
      clear hbD hDk hDl hDp hst hok hLp1 hA1 hDk1 hFr1 hpm hLp hAs hF1 r1 r2 hi
      have hwkl := hF.lt
      clear hF hFa hFb
      go_wp2_with fail
      refine Code.wp_mono onlyQ_of ?_
      refine wp_region_held_drew (S := fun w' => w'.cell? ⟨tb, 0, none⟩ = some (.pointer (some ⟨wk, 0, none⟩))) (by kernel_rfl) kT0.out (fun hHeld => ?_)
      refine wpAnyH_take (i := 0) (oi := ⟨some 25, Op.load _ (Operand.tmp 5), _, _, _, none⟩) (v := .pointer (some ⟨wk, 0, none⟩)) rfl (by kernel_rfl) (by kernel_rfl) (by kernel_rfl) (fun _ _ _ h => h) (Or.inl ⟨by rfl, ?_⟩) hHeld ?_
      · intro w' hSw
        have hc : w'.cell? ⟨tb, 0, none⟩ = some (.pointer (some ⟨wk, 0, none⟩)) := hSw
        go_simp
      try simp only [Act.put, List.setIfInBounds_toArray, List.set_cons_zero, List.set_cons_succ]
      refine wpAnyH_take (i := 1) (oi := ⟨some 26, Op.load _ (Operand.tmp 5), _, _, _, none⟩) (v := .pointer (some ⟨wk, 0, none⟩)) rfl (by kernel_rfl) (by kernel_rfl) (by kernel_rfl) (fun _ _ _ h => h) (Or.inl ⟨by rfl, ?_⟩) hHeld ?_
      · intro w' hSw
        have hc : w'.cell? ⟨tb, 0, none⟩ = some (.pointer (some ⟨wk, 0, none⟩)) := hSw
        go_simp
      try simp only [Act.put, List.setIfInBounds_toArray, List.set_cons_zero, List.set_cons_succ]
      refine wpAnyH_take (i := 2) (oi := ⟨some 27, Op.move (Operand.tmp 7), _, _, _, none⟩) (v := .bool b) rfl (by kernel_rfl) (by kernel_rfl) (by kernel_rfl) (fun _ _ _ h => h) (Or.inl ⟨by rfl, ?_⟩) hHeld ?_
      · intro w' hSw
        have hc : w'.cell? ⟨tb, 0, none⟩ = some (.pointer (some ⟨wk, 0, none⟩)) := hSw
        go_simp
      try simp only [Act.put, List.setIfInBounds_toArray, List.set_cons_zero, List.set_cons_succ]
      refine wpAnyH_take (i := 3) (oi := ⟨some 28, Op.nilCheck (Operand.tmp 25), _, _, _, none⟩) (v := .pointer (some ⟨wk, 0, none⟩)) rfl (by kernel_rfl) (by kernel_rfl) (by kernel_rfl) (fun _ _ _ h => h) (Or.inl ⟨by rfl, ?_⟩) hHeld ?_
      · intro w' hSw
        have hc : w'.cell? ⟨tb, 0, none⟩ = some (.pointer (some ⟨wk, 0, none⟩)) := hSw
        go_simp
      try simp only [Act.put, List.setIfInBounds_toArray, List.set_cons_zero, List.set_cons_succ]
      refine wpAnyH_take (i := 4) (oi := ⟨some 29, Op.fieldAddr _ (Operand.tmp 28) 1, _, _, _, none⟩) (v := .pointer (some ⟨wk, 1, none⟩)) rfl (by kernel_rfl) (by kernel_rfl) (by kernel_rfl) (fun _ _ _ h => h) (Or.inl ⟨by rfl, ?_⟩) hHeld ?_
      · intro w' hSw
        have hc : w'.cell? ⟨tb, 0, none⟩ = some (.pointer (some ⟨wk, 0, none⟩)) := hSw
        go_simp
      try simp only [Act.put, List.setIfInBounds_toArray, List.set_cons_zero, List.set_cons_succ]
      refine wpAnyH_ready (rs := [5]) (by kernel_rfl) (by simp) ?_
      refine AllReadyH.cons (o := ⟨none, Op.store _ (Operand.tmp 29) (Operand.tmp 27), _, _, _, none⟩) rfl (fun K hK => ?_) AllReadyH.nil
      go_simp
      refine hK.out _ _ (kT1.out) (fun hHeld => ?_)
      clear hK K
      try simp only [Act.put, List.setIfInBounds_toArray, List.set_cons_zero, List.set_cons_succ]
      refine wpAnyH_take (i := 6) (oi := ⟨some 30, Op.nilCheck (Operand.tmp 26), _, _, _, none⟩) (v := .pointer (some ⟨wk, 0, none⟩)) rfl (by kernel_rfl) (by kernel_rfl) (by kernel_rfl) (fun _ _ _ h => h) (Or.inl ⟨by rfl, ?_⟩) hHeld ?_
      · intro w' hSw
        have hc : w'.cell? ⟨tb, 0, none⟩ = some (.pointer (some ⟨wk, 0, none⟩)) := hSw
        go_simp
      try simp only [Act.put, List.setIfInBounds_toArray, List.set_cons_zero, List.set_cons_succ]
      refine wpAnyH_take (i := 7) (oi := ⟨some 31, Op.fieldAddr _ (Operand.tmp 30) 0, _, _, _, none⟩) (v := .pointer (some ⟨wk, 0, none⟩)) rfl (by kernel_rfl) (by kernel_rfl) (by kernel_rfl) (fun _ _ _ h => h) (Or.inl ⟨by rfl, ?_⟩) hHeld ?_
      · intro w' hSw
        have hc : w'.cell? ⟨tb, 0, none⟩ = some (.pointer (some ⟨wk, 0, none⟩)) := hSw
        go_simp
      try simp only [Act.put, List.setIfInBounds_toArray, List.set_cons_zero, List.set_cons_succ]
      refine wpAnyH_ready (rs := [8]) (by kernel_rfl) (by simp) ?_
      refine AllReadyH.cons (o := ⟨none, Op.store _ (Operand.tmp 31) (Operand.const (Value.int IntKind.i64 0)), _, _, _, none⟩) rfl (fun K hK => ?_) AllReadyH.nil
      go_simp
      refine hK.out _ _ (kT2.out) (fun hHeld => ?_)
      clear hK K
      try simp only [Act.put, List.setIfInBounds_toArray, List.set_cons_zero, List.set_cons_succ]
      refine wpAnyH_done (by kernel_rfl) ?_ _
      dsimp only [OnlyQ]
      rw [← hW1]
      clear hW1 kT0 kT1 kT2 q1 q2 q3 q4 hHeld
      go_wp2_with fail
      refine (HLi.out _).mono ?_
      rintro e w3 ⟨rfl, rfl⟩
      go_wp2_with fail
      refine (wpIn_wide (n := n)).1 ?_
      obtain ⟨Wl, hWl⟩ : ∃ x, x = ((W1.alloc (.cells #[.int .i64 0] 3)).alloc (.cells #[.int .i64 0] 28)).alloc (.cells #[.string s] 9) := ⟨_, rfl⟩
      rw [← hWl]
      have hbl : Below W1.heap.size W1 Wl := by rw [hWl]; exact (((Below.refl _ W1).alloc (Nat.le_refl _) _).alloc (by simp) _).alloc (by simp; omega) _
      have hszl : Wl.heap.size = W.heap.size + 3 := by rw [hWl]; simp; omega
      obtain ⟨hLp1, hA1, hDk1⟩ := HH.out
      have hAl := hA1.below hbl
      have hLpl := hLp1.belowW hbl hA1.hs
      have hDkl : ∀ D ∈ Ds, w.heap.size ≤ D ∧ Wl.heap[D]? = some (Obj.deferred (some [])) := fun D hD => ⟨(hDk1 D hD).1, (hbl.block _ (heap_ltA (hDk1 D hD).2)).trans (hDk1 D hD).2⟩
      have hbb : Wl.heap[W.heap.size]? = some (.cells #[.int .i64 0] 3 (0, 0)) := by rw [hWl]; exact heap_oldT (heap_oldT (heap_newT hsz1.symm))
      have hyb : Wl.heap[W.heap.size + 1]? = some (.cells #[.int .i64 0] 28 (0, 0)) := by rw [hWl]; exact heap_oldT (heap_newT (by simp; omega))
      have hqb : Wl.heap[W.heap.size + 1 + 1]? = some (strC L) := by
        unfold strC
        rw [HS.out, hWl]
        exact heap_newT (by simp; omega)
      have hbs := hAl.hs
      obtain ⟨⟨es, cl, hpm⟩, hpbl, hobl⟩ := hAl.pm_heap
      have hlen := lines_lenZ L HLF.out
      have hwrd := lines_words L hLs
      have hok1 := hok0.out
      obtain ⟨S0, hS0⟩ : ∃ x, x = { S with at' := 0 } := ⟨_, rfl⟩
      rw [← hS0] at hAl hok1
      have H0 := Lib.hid hS0
      clear hS0 hWl hbl hLp1 hA1 hDk1 HH hok0 hsz1 HLi
      generalize W.heap.size + 1 + 1 = qb at hqb ⊢
      obtain ⟨yb, hyb'⟩ : ∃ x, x = W.heap.size + 1 := ⟨_, rfl⟩
      obtain ⟨bb, hbb'⟩ : ∃ x, x = W.heap.size := ⟨_, rfl⟩
      rw [← hyb'] at hyb ⊢
      rw [← hbb'] at hbb ⊢
      have hby : bb ≠ yb := by omega
      have hbD0 : ∀ (k : Nat) {o : Obj}, Wl.heap[k]? = some o → k = bb ∨ k = yb → w.heap.size ≤ k := fun k o _ h => by omega
      have hbR : w.heap.size ≠ bb := fun e => by have := hLpl.res; rw [e, hbb] at this; cases this
      have hyR : w.heap.size ≠ yb := fun e => by have := hLpl.res; rw [e, hyb] at this; cases this
      clear hyb' hbb' hszl hbc hsbl k0 htbk hwkl hRt hRw htw
      refine rangeOwnA (F := Fence.wide) rfl h1 (gf := 21) (lb := #[.pointer (some ⟨qb, 0, none⟩)]) rfl trivial (enters_of Tryz.func21 (by kernel_rfl) rfl)
        (encs := lnE) (Ts := TsS) (B := Wl.heap.size) (Ok := OkL L) (S := fun xs => xs.map LnE.ws = linesF L) (Sp := fun pre => ∃ r, pre.map LnE.ws ++ r = linesF L) (w0 := Wl) ?hit (Below.refl _ _) (fun _ => rfl) ?ok
        (PassI w.heap.size wk pb ob b S0 (i * 1100) Wl) (PassX w.heap.size w.heap.size bb yb b S0 Wl) (passI_own hbs hpbl hobl) (passI_stb hbs) (passX_own hbs) ?init (AxZ tb bb yb) ?ax ?okB ?assign ?body ?done ?stop
      case hit =>
        intro l2 J2 Jx2 W' hb hst hO hOx hY2 h02
        exact lines1_in (n - 1) (by omega) l2 qb Wl.heap.size L hLs W' J2 Jx2 hst hO hOx hY2 ((hb.block _ (heap_ltA hqb)).trans hqb) hb.size h02
      case ok => exact fun pre x W' l o o' h h1 h2 => h.put o' h1 h2
      case init => exact ⟨S0, rfl, hok1, hAl, Fr.refl _ _ _⟩
      case ax =>
        rintro x a' W' l o o' ⟨lb, hlb, hex⟩ hl ho
        refine ⟨lb, (World.putObj_heap_other (fun e => ?_)).trans hlb, hex⟩
        rw [← show lb = l by omega, hlb] at hl
        cases hl
        cases ho
      case okB => exact fun pre x W' W'' h hb => ⟨h.1.below hb, h.2⟩
      case assign =>
        intro l2 x W' K hK
        simp only [lnE, lnV]
        gi_wp2
        exact hK _ _ ((Below.refl _ _).alloc (Nat.le_refl _) _) ⟨W'.heap.size, heap_newT rfl, _, _, _, _, _, _, _, _, _, _, _, _, _, _, _, _, _, _, _, _, _, _, _, _, _, _, _, _, _, _, _, _, _, _, _, _, _, _, _, _, _, _, _, _, _, _, _, _, _, rfl⟩
      case body =>
        rintro l2 pre x a' Wc ⟨T, hp, hok', hA, hFr⟩ ⟨hln, hxn, r, hr⟩ ⟨lb, hlb, y0, y1, y2, y3, y4, y6, y7, y11, y12, y13, y14, y15, y16, y17, y18, y19, y20, y21, y22, y23, y24, y25, y26, y27, y28, y29, y30, y31, y32, y33, y34, y35, y36, y37, y38, y39, y40, y41, y42, y43, y44, y45, y46, y47, y48, y49, y50, y51, y52, rfl⟩
        obtain ⟨⟨es2, cl2, hpc⟩, -, -⟩ := hA.pm_heap
        have hw := hwrd x.ws (by rw [← hr]; simp)
        have hi' : i < 2 := c1
        have hpl : pre.length + 1 ≤ 513 := by have := congrArg List.length hr; simp at this; omega
        have HD := CallsIn.inRound l2 ((callsIn_wide (n := n - 1 - 1 - 1)).2 (do_c w.heap.size wk pb ob b T x.n x.ao x.cap x.ws Wc hA hln (by omega) (by have := hok'.ll; omega)))
        obtain ⟨hl1, hl2⟩ := pass_line (base := 0) (wk := 0) (pb := 0) (ob := 0) (K0 := 0) (Wl := w) (W := w) hp hxn
        obtain ⟨hd1, hd2⟩ := doF_both (again := b) (n := x.n) (ws := x.ws) hok'
        have hLpc := hLpl.fr hFr hpm
        have hbbc := hFr.out _ _ hbb (by simp [OutO]) (fun e => by rw [e, hpm] at hbb; cases hbb)
        have hybc := hFr.out _ _ hyb (by simp [OutO]) (fun e => by rw [e, hpm] at hyb; cases hyb)
        have k1 := cell_of_row Wc tb 0 _ _ _ hLpc.work
        have k2 := cell_of_row Wc lb 0 _ _ _ hlb
        have k3 := cell_of_row Wc lb 1 _ _ _ hlb
        unfold lnV at HD
        obtain ⟨xn, xa, xw, xc⟩ := x
        simp only at HD hl1 hl2 hd1 hd2 k2 k3 hlb hxn
        generalize doF b T xn xw = RD at HD hl1 hl2 hd1 hd2
        have HDh := Lib.hid HD
        have HLb := Lib.hid hlb
        have HL := Lib.hid (And.intro hl1 (And.intro hl2 (And.intro hd1 hd2)))
        have HA := Lib.hid (And.intro hA (And.intro hFr (And.intro hpc (And.intro hLpc (And.intro hbbc hybc)))))
        have HW := Lib.hid (And.intro hbb (And.intro hyb (And.intro hpm hpbl)))
        have Hby := Lib.hid hby
        have HbR := Lib.hid (And.intro hbR hyR)
        have Hpl := Lib.hid hpl
        have Hil := Lib.hid hi'
        clear HD hlb hl1 hl2 hd1 hd2 hA hFr hpc hLpc hbbc hybc hbb hyb hpm hpbl hp hok' hln hxn hr hw hpl hwrd hlen hDkl hLpl hAl hok1 hby hbR hyR hobl hqb i1 hi'
        simp only [lnE]
        gi_wp2
        refine ⟨trivial, fun _ => by omega, HDh.out.mono ?_⟩
        rintro e w4 ⟨hf, hm⟩
        obtain ⟨hl1, hl2, hd1, hd2⟩ := HL.out
        obtain ⟨hA, hFr, hpc, hLpc, hbbc, hybc⟩ := HA.out
        obtain ⟨hbb, hyb, hpm, hpbl⟩ := HW.out
        rcases RD with er | U
        · obtain rfl := hm
          have hne := hd2 er rfl
          have hneb : (er != 0) = true := by simpa using hne
          have b4 := hf.out _ _ hbbc (by simp [OutO]) (fun e => by rw [e, hpc] at hbbc; cases hbbc)
          have y4 := hf.out _ _ hybc (by simp [OutO]) (fun e => by rw [e, hpc] at hybc; cases hybc)
          have hlb := HLb.out
          have l4 := hf.out _ _ hlb (by simp [OutO]) (fun e => by rw [e, hpc] at hlb; cases hlb)
          have m1 := cell_of_row w4 lb 0 _ _ _ l4
          have m2 := cell_of_row w4 bb 0 _ _ _ b4
          have m3 := frozen_of_row w4 bb 0 _ _ b4
          have m4 := cell_of_row w4 yb 0 _ _ _ y4
          have m5 := frozen_of_row w4 yb 0 _ _ y4
          have hLp4 := hLpc.fr hf hpc
          have hby := Hby.out
          obtain ⟨hbR, hyR⟩ := HbR.out
          have hn1 : ¬ yb = bb := fun e => hby e.symm
          have hn2 : ¬ bb = yb := hby
          have hK4 : KeepsFrom Wl.heap.size Wc ((w4.setCell ⟨bb, 0, none⟩ (.int .i64 xn)).setCell ⟨yb, 0, none⟩ (.int .i64 er)) :=
            ((KeepsFrom.of_fr hf hpbl).trans (KeepsFrom.set b4)).trans (KeepsFrom.set (row_setOR y4 (Ne.symm hby) 0 (.int .i64 xn)))
          have hE4 : PassE w.heap.size w.heap.size bb yb b S0 Wl xn er ((w4.setCell ⟨bb, 0, none⟩ (.int .i64 xn)).setCell ⟨yb, 0, none⟩ (.int .i64 er)) := by
            refine ⟨?_, ?_, row_setOR (row_setOR hLp4.res hbR _ _) hyR _ _, ?_, fun D hD => ?_⟩
            · exact row_setOR (row_setR b4 0 (.int .i64 xn)) hby 0 (.int .i64 er)
            · exact row_setR (row_setOR y4 (Ne.symm hby) 0 (.int .i64 xn)) 0 (.int .i64 er)
            · have hbb0 := hbD0 bb hbb (.inl rfl)
              have hyb0 := hbD0 yb hyb (.inr rfl)
              exact ((hFr.below.trans hf.below).setCell (p := ⟨bb, 0, none⟩) hbb0 _).setCell (p := ⟨yb, 0, none⟩) hyb0 _
            · have hD2 := hFr.out D _ hD trivial (fun e => by rw [e, hpm] at hD; cases hD)
              have hD1 := hf.out D _ hD2 trivial (fun e => by rw [e, hpc] at hD2; cases hD2)
              exact row_setOR (row_setOR hD1 (fun e => by rw [e, b4] at hD1; cases hD1) _ _) (fun e => by rw [e, y4] at hD1; cases hD1) _ _
          have HK4 := Lib.hid hK4
          have HE4 := Lib.hid hE4
          have hl2' := Lib.hid (hl2 er rfl)
          have hne' := Lib.hid hne
          clear hK4 hE4 hl1 hl2 hd1 hd2 hne hA hFr hpc hLpc hbbc hybc hbb hyb hpm hpbl b4 y4 l4 hlb hLp4 hby hbR hyR hf hbD0
          gi_wp2
          exact ⟨HK4.out, rfl, xn, er, hl2'.out, hne'.out, HE4.out⟩
        · obtain ⟨rfl, hAs⟩ := hm
          have hU2 := hd1 U rfl
          have hpl := Hpl.out
          have hil := Hil.out
          have hKp : KpT TsS Wl.heap.size Wc w4 := KpT.of_fr hf hpc
          have hPI : PassI w.heap.size wk pb ob b S0 (i * 1100) Wl (pre ++ [⟨xn, xa, xw, xc⟩]) w4 :=
            ⟨U, hl1 U rfl, hU2.more (by simp; omega), AsOk.of hAs (Nat.le_trans hA.hs hf.size) hU2 (by omega) (hA.tab.on hf.below), hFr.trans hf⟩
          have HP := Lib.hid (And.intro (KeepsFrom.of_fr (D := Wl.heap.size) hf hpbl) (And.intro hKp hPI))
          clear hl1 hl2 hd1 hd2 hAs hA hFr hpc hLpc hbbc hybc hbb hyb hpm hpbl hU2 hKp hPI hpl hil hf hbD0
          gi_wp2
          exact HP.out
      case done =>
        rintro D xs W' hD hS ⟨T, hp, hok', hA', hFr⟩ hK
        rw [hS] at hp
        have hyc := hFr.out _ _ hyb (by simp [OutO]) (fun e => by rw [e, hpm] at hyb; cases hyb)
        have k1 := cell_of_row W' yb 0 _ _ _ hyc
        have hLp' := hLpl.fr hFr hpm
        have hlx : xs.length ≤ 513 := by have := congrArg List.length hS; simp at this; omega
        have hok2 : StOk T ((i + 1) * 1100) := hok'.more (by omega)
        have hst2 := stg_next HLF.out c1 HSt.out (T := T) (by rw [← HBi.out, ← H0.out]; exact hp)
        have hDs : ∀ E ∈ D :: Ds, w.heap.size ≤ E ∧ W'.heap[E]? = some (Obj.deferred (some [])) := fun E hE => by
          rcases List.mem_cons.1 hE with rfl | hE
          · exact ⟨by omega, hK⟩
          · have h2 := (hDkl E hE).2
            exact ⟨(hDkl E hE).1, hFr.out E _ h2 trivial (fun e => by rw [e, hpm] at h2; cases h2)⟩
        have hDn : (D :: Ds).Pairwise (· ≠ ·) := List.pairwise_cons.2 ⟨fun E hE e => by have := heap_ltA (hDkl E hE).2; omega, HDD.out.2⟩
        have HF := Lib.hid (And.intro hst2 (And.intro hok2 (And.intro hA' (And.intro hLp' (And.intro hDn hDs)))))
        have HDl := HDD.out.1
        clear hst2 hok2 hok' hA' hLp' hDn hDs hp hFr hyc hS hK hDkl hLpl hAl
        go_wp2_with fail
        obtain ⟨g1, g2, g3, g4, g5, g6⟩ := HF.out
        exact ⟨c1, T, b, D :: Ds, by omega, g1, g2, g3, g4, by simp [HDl], g5, g6, _, _, _, _, _, _, _, _, _, _, _, _, _, _, _, _, _, _, _, _, _, _, _, _, _, _, _, _, _, _, _, _, _, _, _, _, _, _, _, _, _, _, _, _, _, rfl⟩
      case stop =>
        rintro D c pre W' hD ⟨r, hr⟩ ⟨rfl, ln, er, hlaw, hne, hE⟩ hK
        have hR : asmF L = .error (ln, er) := stg_bad HLF.out c1 HSt.out (by rw [← HBi.out, ← H0.out, ← hr]; exact hlaw r)
        have hneb : (er != 0) = true := by simpa using hne
        have k1 := cell_of_row W' yb 0 _ _ _ hE.why
        gi_wp2
        have e1 := cell_of_row W' bb 0 _ _ _ hE.bad
        have e2 := cell_of_row W' w.heap.size 0 _ _ _ hE.res
        have e3 := cell_of_row W' w.heap.size 1 _ _ _ hE.res
        have e4 := cell_of_row W' w.heap.size 2 _ _ _ hE.res
        have e5 := frozen_of_row W' w.heap.size 0 _ _ hE.res
        have e6 := frozen_of_row W' w.heap.size 1 _ _ hE.res
        have e7 := frozen_of_row W' w.heap.size 2 _ _ hE.res
        obtain ⟨W5, hW5⟩ : ∃ x, x = (((W'.setCell ⟨w.heap.size, 0, none⟩ (.slice none 0 0)).setCell ⟨w.heap.size, 1, none⟩ (.slice none 0 0)).setCell ⟨w.heap.size, 2, none⟩ (.slice none 0 0)).drew := ⟨_, rfl⟩
        have hb5 : W5.heap[bb]? = some (.cells #[.int .i64 ln] 3 (0, 0)) := by rw [hW5]; exact row_setOR (row_setOR (row_setOR hE.bad (Ne.symm hbR) _ _) (Ne.symm hbR) _ _) (Ne.symm hbR) _ _
        have hy5 : W5.heap[yb]? = some (.cells #[.int .i64 er] 28 (0, 0)) := by rw [hW5]; exact row_setOR (row_setOR (row_setOR hE.why (Ne.symm hyR) _ _) (Ne.symm hyR) _ _) (Ne.symm hyR) _ _
        have hR5 : W5.heap[w.heap.size]? = some (.cells zPr 27 (0, 0)) := by
          rw [hW5]
          exact row_setR (row_setR (row_setR hE.res 0 (.slice none 0 0)) 1 (.slice none 0 0)) 2 (.slice none 0 0)
        have hB5 : Below w.heap.size w W5 := by
          rw [hW5]
          exact ((((hLpl.below.trans hE.below).setCell (p := ⟨w.heap.size, 0, none⟩) (Nat.le_refl _) _).setCell (p := ⟨w.heap.size, 1, none⟩) (Nat.le_refl _) _).setCell (p := ⟨w.heap.size, 2, none⟩) (Nat.le_refl _) _).drew
        have hDs5 : ∀ E ∈ D :: Ds, w.heap.size ≤ E ∧ W5.heap[E]? = some (Obj.deferred (some [])) := fun E hE' => by
          have h2 : w.heap.size ≤ E ∧ W'.heap[E]? = some (Obj.deferred (some [])) := by
            rcases List.mem_cons.1 hE' with rfl | hE'
            · exact ⟨by omega, hK⟩
            · exact ⟨(hDkl E hE').1, hE.defs E (hDkl E hE').2⟩
          have hne : E ≠ w.heap.size := fun e => by have h3 := h2.2; rw [e, hE.res] at h3; cases h3
          rw [hW5]
          exact ⟨h2.1, row_setOR (row_setOR (row_setOR h2.2 hne _ _) hne _ _) hne _ _⟩
        have hDn : (D :: Ds).Pairwise (· ≠ ·) := List.pairwise_cons.2 ⟨fun E hE e => by have := heap_ltA (hDkl E hE).2; omega, HDD.out.2⟩
        have kE3 := Lib.hid (show W5.cell? ⟨bb, 0, none⟩ = some (.int .i64 ln) ∧ W5.cell? ⟨yb, 0, none⟩ = some (.int .i64 er) from ⟨cell_of_row W5 bb 0 _ _ _ hb5, cell_of_row W5 yb 0 _ _ _ hy5⟩)
        rw [hW5] at kE3
        have kE0 := Lib.hid (show W'.drew.cell? ⟨bb, 0, none⟩ = some (.int .i64 ln) ∧ W'.drew.cell? ⟨yb, 0, none⟩ = some (.int .i64 er) from ⟨e1, k1⟩)
        have HX := Lib.hid (And.intro hR (And.intro hR5 (And.intro hB5 (And.intro hDs5 hDn))))
        clear hR hR5 hB5 hDs5 hDn hb5 hy5 hE hK hlaw hLpl hAl hDkl
        go_wp2_with fail
        refine Code.wp_mono onlyQ_of ?_
        refine wp_region_held_drew (S := fun w' => w'.cell? ⟨bb, 0, none⟩ = some (.int .i64 ln) ∧ w'.cell? ⟨yb, 0, none⟩ = some (.int .i64 er)) (by kernel_rfl) kE0.out (fun hHeld => ?_)
        refine wpAnyH_take (i := 0) (oi := ⟨some 45, Op.build _ #[], _, _, _, none⟩) (v := .agg #[.slice none 0 0, .slice none 0 0, .slice none 0 0]) rfl (by kernel_rfl) (by kernel_rfl) (by kernel_rfl) (fun _ _ _ h => h) (Or.inl ⟨by rfl, ?_⟩) hHeld ?_
        · intro w' hSw
          have hc1 : w'.cell? ⟨bb, 0, none⟩ = some (.int .i64 ln) := hSw.1
          have hc2 : w'.cell? ⟨yb, 0, none⟩ = some (.int .i64 er) := hSw.2
          go_simp
        try simp only [Act.put, List.setIfInBounds_toArray, List.set_cons_zero, List.set_cons_succ]
        refine wpAnyH_take (i := 1) (oi := ⟨some 46, Op.load _ (Operand.tmp 8), _, _, _, none⟩) (v := .int .i64 ln) rfl (by kernel_rfl) (by kernel_rfl) (by kernel_rfl) (fun _ _ _ h => h) (Or.inl ⟨by rfl, ?_⟩) hHeld ?_
        · intro w' hSw
          have hc1 : w'.cell? ⟨bb, 0, none⟩ = some (.int .i64 ln) := hSw.1
          have hc2 : w'.cell? ⟨yb, 0, none⟩ = some (.int .i64 er) := hSw.2
          go_simp
        try simp only [Act.put, List.setIfInBounds_toArray, List.set_cons_zero, List.set_cons_succ]
        refine wpAnyH_take (i := 2) (oi := ⟨some 47, Op.load _ (Operand.tmp 9), _, _, _, none⟩) (v := .int .i64 er) rfl (by kernel_rfl) (by kernel_rfl) (by kernel_rfl) (fun _ _ _ h => h) (Or.inl ⟨by rfl, ?_⟩) hHeld ?_
        · intro w' hSw
          have hc1 : w'.cell? ⟨bb, 0, none⟩ = some (.int .i64 ln) := hSw.1
          have hc2 : w'.cell? ⟨yb, 0, none⟩ = some (.int .i64 er) := hSw.2
          go_simp
        try simp only [Act.put, List.setIfInBounds_toArray, List.set_cons_zero, List.set_cons_succ]
        refine wpAnyH_ready (rs := [3]) (by kernel_rfl) (by simp) ?_
        refine AllReadyH.cons (o := ⟨none, Op.store _ (Operand.tmp 2) (Operand.tmp 45), _, _, _, none⟩) rfl (fun K hK => ?_) AllReadyH.nil
        go_simp
        refine hK.out _ _ kE3.out (fun hHeld => ?_)
        clear hK K
        try simp only [Act.put, List.setIfInBounds_toArray, List.set_cons_zero, List.set_cons_succ]
        refine wpAnyH_take (i := 4) (oi := ⟨some 3, Op.assign (Operand.tmp 46), _, _, _, none⟩) (v := .int .i64 ln) rfl (by kernel_rfl) (by kernel_rfl) (by kernel_rfl) (fun _ _ _ h => h) (Or.inl ⟨by rfl, ?_⟩) hHeld ?_
        · intro w' hSw
          have hc1 : w'.cell? ⟨bb, 0, none⟩ = some (.int .i64 ln) := hSw.1
          have hc2 : w'.cell? ⟨yb, 0, none⟩ = some (.int .i64 er) := hSw.2
          go_simp
        try simp only [Act.put, List.setIfInBounds_toArray, List.set_cons_zero, List.set_cons_succ]
        refine wpAnyH_take (i := 5) (oi := ⟨some 4, Op.assign (Operand.tmp 47), _, _, _, none⟩) (v := .int .i64 er) rfl (by kernel_rfl) (by kernel_rfl) (by kernel_rfl) (fun _ _ _ h => h) (Or.inl ⟨by rfl, ?_⟩) hHeld ?_
        · intro w' hSw
          have hc1 : w'.cell? ⟨bb, 0, none⟩ = some (.int .i64 ln) := hSw.1
          have hc2 : w'.cell? ⟨yb, 0, none⟩ = some (.int .i64 er) := hSw.2
          go_simp
        try simp only [Act.put, List.setIfInBounds_toArray, List.set_cons_zero, List.set_cons_succ]
        refine wpAnyH_done (by kernel_rfl) ?_ _
        dsimp only [OnlyQ]
        rw [← hW5]
        clear hW5 kE3 kE0 e1 e2 e3 e4 e5 e6 e7
        go_wp2_with fail
        obtain ⟨g1, g2, g3, g4, g5⟩ := HX.out
        refine leaves_marks (base := w.heap.size) (D :: Ds) W5 g5 g4 (fun W6 hB6 hk6 => ?_)
        have hRn : w.heap.size ∉ D :: Ds := fun h => by have h3 := (g4 _ h).2; rw [g2] at h3; cases h3
        have hR6 := (hk6 _ hRn).trans g2
        have n0 := cell_of_row W6 w.heap.size 0 _ _ _ hR6
        have n1 := cell_of_row W6 w.heap.size 1 _ _ _ hR6
        have n2 := cell_of_row W6 w.heap.size 2 _ _ _ hR6
        rw [g1]
        refine ⟨.tuple #[.agg zPr, .int .i64 ln, .int .i64 er], ?_, g3.trans hB6, rfl⟩
        simp [results, Tryz.f5, go_sem, n0, n1, n2]
    · have hi2 : i = 2 := by omega
      subst hi2
      obtain ⟨aB, cB, rfl⟩ := own_sliceA hF.bs
      obtain ⟨aL, cL, rfl⟩ := own_sliceA hF.ls
      obtain ⟨aM, cM, rfl⟩ := own_sliceA hF.ms
      have hst : asmF L = .ok S := hst
      have m4 : W.cell? ⟨wk, 4, none⟩ = some (.slice aB S.bytes.length cB) := hF.cell 4
      have m5 : W.cell? ⟨wk, 5, none⟩ = some (.slice aL S.labels.length cL) := hF.cell 5
      have m6 : W.cell? ⟨wk, 6, none⟩ = some (.slice aM S.marks.length cM) := hF.cell 6
      have e2 := cell_of_row W w.heap.size 0 _ _ _ hLp.res
      have e3 := cell_of_row W w.heap.size 1 _ _ _ hLp.res
      have e4 := cell_of_row W w.heap.size 2 _ _ _ hLp.res
      have e5 := frozen_of_row W w.heap.size 0 _ _ hLp.res
      have e6 := frozen_of_row W w.heap.size 1 _ _ hLp.res
      have e7 := frozen_of_row W w.heap.size 2 _ _ hLp.res
      obtain ⟨W5, hW5⟩ : ∃ x, x = (((W.setCell ⟨w.heap.size, 0, none⟩ (.slice aB S.bytes.length cB)).setCell ⟨w.heap.size, 1, none⟩ (.slice aL S.labels.length cL)).setCell ⟨w.heap.size, 2, none⟩ (.slice aM S.marks.length cM)) := ⟨_, rfl⟩
      have hR5 : W5.heap[w.heap.size]? = some (.cells #[(.slice aB S.bytes.length cB), (.slice aL S.labels.length cL), (.slice aM S.marks.length cM)] 27 (0, 0)) := by
        rw [hW5]
        exact row_setR (row_setR (row_setR hLp.res 0 (.slice aB S.bytes.length cB)) 1 (.slice aL S.labels.length cL)) 2 (.slice aM S.marks.length cM)
      have hB5 : Below w.heap.size w W5 := by
        rw [hW5]
        exact (((hLp.below).setCell (p := ⟨w.heap.size, 0, none⟩) (Nat.le_refl _) _).setCell (p := ⟨w.heap.size, 1, none⟩) (Nat.le_refl _) _).setCell (p := ⟨w.heap.size, 2, none⟩) (Nat.le_refl _) _
      have hO5 : ∀ k o, k ≠ w.heap.size → W.heap[k]? = some o → W5.heap[k]? = some o := fun k o hne h => by
        rw [hW5]
        exact row_setOR (row_setOR (row_setOR h hne _ _) hne _ _) hne _ _
      have hDs5 : ∀ E ∈ Ds, w.heap.size ≤ E ∧ W5.heap[E]? = some (Obj.deferred (some [])) := fun E hE =>
        ⟨(hDk E hE).1, hO5 E _ (fun e => by have h3 := (hDk E hE).2; rw [e, hLp.res] at h3; cases h3) (hDk E hE).2⟩
      have hrow : ∀ (e : TypeId) (sz m : Nat) (v : Value) (xs : List Value), 27 ≠ e → W.ownsRow w.heap.size e sz v m xs → ∀ W6 : World, (∀ k, k ∉ Ds → W6.heap[k]? = W5.heap[k]?) → W6.ownsRow w.heap.size e sz v m xs := fun e sz m v xs hte h W6 hk => by
        refine own_keepA h (fun g cur hg => ?_)
        rw [hk g (fun hm => by have h3 := (hDk g hm).2; rw [hg] at h3; cases h3), hO5 g _ (fun e => by rw [e, hLp.res] at hg; cases hg; exact hte rfl) hg, hg]
      have HX := Lib.hid (And.intro hst (And.intro hR5 (And.intro hB5 (And.intro hDs5 hDp))))
      have HR := Lib.hid hrow
      have HBs := Lib.hid (And.intro hF.bs (And.intro hF.ls hF.ms))
      clear hst hR5 hB5 hDs5 hDp hO5 hrow hLp hAs hF hok hDk hbD htbk htw hRw hRt HLi hi
      go_wp2_with fail
      rw [← hW5]
      obtain ⟨g1, g2, g3, g4, g5⟩ := HX.out
      refine leaves_marks (base := w.heap.size) Ds W5 g5 g4 (fun W6 hB6 hk6 => ?_)
      have hRn : w.heap.size ∉ Ds := fun h => by have h3 := (g4 _ h).2; rw [g2] at h3; cases h3
      have hR6 := (hk6 _ hRn).trans g2
      have n0 := cell_of_row W6 w.heap.size 0 _ _ _ hR6
      have n1 := cell_of_row W6 w.heap.size 1 _ _ _ hR6
      have n2 := cell_of_row W6 w.heap.size 2 _ _ _ hR6
      obtain ⟨o1, o2, o3⟩ := HBs.out
      rw [g1]
      refine ⟨.tuple #[.agg #[(.slice aB S.bytes.length cB), (.slice aL S.labels.length cL), (.slice aM S.marks.length cM)], .int .i64 0, .int .i64 0], ?_, g3.trans hB6, (.slice aB S.bytes.length cB), (.slice aL S.labels.length cL), (.slice aM S.marks.length cM), rfl, HR.out _ _ _ _ _ (by decide) o1 W6 hk6, HR.out _ _ _ _ _ (by decide) o2 W6 hk6, HR.out _ _ _ _ _ (by decide) o3 W6 hk6⟩
      simp [results, Tryz.f5, go_sem, n0, n1, n2]
end Go.Proofs.YtgfljokamgbcaaaGreatDoor
