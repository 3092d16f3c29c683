/- The walk of asm's do. -/
import Derived.Test.YtgfljokamgbcaaaGreatDoorAsR
import Derived.BigQuiet
namespace Go.Proofs.YtgfljokamgbcaaaGreatDoor
open Go.RowKit
set_option linter.unusedSimpArgs false
set_option linter.unusedVariables false
set_option maxRecDepth 100000

theorem label_c (base wk pb ob : Nat) (again : Bool) (S : St) (n : Int) (ao : Option Addr) (cap : Nat) (w0 : Wd) (rest : List Wd) (w : World) (h : AsOk base wk pb ob again S w) (hl : LnOk w ao (w0 :: rest) cap) (hll : S.labels.length ≤ 100000) :
    Calls Tryz.prog 26 #[.pointer (some ⟨wk, 0, none⟩), lnV n ao (w0 :: rest).length cap] w (LabP base wk pb ob again n (labelF again S (w0 :: rest)) w) := by
  by_cases hc : w0.getLast? = some 58
  · cases again
    · exact label_new base wk pb ob S n ao cap w0 rest w h hl hc hll
    · exact label_again base wk pb ob S n ao cap w0 rest w h hl hc
  · exact label_none base wk pb ob again S n ao cap w0 rest w h hl hc

theorem mth_inj {N M wk : Nat} (h : mthV N wk = mthV M wk) : N = M := by
  unfold mthV at h
  injection h with h
  injection h with h
theorem dir_call (base wk pb ob : Nat) (again : Bool) (S : St) (n : Int) (ao : Option Addr) (cap : Nat) (ws : List Wd) (w : World) (h : AsOk base wk pb ob again S w) (hl : LnOk w ao ws cap) (hwl : ws.length ≤ 10000) (N : Nat) (hd : dirV wk (ws.headD []) = mthV N wk) :
    Calls Tryz.prog N #[.pointer (some ⟨wk, 0, none⟩), lnV n ao ws.length cap] w (MetP base wk pb ob again (stepF again S n ws) w) := by
  unfold dirV at hd
  unfold stepF
  simp only
  by_cases h1 : ws.headD [] = wOrg
  · rw [if_pos h1] at hd ⊢
    obtain rfl := mth_inj hd
    exact org_c base wk pb ob again S n ao cap ws w h hl
  rw [if_neg h1] at hd ⊢
  by_cases h2 : ws.headD [] = wSpace
  · rw [if_pos h2] at hd ⊢
    obtain rfl := mth_inj hd
    exact space_c base wk pb ob again S n ao cap ws w h hl
  rw [if_neg h2] at hd ⊢
  by_cases h3 : ws.headD [] = wAlign
  · rw [if_pos h3] at hd ⊢
    obtain rfl := mth_inj hd
    exact align_c base wk pb ob again S n ao cap ws w h hl
  rw [if_neg h3] at hd ⊢
  by_cases h4 : ws.headD [] = wByte
  · rw [if_pos h4] at hd ⊢
    obtain rfl := mth_inj hd
    exact bytes_c base wk pb ob again S n ao cap ws w h hl hwl
  rw [if_neg h4] at hd ⊢
  by_cases h5 : ws.headD [] = wWord
  · rw [if_pos h5] at hd ⊢
    obtain rfl := mth_inj hd
    exact words_c base wk pb ob again S n ao cap ws w h hl hwl
  rw [if_neg h5] at hd ⊢
  by_cases h6 : ws.headD [] = wText
  · rw [if_pos h6] at hd ⊢
    obtain rfl := mth_inj hd
    exact text_c base wk pb ob again S n ao cap ws w h hl
  rw [if_neg h6] at hd
  exact absurd hd (by unfold mthV; intro e; cases e)
theorem dir_none {wk : Nat} {again : Bool} {S : St} {n : Int} {ws : List Wd} (hd : dirV wk (ws.headD []) = .nilFunc) : stepF again S n ws = match opF (ws.headD []) with
    | none => .error 40
    | some op => instrF again S n ws op := by
  unfold dirV mthV at hd
  unfold stepF
  simp only
  split at hd
  · cases hd
  split at hd
  · cases hd
  split at hd
  · cases hd
  split at hd
  · cases hd
  split at hd
  · cases hd
  split at hd
  · cases hd
  rename_i g1 g2 g3 g4 g5 g6
  rw [if_neg g1, if_neg g2, if_neg g3, if_neg g4, if_neg g5, if_neg g6]
  rfl
theorem dir_is (wk : Nat) (s : Wd) : dirV wk s = .nilFunc ∨ ∃ N, dirV wk s = mthV N wk ∧ ∀ (args : Array Value) (w : World), (callFunc N args).run Tryz.prog w = .ok (.enter N args) w := by
  unfold dirV
  split
  · exact .inr ⟨_, rfl, fun args w => by simp [go_sem]⟩
  split
  · exact .inr ⟨_, rfl, fun args w => by simp [go_sem]⟩
  split
  · exact .inr ⟨_, rfl, fun args w => by simp [go_sem]⟩
  split
  · exact .inr ⟨_, rfl, fun args w => by simp [go_sem]⟩
  split
  · exact .inr ⟨_, rfl, fun args w => by simp [go_sem]⟩
  split
  · exact .inr ⟨_, rfl, fun args w => by simp [go_sem]⟩
  exact .inl rfl

/-- What 'do' hands back. -/
def DoP (base wk pb ob : Nat) (again : Bool) (r : Except Int St) (w : World) (e : Ending) (w' : World) : Prop := Fr base pb w w' ∧ match r with
  | .ok T => e = .returned (.int .i64 0) ∧ AsIs base wk pb ob again T w'
  | .error er => e = .returned (.int .i64 er)

theorem do_nil (base wk pb ob : Nat) (again : Bool) (S : St) (n : Int) (ao : Option Addr) (cap : Nat) (w : World) (h : AsOk base wk pb ob again S w) :
    Calls Tryz.prog 11 #[.pointer (some ⟨wk, 0, none⟩), lnV n ao 0 cap] w (DoP base wk pb ob again (.ok S) w) := by
  have hmf : ∀ (fn : Fn) (first cap : Array Value) (w : World), (Instr.makeFunc fn first cap).run Tryz.prog w = .ok (.func fn first cap) w := fun _ _ _ _ => rfl
  have HA := Lib.hid h
  have hs := h.hs
  clear h
  unfold lnV
  go_enter_defers Tryz.func11, Tryz.ntmps11
  go_wp2_with fail
  refine leaves_cons (f := 25) (args := #[.pointer (some ⟨w.heap.size + 1, 0, none⟩)]) (by simp) (by simp [go_sem]) ?_
  refine (catch_idle _ _).mono ?_
  rintro e u' w'' ⟨rfl, rfl, rfl⟩
  refine ⟨.int .i64 0, ?_, ?_⟩
  · simp [results, Tryz.results11, go_sem]
  · exact ⟨Fr.of_below (((Below.refl _ _).alloc (Nat.le_refl _) _).alloc (by simp) _) hs, rfl, (HA.out.below (((Below.refl _ _).alloc (Nat.le_refl _) _).alloc (by simp) _)).is⟩

theorem AsOk.setBox {base wk pb ob again S w} (h : AsOk base wk pb ob again S w) {b : Nat} {cs : Array Value} {T : TypeId} (hb : w.heap[b]? = some (.cells cs T (0, 0))) (hT : OutO (.cells cs T (0, 0))) (hbs : base ≤ b) (i : Nat) (v : Value) : AsOk base wk pb ob again S (w.setCell ⟨b, i, none⟩ v) := by
  obtain ⟨vB, vL, vM, hF⟩ := h.is
  obtain ⟨es, cl, hp⟩ := hF.pm.heap
  obtain ⟨es2, cl2, ho⟩ := hF.om.heap
  refine ⟨⟨vB, vL, vM, hF.same (fun g o hg hx => (Below.heap_setCell _ _ _ _ (fun e => ?_)).trans hg)⟩, by have := h.hs; simpa [World.setCell] using this, h.a0, h.a1, h.bl, h.ml, h.lb, h.tab.on ((Below.refl _ _).setCell (p := ⟨b, i, none⟩) hbs v)⟩
  have e : g = b := e
  subst e
  rcases hx with hx | hx | hx
  · rw [hb] at hg
    cases hg
    exact hx hT
  · rw [hx, hp] at hb; cases hb
  · rw [hx, ho] at hb; cases hb
theorem AsIs.setBoxI {base wk pb ob again S w} (h : AsIs base wk pb ob again S w) {b : Nat} {cs : Array Value} {T : TypeId} (hb : w.heap[b]? = some (.cells cs T (0, 0))) (hT : OutO (.cells cs T (0, 0))) {i : Nat} {v : Value} : AsIs base wk pb ob again S (w.setCell ⟨b, i, none⟩ v) := by
  obtain ⟨vB, vL, vM, hF⟩ := h
  obtain ⟨es, cl, hp⟩ := hF.pm.heap
  obtain ⟨es2, cl2, ho⟩ := hF.om.heap
  refine ⟨vB, vL, vM, hF.same (fun g o hg hx => (Below.heap_setCell _ _ _ _ (fun e => ?_)).trans hg)⟩
  have e : g = b := e
  subst e
  rcases hx with hx | hx | hx
  · rw [hb] at hg
    cases hg
    exact hx hT
  · rw [hx, hp] at hb; cases hb
  · rw [hx, ho] at hb; cases hb
theorem LnOk.setBox {w ao ws cap} (h : LnOk w ao ws cap) {b : Nat} {cs : Array Value} {T : TypeId} (hb : w.heap[b]? = some (.cells cs T (0, 0))) (hT : T ≠ 9) (i : Nat) (v : Value) : LnOk (w.setCell ⟨b, i, none⟩ v) ao ws cap := by
  have hk : ∀ blk off, ao = some ⟨blk, off, none⟩ → (w.setCell ⟨b, i, none⟩ v).heap[blk]? = w.heap[blk]? := fun blk off e => by
    obtain ⟨cur, hc⟩ := h.ty blk off e
    exact Below.heap_setCell _ _ _ _ (fun e2 => by
      have e2 : blk = b := e2
      subst e2
      rw [hb] at hc
      cases hc
      exact hT rfl)
  refine ⟨?_, h.le, h.cap, h.each, fun blk off e => by obtain ⟨cur, hc⟩ := h.ty blk off e; exact ⟨cur, (hk blk off e).trans hc⟩⟩
  rcases h.inn with h' | ⟨blk, off, h1, h2⟩
  · exact .inl h'
  · exact .inr ⟨blk, off, h1, fun j s hs => (World.cell?_of_block (a := ⟨blk, off + j, none⟩) (hk blk off h1)).trans (h2 j s hs)⟩
theorem neqL (fn : Fn) (f c : Array Value) (w : World) : (binOp .neq 81 (.func fn f c) .nilFunc).run Tryz.prog w = .ok (.bool true) w := by kernel_rfl
theorem eqlL (w : World) : (binOp .neq 81 .nilFunc .nilFunc).run Tryz.prog w = .ok (.bool false) w := by kernel_rfl

theorem belowN (w : World) (n : Nat) : Below w.heap.size w (w.drewN n) := ⟨rfl, rfl, rfl, Nat.le_refl _, fun _ _ => rfl⟩
theorem AsOk.pbt {base wk pb ob again S w} (h : AsOk base wk pb ob again S w) : pb < w.heap.size := by
  obtain ⟨vB, vL, vM, hF⟩ := h.is
  exact hF.pm.lt

set_option maxHeartbeats 8000000 in
theorem do_c (base wk pb ob : Nat) (again : Bool) (S : St) (n : Int) (ao : Option Addr) (cap : Nat) (ws : List Wd) (w : World) (h : AsOk base wk pb ob again S w) (hl : LnOk w ao ws cap) (hwl : ws.length ≤ 10000) (hll : S.labels.length ≤ 100000) :
    Calls Tryz.prog 11 #[.pointer (some ⟨wk, 0, none⟩), lnV n ao ws.length cap] w (DoP base wk pb ob again (doF again S n ws) w) := by
  by_cases hne : ws = []
  · subst hne
    have : doF again S n [] = .ok S := by unfold doF; exact if_pos rfl
    rw [this]
    exact do_nil base wk pb ob again S n ao cap w h
  obtain ⟨w0, rest, rfl⟩ := List.exists_cons_of_ne_nil hne
  have hmf : ∀ (fn : Fn) (first cap : Array Value) (w : World), (Instr.makeFunc fn first cap).run Tryz.prog w = .ok (.func fn first cap) w := fun _ _ _ _ => rfl
  have hneq := neqL
  have heql := eqlL
  have hG0 := give_c
  have HG := Lib.hid hG0
  clear hG0
  obtain ⟨RR, hRR⟩ : ∃ RR, doF again S n (w0 :: rest) = RR := ⟨_, rfl⟩
  rw [hRR]
  unfold doF at hRR
  rw [if_neg hne] at hRR
  have hb0 : Below w.heap.size w ((w.alloc (.cells #[.int .i64 n, .slice ao (w0 :: rest).length cap] 51)).alloc (.cells #[.int .i64 0] 28)) := ((Below.refl _ _).alloc (Nat.le_refl _) _).alloc (by simp) _
  have HLb := Lib.hid (label_c base wk pb ob again S n ao cap w0 rest _ (h.below hb0) (hl.below hb0) hll)
  have hpb := h.pbt
  have hlv : ∀ T vs, labelF again S (w0 :: rest) = .ok (T, vs) → vs.length ≤ (w0 :: rest).length := fun T vs hh => by
    unfold labelF at hh
    simp only at hh
    split at hh
    · split at hh
      · cases hh; simp
      · split at hh
        · cases hh
        · cases hh; simp
    · cases hh; exact Nat.le_refl _
  generalize labelF again S (w0 :: rest) = LL at HLb hRR hlv
  have HRR := Lib.hid hRR
  have hs := h.hs
  obtain ⟨len, hlen⟩ : ∃ len, (w0 :: rest).length = len + 1 := ⟨rest.length, rfl⟩
  rw [hlen] at HLb hlv hwl hb0 ⊢
  have hbx0 : ((w.alloc (.cells #[.int .i64 n, .slice ao (len + 1) cap] 51)).alloc (.cells #[.int .i64 0] 28)).heap[w.heap.size]? = some (.cells #[.int .i64 n, .slice ao (len + 1) cap] 51 (0, 0)) := (Below.heap_alloc _ _ _ (by simp)).trans (heap_alloc_new w _)
  have hbx1 : ((w.alloc (.cells #[.int .i64 n, .slice ao (len + 1) cap] 51)).alloc (.cells #[.int .i64 0] 28)).heap[w.heap.size + 1]? = some (.cells #[.int .i64 0] 28 (0, 0)) := by
    have := heap_alloc_new (w.alloc (.cells #[.int .i64 n, .slice ao (len + 1) cap] 51)) (.cells #[.int .i64 0] 28)
    rwa [World.size_alloc] at this
  have HX0 := Lib.hid hbx0
  have HX1 := Lib.hid hbx1
  have HB0 := Lib.hid hb0
  have d0 : ((len : Int) + 1 == 0) = false := by simp; omega
  unfold lnV at HLb ⊢
  clear h hl hRR hlen hbx0 hbx1 hb0 hne
  go_enter_defers Tryz.func11, Tryz.ntmps11
  go_wp2_with fail
  refine HLb.out.mono ?_
  rintro e w1 ⟨f1, hv⟩
  have hF1 := (Fr.of_below HB0.out hs).trans f1
  have hx1 := f1.out _ _ HX1.out (by simp [OutO]) (by omega)
  have hx0 := f1.out _ _ HX0.out (by simp [OutO]) (by omega)
  have HX1' := Lib.hid hx1
  have HX0' := Lib.hid hx0
  have HF1 := Lib.hid hF1
  clear f1 hx0 hx1 hF1 HX0 HX1 HB0 HLb
  rcases LL with er | ⟨T, vs⟩
  · obtain rfl := hv
    obtain rfl : RR = .error er := HRR.out.symm
    refine leaves_cons (f := 25) (args := #[.pointer (some ⟨w.heap.size + 1, 0, none⟩)]) (by simp) (by simp [go_sem]) ?_
    refine (catch_panic _ er 0 _ HX1'.out).mono ?_
    rintro e u' w'' ⟨rfl, rfl, rfl⟩
    have k1 : ((w1.setCell ⟨w.heap.size + 1, 0, none⟩ (.int .i64 er)).alloc (.cells #[.int .i64 er] 78)).cell? ⟨w.heap.size + 1, 0, none⟩ = some (.int .i64 er) := by
      have h1 := heap_setA (i := 0) HX1'.out (.int .i64 er) (by simp)
      refine cell_of_row _ _ 0 _ _ _ ((Below.heap_alloc _ _ _ ?_).trans h1)
      have := heap_ltA HX1'.out
      simpa [World.setCell] using this
    refine ⟨.int .i64 er, ?_, ?_⟩
    · simp [results, Tryz.results11, go_sem, k1]
    · exact ⟨((HF1.out.setNew _ 0 _ (by omega) hs).trans (Fr.of_below ((Below.refl _ _).alloc (Nat.le_refl _) _) (by have := HF1.out.size; simp [World.setCell]; omega))), rfl⟩
  · obtain ⟨ao', cap', rfl, hl', ha'⟩ := hv
    unfold lnV
    have c0 := cell_of_row w1 _ 0 _ _ _ HX0'.out
    have c1 := cell_of_row w1 _ 1 _ _ _ HX0'.out
    have z0 := frozen_of_row w1 _ 0 _ _ HX0'.out
    have z1 := frozen_of_row w1 _ 1 _ _ HX0'.out
    have hlt0 := heap_ltA HX0'.out
    obtain ⟨w2, hw2⟩ : ∃ x, x = (w1.setCell ⟨w.heap.size, 0, none⟩ (.int .i64 n)).setCell ⟨w.heap.size, 1, none⟩ (.slice ao' vs.length cap') := ⟨_, rfl⟩
    have g1 := heap_setA (i := 0) HX0'.out (.int .i64 n) (by simp)
    have g2 := heap_setA (i := 1) g1 (.slice ao' vs.length cap') (by simp)
    rw [← hw2] at g2
    simp only [List.setIfInBounds_toArray, List.set_cons_zero, List.set_cons_succ, Array.set!_eq_setIfInBounds] at g1 g2
    have HA2 := Lib.hid (show AsOk base wk pb ob again T w2 by rw [hw2]; exact (ha'.setBox HX0'.out (by simp [OutO]) hs 0 _).setBox g1 (by simp [OutO]) hs 1 _)
    have HL2 := Lib.hid (show LnOk w2 ao' vs cap' by rw [hw2]; exact (hl'.setBox HX0'.out (by decide) 0 _).setBox g1 (by decide) 1 _)
    have HF2 := Lib.hid (show Fr base pb w w2 by rw [hw2]; exact (HF1.out.setNew _ 0 _ (Nat.le_refl _) hs).setNew _ 1 _ (Nat.le_refl _) hs)
    have HX2 := Lib.hid (show w2.heap[w.heap.size + 1]? = some (.cells #[.int .i64 0] 28 (0, 0)) by rw [hw2]; exact (Below.heap_setCell _ _ _ _ (by simp)).trans ((Below.heap_setCell _ _ _ _ (by simp)).trans HX1'.out))
    have HX0'' := Lib.hid g2
    clear g1 g2
    have hwv := hlv T vs rfl
    have HW2 := Lib.hid hw2
    have HL1 := Lib.hid hl'
    clear ha' hl' hw2 hlv
    by_cases hvs : vs = []
    · subst hvs
      obtain rfl : RR = .ok T := by have := (show (if ([] : List Wd) = [] then Except.ok T else stepF again T n []) = RR from HRR.out); rw [if_pos rfl] at this; exact this.symm
      simp only [List.length_nil] at HW2 ⊢
      have e0 := (cell_of_row w2 _ 0 _ _ _ HX2.out)
      have hh1 := HX1'.out
      have k2 := cell_of_row w1 _ 0 _ _ _ hh1
      have z2 := frozen_of_row w1 _ 0 _ _ hh1
      have hlt1 := heap_ltA hh1
      clear hh1
      go_wp2_with fail
      rw [← HW2.out]
      refine leaves_cons (f := 25) (args := #[.pointer (some ⟨w.heap.size + 1, 0, none⟩)]) (by simp) (by simp [go_sem]) ?_
      refine (catch_idle _ _).mono ?_
      rintro e u' w'' ⟨rfl, rfl, rfl⟩
      have k1 : (w2.setCell ⟨w.heap.size + 1, 0, none⟩ (.int .i64 0)).cell? ⟨w.heap.size + 1, 0, none⟩ = some (.int .i64 0) := cell_of_row _ _ 0 _ _ _ (heap_setA (i := 0) HX2.out (.int .i64 0) (by simp))
      refine ⟨.int .i64 0, ?_, ?_⟩
      · simp [results, Tryz.results11, go_sem, k1]
      · exact ⟨HF2.out.setNew _ 0 _ (by omega) hs, rfl, (HA2.out.setBox HX2.out (by simp [OutO]) (by omega) 0 _).is⟩
    · have HRR2 := Lib.hid (show stepF again T n vs = RR by have := (show (if vs = [] then Except.ok T else stepF again T n vs) = RR from HRR.out); rwa [if_neg hvs] at this)
      clear HRR
      obtain ⟨v0, vr, rfl⟩ := List.exists_cons_of_ne_nil hvs
      obtain ⟨blk, off, rfl, hblk, y0⟩ := wd_at HL2.out.inn (i := 0) rfl
      have HD := Lib.hid fun W => directive_c wk v0 W
      have hmc : ∀ N W, AsOk base wk pb ob again T W → LnOk W (some ⟨blk, off, none⟩) (v0 :: vr) cap' → dirV wk v0 = mthV N wk → Calls Tryz.prog N #[.pointer (some ⟨wk, 0, none⟩), lnV n (some ⟨blk, off, none⟩) (v0 :: vr).length cap'] W (MetP base wk pb ob again RR W) := fun N W hA hL hd => by
        have := dir_call base wk pb ob again T n (some ⟨blk, off, none⟩) cap' (v0 :: vr) W hA hL (by omega) N hd
        rwa [HRR2.out] at this
      have HMC := Lib.hid hmc
      have HIC := Lib.hid fun (W : World) (op : Int) (hA : AsOk base wk pb ob again T W) (hL : LnOk W (some ⟨blk, off, none⟩) (v0 :: vr) cap') (hop : opF v0 = some op) (o0 : 0 ≤ op) (o1 : op < 256) => instr_c base wk pb ob again T n op (some ⟨blk, off, none⟩) cap' (v0 :: vr) W hA hL (by simp) (by omega) hop o0 o1
      have HDN := Lib.hid fun (hd : dirV wk v0 = .nilFunc) => dir_none (wk := wk) (again := again) (S := T) (n := n) (ws := v0 :: vr) hd
      obtain ⟨vlen, hvl⟩ : ∃ l, (v0 :: vr).length = l + 1 := ⟨vr.length, rfl⟩
      rw [hvl] at HMC HIC HW2 HX0'' ⊢
      have hce : vlen + 1 ≤ cap' := by rw [← hvl]; exact HL2.out.le
      have dv : ((vlen : Int) + 1 == 0) = false := by simp; omega
      have i1 : (0 : Int) < (vlen : Int) + 1 := by omega
      have y1 : w1.cell? ⟨blk, off, none⟩ = some (.string ⟨v0.toArray⟩) := by
        rcases HL1.out.inn with h | ⟨b', o', h1, h2⟩
        · cases h
        · cases h1; exact h2 0 v0 rfl
      have hnb : ¬ blk = w.heap.size := fun e => by
        obtain ⟨cur, hc⟩ := HL1.out.ty _ _ rfl
        rw [e, HX0'.out] at hc
        cases hc
      have hnb' : ¬ w.heap.size = blk := fun e => hnb e.symm
      rw [Nat.add_zero] at y0
      clear hvs hmc hvl
      go_wp2_with fail
      rw [← HW2.out]
      refine (HD.out _).mono ?_
      rintro e w2' ⟨rfl, rfl⟩
      have q0 : w2'.cell? ⟨w.heap.size, 0, none⟩ = some (.int .i64 n) := cell_of_row w2' _ 0 _ _ _ HX0''.out
      have q1 : w2'.cell? ⟨w.heap.size, 1, none⟩ = some (.slice (some ⟨blk, off, none⟩) (vlen + 1) cap') := cell_of_row w2' _ 1 _ _ _ HX0''.out
      have hlt2 := heap_ltA HX0''.out
      clear c0 c1 z0 z1 hlt0 y1 HD HW2
      rcases dir_is wk v0 with hd | ⟨N, hd, hcf⟩
      · rw [hd]
        have HRR3 := Lib.hid (show (match opF v0 with | none => Except.error 40 | some op => instrF again T n (v0 :: vr) op) = RR from (HDN.out hd).symm.trans HRR2.out)
        clear HRR2 HDN HMC hd
        have hlk := fun (N : Nat) => ((show SMap w2' 5 .u8 ob 256 opF from by
          obtain ⟨vB, vL, vM, hF⟩ := HA2.out.is
          exact hF.om).same (w' := w2'.drewN N) rfl).look (mt := 41) Tryz.underlying5 Tryz.underlying41 (by kernel_rfl) (by decide) v0 (by have := (HL2.out.each v0 (List.mem_cons_self ..)).2; unfold maxLen; omega)
        obtain ⟨-, -, -, k3, hlt⟩ := HA2.out.cell
        have hop : ∀ op, opF v0 = some op → 0 ≤ op ∧ op < 256 := fun op h => by
          obtain ⟨m, hm, -, rfl, -⟩ := opF_is h
          have := nm_plain_of hm
          exact ⟨this.1, this.2.1⟩
        generalize (⟨v0.toArray⟩ : ByteArray) = sb at y0 hlk
        generalize opF v0 = ov at hlk HIC HRR3 hop
        rcases ov with _ | op
        · obtain rfl : RR = .error 40 := HRR3.out.symm
          simp only [Option.isSome_none, Option.getD_none] at hlk
          go_wp2_with fail
          go_quiet (fail)
          obtain ⟨w3, hw3⟩ : ∃ x, x = w2'.drewN nq := ⟨_, rfl⟩
          rw [← hw3]
          have hb3 : Below w2'.heap.size w2' w3 := by rw [hw3]; exact belowN _ _
          have HX3 := Lib.hid ((hb3.block _ (heap_ltA HX2.out)).trans HX2.out)
          have HF3 := Lib.hid (HF2.out.trans (Fr.of_below hb3 HA2.out.hs))
          clear hw3 hb3 k3 hlk q0 q1 y0
          go_wp2_with fail
          refine (HG.out _ _).mono ?_
          rintro e w4 ⟨rfl, rfl⟩
          refine leaves_cons (f := 25) (args := #[.pointer (some ⟨w.heap.size + 1, 0, none⟩)]) (by simp) (by simp [go_sem]) ?_
          refine (catch_panic _ 40 0 _ HX3.out).mono ?_
          rintro e u' w'' ⟨rfl, rfl, rfl⟩
          have k1 : ((w4.setCell ⟨w.heap.size + 1, 0, none⟩ (.int .i64 40)).alloc (.cells #[.int .i64 40] 78)).cell? ⟨w.heap.size + 1, 0, none⟩ = some (.int .i64 40) := by
            have h1 := heap_setA (i := 0) HX3.out (.int .i64 40) (by simp)
            refine cell_of_row _ _ 0 _ _ _ ((Below.heap_alloc _ _ _ ?_).trans h1)
            have := heap_ltA HX3.out
            simpa [World.setCell] using this
          refine ⟨.int .i64 40, ?_, ?_⟩
          · simp [results, Tryz.results11, go_sem, k1]
          · exact ⟨((HF3.out.setNew _ 0 _ (by omega) hs).trans (Fr.of_below ((Below.refl _ _).alloc (Nat.le_refl _) _) (by have := HF3.out.size; simp [World.setCell]; omega))), rfl⟩
        · simp only [Option.isSome_some, Option.getD_some] at hlk
          obtain ⟨o0, o1⟩ := hop op rfl
          go_wp2_with fail
          go_quiet (fail)
          obtain ⟨w3, hw3⟩ : ∃ x, x = w2'.drewN nq := ⟨_, rfl⟩
          rw [← hw3]
          have hb3 : Below w2'.heap.size w2' w3 := by rw [hw3]; exact belowN _ _
          have HX3 := Lib.hid ((hb3.block _ (heap_ltA HX2.out)).trans HX2.out)
          have hx3 := (hb3.block _ (heap_ltA HX0''.out)).trans HX0''.out
          have HF3 := Lib.hid (HF2.out.trans (Fr.of_below hb3 HA2.out.hs))
          have q0' : w3.cell? ⟨w.heap.size, 0, none⟩ = some (.int .i64 n) := cell_of_row w3 _ 0 _ _ _ hx3
          have q1' : w3.cell? ⟨w.heap.size, 1, none⟩ = some (.slice (some ⟨blk, off, none⟩) (vlen + 1) cap') := cell_of_row w3 _ 1 _ _ _ hx3
          have hlt3 := heap_ltA hx3
          have HI3 := Lib.hid (HIC.out w3 op (HA2.out.below hb3) (HL2.out.below hb3) rfl o0 o1)
          rw [show instrF again T n (v0 :: vr) op = RR from HRR3.out] at HI3
          unfold lnV at HI3
          clear hw3 hb3 k3 hlk q0 q1 y0 hx3 HIC HRR3
          go_wp2_with fail
          refine HI3.out.mono ?_
          rintro e w4 ⟨f4, hv4⟩
          have HF4 := Lib.hid (HF3.out.trans f4)
          have HX4 := Lib.hid (f4.out _ _ HX3.out (by simp [OutO]) (by omega))
          clear f4 q0' q1'
          rcases RR with er | TT
          · obtain rfl := hv4
            refine leaves_cons (f := 25) (args := #[.pointer (some ⟨w.heap.size + 1, 0, none⟩)]) (by simp) (by simp [go_sem]) ?_
            refine (catch_panic _ er 0 _ HX4.out).mono ?_
            rintro e u' w'' ⟨rfl, rfl, rfl⟩
            have k1 : ((w4.setCell ⟨w.heap.size + 1, 0, none⟩ (.int .i64 er)).alloc (.cells #[.int .i64 er] 78)).cell? ⟨w.heap.size + 1, 0, none⟩ = some (.int .i64 er) := by
              have h1 := heap_setA (i := 0) HX4.out (.int .i64 er) (by simp)
              refine cell_of_row _ _ 0 _ _ _ ((Below.heap_alloc _ _ _ ?_).trans h1)
              have := heap_ltA HX4.out
              simpa [World.setCell] using this
            refine ⟨.int .i64 er, ?_, ?_⟩
            · simp [results, Tryz.results11, go_sem, k1]
            · exact ⟨((HF4.out.setNew _ 0 _ (by omega) hs).trans (Fr.of_below ((Below.refl _ _).alloc (Nat.le_refl _) _) (by have := HF4.out.size; simp [World.setCell]; omega))), rfl⟩
          · obtain ⟨rfl, ha4⟩ := hv4
            have e0 := cell_of_row w4 _ 0 _ _ _ HX4.out
            have ez := frozen_of_row w4 _ 0 _ _ HX4.out
            have hlt1 := heap_ltA HX4.out
            go_wp2_with fail
            refine leaves_cons (f := 25) (args := #[.pointer (some ⟨w.heap.size + 1, 0, none⟩)]) (by simp) (by simp [go_sem]) ?_
            refine (catch_idle _ _).mono ?_
            rintro e u' w'' ⟨rfl, rfl, rfl⟩
            have k1 : (w4.setCell ⟨w.heap.size + 1, 0, none⟩ (.int .i64 0)).cell? ⟨w.heap.size + 1, 0, none⟩ = some (.int .i64 0) := cell_of_row _ _ 0 _ _ _ (heap_setA (i := 0) HX4.out (.int .i64 0) (by simp))
            refine ⟨.int .i64 0, ?_, ?_⟩
            · simp [results, Tryz.results11, go_sem, k1]
            · exact ⟨HF4.out.setNew _ 0 _ (by omega) hs, rfl, ha4.setBoxI HX4.out (by simp [OutO])⟩
      · rw [hd]
        have HM2 := Lib.hid (HMC.out N w2' HA2.out HL2.out hd)
        unfold mthV
        unfold lnV at HM2
        clear HMC HIC HDN hd HRR2
        go_wp2_with fail
        refine HM2.out.mono ?_
        rintro e w3 ⟨f3, hv3⟩
        have HF3 := Lib.hid (HF2.out.trans f3)
        have HX3 := Lib.hid (f3.out _ _ HX2.out (by simp [OutO]) (by omega))
        clear f3
        rcases RR with er | TT
        · obtain rfl := hv3
          refine leaves_cons (f := 25) (args := #[.pointer (some ⟨w.heap.size + 1, 0, none⟩)]) (by simp) (by simp [go_sem]) ?_
          refine (catch_panic _ er 0 _ HX3.out).mono ?_
          rintro e u' w'' ⟨rfl, rfl, rfl⟩
          have k1 : ((w3.setCell ⟨w.heap.size + 1, 0, none⟩ (.int .i64 er)).alloc (.cells #[.int .i64 er] 78)).cell? ⟨w.heap.size + 1, 0, none⟩ = some (.int .i64 er) := by
            have h1 := heap_setA (i := 0) HX3.out (.int .i64 er) (by simp)
            refine cell_of_row _ _ 0 _ _ _ ((Below.heap_alloc _ _ _ ?_).trans h1)
            have := heap_ltA HX3.out
            simpa [World.setCell] using this
          refine ⟨.int .i64 er, ?_, ?_⟩
          · simp [results, Tryz.results11, go_sem, k1]
          · exact ⟨((HF3.out.setNew _ 0 _ (by omega) hs).trans (Fr.of_below ((Below.refl _ _).alloc (Nat.le_refl _) _) (by have := HF3.out.size; simp [World.setCell]; omega))), rfl⟩
        · obtain ⟨rfl, ha3⟩ := hv3
          have e0 := cell_of_row w3 _ 0 _ _ _ HX3.out
          have ez := frozen_of_row w3 _ 0 _ _ HX3.out
          have hlt1 := heap_ltA HX3.out
          go_wp2_with fail
          refine leaves_cons (f := 25) (args := #[.pointer (some ⟨w.heap.size + 1, 0, none⟩)]) (by simp) (by simp [go_sem]) ?_
          refine (catch_idle _ _).mono ?_
          rintro e u' w'' ⟨rfl, rfl, rfl⟩
          have k1 : (w3.setCell ⟨w.heap.size + 1, 0, none⟩ (.int .i64 0)).cell? ⟨w.heap.size + 1, 0, none⟩ = some (.int .i64 0) := cell_of_row _ _ 0 _ _ _ (heap_setA (i := 0) HX3.out (.int .i64 0) (by simp))
          refine ⟨.int .i64 0, ?_, ?_⟩
          · simp [results, Tryz.results11, go_sem, k1]
          · exact ⟨HF3.out.setNew _ 0 _ (by omega) hs, rfl, ha3.setBoxI HX3.out (by simp [OutO])⟩
end Go.Proofs.YtgfljokamgbcaaaGreatDoor
