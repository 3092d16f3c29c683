/- asm's lines: an iterator over an iterator. (Written by mkAX.py.) -/
import Derived.Test.YtgfljokamgbcaaaGreatDoorAsV
namespace Go.Proofs.YtgfljokamgbcaaaGreatDoor
open Go.RowKit Go.Shelf
set_option linter.unusedSimpArgs false
set_option linter.unusedVariables false
set_option maxRecDepth 100000
attribute [local go_sem] Oper.semAt_some

theorem splitSeq_c (L : List UInt8) (w : World) : Calls Tryz.prog 22 #[.string ⟨L.toArray⟩, .string ⟨#[10]⟩] w fun e w' =>
    e = .returned (.func (.func 67) #[] #[.pointer (some ⟨w.heap.size + 1, 0, none⟩), .pointer (some ⟨w.heap.size, 0, none⟩), .pointer (some ⟨w.heap.size + 1 + 1, 0, none⟩)]) ∧ w' = ((w.alloc (.cells #[.string ⟨L.toArray⟩] 9)).alloc (.cells #[.string ⟨#[10]⟩] 9)).alloc (.cells #[.int .i64 0] 3) := by
  have hmf : ∀ (fn : Fn) (first cap : Array Value) (w : World), (Instr.makeFunc fn first cap).run Tryz.prog w = .ok (.func fn first cap) w := fun _ _ _ _ => rfl
  have HI := Lib.hid (show ∀ w, Calls Tryz.prog 43 #[.string ⟨L.toArray⟩, .string ⟨#[10]⟩, .int .i64 0] w fun e w' =>
      e = .returned (.func (.func 67) #[] #[.pointer (some ⟨w.heap.size + 1, 0, none⟩), .pointer (some ⟨w.heap.size, 0, none⟩), .pointer (some ⟨w.heap.size + 1 + 1, 0, none⟩)]) ∧ w' = ((w.alloc (.cells #[.string ⟨L.toArray⟩] 9)).alloc (.cells #[.string ⟨#[10]⟩] 9)).alloc (.cells #[.int .i64 0] 3) from by
    intro w
    generalize (⟨L.toArray⟩ : ByteArray) = sb
    go_enter Tryz.func43, Tryz.ntmps43
    go_wp2_with fail
    go_ret
    exact ⟨rfl, rfl⟩)
  generalize (⟨L.toArray⟩ : ByteArray) = sb at HI ⊢
  go_enter Tryz.func22, Tryz.ntmps22
  go_wp2_with fail
  refine (HI.out _).mono ?_
  rintro e w1 ⟨rfl, rfl⟩
  go_wp2_with fail
  go_ret
  exact ⟨rfl, rfl⟩
theorem lines_c (L : List UInt8) (w : World) : Calls Tryz.prog 10 #[.string ⟨L.toArray⟩] w fun e w' =>
    e = .returned (.func (.func 21) #[] #[.pointer (some ⟨w.heap.size, 0, none⟩)]) ∧ w' = w.alloc (.cells #[.string ⟨L.toArray⟩] 9) := by
  have hmf : ∀ (fn : Fn) (first cap : Array Value) (w : World), (Instr.makeFunc fn first cap).run Tryz.prog w = .ok (.func fn first cap) w := fun _ _ _ _ => rfl
  generalize (⟨L.toArray⟩ : ByteArray) = sb
  go_enter Tryz.func10, Tryz.ntmps10
  go_wp2_with fail
  go_ret
  exact ⟨rfl, rfl⟩

/-- A line, as it is handed on. -/
structure LnE where
  n : Int
  ao : Option Addr
  ws : List Wd
  cap : Nat
abbrev lnE (x : LnE) : Array Value := #[lnV x.n x.ao x.ws.length x.cap]
def OkL (L : List UInt8) (pre : List LnE) (x : LnE) (W : World) : Prop := LnOk W x.ao x.ws x.cap ∧ x.n = (pre.length : Int) + 1 ∧ ∃ r, pre.map LnE.ws ++ x.ws :: r = linesF L
theorem OkL.put {L : List UInt8} {pre : List LnE} {x : LnE} {W : World} (h : OkL L pre x W) {l : Nat} {o : Obj} (o' : Obj) (hl : W.heap[l]? = some o) (ho : o.isCells = false) : OkL L pre x (W.putObj l o') := by
  obtain ⟨h1, h2, h3⟩ := h
  have hk : ∀ blk off, x.ao = some ⟨blk, off, none⟩ → (W.putObj l o').heap[blk]? = W.heap[blk]? := fun blk off e => by
    obtain ⟨cur, hc⟩ := h1.ty blk off e
    exact World.putObj_heap_other (fun e2 => by
      have e2 : blk = l := by omega
      subst e2
      rw [hl] at hc
      cases hc
      cases ho)
  refine ⟨⟨?_, h1.le, h1.cap, h1.each, fun blk off e => by obtain ⟨cur, hc⟩ := h1.ty blk off e; exact ⟨cur, (hk blk off e).trans hc⟩⟩, h2, h3⟩
  rcases h1.inn with h' | ⟨blk, off, e1, e2⟩
  · exact .inl h'
  · exact .inr ⟨blk, off, e1, fun j s hs => (World.cell?_of_block (a := ⟨blk, off + j, none⟩) (hk blk off e1)).trans (e2 j s hs)⟩

theorem cutGo_ok : ∀ (l cur : List UInt8), ∀ s ∈ cutGo l cur, s ≠ [] ∧ s.length ≤ cur.length + l.length
  | [], cur, s, hs => by
    unfold cutGo at hs
    split at hs
    · cases hs
    · rename_i h
      have : s = cur := by simpa using hs
      subst this
      exact ⟨h, by simp⟩
  | c :: r, cur, s, hs => by
    unfold cutGo at hs
    split at hs
    · split at hs
      · have := cutGo_ok r [] s hs
        exact ⟨this.1, by have := this.2; simp at this ⊢; omega⟩
      · rename_i h
        rcases List.mem_cons.1 hs with e | e
        · subst e; exact ⟨h, by simp⟩
        · have := cutGo_ok r [] s e
          exact ⟨this.1, by have := this.2; simp at this ⊢; omega⟩
    · have := cutGo_ok r (cur ++ [c]) s hs
      exact ⟨this.1, by have := this.2; simp at this ⊢; omega⟩
theorem cutGo_count : ∀ (l cur : List UInt8), (cutGo l cur).length ≤ l.length + (if cur = [] then 0 else 1)
  | [], cur => by unfold cutGo; split <;> simp
  | c :: r, cur => by
    unfold cutGo
    split
    · split
      · have := cutGo_count r []
        simp at this ⊢; omega
      · have := cutGo_count r []
        simp at this ⊢; omega
    · have := cutGo_count r (cur ++ [c])
      simp at this ⊢; split <;> omega
theorem splitC_le (x : UInt8) : ∀ (l : List UInt8), ∀ s ∈ splitC x l, s.length ≤ l.length
  | [], s, hs => by simp [splitC] at hs; subst hs; simp
  | c :: r, s, hs => by
    have ih := splitC_le x r
    rw [splitC] at hs
    split at hs
    · rcases List.mem_cons.1 hs with rfl | h
      · simp
      · have := ih s h; simp; omega
    · cases e : splitC x r with
      | nil => exact absurd e (splitC_ne x r)
      | cons w ws =>
        rw [e] at hs ih
        rcases List.mem_cons.1 hs with rfl | h
        · have := ih w List.mem_cons_self; simp; omega
        · have := ih s (List.mem_cons_of_mem _ h); simp; omega
theorem lineW_ok (s : List UInt8) (n : Nat) (hn : s.length ≤ n) : (lineW s).length ≤ n + 1 ∧ ∀ x ∈ lineW s, x ≠ [] ∧ x.length ≤ n := by
  have h0 : (s.takeWhile (· != 59)).length ≤ s.length := (List.takeWhile_sublist _).length_le
  refine ⟨?_, fun x hx => ?_⟩
  · have := cutGo_count (s.takeWhile (· != 59)) []
    unfold lineW
    simp at this
    omega
  · have := cutGo_ok _ _ x hx
    exact ⟨this.1, by have := this.2; simp at this; omega⟩

theorem OwnFrom.up {β : Type} {B B' : Nat} {I : β → World → Prop} (h : OwnFrom B I) (hB : B ≤ B') : OwnFrom B' I := fun s W W' row hs hg hr => h s W W' row hs hg (fun r e => ⟨Nat.le_trans hB (hr r e).1, (hr r e).2⟩)
theorem IStep.up {Ts : List TypeId} {B B' : Nat} {W W' : World} (h : IStep Ts B' W W') (hB : B ≤ B') : IStep Ts B W W' := by
  rcases h with h | ⟨b, cur, T, v, h1, h2, h3, h4⟩
  · exact .inl h
  · exact .inr ⟨b, cur, T, v, Nat.le_trans hB h1, h2, h3, h4⟩
theorem KpT.up {Ts : List TypeId} {B B' : Nat} {W W' : World} (h : KpT Ts B W W') (hB : B ≤ B') : KpT Ts B' W W' := ⟨h.1, fun g cur T h1 h2 h3 => h.2 g cur T (Nat.le_trans hB h1) h2 h3⟩
theorem row_keptX {A B : World} {row : Option Nat} {b : Nat} {cs : Array Value} {t : TypeId} {f : Nat × Nat} {C : Nat} (h : A.heap[b]? = some (.cells cs t f)) (hg : A.grownBy B row) (hr : ∀ r, row = some r → C ≤ r ∧ ∃ o, A.heap[r]? = some o ∧ o.isCells = false) : B.heap[b]? = some (.cells cs t f) :=
  (hg.block b (Array.getElem?_eq_some_iff.1 h).1 (fun e => by
    obtain ⟨-, o, ho, hc⟩ := hr b e.symm
    rw [h] at ho; cases ho; cases hc)).trans h
theorem KeepsFrom.of_below {D : Nat} {W W' : World} (h : Below W.heap.size W W') : KeepsFrom D W W' := ⟨h.size, fun k o _ hk _ => (h.block k (heap_ltA hk)).trans hk⟩
theorem KeepsFrom.set {D : Nat} {W : World} {b i : Nat} {v : Value} {cs : Array Value} {T : TypeId} (hb : W.heap[b]? = some (.cells cs T (0, 0))) : KeepsFrom D W (W.setCell ⟨b, i, none⟩ v) :=
  ⟨by simp [World.setCell], fun k o _ hk ho => (Below.heap_setCell _ _ _ _ (fun e => by
    have e : k = b := e
    subst e
    rw [hb] at hk
    cases hk
    cases ho)).trans hk⟩
theorem KpT.of_below {Ts : List TypeId} {B : Nat} {W W' : World} (h : Below W.heap.size W W') : KpT Ts B W W' := ⟨h.size, fun g cur T _ _ hg => (h.block g (heap_ltA hg)).trans hg⟩
theorem KpT.setLow {Ts : List TypeId} {B : Nat} {W : World} {b i : Nat} {v : Value} (hb : b < B) : KpT Ts B W (W.setCell ⟨b, i, none⟩ v) := ⟨by simp [World.setCell], fun g cur T h1 _ hg => (Below.heap_setCell _ _ _ _ (fun e => by
    have e : g = b := e
    omega)).trans hg⟩

theorem YieldAt.toRound {n m l l2 : Nat} {P : Program} {args : Array Value} {W : World} {R : Ending → World → Prop} (h : YieldAt Fence.wide n P l args W R) : YieldAt (Fence.wide.inRound l2) m P l args W R := by
  obtain ⟨fn, tmps, assign, body, hy, h1, h2⟩ := h
  exact ⟨fn, tmps, assign, body, hy, h1, fun c cs _ => h2 c cs (room_wide _)⟩

/-- What the inner loop keeps. -/
def LnI (yb nb l : Nat) (J : List LnE → World → Prop) (xs : List Wd) (W : World) : Prop :=
  (∃ ys : List LnE, ys.map LnE.ws = xs.map lineW ∧ J ys W) ∧ W.heap[yb]? = some (.cells #[.func (.yield l) #[] #[]] 71 (0, 0)) ∧ W.heap[nb]? = some (.cells #[.int .i64 (xs.length : Int)] 3 (0, 0))
def LnX (L : List UInt8) (Jx : List LnE → World → Prop) (c : Code) (_pre : List Wd) (W : World) : Prop := c = .ret ∧ ∃ ys : List LnE, (∃ r, ys.map LnE.ws ++ r = linesF L) ∧ Jx ys W

set_option maxHeartbeats 16000000 in
theorem lines1_in (n : Nat) (hn : 5 ≤ n) (l qb B : Nat) (L : List UInt8) (hL : L.length ≤ 8192) (W : World) (J Jx : List LnE → World → Prop) (hSt : Stb TsS B J) (hO : OwnFrom W.heap.size J) (hOx : OwnFrom W.heap.size Jx)
    (hY : ∀ pre x W1, J pre W1 → OkL L pre x W1 → YieldAt Fence.wide (n - 1) Tryz.prog l (lnE x) W1 fun e W' => KeepsFrom W.heap.size W1 W' ∧
      ((e = .returned (.bool true) ∧ J (pre ++ [x]) W' ∧ KpT TsS B W1 W') ∨ (e = .returned (.bool false) ∧ Jx (pre ++ [x]) W')))
    (hq : W.heap[qb]? = some (strC L)) (hB : B ≤ W.heap.size) (h0 : J [] W) :
    CallsIn Fence.wide n Tryz.prog 21 #[.func (.yield l) #[] #[], .pointer (some ⟨qb, 0, none⟩)] W fun e W' => (∃ v, e = .returned v) ∧
      ((∃ xs : List LnE, xs.map LnE.ws = linesF L ∧ J xs W') ∨ (∃ pre : List LnE, (∃ r, pre.map LnE.ws ++ r = linesF L) ∧ Jx pre W')) := by
  have h1 : 1 ≤ n := by omega
  have HY := Lib.hid hY
  have HSt := Lib.hid hSt
  have HO := Lib.hid hO
  have HOx := Lib.hid hOx
  have HJ0 := Lib.hid h0
  have k1 := cell_of_row W _ 0 _ _ _ hq
  have hlq := heap_ltA hq
  have HSp := Lib.hid fun (W : World) => (callsIn_wide (n := n - 1)).2 (splitSeq_c L W)
  clear hY hSt hO hOx hq h0
  refine callsIn_of_wp_marks Tryz.func21 rfl trivial ?_ rfl
  simp only [Tryz.ntmps21, List.size_toArray, List.length_cons, List.length_nil, Nat.reduceAdd, Nat.reduceSub, Array.replicate_succ, Array.replicate_zero, List.push_toArray, List.append_toArray, List.nil_append, List.cons_append]
  gi_wp2
  refine ⟨trivial, (HSp.out _).mono ?_⟩
  rintro e w' ⟨rfl, rfl⟩
  clear HSp
  gi_wp2
  obtain ⟨W5, hW5⟩ : ∃ x, x = (((((W.alloc (.cells #[.func (.yield l) #[] #[]] 71)).alloc (.cells #[.int .i64 0] 3)).alloc (.cells #[.string ⟨L.toArray⟩] 9)).alloc (.cells #[.string ⟨#[10]⟩] 9)).alloc (.cells #[.int .i64 0] 3)) := ⟨_, rfl⟩
  rw [← hW5]
  have hsz : W5.heap.size = W.heap.size + 1 + 1 + 1 + 1 + 1 := by rw [hW5]; simp
  have HRy := Lib.hid (show W5.heap[W.heap.size]? = some (.cells #[.func (.yield l) #[] #[]] 71 (0, 0)) by rw [hW5]; exact heap_oldT (heap_oldT (heap_oldT (heap_oldT (heap_newT rfl)))))
  have HRn := Lib.hid (show W5.heap[W.heap.size + 1]? = some (.cells #[.int .i64 0] 3 (0, 0)) by rw [hW5]; exact heap_oldT (heap_oldT (heap_oldT (heap_newT (by simp)))))
  have HRs := Lib.hid (show W5.heap[W.heap.size + 1 + 1]? = some (strC L) by rw [hW5]; exact heap_oldT (heap_oldT (heap_newT (by simp))))
  have HRe := Lib.hid (show W5.heap[W.heap.size + 1 + 1 + 1]? = some (strC [10]) by rw [hW5]; exact heap_oldT (heap_newT (by simp)))
  have HRk := Lib.hid (show W5.heap[W.heap.size + 1 + 1 + 1 + 1]? = some (.cells #[.int .i64 0] 3 (0, 0)) by rw [hW5]; exact heap_newT (by simp))
  have HJ5 := Lib.hid (show J [] W5 by rw [hW5]; exact HO.out.alloc _ (HO.out.alloc _ (HO.out.alloc _ (HO.out.alloc _ (HO.out.alloc _ HJ0.out)))))
  have HSz := Lib.hid hsz
  clear hW5 HJ0 k1 hlq hsz
  refine rangeOwn (F := Fence.wide) rfl h1 (gf := 67) (lb := #[.pointer (some ⟨W.heap.size + 1 + 1 + 1, 0, none⟩), .pointer (some ⟨W.heap.size + 1 + 1, 0, none⟩), .pointer (some ⟨W.heap.size + 1 + 1 + 1 + 1, 0, none⟩)]) rfl trivial (enters_of Tryz.func67 (by kernel_rfl) rfl)
    (encs := wdE) (Ts := TsS) (B := W.heap.size + 1 + 1) (Ok := fun pre x _ => ∃ r, pre ++ x :: r = splitC 10 L) (S := fun ys => ys = splitC 10 L) (Sp := fun pre => ∃ r, pre ++ r = splitC 10 L) (w0 := W5) ?hit (Below.refl _ _) (fun _ => rfl) ?ok
    (LnI W.heap.size (W.heap.size + 1) l J) (LnX L Jx) ?own ?stb ?ownx ?start
    (fun x => { tmps := #[.func (.yield l) #[] #[], .pointer (some ⟨qb, 0, none⟩), .pointer (some ⟨W.heap.size, 0, none⟩), .pointer (some ⟨W.heap.size + 1, 0, none⟩), .string ⟨x.toArray⟩, undef, .string ⟨L.toArray⟩, .func (.func 67) #[] #[.pointer (some ⟨W.heap.size + 1 + 1 + 1, 0, none⟩), .pointer (some ⟨W.heap.size + 1 + 1, 0, none⟩), .pointer (some ⟨W.heap.size + 1 + 1 + 1 + 1, 0, none⟩)], .string ⟨x.toArray⟩, undef, undef, undef, undef, undef, undef, undef, undef, undef, undef, undef, undef, undef, undef, undef, undef], defers := [] }) ?assign ?body ?done ?stop
  case hit =>
    intro l2 J2 Jx2 W' hb hst _ _ hY2 h02
    exact split1_in (n - 1) (by omega) l2 (W.heap.size + 1 + 1) (W.heap.size + 1 + 1 + 1) (W.heap.size + 1 + 1 + 1 + 1) (W.heap.size + 1 + 1) W'.heap.size L (by omega) J2 Jx2 hst hY2 W' ((hb.block _ (heap_ltA HRs.out)).trans HRs.out) ((hb.block _ (heap_ltA HRe.out)).trans HRe.out) ((hb.block _ (heap_ltA HRk.out)).trans HRk.out) ⟨Nat.le_refl _, by omega, by omega⟩ (by omega) h02
  case ok => exact fun _ _ _ _ _ _ h _ _ => h
  case own =>
    rintro s A A' row ⟨⟨ys, e1, e2⟩, e3, e4⟩ hg hr
    exact ⟨⟨ys, e1, OwnFrom.up HO.out (by have := HSz.out; omega) ys A A' row e2 hg hr⟩, row_keptX e3 hg hr, row_keptX e4 hg hr⟩
  case stb =>
    rintro s A A' ⟨⟨ys, e1, e2⟩, e3, e4⟩ hs
    refine ⟨⟨ys, e1, HSt.out ys A A' e2 (hs.up (by omega))⟩, ?_, ?_⟩
    · rcases hs with hb | ⟨b, cur, T, v, hB2, hT, hc, rfl⟩
      · exact (hb.block _ (heap_ltA e3)).trans e3
      · exact (Below.heap_setCell _ _ _ _ (fun e => by have e : W.heap.size = b := e; omega)).trans e3
    · rcases hs with hb | ⟨b, cur, T, v, hB2, hT, hc, rfl⟩
      · exact (hb.block _ (heap_ltA e4)).trans e4
      · exact (Below.heap_setCell _ _ _ _ (fun e => by have e : W.heap.size + 1 = b := e; omega)).trans e4
  case ownx =>
    rintro c s A A' row ⟨rfl, ys, e1, e2⟩ hg hr
    exact ⟨rfl, ys, e1, OwnFrom.up HOx.out (by have := HSz.out; omega) ys A A' row e2 hg hr⟩
  case start => exact ⟨⟨[], rfl, HJ5.out⟩, HRy.out, HRn.out⟩
  case assign =>
    intro l2 x W' K hK
    gi_wp2
    exact hK
  case done =>
    rintro D xs W' hD rfl ⟨⟨ys, e1, e2⟩, e3, e4⟩ hK
    gi_wp2
    refine ⟨by simp, .inl ⟨_, _, rfl, run_takeDeferred hK, ?_⟩⟩
    exact ⟨_, results_none rfl _ _ _, ⟨_, rfl⟩, .inl ⟨ys, e1, OwnFrom.putObj HO.out _ e2 (by have := HSz.out; omega) hK rfl⟩⟩
  case stop =>
    rintro D c pre W' hD - ⟨rfl, ys, e1, e2⟩ hK
    gi_wp2
    refine ⟨by simp, .inl ⟨_, _, rfl, run_takeDeferred hK, ?_⟩⟩
    exact ⟨_, results_none rfl _ _ _, ⟨_, rfl⟩, .inr ⟨ys, e1, OwnFrom.putObj HOx.out _ e2 (by have := HSz.out; omega) hK rfl⟩⟩
  case body =>
    rintro l2 pre x Wc ⟨⟨ys, hys, hJ⟩, hy, hn'⟩ hOk
    have hmx : Tryz.prog.follows .mixedOrders = true := by kernel_rfl
    obtain ⟨r, hr⟩ := hOk
    have hpl : pre.length + 1 ≤ 8193 := by
      have h1 := splitC_len 10 L
      have h2 : L.count 10 ≤ L.length := List.count_le_length
      have h3 := congrArg List.length hr
      simp only [List.length_append, List.length_cons] at h3
      omega
    have hxl : x.length ≤ 8192 := Nat.le_trans (splitC_le 10 L x (by rw [← hr]; simp)) hL
    have c1 := cell_of_row Wc _ 0 _ _ _ hn'
    have f1 := frozen_of_row Wc _ 0 _ _ hn'
    have hltn := heap_ltA hn'
    have hwp : IntKind.i64.wrap ((pre.length : Int) + 1) = (pre.length : Int) + 1 := IntWalk.i64_in _ ⟨by omega, by omega⟩
    obtain ⟨W1, hW1⟩ : ∃ y, y = Wc.setCell ⟨W.heap.size + 1, 0, none⟩ (.int .i64 ((pre.length : Int) + 1)) := ⟨_, rfl⟩
    have hJ1 : J ys W1 := by rw [hW1]; exact HSt.out ys Wc _ hJ (.inr ⟨_, _, _, _, by omega, by simp, hn', rfl⟩)
    have hy1 : W1.heap[W.heap.size]? = some (.cells #[.func (.yield l) #[] #[]] 71 (0, 0)) := by rw [hW1]; exact (Below.heap_setCell _ _ _ _ (fun e => by have e : W.heap.size = W.heap.size + 1 := e; omega)).trans hy
    have hn1 : W1.heap[W.heap.size + 1]? = some (.cells #[.int .i64 ((pre.length : Int) + 1)] 3 (0, 0)) := by rw [hW1]; exact heap_setA (i := 0) hn' _ (by simp)
    have hK1 : KeepsFrom W5.heap.size Wc W1 := by rw [hW1]; exact KeepsFrom.set hn'
    have hP1 : KpT TsS (W.heap.size + 1 + 1) Wc W1 := by rw [hW1]; exact KpT.setLow (by omega)
    have HIx := Lib.hid fun (w : World) => CallsIn.inRound l2 ((callsIn_wide (n := n - 1 - 1 - 1)).2 (show Calls Tryz.prog 23 #[.string ⟨x.toArray⟩, .int .u8 59] w fun e w' => e = .returned (.int .i64 (Lib.indexByte x 59)) ∧ w' = w from Tryz.strings_IndexByte ⟨x.toArray⟩ 59 w))
    have sz := ba_size x
    have hlw : lineW x = cutGo (x.takeWhile (· != 59)) [] := rfl
    have hlo := lineW_ok x 8192 hxl
    rw [hlw] at hlo
    obtain ⟨X, hX⟩ : ∃ X, x.takeWhile (· != 59) = X := ⟨_, rfl⟩
    have hXl : X.length ≤ 8192 := by rw [← hX]; exact Nat.le_trans (List.takeWhile_sublist _).length_le hxl
    have HCut := Lib.hid fun (w : World) => CallsIn.inRound l2 ((callsIn_wide (n := n - 1 - 1 - 1)).2 (cut_c X (by omega) w))
    rw [hX] at hlw hlo
    have HLW := Lib.hid hlw
    have HLO := Lib.hid hlo
    have HHr := Lib.hid hr
    have HYs := Lib.hid hys
    have HJ1 := Lib.hid hJ1
    have HY1 := Lib.hid hy1
    have HN1 := Lib.hid hn1
    have HK1 := Lib.hid hK1
    have HP1 := Lib.hid hP1
    have HW1 := Lib.hid hW1
    have q1 := cell_of_row W1 _ 0 _ _ _ hn1
    have q2 := cell_of_row W1 _ 0 _ _ _ hy1
    clear hr hys hJ hy hn' hlw hlo hJ1 hy1 hn1 hK1 hP1 hW1
    have HYb := Lib.hid (show ∀ w3 v, Below W1.heap.size W1 w3 → w3.ownsRow W1.heap.size 9 1 v (cutGo X []).length ((cutGo X []).map stV) → ∃ ao cap, v = .slice ao (cutGo X []).length cap ∧
        YieldAt (Fence.wide.inRound l2) (n - 1 - 1 - 1) Tryz.prog l #[lnV ((pre.length : Int) + 1) ao (cutGo X []).length cap] w3 fun e Z => ∃ b, e = .returned (.bool b) ∧
          (b = true → KeepsFrom W5.heap.size Wc Z ∧ KpT TsS (W.heap.size + 1 + 1) Wc Z ∧ LnI W.heap.size (W.heap.size + 1) l J (pre ++ [x]) Z) ∧ (b = false → KeepsFrom W5.heap.size Wc Z ∧ LnX L Jx .ret (pre ++ [x]) Z) from by
      intro w3 v hb3 hown
      obtain ⟨-, ao, cap, rfl, g2, g3, g4, g5⟩ := own_wd hown
      refine ⟨ao, cap, rfl, ?_⟩
      have hlen : ys.length = pre.length := by have := congrArg List.length HYs.out; simpa using this
      have hJ3 : J ys w3 := HSt.out ys W1 w3 HJ1.out (.inl hb3)
      have hy3 := (hb3.block _ (heap_ltA HY1.out)).trans HY1.out
      have hn3 := (hb3.block _ (heap_ltA HN1.out)).trans HN1.out
      have hlns : ys.map LnE.ws ++ cutGo X [] :: r.map lineW = linesF L := by
        rw [HYs.out, ← HLW.out]
        unfold linesF
        rw [← HHr.out]
        simp
      have hok : OkL L ys ⟨(pre.length : Int) + 1, ao, cutGo X [], cap⟩ w3 := by
        refine ⟨⟨g2, g3, by unfold maxLen at g4; omega, fun s hs => ?_, g5⟩, by rw [hlen], r.map lineW, hlns⟩
        have := HLO.out.2 s hs
        exact ⟨this.1, by omega⟩
      refine YieldAt.mono (YieldAt.toRound (HY.out ys ⟨(pre.length : Int) + 1, ao, cutGo X [], cap⟩ w3 hJ3 hok)) ?_
      rintro e Z ⟨hkz, ⟨rfl, hJz, hpz⟩ | ⟨rfl, hJxz⟩⟩
      · refine ⟨true, rfl, fun _ => ⟨?_, ?_, ⟨ys ++ [⟨(pre.length : Int) + 1, ao, cutGo X [], cap⟩], ?_, hJz⟩, ?_, ?_⟩, (fun e => by cases e)⟩
        · exact HK1.out.trans ((KeepsFrom.of_below hb3).trans ⟨hkz.size, fun k o hk => hkz.same k o (by have := HSz.out; omega)⟩)
        · exact HP1.out.trans ((KpT.of_below hb3).trans (hpz.up (by omega)))
        · rw [List.map_append, List.map_append, HYs.out]; simp [HLW.out]
        · exact hpz.2 _ _ _ hB (by simp) hy3
        · have := hpz.2 _ _ _ (by omega) (by simp) hn3
          rw [this, List.length_append]
          simp
      · refine ⟨false, rfl, (fun e => by cases e), fun _ => ⟨?_, rfl, ys ++ [⟨(pre.length : Int) + 1, ao, cutGo X [], cap⟩], ⟨r.map lineW, ?_⟩, hJxz⟩⟩
        · exact HK1.out.trans ((KeepsFrom.of_below hb3).trans ⟨hkz.size, fun k o hk => hkz.same k o (by have := HSz.out; omega)⟩)
        · rw [← hlns, List.map_append, List.append_assoc]; rfl)
    have hb1d : Below W1.heap.size W1 W1.drew := (Below.refl _ _).drew
    clear HK1 HP1 HYs HLW HLO HHr HJ1 HRk HRe HRs HRn HRy HJ5 HO HOx HSt HY hB
    rcases idx_cases x 59 with ⟨i1, i2⟩ | ⟨j, i1, i2, i3, i4⟩
    · rw [i1] at HIx
      rw [tw_none i2] at hX
      subst hX
      clear i1 i2
      generalize cutGo x [] = cw at HCut HYb
      generalize (⟨x.toArray⟩ : ByteArray) = sb at *
      gi_wp2
      refine ⟨trivial, fun _ => by omega, (HIx.out _).mono ?_⟩
      rintro e w2 ⟨rfl, rfl⟩
      gi_wp2
      rw [← HW1.out]
      refine wpIn_region_any hmx ?_
      change wpAnyIn _ _ _ _ _ _ _ _ _ (World.drew _)
      refine wpAnyIn_ready (rs := [0, 1, 2]) (by kernel_rfl) (by simp) ?_
      refine (AllReadyIn.cons rfl (fun K hK => ?_) (AllReadyIn.cons rfl (fun K hK => ?_) (AllReadyIn.cons rfl (fun K hK => ?_) AllReadyIn.nil)))
      · go_simp
        refine hK _ _ ?_
        clear hK K
        refine wpAnyIn_ready (rs := [1, 2]) (by kernel_rfl) (by simp) ?_
        refine (AllReadyIn.cons rfl (fun K hK => ?_) (AllReadyIn.cons rfl (fun K hK => ?_) AllReadyIn.nil))
        · go_simp
          refine hK _ _ ?_
          clear hK K
          refine wpAnyIn_ready (rs := [2]) (by kernel_rfl) (by simp) ?_
          refine (AllReadyIn.cons rfl (fun K hK => ?_) AllReadyIn.nil)
          · go_simp
            refine hK _ _ ?_
            clear hK K
            refine wpAnyIn_ready (rs := [3]) (by kernel_rfl) (by simp) ?_
            refine (AllReadyIn.cons rfl (fun K hK => ?_) AllReadyIn.nil)
            · go_simp
              refine ⟨trivial, fun _ => by omega, (HCut.out _).mono ?_⟩
              rintro e w3 ⟨v, rfl, hown3, hb3⟩
              obtain ⟨ao', cap', rfl, fn, tmps, assign, body, hy, hR⟩ := HYb.out w3 v (hb1d.trans hb3) hown3
              have q1' : w3.cell? ⟨W.heap.size + 1, 0, none⟩ = some (.int .i64 ((pre.length : Int) + 1)) := (hb3.cell (p := ⟨W.heap.size + 1, 0, none⟩) (heap_ltA HN1.out)).trans q1
              have q2' : w3.cell? ⟨W.heap.size, 0, none⟩ = some (.func (.yield l) #[] #[]) := (hb3.cell (p := ⟨W.heap.size, 0, none⟩) (heap_ltA HY1.out)).trans q2
              unfold lnV at hy
              clear hown3 hb3
              refine hK _ _ ?_
              clear hK K
              refine wpAnyIn_ready (rs := [4]) (by kernel_rfl) (by simp) ?_
              refine (AllReadyIn.cons rfl (fun K hK => ?_) AllReadyIn.nil)
              · go_simp
                refine hK _ _ ?_
                clear hK K
                refine wpAnyIn_ready (rs := [5]) (by kernel_rfl) (by simp) ?_
                refine (AllReadyIn.cons rfl (fun K hK => ?_) AllReadyIn.nil)
                · go_simp
                  refine ⟨fun _ => by omega, hR.mono ?_⟩
                  rintro e Z ⟨b, rfl, hbt, hbf⟩
                  refine hK _ _ ?_
                  clear hK K
                  refine wpAnyIn_ready (rs := [6]) (by kernel_rfl) (by simp) ?_
                  refine (AllReadyIn.cons rfl (fun K hK => ?_) AllReadyIn.nil)
                  · go_simp
                    refine hK _ _ ?_
                    clear hK K
                    refine wpAnyIn_done (by kernel_rfl) ?_ _
                    cases b
                    · gi_wp2
                      exact hbf (by first | trivial | rfl)
                    · gi_wp2
                      exact hbt (by first | trivial | rfl)
        · go_simp
          refine hK _ _ ?_
          clear hK K
          refine wpAnyIn_ready (rs := [1, 3]) (by kernel_rfl) (by simp) ?_
          refine (AllReadyIn.cons rfl (fun K hK => ?_) (AllReadyIn.cons rfl (fun K hK => ?_) AllReadyIn.nil))
          · go_simp
            refine hK _ _ ?_
            clear hK K
            refine wpAnyIn_ready (rs := [3]) (by kernel_rfl) (by simp) ?_
            refine (AllReadyIn.cons rfl (fun K hK => ?_) AllReadyIn.nil)
            · go_simp
              refine ⟨trivial, fun _ => by omega, (HCut.out _).mono ?_⟩
              rintro e w3 ⟨v, rfl, hown3, hb3⟩
              obtain ⟨ao', cap', rfl, fn, tmps, assign, body, hy, hR⟩ := HYb.out w3 v (hb1d.trans hb3) hown3
              have q1' : w3.cell? ⟨W.heap.size + 1, 0, none⟩ = some (.int .i64 ((pre.length : Int) + 1)) := (hb3.cell (p := ⟨W.heap.size + 1, 0, none⟩) (heap_ltA HN1.out)).trans q1
              have q2' : w3.cell? ⟨W.heap.size, 0, none⟩ = some (.func (.yield l) #[] #[]) := (hb3.cell (p := ⟨W.heap.size, 0, none⟩) (heap_ltA HY1.out)).trans q2
              unfold lnV at hy
              clear hown3 hb3
              refine hK _ _ ?_
              clear hK K
              refine wpAnyIn_ready (rs := [4]) (by kernel_rfl) (by simp) ?_
              refine (AllReadyIn.cons rfl (fun K hK => ?_) AllReadyIn.nil)
              · go_simp
                refine hK _ _ ?_
                clear hK K
                refine wpAnyIn_ready (rs := [5]) (by kernel_rfl) (by simp) ?_
                refine (AllReadyIn.cons rfl (fun K hK => ?_) AllReadyIn.nil)
                · go_simp
                  refine ⟨fun _ => by omega, hR.mono ?_⟩
                  rintro e Z ⟨b, rfl, hbt, hbf⟩
                  refine hK _ _ ?_
                  clear hK K
                  refine wpAnyIn_ready (rs := [6]) (by kernel_rfl) (by simp) ?_
                  refine (AllReadyIn.cons rfl (fun K hK => ?_) AllReadyIn.nil)
                  · go_simp
                    refine hK _ _ ?_
                    clear hK K
                    refine wpAnyIn_done (by kernel_rfl) ?_ _
                    cases b
                    · gi_wp2
                      exact hbf (by first | trivial | rfl)
                    · gi_wp2
                      exact hbt (by first | trivial | rfl)
          · go_simp
            refine ⟨trivial, fun _ => by omega, (HCut.out _).mono ?_⟩
            rintro e w3 ⟨v, rfl, hown3, hb3⟩
            obtain ⟨ao', cap', rfl, fn, tmps, assign, body, hy, hR⟩ := HYb.out w3 v (hb1d.trans hb3) hown3
            have q1' : w3.cell? ⟨W.heap.size + 1, 0, none⟩ = some (.int .i64 ((pre.length : Int) + 1)) := (hb3.cell (p := ⟨W.heap.size + 1, 0, none⟩) (heap_ltA HN1.out)).trans q1
            have q2' : w3.cell? ⟨W.heap.size, 0, none⟩ = some (.func (.yield l) #[] #[]) := (hb3.cell (p := ⟨W.heap.size, 0, none⟩) (heap_ltA HY1.out)).trans q2
            unfold lnV at hy
            clear hown3 hb3
            refine hK _ _ ?_
            clear hK K
            refine wpAnyIn_ready (rs := [1]) (by kernel_rfl) (by simp) ?_
            refine (AllReadyIn.cons rfl (fun K hK => ?_) AllReadyIn.nil)
            · go_simp
              refine hK _ _ ?_
              clear hK K
              refine wpAnyIn_ready (rs := [4]) (by kernel_rfl) (by simp) ?_
              refine (AllReadyIn.cons rfl (fun K hK => ?_) AllReadyIn.nil)
              · go_simp
                refine hK _ _ ?_
                clear hK K
                refine wpAnyIn_ready (rs := [5]) (by kernel_rfl) (by simp) ?_
                refine (AllReadyIn.cons rfl (fun K hK => ?_) AllReadyIn.nil)
                · go_simp
                  refine ⟨fun _ => by omega, hR.mono ?_⟩
                  rintro e Z ⟨b, rfl, hbt, hbf⟩
                  refine hK _ _ ?_
                  clear hK K
                  refine wpAnyIn_ready (rs := [6]) (by kernel_rfl) (by simp) ?_
                  refine (AllReadyIn.cons rfl (fun K hK => ?_) AllReadyIn.nil)
                  · go_simp
                    refine hK _ _ ?_
                    clear hK K
                    refine wpAnyIn_done (by kernel_rfl) ?_ _
                    cases b
                    · gi_wp2
                      exact hbf (by first | trivial | rfl)
                    · gi_wp2
                      exact hbt (by first | trivial | rfl)
      · go_simp
        refine hK _ _ ?_
        clear hK K
        refine wpAnyIn_ready (rs := [0, 2]) (by kernel_rfl) (by simp) ?_
        refine (AllReadyIn.cons rfl (fun K hK => ?_) (AllReadyIn.cons rfl (fun K hK => ?_) AllReadyIn.nil))
        · go_simp
          refine hK _ _ ?_
          clear hK K
          refine wpAnyIn_ready (rs := [2]) (by kernel_rfl) (by simp) ?_
          refine (AllReadyIn.cons rfl (fun K hK => ?_) AllReadyIn.nil)
          · go_simp
            refine hK _ _ ?_
            clear hK K
            refine wpAnyIn_ready (rs := [3]) (by kernel_rfl) (by simp) ?_
            refine (AllReadyIn.cons rfl (fun K hK => ?_) AllReadyIn.nil)
            · go_simp
              refine ⟨trivial, fun _ => by omega, (HCut.out _).mono ?_⟩
              rintro e w3 ⟨v, rfl, hown3, hb3⟩
              obtain ⟨ao', cap', rfl, fn, tmps, assign, body, hy, hR⟩ := HYb.out w3 v (hb1d.trans hb3) hown3
              have q1' : w3.cell? ⟨W.heap.size + 1, 0, none⟩ = some (.int .i64 ((pre.length : Int) + 1)) := (hb3.cell (p := ⟨W.heap.size + 1, 0, none⟩) (heap_ltA HN1.out)).trans q1
              have q2' : w3.cell? ⟨W.heap.size, 0, none⟩ = some (.func (.yield l) #[] #[]) := (hb3.cell (p := ⟨W.heap.size, 0, none⟩) (heap_ltA HY1.out)).trans q2
              unfold lnV at hy
              clear hown3 hb3
              refine hK _ _ ?_
              clear hK K
              refine wpAnyIn_ready (rs := [4]) (by kernel_rfl) (by simp) ?_
              refine (AllReadyIn.cons rfl (fun K hK => ?_) AllReadyIn.nil)
              · go_simp
                refine hK _ _ ?_
                clear hK K
                refine wpAnyIn_ready (rs := [5]) (by kernel_rfl) (by simp) ?_
                refine (AllReadyIn.cons rfl (fun K hK => ?_) AllReadyIn.nil)
                · go_simp
                  refine ⟨fun _ => by omega, hR.mono ?_⟩
                  rintro e Z ⟨b, rfl, hbt, hbf⟩
                  refine hK _ _ ?_
                  clear hK K
                  refine wpAnyIn_ready (rs := [6]) (by kernel_rfl) (by simp) ?_
                  refine (AllReadyIn.cons rfl (fun K hK => ?_) AllReadyIn.nil)
                  · go_simp
                    refine hK _ _ ?_
                    clear hK K
                    refine wpAnyIn_done (by kernel_rfl) ?_ _
                    cases b
                    · gi_wp2
                      exact hbf (by first | trivial | rfl)
                    · gi_wp2
                      exact hbt (by first | trivial | rfl)
        · go_simp
          refine hK _ _ ?_
          clear hK K
          refine wpAnyIn_ready (rs := [0, 3]) (by kernel_rfl) (by simp) ?_
          refine (AllReadyIn.cons rfl (fun K hK => ?_) (AllReadyIn.cons rfl (fun K hK => ?_) AllReadyIn.nil))
          · go_simp
            refine hK _ _ ?_
            clear hK K
            refine wpAnyIn_ready (rs := [3]) (by kernel_rfl) (by simp) ?_
            refine (AllReadyIn.cons rfl (fun K hK => ?_) AllReadyIn.nil)
            · go_simp
              refine ⟨trivial, fun _ => by omega, (HCut.out _).mono ?_⟩
              rintro e w3 ⟨v, rfl, hown3, hb3⟩
              obtain ⟨ao', cap', rfl, fn, tmps, assign, body, hy, hR⟩ := HYb.out w3 v (hb1d.trans hb3) hown3
              have q1' : w3.cell? ⟨W.heap.size + 1, 0, none⟩ = some (.int .i64 ((pre.length : Int) + 1)) := (hb3.cell (p := ⟨W.heap.size + 1, 0, none⟩) (heap_ltA HN1.out)).trans q1
              have q2' : w3.cell? ⟨W.heap.size, 0, none⟩ = some (.func (.yield l) #[] #[]) := (hb3.cell (p := ⟨W.heap.size, 0, none⟩) (heap_ltA HY1.out)).trans q2
              unfold lnV at hy
              clear hown3 hb3
              refine hK _ _ ?_
              clear hK K
              refine wpAnyIn_ready (rs := [4]) (by kernel_rfl) (by simp) ?_
              refine (AllReadyIn.cons rfl (fun K hK => ?_) AllReadyIn.nil)
              · go_simp
                refine hK _ _ ?_
                clear hK K
                refine wpAnyIn_ready (rs := [5]) (by kernel_rfl) (by simp) ?_
                refine (AllReadyIn.cons rfl (fun K hK => ?_) AllReadyIn.nil)
                · go_simp
                  refine ⟨fun _ => by omega, hR.mono ?_⟩
                  rintro e Z ⟨b, rfl, hbt, hbf⟩
                  refine hK _ _ ?_
                  clear hK K
                  refine wpAnyIn_ready (rs := [6]) (by kernel_rfl) (by simp) ?_
                  refine (AllReadyIn.cons rfl (fun K hK => ?_) AllReadyIn.nil)
                  · go_simp
                    refine hK _ _ ?_
                    clear hK K
                    refine wpAnyIn_done (by kernel_rfl) ?_ _
                    cases b
                    · gi_wp2
                      exact hbf (by first | trivial | rfl)
                    · gi_wp2
                      exact hbt (by first | trivial | rfl)
          · go_simp
            refine ⟨trivial, fun _ => by omega, (HCut.out _).mono ?_⟩
            rintro e w3 ⟨v, rfl, hown3, hb3⟩
            obtain ⟨ao', cap', rfl, fn, tmps, assign, body, hy, hR⟩ := HYb.out w3 v (hb1d.trans hb3) hown3
            have q1' : w3.cell? ⟨W.heap.size + 1, 0, none⟩ = some (.int .i64 ((pre.length : Int) + 1)) := (hb3.cell (p := ⟨W.heap.size + 1, 0, none⟩) (heap_ltA HN1.out)).trans q1
            have q2' : w3.cell? ⟨W.heap.size, 0, none⟩ = some (.func (.yield l) #[] #[]) := (hb3.cell (p := ⟨W.heap.size, 0, none⟩) (heap_ltA HY1.out)).trans q2
            unfold lnV at hy
            clear hown3 hb3
            refine hK _ _ ?_
            clear hK K
            refine wpAnyIn_ready (rs := [0, 4]) (by kernel_rfl) (by simp) ?_
            refine (AllReadyIn.cons rfl (fun K hK => ?_) (AllReadyIn.cons rfl (fun K hK => ?_) AllReadyIn.nil))
            · go_simp
              refine hK _ _ ?_
              clear hK K
              refine wpAnyIn_ready (rs := [4]) (by kernel_rfl) (by simp) ?_
              refine (AllReadyIn.cons rfl (fun K hK => ?_) AllReadyIn.nil)
              · go_simp
                refine hK _ _ ?_
                clear hK K
                refine wpAnyIn_ready (rs := [5]) (by kernel_rfl) (by simp) ?_
                refine (AllReadyIn.cons rfl (fun K hK => ?_) AllReadyIn.nil)
                · go_simp
                  refine ⟨fun _ => by omega, hR.mono ?_⟩
                  rintro e Z ⟨b, rfl, hbt, hbf⟩
                  refine hK _ _ ?_
                  clear hK K
                  refine wpAnyIn_ready (rs := [6]) (by kernel_rfl) (by simp) ?_
                  refine (AllReadyIn.cons rfl (fun K hK => ?_) AllReadyIn.nil)
                  · go_simp
                    refine hK _ _ ?_
                    clear hK K
                    refine wpAnyIn_done (by kernel_rfl) ?_ _
                    cases b
                    · gi_wp2
                      exact hbf (by first | trivial | rfl)
                    · gi_wp2
                      exact hbt (by first | trivial | rfl)
            · go_simp
              refine hK _ _ ?_
              clear hK K
              refine wpAnyIn_ready (rs := [0]) (by kernel_rfl) (by simp) ?_
              refine (AllReadyIn.cons rfl (fun K hK => ?_) AllReadyIn.nil)
              · go_simp
                refine hK _ _ ?_
                clear hK K
                refine wpAnyIn_ready (rs := [5]) (by kernel_rfl) (by simp) ?_
                refine (AllReadyIn.cons rfl (fun K hK => ?_) AllReadyIn.nil)
                · go_simp
                  refine ⟨fun _ => by omega, hR.mono ?_⟩
                  rintro e Z ⟨b, rfl, hbt, hbf⟩
                  refine hK _ _ ?_
                  clear hK K
                  refine wpAnyIn_ready (rs := [6]) (by kernel_rfl) (by simp) ?_
                  refine (AllReadyIn.cons rfl (fun K hK => ?_) AllReadyIn.nil)
                  · go_simp
                    refine hK _ _ ?_
                    clear hK K
                    refine wpAnyIn_done (by kernel_rfl) ?_ _
                    cases b
                    · gi_wp2
                      exact hbf (by first | trivial | rfl)
                    · gi_wp2
                      exact hbt (by first | trivial | rfl)
      · go_simp
        refine hK _ _ ?_
        clear hK K
        refine wpAnyIn_ready (rs := [0, 1, 3]) (by kernel_rfl) (by simp) ?_
        refine (AllReadyIn.cons rfl (fun K hK => ?_) (AllReadyIn.cons rfl (fun K hK => ?_) (AllReadyIn.cons rfl (fun K hK => ?_) AllReadyIn.nil)))
        · go_simp
          refine hK _ _ ?_
          clear hK K
          refine wpAnyIn_ready (rs := [1, 3]) (by kernel_rfl) (by simp) ?_
          refine (AllReadyIn.cons rfl (fun K hK => ?_) (AllReadyIn.cons rfl (fun K hK => ?_) AllReadyIn.nil))
          · go_simp
            refine hK _ _ ?_
            clear hK K
            refine wpAnyIn_ready (rs := [3]) (by kernel_rfl) (by simp) ?_
            refine (AllReadyIn.cons rfl (fun K hK => ?_) AllReadyIn.nil)
            · go_simp
              refine ⟨trivial, fun _ => by omega, (HCut.out _).mono ?_⟩
              rintro e w3 ⟨v, rfl, hown3, hb3⟩
              obtain ⟨ao', cap', rfl, fn, tmps, assign, body, hy, hR⟩ := HYb.out w3 v (hb1d.trans hb3) hown3
              have q1' : w3.cell? ⟨W.heap.size + 1, 0, none⟩ = some (.int .i64 ((pre.length : Int) + 1)) := (hb3.cell (p := ⟨W.heap.size + 1, 0, none⟩) (heap_ltA HN1.out)).trans q1
              have q2' : w3.cell? ⟨W.heap.size, 0, none⟩ = some (.func (.yield l) #[] #[]) := (hb3.cell (p := ⟨W.heap.size, 0, none⟩) (heap_ltA HY1.out)).trans q2
              unfold lnV at hy
              clear hown3 hb3
              refine hK _ _ ?_
              clear hK K
              refine wpAnyIn_ready (rs := [4]) (by kernel_rfl) (by simp) ?_
              refine (AllReadyIn.cons rfl (fun K hK => ?_) AllReadyIn.nil)
              · go_simp
                refine hK _ _ ?_
                clear hK K
                refine wpAnyIn_ready (rs := [5]) (by kernel_rfl) (by simp) ?_
                refine (AllReadyIn.cons rfl (fun K hK => ?_) AllReadyIn.nil)
                · go_simp
                  refine ⟨fun _ => by omega, hR.mono ?_⟩
                  rintro e Z ⟨b, rfl, hbt, hbf⟩
                  refine hK _ _ ?_
                  clear hK K
                  refine wpAnyIn_ready (rs := [6]) (by kernel_rfl) (by simp) ?_
                  refine (AllReadyIn.cons rfl (fun K hK => ?_) AllReadyIn.nil)
                  · go_simp
                    refine hK _ _ ?_
                    clear hK K
                    refine wpAnyIn_done (by kernel_rfl) ?_ _
                    cases b
                    · gi_wp2
                      exact hbf (by first | trivial | rfl)
                    · gi_wp2
                      exact hbt (by first | trivial | rfl)
          · go_simp
            refine ⟨trivial, fun _ => by omega, (HCut.out _).mono ?_⟩
            rintro e w3 ⟨v, rfl, hown3, hb3⟩
            obtain ⟨ao', cap', rfl, fn, tmps, assign, body, hy, hR⟩ := HYb.out w3 v (hb1d.trans hb3) hown3
            have q1' : w3.cell? ⟨W.heap.size + 1, 0, none⟩ = some (.int .i64 ((pre.length : Int) + 1)) := (hb3.cell (p := ⟨W.heap.size + 1, 0, none⟩) (heap_ltA HN1.out)).trans q1
            have q2' : w3.cell? ⟨W.heap.size, 0, none⟩ = some (.func (.yield l) #[] #[]) := (hb3.cell (p := ⟨W.heap.size, 0, none⟩) (heap_ltA HY1.out)).trans q2
            unfold lnV at hy
            clear hown3 hb3
            refine hK _ _ ?_
            clear hK K
            refine wpAnyIn_ready (rs := [1]) (by kernel_rfl) (by simp) ?_
            refine (AllReadyIn.cons rfl (fun K hK => ?_) AllReadyIn.nil)
            · go_simp
              refine hK _ _ ?_
              clear hK K
              refine wpAnyIn_ready (rs := [4]) (by kernel_rfl) (by simp) ?_
              refine (AllReadyIn.cons rfl (fun K hK => ?_) AllReadyIn.nil)
              · go_simp
                refine hK _ _ ?_
                clear hK K
                refine wpAnyIn_ready (rs := [5]) (by kernel_rfl) (by simp) ?_
                refine (AllReadyIn.cons rfl (fun K hK => ?_) AllReadyIn.nil)
                · go_simp
                  refine ⟨fun _ => by omega, hR.mono ?_⟩
                  rintro e Z ⟨b, rfl, hbt, hbf⟩
                  refine hK _ _ ?_
                  clear hK K
                  refine wpAnyIn_ready (rs := [6]) (by kernel_rfl) (by simp) ?_
                  refine (AllReadyIn.cons rfl (fun K hK => ?_) AllReadyIn.nil)
                  · go_simp
                    refine hK _ _ ?_
                    clear hK K
                    refine wpAnyIn_done (by kernel_rfl) ?_ _
                    cases b
                    · gi_wp2
                      exact hbf (by first | trivial | rfl)
                    · gi_wp2
                      exact hbt (by first | trivial | rfl)
        · go_simp
          refine hK _ _ ?_
          clear hK K
          refine wpAnyIn_ready (rs := [0, 3]) (by kernel_rfl) (by simp) ?_
          refine (AllReadyIn.cons rfl (fun K hK => ?_) (AllReadyIn.cons rfl (fun K hK => ?_) AllReadyIn.nil))
          · go_simp
            refine hK _ _ ?_
            clear hK K
            refine wpAnyIn_ready (rs := [3]) (by kernel_rfl) (by simp) ?_
            refine (AllReadyIn.cons rfl (fun K hK => ?_) AllReadyIn.nil)
            · go_simp
              refine ⟨trivial, fun _ => by omega, (HCut.out _).mono ?_⟩
              rintro e w3 ⟨v, rfl, hown3, hb3⟩
              obtain ⟨ao', cap', rfl, fn, tmps, assign, body, hy, hR⟩ := HYb.out w3 v (hb1d.trans hb3) hown3
              have q1' : w3.cell? ⟨W.heap.size + 1, 0, none⟩ = some (.int .i64 ((pre.length : Int) + 1)) := (hb3.cell (p := ⟨W.heap.size + 1, 0, none⟩) (heap_ltA HN1.out)).trans q1
              have q2' : w3.cell? ⟨W.heap.size, 0, none⟩ = some (.func (.yield l) #[] #[]) := (hb3.cell (p := ⟨W.heap.size, 0, none⟩) (heap_ltA HY1.out)).trans q2
              unfold lnV at hy
              clear hown3 hb3
              refine hK _ _ ?_
              clear hK K
              refine wpAnyIn_ready (rs := [4]) (by kernel_rfl) (by simp) ?_
              refine (AllReadyIn.cons rfl (fun K hK => ?_) AllReadyIn.nil)
              · go_simp
                refine hK _ _ ?_
                clear hK K
                refine wpAnyIn_ready (rs := [5]) (by kernel_rfl) (by simp) ?_
                refine (AllReadyIn.cons rfl (fun K hK => ?_) AllReadyIn.nil)
                · go_simp
                  refine ⟨fun _ => by omega, hR.mono ?_⟩
                  rintro e Z ⟨b, rfl, hbt, hbf⟩
                  refine hK _ _ ?_
                  clear hK K
                  refine wpAnyIn_ready (rs := [6]) (by kernel_rfl) (by simp) ?_
                  refine (AllReadyIn.cons rfl (fun K hK => ?_) AllReadyIn.nil)
                  · go_simp
                    refine hK _ _ ?_
                    clear hK K
                    refine wpAnyIn_done (by kernel_rfl) ?_ _
                    cases b
                    · gi_wp2
                      exact hbf (by first | trivial | rfl)
                    · gi_wp2
                      exact hbt (by first | trivial | rfl)
          · go_simp
            refine ⟨trivial, fun _ => by omega, (HCut.out _).mono ?_⟩
            rintro e w3 ⟨v, rfl, hown3, hb3⟩
            obtain ⟨ao', cap', rfl, fn, tmps, assign, body, hy, hR⟩ := HYb.out w3 v (hb1d.trans hb3) hown3
            have q1' : w3.cell? ⟨W.heap.size + 1, 0, none⟩ = some (.int .i64 ((pre.length : Int) + 1)) := (hb3.cell (p := ⟨W.heap.size + 1, 0, none⟩) (heap_ltA HN1.out)).trans q1
            have q2' : w3.cell? ⟨W.heap.size, 0, none⟩ = some (.func (.yield l) #[] #[]) := (hb3.cell (p := ⟨W.heap.size, 0, none⟩) (heap_ltA HY1.out)).trans q2
            unfold lnV at hy
            clear hown3 hb3
            refine hK _ _ ?_
            clear hK K
            refine wpAnyIn_ready (rs := [0, 4]) (by kernel_rfl) (by simp) ?_
            refine (AllReadyIn.cons rfl (fun K hK => ?_) (AllReadyIn.cons rfl (fun K hK => ?_) AllReadyIn.nil))
            · go_simp
              refine hK _ _ ?_
              clear hK K
              refine wpAnyIn_ready (rs := [4]) (by kernel_rfl) (by simp) ?_
              refine (AllReadyIn.cons rfl (fun K hK => ?_) AllReadyIn.nil)
              · go_simp
                refine hK _ _ ?_
                clear hK K
                refine wpAnyIn_ready (rs := [5]) (by kernel_rfl) (by simp) ?_
                refine (AllReadyIn.cons rfl (fun K hK => ?_) AllReadyIn.nil)
                · go_simp
                  refine ⟨fun _ => by omega, hR.mono ?_⟩
                  rintro e Z ⟨b, rfl, hbt, hbf⟩
                  refine hK _ _ ?_
                  clear hK K
                  refine wpAnyIn_ready (rs := [6]) (by kernel_rfl) (by simp) ?_
                  refine (AllReadyIn.cons rfl (fun K hK => ?_) AllReadyIn.nil)
                  · go_simp
                    refine hK _ _ ?_
                    clear hK K
                    refine wpAnyIn_done (by kernel_rfl) ?_ _
                    cases b
                    · gi_wp2
                      exact hbf (by first | trivial | rfl)
                    · gi_wp2
                      exact hbt (by first | trivial | rfl)
            · go_simp
              refine hK _ _ ?_
              clear hK K
              refine wpAnyIn_ready (rs := [0]) (by kernel_rfl) (by simp) ?_
              refine (AllReadyIn.cons rfl (fun K hK => ?_) AllReadyIn.nil)
              · go_simp
                refine hK _ _ ?_
                clear hK K
                refine wpAnyIn_ready (rs := [5]) (by kernel_rfl) (by simp) ?_
                refine (AllReadyIn.cons rfl (fun K hK => ?_) AllReadyIn.nil)
                · go_simp
                  refine ⟨fun _ => by omega, hR.mono ?_⟩
                  rintro e Z ⟨b, rfl, hbt, hbf⟩
                  refine hK _ _ ?_
                  clear hK K
                  refine wpAnyIn_ready (rs := [6]) (by kernel_rfl) (by simp) ?_
                  refine (AllReadyIn.cons rfl (fun K hK => ?_) AllReadyIn.nil)
                  · go_simp
                    refine hK _ _ ?_
                    clear hK K
                    refine wpAnyIn_done (by kernel_rfl) ?_ _
                    cases b
                    · gi_wp2
                      exact hbf (by first | trivial | rfl)
                    · gi_wp2
                      exact hbt (by first | trivial | rfl)
        · go_simp
          refine ⟨trivial, fun _ => by omega, (HCut.out _).mono ?_⟩
          rintro e w3 ⟨v, rfl, hown3, hb3⟩
          obtain ⟨ao', cap', rfl, fn, tmps, assign, body, hy, hR⟩ := HYb.out w3 v (hb1d.trans hb3) hown3
          have q1' : w3.cell? ⟨W.heap.size + 1, 0, none⟩ = some (.int .i64 ((pre.length : Int) + 1)) := (hb3.cell (p := ⟨W.heap.size + 1, 0, none⟩) (heap_ltA HN1.out)).trans q1
          have q2' : w3.cell? ⟨W.heap.size, 0, none⟩ = some (.func (.yield l) #[] #[]) := (hb3.cell (p := ⟨W.heap.size, 0, none⟩) (heap_ltA HY1.out)).trans q2
          unfold lnV at hy
          clear hown3 hb3
          refine hK _ _ ?_
          clear hK K
          refine wpAnyIn_ready (rs := [0, 1]) (by kernel_rfl) (by simp) ?_
          refine (AllReadyIn.cons rfl (fun K hK => ?_) (AllReadyIn.cons rfl (fun K hK => ?_) AllReadyIn.nil))
          · go_simp
            refine hK _ _ ?_
            clear hK K
            refine wpAnyIn_ready (rs := [1]) (by kernel_rfl) (by simp) ?_
            refine (AllReadyIn.cons rfl (fun K hK => ?_) AllReadyIn.nil)
            · go_simp
              refine hK _ _ ?_
              clear hK K
              refine wpAnyIn_ready (rs := [4]) (by kernel_rfl) (by simp) ?_
              refine (AllReadyIn.cons rfl (fun K hK => ?_) AllReadyIn.nil)
              · go_simp
                refine hK _ _ ?_
                clear hK K
                refine wpAnyIn_ready (rs := [5]) (by kernel_rfl) (by simp) ?_
                refine (AllReadyIn.cons rfl (fun K hK => ?_) AllReadyIn.nil)
                · go_simp
                  refine ⟨fun _ => by omega, hR.mono ?_⟩
                  rintro e Z ⟨b, rfl, hbt, hbf⟩
                  refine hK _ _ ?_
                  clear hK K
                  refine wpAnyIn_ready (rs := [6]) (by kernel_rfl) (by simp) ?_
                  refine (AllReadyIn.cons rfl (fun K hK => ?_) AllReadyIn.nil)
                  · go_simp
                    refine hK _ _ ?_
                    clear hK K
                    refine wpAnyIn_done (by kernel_rfl) ?_ _
                    cases b
                    · gi_wp2
                      exact hbf (by first | trivial | rfl)
                    · gi_wp2
                      exact hbt (by first | trivial | rfl)
          · go_simp
            refine hK _ _ ?_
            clear hK K
            refine wpAnyIn_ready (rs := [0, 4]) (by kernel_rfl) (by simp) ?_
            refine (AllReadyIn.cons rfl (fun K hK => ?_) (AllReadyIn.cons rfl (fun K hK => ?_) AllReadyIn.nil))
            · go_simp
              refine hK _ _ ?_
              clear hK K
              refine wpAnyIn_ready (rs := [4]) (by kernel_rfl) (by simp) ?_
              refine (AllReadyIn.cons rfl (fun K hK => ?_) AllReadyIn.nil)
              · go_simp
                refine hK _ _ ?_
                clear hK K
                refine wpAnyIn_ready (rs := [5]) (by kernel_rfl) (by simp) ?_
                refine (AllReadyIn.cons rfl (fun K hK => ?_) AllReadyIn.nil)
                · go_simp
                  refine ⟨fun _ => by omega, hR.mono ?_⟩
                  rintro e Z ⟨b, rfl, hbt, hbf⟩
                  refine hK _ _ ?_
                  clear hK K
                  refine wpAnyIn_ready (rs := [6]) (by kernel_rfl) (by simp) ?_
                  refine (AllReadyIn.cons rfl (fun K hK => ?_) AllReadyIn.nil)
                  · go_simp
                    refine hK _ _ ?_
                    clear hK K
                    refine wpAnyIn_done (by kernel_rfl) ?_ _
                    cases b
                    · gi_wp2
                      exact hbf (by first | trivial | rfl)
                    · gi_wp2
                      exact hbt (by first | trivial | rfl)
            · go_simp
              refine hK _ _ ?_
              clear hK K
              refine wpAnyIn_ready (rs := [0]) (by kernel_rfl) (by simp) ?_
              refine (AllReadyIn.cons rfl (fun K hK => ?_) AllReadyIn.nil)
              · go_simp
                refine hK _ _ ?_
                clear hK K
                refine wpAnyIn_ready (rs := [5]) (by kernel_rfl) (by simp) ?_
                refine (AllReadyIn.cons rfl (fun K hK => ?_) AllReadyIn.nil)
                · go_simp
                  refine ⟨fun _ => by omega, hR.mono ?_⟩
                  rintro e Z ⟨b, rfl, hbt, hbf⟩
                  refine hK _ _ ?_
                  clear hK K
                  refine wpAnyIn_ready (rs := [6]) (by kernel_rfl) (by simp) ?_
                  refine (AllReadyIn.cons rfl (fun K hK => ?_) AllReadyIn.nil)
                  · go_simp
                    refine hK _ _ ?_
                    clear hK K
                    refine wpAnyIn_done (by kernel_rfl) ?_ _
                    cases b
                    · gi_wp2
                      exact hbf (by first | trivial | rfl)
                    · gi_wp2
                      exact hbt (by first | trivial | rfl)
    · rw [i1] at HIx
      rw [tw_at i4 i3] at hX
      have ex := ba_extract x 0 j
      rw [List.drop_zero, Nat.sub_zero, hX] at ex
      have y1 : (0 : Int) ≤ (j : Int) ∧ (j : Int) ≤ (x.length : Int) := by omega
      have y2 : j ≤ x.length := by omega
      clear i1 i3 i4 hX
      generalize cutGo X [] = cw at HCut HYb
      generalize (⟨X.toArray⟩ : ByteArray) = Xb at *
      gi_wp2
      refine ⟨trivial, fun _ => by omega, (HIx.out _).mono ?_⟩
      rintro e w2 ⟨rfl, rfl⟩
      gi_wp2
      rw [← HW1.out]
      refine wpIn_region_any hmx ?_
      change wpAnyIn _ _ _ _ _ _ _ _ _ (World.drew _)
      refine wpAnyIn_ready (rs := [0, 1, 2]) (by kernel_rfl) (by simp) ?_
      refine (AllReadyIn.cons rfl (fun K hK => ?_) (AllReadyIn.cons rfl (fun K hK => ?_) (AllReadyIn.cons rfl (fun K hK => ?_) AllReadyIn.nil)))
      · go_simp
        refine hK _ _ ?_
        clear hK K
        refine wpAnyIn_ready (rs := [1, 2]) (by kernel_rfl) (by simp) ?_
        refine (AllReadyIn.cons rfl (fun K hK => ?_) (AllReadyIn.cons rfl (fun K hK => ?_) AllReadyIn.nil))
        · go_simp
          refine hK _ _ ?_
          clear hK K
          refine wpAnyIn_ready (rs := [2]) (by kernel_rfl) (by simp) ?_
          refine (AllReadyIn.cons rfl (fun K hK => ?_) AllReadyIn.nil)
          · go_simp
            refine hK _ _ ?_
            clear hK K
            refine wpAnyIn_ready (rs := [3]) (by kernel_rfl) (by simp) ?_
            refine (AllReadyIn.cons rfl (fun K hK => ?_) AllReadyIn.nil)
            · go_simp
              refine ⟨trivial, fun _ => by omega, (HCut.out _).mono ?_⟩
              rintro e w3 ⟨v, rfl, hown3, hb3⟩
              obtain ⟨ao', cap', rfl, fn, tmps, assign, body, hy, hR⟩ := HYb.out w3 v (hb1d.trans hb3) hown3
              have q1' : w3.cell? ⟨W.heap.size + 1, 0, none⟩ = some (.int .i64 ((pre.length : Int) + 1)) := (hb3.cell (p := ⟨W.heap.size + 1, 0, none⟩) (heap_ltA HN1.out)).trans q1
              have q2' : w3.cell? ⟨W.heap.size, 0, none⟩ = some (.func (.yield l) #[] #[]) := (hb3.cell (p := ⟨W.heap.size, 0, none⟩) (heap_ltA HY1.out)).trans q2
              unfold lnV at hy
              clear hown3 hb3
              refine hK _ _ ?_
              clear hK K
              refine wpAnyIn_ready (rs := [4]) (by kernel_rfl) (by simp) ?_
              refine (AllReadyIn.cons rfl (fun K hK => ?_) AllReadyIn.nil)
              · go_simp
                refine hK _ _ ?_
                clear hK K
                refine wpAnyIn_ready (rs := [5]) (by kernel_rfl) (by simp) ?_
                refine (AllReadyIn.cons rfl (fun K hK => ?_) AllReadyIn.nil)
                · go_simp
                  refine ⟨fun _ => by omega, hR.mono ?_⟩
                  rintro e Z ⟨b, rfl, hbt, hbf⟩
                  refine hK _ _ ?_
                  clear hK K
                  refine wpAnyIn_ready (rs := [6]) (by kernel_rfl) (by simp) ?_
                  refine (AllReadyIn.cons rfl (fun K hK => ?_) AllReadyIn.nil)
                  · go_simp
                    refine hK _ _ ?_
                    clear hK K
                    refine wpAnyIn_done (by kernel_rfl) ?_ _
                    cases b
                    · gi_wp2
                      exact hbf (by first | trivial | rfl)
                    · gi_wp2
                      exact hbt (by first | trivial | rfl)
        · go_simp
          refine hK _ _ ?_
          clear hK K
          refine wpAnyIn_ready (rs := [1, 3]) (by kernel_rfl) (by simp) ?_
          refine (AllReadyIn.cons rfl (fun K hK => ?_) (AllReadyIn.cons rfl (fun K hK => ?_) AllReadyIn.nil))
          · go_simp
            refine hK _ _ ?_
            clear hK K
            refine wpAnyIn_ready (rs := [3]) (by kernel_rfl) (by simp) ?_
            refine (AllReadyIn.cons rfl (fun K hK => ?_) AllReadyIn.nil)
            · go_simp
              refine ⟨trivial, fun _ => by omega, (HCut.out _).mono ?_⟩
              rintro e w3 ⟨v, rfl, hown3, hb3⟩
              obtain ⟨ao', cap', rfl, fn, tmps, assign, body, hy, hR⟩ := HYb.out w3 v (hb1d.trans hb3) hown3
              have q1' : w3.cell? ⟨W.heap.size + 1, 0, none⟩ = some (.int .i64 ((pre.length : Int) + 1)) := (hb3.cell (p := ⟨W.heap.size + 1, 0, none⟩) (heap_ltA HN1.out)).trans q1
              have q2' : w3.cell? ⟨W.heap.size, 0, none⟩ = some (.func (.yield l) #[] #[]) := (hb3.cell (p := ⟨W.heap.size, 0, none⟩) (heap_ltA HY1.out)).trans q2
              unfold lnV at hy
              clear hown3 hb3
              refine hK _ _ ?_
              clear hK K
              refine wpAnyIn_ready (rs := [4]) (by kernel_rfl) (by simp) ?_
              refine (AllReadyIn.cons rfl (fun K hK => ?_) AllReadyIn.nil)
              · go_simp
                refine hK _ _ ?_
                clear hK K
                refine wpAnyIn_ready (rs := [5]) (by kernel_rfl) (by simp) ?_
                refine (AllReadyIn.cons rfl (fun K hK => ?_) AllReadyIn.nil)
                · go_simp
                  refine ⟨fun _ => by omega, hR.mono ?_⟩
                  rintro e Z ⟨b, rfl, hbt, hbf⟩
                  refine hK _ _ ?_
                  clear hK K
                  refine wpAnyIn_ready (rs := [6]) (by kernel_rfl) (by simp) ?_
                  refine (AllReadyIn.cons rfl (fun K hK => ?_) AllReadyIn.nil)
                  · go_simp
                    refine hK _ _ ?_
                    clear hK K
                    refine wpAnyIn_done (by kernel_rfl) ?_ _
                    cases b
                    · gi_wp2
                      exact hbf (by first | trivial | rfl)
                    · gi_wp2
                      exact hbt (by first | trivial | rfl)
          · go_simp
            refine ⟨trivial, fun _ => by omega, (HCut.out _).mono ?_⟩
            rintro e w3 ⟨v, rfl, hown3, hb3⟩
            obtain ⟨ao', cap', rfl, fn, tmps, assign, body, hy, hR⟩ := HYb.out w3 v (hb1d.trans hb3) hown3
            have q1' : w3.cell? ⟨W.heap.size + 1, 0, none⟩ = some (.int .i64 ((pre.length : Int) + 1)) := (hb3.cell (p := ⟨W.heap.size + 1, 0, none⟩) (heap_ltA HN1.out)).trans q1
            have q2' : w3.cell? ⟨W.heap.size, 0, none⟩ = some (.func (.yield l) #[] #[]) := (hb3.cell (p := ⟨W.heap.size, 0, none⟩) (heap_ltA HY1.out)).trans q2
            unfold lnV at hy
            clear hown3 hb3
            refine hK _ _ ?_
            clear hK K
            refine wpAnyIn_ready (rs := [1]) (by kernel_rfl) (by simp) ?_
            refine (AllReadyIn.cons rfl (fun K hK => ?_) AllReadyIn.nil)
            · go_simp
              refine hK _ _ ?_
              clear hK K
              refine wpAnyIn_ready (rs := [4]) (by kernel_rfl) (by simp) ?_
              refine (AllReadyIn.cons rfl (fun K hK => ?_) AllReadyIn.nil)
              · go_simp
                refine hK _ _ ?_
                clear hK K
                refine wpAnyIn_ready (rs := [5]) (by kernel_rfl) (by simp) ?_
                refine (AllReadyIn.cons rfl (fun K hK => ?_) AllReadyIn.nil)
                · go_simp
                  refine ⟨fun _ => by omega, hR.mono ?_⟩
                  rintro e Z ⟨b, rfl, hbt, hbf⟩
                  refine hK _ _ ?_
                  clear hK K
                  refine wpAnyIn_ready (rs := [6]) (by kernel_rfl) (by simp) ?_
                  refine (AllReadyIn.cons rfl (fun K hK => ?_) AllReadyIn.nil)
                  · go_simp
                    refine hK _ _ ?_
                    clear hK K
                    refine wpAnyIn_done (by kernel_rfl) ?_ _
                    cases b
                    · gi_wp2
                      exact hbf (by first | trivial | rfl)
                    · gi_wp2
                      exact hbt (by first | trivial | rfl)
      · go_simp
        refine hK _ _ ?_
        clear hK K
        refine wpAnyIn_ready (rs := [0, 2]) (by kernel_rfl) (by simp) ?_
        refine (AllReadyIn.cons rfl (fun K hK => ?_) (AllReadyIn.cons rfl (fun K hK => ?_) AllReadyIn.nil))
        · go_simp
          refine hK _ _ ?_
          clear hK K
          refine wpAnyIn_ready (rs := [2]) (by kernel_rfl) (by simp) ?_
          refine (AllReadyIn.cons rfl (fun K hK => ?_) AllReadyIn.nil)
          · go_simp
            refine hK _ _ ?_
            clear hK K
            refine wpAnyIn_ready (rs := [3]) (by kernel_rfl) (by simp) ?_
            refine (AllReadyIn.cons rfl (fun K hK => ?_) AllReadyIn.nil)
            · go_simp
              refine ⟨trivial, fun _ => by omega, (HCut.out _).mono ?_⟩
              rintro e w3 ⟨v, rfl, hown3, hb3⟩
              obtain ⟨ao', cap', rfl, fn, tmps, assign, body, hy, hR⟩ := HYb.out w3 v (hb1d.trans hb3) hown3
              have q1' : w3.cell? ⟨W.heap.size + 1, 0, none⟩ = some (.int .i64 ((pre.length : Int) + 1)) := (hb3.cell (p := ⟨W.heap.size + 1, 0, none⟩) (heap_ltA HN1.out)).trans q1
              have q2' : w3.cell? ⟨W.heap.size, 0, none⟩ = some (.func (.yield l) #[] #[]) := (hb3.cell (p := ⟨W.heap.size, 0, none⟩) (heap_ltA HY1.out)).trans q2
              unfold lnV at hy
              clear hown3 hb3
              refine hK _ _ ?_
              clear hK K
              refine wpAnyIn_ready (rs := [4]) (by kernel_rfl) (by simp) ?_
              refine (AllReadyIn.cons rfl (fun K hK => ?_) AllReadyIn.nil)
              · go_simp
                refine hK _ _ ?_
                clear hK K
                refine wpAnyIn_ready (rs := [5]) (by kernel_rfl) (by simp) ?_
                refine (AllReadyIn.cons rfl (fun K hK => ?_) AllReadyIn.nil)
                · go_simp
                  refine ⟨fun _ => by omega, hR.mono ?_⟩
                  rintro e Z ⟨b, rfl, hbt, hbf⟩
                  refine hK _ _ ?_
                  clear hK K
                  refine wpAnyIn_ready (rs := [6]) (by kernel_rfl) (by simp) ?_
                  refine (AllReadyIn.cons rfl (fun K hK => ?_) AllReadyIn.nil)
                  · go_simp
                    refine hK _ _ ?_
                    clear hK K
                    refine wpAnyIn_done (by kernel_rfl) ?_ _
                    cases b
                    · gi_wp2
                      exact hbf (by first | trivial | rfl)
                    · gi_wp2
                      exact hbt (by first | trivial | rfl)
        · go_simp
          refine hK _ _ ?_
          clear hK K
          refine wpAnyIn_ready (rs := [0, 3]) (by kernel_rfl) (by simp) ?_
          refine (AllReadyIn.cons rfl (fun K hK => ?_) (AllReadyIn.cons rfl (fun K hK => ?_) AllReadyIn.nil))
          · go_simp
            refine hK _ _ ?_
            clear hK K
            refine wpAnyIn_ready (rs := [3]) (by kernel_rfl) (by simp) ?_
            refine (AllReadyIn.cons rfl (fun K hK => ?_) AllReadyIn.nil)
            · go_simp
              refine ⟨trivial, fun _ => by omega, (HCut.out _).mono ?_⟩
              rintro e w3 ⟨v, rfl, hown3, hb3⟩
              obtain ⟨ao', cap', rfl, fn, tmps, assign, body, hy, hR⟩ := HYb.out w3 v (hb1d.trans hb3) hown3
              have q1' : w3.cell? ⟨W.heap.size + 1, 0, none⟩ = some (.int .i64 ((pre.length : Int) + 1)) := (hb3.cell (p := ⟨W.heap.size + 1, 0, none⟩) (heap_ltA HN1.out)).trans q1
              have q2' : w3.cell? ⟨W.heap.size, 0, none⟩ = some (.func (.yield l) #[] #[]) := (hb3.cell (p := ⟨W.heap.size, 0, none⟩) (heap_ltA HY1.out)).trans q2
              unfold lnV at hy
              clear hown3 hb3
              refine hK _ _ ?_
              clear hK K
              refine wpAnyIn_ready (rs := [4]) (by kernel_rfl) (by simp) ?_
              refine (AllReadyIn.cons rfl (fun K hK => ?_) AllReadyIn.nil)
              · go_simp
                refine hK _ _ ?_
                clear hK K
                refine wpAnyIn_ready (rs := [5]) (by kernel_rfl) (by simp) ?_
                refine (AllReadyIn.cons rfl (fun K hK => ?_) AllReadyIn.nil)
                · go_simp
                  refine ⟨fun _ => by omega, hR.mono ?_⟩
                  rintro e Z ⟨b, rfl, hbt, hbf⟩
                  refine hK _ _ ?_
                  clear hK K
                  refine wpAnyIn_ready (rs := [6]) (by kernel_rfl) (by simp) ?_
                  refine (AllReadyIn.cons rfl (fun K hK => ?_) AllReadyIn.nil)
                  · go_simp
                    refine hK _ _ ?_
                    clear hK K
                    refine wpAnyIn_done (by kernel_rfl) ?_ _
                    cases b
                    · gi_wp2
                      exact hbf (by first | trivial | rfl)
                    · gi_wp2
                      exact hbt (by first | trivial | rfl)
          · go_simp
            refine ⟨trivial, fun _ => by omega, (HCut.out _).mono ?_⟩
            rintro e w3 ⟨v, rfl, hown3, hb3⟩
            obtain ⟨ao', cap', rfl, fn, tmps, assign, body, hy, hR⟩ := HYb.out w3 v (hb1d.trans hb3) hown3
            have q1' : w3.cell? ⟨W.heap.size + 1, 0, none⟩ = some (.int .i64 ((pre.length : Int) + 1)) := (hb3.cell (p := ⟨W.heap.size + 1, 0, none⟩) (heap_ltA HN1.out)).trans q1
            have q2' : w3.cell? ⟨W.heap.size, 0, none⟩ = some (.func (.yield l) #[] #[]) := (hb3.cell (p := ⟨W.heap.size, 0, none⟩) (heap_ltA HY1.out)).trans q2
            unfold lnV at hy
            clear hown3 hb3
            refine hK _ _ ?_
            clear hK K
            refine wpAnyIn_ready (rs := [0, 4]) (by kernel_rfl) (by simp) ?_
            refine (AllReadyIn.cons rfl (fun K hK => ?_) (AllReadyIn.cons rfl (fun K hK => ?_) AllReadyIn.nil))
            · go_simp
              refine hK _ _ ?_
              clear hK K
              refine wpAnyIn_ready (rs := [4]) (by kernel_rfl) (by simp) ?_
              refine (AllReadyIn.cons rfl (fun K hK => ?_) AllReadyIn.nil)
              · go_simp
                refine hK _ _ ?_
                clear hK K
                refine wpAnyIn_ready (rs := [5]) (by kernel_rfl) (by simp) ?_
                refine (AllReadyIn.cons rfl (fun K hK => ?_) AllReadyIn.nil)
                · go_simp
                  refine ⟨fun _ => by omega, hR.mono ?_⟩
                  rintro e Z ⟨b, rfl, hbt, hbf⟩
                  refine hK _ _ ?_
                  clear hK K
                  refine wpAnyIn_ready (rs := [6]) (by kernel_rfl) (by simp) ?_
                  refine (AllReadyIn.cons rfl (fun K hK => ?_) AllReadyIn.nil)
                  · go_simp
                    refine hK _ _ ?_
                    clear hK K
                    refine wpAnyIn_done (by kernel_rfl) ?_ _
                    cases b
                    · gi_wp2
                      exact hbf (by first | trivial | rfl)
                    · gi_wp2
                      exact hbt (by first | trivial | rfl)
            · go_simp
              refine hK _ _ ?_
              clear hK K
              refine wpAnyIn_ready (rs := [0]) (by kernel_rfl) (by simp) ?_
              refine (AllReadyIn.cons rfl (fun K hK => ?_) AllReadyIn.nil)
              · go_simp
                refine hK _ _ ?_
                clear hK K
                refine wpAnyIn_ready (rs := [5]) (by kernel_rfl) (by simp) ?_
                refine (AllReadyIn.cons rfl (fun K hK => ?_) AllReadyIn.nil)
                · go_simp
                  refine ⟨fun _ => by omega, hR.mono ?_⟩
                  rintro e Z ⟨b, rfl, hbt, hbf⟩
                  refine hK _ _ ?_
                  clear hK K
                  refine wpAnyIn_ready (rs := [6]) (by kernel_rfl) (by simp) ?_
                  refine (AllReadyIn.cons rfl (fun K hK => ?_) AllReadyIn.nil)
                  · go_simp
                    refine hK _ _ ?_
                    clear hK K
                    refine wpAnyIn_done (by kernel_rfl) ?_ _
                    cases b
                    · gi_wp2
                      exact hbf (by first | trivial | rfl)
                    · gi_wp2
                      exact hbt (by first | trivial | rfl)
      · go_simp
        refine hK _ _ ?_
        clear hK K
        refine wpAnyIn_ready (rs := [0, 1, 3]) (by kernel_rfl) (by simp) ?_
        refine (AllReadyIn.cons rfl (fun K hK => ?_) (AllReadyIn.cons rfl (fun K hK => ?_) (AllReadyIn.cons rfl (fun K hK => ?_) AllReadyIn.nil)))
        · go_simp
          refine hK _ _ ?_
          clear hK K
          refine wpAnyIn_ready (rs := [1, 3]) (by kernel_rfl) (by simp) ?_
          refine (AllReadyIn.cons rfl (fun K hK => ?_) (AllReadyIn.cons rfl (fun K hK => ?_) AllReadyIn.nil))
          · go_simp
            refine hK _ _ ?_
            clear hK K
            refine wpAnyIn_ready (rs := [3]) (by kernel_rfl) (by simp) ?_
            refine (AllReadyIn.cons rfl (fun K hK => ?_) AllReadyIn.nil)
            · go_simp
              refine ⟨trivial, fun _ => by omega, (HCut.out _).mono ?_⟩
              rintro e w3 ⟨v, rfl, hown3, hb3⟩
              obtain ⟨ao', cap', rfl, fn, tmps, assign, body, hy, hR⟩ := HYb.out w3 v (hb1d.trans hb3) hown3
              have q1' : w3.cell? ⟨W.heap.size + 1, 0, none⟩ = some (.int .i64 ((pre.length : Int) + 1)) := (hb3.cell (p := ⟨W.heap.size + 1, 0, none⟩) (heap_ltA HN1.out)).trans q1
              have q2' : w3.cell? ⟨W.heap.size, 0, none⟩ = some (.func (.yield l) #[] #[]) := (hb3.cell (p := ⟨W.heap.size, 0, none⟩) (heap_ltA HY1.out)).trans q2
              unfold lnV at hy
              clear hown3 hb3
              refine hK _ _ ?_
              clear hK K
              refine wpAnyIn_ready (rs := [4]) (by kernel_rfl) (by simp) ?_
              refine (AllReadyIn.cons rfl (fun K hK => ?_) AllReadyIn.nil)
              · go_simp
                refine hK _ _ ?_
                clear hK K
                refine wpAnyIn_ready (rs := [5]) (by kernel_rfl) (by simp) ?_
                refine (AllReadyIn.cons rfl (fun K hK => ?_) AllReadyIn.nil)
                · go_simp
                  refine ⟨fun _ => by omega, hR.mono ?_⟩
                  rintro e Z ⟨b, rfl, hbt, hbf⟩
                  refine hK _ _ ?_
                  clear hK K
                  refine wpAnyIn_ready (rs := [6]) (by kernel_rfl) (by simp) ?_
                  refine (AllReadyIn.cons rfl (fun K hK => ?_) AllReadyIn.nil)
                  · go_simp
                    refine hK _ _ ?_
                    clear hK K
                    refine wpAnyIn_done (by kernel_rfl) ?_ _
                    cases b
                    · gi_wp2
                      exact hbf (by first | trivial | rfl)
                    · gi_wp2
                      exact hbt (by first | trivial | rfl)
          · go_simp
            refine ⟨trivial, fun _ => by omega, (HCut.out _).mono ?_⟩
            rintro e w3 ⟨v, rfl, hown3, hb3⟩
            obtain ⟨ao', cap', rfl, fn, tmps, assign, body, hy, hR⟩ := HYb.out w3 v (hb1d.trans hb3) hown3
            have q1' : w3.cell? ⟨W.heap.size + 1, 0, none⟩ = some (.int .i64 ((pre.length : Int) + 1)) := (hb3.cell (p := ⟨W.heap.size + 1, 0, none⟩) (heap_ltA HN1.out)).trans q1
            have q2' : w3.cell? ⟨W.heap.size, 0, none⟩ = some (.func (.yield l) #[] #[]) := (hb3.cell (p := ⟨W.heap.size, 0, none⟩) (heap_ltA HY1.out)).trans q2
            unfold lnV at hy
            clear hown3 hb3
            refine hK _ _ ?_
            clear hK K
            refine wpAnyIn_ready (rs := [1]) (by kernel_rfl) (by simp) ?_
            refine (AllReadyIn.cons rfl (fun K hK => ?_) AllReadyIn.nil)
            · go_simp
              refine hK _ _ ?_
              clear hK K
              refine wpAnyIn_ready (rs := [4]) (by kernel_rfl) (by simp) ?_
              refine (AllReadyIn.cons rfl (fun K hK => ?_) AllReadyIn.nil)
              · go_simp
                refine hK _ _ ?_
                clear hK K
                refine wpAnyIn_ready (rs := [5]) (by kernel_rfl) (by simp) ?_
                refine (AllReadyIn.cons rfl (fun K hK => ?_) AllReadyIn.nil)
                · go_simp
                  refine ⟨fun _ => by omega, hR.mono ?_⟩
                  rintro e Z ⟨b, rfl, hbt, hbf⟩
                  refine hK _ _ ?_
                  clear hK K
                  refine wpAnyIn_ready (rs := [6]) (by kernel_rfl) (by simp) ?_
                  refine (AllReadyIn.cons rfl (fun K hK => ?_) AllReadyIn.nil)
                  · go_simp
                    refine hK _ _ ?_
                    clear hK K
                    refine wpAnyIn_done (by kernel_rfl) ?_ _
                    cases b
                    · gi_wp2
                      exact hbf (by first | trivial | rfl)
                    · gi_wp2
                      exact hbt (by first | trivial | rfl)
        · go_simp
          refine hK _ _ ?_
          clear hK K
          refine wpAnyIn_ready (rs := [0, 3]) (by kernel_rfl) (by simp) ?_
          refine (AllReadyIn.cons rfl (fun K hK => ?_) (AllReadyIn.cons rfl (fun K hK => ?_) AllReadyIn.nil))
          · go_simp
            refine hK _ _ ?_
            clear hK K
            refine wpAnyIn_ready (rs := [3]) (by kernel_rfl) (by simp) ?_
            refine (AllReadyIn.cons rfl (fun K hK => ?_) AllReadyIn.nil)
            · go_simp
              refine ⟨trivial, fun _ => by omega, (HCut.out _).mono ?_⟩
              rintro e w3 ⟨v, rfl, hown3, hb3⟩
              obtain ⟨ao', cap', rfl, fn, tmps, assign, body, hy, hR⟩ := HYb.out w3 v (hb1d.trans hb3) hown3
              have q1' : w3.cell? ⟨W.heap.size + 1, 0, none⟩ = some (.int .i64 ((pre.length : Int) + 1)) := (hb3.cell (p := ⟨W.heap.size + 1, 0, none⟩) (heap_ltA HN1.out)).trans q1
              have q2' : w3.cell? ⟨W.heap.size, 0, none⟩ = some (.func (.yield l) #[] #[]) := (hb3.cell (p := ⟨W.heap.size, 0, none⟩) (heap_ltA HY1.out)).trans q2
              unfold lnV at hy
              clear hown3 hb3
              refine hK _ _ ?_
              clear hK K
              refine wpAnyIn_ready (rs := [4]) (by kernel_rfl) (by simp) ?_
              refine (AllReadyIn.cons rfl (fun K hK => ?_) AllReadyIn.nil)
              · go_simp
                refine hK _ _ ?_
                clear hK K
                refine wpAnyIn_ready (rs := [5]) (by kernel_rfl) (by simp) ?_
                refine (AllReadyIn.cons rfl (fun K hK => ?_) AllReadyIn.nil)
                · go_simp
                  refine ⟨fun _ => by omega, hR.mono ?_⟩
                  rintro e Z ⟨b, rfl, hbt, hbf⟩
                  refine hK _ _ ?_
                  clear hK K
                  refine wpAnyIn_ready (rs := [6]) (by kernel_rfl) (by simp) ?_
                  refine (AllReadyIn.cons rfl (fun K hK => ?_) AllReadyIn.nil)
                  · go_simp
                    refine hK _ _ ?_
                    clear hK K
                    refine wpAnyIn_done (by kernel_rfl) ?_ _
                    cases b
                    · gi_wp2
                      exact hbf (by first | trivial | rfl)
                    · gi_wp2
                      exact hbt (by first | trivial | rfl)
          · go_simp
            refine ⟨trivial, fun _ => by omega, (HCut.out _).mono ?_⟩
            rintro e w3 ⟨v, rfl, hown3, hb3⟩
            obtain ⟨ao', cap', rfl, fn, tmps, assign, body, hy, hR⟩ := HYb.out w3 v (hb1d.trans hb3) hown3
            have q1' : w3.cell? ⟨W.heap.size + 1, 0, none⟩ = some (.int .i64 ((pre.length : Int) + 1)) := (hb3.cell (p := ⟨W.heap.size + 1, 0, none⟩) (heap_ltA HN1.out)).trans q1
            have q2' : w3.cell? ⟨W.heap.size, 0, none⟩ = some (.func (.yield l) #[] #[]) := (hb3.cell (p := ⟨W.heap.size, 0, none⟩) (heap_ltA HY1.out)).trans q2
            unfold lnV at hy
            clear hown3 hb3
            refine hK _ _ ?_
            clear hK K
            refine wpAnyIn_ready (rs := [0, 4]) (by kernel_rfl) (by simp) ?_
            refine (AllReadyIn.cons rfl (fun K hK => ?_) (AllReadyIn.cons rfl (fun K hK => ?_) AllReadyIn.nil))
            · go_simp
              refine hK _ _ ?_
              clear hK K
              refine wpAnyIn_ready (rs := [4]) (by kernel_rfl) (by simp) ?_
              refine (AllReadyIn.cons rfl (fun K hK => ?_) AllReadyIn.nil)
              · go_simp
                refine hK _ _ ?_
                clear hK K
                refine wpAnyIn_ready (rs := [5]) (by kernel_rfl) (by simp) ?_
                refine (AllReadyIn.cons rfl (fun K hK => ?_) AllReadyIn.nil)
                · go_simp
                  refine ⟨fun _ => by omega, hR.mono ?_⟩
                  rintro e Z ⟨b, rfl, hbt, hbf⟩
                  refine hK _ _ ?_
                  clear hK K
                  refine wpAnyIn_ready (rs := [6]) (by kernel_rfl) (by simp) ?_
                  refine (AllReadyIn.cons rfl (fun K hK => ?_) AllReadyIn.nil)
                  · go_simp
                    refine hK _ _ ?_
                    clear hK K
                    refine wpAnyIn_done (by kernel_rfl) ?_ _
                    cases b
                    · gi_wp2
                      exact hbf (by first | trivial | rfl)
                    · gi_wp2
                      exact hbt (by first | trivial | rfl)
            · go_simp
              refine hK _ _ ?_
              clear hK K
              refine wpAnyIn_ready (rs := [0]) (by kernel_rfl) (by simp) ?_
              refine (AllReadyIn.cons rfl (fun K hK => ?_) AllReadyIn.nil)
              · go_simp
                refine hK _ _ ?_
                clear hK K
                refine wpAnyIn_ready (rs := [5]) (by kernel_rfl) (by simp) ?_
                refine (AllReadyIn.cons rfl (fun K hK => ?_) AllReadyIn.nil)
                · go_simp
                  refine ⟨fun _ => by omega, hR.mono ?_⟩
                  rintro e Z ⟨b, rfl, hbt, hbf⟩
                  refine hK _ _ ?_
                  clear hK K
                  refine wpAnyIn_ready (rs := [6]) (by kernel_rfl) (by simp) ?_
                  refine (AllReadyIn.cons rfl (fun K hK => ?_) AllReadyIn.nil)
                  · go_simp
                    refine hK _ _ ?_
                    clear hK K
                    refine wpAnyIn_done (by kernel_rfl) ?_ _
                    cases b
                    · gi_wp2
                      exact hbf (by first | trivial | rfl)
                    · gi_wp2
                      exact hbt (by first | trivial | rfl)
        · go_simp
          refine ⟨trivial, fun _ => by omega, (HCut.out _).mono ?_⟩
          rintro e w3 ⟨v, rfl, hown3, hb3⟩
          obtain ⟨ao', cap', rfl, fn, tmps, assign, body, hy, hR⟩ := HYb.out w3 v (hb1d.trans hb3) hown3
          have q1' : w3.cell? ⟨W.heap.size + 1, 0, none⟩ = some (.int .i64 ((pre.length : Int) + 1)) := (hb3.cell (p := ⟨W.heap.size + 1, 0, none⟩) (heap_ltA HN1.out)).trans q1
          have q2' : w3.cell? ⟨W.heap.size, 0, none⟩ = some (.func (.yield l) #[] #[]) := (hb3.cell (p := ⟨W.heap.size, 0, none⟩) (heap_ltA HY1.out)).trans q2
          unfold lnV at hy
          clear hown3 hb3
          refine hK _ _ ?_
          clear hK K
          refine wpAnyIn_ready (rs := [0, 1]) (by kernel_rfl) (by simp) ?_
          refine (AllReadyIn.cons rfl (fun K hK => ?_) (AllReadyIn.cons rfl (fun K hK => ?_) AllReadyIn.nil))
          · go_simp
            refine hK _ _ ?_
            clear hK K
            refine wpAnyIn_ready (rs := [1]) (by kernel_rfl) (by simp) ?_
            refine (AllReadyIn.cons rfl (fun K hK => ?_) AllReadyIn.nil)
            · go_simp
              refine hK _ _ ?_
              clear hK K
              refine wpAnyIn_ready (rs := [4]) (by kernel_rfl) (by simp) ?_
              refine (AllReadyIn.cons rfl (fun K hK => ?_) AllReadyIn.nil)
              · go_simp
                refine hK _ _ ?_
                clear hK K
                refine wpAnyIn_ready (rs := [5]) (by kernel_rfl) (by simp) ?_
                refine (AllReadyIn.cons rfl (fun K hK => ?_) AllReadyIn.nil)
                · go_simp
                  refine ⟨fun _ => by omega, hR.mono ?_⟩
                  rintro e Z ⟨b, rfl, hbt, hbf⟩
                  refine hK _ _ ?_
                  clear hK K
                  refine wpAnyIn_ready (rs := [6]) (by kernel_rfl) (by simp) ?_
                  refine (AllReadyIn.cons rfl (fun K hK => ?_) AllReadyIn.nil)
                  · go_simp
                    refine hK _ _ ?_
                    clear hK K
                    refine wpAnyIn_done (by kernel_rfl) ?_ _
                    cases b
                    · gi_wp2
                      exact hbf (by first | trivial | rfl)
                    · gi_wp2
                      exact hbt (by first | trivial | rfl)
          · go_simp
            refine hK _ _ ?_
            clear hK K
            refine wpAnyIn_ready (rs := [0, 4]) (by kernel_rfl) (by simp) ?_
            refine (AllReadyIn.cons rfl (fun K hK => ?_) (AllReadyIn.cons rfl (fun K hK => ?_) AllReadyIn.nil))
            · go_simp
              refine hK _ _ ?_
              clear hK K
              refine wpAnyIn_ready (rs := [4]) (by kernel_rfl) (by simp) ?_
              refine (AllReadyIn.cons rfl (fun K hK => ?_) AllReadyIn.nil)
              · go_simp
                refine hK _ _ ?_
                clear hK K
                refine wpAnyIn_ready (rs := [5]) (by kernel_rfl) (by simp) ?_
                refine (AllReadyIn.cons rfl (fun K hK => ?_) AllReadyIn.nil)
                · go_simp
                  refine ⟨fun _ => by omega, hR.mono ?_⟩
                  rintro e Z ⟨b, rfl, hbt, hbf⟩
                  refine hK _ _ ?_
                  clear hK K
                  refine wpAnyIn_ready (rs := [6]) (by kernel_rfl) (by simp) ?_
                  refine (AllReadyIn.cons rfl (fun K hK => ?_) AllReadyIn.nil)
                  · go_simp
                    refine hK _ _ ?_
                    clear hK K
                    refine wpAnyIn_done (by kernel_rfl) ?_ _
                    cases b
                    · gi_wp2
                      exact hbf (by first | trivial | rfl)
                    · gi_wp2
                      exact hbt (by first | trivial | rfl)
            · go_simp
              refine hK _ _ ?_
              clear hK K
              refine wpAnyIn_ready (rs := [0]) (by kernel_rfl) (by simp) ?_
              refine (AllReadyIn.cons rfl (fun K hK => ?_) AllReadyIn.nil)
              · go_simp
                refine hK _ _ ?_
                clear hK K
                refine wpAnyIn_ready (rs := [5]) (by kernel_rfl) (by simp) ?_
                refine (AllReadyIn.cons rfl (fun K hK => ?_) AllReadyIn.nil)
                · go_simp
                  refine ⟨fun _ => by omega, hR.mono ?_⟩
                  rintro e Z ⟨b, rfl, hbt, hbf⟩
                  refine hK _ _ ?_
                  clear hK K
                  refine wpAnyIn_ready (rs := [6]) (by kernel_rfl) (by simp) ?_
                  refine (AllReadyIn.cons rfl (fun K hK => ?_) AllReadyIn.nil)
                  · go_simp
                    refine hK _ _ ?_
                    clear hK K
                    refine wpAnyIn_done (by kernel_rfl) ?_ _
                    cases b
                    · gi_wp2
                      exact hbf (by first | trivial | rfl)
                    · gi_wp2
                      exact hbt (by first | trivial | rfl)
end Go.Proofs.YtgfljokamgbcaaaGreatDoor
