/- text.Read: the instruction of a text. (Written by mkRdF.py.) -/
import Derived.Test.YtgfljokamgbcaaaGreatDoorRdD
import Derived.Test.YtgfljokamgbcaaaGreatDoorRdE
import Derived.RangeFuncWrites
import Derived.Maps.AppendAt
import Derived.Maps.OwnIn
import Derived.RangeFuncBox
import Derived.Lib.AppendIntMem
import Derived.Deep.MidRow
import Derived.Deep.RegionHeld3
namespace Go.Proofs.YtgfljokamgbcaaaGreatDoor
open Go.RowKit Go.Shelf
set_option linter.unusedSimpArgs false
set_option linter.unusedVariables false
set_option maxRecDepth 100000
attribute [local go_sem] Oper.semAt_some

/-- The instruction that a text tells. -/
def readF (L : List UInt8) : Except Int (Int × Int × Int × Int) :=
  if 4 < (splitF L).length then .error 40
  else match nmTab.find? (fun n => decide (n.word = (splitF L).headD [])) with
    | none => .error 40
    | some n => match ofF n (splitF L) with
      | .error e => .error e
      | .ok (a, b, i) => .ok (n.op, a, b, i)
def readV : Except Int (Int × Int × Int × Int) → Value
  | .error e => .tuple #[insR 0 0 0 0, .int .i64 e]
  | .ok (op, a, b, i) => .tuple #[insR op a b i, .int .i64 0]

theorem Tryz.infoStrT : (Tryz.prog.info? 9).map (fun i => (i.zero, i.size, i.bytes)) = some (some (.string ⟨#[]⟩), 1, 16) := by kernel_rfl
theorem row_keptR {A B : World} {row : Option Nat} {b : Nat} {cs : Array Value} {t : TypeId} {f : Nat × Nat} (h : A.heap[b]? = some (.cells cs t f)) (hg : A.grownBy B row) (hr : ∀ r, row = some r → ∃ o, A.heap[r]? = some o ∧ o.isCells = false) : B.heap[b]? = some (.cells cs t f) :=
  (hg.block b (Array.getElem?_eq_some_iff.1 h).1 (fun e => by
    obtain ⟨o, ho, hc⟩ := hr b e.symm
    rw [h] at ho; cases ho; cases hc)).trans h

theorem row_ne_own {W : World} {b : Nat} {cs : Array Value} {t e : TypeId} {f : Nat × Nat} (h : W.heap[b]? = some (.cells cs t f)) (hte : t ≠ e) {base size k : Nat} {v : Value} {xs : List Value} (hr : W.ownsRow base e size v k xs) : some b ≠ v.ownBlock := by
  rcases hr.2 with ⟨rfl, _⟩ | ⟨g, cap, cur, rfl, _, hgb, _⟩
  · simp [Value.ownBlock]
  · intro e'
    obtain rfl : b = g := by simpa [Value.ownBlock] using e'
    have := h.symm.trans hgb
    cases this
    exact hte rfl
theorem own_lowR {w : World} {base base' n size : Nat} {e : TypeId} {v : Value} {xs : List Value} (hb : base' ≤ base) (h : w.ownsRow base e size v n xs) : w.ownsRow base' e size v n xs := by
  refine ⟨h.1, ?_⟩
  rcases h.2 with h | ⟨g, cap, cur, h1, h2, h3⟩
  · exact .inl h
  · exact .inr ⟨g, cap, cur, h1, Nat.le_trans hb h2, h3⟩
theorem kpc_app {Bs : Nat} {W w1 : World} {o : Obj} {base size k : Nat} {e : TypeId} {v : Value} {xs : List Value} (hr : W.ownsRow base e size v k xs) (hb : Bs < base) (hl : Bs < W.heap.size) (hg : (W.alloc o).grownBy w1 v.ownBlock) : KpC Bs W w1 := fun u hu => by
  have hne : some Bs ≠ v.ownBlock := by
    rcases hr.2 with ⟨rfl, _⟩ | ⟨g, cap, cur, rfl, hg2, _⟩
    · simp [Value.ownBlock]
    · intro e'
      obtain rfl : Bs = g := by simpa [Value.ownBlock] using e'
      omega
  refine (World.cell?_of_block (a := ⟨Bs, 0, none⟩) ((hg.block Bs (by simp; omega) hne).trans ?_)).trans hu
  exact heap_alloc_old W o hl
theorem kpc_set {Bs b j : Nat} {W : World} {u : Value} (h : Bs ≠ b) : KpC Bs W (W.setCell ⟨b, j, none⟩ u) := fun v hv => (World.cell?_of_block (a := ⟨Bs, 0, none⟩) (Below.heap_setCell W ⟨b, j, none⟩ u Bs h)).trans hv
theorem row_grownR {W w1 : World} {o : Obj} {b : Nat} {cs : Array Value} {t e : TypeId} {f : Nat × Nat} (h : W.heap[b]? = some (.cells cs t f)) (hte : t ≠ e) {base size k : Nat} {v : Value} {xs : List Value} (hr : W.ownsRow base e size v k xs) (hg : (W.alloc o).grownBy w1 v.ownBlock) : w1.heap[b]? = some (.cells cs t f) :=
  (hg.block b (by have := (Array.getElem?_eq_some_iff.1 h).1; simp; omega) (row_ne_own h hte hr)).trans (heap_oldT h)

abbrev zIns : Array Value := #[.int .u8 0, .int .u8 0, .int .u8 0, .int .i32 0]
abbrev strE (x : List UInt8) : Value := .string ⟨x.toArray⟩
def OnlyQ (Q : Exit → Act → World → Prop) : Exit → Act → World → Prop
  | .normal, a, w => Q .normal a w
  | _, _, _ => False
theorem onlyQ_of {Q : Exit → Act → World → Prop} : ∀ e a w, OnlyQ Q e a w → Q e a w := fun e a w h => by
  cases e <;> first | exact h | exact h.elim

theorem split_le : ∀ (l : List UInt8), ∀ x ∈ splitF l, x.length ≤ l.length
  | [], x, hx => by simp [splitF] at hx; subst hx; simp
  | c :: r, x, hx => by
    have ih := split_le r
    rw [splitF] at hx
    split at hx
    · rcases List.mem_cons.1 hx with rfl | h
      · simp
      · have := ih x h; simp; omega
    · cases e : splitF r with
      | nil => exact absurd e (split_ne r)
      | cons w ws =>
        rw [e] at hx ih
        rcases List.mem_cons.1 hx with rfl | h
        · have := ih w List.mem_cons_self; simp; omega
        · have := ih x (List.mem_cons_of_mem _ h); simp; omega
theorem below_drewR {B : Nat} {a w : World} (h : Below B a w) (n : Nat) : Below B a (w.drewN n) := by
  cases n with
  | zero => exact h
  | succ n => exact ⟨h.os, h.tape, h.output, by simpa using h.size, fun k hk => by simpa using h.block k hk⟩
theorem row_setOK {w : World} {D b j : Nat} {o : Obj} {v : Value} (h : w.heap[D]? = some o) (hc : D ≠ b) : (w.setCell ⟨b, j, none⟩ v).heap[D]? = some o := row_setOR h hc j v

/-- What the last step reads. -/
structure RdS (w : World) (nb lb : Nat) (v : Value) (w' : World) : Prop where
  below : Below w.heap.size w w'
  nm : w'.heap[nb]? = some (.cells nmCells 104 (0, 0))
  lb : Boxed w' lb 49 v
theorem RdS.next {w0 : World} {nb lb : Nat} {v : Value} {w w' : World} (h : RdS w0 nb lb v w) (hb : Below w.heap.size w w') : RdS w0 nb lb v w' := ⟨h.below.trans (hb.mono h.below.size), (hb.block _ (Array.getElem?_eq_some_iff.1 h.nm).1).trans h.nm, (hb.block _ h.lb.lt).trans h.lb⟩
theorem RdS.set {w0 : World} {nb lb : Nat} {v : Value} {w : World} (h : RdS w0 nb lb v w) {b : Nat} (h0 : w0.heap.size ≤ b) (h1 : nb ≠ b) (h2 : lb ≠ b) (j : Nat) (u : Value) : RdS w0 nb lb v (w.setCell ⟨b, j, none⟩ u) := ⟨h.below.setCell (p := ⟨b, j, none⟩) h0 _, row_setOR h.nm h1 _ _, row_setOR h.lb h2 _ _⟩
theorem nm_range (k : Nat) {n : Nm} (hk : nmTab[k]? = some n) : ∀ j v, n.cells[j]? = some v → nmCells[k * 5 + j]? = some v := by
  intro j v hv
  have hl : k < nmTab.length := (List.getElem?_eq_some_iff.1 hk).1
  have hj : j < 5 := (List.getElem?_eq_some_iff.1 hv).1
  have := flat_at nmTab k hl j hj
  unfold nmCells
  rw [List.getElem?_toArray, this]
  have e : nmTab[k] = n := by
    have := (List.getElem?_eq_some_iff.1 hk).2
    exact this
  rw [e]; exact hv
theorem range_of_rowR {w : World} {b o : Nat} {A : Array Value} {t : TypeId} {f : Nat × Nat} (h : w.heap[b]? = some (.cells A t f)) (cs : List Value) (hc : ∀ j v, cs[j]? = some v → A[o + j]? = some v) : w.rangeAt b o cs :=
  fun j v hv => (cell_of_row w b (o + j) A t f h).trans (hc j v hv)
/-- What the loop over the words keeps. -/
def RdI (w : World) (pre : List (List UInt8)) (W : World) : Prop :=
  ((∃ v, Boxed W (w.heap.size + 1 + 1) 49 v ∧ W.ownsRow (w.heap.size + 1 + 1 + 1 + 1) 9 1 v pre.length (pre.map strE) ∧ pre.length ≤ 4) ∧ w.heap.size + 1 + 1 + 1 + 1 ≤ W.heap.size ∧ W.heap[w.heap.size]? = some (.cells zIns 67 (0, 0)) ∧ Boxed W (w.heap.size + 1) 28 (.int .i64 0)) ∧ Below w.heap.size w W
def RdX (w : World) (c : Code) (pre : List (List UInt8)) (W : World) : Prop :=
  (c = .ret ∧ 4 < pre.length ∧ W.heap[w.heap.size]? = some (.cells zIns 67 (0, 0)) ∧ Boxed W (w.heap.size + 1) 28 (.int .i64 40)) ∧ Below w.heap.size w W

set_option maxHeartbeats 16000000 in
theorem read_in (n : Nat) (hn : 3 ≤ n) (L : List UInt8) (hL : L.length ≤ 9223372036854775807) (w : World) :
    CallsIn Fence.wide n Tryz.prog 55 #[.string ⟨L.toArray⟩] w fun e W' => e = .returned (readV (readF L)) ∧ Below w.heap.size w W' := by
  have h1 : 1 ≤ n := by omega
  obtain ⟨i0, hi, hz0, hz1, hz2⟩ := info_parts Tryz.infoStrT
  refine callsIn_of_wp_marks Tryz.func55 rfl trivial ?_ rfl
  simp only [Tryz.ntmps55, List.size_toArray, List.length_cons, List.length_nil, Nat.reduceAdd, Nat.reduceSub, Array.replicate_succ, Array.replicate_zero, List.push_toArray, List.append_toArray, List.nil_append, List.cons_append]
  have HWd := Lib.hid fun (W : World) => (callsIn_wide (n := n)).1 (words_in Fence.wide n trivial rfl ⟨L.toArray⟩ W)
  gi_wp2
  refine wpIn_wide.2 (wp_scope_straight ?_)
  go_wp2_with fail
  refine (HWd.out _).mono ?_
  rintro e w' ⟨rfl, rfl⟩
  clear HWd
  go_wp2_with fail
  refine (wpIn_wide (n := n)).1 ?_
  obtain ⟨s, hs⟩ : ∃ s : ByteArray, s = ⟨L.toArray⟩ := ⟨_, rfl⟩
  rw [← hs]
  obtain ⟨W0, hW0⟩ : ∃ W0, W0 = (((w.alloc (.cells zIns 67)).alloc (.cells #[.int .i64 0] 28)).alloc (.cells #[.slice none 0 0] 49)) := ⟨_, rfl⟩
  have hB0 : Below w.heap.size w (W0.alloc (.cells #[.string s] 9)) := by rw [hW0]; exact ((((Below.refl _ w).alloc (Nat.le_refl _) _).alloc (by simp) _).alloc (by simp; omega) _).alloc (by simp; omega) _
  have hsz : W0.heap.size = w.heap.size + 1 + 1 + 1 := by rw [hW0]; simp
  have r0 : (W0.alloc (.cells #[.string s] 9)).heap[w.heap.size]? = some (.cells zIns 67 (0, 0)) := by rw [hW0]; exact heap_oldT (heap_oldT (heap_oldT (heap_newT rfl)))
  have r1 : Boxed (W0.alloc (.cells #[.string s] 9)) (w.heap.size + 1) 28 (.int .i64 0) := by rw [hW0]; exact heap_oldT (heap_oldT (heap_newT (by simp)))
  have r2 : Boxed (W0.alloc (.cells #[.string s] 9)) (w.heap.size + 1 + 1) 49 (.slice none 0 0) := by rw [hW0]; exact heap_oldT (heap_newT (by simp))
  have r3 : Boxed (W0.alloc (.cells #[.string s] 9)) (w.heap.size + 1 + 1 + 1) 9 (.string s) := heap_newT (by rw [hsz])
  have hSt := words_stops Fence.wide (n - 1) trivial rfl (by omega) (w.heap.size + 1 + 1 + 1) L hL (W0.alloc (.cells #[.string s] 9)) (by simp; omega) (by rw [r3.cell, hs])
  rw [← hW0]
  clear hs hW0
  refine wpIn_rangeFunc_ownG (F := Fence.wide) rfl h1 (gf := 90) (lb := #[.pointer (some ⟨w.heap.size + 1 + 1 + 1, 0, none⟩)]) rfl trivial (enters_of Tryz.func90 (by kernel_rfl) rfl)
    hSt kpc_t (kpc_b (by simp; omega)) (Below.refl _ _) (fun _ => rfl)
    (RdI w) (RdX w)
    (OwnFrom.and (Own.from (fun s A B row hs hg hr => by
        obtain ⟨⟨v, hv, hrow, hlen⟩, hsz4, hz, he⟩ := hs
        obtain ⟨v', a, b, c⟩ := holdsRow_own (w.heap.size + 1 + 1 + 1 + 1) (w.heap.size + 1 + 1) 49 9 1 List.length (fun pre => pre.map strE) (fun pre v => pre.length ≤ 4) s A B row ⟨v, hv, hrow, hlen⟩ hg hr
        exact ⟨⟨v', a, b, c⟩, Nat.le_trans hsz4 hg.size, row_keptR hz hg hr, row_keptR he hg hr⟩) _) (ownFrom_below (Nat.le_refl _) (by simp; omega)))
    (fun c => OwnFrom.and (Own.from (fun s A B row hs hg hr => ⟨hs.1, hs.2.1, row_keptR hs.2.2.1 hg hr, row_keptR hs.2.2.2 hg hr⟩) _) (ownFrom_below (Nat.le_refl _) (by simp; omega)))
    ⟨⟨⟨_, r2, World.ownsRow_nil _ _ _ _, by simp⟩, by simp; omega, r0, r1⟩, hB0⟩
    (fun x => { tmps := #[.string s, undef, .pointer (some ⟨w.heap.size, 0, none⟩), .pointer (some ⟨w.heap.size + 1, 0, none⟩), .pointer (some ⟨w.heap.size + 1 + 1, 0, none⟩), strE x, undef, undef, undef, .string s, .func (.func 90) #[] #[.pointer (some ⟨w.heap.size + 1 + 1 + 1, 0, none⟩)], strE x, undef, undef, undef, undef, undef, undef, undef, undef, undef, undef, undef, undef, undef, undef, undef, undef, undef, undef, undef, undef, undef, undef, undef, undef, undef, undef, undef, undef, undef, undef, undef, undef, undef, undef, undef, undef], defers := [] }) ?assign ?body ?done ?stop
  case assign =>
    intro l x W K hK
    gi_wp2
    exact hK
  case body =>
    rintro l pre x W ⟨⟨⟨v, hv, hrow, hlen⟩, hsz4, hz, he⟩, hB⟩ hlt
    have hc := hv.cell
    gi_wp2_with (gi_at_builtin; refine wpListIn_append_own _ rfl _ _ 49 rfl (w.heap.size + 1 + 1 + 1 + 1) 9 i0 _ 1 16 Tryz.underlying49 hi hz0 hz1 hz2 rfl (by decide) _ _ _ rfl (hrow.alloc _) ⟨W.heap.size, 0, none⟩ 1 1 [strE x] rfl rfl (cell_one_new _ _ _) (by simp [Value.oneCell']) (by unfold maxLen; omega) (by omega) (by simp; omega) ?_; intro v' w1 hown' hgrow _; obtain ⟨g', cap', rfl⟩ := ownsRow_succ hown'; obtain ⟨hv1, hv2, -, hk2, hb2⟩ := hv.appended (by decide) (own_lowR (by omega) hrow) hB.size (by omega) (own_lowR (base' := w.heap.size) (by omega) hown') hgrow; have hr2 := hown'.kept (grownBy_setCell' w1 (w.heap.size + 1 + 1) (.slice (some ⟨g', 0, none⟩) (pre.length + 1) cap')) (.inr (hv1.not_row (by decide) hown').symm); have hkp := kpc_app (Bs := w.heap.size + 1 + 1 + 1) hrow (by omega) (by omega) hgrow; have hc1 := hv1.cell; have hf1 := hv1.frozen; have hz1 := row_grownR hz (by decide) hrow hgrow; have he1 : Boxed w1 (w.heap.size + 1) 28 (.int .i64 0) := row_grownR he (by decide) hrow hgrow; have kz0 := (cell_of_row w1 w.heap.size 0 _ _ _ hz1).trans rfl; have fz0 := frozen_of_row w1 w.heap.size 0 _ _ hz1; have kz1 := (cell_of_row w1 w.heap.size 1 _ _ _ hz1).trans rfl; have fz1 := frozen_of_row w1 w.heap.size 1 _ _ hz1; have kz2 := (cell_of_row w1 w.heap.size 2 _ _ _ hz1).trans rfl; have fz2 := frozen_of_row w1 w.heap.size 2 _ _ hz1; have kz3 := (cell_of_row w1 w.heap.size 3 _ _ _ hz1).trans rfl; have fz3 := frozen_of_row w1 w.heap.size 3 _ _ hz1; have ke := he1.cell; have fe := he1.frozen)
    · have hx : 4 < (pre.length : Int) + 1 := by assumption
      refine ⟨(((((hk2.trans (KeepsOthers.setCell _ _ _)).trans (KeepsOthers.setCell _ _ _)).trans (KeepsOthers.setCell _ _ _)).trans (KeepsOthers.setCell _ _ _)).trans (KeepsOthers.setCell _ _ _)).from _, ⟨rfl, by simp; omega, ?_, ?_⟩, ?_⟩
      · exact row_setOR (row_setR (row_setR (row_setR (row_setR (row_setOR hz1 (by omega) _ _) 0 (.int .u8 0)) 1 (.int .u8 0)) 2 (.int .u8 0)) 3 (.int .i32 0)) (by omega) _ _
      · exact row_setR (row_setOR (row_setOR (row_setOR (row_setOR (row_setOR he1 (by omega) _ _) (by omega) _ _) (by omega) _ _) (by omega) _ _) (by omega) _ _) 0 (.int .i64 40)
      · refine (hB.trans hb2).setCell (p := ⟨w.heap.size, 0, none⟩) (Nat.le_refl _) _ |>.setCell (p := ⟨w.heap.size, 1, none⟩) (Nat.le_refl _) _ |>.setCell (p := ⟨w.heap.size, 2, none⟩) (Nat.le_refl _) _ |>.setCell (p := ⟨w.heap.size, 3, none⟩) (Nat.le_refl _) _ |>.setCell (p := ⟨w.heap.size + 1, 0, none⟩) (Nat.le_succ _) _
    · have hx : (pre.length : Int) + 1 ≤ 4 := by first | assumption | omega
      have hsz1 := hgrow.size
      simp at hsz1
      refine ⟨hk2.from _, kpc_t hkp (kpc_set (by omega)), ⟨⟨_, hv2, by simpa using hr2, by simp; omega⟩, by simp [World.setCell]; omega, row_setOR hz1 (by omega) _ _, row_setOR he1 (by omega) _ _⟩, hB.trans hb2⟩
  case done =>
    rintro D ys W hD rfl ⟨⟨⟨v, hv, hrow, hlen⟩, hsz4, hz, he⟩, hB⟩ hK
    obtain ⟨ws, hws⟩ : ∃ ws, ws = splitF L := ⟨_, rfl⟩
    have hne : ws ≠ [] := by rw [hws]; exact split_ne L
    rw [← hws] at hrow hlen
    obtain ⟨g, cap, rfl, hg⟩ : ∃ g cap, v = .slice (some ⟨g, 0, none⟩) ws.length cap ∧ g < W.heap.size := by
      rcases hrow.2 with ⟨-, h⟩ | ⟨g, cap, cur, h, h2, h3, -⟩
      · exfalso
        cases ws
        · exact hne rfl
        · simp at h
      · exact ⟨g, cap, h, (Array.getElem?_eq_some_iff.1 h3).1⟩
    have HC := Lib.hid fun (j : Nat) (x : List UInt8) (hj : ws[j]? = some x) => (hrow.cellAt (j := j) (by simpa using (List.getElem?_eq_some_iff.1 hj).1)).trans (show (ws.map strE)[j]? = some (strE x) by rw [List.getElem?_map, hj]; rfl)
    have h0 : ws[0]? = some (ws.headD []) := by
      cases ws
      · exact absurd rfl hne
      · rfl
    obtain ⟨w0, hw0⟩ : ∃ w0, w0 = ws.headD [] := ⟨_, rfl⟩
    rw [← hw0] at h0
    have hrd : readF L = match nmTab.find? (fun n => decide (n.word = w0)) with
        | none => .error 40
        | some n => match ofF n ws with
          | .error e => .error e
          | .ok (a, b, i) => .ok (n.op, a, b, i) := by
      unfold readF
      rw [← hws, if_neg (by omega), ← hw0]
    have hll : ∀ x ∈ ws, x.length ≤ 9223372036854775807 := fun x hx => Nat.le_trans (split_le L x (hws ▸ hx)) hL
    have hl0 : 0 < ws.length := (List.getElem?_eq_some_iff.1 h0).1
    have HRD := Lib.hid hrd
    have HLL := Lib.hid hll
    have HW0 := HC.out 0 w0 h0
    have HV := Lib.hid hv
    have HZ := Lib.hid hz
    have HE := Lib.hid he
    have HK := Lib.hid hK
    have HNc := Lib.hid fun (W : World) => names_c W
    have hDlt : D < W.heap.size := (Array.getElem?_eq_some_iff.1 hK).1
    simp at hD
    have hlbx := hv.lt
    clear hw0 hws hrd hll hrow hv hz he hK h0 hSt r0 r1 r2 r3 hi hz0 hz1 hz2
    go_wp2_with fail
    refine (HNc.out _).mono ?_
    rintro e W1 ⟨rfl, hW1⟩
    have hn1 : W1.heap[W.heap.size]? = some (.cells nmCells 104 (0, 0)) := by rw [hW1]; exact heap_newT rfl
    have hB1 : Below W.heap.size W W1 := by rw [hW1]; exact (Below.refl _ _).alloc (Nat.le_refl _) _
    have hs1 : W1.heap.size = W.heap.size + 1 := by rw [hW1]; simp
    have hN1 := Lib.hid hn1
    clear hW1 hn1
    have i0 : (0 : Int) < (ws.length : Int) := by omega
    go_wp2_with fail
    refine wp_label ?_
    go_wp2_with fail
    go_loopg [7, 23] 53 (fun gk v7 vk wr => ∃ k : Nat, gk + k = 53 ∧ v7 = .int .i64 (-1) ∧ vk = .int .i64 (k : Int) ∧ Below W1.heap.size W1 wr ∧ Hid (∀ (j : Nat) (m : Nm), j < k → nmTab[j]? = some m → decide (m.word = w0) = false))
    case atStart => exact ⟨0, rfl, rfl, rfl, Below.refl _ _, Lib.hid fun j m h => absurd h (Nat.not_lt_zero _)⟩
    case round =>
      obtain ⟨k, hk, rfl, rfl, hBr, HF⟩ := hrel
      have hBW : Below W.heap.size W wr := hB1.trans (hBr.mono hB1.size)
      have kl0 : Boxed wr (w.heap.size + 1 + 1) 49 _ := (hBW.block _ hlbx).trans HV.out
      have kl := kl0.cell
      clear kl0
      have kw := (hBW.cell (p := ⟨g, 0, none⟩) hg).trans HW0
      have hz' := (hBW.block w.heap.size (by omega)).trans HZ.out
      have he' : Boxed wr (w.heap.size + 1) 28 (.int .i64 0) := (hBW.block _ (by omega)).trans HE.out
      have hK' := (hBW.block D hDlt).trans HK.out
      by_cases ck : k < 53
      · have ik : (k : Int) < 53 := by omega
        obtain ⟨m, hm, m0, -⟩ := nm_at k ck
        have hn' := (hBr.block _ (by omega)).trans hN1.out
        have kn := (cell_of_row wr W.heap.size (k * 5) _ _ _ hn').trans m0
        by_cases cm : m.word = w0
        · have em : (m.word == w0) = true := by simp [cm]
          have hfd : nmTab.find? (fun n => decide (n.word = w0)) = some m := find_first hm (by simpa using cm) HF.out
          have HRR := HRD.out
          rw [hfd] at HRR
          simp only at HRR
          have HO := Lib.hid fun (V : World) (hb : Below wr.heap.size wr V) => of_c m (List.mem_of_getElem? hm) g cap ws V (fun j x hj => (hb.cell (p := ⟨g, j, none⟩) (by have := hBW.size; show g < _; omega)).trans ((hBW.cell (p := ⟨g, j, none⟩) hg).trans (HC.out j x hj))) (by have := hBW.size; have := hb.size; omega) HLL.out
          have hRS : RdS w W.heap.size (w.heap.size + 1 + 1) (.slice (some ⟨g, 0, none⟩) ws.length cap) wr := ⟨hB.trans (hBW.mono hB.size), hn', (hBW.block _ hlbx).trans HV.out⟩
          have HRS := Lib.hid hRS
          have HM := Lib.hid hm
          obtain ⟨o, a, b, i, er, hov, hrv⟩ : ∃ o a b i er, ofV m.op (ofF m ws) = .tuple #[insR o a b i, .int .i64 er] ∧ readV (readF L) = .tuple #[insR o a b i, .int .i64 er] := by
            rw [HRR]
            cases ofF m ws with
            | error e => exact ⟨0, 0, 0, 0, e, rfl, rfl⟩
            | ok t => obtain ⟨a, b, i⟩ := t; exact ⟨m.op, a, b, i, 0, rfl, rfl⟩
          rw [hov] at HO
          have HRV := Lib.hid hrv
          have HZ2 := Lib.hid hz'
          have HE2 := Lib.hid he'
          have HK2 := Lib.hid hK'
          unfold insR at HO
          clear HRR hfd hm hov hrv hRS hn' HRD hz' he' hK'
          go_wp2_with fail
          go_quiet (fail)
          go_wp2_with fail
          clear kn kw
          refine Code.wp_mono (onlyQ_of) ?_
          refine wp_region_held_drew (S := fun w' => RdS w W.heap.size (w.heap.size + 1 + 1) (.slice (some ⟨g, 0, none⟩) ws.length cap) w') (by kernel_rfl) (HRS.out.next (by first | exact below_drewR (Below.refl _ _) _ | exact (below_drewR (Below.refl _ _) _).drew)) (fun hHeld => ?_)
          refine wpAnyH_take (i := 0) (oi := ⟨some 40, Op.move (Operand.tmp 6), _, _, _, none⟩) (v := .slice (some ⟨W.heap.size, 0, none⟩) 53 53) rfl (by kernel_rfl) (by kernel_rfl) (by kernel_rfl) (fun _ _ _ h => h) (Or.inl ⟨by rfl, ?_⟩) hHeld ?_
          · intro w' hSw
            skip
            go_simp
          try simp only [Act.put, List.setIfInBounds_toArray, List.set_cons_zero, List.set_cons_succ]
          refine wpAnyH_take (i := 1) (oi := ⟨some 41, Op.move (Operand.tmp 7), _, _, _, none⟩) (v := .int .i64 (k : Int)) rfl (by kernel_rfl) (by kernel_rfl) (by kernel_rfl) (fun _ _ _ h => h) (Or.inl ⟨by rfl, ?_⟩) hHeld ?_
          · intro w' hSw
            skip
            go_simp
          try simp only [Act.put, List.setIfInBounds_toArray, List.set_cons_zero, List.set_cons_succ]
          refine wpAnyH_take (i := 2) (oi := ⟨some 42, Op.indexAddr _ (Operand.tmp 40) (Operand.tmp 41), _, _, _, none⟩) (v := .pointer (some ⟨W.heap.size, k * 5, none⟩)) rfl (by kernel_rfl) (by kernel_rfl) (by kernel_rfl) (fun _ _ _ h => h) (Or.inl ⟨by rfl, ?_⟩) hHeld ?_
          · intro w' hSw
            skip
            go_simp
          try simp only [Act.put, List.setIfInBounds_toArray, List.set_cons_zero, List.set_cons_succ]
          refine wpAnyH_take (i := 3) (oi := ⟨some 43, Op.load _ (Operand.tmp 42), _, _, _, none⟩) (v := .agg m.cells.toArray) rfl (by kernel_rfl) (by kernel_rfl) (by kernel_rfl) (fun _ _ _ h => h) (yieldsIf_load_mid (by rfl) _ _ rfl _ (k * 5) rfl m.cells _ (fun w' hSw => range_of_rowR hSw.nm _ (nm_range k HM.out)) Tryz.underlying104 rfl (by kernel_rfl)) hHeld ?_
          try simp only [Act.put, List.setIfInBounds_toArray, List.set_cons_zero, List.set_cons_succ]
          refine wpAnyH_take (i := 4) (oi := ⟨some 44, Op.load _ (Operand.tmp 4), _, _, _, none⟩) (v := .slice (some ⟨g, 0, none⟩) ws.length cap) rfl (by kernel_rfl) (by kernel_rfl) (by kernel_rfl) (fun _ _ _ h => h) (Or.inl ⟨by rfl, ?_⟩) hHeld ?_
          · intro w' hSw
            have k0 := hSw.lb.cell
            go_simp
          try simp only [Act.put, List.setIfInBounds_toArray, List.set_cons_zero, List.set_cons_succ]
          refine wpAnyH_ready (rs := [5]) (by kernel_rfl) (by simp) ?_
          refine AllReadyH.cons (o := ⟨some 45, Op.call { callee := Callee.value (Operand.func _), args := #[Operand.tmp 43, Operand.tmp 44], argTypes := _ }, _, _, _, none⟩) rfl (fun K hK => ?_) AllReadyH.nil
          go_simp
          go_at_call 76
          refine (HO.out _ (below_drewR (Below.refl _ _) _)).mono ?_
          rintro e w5 ⟨rfl, hb5⟩
          refine hK.out _ _ (hHeld.next hb5) (fun hHeld => ?_)
          clear hK K
          try simp only [Act.put, List.setIfInBounds_toArray, List.set_cons_zero, List.set_cons_succ]
          refine wpAnyH_take (i := 6) (oi := ⟨some 46, Op.extract (Operand.tmp 45) 0, _, _, _, none⟩) (v := .agg #[.int .u8 o, .int .u8 a, .int .u8 b, .int .i32 i]) rfl (by kernel_rfl) (by kernel_rfl) (by kernel_rfl) (fun _ _ _ h => h) (Or.inl ⟨by rfl, ?_⟩) hHeld ?_
          · intro w' hSw
            skip
            go_simp
          try simp only [Act.put, List.setIfInBounds_toArray, List.set_cons_zero, List.set_cons_succ]
          refine wpAnyH_take (i := 7) (oi := ⟨some 47, Op.extract (Operand.tmp 45) 1, _, _, _, none⟩) (v := .int .i64 er) rfl (by kernel_rfl) (by kernel_rfl) (by kernel_rfl) (fun _ _ _ h => h) (Or.inl ⟨by rfl, ?_⟩) hHeld ?_
          · intro w' hSw
            skip
            go_simp
          try simp only [Act.put, List.setIfInBounds_toArray, List.set_cons_zero, List.set_cons_succ]
          refine wpAnyH_ready (rs := [8]) (by kernel_rfl) (by simp) ?_
          refine AllReadyH.cons (o := ⟨none, Op.store _ (Operand.tmp 2) (Operand.tmp 46), _, _, _, none⟩) rfl (fun K hK => ?_) AllReadyH.nil
          have hz5 := (hb5.block w.heap.size (by have := hBW.size; simp; omega)).trans HZ2.out
          have kz0 := (cell_of_row w5 w.heap.size 0 _ _ _ hz5).trans rfl
          have fz0 := frozen_of_row w5 w.heap.size 0 _ _ hz5
          have kz1 := (cell_of_row w5 w.heap.size 1 _ _ _ hz5).trans rfl
          have fz1 := frozen_of_row w5 w.heap.size 1 _ _ hz5
          have kz2 := (cell_of_row w5 w.heap.size 2 _ _ _ hz5).trans rfl
          have fz2 := frozen_of_row w5 w.heap.size 2 _ _ hz5
          have kz3 := (cell_of_row w5 w.heap.size 3 _ _ _ hz5).trans rfl
          have fz3 := frozen_of_row w5 w.heap.size 3 _ _ hz5
          go_simp
          refine hK.out _ _ ((((hHeld.set (by omega) (by omega) (by omega) 0 _).set (by omega) (by omega) (by omega) 1 _).set (by omega) (by omega) (by omega) 2 _).set (by omega) (by omega) (by omega) 3 _) (fun hHeld => ?_)
          clear hK K kz0 kz1 kz2 kz3 fz0 fz1 fz2 fz3
          try simp only [Act.put, List.setIfInBounds_toArray, List.set_cons_zero, List.set_cons_succ]
          refine wpAnyH_ready (rs := [9]) (by kernel_rfl) (by simp) ?_
          refine AllReadyH.cons (o := ⟨none, Op.store _ (Operand.tmp 3) (Operand.tmp 47), _, _, _, none⟩) rfl (fun K hK => ?_) AllReadyH.nil
          have he5 : Boxed w5 (w.heap.size + 1) 28 (.int .i64 0) := (hb5.block _ (by have := hBW.size; simp; omega)).trans HE2.out
          have ke := he5.cell
          have fe := he5.frozen
          go_simp
          refine hK.out _ _ (hHeld.set (by omega) (by omega) (by omega) 0 _) (fun hHeld => ?_)
          clear hK K ke fe
          try simp only [Act.put, List.setIfInBounds_toArray, List.set_cons_zero, List.set_cons_succ]
          refine wpAnyH_done (by kernel_rfl) ?_ _
          dsimp only [OnlyQ]
          go_wp2_with fail
          have hK5 := (hb5.block D (by have := hBW.size; simp; omega)).trans HK2.out
          have hKe := row_setOK (row_setOK (row_setOK (row_setOK (row_setOK (hK5) (b := w.heap.size) (by omega) (j := 0) (v := .int .u8 o)) (b := w.heap.size) (by omega) (j := 1) (v := .int .u8 a)) (b := w.heap.size) (by omega) (j := 2) (v := .int .u8 b)) (b := w.heap.size) (by omega) (j := 3) (v := .int .i32 i)) (b := w.heap.size + 1) (by omega) (j := 0) (v := .int .i64 er)
          have hzF := row_setOR (row_setR (row_setR (row_setR (row_setR hz5 0 (.int .u8 o)) 1 (.int .u8 a)) 2 (.int .u8 b)) 3 (.int .i32 i)) (c := w.heap.size + 1) (by omega) 0 (.int .i64 er)
          have heF := row_setR (row_setOR (row_setOR (row_setOR (row_setOR he5 (c := w.heap.size) (by omega) 0 (.int .u8 o)) (c := w.heap.size) (by omega) 1 (.int .u8 a)) (c := w.heap.size) (by omega) 2 (.int .u8 b)) (c := w.heap.size) (by omega) 3 (.int .i32 i)) 0 (.int .i64 er)
          have hzP := row_keptR hzF (grownBy_putObj' _ D (.deferred none)) (fun r e => by cases e; exact ⟨_, hKe, rfl⟩)
          have heP := row_keptR heF (grownBy_putObj' _ D (.deferred none)) (fun r e => by cases e; exact ⟨_, hKe, rfl⟩)
          have q0 := (cell_of_row _ _ 0 _ _ _ hzP).trans rfl
          have q1 := (cell_of_row _ _ 1 _ _ _ hzP).trans rfl
          have q2 := (cell_of_row _ _ 2 _ _ _ hzP).trans rfl
          have q3 := (cell_of_row _ _ 3 _ _ _ hzP).trans rfl
          have q4 := (cell_of_row _ _ 0 _ _ _ heP).trans rfl
          refine ⟨by simp, .inl ⟨_, _, rfl, run_takeDeferred hKe, ?_⟩⟩
          refine ⟨.tuple #[.agg #[.int .u8 o, .int .u8 a, .int .u8 b, .int .i32 i], .int .i64 er], ?_, by rw [HRV.out]; rfl, (hHeld.below).trans (belowK_b (w := w) (Nat.le_refl _) _ D _ _ (by omega) hKe rfl rfl)⟩
          simp [results, Tryz.f55, go_sem, q0, q1, q2, q3, q4]
        · have em : (m.word == w0) = false := by simp [cm]
          have HM := Lib.hid hm
          clear m0 hm HRD hz' he' hK'
          go_wp2_with fail
          go_quiet (fail)
          go_wp2_with fail
          go_roundg (gk - 1)
          case measure => omega
          case rel => exact ⟨k + 1, by omega, rfl, by go_num, below_drewR hBr _, Lib.hid fun j m' hj hm' => by
              rcases Nat.lt_or_ge j k with h | h
              · exact HF.out j m' h hm'
              · obtain rfl : j = k := by omega
                rw [HM.out] at hm'; cases hm'
                simpa using cm⟩
      · have ik : ¬ (k : Int) < 53 := by omega
        obtain rfl : k = 53 := by omega
        have hfd : nmTab.find? (fun n => decide (n.word = w0)) = none := find_none fun j m hj => HF.out j m (List.getElem?_eq_some_iff.1 hj).1 hj
        have HRR := HRD.out
        rw [hfd] at HRR
        have kz0 := (cell_of_row wr w.heap.size 0 _ _ _ hz').trans rfl
        have fz0 := frozen_of_row wr w.heap.size 0 _ _ hz'
        have kz1 := (cell_of_row wr w.heap.size 1 _ _ _ hz').trans rfl
        have fz1 := frozen_of_row wr w.heap.size 1 _ _ hz'
        have kz2 := (cell_of_row wr w.heap.size 2 _ _ _ hz').trans rfl
        have fz2 := frozen_of_row wr w.heap.size 2 _ _ hz'
        have kz3 := (cell_of_row wr w.heap.size 3 _ _ _ hz').trans rfl
        have fz3 := frozen_of_row wr w.heap.size 3 _ _ hz'
        have ke := he'.cell
        have fe := he'.frozen
        have HRR := Lib.hid HRR
        have HK2 := Lib.hid hK'
        clear hfd HRD hK'
        go_wp2_with fail
        have hBz : Below w.heap.size w ((((((wr.setCell ⟨w.heap.size, 0, none⟩ (.int .u8 0)).setCell ⟨w.heap.size, 1, none⟩ (.int .u8 0)).setCell ⟨w.heap.size, 2, none⟩ (.int .u8 0)).setCell ⟨w.heap.size, 3, none⟩ (.int .i32 0))).setCell ⟨w.heap.size + 1, 0, none⟩ (.int .i64 40)) := (hB.trans (hBW.mono hB.size)).setCell (p := ⟨w.heap.size, 0, none⟩) (Nat.le_refl _) _ |>.setCell (p := ⟨w.heap.size, 1, none⟩) (Nat.le_refl _) _ |>.setCell (p := ⟨w.heap.size, 2, none⟩) (Nat.le_refl _) _ |>.setCell (p := ⟨w.heap.size, 3, none⟩) (Nat.le_refl _) _ |>.setCell (p := ⟨w.heap.size + 1, 0, none⟩) (Nat.le_succ _) _
        have hKe := row_setOK (row_setOK (row_setOK (row_setOK (row_setOK (HK2.out) (b := w.heap.size) (by omega) (j := 0) (v := .int .u8 0)) (b := w.heap.size) (by omega) (j := 1) (v := .int .u8 0)) (b := w.heap.size) (by omega) (j := 2) (v := .int .u8 0)) (b := w.heap.size) (by omega) (j := 3) (v := .int .i32 0)) (b := w.heap.size + 1) (by omega) (j := 0) (v := .int .i64 40)
        have hzF := row_setOR (row_setR (row_setR (row_setR (row_setR hz' 0 (.int .u8 0)) 1 (.int .u8 0)) 2 (.int .u8 0)) 3 (.int .i32 0)) (c := w.heap.size + 1) (by omega) 0 (.int .i64 40)
        have heF := row_setR (row_setOR (row_setOR (row_setOR (row_setOR he' (c := w.heap.size) (by omega) 0 (.int .u8 0)) (c := w.heap.size) (by omega) 1 (.int .u8 0)) (c := w.heap.size) (by omega) 2 (.int .u8 0)) (c := w.heap.size) (by omega) 3 (.int .i32 0)) 0 (.int .i64 40)
        have hzP := row_keptR hzF (grownBy_putObj' _ D (.deferred none)) (fun r e => by cases e; exact ⟨_, hKe, rfl⟩)
        have heP := row_keptR heF (grownBy_putObj' _ D (.deferred none)) (fun r e => by cases e; exact ⟨_, hKe, rfl⟩)
        have q0 := (cell_of_row _ _ 0 _ _ _ hzP).trans rfl
        have q1 := (cell_of_row _ _ 1 _ _ _ hzP).trans rfl
        have q2 := (cell_of_row _ _ 2 _ _ _ hzP).trans rfl
        have q3 := (cell_of_row _ _ 3 _ _ _ hzP).trans rfl
        have q4 := (cell_of_row _ _ 0 _ _ _ heP).trans rfl
        refine ⟨by simp, .inl ⟨_, _, rfl, run_takeDeferred hKe, ?_⟩⟩
        refine ⟨.tuple #[.agg #[.int .u8 0, .int .u8 0, .int .u8 0, .int .i32 0], .int .i64 40], ?_, by rw [(show readV (readF L) = .tuple #[insR 0 0 0 0, .int .i64 40] by rw [HRR.out]; rfl)]; rfl, (hBz).trans (belowK_b (w := w) (Nat.le_refl _) _ D _ _ (by omega) hKe rfl rfl)⟩
        simp [results, Tryz.f55, go_sem, q0, q1, q2, q3, q4]
  case stop =>
    rintro D c pre W hD hpre ⟨⟨rfl, hlen, hz, he⟩, hB⟩ hK
    have hr : readF L = .error 40 := by
      unfold readF
      rw [if_pos (Nat.lt_of_lt_of_le hlen hpre.length_le)]
    have hz' := row_keptR hz (grownBy_putObj' W D (.deferred none)) (fun r e => by cases e; exact ⟨_, hK, rfl⟩)
    have he' : Boxed (W.putObj D (.deferred none)) (w.heap.size + 1) 28 (.int .i64 40) := row_keptR he (grownBy_putObj' W D (.deferred none)) (fun r e => by cases e; exact ⟨_, hK, rfl⟩)
    have k0 := (cell_of_row _ _ 0 _ _ _ hz').trans rfl
    have k1 := (cell_of_row _ _ 1 _ _ _ hz').trans rfl
    have k2 := (cell_of_row _ _ 2 _ _ _ hz').trans rfl
    have k3 := (cell_of_row _ _ 3 _ _ _ hz').trans rfl
    have k4 := he'.cell
    gi_wp2
    refine ⟨by simp, .inl ⟨_, _, rfl, run_takeDeferred hK, ?_⟩⟩
    refine ⟨.tuple #[.agg zIns, .int .i64 40], ?_, by rw [hr]; rfl, hB.trans (belowK_b (w := w) (Nat.le_refl _) W D _ _ (by simp at hD; omega) hK rfl rfl)⟩
    simp [results, Tryz.f55, go_sem, k0, k1, k2, k3, k4]
end Go.Proofs.YtgfljokamgbcaaaGreatDoor
