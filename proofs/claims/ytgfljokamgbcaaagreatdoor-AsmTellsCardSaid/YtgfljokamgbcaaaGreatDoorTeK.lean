/- The walk of the document's again. (Written by mkTK.py.) -/
import Derived.Test.YtgfljokamgbcaaaGreatDoorTeJ
import Derived.Test.YtgfljokamgbcaaaGreatDoorTeI
import Derived.Test.YtgfljokamgbcaaaGreatDoorTeP
import Derived.Test.YtgfljokamgbcaaaGreatDoorAsK
import Derived.Laws.OwnMore
import Derived.BigQuiet
namespace Go.Proofs.YtgfljokamgbcaaaGreatDoor
open Go.RowKit
set_option linter.unusedSimpArgs false
set_option linter.unusedVariables false
set_option maxRecDepth 100000

theorem Tryz.infoMkR : (Tryz.prog.info? 64).map (fun i => (i.zero, i.size, i.bytes)) = some (some (.agg #[.int .i64 0, .int .i64 0]), 2, 16) := by kernel_rfl
/-- A program with nothing in it. -/
abbrev zPrR : Array Value := #[.slice none 0 0, .slice none 0 0, .slice none 0 0]
/-- What 'again' hands back. -/
def AgQ (vL : Value) (lb : List (Wd × Int)) (r : Except (Int × Int) St) (w : World) (e : Ending) (w' : World) : Prop := Below w.heap.size w w' ∧ match r with
  | .ok S => S.labels = lb ∧ ∃ vB vM, e = .returned (.tuple #[.agg #[vB, vL, vM], .int .i64 0, .int .i64 0]) ∧ w'.ownsRow w.heap.size 5 1 vB S.bytes.length (S.bytes.map (Value.int .u8)) ∧ w'.ownsRow w.heap.size 64 2 vM S.marks.length (S.marks.flatMap mrkA)
  | .error (ln, er) => e = .returned (.tuple #[.agg zPrR, .int .i64 ln, .int .i64 er])
/-- The second pass' blocks. -/
structure AgW (w : World) (sz : Nat) (vL : Value) (bs : List Int) (ms : List (Int × Int)) (vM : Value) (wr : World) : Prop where
  below : Below w.heap.size w wr
  lt : w.heap.size + 1 + 1 < wr.heap.size
  box : wr.heap[w.heap.size]? = some (.cells #[.slice (some ⟨w.heap.size + 1 + 1, 0, none⟩) sz sz, vL, vM] 34 (0, 0))
  res : wr.heap[w.heap.size + 1]? = some (.cells zPrR 34 (0, 0))
  by' : wr.ownsRow w.heap.size 5 1 (.slice (some ⟨w.heap.size + 1 + 1, 0, none⟩) sz sz) sz ((bs ++ List.replicate (sz - bs.length) 0).map (Value.int .u8))
  mrk : wr.ownsRow w.heap.size 64 2 vM ms.length (ms.flatMap mrkA)
theorem AgW.next {w sz vL bs ms vM wr wr'} (h : AgW w sz vL bs ms vM wr) (hb : Below wr.heap.size wr wr') : AgW w sz vL bs ms vM wr' :=
  ⟨h.below.trans (hb.mono h.below.size), Nat.lt_of_lt_of_le h.lt hb.size, (hb.block _ (heap_ltA h.box)).trans h.box, (hb.block _ (heap_ltA h.res)).trans h.res, own_keepA h.by' (fun g cur hg => hb.block g (heap_ltA hg)), own_keepA h.mrk (fun g cur hg => hb.block g (heap_ltA hg))⟩
theorem AgW.drew {w sz vL bs ms vM wr} (h : AgW w sz vL bs ms vM wr) : AgW w sz vL bs ms vM wr.drew := h.next (Below.refl _ _).drew
theorem AgW.cells {w sz vL bs ms vM wr} (h : AgW w sz vL bs ms vM wr) : wr.cell? ⟨w.heap.size, 0, none⟩ = some (.slice (some ⟨w.heap.size + 1 + 1, 0, none⟩) sz sz) ∧ wr.cell? ⟨w.heap.size, 1, none⟩ = some vL ∧ wr.cell? ⟨w.heap.size, 2, none⟩ = some vM ∧
    wr.cell? ⟨w.heap.size + 1, 0, none⟩ = some (.slice none 0 0) ∧ wr.cell? ⟨w.heap.size + 1, 1, none⟩ = some (.slice none 0 0) ∧ wr.cell? ⟨w.heap.size + 1, 2, none⟩ = some (.slice none 0 0) :=
  ⟨cell_of_row _ _ 0 _ _ _ h.box, cell_of_row _ _ 1 _ _ _ h.box, cell_of_row _ _ 2 _ _ _ h.box, cell_of_row _ _ 0 _ _ _ h.res, cell_of_row _ _ 1 _ _ _ h.res, cell_of_row _ _ 2 _ _ _ h.res⟩
theorem AgW.frozen {w sz vL bs ms vM wr} (h : AgW w sz vL bs ms vM wr) : (∀ j, wr.frozen? ⟨w.heap.size, j, none⟩ = false) ∧ ∀ j, wr.frozen? ⟨w.heap.size + 1, j, none⟩ = false :=
  ⟨fun j => frozen_of_row _ _ j _ _ h.box, fun j => frozen_of_row _ _ j _ _ h.res⟩
/-- One byte more. -/
theorem AgW.put {w sz vL bs ms vM wr} (h : AgW w sz vL bs ms vM wr) (x : Int) (hl : bs.length < sz) : AgW w sz vL (bs ++ [x]) ms vM (wr.setCell ⟨w.heap.size + 1 + 1, bs.length, none⟩ (.int .u8 x)) := by
  obtain ⟨h1, h2⟩ := h.by'.stored bs.length (.int .u8 x)
  have hne : ∀ k : Nat, k ≠ w.heap.size + 1 + 1 → (wr.setCell ⟨w.heap.size + 1 + 1, bs.length, none⟩ (.int .u8 x)).heap[k]? = wr.heap[k]? := fun k hk => Below.heap_setCell wr ⟨w.heap.size + 1 + 1, bs.length, none⟩ _ k hk
  refine ⟨h.below.setCell (p := ⟨w.heap.size + 1 + 1, bs.length, none⟩) (by show w.heap.size ≤ w.heap.size + 1 + 1; omega) _, by have := h.lt; simpa [World.setCell] using this, (hne _ (by omega)).trans h.box, (hne _ (by omega)).trans h.res, ?_, ?_⟩
  · have e : ((bs ++ List.replicate (sz - bs.length) 0).map (Value.int .u8)).set bs.length (.int .u8 x) = ((bs ++ [x]) ++ List.replicate (sz - (bs ++ [x]).length) 0).map (Value.int .u8) := by
      obtain ⟨d, hd⟩ : ∃ d, sz - bs.length = d + 1 := ⟨sz - bs.length - 1, by omega⟩
      rw [show sz - (bs ++ [x]).length = d by simp; omega, hd, List.replicate_succ]
      simp [List.set_append]
    rw [← e]
    exact h1
  · refine ownsRow_setCell_other h.mrk (a := ⟨w.heap.size + 1 + 1, bs.length, none⟩) (fun e => ?_) _
    obtain ⟨cur, hc⟩ := own_blkA h.mrk e.symm
    obtain ⟨cur2, hc2⟩ := own_blkA h.by' (k := w.heap.size + 1 + 1) rfl
    rw [hc2] at hc
    cases hc
/-- Marks more. -/
theorem AgW.mark {w sz vL bs ms vM wr wm o vM' ms'} (h : AgW w sz vL bs ms vM wr) (hg : (wr.alloc o).grownBy wm vM.ownBlock) (hw : wm.ownsRow w.heap.size 64 2 vM' ms'.length (ms'.flatMap mrkA)) :
    wm.heap[w.heap.size]? = some (.cells #[.slice (some ⟨w.heap.size + 1 + 1, 0, none⟩) sz sz, vL, vM] 34 (0, 0)) ∧ AgW w sz vL bs ms' vM' (wm.setCell ⟨w.heap.size, 2, none⟩ vM') := by
  have hk : ∀ (k : Nat) (cs : Array Value) (t : TypeId), t ≠ 64 → wr.heap[k]? = some (.cells cs t (0, 0)) → wm.heap[k]? = some (.cells cs t (0, 0)) := fun k cs t ht hc =>
    (hg.block k (by have := heap_ltA hc; simp; omega) (row_ne_own hc ht h.mrk)).trans (heap_oldT hc)
  have hbx := hk _ _ _ (by decide) h.box
  have hrs := hk _ _ _ (by decide) h.res
  obtain ⟨hB, hs⟩ := own_nextA h.below (by have := h.lt; omega) h.mrk hg
  have hsz : wr.heap.size ≤ wm.heap.size := by have := hg.size; simp at this; omega
  refine ⟨hbx, hB.setCell (p := ⟨w.heap.size, 2, none⟩) (Nat.le_refl _) _, by rw [show (wm.setCell ⟨w.heap.size, 2, none⟩ vM').heap.size = wm.heap.size by simp [World.setCell]]; have := h.lt; omega, ?_, ?_, ?_, ?_⟩
  · rw [heap_setA hbx _ (by simp)]; rfl
  · exact (Below.heap_setCell wm ⟨w.heap.size, 2, none⟩ _ _ (by show w.heap.size + 1 ≠ w.heap.size; omega)).trans hrs
  · exact own_keepA (own_other h.by' h.mrk (by decide) hg) (fun g cur hgc => Below.heap_setCell wm ⟨w.heap.size, 2, none⟩ _ g (by
      intro e
      have e : g = w.heap.size := e
      rw [e, hbx] at hgc
      cases hgc))
  · exact own_keepA hw (fun g cur hgc => Below.heap_setCell wm ⟨w.heap.size, 2, none⟩ _ g (by
      intro e
      have e : g = w.heap.size := e
      rw [e, hbx] at hgc
      cases hgc))
theorem rep_dir {bs : List Int} {sz t : Nat} (h0 : bs.length ≤ t) (h1 : t ≤ sz) : bs ++ List.replicate (sz - bs.length) 0 = (bs ++ List.replicate (t - bs.length) 0) ++ List.replicate (sz - (bs ++ List.replicate (t - bs.length) 0).length) (0 : Int) := by
  rw [List.append_assoc, List.replicate_append_replicate, List.length_append, List.length_replicate]
  congr 2
  omega
theorem AgW.zeros {w sz vL bs ms vM wr} (h : AgW w sz vL bs ms vM wr) {t : Nat} (h0 : bs.length ≤ t) (h1 : t ≤ sz) : AgW w sz vL (bs ++ List.replicate (t - bs.length) 0) ms vM wr :=
  ⟨h.below, h.lt, h.box, h.res, by rw [← rep_dir h0 h1]; exact h.by', h.mrk⟩
theorem own_linesR {w : World} {base n : Nat} {v : Value} {xs : List Value} {e : TypeId} (h : w.ownsRow base e 1 v n xs) : ∃ ao cap, v = .slice ao n cap ∧ n ≤ cap ∧ cap ≤ maxLen ∧ (0 < n → ∃ g, ao = some ⟨g, 0, none⟩ ∧ g < w.heap.size ∧ ∀ j u, xs[j]? = some u → w.cell? ⟨g, j, none⟩ = some u) := by
  by_cases hp : 0 < n
  · obtain ⟨g, cap, rfl, h1, h2, h3, -, h5, -⟩ := own_some1A h hp
    exact ⟨_, cap, rfl, h1, h5, fun _ => ⟨g, rfl, h2, h3⟩⟩
  · rcases h.2 with ⟨rfl, h1⟩ | ⟨g, cap, cur, rfl, h2, h3, h4, h5, h6⟩
    · exact ⟨none, 0, by rw [h1], by omega, by unfold maxLen; omega, fun h => absurd h hp⟩
    · exact ⟨_, cap, rfl, h4, h5, fun h => absurd h hp⟩
theorem last_at {x : Wd} (h : x ≠ []) : ∃ c, x.getLast? = some c ∧ x[x.length - 1]? = some c := by
  have hl : 0 < x.length := List.length_pos_iff.2 h
  refine ⟨x[x.length - 1]'(by omega), ?_, List.getElem?_eq_getElem _⟩
  rw [List.getLast?_eq_getElem?, List.getElem?_eq_getElem]
set_option maxHeartbeats 32000000 in
theorem againR_c (vl vL : Value) (xs : List Value) (lb : List (Wd × Int)) (sz base : Nat) (ls : List (List Wd)) (R : Except (Int × Int) St) (w : World)
    (hO : w.ownsRow base 49 1 vl ls.length xs) (hS : LsIn w w.heap.size xs ls) (hLb : w.ownsRow base 57 2 vL lb.length (lb.flatMap labA))
    (hA : AgI lb (sz : Int) ls R 0 ⟨0, lb, [], []⟩) (hw : ∀ l ∈ ls, WOk l) (hl5 : ls.length ≤ 512) (hll : ∀ l ∈ ls, l.length ≤ 10000) :
    Calls Tryz.prog 16 #[.agg #[.slice none 0 0, vL, .slice none 0 0], vl, .int .i64 (sz : Int)] w (AgQ vL lb R w) := by
  obtain ⟨i0, hi, hz0, hz1, hz2⟩ := info_parts Isa.Tryz.infoB
  obtain ⟨r0, hr, hy0, hy1, hy2⟩ := info_parts Tryz.infoMkR
  obtain ⟨aol, capl, rfl, hlc, hlm, hPI⟩ := own_pairs (enc := labA) (fun _ => rfl) hLb
  obtain ⟨al, cl, rfl, hal, ham, hrow⟩ := own_linesR hO
  have hsz := hA.size.2
  have hll2 : lb.length ≤ 100000 := by have := hA.ok.ll; simp at this; omega
  have hlb : ∀ p ∈ lb, 0 ≤ p.2 ∧ p.2 ≤ 4096 := hA.ok.lb
  have HP := Lib.hid hPI
  have HRow := Lib.hid hrow
  have HLS := Lib.hid hS
  have HWk := Lib.hid hw
  have HLL := Lib.hid hll
  have HA0 := Lib.hid hA
  clear hPI hrow hS hw hll hA hO hLb
  go_enter Tryz.func16, Tryz.ntmps16
  go_wp2_with (first | (at_make; ( refine wpList_make_full _ rfl _ _ 23 rfl w.heap.size 5 i0 (.int .u8 0) 1 Tryz.underlying23 hi hz0 hz1 .i64 .i64 (sz : Int) (sz : Int) sz rfl rfl rfl rfl (by rw [hz2]; omega) (by unfold maxLen; omega) (by first | (simp; done) | (simp; omega)) ?_; intro w1 hown1 hgr1; have hbx1 : w1.heap[w.heap.size]? = some (.cells #[.slice none 0 0, .slice aol lb.length capl, .slice none 0 0] 34 (0, 0)) := (hgr1.block _ (by first | (simp; done) | (simp; omega)) (by simp)).trans (heap_oldT (heap_newT rfl)); have hrs1 : w1.heap[w.heap.size + 1]? = some (.cells zPrR 34 (0, 0)) := (hgr1.block _ (by first | (simp; done) | (simp; omega)) (by simp)).trans (heap_newT (by simp)); have hB1 : Below w.heap.size w w1 := (((Below.refl _ w).alloc (Nat.le_refl _) _).alloc (by simp) _).grown hgr1 (by first | (simp; done) | (simp; omega)) (fun k hk => by cases hk); have kb0 := (cell_of_row w1 w.heap.size 0 _ _ _ hbx1).trans rfl; have fb0 := frozen_of_row w1 w.heap.size 0 _ _ hbx1)))
  have hown1' : w1.ownsRow w.heap.size 5 1 (.slice (some ⟨w.heap.size + 1 + 1, 0, none⟩) sz sz) sz ((([] : List Int) ++ List.replicate (sz - ([] : List Int).length) 0).map (Value.int .u8)) := by
    have e : (madeCells (Value.int .u8 0).cells (sz * 1)).toList = ((([] : List Int) ++ List.replicate (sz - ([] : List Int).length) 0).map (Value.int .u8)) := by
      rw [Nat.mul_one]
      exact (toList_madeCells_one _ _).trans (by simp)
    rw [← e]
    simpa using hown1
  have HW0 : AgW w sz (.slice aol lb.length capl) [] [] (.slice none 0 0) (w1.setCell ⟨w.heap.size, 0, none⟩ (.slice (some ⟨w.heap.size + 1 + 1, 0, none⟩) sz sz)) := by
    obtain ⟨cur, hcu⟩ := own_blkA hown1' (k := w.heap.size + 1 + 1) rfl
    have hne : ∀ k : Nat, k ≠ w.heap.size → (w1.setCell ⟨w.heap.size, 0, none⟩ (.slice (some ⟨w.heap.size + 1 + 1, 0, none⟩) sz sz)).heap[k]? = w1.heap[k]? := fun k hk => Below.heap_setCell w1 ⟨w.heap.size, 0, none⟩ _ k hk
    refine ⟨hB1.setCell (p := ⟨w.heap.size, 0, none⟩) (Nat.le_refl _) _, by rw [show (w1.setCell ⟨w.heap.size, 0, none⟩ (.slice (some ⟨w.heap.size + 1 + 1, 0, none⟩) sz sz)).heap.size = w1.heap.size by simp [World.setCell]]; exact heap_ltA hcu, ?_, (hne _ (by omega)).trans hrs1, own_keepA hown1' (fun g cur2 hg => hne g (fun e => by rw [e, hbx1] at hg; cases hg)), ⟨rfl, .inl ⟨rfl, rfl⟩⟩⟩
    rw [heap_setA hbx1 _ (by simp)]
    rfl
  have HWs := Lib.hid HW0
  clear HW0 hown1 hown1' hgr1 hbx1 hrs1 kb0 fb0 hB1
  go_loopg [9, 10] ls.length (fun gk v9 v10 wr => ∃ (k : Nat) (S : St) (vM : Value), gk + k = ls.length ∧ v10 = .int .i64 (k : Int) ∧ v9 = .int .i64 S.at' ∧ Hid (AgI lb (sz : Int) ls R k S) ∧ Hid (AgW w sz (.slice aol lb.length capl) S.bytes S.marks vM wr))
  case atStart => exact ⟨0, ⟨0, lb, [], []⟩, _, by omega, rfl, rfl, HA0, HWs⟩
  case round =>
    obtain ⟨k, S, vM, hk, rfl, rfl, HI, HWr⟩ := hrel
    obtain ⟨aM, cM, rfl⟩ := own_sliceA HWr.out.mrk
    obtain ⟨kb0, kb1, kb2, kr0, kr1, kr2⟩ := HWr.out.cells
    obtain ⟨fb, fr⟩ := HWr.out.frozen
    have hlt := HWr.out.lt
    have hsw : w.heap.size ≤ wr.heap.size := HWr.out.below.size
    by_cases c1 : k < ls.length
    · have i1 : (k : Int) < (ls.length : Int) := by omega
      obtain ⟨g, rfl, hg, hgc⟩ := HRow.out (by omega)
      obtain ⟨ws, hws⟩ : ∃ ws, ls[k]? = some ws := ⟨_, List.getElem?_eq_getElem c1⟩
      obtain ⟨ao, cap, hx, hln, -⟩ := HLS.out.2 k ws hws
      have hc := (HWr.out.below.cell (p := ⟨g, k, none⟩) hg).trans (hgc k _ hx)
      have hgr : g < wr.heap.size := by omega
      have HWO := Lib.hid (HWk.out ws (List.mem_of_getElem? hws))
      have HLW := Lib.hid (HLL.out ws (List.mem_of_getElem? hws))
      have HWS := Lib.hid hws
      clear hws hx hgc
      rcases ws with _ | ⟨x, r⟩
      · have HNX := Lib.hid (HI.out.skip HWS.out rfl)
        go_wp2_with fail
        go_quiet (fail)
        go_wp2_with fail
        go_roundg (gk - 1)
        case measure => omega
        case rel => exact ⟨k + 1, S, _, by omega, by go_num, rfl, HNX, Lib.hid (HWr.out.next (by first | exact below_drewR (Below.refl _ _) _ | exact (Below.refl _ _).drew | exact Below.refl _ _))⟩
      · have HLN0 := Lib.hid hln
        obtain ⟨blk, off, rfl, hblk, y0w⟩ := wd_at hln.inn (i := 0) rfl
        rw [Nat.add_zero] at y0w
        have y0 := (HWr.out.below.cell (p := ⟨blk, off, none⟩) hblk).trans y0w
        have hbr : blk < wr.heap.size := by omega
        have hcp := hln.cap
        have hle := hln.le
        rw [List.length_cons] at hle
        have hxn := (HWO.out x List.mem_cons_self).1
        obtain ⟨cl, hgl, hat⟩ := last_at hxn
        obtain ⟨m, hm⟩ : ∃ m, x.length = m + 1 := ⟨x.length - 1, by have := List.length_pos_iff.2 hxn; omega⟩
        rw [show x.length - 1 = m by omega] at hat
        have el := ba_get x m cl hat
        have el2 : ∀ h : m < x.length, x[m] = cl := fun h => (List.getElem?_eq_some_iff.1 hat).2
        have zx := ba_size x
        rw [hm] at zx
        have hm4 : m ≤ 10000 := by have := (hln.each x List.mem_cons_self).2; omega
        have hwm : IntKind.i64.wrap (m : Int) = (m : Int) := IntWalk.i64_in _ ⟨by omega, by omega⟩
        have HGL := Lib.hid hgl
        have hrl : r.length ≤ 10000 := by have := HLW.out; simp at this; omega
        have j1 : (0 : Int) < (r.length : Int) + 1 := by omega
        clear hln hgl hat hxn y0w
        by_cases c58 : cl = 58
        · have f58 : ((cl.toNat : Int) == 58) = true := by rw [c58]; rfl
          have hrm : remD (x :: r) = r := by unfold remD; exact if_pos (by show x.getLast? = some 58; rw [HGL.out, c58])
          have HRM := Lib.hid hrm
          have j2 : (1 : Int) ≤ (r.length : Int) + 1 := by omega
          have j3 : (r.length : Int) + 1 ≤ (cap : Int) := by omega
          clear hrm c58 HGL
          rcases r with _ | ⟨z, zr⟩
          · have HNX := Lib.hid (HI.out.skip HWS.out HRM.out)
            by_cases hcap1 : cap = 1
            · subst hcap1
              go_wp2_with fail
              go_quiet (fail)
              go_wp2_with fail
              go_roundg (gk - 1)
              case measure => omega
              case rel => exact ⟨k + 1, S, _, by omega, by go_num, rfl, HNX, Lib.hid (HWr.out.next (by first | exact below_drewR (Below.refl _ _) _ | exact (Below.refl _ _).drew | exact Below.refl _ _))⟩
            · have j4 : (1 : Int) < (cap : Int) := by simp at hle; omega
              go_wp2_with fail
              go_quiet (fail)
              go_wp2_with fail
              go_roundg (gk - 1)
              case measure => omega
              case rel => exact ⟨k + 1, S, _, by omega, by go_num, rfl, HNX, Lib.hid (HWr.out.next (by first | exact below_drewR (Below.refl _ _) _ | exact (Below.refl _ _).drew | exact Below.refl _ _))⟩
          · have j4 : (1 : Int) < (cap : Int) := by simp at hle; omega
            have j5 : 1 < cap := by omega
            have dd : decide ((0 : Int) < (zr.length : Int) + 1 + 1) = true := decide_eq_true (by omega)
            have HLN := Lib.hid (ln_tail HLN0.out j5)
            obtain ⟨b2, o2, he2, -, y1w⟩ := wd_at HLN.out.inn (i := 0) rfl
            cases he2
            rw [Nat.add_zero] at y1w
            have y1 := (HWr.out.below.cell (p := ⟨blk, off + 1, none⟩) hblk).trans y1w
            clear y1w
            go_wp2_with fail
            go_quiet (fail)
            have HLN2 := Lib.hid (fun (W : World) (hb : Below w.heap.size w W) => LnOk.below HLN.out hb)
            have HRm := Lib.hid (show remD (x :: z :: zr) = z :: zr from HRM.out)
            have hvl : (z :: zr).length ≤ 10000 := by simpa using hrl
            have HSt := Lib.hid (fun (W : World) (hb : Below w.heap.size w W) => stepR_c (some ⟨blk, off + 1, none⟩) (cap - 1) (z :: zr) S.at' W (HLN2.out W hb) (by simp) hvl HI.out.ok.a0 HI.out.ok.a1)
            have z1 : (0 : Int) < ((z :: zr).length : Int) := by first | (simp; done) | (simp; omega)
            by_cases hz1_ : z = wOrg
            · have hz := hz1_
              have e_org : (z == ([46, 111, 114, 103] : List UInt8)) = true := by rw [hz]; decide
              have e_space : (z == ([46, 115, 112, 97, 99, 101] : List UInt8)) = false := by rw [hz]; decide
              have e_align : (z == ([46, 97, 108, 105, 103, 110] : List UInt8)) = false := by rw [hz]; decide
              obtain ⟨t, hst, ht0, ht1, hnx⟩ := HI.out.dir (by omega) HWS.out HWO.out (by rw [HRm.out]; simp) (by rw [HRm.out]; show dirW z = true; rw [hz]; decide)
              rw [HRm.out] at hst
              have HNX := Lib.hid hnx
              rw [hst] at HSt
              clear hst hnx hz
              go_wp2_with fail
              refine (HSt.out _ (by first | exact HWr.out.below.trans ((below_drewR (Below.refl _ _) _).mono hsw) | exact below_drewR HWr.out.below _ | exact HWr.out.below.drew | exact HWr.out.below)).mono ?_
              rintro e w3 ⟨rfl, hb3⟩
              rw [show stepV S.at' (.ok t) = .tuple #[.int .i64 t, .int .i64 0] from rfl]
              go_wp2_with fail
              go_roundg (gk - 1)
              case measure => omega
              case rel => exact ⟨k + 1, _, _, by omega, by go_num, rfl, HNX.out, Lib.hid (by
                have hq := ((HWr.out.next (wr' := w3) ((show Below wr.heap.size wr _ by first | exact below_drewR (Below.refl _ _) _ | exact (Below.refl _ _).drew | exact Below.refl _ _).trans (hb3.mono (by simp)))).zeros (t := t.toNat) (by have := HI.out.len; omega) (by omega))
                rw [show t.toNat - S.bytes.length = (t - S.at').toNat by have := HI.out.len; omega] at hq
                exact hq)⟩
            by_cases hz2_ : z = wSpace
            · have hz := hz2_
              have e_space : (z == ([46, 115, 112, 97, 99, 101] : List UInt8)) = true := by rw [hz]; decide
              have e_org : (z == ([46, 111, 114, 103] : List UInt8)) = false := by rw [hz]; decide
              have e_align : (z == ([46, 97, 108, 105, 103, 110] : List UInt8)) = false := by rw [hz]; decide
              obtain ⟨t, hst, ht0, ht1, hnx⟩ := HI.out.dir (by omega) HWS.out HWO.out (by rw [HRm.out]; simp) (by rw [HRm.out]; show dirW z = true; rw [hz]; decide)
              rw [HRm.out] at hst
              have HNX := Lib.hid hnx
              rw [hst] at HSt
              clear hst hnx hz
              go_wp2_with fail
              refine (HSt.out _ (by first | exact HWr.out.below.trans ((below_drewR (Below.refl _ _) _).mono hsw) | exact below_drewR HWr.out.below _ | exact HWr.out.below.drew | exact HWr.out.below)).mono ?_
              rintro e w3 ⟨rfl, hb3⟩
              rw [show stepV S.at' (.ok t) = .tuple #[.int .i64 t, .int .i64 0] from rfl]
              go_wp2_with fail
              go_roundg (gk - 1)
              case measure => omega
              case rel => exact ⟨k + 1, _, _, by omega, by go_num, rfl, HNX.out, Lib.hid (by
                have hq := ((HWr.out.next (wr' := w3) ((show Below wr.heap.size wr _ by first | exact below_drewR (Below.refl _ _) _ | exact (Below.refl _ _).drew | exact Below.refl _ _).trans (hb3.mono (by simp)))).zeros (t := t.toNat) (by have := HI.out.len; omega) (by omega))
                rw [show t.toNat - S.bytes.length = (t - S.at').toNat by have := HI.out.len; omega] at hq
                exact hq)⟩
            by_cases hz3_ : z = wAlign
            · have hz := hz3_
              have e_align : (z == ([46, 97, 108, 105, 103, 110] : List UInt8)) = true := by rw [hz]; decide
              have e_org : (z == ([46, 111, 114, 103] : List UInt8)) = false := by rw [hz]; decide
              have e_space : (z == ([46, 115, 112, 97, 99, 101] : List UInt8)) = false := by rw [hz]; decide
              obtain ⟨t, hst, ht0, ht1, hnx⟩ := HI.out.dir (by omega) HWS.out HWO.out (by rw [HRm.out]; simp) (by rw [HRm.out]; show dirW z = true; rw [hz]; decide)
              rw [HRm.out] at hst
              have HNX := Lib.hid hnx
              rw [hst] at HSt
              clear hst hnx hz
              go_wp2_with fail
              refine (HSt.out _ (by first | exact HWr.out.below.trans ((below_drewR (Below.refl _ _) _).mono hsw) | exact below_drewR HWr.out.below _ | exact HWr.out.below.drew | exact HWr.out.below)).mono ?_
              rintro e w3 ⟨rfl, hb3⟩
              rw [show stepV S.at' (.ok t) = .tuple #[.int .i64 t, .int .i64 0] from rfl]
              go_wp2_with fail
              go_roundg (gk - 1)
              case measure => omega
              case rel => exact ⟨k + 1, _, _, by omega, by go_num, rfl, HNX.out, Lib.hid (by
                have hq := ((HWr.out.next (wr' := w3) ((show Below wr.heap.size wr _ by first | exact below_drewR (Below.refl _ _) _ | exact (Below.refl _ _).drew | exact Below.refl _ _).trans (hb3.mono (by simp)))).zeros (t := t.toNat) (by have := HI.out.len; omega) (by omega))
                rw [show t.toNat - S.bytes.length = (t - S.at').toNat by have := HI.out.len; omega] at hq
                exact hq)⟩
            have e_org : (z == ([46, 111, 114, 103] : List UInt8)) = false := beq_eq_false_iff_ne.2 hz1_
            have e_space : (z == ([46, 115, 112, 97, 99, 101] : List UInt8)) = false := beq_eq_false_iff_ne.2 hz2_
            have e_align : (z == ([46, 97, 108, 105, 103, 110] : List UInt8)) = false := beq_eq_false_iff_ne.2 hz3_
            have hnd : dirW z = false := by unfold dirW; rw [decide_eq_false hz1_, decide_eq_false hz2_, decide_eq_false hz3_]; rfl
            obtain ⟨t, hst, ht0, ht1, herr, hok⟩ := HI.out.laid (by omega) HWS.out HWO.out (by rw [HRm.out]; simp) (by rw [HRm.out]; exact hnd)
            rw [HRm.out] at hst herr hok
            have HHd := Lib.hid (stepD_head hst)
            have HLa := Lib.hid (fun (W : World) (hb : Below w.heap.size w W) => laidR_c aol capl lb (some ⟨blk, off + 1, none⟩) (cap - 1) (z :: zr) S.at' W (HP.out.below hb) hll2 hlc hlm hlb (HLN2.out W hb) (by simp) hvl HI.out.ok.a0 HI.out.ok.a1 (fun h => (HHd.out.2.2.2.1 h).1) (fun h1 h2 h3 => by obtain ⟨op, ho, -⟩ := HHd.out.2.2.2.2 hnd h1 h2 h3; exact ⟨op, ho⟩))
            rw [hst] at HSt
            have HER := Lib.hid herr
            have HOK := Lib.hid hok
            clear hst herr hok hz1_ hz2_ hz3_
            go_wp2_with fail
            refine (HLa.out _ (by first | exact HWr.out.below.trans ((below_drewR (Below.refl _ _) _).mono hsw) | exact below_drewR HWr.out.below _ | exact HWr.out.below.drew | exact HWr.out.below)).mono ?_
            rintro e w3 ⟨hb3, hr⟩
            have HW3 := Lib.hid (HWr.out.next (wr' := w3) ((show Below wr.heap.size wr _ by first | exact below_drewR (Below.refl _ _) _ | exact (Below.refl _ _).drew | exact Below.refl _ _).trans (hb3.mono (by simp))))
            have hb3r : wr.heap.size ≤ w3.heap.size := by have := hb3.size; simpa using this
            obtain ⟨kb0, kb1, kb2, kr0, kr1, kr2⟩ := HW3.out.cells
            obtain ⟨fb, fr⟩ := HW3.out.frozen
            have hlt3 := HW3.out.lt
            cases hla : laidD lb (z :: zr) S.at' with
            | error er =>
              rw [hla] at hr
              obtain rfl := hr
              obtain ⟨hRe, her⟩ := HER.out er hla
              have hne : (er != 0) = true := by simpa using her
              have HRE := Lib.hid hRe
              have hrs := HW3.out.res
              have hB3 := HW3.out.below
              clear HER HOK hla hRe her
              have hlt4 : w.heap.size + 1 < w3.heap.size := by omega
              go_wp2_with fail
              have hz := (row_setR (row_setR (row_setR hrs 0 (.slice none 0 0)) 1 (.slice none 0 0)) 2 (.slice none 0 0))
              have q0 := (cell_of_row _ _ 0 _ _ _ hz).trans rfl
              have q1 := (cell_of_row _ _ 1 _ _ _ hz).trans rfl
              have q2 := (cell_of_row _ _ 2 _ _ _ hz).trans rfl
              refine bodyPost_ret (v := .tuple #[.agg zPrR, .int .i64 ((k : Int) + 1), .int .i64 er]) (by simp [results, Tryz.results16, go_sem, q0, q1, q2]) rfl ?_
              rw [HRE.out]
              exact ⟨((hB3.setCell (p := ⟨w.heap.size + 1, 0, none⟩) (Nat.le_succ _) _).setCell (p := ⟨w.heap.size + 1, 1, none⟩) (Nat.le_succ _) _).setCell (p := ⟨w.heap.size + 1, 2, none⟩) (Nat.le_succ _) _, rfl⟩
            | ok b =>
              rw [hla] at hr
              obtain ⟨v, rfl, hown⟩ := hr
              obtain ⟨av, cv, rfl⟩ := own_sliceA hown
              obtain ⟨htl, hnx⟩ := HOK.out b hla
              have HNX := Lib.hid hnx
              have HOB := Lib.hid (own_lowR (base' := wr.heap.size) (by simp) hown)
              have hbl : b.length ≤ sz := by have := HI.out.ok.a0; omega
              clear HER HOK hla hnx hown
              obtain ⟨G, hG⟩ : ∃ G, G = gk := ⟨_, rfl⟩
              rw [← hG] at hk
              obtain ⟨nb, hnb⟩ : ∃ n, n = wr.heap.size := ⟨_, rfl⟩
              rw [← hnb] at HOB hb3r hlt
              have HW3' := HW3
              go_wp2_with fail
              go_loopg [14] b.length (fun gk v14 wq => ∃ j : Nat, gk + j = b.length ∧ v14 = .int .i64 (j : Int) ∧ Hid (AgW w sz (.slice aol lb.length capl) (S.bytes ++ b.take j) S.marks (.slice aM S.marks.length cM) wq) ∧ Hid (wq.ownsRow nb 5 1 (.slice av b.length cv) b.length (b.map (Value.int .u8))) ∧ nb ≤ wq.heap.size)
              case atStart => exact ⟨0, by omega, rfl, Lib.hid (by simpa using HW3.out), HOB, hb3r⟩
              case round =>
                obtain ⟨j, hj, rfl, HQ, HOQ, hsq⟩ := hrel
                obtain ⟨qb0, qb1, qb2, qr0, qr1, qr2⟩ := HQ.out.cells
                obtain ⟨fqb, fqr⟩ := HQ.out.frozen
                have hltq := HQ.out.lt
                by_cases c3 : j < b.length
                · have i3 : (j : Int) < (b.length : Int) := by omega
                  obtain ⟨gb, cb, hav, hcb, hgb, hcl, hgl, -⟩ := own_some1A HOQ.out (by omega)
                  cases hav
                  obtain ⟨u, hu⟩ : ∃ u, b[j]? = some u := ⟨_, List.getElem?_eq_getElem c3⟩
                  have hcu := hcl j (.int .u8 u) (by rw [List.getElem?_map, hu]; rfl)
                  obtain ⟨q, hq⟩ : ∃ q, q = S.bytes.length + j := ⟨_, rfl⟩
                  have hbj : (S.bytes ++ b.take j).length = q := by rw [hq]; simp; omega
                  have hin : q < sz := by have := HI.out.len; omega
                  have HPut := Lib.hid (HQ.out.drew.put u (by rw [hbj]; exact hin))
                  rw [hbj] at HPut
                  have HTk := Lib.hid (show (S.bytes ++ b.take j) ++ [u] = S.bytes ++ b.take (j + 1) by rw [List.append_assoc, List.take_add_one, hu]; rfl)
                  have hwr : IntKind.i64.wrap (S.at' + (j : Int)) = (q : Int) := by rw [show S.at' + (j : Int) = (q : Int) by have := HI.out.len; omega]; exact IntWalk.i64_in _ ⟨by omega, by omega⟩
                  have hin2 : (q : Int) < (sz : Int) := by omega
                  have hfz : wr.frozen? ⟨w.heap.size + 1 + 1, q, none⟩ = false := HQ.out.by'.frozenAt _
                  obtain ⟨x0, hx0⟩ : ∃ x, wr.cell? ⟨w.heap.size + 1 + 1, q, none⟩ = some x := by
                    have h1 := HQ.out.by'.cellAt (j := q) (by omega)
                    exact ⟨_, h1.trans (List.getElem?_eq_getElem (by rw [List.length_map, List.length_append, hbj, List.length_replicate]; omega))⟩
                  clear hbj hq
                  clear hu hcl
                  go_wp2_with fail
                  refine wp_region_held_drew (S := fun w' => w'.cell? ⟨w.heap.size, 0, none⟩ = some (.slice (some ⟨w.heap.size + 1 + 1, 0, none⟩) sz sz) ∧ w'.cell? ⟨gb, j, none⟩ = some (.int .u8 u)) (by kernel_rfl) (by refine ⟨?_, ?_⟩ <;> go_simp) (fun hHeld => ?_)
                  refine wpAnyH_take (i := 0) (oi := ⟨some 84, Op.fieldAddr _ (Operand.tmp 3) 0, _, _, _, none⟩) (v := .pointer (some ⟨w.heap.size, 0, none⟩)) rfl (by kernel_rfl) (by kernel_rfl) (by kernel_rfl) (fun _ _ _ h => h) (Or.inl ⟨by rfl, ?_⟩) hHeld ?_
                  · intro w' hSw
                    skip
                    go_simp
                  try simp only [Act.put, List.setIfInBounds_toArray, List.set_cons_zero, List.set_cons_succ]
                  refine wpAnyH_take (i := 1) (oi := ⟨some 85, Op.load _ (Operand.tmp 84), _, _, _, none⟩) (v := .slice (some ⟨w.heap.size + 1 + 1, 0, none⟩) sz sz) rfl (by kernel_rfl) (by kernel_rfl) (by kernel_rfl) (fun _ _ _ h => h) (Or.inl ⟨by rfl, ?_⟩) hHeld ?_
                  · intro w' hSw
                    have k0 := hSw.1
                    go_simp
                  try simp only [Act.put, List.setIfInBounds_toArray, List.set_cons_zero, List.set_cons_succ]
                  refine wpAnyH_take (i := 2) (oi := ⟨some 86, Op.move (Operand.tmp 9), _, _, _, none⟩) (v := .int .i64 S.at') rfl (by kernel_rfl) (by kernel_rfl) (by kernel_rfl) (fun _ _ _ h => h) (Or.inl ⟨by rfl, ?_⟩) hHeld ?_
                  · intro w' hSw
                    skip
                    go_simp
                  try simp only [Act.put, List.setIfInBounds_toArray, List.set_cons_zero, List.set_cons_succ]
                  refine wpAnyH_take (i := 3) (oi := ⟨some 87, Op.move (Operand.tmp 14), _, _, _, none⟩) (v := .int .i64 (j : Int)) rfl (by kernel_rfl) (by kernel_rfl) (by kernel_rfl) (fun _ _ _ h => h) (Or.inl ⟨by rfl, ?_⟩) hHeld ?_
                  · intro w' hSw
                    skip
                    go_simp
                  try simp only [Act.put, List.setIfInBounds_toArray, List.set_cons_zero, List.set_cons_succ]
                  refine wpAnyH_take (i := 4) (oi := ⟨some 88, Op.binOp BinOp.add _ (Operand.tmp 86) (Operand.tmp 87) _, _, _, _, none⟩) (v := .int .i64 (q : Int)) rfl (by kernel_rfl) (by kernel_rfl) (by kernel_rfl) (fun _ _ _ h => h) (Or.inl ⟨by rfl, ?_⟩) hHeld ?_
                  · intro w' hSw
                    skip
                    go_simp
                  try simp only [Act.put, List.setIfInBounds_toArray, List.set_cons_zero, List.set_cons_succ]
                  refine wpAnyH_take (i := 5) (oi := ⟨some 89, Op.move (Operand.tmp 12), _, _, _, none⟩) (v := .slice (some ⟨gb, 0, none⟩) b.length cv) rfl (by kernel_rfl) (by kernel_rfl) (by kernel_rfl) (fun _ _ _ h => h) (Or.inl ⟨by rfl, ?_⟩) hHeld ?_
                  · intro w' hSw
                    skip
                    go_simp
                  try simp only [Act.put, List.setIfInBounds_toArray, List.set_cons_zero, List.set_cons_succ]
                  refine wpAnyH_take (i := 6) (oi := ⟨some 90, Op.move (Operand.tmp 14), _, _, _, none⟩) (v := .int .i64 (j : Int)) rfl (by kernel_rfl) (by kernel_rfl) (by kernel_rfl) (fun _ _ _ h => h) (Or.inl ⟨by rfl, ?_⟩) hHeld ?_
                  · intro w' hSw
                    skip
                    go_simp
                  try simp only [Act.put, List.setIfInBounds_toArray, List.set_cons_zero, List.set_cons_succ]
                  refine wpAnyH_take (i := 7) (oi := ⟨some 91, Op.indexAddr _ (Operand.tmp 89) (Operand.tmp 90), _, _, _, none⟩) (v := .pointer (some ⟨gb, j, none⟩)) rfl (by kernel_rfl) (by kernel_rfl) (by kernel_rfl) (fun _ _ _ h => h) (Or.inl ⟨by rfl, ?_⟩) hHeld ?_
                  · intro w' hSw
                    skip
                    go_simp
                  try simp only [Act.put, List.setIfInBounds_toArray, List.set_cons_zero, List.set_cons_succ]
                  refine wpAnyH_take (i := 8) (oi := ⟨some 92, Op.load _ (Operand.tmp 91), _, _, _, none⟩) (v := .int .u8 u) rfl (by kernel_rfl) (by kernel_rfl) (by kernel_rfl) (fun _ _ _ h => h) (Or.inl ⟨by rfl, ?_⟩) hHeld ?_
                  · intro w' hSw
                    have k0 := hSw.2
                    go_simp
                  try simp only [Act.put, List.setIfInBounds_toArray, List.set_cons_zero, List.set_cons_succ]
                  refine wpAnyH_take (i := 9) (oi := ⟨some 93, Op.indexAddr _ (Operand.tmp 85) (Operand.tmp 88), _, _, _, none⟩) (v := .pointer (some ⟨w.heap.size + 1 + 1, q, none⟩)) rfl (by kernel_rfl) (by kernel_rfl) (by kernel_rfl) (fun _ _ _ h => h) (Or.inl ⟨by rfl, ?_⟩) hHeld ?_
                  · intro w' hSw
                    skip
                    go_simp
                  try simp only [Act.put, List.setIfInBounds_toArray, List.set_cons_zero, List.set_cons_succ]
                  refine wpAnyH_ready (rs := [10]) (by kernel_rfl) (by simp) ?_
                  refine AllReadyH.cons (o := ⟨none, Op.store _ (Operand.tmp 93) (Operand.tmp 92), _, _, _, none⟩) rfl (fun K hK => ?_) AllReadyH.nil
                  go_simp
                  refine hK.out _ _ ⟨(World.cell?_of_block (a := ⟨w.heap.size, 0, none⟩) (Below.heap_setCell _ ⟨w.heap.size + 1 + 1, q, none⟩ _ w.heap.size (by show w.heap.size ≠ w.heap.size + 1 + 1; omega))).trans hHeld.1, (World.cell?_of_block (a := ⟨gb, j, none⟩) (Below.heap_setCell _ ⟨w.heap.size + 1 + 1, q, none⟩ _ gb (by show gb ≠ w.heap.size + 1 + 1; omega))).trans hHeld.2⟩ (fun hHeld => ?_)
                  clear hK K
                  try simp only [Act.put, List.setIfInBounds_toArray, List.set_cons_zero, List.set_cons_succ]
                  refine wpAnyH_done (by kernel_rfl) ?_ _
                  go_wp2_with fail
                  go_roundg (gk - 1)
                  case measure => omega
                  case rel => exact ⟨j + 1, by omega, by go_num, Lib.hid (by rw [← HTk.out]; exact HPut.out), Lib.hid (ownsRow_setCell_below (own_keepA HOQ.out (fun g cur hg => rfl)) (a := ⟨w.heap.size + 1 + 1, q, none⟩) (by show w.heap.size + 1 + 1 < nb; omega) _), by simpa [World.setCell] using hsq⟩
                · have i3 : ¬ (j : Int) < (b.length : Int) := by omega
                  have hbt : b.take j = b := List.take_of_length_le (by omega)
                  rw [hbt] at HQ
                  have hml := HI.out.ok.ml
                  clear hbt
                  go_wp2_with (first | (at_builtin; refine wpList_append_own _ rfl _ _ 32 rfl w.heap.size 64 r0 _ 2 16 Tryz.underlying32 hr hy0 hy1 hy2 rfl (by decide) _ _ _ rfl (HQ.out.mrk.alloc _) _ 1 1 (mrkA (S.at', (k : Int) + 1)) rfl rfl (cells_newA _ _ _ _ rfl) (by simp [mrkA, Value.oneCell']) (by unfold maxLen; omega) (by omega) (by first | (simp; done) | (simp; omega)) ?_; intro v5 w5 own5 gr5 _; obtain ⟨a5, c5, rfl⟩ := own_sliceA own5; obtain ⟨hbx5, hm5⟩ := HQ.out.mark (ms' := S.marks ++ [(S.at', (k : Int) + 1)]) gr5 (by simpa using own5); have kb5 := (cell_of_row w5 w.heap.size 2 _ _ _ hbx5).trans rfl; have fb5 := frozen_of_row w5 w.heap.size 2 _ _ hbx5; have HM5 := Lib.hid hm5; clear hbx5 hm5 own5 gr5))
                  refine (HSt.out _ HM5.out.below).mono ?_
                  rintro e w6 ⟨rfl, hb6⟩
                  rw [show stepV S.at' (.ok t) = .tuple #[.int .i64 t, .int .i64 0] from rfl]
                  go_wp2_with fail
                  go_roundg (G - 1)
                  case measure => omega
                  case rel => exact ⟨k + 1, _, _, by omega, by go_num, (by first | rfl | exact congrArg (Value.int .i64) htl.symm), HNX.out, Lib.hid (HM5.out.next hb6)⟩
        · have f58 : ((cl.toNat : Int) == 58) = false := by
            simp only [beq_eq_false_iff_ne, ne_eq]
            intro hh
            exact c58 (UInt8.toNat_inj.1 (by simp; omega))
          have hrm : remD (x :: r) = x :: r := by unfold remD; exact if_neg (by show ¬ x.getLast? = some 58; rw [HGL.out]; intro e; exact c58 (Option.some.inj e))
          have HRM := Lib.hid hrm
          have HLN := HLN0
          have dd : decide ((0 : Int) < (r.length : Int) + 1) = true := decide_eq_true (by omega)
          clear hrm c58 HGL
          go_wp2_with fail
          go_quiet (fail)
          have HLN2 := Lib.hid (fun (W : World) (hb : Below w.heap.size w W) => LnOk.below HLN.out hb)
          have HRm := Lib.hid (show remD (x :: r) = x :: r from HRM.out)
          have hvl : (x :: r).length ≤ 10000 := by have := HLW.out; simpa using this
          have HSt := Lib.hid (fun (W : World) (hb : Below w.heap.size w W) => stepR_c (some ⟨blk, off, none⟩) (cap) (x :: r) S.at' W (HLN2.out W hb) (by simp) hvl HI.out.ok.a0 HI.out.ok.a1)
          have z1 : (0 : Int) < ((x :: r).length : Int) := by first | (simp; done) | (simp; omega)
          by_cases hz1_ : x = wOrg
          · have hz := hz1_
            have e_org : (x == ([46, 111, 114, 103] : List UInt8)) = true := by rw [hz]; decide
            have e_space : (x == ([46, 115, 112, 97, 99, 101] : List UInt8)) = false := by rw [hz]; decide
            have e_align : (x == ([46, 97, 108, 105, 103, 110] : List UInt8)) = false := by rw [hz]; decide
            obtain ⟨t, hst, ht0, ht1, hnx⟩ := HI.out.dir (by omega) HWS.out HWO.out (by rw [HRm.out]; simp) (by rw [HRm.out]; show dirW x = true; rw [hz]; decide)
            rw [HRm.out] at hst
            have HNX := Lib.hid hnx
            rw [hst] at HSt
            clear hst hnx hz
            go_wp2_with fail
            refine (HSt.out _ (by first | exact HWr.out.below.trans ((below_drewR (Below.refl _ _) _).mono hsw) | exact below_drewR HWr.out.below _ | exact HWr.out.below.drew | exact HWr.out.below)).mono ?_
            rintro e w3 ⟨rfl, hb3⟩
            rw [show stepV S.at' (.ok t) = .tuple #[.int .i64 t, .int .i64 0] from rfl]
            go_wp2_with fail
            go_roundg (gk - 1)
            case measure => omega
            case rel => exact ⟨k + 1, _, _, by omega, by go_num, rfl, HNX.out, Lib.hid (by
              have hq := ((HWr.out.next (wr' := w3) ((show Below wr.heap.size wr _ by first | exact below_drewR (Below.refl _ _) _ | exact (Below.refl _ _).drew | exact Below.refl _ _).trans (hb3.mono (by simp)))).zeros (t := t.toNat) (by have := HI.out.len; omega) (by omega))
              rw [show t.toNat - S.bytes.length = (t - S.at').toNat by have := HI.out.len; omega] at hq
              exact hq)⟩
          by_cases hz2_ : x = wSpace
          · have hz := hz2_
            have e_space : (x == ([46, 115, 112, 97, 99, 101] : List UInt8)) = true := by rw [hz]; decide
            have e_org : (x == ([46, 111, 114, 103] : List UInt8)) = false := by rw [hz]; decide
            have e_align : (x == ([46, 97, 108, 105, 103, 110] : List UInt8)) = false := by rw [hz]; decide
            obtain ⟨t, hst, ht0, ht1, hnx⟩ := HI.out.dir (by omega) HWS.out HWO.out (by rw [HRm.out]; simp) (by rw [HRm.out]; show dirW x = true; rw [hz]; decide)
            rw [HRm.out] at hst
            have HNX := Lib.hid hnx
            rw [hst] at HSt
            clear hst hnx hz
            go_wp2_with fail
            refine (HSt.out _ (by first | exact HWr.out.below.trans ((below_drewR (Below.refl _ _) _).mono hsw) | exact below_drewR HWr.out.below _ | exact HWr.out.below.drew | exact HWr.out.below)).mono ?_
            rintro e w3 ⟨rfl, hb3⟩
            rw [show stepV S.at' (.ok t) = .tuple #[.int .i64 t, .int .i64 0] from rfl]
            go_wp2_with fail
            go_roundg (gk - 1)
            case measure => omega
            case rel => exact ⟨k + 1, _, _, by omega, by go_num, rfl, HNX.out, Lib.hid (by
              have hq := ((HWr.out.next (wr' := w3) ((show Below wr.heap.size wr _ by first | exact below_drewR (Below.refl _ _) _ | exact (Below.refl _ _).drew | exact Below.refl _ _).trans (hb3.mono (by simp)))).zeros (t := t.toNat) (by have := HI.out.len; omega) (by omega))
              rw [show t.toNat - S.bytes.length = (t - S.at').toNat by have := HI.out.len; omega] at hq
              exact hq)⟩
          by_cases hz3_ : x = wAlign
          · have hz := hz3_
            have e_align : (x == ([46, 97, 108, 105, 103, 110] : List UInt8)) = true := by rw [hz]; decide
            have e_org : (x == ([46, 111, 114, 103] : List UInt8)) = false := by rw [hz]; decide
            have e_space : (x == ([46, 115, 112, 97, 99, 101] : List UInt8)) = false := by rw [hz]; decide
            obtain ⟨t, hst, ht0, ht1, hnx⟩ := HI.out.dir (by omega) HWS.out HWO.out (by rw [HRm.out]; simp) (by rw [HRm.out]; show dirW x = true; rw [hz]; decide)
            rw [HRm.out] at hst
            have HNX := Lib.hid hnx
            rw [hst] at HSt
            clear hst hnx hz
            go_wp2_with fail
            refine (HSt.out _ (by first | exact HWr.out.below.trans ((below_drewR (Below.refl _ _) _).mono hsw) | exact below_drewR HWr.out.below _ | exact HWr.out.below.drew | exact HWr.out.below)).mono ?_
            rintro e w3 ⟨rfl, hb3⟩
            rw [show stepV S.at' (.ok t) = .tuple #[.int .i64 t, .int .i64 0] from rfl]
            go_wp2_with fail
            go_roundg (gk - 1)
            case measure => omega
            case rel => exact ⟨k + 1, _, _, by omega, by go_num, rfl, HNX.out, Lib.hid (by
              have hq := ((HWr.out.next (wr' := w3) ((show Below wr.heap.size wr _ by first | exact below_drewR (Below.refl _ _) _ | exact (Below.refl _ _).drew | exact Below.refl _ _).trans (hb3.mono (by simp)))).zeros (t := t.toNat) (by have := HI.out.len; omega) (by omega))
              rw [show t.toNat - S.bytes.length = (t - S.at').toNat by have := HI.out.len; omega] at hq
              exact hq)⟩
          have e_org : (x == ([46, 111, 114, 103] : List UInt8)) = false := beq_eq_false_iff_ne.2 hz1_
          have e_space : (x == ([46, 115, 112, 97, 99, 101] : List UInt8)) = false := beq_eq_false_iff_ne.2 hz2_
          have e_align : (x == ([46, 97, 108, 105, 103, 110] : List UInt8)) = false := beq_eq_false_iff_ne.2 hz3_
          have hnd : dirW x = false := by unfold dirW; rw [decide_eq_false hz1_, decide_eq_false hz2_, decide_eq_false hz3_]; rfl
          obtain ⟨t, hst, ht0, ht1, herr, hok⟩ := HI.out.laid (by omega) HWS.out HWO.out (by rw [HRm.out]; simp) (by rw [HRm.out]; exact hnd)
          rw [HRm.out] at hst herr hok
          have HHd := Lib.hid (stepD_head hst)
          have HLa := Lib.hid (fun (W : World) (hb : Below w.heap.size w W) => laidR_c aol capl lb (some ⟨blk, off, none⟩) (cap) (x :: r) S.at' W (HP.out.below hb) hll2 hlc hlm hlb (HLN2.out W hb) (by simp) hvl HI.out.ok.a0 HI.out.ok.a1 (fun h => (HHd.out.2.2.2.1 h).1) (fun h1 h2 h3 => by obtain ⟨op, ho, -⟩ := HHd.out.2.2.2.2 hnd h1 h2 h3; exact ⟨op, ho⟩))
          rw [hst] at HSt
          have HER := Lib.hid herr
          have HOK := Lib.hid hok
          clear hst herr hok hz1_ hz2_ hz3_
          go_wp2_with fail
          refine (HLa.out _ (by first | exact HWr.out.below.trans ((below_drewR (Below.refl _ _) _).mono hsw) | exact below_drewR HWr.out.below _ | exact HWr.out.below.drew | exact HWr.out.below)).mono ?_
          rintro e w3 ⟨hb3, hr⟩
          have HW3 := Lib.hid (HWr.out.next (wr' := w3) ((show Below wr.heap.size wr _ by first | exact below_drewR (Below.refl _ _) _ | exact (Below.refl _ _).drew | exact Below.refl _ _).trans (hb3.mono (by simp))))
          have hb3r : wr.heap.size ≤ w3.heap.size := by have := hb3.size; simpa using this
          obtain ⟨kb0, kb1, kb2, kr0, kr1, kr2⟩ := HW3.out.cells
          obtain ⟨fb, fr⟩ := HW3.out.frozen
          have hlt3 := HW3.out.lt
          cases hla : laidD lb (x :: r) S.at' with
          | error er =>
            rw [hla] at hr
            obtain rfl := hr
            obtain ⟨hRe, her⟩ := HER.out er hla
            have hne : (er != 0) = true := by simpa using her
            have HRE := Lib.hid hRe
            have hrs := HW3.out.res
            have hB3 := HW3.out.below
            clear HER HOK hla hRe her
            have hlt4 : w.heap.size + 1 < w3.heap.size := by omega
            go_wp2_with fail
            have hz := (row_setR (row_setR (row_setR hrs 0 (.slice none 0 0)) 1 (.slice none 0 0)) 2 (.slice none 0 0))
            have q0 := (cell_of_row _ _ 0 _ _ _ hz).trans rfl
            have q1 := (cell_of_row _ _ 1 _ _ _ hz).trans rfl
            have q2 := (cell_of_row _ _ 2 _ _ _ hz).trans rfl
            refine bodyPost_ret (v := .tuple #[.agg zPrR, .int .i64 ((k : Int) + 1), .int .i64 er]) (by simp [results, Tryz.results16, go_sem, q0, q1, q2]) rfl ?_
            rw [HRE.out]
            exact ⟨((hB3.setCell (p := ⟨w.heap.size + 1, 0, none⟩) (Nat.le_succ _) _).setCell (p := ⟨w.heap.size + 1, 1, none⟩) (Nat.le_succ _) _).setCell (p := ⟨w.heap.size + 1, 2, none⟩) (Nat.le_succ _) _, rfl⟩
          | ok b =>
            rw [hla] at hr
            obtain ⟨v, rfl, hown⟩ := hr
            obtain ⟨av, cv, rfl⟩ := own_sliceA hown
            obtain ⟨htl, hnx⟩ := HOK.out b hla
            have HNX := Lib.hid hnx
            have HOB := Lib.hid (own_lowR (base' := wr.heap.size) (by simp) hown)
            have hbl : b.length ≤ sz := by have := HI.out.ok.a0; omega
            clear HER HOK hla hnx hown
            obtain ⟨G, hG⟩ : ∃ G, G = gk := ⟨_, rfl⟩
            rw [← hG] at hk
            obtain ⟨nb, hnb⟩ : ∃ n, n = wr.heap.size := ⟨_, rfl⟩
            rw [← hnb] at HOB hb3r hlt
            have HW3' := HW3
            go_wp2_with fail
            go_loopg [14] b.length (fun gk v14 wq => ∃ j : Nat, gk + j = b.length ∧ v14 = .int .i64 (j : Int) ∧ Hid (AgW w sz (.slice aol lb.length capl) (S.bytes ++ b.take j) S.marks (.slice aM S.marks.length cM) wq) ∧ Hid (wq.ownsRow nb 5 1 (.slice av b.length cv) b.length (b.map (Value.int .u8))) ∧ nb ≤ wq.heap.size)
            case atStart => exact ⟨0, by omega, rfl, Lib.hid (by simpa using HW3.out), HOB, hb3r⟩
            case round =>
              obtain ⟨j, hj, rfl, HQ, HOQ, hsq⟩ := hrel
              obtain ⟨qb0, qb1, qb2, qr0, qr1, qr2⟩ := HQ.out.cells
              obtain ⟨fqb, fqr⟩ := HQ.out.frozen
              have hltq := HQ.out.lt
              by_cases c3 : j < b.length
              · have i3 : (j : Int) < (b.length : Int) := by omega
                obtain ⟨gb, cb, hav, hcb, hgb, hcl, hgl, -⟩ := own_some1A HOQ.out (by omega)
                cases hav
                obtain ⟨u, hu⟩ : ∃ u, b[j]? = some u := ⟨_, List.getElem?_eq_getElem c3⟩
                have hcu := hcl j (.int .u8 u) (by rw [List.getElem?_map, hu]; rfl)
                obtain ⟨q, hq⟩ : ∃ q, q = S.bytes.length + j := ⟨_, rfl⟩
                have hbj : (S.bytes ++ b.take j).length = q := by rw [hq]; simp; omega
                have hin : q < sz := by have := HI.out.len; omega
                have HPut := Lib.hid (HQ.out.drew.put u (by rw [hbj]; exact hin))
                rw [hbj] at HPut
                have HTk := Lib.hid (show (S.bytes ++ b.take j) ++ [u] = S.bytes ++ b.take (j + 1) by rw [List.append_assoc, List.take_add_one, hu]; rfl)
                have hwr : IntKind.i64.wrap (S.at' + (j : Int)) = (q : Int) := by rw [show S.at' + (j : Int) = (q : Int) by have := HI.out.len; omega]; exact IntWalk.i64_in _ ⟨by omega, by omega⟩
                have hin2 : (q : Int) < (sz : Int) := by omega
                have hfz : wr.frozen? ⟨w.heap.size + 1 + 1, q, none⟩ = false := HQ.out.by'.frozenAt _
                obtain ⟨x0, hx0⟩ : ∃ x, wr.cell? ⟨w.heap.size + 1 + 1, q, none⟩ = some x := by
                  have h1 := HQ.out.by'.cellAt (j := q) (by omega)
                  exact ⟨_, h1.trans (List.getElem?_eq_getElem (by rw [List.length_map, List.length_append, hbj, List.length_replicate]; omega))⟩
                clear hbj hq
                clear hu hcl
                go_wp2_with fail
                refine wp_region_held_drew (S := fun w' => w'.cell? ⟨w.heap.size, 0, none⟩ = some (.slice (some ⟨w.heap.size + 1 + 1, 0, none⟩) sz sz) ∧ w'.cell? ⟨gb, j, none⟩ = some (.int .u8 u)) (by kernel_rfl) (by refine ⟨?_, ?_⟩ <;> go_simp) (fun hHeld => ?_)
                refine wpAnyH_take (i := 0) (oi := ⟨some 84, Op.fieldAddr _ (Operand.tmp 3) 0, _, _, _, none⟩) (v := .pointer (some ⟨w.heap.size, 0, none⟩)) rfl (by kernel_rfl) (by kernel_rfl) (by kernel_rfl) (fun _ _ _ h => h) (Or.inl ⟨by rfl, ?_⟩) hHeld ?_
                · intro w' hSw
                  skip
                  go_simp
                try simp only [Act.put, List.setIfInBounds_toArray, List.set_cons_zero, List.set_cons_succ]
                refine wpAnyH_take (i := 1) (oi := ⟨some 85, Op.load _ (Operand.tmp 84), _, _, _, none⟩) (v := .slice (some ⟨w.heap.size + 1 + 1, 0, none⟩) sz sz) rfl (by kernel_rfl) (by kernel_rfl) (by kernel_rfl) (fun _ _ _ h => h) (Or.inl ⟨by rfl, ?_⟩) hHeld ?_
                · intro w' hSw
                  have k0 := hSw.1
                  go_simp
                try simp only [Act.put, List.setIfInBounds_toArray, List.set_cons_zero, List.set_cons_succ]
                refine wpAnyH_take (i := 2) (oi := ⟨some 86, Op.move (Operand.tmp 9), _, _, _, none⟩) (v := .int .i64 S.at') rfl (by kernel_rfl) (by kernel_rfl) (by kernel_rfl) (fun _ _ _ h => h) (Or.inl ⟨by rfl, ?_⟩) hHeld ?_
                · intro w' hSw
                  skip
                  go_simp
                try simp only [Act.put, List.setIfInBounds_toArray, List.set_cons_zero, List.set_cons_succ]
                refine wpAnyH_take (i := 3) (oi := ⟨some 87, Op.move (Operand.tmp 14), _, _, _, none⟩) (v := .int .i64 (j : Int)) rfl (by kernel_rfl) (by kernel_rfl) (by kernel_rfl) (fun _ _ _ h => h) (Or.inl ⟨by rfl, ?_⟩) hHeld ?_
                · intro w' hSw
                  skip
                  go_simp
                try simp only [Act.put, List.setIfInBounds_toArray, List.set_cons_zero, List.set_cons_succ]
                refine wpAnyH_take (i := 4) (oi := ⟨some 88, Op.binOp BinOp.add _ (Operand.tmp 86) (Operand.tmp 87) _, _, _, _, none⟩) (v := .int .i64 (q : Int)) rfl (by kernel_rfl) (by kernel_rfl) (by kernel_rfl) (fun _ _ _ h => h) (Or.inl ⟨by rfl, ?_⟩) hHeld ?_
                · intro w' hSw
                  skip
                  go_simp
                try simp only [Act.put, List.setIfInBounds_toArray, List.set_cons_zero, List.set_cons_succ]
                refine wpAnyH_take (i := 5) (oi := ⟨some 89, Op.move (Operand.tmp 12), _, _, _, none⟩) (v := .slice (some ⟨gb, 0, none⟩) b.length cv) rfl (by kernel_rfl) (by kernel_rfl) (by kernel_rfl) (fun _ _ _ h => h) (Or.inl ⟨by rfl, ?_⟩) hHeld ?_
                · intro w' hSw
                  skip
                  go_simp
                try simp only [Act.put, List.setIfInBounds_toArray, List.set_cons_zero, List.set_cons_succ]
                refine wpAnyH_take (i := 6) (oi := ⟨some 90, Op.move (Operand.tmp 14), _, _, _, none⟩) (v := .int .i64 (j : Int)) rfl (by kernel_rfl) (by kernel_rfl) (by kernel_rfl) (fun _ _ _ h => h) (Or.inl ⟨by rfl, ?_⟩) hHeld ?_
                · intro w' hSw
                  skip
                  go_simp
                try simp only [Act.put, List.setIfInBounds_toArray, List.set_cons_zero, List.set_cons_succ]
                refine wpAnyH_take (i := 7) (oi := ⟨some 91, Op.indexAddr _ (Operand.tmp 89) (Operand.tmp 90), _, _, _, none⟩) (v := .pointer (some ⟨gb, j, none⟩)) rfl (by kernel_rfl) (by kernel_rfl) (by kernel_rfl) (fun _ _ _ h => h) (Or.inl ⟨by rfl, ?_⟩) hHeld ?_
                · intro w' hSw
                  skip
                  go_simp
                try simp only [Act.put, List.setIfInBounds_toArray, List.set_cons_zero, List.set_cons_succ]
                refine wpAnyH_take (i := 8) (oi := ⟨some 92, Op.load _ (Operand.tmp 91), _, _, _, none⟩) (v := .int .u8 u) rfl (by kernel_rfl) (by kernel_rfl) (by kernel_rfl) (fun _ _ _ h => h) (Or.inl ⟨by rfl, ?_⟩) hHeld ?_
                · intro w' hSw
                  have k0 := hSw.2
                  go_simp
                try simp only [Act.put, List.setIfInBounds_toArray, List.set_cons_zero, List.set_cons_succ]
                refine wpAnyH_take (i := 9) (oi := ⟨some 93, Op.indexAddr _ (Operand.tmp 85) (Operand.tmp 88), _, _, _, none⟩) (v := .pointer (some ⟨w.heap.size + 1 + 1, q, none⟩)) rfl (by kernel_rfl) (by kernel_rfl) (by kernel_rfl) (fun _ _ _ h => h) (Or.inl ⟨by rfl, ?_⟩) hHeld ?_
                · intro w' hSw
                  skip
                  go_simp
                try simp only [Act.put, List.setIfInBounds_toArray, List.set_cons_zero, List.set_cons_succ]
                refine wpAnyH_ready (rs := [10]) (by kernel_rfl) (by simp) ?_
                refine AllReadyH.cons (o := ⟨none, Op.store _ (Operand.tmp 93) (Operand.tmp 92), _, _, _, none⟩) rfl (fun K hK => ?_) AllReadyH.nil
                go_simp
                refine hK.out _ _ ⟨(World.cell?_of_block (a := ⟨w.heap.size, 0, none⟩) (Below.heap_setCell _ ⟨w.heap.size + 1 + 1, q, none⟩ _ w.heap.size (by show w.heap.size ≠ w.heap.size + 1 + 1; omega))).trans hHeld.1, (World.cell?_of_block (a := ⟨gb, j, none⟩) (Below.heap_setCell _ ⟨w.heap.size + 1 + 1, q, none⟩ _ gb (by show gb ≠ w.heap.size + 1 + 1; omega))).trans hHeld.2⟩ (fun hHeld => ?_)
                clear hK K
                try simp only [Act.put, List.setIfInBounds_toArray, List.set_cons_zero, List.set_cons_succ]
                refine wpAnyH_done (by kernel_rfl) ?_ _
                go_wp2_with fail
                go_roundg (gk - 1)
                case measure => omega
                case rel => exact ⟨j + 1, by omega, by go_num, Lib.hid (by rw [← HTk.out]; exact HPut.out), Lib.hid (ownsRow_setCell_below (own_keepA HOQ.out (fun g cur hg => rfl)) (a := ⟨w.heap.size + 1 + 1, q, none⟩) (by show w.heap.size + 1 + 1 < nb; omega) _), by simpa [World.setCell] using hsq⟩
              · have i3 : ¬ (j : Int) < (b.length : Int) := by omega
                have hbt : b.take j = b := List.take_of_length_le (by omega)
                rw [hbt] at HQ
                have hml := HI.out.ok.ml
                clear hbt
                go_wp2_with (first | (at_builtin; refine wpList_append_own _ rfl _ _ 32 rfl w.heap.size 64 r0 _ 2 16 Tryz.underlying32 hr hy0 hy1 hy2 rfl (by decide) _ _ _ rfl (HQ.out.mrk.alloc _) _ 1 1 (mrkA (S.at', (k : Int) + 1)) rfl rfl (cells_newA _ _ _ _ rfl) (by simp [mrkA, Value.oneCell']) (by unfold maxLen; omega) (by omega) (by first | (simp; done) | (simp; omega)) ?_; intro v5 w5 own5 gr5 _; obtain ⟨a5, c5, rfl⟩ := own_sliceA own5; obtain ⟨hbx5, hm5⟩ := HQ.out.mark (ms' := S.marks ++ [(S.at', (k : Int) + 1)]) gr5 (by simpa using own5); have kb5 := (cell_of_row w5 w.heap.size 2 _ _ _ hbx5).trans rfl; have fb5 := frozen_of_row w5 w.heap.size 2 _ _ hbx5; have HM5 := Lib.hid hm5; clear hbx5 hm5 own5 gr5))
                refine (HSt.out _ HM5.out.below).mono ?_
                rintro e w6 ⟨rfl, hb6⟩
                rw [show stepV S.at' (.ok t) = .tuple #[.int .i64 t, .int .i64 0] from rfl]
                go_wp2_with fail
                go_roundg (G - 1)
                case measure => omega
                case rel => exact ⟨k + 1, _, _, by omega, by go_num, (by first | rfl | exact congrArg (Value.int .i64) htl.symm), HNX.out, Lib.hid (HM5.out.next hb6)⟩
    · have i1 : ¬ (k : Int) < (ls.length : Int) := by omega
      obtain ⟨hR, hat⟩ := HI.out.fin (by omega)
      have HR2 := Lib.hid hR
      have hbs : S.bytes.length = sz := by have := HI.out.len; omega
      have hby := HWr.out.by'
      rw [hbs, Nat.sub_self, List.replicate_zero, List.append_nil] at hby
      have hmk := HWr.out.mrk
      have hrs := HWr.out.res
      have hB := HWr.out.below
      clear hR
      go_wp2_with fail
      have hz := (row_setR (row_setR (row_setR hrs 0 (.slice (some ⟨w.heap.size + 1 + 1, 0, none⟩) sz sz)) 1 (.slice aol lb.length capl)) 2 (.slice aM S.marks.length cM))
      have q0 := (cell_of_row _ _ 0 _ _ _ hz).trans rfl
      have q1 := (cell_of_row _ _ 1 _ _ _ hz).trans rfl
      have q2 := (cell_of_row _ _ 2 _ _ _ hz).trans rfl
      refine bodyPost_ret (v := .tuple #[.agg #[.slice (some ⟨w.heap.size + 1 + 1, 0, none⟩) sz sz, .slice aol lb.length capl, .slice aM S.marks.length cM], .int .i64 0, .int .i64 0]) (by simp [results, Tryz.results16, go_sem, q0, q1, q2]) rfl ?_
      rw [HR2.out]
      have hk3 : ∀ (j : Nat) (u : Value) (W : World) (g : Nat), g ≠ w.heap.size + 1 → (W.setCell ⟨w.heap.size + 1, j, none⟩ u).heap[g]? = W.heap[g]? := fun j u W g hg => Below.heap_setCell W ⟨w.heap.size + 1, j, none⟩ u g hg
      have hkk : ∀ {e s n : Nat} {v : Value} {ys : List Value}, wr.ownsRow w.heap.size e s v n ys → e ≠ 34 → (((wr.setCell ⟨w.heap.size + 1, 0, none⟩ (.slice (some ⟨w.heap.size + 1 + 1, 0, none⟩) sz sz)).setCell ⟨w.heap.size + 1, 1, none⟩ (.slice aol lb.length capl)).setCell ⟨w.heap.size + 1, 2, none⟩ (.slice aM S.marks.length cM)).ownsRow w.heap.size e s v n ys := fun {e s n v ys} h he => own_keepA h (fun g cur hg => by
        have hne : g ≠ w.heap.size + 1 := fun e2 => by rw [e2, hrs] at hg; cases hg; exact he rfl
        rw [hk3 _ _ _ g hne, hk3 _ _ _ g hne, hk3 _ _ _ g hne])
      exact ⟨((hB.setCell (p := ⟨w.heap.size + 1, 0, none⟩) (Nat.le_succ _) _).setCell (p := ⟨w.heap.size + 1, 1, none⟩) (Nat.le_succ _) _).setCell (p := ⟨w.heap.size + 1, 2, none⟩) (Nat.le_succ _) _, HI.out.lbs, _, _, rfl, by rw [hbs]; exact hkk hby (by decide), hkk hmk (by decide)⟩
end Go.Proofs.YtgfljokamgbcaaaGreatDoor
