/- The walk of 'same': two programs that are one; asm.Assemble as called; the statements' own call. The walk of the document's Assemble. (Written by mkTN.py.) The walk of AsmTells. -/
import Derived.Test.YtgfljokamgbcaaaGreatDoorAsZB
import Derived.Test.YtgfljokamgbcaaaGreatDoorTeE
import Derived.Laws.BytesArg
import Derived.BigQuiet
import Derived.Test.YtgfljokamgbcaaaGreatDoorTeK
namespace Go.Proofs.YtgfljokamgbcaaaGreatDoor
open Go.RowKit
set_option linter.unusedSimpArgs false
set_option linter.unusedVariables false
set_option maxRecDepth 100000

theorem asm_c (L : List UInt8) (hL : L.length ≤ 9223372036854775807) (w : World) (HT : Hid (pTab w)) : Calls Tryz.prog 5 #[.string ⟨L.toArray⟩] w (AsmP (asmF L) w) :=
  (callsIn_wide (n := 9)).1 (asm_in 9 (by omega) L hL w HT)
/-- What lies as an owned row of bytes is, as a string, just these bytes. -/
theorem conv_ownA {w : World} {base n : Nat} {v : Value} {L : List Int} (h : w.ownsRow base 5 1 v n (L.map (Value.int .u8))) :
    (convert 23 9 v).run Tryz.prog w = .ok (.string (strOfNums L)) w := by
  have hl : L.length = n := by have := h.1; simpa using this
  rcases h.2 with ⟨rfl, h2⟩ | ⟨g, cap, cur, rfl, -, -, -⟩
  · have : L = [] := List.eq_nil_of_length_eq_zero (by omega)
    subst this
    rw [run_convert_bytes_nil (w := w) 23 5 Tryz.underlying23 Tryz.underlying5 0 0 9 Tryz.underlying9]
    rfl
  · refine run_convert_bytes_arg w 23 5 Tryz.underlying23 Tryz.underlying5 g 0 n cap L hl (fun i hi => ?_) 9 Tryz.underlying9
    have := h.cellAt i (by omega)
    simp only [Nat.zero_add]
    rw [this]
    simp [List.getElem?_eq_getElem (show i < L.length by omega)]
theorem own_belowA {W w1 : World} {base n s : Nat} {e : TypeId} {v : Value} {xs : List Value} (hb : Below W.heap.size W w1) (h : W.ownsRow base e s v n xs) : w1.ownsRow base e s v n xs :=
  own_keepA h (fun g cur hg => hb.block g (heap_ltA hg))
theorem pTab_onE {w w1 : World} (HT : Hid (pTab w)) (hb : Below w.heap.size w w1) : Hid (pTab w1) := Lib.hid (fun w' h => HT.out w' (hb.trans (h.mono hb.size)))
def wkL : List UInt8 := [115, 116, 97, 114, 116, 58, 32, 108, 100, 105, 32, 114, 49, 32, 116, 101, 120, 116, 32, 32, 32, 59, 32, 119, 104, 101, 114, 101, 32, 105, 116, 32, 98, 101, 103, 105, 110, 115, 10, 32, 32, 32, 32, 32, 32, 32, 106, 109, 112, 32, 115, 116, 97, 114, 116, 10, 116, 101, 120, 116, 58, 32, 32, 46, 116, 101, 120, 116, 32, 97, 95, 98, 124, 10]
def wkB : List Int := [32, 16, 9, 0, 0, 0, 64, 247, 255, 97, 32, 98, 10]
theorem wk_asm : asmF wkL = .ok ⟨13, [([115, 116, 97, 114, 116], 0), ([116, 101, 120, 116], 9)], wkB, [(0, 1), (6, 2), (9, 3)]⟩ := by kernel_rfl
theorem wk_str : strOfNums wkB = ⟨#[32, 16, 9, 0, 0, 0, 64, 247, 255, 97, 32, 98, 10]⟩ := by decide
set_option maxHeartbeats 4000000 in
theorem works31_c (w : World) (HT : Hid (pTab w)) : Calls Tryz.prog 4 #[] w fun e w' => e = .returned (.bool true) ∧ Below w.heap.size w w' := by
  have HA := Lib.hid (asm_c wkL (by decide) w HT)
  rw [wk_asm] at HA
  have hws := wk_str
  go_enter Tryz.func4, Tryz.ntmps4
  go_wp2_with fail
  refine HA.out.mono ?_
  rintro e w1 ⟨hb, vB, vL, vM, rfl, hB, hL, hM⟩
  have hc := fun (W : World) (hW : Below w1.heap.size w1 W) => conv_ownA (own_belowA hW hB)
  rw [hws] at hc
  have k1 := hc (w1.alloc (.cells #[vB, vL, vM] 27)) ((Below.refl _ _).alloc (Nat.le_refl _) _)
  obtain ⟨aB, cB, rfl⟩ := own_sliceA hB
  obtain ⟨aL, cL, rfl⟩ := own_sliceA hL
  obtain ⟨aM, cM, rfl⟩ := own_sliceA hM
  clear hc hB hL hM
  simp only [List.length_cons, List.length_nil, Nat.zero_add, Nat.reduceAdd] at k1
  go_wp2_with fail
  go_ret
  exact ⟨rfl, hb.alloc hb.size _⟩

/-- Pairs at a place. -/
theorem pairs_at {α : Type} {enc : α → List Value} {w : World} {ao : Option Addr} {l : List α} (h : PairsIn enc w ao l) {k : Nat} {p : α} {u v : Value} (hp : l[k]? = some p) (he : enc p = [u, v]) :
    ∃ g, ao = some ⟨g, 0, none⟩ ∧ g < w.heap.size ∧ w.cell? ⟨g, k * 2, none⟩ = some u ∧ w.cell? ⟨g, k * 2 + 1, none⟩ = some v := by
  rcases h with h | ⟨g, h1, h2, h3⟩
  · rw [h] at hp; cases hp
  · exact ⟨g, h1, h2, h3 k p u v hp he⟩
set_option maxHeartbeats 16000000 in
theorem sameR_c (S : St) (b1 b2 : Nat) (vB vL vM uB uL uM : Value) (w : World) (hB : w.ownsRow b1 5 1 vB S.bytes.length (S.bytes.map (Value.int .u8))) (hL : w.ownsRow b1 61 2 vL S.labels.length (S.labels.flatMap labA)) (hM : w.ownsRow b1 63 2 vM S.marks.length (S.marks.flatMap mrkA))
    (gB : w.ownsRow b2 5 1 uB S.bytes.length (S.bytes.map (Value.int .u8))) (gL : w.ownsRow b2 57 2 uL S.labels.length (S.labels.flatMap labA)) (gM : w.ownsRow b2 64 2 uM S.marks.length (S.marks.flatMap mrkA)) :
    Calls Tryz.prog 7 #[.agg #[vB, vL, vM], .agg #[uB, uL, uM]] w fun e w' => e = .returned (.bool true) ∧ Below w.heap.size w w' := by
  obtain ⟨W2, hW2⟩ : ∃ W, W = (w.alloc (.cells #[vB, vL, vM] 27)).alloc (.cells #[uB, uL, uM] 34) := ⟨_, rfl⟩
  have hb2 : Below w.heap.size w W2 := by rw [hW2]; exact ((Below.refl _ _).alloc (Nat.le_refl _) _).alloc (by simp) _
  have hp : W2.heap[w.heap.size]? = some (.cells #[vB, vL, vM] 27 (0, 0)) := by rw [hW2]; exact heap_oldT (heap_newT rfl)
  have hq : W2.heap[w.heap.size + 1]? = some (.cells #[uB, uL, uM] 34 (0, 0)) := by rw [hW2]; exact heap_newT (by simp)
  have k1 := conv_ownA (own_belowA hb2 hB)
  have k2 := conv_ownA (own_belowA hb2 gB)
  generalize strOfNums S.bytes = sb at k1 k2
  obtain ⟨aB, cB, rfl⟩ := own_sliceA hB
  obtain ⟨aL, cL, rfl, hl1, hl2, hPL⟩ := own_pairs (enc := labA) (fun _ => rfl) hL
  obtain ⟨aM, cM, rfl, hm1, hm2, hPM⟩ := own_pairs (enc := mrkA) (fun _ => rfl) hM
  obtain ⟨eB, dB, rfl⟩ := own_sliceA gB
  obtain ⟨eL, dL, rfl, -, -, gPL⟩ := own_pairs (enc := labA) (fun _ => rfl) gL
  obtain ⟨eM, dM, rfl, -, -, gPM⟩ := own_pairs (enc := mrkA) (fun _ => rfl) gM
  have hl : S.labels.length ≤ 9223372036854775807 := by unfold maxLen at hl2; omega
  have hm : S.marks.length ≤ 9223372036854775807 := by unfold maxLen at hm2; omega
  clear hl1 hl2 hm1 hm2
  have HPL := Lib.hid (hPL.below hb2)
  have HPM := Lib.hid (hPM.below hb2)
  have GPL := Lib.hid (gPL.below hb2)
  have GPM := Lib.hid (gPM.below hb2)
  have HP := Lib.hid hp
  have HQ := Lib.hid hq
  have HB2 := Lib.hid hb2
  have hlt : w.heap.size + 1 < W2.heap.size := heap_ltA hq
  clear hPL hPM gPL gPM hB hL hM gB gL gM hp hq hb2
  go_enter Tryz.func7, Tryz.ntmps7
  rw [hW2] at k1 k2
  go_wp2_with fail
  rw [← hW2]
  clear k1 k2 hW2
  go_loopg [5] S.labels.length (fun gk v5 wr => ∃ k : Nat, gk + k = S.labels.length ∧ v5 = .int .i64 (k : Int) ∧ Below W2.heap.size W2 wr)
  case atStart => exact ⟨0, by omega, rfl, Below.refl _ _⟩
  case round =>
    obtain ⟨k, hk, rfl, hBr⟩ := hrel
    have p1 := (cell_of_row wr w.heap.size 1 _ _ _ ((hBr.block _ (by omega)).trans HP.out)).trans rfl
    have q1 := (cell_of_row wr (w.heap.size + 1) 1 _ _ _ ((hBr.block _ (by omega)).trans HQ.out)).trans rfl
    have p2 := (cell_of_row wr w.heap.size 2 _ _ _ ((hBr.block _ (by omega)).trans HP.out)).trans rfl
    have q2 := (cell_of_row wr (w.heap.size + 1) 2 _ _ _ ((hBr.block _ (by omega)).trans HQ.out)).trans rfl
    by_cases c1 : k < S.labels.length
    · have i1 : (k : Int) < (S.labels.length : Int) := by omega
      obtain ⟨p, hp⟩ : ∃ p, S.labels[k]? = some p := ⟨_, List.getElem?_eq_getElem c1⟩
      obtain ⟨g, rfl, hg, y0, y1⟩ := pairs_at (HPL.out.below hBr) hp rfl
      obtain ⟨h, rfl, hh, z0, z1⟩ := pairs_at (GPL.out.below hBr) hp rfl
      clear hp
      go_wp2_with fail
      go_quiet (fail)
      go_wp2_with fail
      go_roundg (gk - 1)
      case measure => omega
      case rel => exact ⟨k + 1, by omega, by go_num, below_drewR hBr _⟩
    · have i1 : ¬ (k : Int) < (S.labels.length : Int) := by omega
      go_wp2_with fail
      go_loopg [6] S.marks.length (fun gk v6 wq => ∃ j : Nat, gk + j = S.marks.length ∧ v6 = .int .i64 (j : Int) ∧ Below W2.heap.size W2 wq)
      case atStart => exact ⟨0, by omega, rfl, hBr⟩
      case round =>
        obtain ⟨j, hj, rfl, hBq⟩ := hrel
        clear p1 q1 p2 q2
        have p2 := (cell_of_row wr w.heap.size 2 _ _ _ ((hBq.block _ (by omega)).trans HP.out)).trans rfl
        have q2 := (cell_of_row wr (w.heap.size + 1) 2 _ _ _ ((hBq.block _ (by omega)).trans HQ.out)).trans rfl
        by_cases c2 : j < S.marks.length
        · have i2 : (j : Int) < (S.marks.length : Int) := by omega
          obtain ⟨p, hp⟩ : ∃ p, S.marks[j]? = some p := ⟨_, List.getElem?_eq_getElem c2⟩
          obtain ⟨g, rfl, hg, y0, y1⟩ := pairs_at (HPM.out.below hBq) hp rfl
          obtain ⟨h, rfl, hh, z0, z1⟩ := pairs_at (GPM.out.below hBq) hp rfl
          clear hp
          go_wp2_with fail
          go_quiet (fail)
          go_wp2_with fail
          go_roundg (gk - 1)
          case measure => omega
          case rel => exact ⟨j + 1, by omega, by go_num, below_drewR hBq _⟩
        · have i2 : ¬ (j : Int) < (S.marks.length : Int) := by omega
          go_wp2_with fail
          go_ret
          exact ⟨rfl, HB2.out.trans (hBq.mono HB2.out.size)⟩
end Go.Proofs.YtgfljokamgbcaaaGreatDoor
namespace Go.Proofs.YtgfljokamgbcaaaGreatDoor
open Go.RowKit
set_option linter.unusedSimpArgs false
set_option linter.unusedVariables false
set_option maxRecDepth 100000

theorem Tryz.infoLbR : (Tryz.prog.info? 57).map (fun i => (i.zero, i.size, i.bytes)) = some (some (Value.agg #[Value.string ⟨#[]⟩, Value.int .i64 0]), 2, 24) := by kernel_rfl
theorem stepD_err {l : List Wd} {a e : Int} (h : stepD l a = .error e) : e ≠ 0 := by
  have hc : ∀ x : Int, (if 4096 < x then Except.error 311 else .ok x : Except Int Int) = .error e → e ≠ 0 := fun x hx => by
    split at hx
    · cases hx; decide
    · cases hx
  unfold stepD at h
  simp only at h
  split at h
  · split at h
    · cases h; decide
    · cases hn : numF (l.getD 1 []) with
      | none => rw [hn] at h; cases h; decide
      | some v =>
        rw [hn] at h
        simp only at h
        split at h
        · cases h; decide
        · split at h
          · split at h
            · cases h; decide
            · exact hc _ h
          · split at h
            · exact hc _ h
            · exact hc _ h
  · split at h
    · split at h
      · cases h; decide
      · exact hc _ h
    · split at h
      · split at h
        · cases h; decide
        · exact hc _ h
      · cases ho : opF (l.headD []) with
        | none => rw [ho] at h; cases h; decide
        | some op => rw [ho] at h; exact hc _ h
/-- What the document's Assemble hands back. -/
def DocP (r : Except (Int × Int) St) (w : World) (e : Ending) (w' : World) : Prop := Below w.heap.size w w' ∧ match r with
  | .ok S => ∃ vB vL vM, e = .returned (.tuple #[.agg #[vB, vL, vM], .int .i64 0, .int .i64 0]) ∧ w'.ownsRow w.heap.size 5 1 vB S.bytes.length (S.bytes.map (Value.int .u8)) ∧ w'.ownsRow w.heap.size 57 2 vL S.labels.length (S.labels.flatMap labA) ∧ w'.ownsRow w.heap.size 64 2 vM S.marks.length (S.marks.flatMap mrkA)
  | .error (ln, er) => e = .returned (.tuple #[.agg zPrR, .int .i64 ln, .int .i64 er])
/-- What comes of the first pass. -/
def tailD (ls : List (List Wd)) : Except (Int × Int) (List (Wd × Int) × Int) → Except (Int × Int) St
  | .error e => .error e
  | .ok (lb, _) => passF true ⟨0, lb, [], []⟩ 0 ls
theorem docF_is (L : List UInt8) : docF L = if 8192 < L.length ∨ 512 < (linesD L).length then .error (0, 3) else tailD (linesD L) (passD [] 0 0 (linesD L)) := by
  unfold docF
  by_cases h : 8192 < L.length ∨ 512 < (linesD L).length
  · rw [if_pos h, if_pos h]
  · rw [if_neg h, if_neg h]
    cases passD [] 0 0 (linesD L) with
    | error e => rfl
    | ok p => rfl
/-- The first pass' blocks. -/
structure PsW (w1 : World) (lb : List (Wd × Int)) (vL : Value) (wr : World) : Prop where
  below : Below w1.heap.size w1 wr
  lt : w1.heap.size < wr.heap.size
  box : wr.heap[w1.heap.size]? = some (.cells #[.slice none 0 0, vL, .slice none 0 0] 34 (0, 0))
  lab : wr.ownsRow w1.heap.size 57 2 vL lb.length (lb.flatMap labA)
theorem PsW.next {w1 lb vL wr wr'} (h : PsW w1 lb vL wr) (hb : Below wr.heap.size wr wr') : PsW w1 lb vL wr' :=
  ⟨h.below.trans (hb.mono h.below.size), Nat.lt_of_lt_of_le h.lt hb.size, (hb.block _ (heap_ltA h.box)).trans h.box, own_keepA h.lab (fun g cur hg => hb.block g (heap_ltA hg))⟩
theorem PsW.label {w1 lb vL wr wm o vL' lb'} (h : PsW w1 lb vL wr) (hg : (wr.alloc o).grownBy wm vL.ownBlock) (hw : wm.ownsRow w1.heap.size 57 2 vL' lb'.length (lb'.flatMap labA)) :
    wm.heap[w1.heap.size]? = some (.cells #[.slice none 0 0, vL, .slice none 0 0] 34 (0, 0)) ∧ PsW w1 lb' vL' (wm.setCell ⟨w1.heap.size, 1, none⟩ vL') := by
  have hbx : wm.heap[w1.heap.size]? = some (.cells #[.slice none 0 0, vL, .slice none 0 0] 34 (0, 0)) :=
    (hg.block _ (by have := h.lt; simp; omega) (row_ne_own h.box (by decide) h.lab)).trans (heap_oldT h.box)
  obtain ⟨hB, hs⟩ := own_nextA h.below (by have := h.lt; omega) h.lab hg
  refine ⟨hbx, hB.setCell (p := ⟨w1.heap.size, 1, none⟩) (Nat.le_refl _) _, by rw [show (wm.setCell ⟨w1.heap.size, 1, none⟩ vL').heap.size = wm.heap.size by simp [World.setCell]]; exact heap_ltA hbx, ?_, ?_⟩
  · rw [heap_setA hbx _ (by simp)]; rfl
  · exact own_keepA hw (fun g cur hgc => Below.heap_setCell wm ⟨w1.heap.size, 1, none⟩ _ g (by
      intro e
      have e : g = w1.heap.size := e
      rw [e, hbx] at hgc
      cases hgc))
theorem linesD_short {L : List UInt8} (hL : L.length ≤ 9000) : ∀ l ∈ linesD L, l.length ≤ 10000 := by
  intro l hl
  have h1 : l ∈ linesF L := by rw [lines_split]; exact List.mem_append_left _ hl
  unfold linesF at h1
  obtain ⟨s, hs, rfl⟩ := List.mem_map.1 h1
  have hcut : ∀ (r cur : List UInt8), (cutGo r cur).length ≤ r.length + 1 := by
    intro r
    induction r with
    | nil => intro cur; unfold cutGo; split <;> simp
    | cons c r ih =>
      intro cur
      unfold cutGo
      split
      · split
        · have := ih []; simp; omega
        · have := ih []; simp; omega
      · have := ih (cur ++ [c]); simp; omega
  have hsp : ∀ (x : UInt8) (l : List UInt8), ∀ s ∈ splitC x l, s.length ≤ l.length := by
    intro x l
    induction l with
    | nil => intro s hs; simp [splitC] at hs; simp [hs]
    | cons c r ih =>
      intro s hs
      rw [splitC] at hs
      split at hs
      · rcases List.mem_cons.1 hs with rfl | h
        · simp
        · have := ih s h; simp; omega
      · cases hr : splitC x r with
        | nil => exact absurd hr (splitC_ne x r)
        | cons a t =>
          rw [hr] at hs ih
          rcases List.mem_cons.1 hs with rfl | h
          · have := ih a List.mem_cons_self; simp; omega
          · have := ih s (List.mem_cons_of_mem _ h); simp; omega
  have h2 := hcut (s.takeWhile (· != 59)) []
  have h3 := hsp 10 L s hs
  have h4 : (s.takeWhile (· != 59)).length ≤ s.length := (List.takeWhile_sublist _).length_le
  show (cutGo (s.takeWhile (· != 59)) []).length ≤ 10000
  omega
theorem ba_dropLast (x : Wd) (m : Nat) (h : x.length = m + 1) : (⟨x.toArray⟩ : ByteArray).extract 0 m = ⟨x.dropLast.toArray⟩ := by
  rw [ba_extract, List.drop_zero, List.dropLast_eq_take, h]
  rfl
set_option maxHeartbeats 32000000 in
theorem docR_c (L : List UInt8) (hL : L.length ≤ 9000) (w : World) : Calls Tryz.prog 6 #[.string ⟨L.toArray⟩] w (DocP (docF L) w) := by
  have HLi := Lib.hid (linesR_c L hL)
  have zL := ba_size L
  obtain ⟨ls, hls⟩ : ∃ ls, ls = linesD L := ⟨_, rfl⟩
  obtain ⟨P, hP⟩ : ∃ P, P = passD [] 0 0 ls := ⟨_, rfl⟩
  obtain ⟨lb0i, hlbi, hbz0, hbz1, hbz2⟩ := info_parts Tryz.infoLbR
  have HWk := Lib.hid (show ∀ l ∈ ls, WOk l from hls ▸ linesD_wok L)
  have HLL := Lib.hid (show ∀ l ∈ ls, l.length ≤ 10000 from hls ▸ linesD_short hL)
  have HDF := Lib.hid (show docF L = if 8192 < L.length ∨ 512 < ls.length then .error (0, 3) else tailD ls P by rw [docF_is, hP, hls])
  rw [← hls] at HLi
  generalize hsL : (⟨L.toArray⟩ : ByteArray) = sL at HLi zL ⊢
  clear hsL
  go_enter Tryz.func6, Tryz.ntmps6
  go_wp2_with fail
  refine (HLi.out _).mono ?_
  rintro e w1 ⟨hb1, vl, xs, rfl, hown, hlsin⟩
  have hw1 : w.heap.size < w1.heap.size := by have := hb1.size; simp at this; omega
  have hBw1 : Below w.heap.size w w1 := Isa.below_box hb1
  have hrs1 := (hb1.block w.heap.size (by simp)).trans (heap_alloc_new w _)
  obtain ⟨al, cl, rfl, hal, ham, hrow⟩ := own_linesR hown
  have HOwn := Lib.hid (own_lowR (base' := w.heap.size) (by simp) hown)
  have HRow := Lib.hid hrow
  have HLS := Lib.hid hlsin
  have HRes := Lib.hid hrs1
  have kr0 := (cell_of_row w1 w.heap.size 0 _ _ _ hrs1).trans rfl
  have fr0 := frozen_of_row w1 w.heap.size 0 _ _ hrs1
  have kr1 := (cell_of_row w1 w.heap.size 1 _ _ _ hrs1).trans rfl
  have fr1 := frozen_of_row w1 w.heap.size 1 _ _ hrs1
  have kr2 := (cell_of_row w1 w.heap.size 2 _ _ _ hrs1).trans rfl
  have fr2 := frozen_of_row w1 w.heap.size 2 _ _ hrs1
  clear hb1 hown hrow hlsin hls
  by_cases cl1 : 8192 < L.length
  · have d1 : (8192 : Int) < (L.length : Int) := by omega
    have HRE := Lib.hid (show docF L = .error (0, 3) by rw [HDF.out, if_pos (.inl cl1)])
    go_wp2_with fail
    have hz := (row_setR (row_setR (row_setR hrs1 0 (.slice none 0 0)) 1 (.slice none 0 0)) 2 (.slice none 0 0))
    have q0 := (cell_of_row _ _ 0 _ _ _ hz).trans rfl
    have q1 := (cell_of_row _ _ 1 _ _ _ hz).trans rfl
    have q2 := (cell_of_row _ _ 2 _ _ _ hz).trans rfl
    refine bodyPost_ret (v := .tuple #[.agg zPrR, .int .i64 (0), .int .i64 (3)]) (by simp [results, Tryz.results6, go_sem, q0, q1, q2]) rfl ?_
    rw [HRE.out]
    exact ⟨((hBw1.setCell (p := ⟨w.heap.size, 0, none⟩) (Nat.le_refl _) _).setCell (p := ⟨w.heap.size, 1, none⟩) (Nat.le_refl _) _).setCell (p := ⟨w.heap.size, 2, none⟩) (Nat.le_refl _) _, rfl⟩
  · have d1 : ¬ (8192 : Int) < (L.length : Int) := by omega
    by_cases cl2 : 512 < ls.length
    · have d2 : (512 : Int) < (ls.length : Int) := by omega
      have HRE := Lib.hid (show docF L = .error (0, 3) by rw [HDF.out, if_pos (.inr cl2)])
      go_wp2_with fail
      have hz := (row_setR (row_setR (row_setR hrs1 0 (.slice none 0 0)) 1 (.slice none 0 0)) 2 (.slice none 0 0))
      have q0 := (cell_of_row _ _ 0 _ _ _ hz).trans rfl
      have q1 := (cell_of_row _ _ 1 _ _ _ hz).trans rfl
      have q2 := (cell_of_row _ _ 2 _ _ _ hz).trans rfl
      refine bodyPost_ret (v := .tuple #[.agg zPrR, .int .i64 (0), .int .i64 (3)]) (by simp [results, Tryz.results6, go_sem, q0, q1, q2]) rfl ?_
      rw [HRE.out]
      exact ⟨((hBw1.setCell (p := ⟨w.heap.size, 0, none⟩) (Nat.le_refl _) _).setCell (p := ⟨w.heap.size, 1, none⟩) (Nat.le_refl _) _).setCell (p := ⟨w.heap.size, 2, none⟩) (Nat.le_refl _) _, rfl⟩
    · have d2 : ¬ (512 : Int) < (ls.length : Int) := by omega
      have HDoc := Lib.hid (show docF L = tailD ls P by rw [HDF.out, if_neg (by omega)])
      have dd1 : decide ((8192 : Int) < (L.length : Int)) = false := decide_eq_false d1
      have dd2 : decide ((512 : Int) < (ls.length : Int)) = false := decide_eq_false d2
      have HP0 := Lib.hid hP
      have HB0 := Lib.hid (show PsW w1 [] (.slice none 0 0) (w1.alloc (.cells zPrR 34)) from
        ⟨(Below.refl _ _).alloc (Nat.le_refl _) _, by simp, heap_newT rfl, ⟨rfl, .inl ⟨rfl, rfl⟩⟩⟩)
      clear HDF hP kr0 kr1 kr2 fr0 fr1 fr2
      go_wp2_with fail
      go_loopg [7, 8] ls.length (fun gk v7 v8 wr => ∃ (k : Nat) (lb : List (Wd × Int)) (a : Int) (vL : Value), gk + k = ls.length ∧ v8 = .int .i64 (k : Int) ∧ v7 = .int .i64 a ∧ 0 ≤ a ∧ a ≤ 4096 ∧ lb.length ≤ k ∧ Hid (∀ p ∈ lb, 0 ≤ p.2 ∧ p.2 ≤ 4096) ∧ Hid (passD lb a (k : Int) (ls.drop k) = P) ∧ Hid (PsW w1 lb vL wr))
      case atStart => exact ⟨0, [], 0, _, by omega, rfl, rfl, by omega, by omega, Nat.le_refl _, Lib.hid (fun p hp => by cases hp), Lib.hid HP0.out.symm, HB0⟩
      case round =>
        obtain ⟨k, lb, a, vL, hk, rfl, rfl, a0, a1, hll, HLB, HPd, HPs⟩ := hrel
        obtain ⟨aol, capl, rfl, hlc, hlm, hPI⟩ := own_pairs (enc := labA) (fun _ => rfl) HPs.out.lab
        have HPI := Lib.hid hPI
        have kb0 := (cell_of_row wr w1.heap.size 0 _ _ _ HPs.out.box).trans rfl
        have kb1 := (cell_of_row wr w1.heap.size 1 _ _ _ HPs.out.box).trans rfl
        have kb2 := (cell_of_row wr w1.heap.size 2 _ _ _ HPs.out.box).trans rfl
        have fb1 := frozen_of_row wr w1.heap.size 1 _ _ HPs.out.box
        have hlt := HPs.out.lt
        have hrs := (HPs.out.below.block w.heap.size hw1).trans HRes.out
        have hwr : w.heap.size < wr.heap.size := by omega
        have hBr := hBw1.trans (HPs.out.below.mono (Nat.le_of_lt hw1))
        clear hPI
        by_cases c1 : k < ls.length
        · have i1 : (k : Int) < (ls.length : Int) := by omega
          obtain ⟨g, rfl, hg, hgc⟩ := HRow.out (by omega)
          obtain ⟨ws, hws⟩ : ∃ ws, ls[k]? = some ws := ⟨_, List.getElem?_eq_getElem c1⟩
          obtain ⟨ao, cap, hx, hln, -⟩ := HLS.out.2 k ws hws
          have hc := (HPs.out.below.cell (p := ⟨g, k, none⟩) hg).trans (hgc k _ hx)
          have hgr : g < wr.heap.size := by omega
          have HWO := Lib.hid (HWk.out ws (List.mem_of_getElem? hws))
          have HLW := Lib.hid (HLL.out ws (List.mem_of_getElem? hws))
          have hpd := HPd.out
          rw [show ls.drop k = ws :: ls.drop (k + 1) by obtain ⟨hlt, h2⟩ := List.getElem?_eq_some_iff.1 hws; rw [List.drop_eq_getElem_cons hlt, h2], passD] at hpd
          have HPL := Lib.hid hpd
          clear hws hx hgc hpd HPd
          rcases ws with _ | ⟨x, r⟩
          · have HPN := Lib.hid (show passD lb a ((k : Int) + 1) (ls.drop (k + 1)) = P by have := HPL.out; rw [if_neg (by simp), if_pos rfl] at this; exact this)
            go_wp2_with fail
            go_quiet (fail)
            go_wp2_with fail
            go_roundg (gk - 1)
            case measure => omega
            case rel => exact ⟨k + 1, lb, a, _, by omega, by go_num, rfl, a0, a1, by omega, HLB, HPN, Lib.hid (HPs.out.next (by first | exact below_drewR (Below.refl _ _) _ | exact (Below.refl _ _).drew | exact Below.refl _ _))⟩
          · have HLN0 := Lib.hid hln
            obtain ⟨blk, off, rfl, hblk, y0w⟩ := wd_at hln.inn (i := 0) rfl
            rw [Nat.add_zero] at y0w
            have y0 := (HPs.out.below.cell (p := ⟨blk, off, none⟩) hblk).trans y0w
            have hbr : blk < wr.heap.size := by omega
            have hcp := hln.cap
            have hle := hln.le
            rw [List.length_cons] at hle
            have hxn := (HWO.out x List.mem_cons_self).1
            obtain ⟨cl2, hgl, hat⟩ := last_at hxn
            obtain ⟨m, hm⟩ : ∃ m, x.length = m + 1 := ⟨x.length - 1, by have := List.length_pos_iff.2 hxn; omega⟩
            rw [show x.length - 1 = m by omega] at hat
            have el := ba_get x m cl2 hat
            have el2 : ∀ h : m < x.length, x[m] = cl2 := fun h => (List.getElem?_eq_some_iff.1 hat).2
            have zx := ba_size x
            rw [hm] at zx
            have hm4 : m ≤ 10000 := by have := (hln.each x List.mem_cons_self).2; omega
            have hwm : IntKind.i64.wrap (m : Int) = (m : Int) := IntWalk.i64_in _ ⟨by omega, by omega⟩
            have HGL := Lib.hid hgl
            have hrl : r.length ≤ 10000 := by have := HLW.out; simp at this; omega
            have j1 : (0 : Int) < (r.length : Int) + 1 := by omega
            have dd0 : decide ((0 : Int) < (r.length : Int) + 1) = true := decide_eq_true (by omega)
            have hdx := ba_dropLast x m hm
            have HDL := Lib.hid (show x.dropLast.length ≤ 100000 by rw [List.length_dropLast, hm]; omega)
            clear hln hgl hat hxn y0w
            by_cases c58 : cl2 = 58
            · have f58 : ((cl2.toNat : Int) == 58) = true := by rw [c58]; rfl
              have HLa := Lib.hid (show (if nameB x.dropLast = false ∨ (findL lb x.dropLast).isSome then Except.error ((k : Int) + 1, 310) else
                  if r = [] then passD (lb ++ [(x.dropLast, a)]) a ((k : Int) + 1) (ls.drop (k + 1)) else
                    match stepD r a with
                    | .error e => .error ((k : Int) + 1, e)
                    | .ok t => passD (lb ++ [(x.dropLast, a)]) t ((k : Int) + 1) (ls.drop (k + 1))) = P by
                have := HPL.out
                rw [if_pos (show ((x :: r).headD []).getLast? = some 58 by show x.getLast? = some 58; rw [HGL.out, c58])] at this
                exact this)
              have HNa := Lib.hid (nameR_c x.dropLast HDL.out)
              have HFi := Lib.hid (fun (W : World) (hb : Below wr.heap.size wr W) => findR_c aol capl lb x.dropLast W (HPI.out.below hb) (by omega) hlc hlm)
              have hdl := HDL.out
              obtain ⟨d, hd⟩ : ∃ d, x.dropLast = d := ⟨_, rfl⟩
              rw [hd] at HLa HNa HFi hdx hdl
              have HD := Lib.hid hd
              have zd := ba_size d
              have j2 : (1 : Int) ≤ (r.length : Int) + 1 := by omega
              have j3 : (r.length : Int) + 1 ≤ (cap : Int) := by omega
              clear c58 HGL HPL hd
              have hm0 : (0 : Int) ≤ (m : Int) := by omega
              go_wp2_with fail
              go_quiet (fail)
              go_wp2_with fail
              go_quiet (fail)
              go_wp2_with fail
              refine (HNa.out _).mono ?_
              rintro e w4 ⟨rfl, hb4⟩
              have HPS4 := Lib.hid ((HPs.out.next (by first | exact below_drewR (Below.refl _ _) _ | exact (Below.refl _ _).drew | exact Below.refl _ _)).next hb4)
              have hw4 : wr.heap.size ≤ w4.heap.size := by have := hb4.size; simpa using this
              have hbw4 : Below wr.heap.size wr w4 := (show Below wr.heap.size wr _ from (by first | exact below_drewR (Below.refl _ _) _ | exact (Below.refl _ _).drew | exact Below.refl _ _)).trans (hb4.mono (by simp))
              have hrs4 := (HPS4.out.below.block w.heap.size hw1).trans HRes.out
              have hB4 := hBw1.trans (HPS4.out.below.mono (Nat.le_of_lt hw1))
              have hlt4 := HPS4.out.lt
              have kc1 := (cell_of_row w4 w1.heap.size 1 _ _ _ HPS4.out.box).trans rfl
              have fc1 := frozen_of_row w4 w1.heap.size 1 _ _ HPS4.out.box
              have kr0 := (cell_of_row w4 w.heap.size 0 _ _ _ hrs4).trans rfl
              have fr0 := frozen_of_row w4 w.heap.size 0 _ _ hrs4
              have kr1 := (cell_of_row w4 w.heap.size 1 _ _ _ hrs4).trans rfl
              have fr1 := frozen_of_row w4 w.heap.size 1 _ _ hrs4
              have kr2 := (cell_of_row w4 w.heap.size 2 _ _ _ hrs4).trans rfl
              have fr2 := frozen_of_row w4 w.heap.size 2 _ _ hrs4
              clear hb4
              cases hnb : nameB d
              · have HPE := Lib.hid (show docF L = .error ((k : Int) + 1, 310) by
                  have := HLa.out
                  rw [if_pos (.inl hnb)] at this
                  rw [HDoc.out, ← this]; rfl)
                clear HLa hnb
                go_wp2_with fail
                have hz := (row_setR (row_setR (row_setR hrs4 0 (.slice none 0 0)) 1 (.slice none 0 0)) 2 (.slice none 0 0))
                have q0 := (cell_of_row _ _ 0 _ _ _ hz).trans rfl
                have q1 := (cell_of_row _ _ 1 _ _ _ hz).trans rfl
                have q2 := (cell_of_row _ _ 2 _ _ _ hz).trans rfl
                refine bodyPost_ret (v := .tuple #[.agg zPrR, .int .i64 ((k : Int) + 1), .int .i64 (310)]) (by simp [results, Tryz.results6, go_sem, q0, q1, q2]) rfl ?_
                rw [HPE.out]
                exact ⟨((hB4.setCell (p := ⟨w.heap.size, 0, none⟩) (Nat.le_refl _) _).setCell (p := ⟨w.heap.size, 1, none⟩) (Nat.le_refl _) _).setCell (p := ⟨w.heap.size, 2, none⟩) (Nat.le_refl _) _, rfl⟩
              · go_wp2_with fail
                refine (HFi.out _ hbw4).mono ?_
                rintro e w5 ⟨rfl, hw5⟩
                have hw5 := hw5.symm
                subst hw5
                cases hfl : findL lb d with
                | some v =>
                  have HPE := Lib.hid (show docF L = .error ((k : Int) + 1, 310) by
                    have := HLa.out
                    rw [if_pos (.inr (by rw [hfl]; rfl))] at this
                    rw [HDoc.out, ← this]; rfl)
                  have hv0 : 0 ≤ v := by
                    obtain ⟨p, hp, rfl⟩ := find_mem hfl
                    exact (HLB.out p hp).1
                  rw [show (some v : Option Int).getD (-1) = v from rfl]
                  clear HLa hnb hfl
                  go_wp2_with fail
                  have hz := (row_setR (row_setR (row_setR hrs4 0 (.slice none 0 0)) 1 (.slice none 0 0)) 2 (.slice none 0 0))
                  have q0 := (cell_of_row _ _ 0 _ _ _ hz).trans rfl
                  have q1 := (cell_of_row _ _ 1 _ _ _ hz).trans rfl
                  have q2 := (cell_of_row _ _ 2 _ _ _ hz).trans rfl
                  refine bodyPost_ret (v := .tuple #[.agg zPrR, .int .i64 ((k : Int) + 1), .int .i64 (310)]) (by simp [results, Tryz.results6, go_sem, q0, q1, q2]) rfl ?_
                  rw [HPE.out]
                  exact ⟨((hB4.setCell (p := ⟨w.heap.size, 0, none⟩) (Nat.le_refl _) _).setCell (p := ⟨w.heap.size, 1, none⟩) (Nat.le_refl _) _).setCell (p := ⟨w.heap.size, 2, none⟩) (Nat.le_refl _) _, rfl⟩
                | none =>
                  have HST0 := Lib.hid (show (if r = [] then passD (lb ++ [(d, a)]) a ((k : Int) + 1) (ls.drop (k + 1)) else
                      match stepD r a with
                      | .error e => .error ((k : Int) + 1, e)
                      | .ok t => passD (lb ++ [(d, a)]) t ((k : Int) + 1) (ls.drop (k + 1))) = P by
                    have := HLa.out
                    rw [if_neg (by rw [hnb, hfl]; simp)] at this
                    exact this)
                  rw [show (none : Option Int).getD (-1) = -1 from rfl]
                  clear HLa hnb hfl
                  rcases r with _ | ⟨z, zr⟩
                  · have HPN := Lib.hid (show passD (lb ++ [(d, a)]) a ((k : Int) + 1) (ls.drop (k + 1)) = P by have := HST0.out; rw [if_pos rfl] at this; exact this)
                    by_cases hcap1 : cap = 1
                    · subst hcap1
                      go_wp2_with (first | (at_builtin; refine wpList_append_own _ rfl _ _ 31 rfl w1.heap.size 57 lb0i _ 2 24 Tryz.underlying31 hlbi hbz0 hbz1 hbz2 rfl (by decide) _ _ _ rfl (HPS4.out.lab.alloc _) _ 1 1 (labA (d, a)) rfl rfl (cells_newA _ _ _ _ rfl) (by simp [labA, Value.oneCell']) (by unfold maxLen; omega) (by omega) (by first | (simp; done) | (simp; omega)) ?_; intro v5 w5 own5 gr5 _; obtain ⟨a5, c5, rfl⟩ := own_sliceA own5; obtain ⟨hbx5, hm5⟩ := HPS4.out.label (lb' := lb ++ [(d, a)]) gr5 (by simpa using own5); have kb5 := (cell_of_row w5 w1.heap.size 1 _ _ _ hbx5).trans rfl; have fb5 := frozen_of_row w5 w1.heap.size 1 _ _ hbx5; have HM5 := Lib.hid hm5; clear hbx5 hm5 own5 gr5))
                      go_roundg (gk - 1)
                      case measure => omega
                      case rel => exact ⟨k + 1, lb ++ [(d, a)], a, _, by omega, by go_num, rfl, a0, a1, by simp; omega, Lib.hid (fun p hp => by rcases List.mem_append.1 hp with h | h; exact HLB.out p h; rw [List.mem_singleton.1 h]; exact ⟨a0, a1⟩), HPN, HM5⟩
                    · have j4 : (1 : Int) < (cap : Int) := by simp at hle; omega
                      go_wp2_with (first | (at_builtin; refine wpList_append_own _ rfl _ _ 31 rfl w1.heap.size 57 lb0i _ 2 24 Tryz.underlying31 hlbi hbz0 hbz1 hbz2 rfl (by decide) _ _ _ rfl (HPS4.out.lab.alloc _) _ 1 1 (labA (d, a)) rfl rfl (cells_newA _ _ _ _ rfl) (by simp [labA, Value.oneCell']) (by unfold maxLen; omega) (by omega) (by first | (simp; done) | (simp; omega)) ?_; intro v5 w5 own5 gr5 _; obtain ⟨a5, c5, rfl⟩ := own_sliceA own5; obtain ⟨hbx5, hm5⟩ := HPS4.out.label (lb' := lb ++ [(d, a)]) gr5 (by simpa using own5); have kb5 := (cell_of_row w5 w1.heap.size 1 _ _ _ hbx5).trans rfl; have fb5 := frozen_of_row w5 w1.heap.size 1 _ _ hbx5; have HM5 := Lib.hid hm5; clear hbx5 hm5 own5 gr5))
                      go_roundg (gk - 1)
                      case measure => omega
                      case rel => exact ⟨k + 1, lb ++ [(d, a)], a, _, by omega, by go_num, rfl, a0, a1, by simp; omega, Lib.hid (fun p hp => by rcases List.mem_append.1 hp with h | h; exact HLB.out p h; rw [List.mem_singleton.1 h]; exact ⟨a0, a1⟩), HPN, HM5⟩
                  · have j4 : (1 : Int) < (cap : Int) := by simp at hle; omega
                    have j5 : 1 < cap := by omega
                    have HLN := Lib.hid (ln_tail HLN0.out j5)
                    have HST := Lib.hid (show (match stepD (z :: zr) a with
                        | .error e => Except.error ((k : Int) + 1, e)
                        | .ok t => passD (lb ++ [(d, a)]) t ((k : Int) + 1) (ls.drop (k + 1))) = P by have := HST0.out; rw [if_neg (by simp)] at this; exact this)
                    clear HST0
                    have HLN2 := Lib.hid (fun (W : World) (hb : Below w1.heap.size w1 W) => LnOk.below HLN.out hb)
                    have hvl : (z :: zr).length ≤ 10000 := by simpa using hrl
                    have HSt := Lib.hid (fun (W : World) (hb : Below w1.heap.size w1 W) => stepR_c (some ⟨blk, off + 1, none⟩) (cap - 1) (z :: zr) a W (HLN2.out W hb) (by simp) hvl a0 a1)
                    have z1 : (0 : Int) < ((z :: zr).length : Int) := by first | (simp; done) | (simp; omega)
                    go_wp2_with (first | (at_builtin; refine wpList_append_own _ rfl _ _ 31 rfl w1.heap.size 57 lb0i _ 2 24 Tryz.underlying31 hlbi hbz0 hbz1 hbz2 rfl (by decide) _ _ _ rfl (HPS4.out.lab.alloc _) _ 1 1 (labA (d, a)) rfl rfl (cells_newA _ _ _ _ rfl) (by simp [labA, Value.oneCell']) (by unfold maxLen; omega) (by omega) (by first | (simp; done) | (simp; omega)) ?_; intro v5 w5 own5 gr5 _; obtain ⟨a5, c5, rfl⟩ := own_sliceA own5; obtain ⟨hbx5, hm5⟩ := HPS4.out.label (lb' := lb ++ [(d, a)]) gr5 (by simpa using own5); have kb5 := (cell_of_row w5 w1.heap.size 1 _ _ _ hbx5).trans rfl; have fb5 := frozen_of_row w5 w1.heap.size 1 _ _ hbx5; have HM5 := Lib.hid hm5; clear hbx5 hm5 own5 gr5))
                    refine (HSt.out _ HM5.out.below).mono ?_
                    rintro e w6 ⟨rfl, hb6⟩
                    have HPS6 := Lib.hid ((HM5.out.next hb6))
                    have hrs6 := (HPS6.out.below.block w.heap.size hw1).trans HRes.out
                    have hB6 := hBw1.trans (HPS6.out.below.mono (Nat.le_of_lt hw1))
                    have kr0 := (cell_of_row w6 w.heap.size 0 _ _ _ hrs6).trans rfl
                    have fr0 := frozen_of_row w6 w.heap.size 0 _ _ hrs6
                    have kr1 := (cell_of_row w6 w.heap.size 1 _ _ _ hrs6).trans rfl
                    have fr1 := frozen_of_row w6 w.heap.size 1 _ _ hrs6
                    have kr2 := (cell_of_row w6 w.heap.size 2 _ _ _ hrs6).trans rfl
                    have fr2 := frozen_of_row w6 w.heap.size 2 _ _ hrs6
                    cases hst : stepD (z :: zr) a with
                    | error er =>
                      have hPe := HST.out
                      rw [hst] at hPe
                      have HPE := Lib.hid (show docF L = .error ((k : Int) + 1, er) by rw [HDoc.out, ← hPe]; rfl)
                      have hne : (er != 0) = true := by have := stepD_err hst; simpa using this
                      rw [show stepV a (.error er) = .tuple #[.int .i64 a, .int .i64 er] from rfl]
                      clear hPe hst HST
                      go_wp2_with fail
                      have hz := (row_setR (row_setR (row_setR hrs6 0 (.slice none 0 0)) 1 (.slice none 0 0)) 2 (.slice none 0 0))
                      have q0 := (cell_of_row _ _ 0 _ _ _ hz).trans rfl
                      have q1 := (cell_of_row _ _ 1 _ _ _ hz).trans rfl
                      have q2 := (cell_of_row _ _ 2 _ _ _ hz).trans rfl
                      refine bodyPost_ret (v := .tuple #[.agg zPrR, .int .i64 ((k : Int) + 1), .int .i64 (er)]) (by simp [results, Tryz.results6, go_sem, q0, q1, q2]) rfl ?_
                      rw [HPE.out]
                      exact ⟨((hB6.setCell (p := ⟨w.heap.size, 0, none⟩) (Nat.le_refl _) _).setCell (p := ⟨w.heap.size, 1, none⟩) (Nat.le_refl _) _).setCell (p := ⟨w.heap.size, 2, none⟩) (Nat.le_refl _) _, rfl⟩
                    | ok t =>
                      have hPe := HST.out
                      rw [hst] at hPe
                      have HPE := Lib.hid (show passD (lb ++ [(d, a)]) t ((k : Int) + 1) (ls.drop (k + 1)) = P from hPe)
                      obtain ⟨t0, t1⟩ := stepD_le a0 hst
                      rw [show stepV a (.ok t) = .tuple #[.int .i64 t, .int .i64 0] from rfl]
                      clear hPe hst HST
                      go_wp2_with fail
                      go_roundg (gk - 1)
                      case measure => omega
                      case rel => exact ⟨k + 1, lb ++ [(d, a)], t, _, by omega, by go_num, rfl, by omega, by omega, by simp; omega, Lib.hid (fun p hp => by rcases List.mem_append.1 hp with h | h; exact HLB.out p h; rw [List.mem_singleton.1 h]; exact ⟨a0, a1⟩), HPE, HPS6⟩
            · have f58 : ((cl2.toNat : Int) == 58) = false := by
                simp only [beq_eq_false_iff_ne, ne_eq]
                intro hh
                exact c58 (UInt8.toNat_inj.1 (by simp; omega))
              have HST := Lib.hid (show (match stepD (x :: r) a with
                  | .error e => Except.error ((k : Int) + 1, e)
                  | .ok t => passD lb t ((k : Int) + 1) (ls.drop (k + 1))) = P by
                have := HPL.out
                rw [if_neg (show ¬ ((x :: r).headD []).getLast? = some 58 by show ¬ x.getLast? = some 58; rw [HGL.out]; intro e; exact c58 (Option.some.inj e)), if_neg (by simp)] at this
                exact this)
              have HLN := HLN0
              clear c58 HGL HPL
              go_wp2_with fail
              go_quiet (fail)
              have HLN2 := Lib.hid (fun (W : World) (hb : Below w1.heap.size w1 W) => LnOk.below HLN.out hb)
              have hvl : (x :: r).length ≤ 10000 := by have := HLW.out; simpa using this
              have HSt := Lib.hid (fun (W : World) (hb : Below w1.heap.size w1 W) => stepR_c (some ⟨blk, off, none⟩) (cap) (x :: r) a W (HLN2.out W hb) (by simp) hvl a0 a1)
              have z1 : (0 : Int) < ((x :: r).length : Int) := by first | (simp; done) | (simp; omega)
              go_wp2_with fail
              refine (HSt.out _ (HPs.out.next (by first | exact below_drewR (Below.refl _ _) _ | exact (Below.refl _ _).drew | exact Below.refl _ _)).below).mono ?_
              rintro e w6 ⟨rfl, hb6⟩
              have HPS6 := Lib.hid (((HPs.out.next (by first | exact below_drewR (Below.refl _ _) _ | exact (Below.refl _ _).drew | exact Below.refl _ _)).next hb6))
              have hrs6 := (HPS6.out.below.block w.heap.size hw1).trans HRes.out
              have hB6 := hBw1.trans (HPS6.out.below.mono (Nat.le_of_lt hw1))
              have kr0 := (cell_of_row w6 w.heap.size 0 _ _ _ hrs6).trans rfl
              have fr0 := frozen_of_row w6 w.heap.size 0 _ _ hrs6
              have kr1 := (cell_of_row w6 w.heap.size 1 _ _ _ hrs6).trans rfl
              have fr1 := frozen_of_row w6 w.heap.size 1 _ _ hrs6
              have kr2 := (cell_of_row w6 w.heap.size 2 _ _ _ hrs6).trans rfl
              have fr2 := frozen_of_row w6 w.heap.size 2 _ _ hrs6
              cases hst : stepD (x :: r) a with
              | error er =>
                have hPe := HST.out
                rw [hst] at hPe
                have HPE := Lib.hid (show docF L = .error ((k : Int) + 1, er) by rw [HDoc.out, ← hPe]; rfl)
                have hne : (er != 0) = true := by have := stepD_err hst; simpa using this
                rw [show stepV a (.error er) = .tuple #[.int .i64 a, .int .i64 er] from rfl]
                clear hPe hst HST
                go_wp2_with fail
                have hz := (row_setR (row_setR (row_setR hrs6 0 (.slice none 0 0)) 1 (.slice none 0 0)) 2 (.slice none 0 0))
                have q0 := (cell_of_row _ _ 0 _ _ _ hz).trans rfl
                have q1 := (cell_of_row _ _ 1 _ _ _ hz).trans rfl
                have q2 := (cell_of_row _ _ 2 _ _ _ hz).trans rfl
                refine bodyPost_ret (v := .tuple #[.agg zPrR, .int .i64 ((k : Int) + 1), .int .i64 (er)]) (by simp [results, Tryz.results6, go_sem, q0, q1, q2]) rfl ?_
                rw [HPE.out]
                exact ⟨((hB6.setCell (p := ⟨w.heap.size, 0, none⟩) (Nat.le_refl _) _).setCell (p := ⟨w.heap.size, 1, none⟩) (Nat.le_refl _) _).setCell (p := ⟨w.heap.size, 2, none⟩) (Nat.le_refl _) _, rfl⟩
              | ok t =>
                have hPe := HST.out
                rw [hst] at hPe
                have HPE := Lib.hid (show passD (lb) t ((k : Int) + 1) (ls.drop (k + 1)) = P from hPe)
                obtain ⟨t0, t1⟩ := stepD_le a0 hst
                rw [show stepV a (.ok t) = .tuple #[.int .i64 t, .int .i64 0] from rfl]
                clear hPe hst HST
                go_wp2_with fail
                go_roundg (gk - 1)
                case measure => omega
                case rel => exact ⟨k + 1, lb, t, _, by omega, by go_num, rfl, by omega, by omega, by omega, HLB, HPE, HPS6⟩
        · have i1 : ¬ (k : Int) < (ls.length : Int) := by omega
          have hpd := HPd.out
          rw [List.drop_eq_nil_iff.2 (by omega), passD] at hpd
          have HDR := Lib.hid (show docF L = passF true ⟨0, lb, [], []⟩ 0 ls by rw [HDoc.out, ← hpd]; rfl)
          obtain ⟨sz, rfl⟩ : ∃ sz : Nat, a = (sz : Int) := ⟨a.toNat, by omega⟩
          have HAg := Lib.hid (againR_c (.slice al ls.length cl) (.slice aol lb.length capl) xs lb sz w.heap.size ls (passF true ⟨0, lb, [], []⟩ 0 ls) wr (own_keepA HOwn.out (fun g cur hg => HPs.out.below.block g (heap_ltA hg))) (HLS.out.keep (Nat.le_of_lt hlt) (fun blk cur hb hc => HPs.out.below.block blk hb)) (own_lowR (Nat.le_of_lt hw1) HPs.out.lab)
            (AgI.start (by rw [← HP0.out]; exact hpd.symm) (by omega) HWk.out) HWk.out (by omega) HLL.out)
          have HLab := Lib.hid (own_lowR (base' := w.heap.size) (Nat.le_of_lt hw1) HPs.out.lab)
          generalize hRg : passF true ⟨0, lb, [], []⟩ 0 ls = R at HAg HDR ⊢
          clear hpd HPd hRg
          go_wp2_with fail
          refine HAg.out.mono ?_
          rintro e w6 ⟨hb6, hr⟩
          have hrs6 := (hb6.block w.heap.size hwr).trans hrs
          have hB6 := hBr.trans (hb6.mono (Nat.le_of_lt hwr))
          have kr0 := (cell_of_row w6 w.heap.size 0 _ _ _ hrs6).trans rfl
          have fr0 := frozen_of_row w6 w.heap.size 0 _ _ hrs6
          have kr1 := (cell_of_row w6 w.heap.size 1 _ _ _ hrs6).trans rfl
          have fr1 := frozen_of_row w6 w.heap.size 1 _ _ hrs6
          have kr2 := (cell_of_row w6 w.heap.size 2 _ _ _ hrs6).trans rfl
          have fr2 := frozen_of_row w6 w.heap.size 2 _ _ hrs6
          cases R with
          | error x =>
            obtain ⟨ln, er⟩ := x
            obtain rfl := hr
            clear HAg
            go_wp2_with fail
            have hz := (row_setR (row_setR (row_setR hrs6 0 (.slice none 0 0)) 1 (.slice none 0 0)) 2 (.slice none 0 0))
            have q0 := (cell_of_row _ _ 0 _ _ _ hz).trans rfl
            have q1 := (cell_of_row _ _ 1 _ _ _ hz).trans rfl
            have q2 := (cell_of_row _ _ 2 _ _ _ hz).trans rfl
            refine bodyPost_ret (v := .tuple #[.agg zPrR, .int .i64 (ln), .int .i64 (er)]) (by simp [results, Tryz.results6, go_sem, q0, q1, q2]) rfl ?_
            rw [HDR.out]
            exact ⟨((hB6.setCell (p := ⟨w.heap.size, 0, none⟩) (Nat.le_refl _) _).setCell (p := ⟨w.heap.size, 1, none⟩) (Nat.le_refl _) _).setCell (p := ⟨w.heap.size, 2, none⟩) (Nat.le_refl _) _, rfl⟩
          | ok S =>
            obtain ⟨hlab, vB, vM, rfl, hB, hM⟩ := hr
            obtain ⟨aB, cB, rfl⟩ := own_sliceA hB
            obtain ⟨aM, cM, rfl⟩ := own_sliceA hM
            have HB := Lib.hid (own_lowR (base' := w.heap.size) (Nat.le_of_lt hwr) hB)
            have HM := Lib.hid (own_lowR (base' := w.heap.size) (Nat.le_of_lt hwr) hM)
            have HL6 := Lib.hid (own_keepA HLab.out (fun g cur hg => hb6.block g (heap_ltA hg)))
            clear HAg hB hM
            go_wp2_with fail
            have hz := (row_setR (row_setR (row_setR hrs6 0 (.slice aB S.bytes.length cB)) 1 (.slice aol lb.length capl)) 2 (.slice aM S.marks.length cM))
            have q0 := (cell_of_row _ _ 0 _ _ _ hz).trans rfl
            have q1 := (cell_of_row _ _ 1 _ _ _ hz).trans rfl
            have q2 := (cell_of_row _ _ 2 _ _ _ hz).trans rfl
            refine bodyPost_ret (v := .tuple #[.agg #[.slice aB S.bytes.length cB, .slice aol lb.length capl, .slice aM S.marks.length cM], .int .i64 0, .int .i64 0]) (by simp [results, Tryz.results6, go_sem, q0, q1, q2]) rfl ?_
            rw [HDR.out]
            have hk3 : ∀ (j : Nat) (u : Value) (W : World) (g : Nat), g ≠ w.heap.size → (W.setCell ⟨w.heap.size, j, none⟩ u).heap[g]? = W.heap[g]? := fun j u W g hg => Below.heap_setCell W ⟨w.heap.size, j, none⟩ u g hg
            have hkk : ∀ {e s n : Nat} {v : Value} {ys : List Value}, w6.ownsRow w.heap.size e s v n ys → e ≠ 34 → (((w6.setCell ⟨w.heap.size, 0, none⟩ (.slice aB S.bytes.length cB)).setCell ⟨w.heap.size, 1, none⟩ (.slice aol lb.length capl)).setCell ⟨w.heap.size, 2, none⟩ (.slice aM S.marks.length cM)).ownsRow w.heap.size e s v n ys := fun {e s n v ys} h he => own_keepA h (fun g cur hg => by
              have hne : g ≠ w.heap.size := fun e2 => by rw [e2, hrs6] at hg; cases hg; exact he rfl
              rw [hk3 _ _ _ g hne, hk3 _ _ _ g hne, hk3 _ _ _ g hne])
            exact ⟨((hB6.setCell (p := ⟨w.heap.size, 0, none⟩) (Nat.le_refl _) _).setCell (p := ⟨w.heap.size, 1, none⟩) (Nat.le_refl _) _).setCell (p := ⟨w.heap.size, 2, none⟩) (Nat.le_refl _) _, _, _, _, rfl, hkk HB.out (by decide), by rw [hlab]; exact hkk HL6.out (by decide), hkk HM.out (by decide)⟩
end Go.Proofs.YtgfljokamgbcaaaGreatDoor
namespace Go.Proofs.YtgfljokamgbcaaaGreatDoor
open Go.RowKit
set_option linter.unusedSimpArgs false
set_option linter.unusedVariables false
set_option maxRecDepth 100000

theorem row_nil (w : World) (base : Nat) (e : TypeId) (size : Nat) : w.ownsRow base e size (.slice none 0 0) 0 [] := ⟨by simp, .inl ⟨rfl, rfl⟩⟩
set_option maxHeartbeats 8000000 in
theorem tells_short (L : List UInt8) (hL : L.length ≤ 9000) (S : St) (ln er : Int) (w : World) (HT : Hid (pTab w))
    (hA : ∀ w, Hid (pTab w) → Calls Tryz.prog 5 #[.string ⟨L.toArray⟩] w fun e w' => Below w.heap.size w w' ∧ ∃ vB vL vM, e = .returned (.tuple #[.agg #[vB, vL, vM], .int .i64 ln, .int .i64 er]) ∧ w'.ownsRow w.heap.size 5 1 vB S.bytes.length (S.bytes.map (Value.int .u8)) ∧ w'.ownsRow w.heap.size 61 2 vL S.labels.length (S.labels.flatMap labA) ∧ w'.ownsRow w.heap.size 63 2 vM S.marks.length (S.marks.flatMap mrkA))
    (hD : ∀ w, Calls Tryz.prog 6 #[.string ⟨L.toArray⟩] w fun e w' => Below w.heap.size w w' ∧ ∃ vB vL vM, e = .returned (.tuple #[.agg #[vB, vL, vM], .int .i64 ln, .int .i64 er]) ∧ w'.ownsRow w.heap.size 5 1 vB S.bytes.length (S.bytes.map (Value.int .u8)) ∧ w'.ownsRow w.heap.size 57 2 vL S.labels.length (S.labels.flatMap labA) ∧ w'.ownsRow w.heap.size 64 2 vM S.marks.length (S.marks.flatMap mrkA)) :
    Calls Tryz.prog 3 #[.string ⟨L.toArray⟩] w fun e w' => e = .returned (.bool true) ∧ Below w.heap.size w w' := by
  have HA := Lib.hid (hA w HT)
  have HD := Lib.hid hD
  have zL := ba_size L
  have d1 : ¬ (9000 : Int) < (L.length : Int) := by omega
  generalize (⟨L.toArray⟩ : ByteArray) = sL at HA HD zL ⊢
  clear hA hD
  go_enter Tryz.func3, Tryz.ntmps3
  go_wp2_with fail
  refine HA.out.mono ?_
  rintro e w1 ⟨hb1, vB, vL, vM, rfl, hB, hLb, hM⟩
  obtain ⟨aB, cB, rfl⟩ := own_sliceA hB
  obtain ⟨aL, cL, rfl⟩ := own_sliceA hLb
  obtain ⟨aM, cM, rfl⟩ := own_sliceA hM
  clear HA
  go_wp2_with fail
  refine (HD.out _).mono ?_
  rintro e w2 ⟨hb2, uB, uL, uM, rfl, gB, gL, gM⟩
  obtain ⟨eB, dB, rfl⟩ := own_sliceA gB
  obtain ⟨eL, dL, rfl⟩ := own_sliceA gL
  obtain ⟨eM, dM, rfl⟩ := own_sliceA gM
  have hb12 : Below w1.heap.size w1 w2 := Isa.below_box hb2
  have hp := (hb2.block w1.heap.size (by simp)).trans (heap_alloc_new w1 _)
  have hs2 : w1.heap.size < w2.heap.size := heap_ltA hp
  have hB2 := hb1.trans (hb12.mono hb1.size)
  have hx : Below w2.heap.size w2 (w2.alloc (.cells #[.slice eB S.bytes.length dB, .slice eL S.labels.length dL, .slice eM S.marks.length dM] 34)) := (Below.refl _ _).alloc (Nat.le_refl _) _
  have HS := Lib.hid (sameR_c S w.heap.size w1.heap.size _ _ _ _ _ _ (w2.alloc (.cells #[.slice eB S.bytes.length dB, .slice eL S.labels.length dL, .slice eM S.marks.length dM] 34)) (own_belowA hx (own_belowA hb12 hB)) (own_belowA hx (own_belowA hb12 hLb)) (own_belowA hx (own_belowA hb12 hM))
    (own_belowA hx (own_lowR (by simp) gB)) (own_belowA hx (own_lowR (by simp) gL)) (own_belowA hx (own_lowR (by simp) gM)))
  have k0 := (cell_of_row w2 w1.heap.size 0 _ _ _ hp).trans rfl
  have k1 := (cell_of_row w2 w1.heap.size 1 _ _ _ hp).trans rfl
  have k2 := (cell_of_row w2 w1.heap.size 2 _ _ _ hp).trans rfl
  clear hB hLb hM gB gL gM hp
  go_wp2_with fail
  refine HS.out.mono ?_
  rintro e w3 ⟨rfl, hb3⟩
  have hB3 := (hB2.alloc hB2.size (.cells #[.slice eB S.bytes.length dB, .slice eL S.labels.length dL, .slice eM S.marks.length dM] 34)).trans (hb3.mono (by have := hB2.size; simp; omega))
  go_wp2_with fail
  refine (works31_c _ (pTab_onE HT hB3)).mono ?_
  rintro e w4 ⟨rfl, hb4⟩
  go_wp2_with fail
  go_ret
  exact ⟨rfl, hB3.trans (hb4.mono hB3.size)⟩
set_option maxHeartbeats 4000000 in
theorem tells_long (L : List UInt8) (hL : 9000 < L.length) (hm : L.length ≤ 9223372036854775807) (w : World) (HT : Hid (pTab w)) :
    Calls Tryz.prog 3 #[.string ⟨L.toArray⟩] w fun e w' => e = .returned (.bool true) ∧ Below w.heap.size w w' := by
  have HW := Lib.hid (works31_c w HT)
  have zL := ba_size L
  have d1 : (9000 : Int) < (L.length : Int) := by omega
  generalize (⟨L.toArray⟩ : ByteArray) = sL at zL ⊢
  go_enter Tryz.func3, Tryz.ntmps3
  go_wp2_with fail
  refine HW.out.mono ?_
  rintro e w1 ⟨rfl, hb1⟩
  go_wp2_with fail
  go_ret
  exact ⟨rfl, hb1⟩
/-- AsmTells answers true. -/
theorem tells_walk (s : ByteArray) (hs : s.size ≤ Go.maxLen) (w : World) (HT : Hid (pTab w)) :
    Calls Tryz.prog 3 #[.string s] w fun e w' => e = .returned (.bool true) ∧ Below w.heap.size w w' := by
  have e : s = ⟨s.data.toList.toArray⟩ := rfl
  have hl : s.data.toList.length ≤ 9223372036854775807 := hs
  rw [e]
  generalize s.data.toList = L at hl ⊢
  by_cases c : L.length ≤ 9000
  · have hA := asm_c L hl
    have hD := docR_c L c
    rw [← asm_doc] at hD
    cases hR : asmF L with
    | error x =>
      obtain ⟨ln, er⟩ := x
      rw [hR] at hA hD
      refine tells_short L c ⟨0, [], [], []⟩ ln er w HT (fun W h => (hA W h).mono ?_) (fun W => (hD W).mono ?_)
      · rintro e w' ⟨hb, rfl⟩
        exact ⟨hb, _, _, _, rfl, row_nil _ _ _ _, row_nil _ _ _ _, row_nil _ _ _ _⟩
      · rintro e w' ⟨hb, rfl⟩
        exact ⟨hb, _, _, _, rfl, row_nil _ _ _ _, row_nil _ _ _ _, row_nil _ _ _ _⟩
    | ok S =>
      rw [hR] at hA hD
      refine tells_short L c S 0 0 w HT (fun W h => (hA W h).mono ?_) (fun W => (hD W).mono ?_)
      · rintro e w' ⟨hb, vB, vL, vM, rfl, h1, h2, h3⟩
        exact ⟨hb, _, _, _, rfl, h1, h2, h3⟩
      · rintro e w' ⟨hb, vB, vL, vM, rfl, h1, h2, h3⟩
        exact ⟨hb, _, _, _, rfl, h1, h2, h3⟩
  · exact tells_long L (by omega) hl w HT
end Go.Proofs.YtgfljokamgbcaaaGreatDoor
