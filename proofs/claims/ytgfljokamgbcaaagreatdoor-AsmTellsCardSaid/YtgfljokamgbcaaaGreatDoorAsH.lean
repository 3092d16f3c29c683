/- The walks of asm's bytes and words. -/
import Derived.Test.YtgfljokamgbcaaaGreatDoorAsG
import Derived.Test.YtgfljokamgbcaaaGreatDoorAsF
import Derived.OwnWalk
namespace Go.Proofs.YtgfljokamgbcaaaGreatDoor
open Go.RowKit
set_option linter.unusedSimpArgs false
set_option linter.unusedVariables false
set_option maxRecDepth 100000

theorem heap_alloc_old' {w : World} {o x : Obj} {k : Nat} (h : w.heap[k]? = some x) : (w.alloc o).heap[k]? = some x := (heap_alloc_old w o (heap_ltA h)).trans h
theorem lay_m (base wk pb ob : Nat) (again : Bool) (S : St) (n : Int) (ao : Option Addr) (len cap : Nat) (vb : Value) (bs : List Int) (w w1 : World) (h : AsOk base wk pb ob again S w) (hb : Below w.heap.size w w1) (ho : w1.ownsRow w.heap.size 5 1 vb bs.length (bs.map (Value.int .u8))) (b1 : 1 ≤ bs.length) (b2 : bs.length ≤ 100000) :
    Calls Tryz.prog 59 #[.pointer (some ⟨wk, 0, none⟩), lnV n ao len cap, vb] w1 (MetP base wk pb ob again (layF again S n bs) w) := by
  obtain ⟨vB, vL, vM, hF⟩ := h.is
  obtain ⟨gb, cb, rfl, hcb, hgb, hcells, hbg, -⟩ := own_some1A ho (by omega)
  have hne : ∀ k, k < w.heap.size → gb ≠ k := fun k hk e => by omega
  refine (layA_c base wk pb ob again S S.labels vB vL vM n ao len cap gb cb bs w1 (hF.below hb) (Nat.le_trans h.hs hb.size) hcb hgb hcells (fun hk2 => ?_) (hne _ hF.lt) b1 b2 h.a0 h.a1 h.bl h.ml rfl).mono ?_
  · obtain ⟨cur, hc⟩ := own_blkA hF.bs hk2
    exact hne _ (heap_ltA hc) rfl
  · rintro e w' hm
    exact hm.pre hb h.hs
theorem lay_t (base wk pb ob : Nat) (again : Bool) (S : St) (n : Int) (ao : Option Addr) (len cap gb cb : Nat) (bs : List Int) (w w1 : World) (h : AsOk base wk pb ob again S w) (hb : Below w.heap.size w w1) (hcb : bs.length ≤ cb) (hgb : gb < w1.heap.size) (hg2 : w.heap.size ≤ gb) (hcells : ∀ j u, (bs.map (Value.int .u8))[j]? = some u → w1.cell? ⟨gb, j, none⟩ = some u) (b1 : 1 ≤ bs.length) (b2 : bs.length ≤ 100000) :
    Calls Tryz.prog 59 #[.pointer (some ⟨wk, 0, none⟩), lnV n ao len cap, .slice (some ⟨gb, 0, none⟩) bs.length cb] w1 (MetP base wk pb ob again (layF again S n bs) w) := by
  obtain ⟨vB, vL, vM, hF⟩ := h.is
  have hne : ∀ k, k < w.heap.size → gb ≠ k := fun k hk e => by omega
  refine (layA_c base wk pb ob again S S.labels vB vL vM n ao len cap gb cb bs w1 (hF.below hb) (Nat.le_trans h.hs hb.size) hcb hgb hcells (fun hk2 => ?_) (hne _ hF.lt) b1 b2 h.a0 h.a1 h.bl h.ml rfl).mono ?_
  · obtain ⟨cur, hc⟩ := own_blkA hF.bs hk2
    exact hne _ (heap_ltA hc) rfl
  · rintro e w' hm
    exact hm.pre hb h.hs

/-- What has been made, ahead of the rest. -/
def preB (done : List Int) (R : Except Int (List Int)) : Except Int (List Int) := match R with
  | .error e => .error e
  | .ok l => .ok (done ++ l)
def badB (again : Bool) (x : Wd) : Prop := again = true ∧ ((numberF x).2 = false ∨ (numberF x).1 < 0 ∨ 255 < (numberF x).1)
theorem bytes_stop {again : Bool} {ws : List Wd} {k : Nat} {x : Wd} {done : List Int} (h : ws[k]? = some x) (hb : badB again x) : preB done (bytesF again (ws.drop k)) = .error 41 := by
  obtain ⟨hlt, rfl⟩ := List.getElem?_eq_some_iff.1 h
  unfold badB at hb
  rw [List.drop_eq_getElem_cons hlt, bytesF, if_pos hb]
  rfl
theorem bytes_on {again : Bool} {ws : List Wd} {k : Nat} {x : Wd} {done : List Int} (h : ws[k]? = some x) (hb : ¬ badB again x) : preB done (bytesF again (ws.drop k)) = preB (done ++ [(numberF x).1 % 256]) (bytesF again (ws.drop (k + 1))) := by
  obtain ⟨hlt, rfl⟩ := List.getElem?_eq_some_iff.1 h
  unfold badB at hb
  rw [List.drop_eq_getElem_cons hlt, bytesF, if_neg hb]
  cases bytesF again (ws.drop (k + 1)) <;> simp [preB]
theorem bytes_end {again : Bool} {ws : List Wd} {k : Nat} {done : List Int} (h : ws.length ≤ k) : preB done (bytesF again (ws.drop k)) = .ok done := by
  rw [List.drop_eq_nil_iff.2 h]
  simp [bytesF, preB]

def byteF (again : Bool) (S : St) (n : Int) (ws : List Wd) : Except Int St := if ws.length < 2 then .error 312 else match bytesF again ws.tail with | .error e => .error e | .ok b => layF again S n b
set_option maxHeartbeats 8000000 in
theorem bytes_c (base wk pb ob : Nat) (again : Bool) (S : St) (n : Int) (ao : Option Addr) (cap : Nat) (ws : List Wd) (w : World) (h : AsOk base wk pb ob again S w) (hl : LnOk w ao ws cap) (hwl : ws.length ≤ 10000) :
    Calls Tryz.prog 50 #[.pointer (some ⟨wk, 0, none⟩), lnV n ao ws.length cap] w (MetP base wk pb ob again (byteF again S n ws) w) := by
  obtain ⟨i0, hi, hz0, hz1, hz2⟩ := info_parts Isa.Tryz.infoB
  have hG0 := give_c
  have HG := Lib.hid hG0
  clear hG0
  have hs := h.hs
  have HA := Lib.hid h
  have HL := Lib.hid hl
  have hcap := hl.cap
  have hle := hl.le
  obtain ⟨RR, hRR⟩ : ∃ RR, byteF again S n ws = RR := ⟨_, rfl⟩
  rw [hRR]
  unfold byteF at hRR
  have HR := Lib.hid hRR
  clear hRR
  by_cases c1 : ws.length < 2
  · obtain rfl : RR = .error 312 := by rw [← HR.out]; exact if_pos c1
    have d1 : (ws.length : Int) < 2 := by omega
    unfold lnV
    clear HR
    go_enter Tryz.func50, Tryz.ntmps50
    go_wp2_with fail
    refine (HG.out _ _).mono ?_
    rintro e w2 ⟨rfl, rfl⟩
    exact ⟨rfl, Fr.of_below ((Below.refl _ _).alloc (Nat.le_refl _) _) hs, rfl⟩
  · have HR2 := Lib.hid (show (match bytesF again ws.tail with | .error e => .error e | .ok b => layF again S n b) = RR by have := HR.out; rwa [if_neg c1] at this)
    clear HR
    obtain ⟨blk, off, rfl, hbk, hcl⟩ : ∃ blk off, ao = some ⟨blk, off, none⟩ ∧ blk < w.heap.size ∧ ∀ i s, ws[i]? = some s → w.cell? ⟨blk, off + i, none⟩ = some (.string ⟨s.toArray⟩) := by
      rcases hl.inn with h' | ⟨blk, off, h1, h2⟩
      · rw [h'] at c1; simp at c1
      · exact ⟨blk, off, h1, World.block_lt_of_cell? w _ (h2 0 ws[0] (List.getElem?_eq_getElem (by omega))), h2⟩
    have HC := Lib.hid hcl
    have HE := Lib.hid hl.each
    obtain ⟨len, hlen⟩ : ∃ len, ws.length = len := ⟨_, rfl⟩
    have d1 : ¬ (len : Int) < 2 := by omega
    have d2 : (1 : Int) ≤ (len : Int) := by omega
    have d3 : (len : Int) ≤ (cap : Int) := by omega
    have HLe := Lib.hid hlen
    have HLY := Lib.hid fun (w1 : World) (vb : Value) (bs : List Int) (hb : Below w.heap.size w w1) (ho : w1.ownsRow w.heap.size 5 1 vb bs.length (bs.map (Value.int .u8))) (b1 : 1 ≤ bs.length) (b2 : bs.length ≤ 100000) => lay_m base wk pb ob again S n (some ⟨blk, off, none⟩) ws.length cap vb bs w w1 h hb ho b1 b2
    rw [hlen] at HLY hle ⊢
    unfold lnV at HLY ⊢
    clear hcl h hl HL
    have hwl2 : len ≤ 10000 := by omega
    clear hlen hwl c1
    go_enter Tryz.func50, Tryz.ntmps50
    go_wp2_with (first | (at_make; refine wpList_make_own _ rfl _ _ 23 rfl w.heap.size 5 i0 (.int .u8 0) 1 Tryz.underlying23 hi hz0 hz1 .i64 .i64 (len : Int) len rfl rfl rfl (by rw [hz2]; omega) (by unfold maxLen; omega) (by simp) ?_; intro w1 hown1 hgr1; have hbx1 : w1.heap[w.heap.size]? = some (.cells #[.int .i64 n, .slice (some ⟨blk, off, none⟩) len cap] 51 (0, 0)) := (hgr1.block _ (by simp) (by simp)).trans (heap_alloc_new w _); have hB1 : Below w.heap.size w w1 := ((Below.refl _ w).alloc (Nat.le_refl _) _).grown hgr1 (by simp) (fun k hk => by cases hk); have hs1 : w.heap.size < w1.heap.size := heap_ltA hbx1; have q0 : w1.cell? ⟨w.heap.size, 0, none⟩ = some (.int .i64 n) := cell_of_row w1 _ 0 _ _ _ hbx1; have q1 : w1.cell? ⟨w.heap.size, 1, none⟩ = some (.slice (some ⟨blk, off, none⟩) len cap) := cell_of_row w1 _ 1 _ _ _ hbx1))
    have HBX1 := Lib.hid hbx1
    have HB1 := Lib.hid hB1
    have HO1 := Lib.hid hown1
    clear hgr1 hbx1 hB1 hown1
    go_loopg [4, 22] (len - 1) (fun gk v4 vk wr => ∃ (k : Nat) (done : List Int), gk + k = len - 1 ∧ vk = .int .i64 (k : Int) ∧ done.length = k ∧ Hid ((match preB done (bytesF again (ws.tail.drop k)) with | .error e => .error e | .ok b => layF again S n b) = RR) ∧ Hid (wr.ownsRow w.heap.size 5 1 v4 done.length (done.map (Value.int .u8))) ∧ Hid (wr.heap[w.heap.size]? = some (.cells #[.int .i64 n, .slice (some ⟨blk, off, none⟩) len cap] 51 (0, 0))) ∧ Hid (Below w.heap.size w wr) ∧ w.heap.size < wr.heap.size)
    case atStart => exact ⟨0, [], rfl, rfl, rfl, Lib.hid (by have := HR2.out; cases hbf : bytesF again ws.tail <;> (rw [hbf] at this; simpa [preB, hbf] using this)), Lib.hid (by simpa using HO1.out), HBX1, HB1, hs1⟩
    case round =>
      obtain ⟨k, done, hk, rfl, hdl, HI, HO, HBX, HB, hsr⟩ := hrel
      have HA2 := Lib.hid (HA.out.below HB.out)
      obtain ⟨-, k1, -, -, hlt⟩ := HA2.out.cell
      have r0 : wr.cell? ⟨w.heap.size, 0, none⟩ = some (.int .i64 n) := cell_of_row wr _ 0 _ _ _ HBX.out
      have r1 : wr.cell? ⟨w.heap.size, 1, none⟩ = some (.slice (some ⟨blk, off, none⟩) len cap) := cell_of_row wr _ 1 _ _ _ HBX.out
      by_cases e1 : k < len - 1
      · have i1 : (k : Int) < (len : Int) - 1 := by omega
        obtain ⟨x, hx⟩ : ∃ x, ws.tail[k]? = some x := ⟨_, List.getElem?_eq_getElem (by rw [List.length_tail, HLe.out]; exact e1)⟩
        have hx2 : ws[k + 1]? = some x := by simpa using hx
        have hc : wr.cell? ⟨blk, off + 1 + k, none⟩ = some (.string ⟨x.toArray⟩) := by
          have h1 := HC.out (k + 1) x hx2
          rw [show off + 1 + k = off + (k + 1) by omega]
          exact (HB.out.cell (p := ⟨blk, off + (k + 1), none⟩) hbk).trans h1
        have hbr : blk < wr.heap.size := by omega
        have hxl : x.length ≤ 10000 := (HE.out x (List.mem_of_getElem? hx2)).2
        have HN := Lib.hid (number_cA x (by omega))
        have HST := Lib.hid (fun hb => bytes_stop (again := again) (done := done) hx hb)
        have HON := Lib.hid (fun hb => bytes_on (again := again) (done := done) hx hb)
        unfold badB at HST HON
        generalize numberF x = nf at HN HST HON
        obtain ⟨v, is⟩ := nf
        simp only at HN HST HON
        clear hx hx2
        go_wp2_with fail
        refine (HN.out _).mono ?_
        rintro e w2 ⟨rfl, hb2⟩
        have HA3 := Lib.hid (HA2.out.below hb2)
        obtain ⟨-, k1', -, -, hlt'⟩ := HA3.out.cell
        have HB2 := Lib.hid (HB.out.trans (hb2.mono (by omega)))
        have HO2 := Lib.hid (own_keepA HO.out (fun g cur hg => hb2.block g (heap_ltA hg)))
        have HBX2 := Lib.hid ((hb2.block _ hsr).trans HBX.out)
        have hs2 : w.heap.size < w2.heap.size := Nat.lt_of_lt_of_le hsr hb2.size
        have hwv : IntKind.u8.wrap v = v % 256 := by simp [IntKind.wrap, IntKind.bits, IntKind.signed]
        clear hb2
        by_cases hbad : again = true ∧ (is = false ∨ v < 0 ∨ 255 < v)
        · obtain rfl : RR = .error 41 := by have := HI.out; rw [HST.out hbad] at this; exact this.symm
          obtain ⟨rfl, hb3⟩ := hbad
          clear HST HON HI
          have fin : Fr base pb w w2 := Fr.of_below HB2.out hs
          cases is
          · go_wp2_with fail
            refine (HG.out _ _).mono ?_
            rintro e w3 ⟨rfl, rfl⟩
            exact ⟨rfl, fin, rfl⟩
          · by_cases f1 : v < 0
            · go_wp2_with fail
              refine (HG.out _ _).mono ?_
              rintro e w3 ⟨rfl, rfl⟩
              exact ⟨rfl, fin, rfl⟩
            · have f2 : 255 < v := by simp at hb3; omega
              go_wp2_with fail
              refine (HG.out _ _).mono ?_
              rintro e w3 ⟨rfl, rfl⟩
              exact ⟨rfl, fin, rfl⟩
        · have HI2 := Lib.hid (show (match preB (done ++ [v % 256]) (bytesF again (ws.tail.drop (k + 1))) with | .error e => .error e | .ok b => layF again S n b) = RR by have := HI.out; rwa [HON.out hbad] at this)
          have hnb : again = false ∨ (again = true ∧ is = true ∧ ¬ v < 0 ∧ ¬ 255 < v) := by
            cases again
            · exact .inl rfl
            · right
              cases is <;> simp at hbad ⊢
              omega
          clear HST HON HI hbad
          rcases hnb with rfl | ⟨rfl, rfl, f1, f2⟩
          all_goals
            go_wp2_with (first | (at_builtin; refine wpList_append_own _ rfl _ _ 23 rfl w.heap.size 5 i0 (.int .u8 0) 1 1 Tryz.underlying23 hi hz0 hz1 hz2 rfl (by decide) _ _ _ rfl (HO2.out.alloc _) _ 1 1 [.int .u8 (v % 256)] rfl rfl (cell_one_new _ _ _) (by simp [Value.oneCell']) (by unfold maxLen; omega) (by omega) (by simp; omega) ?_; intro v4' w4 hown4 hgrow4 _))
            go_roundg (gk - 1)
            case measure => omega
            case rel =>
              obtain ⟨hB4, hs4⟩ := own_nextA HB2.out (by omega) HO2.out hgrow4
              have hx4 : w4.heap[w.heap.size]? = _ := (blk_grownA (HO2.out.alloc _) (heap_alloc_old' HBX2.out) (fun _ => cells_ne (by decide)) hgrow4).trans (heap_alloc_old' HBX2.out)
              exact ⟨k + 1, done ++ [v % 256], by omega, by go_num, by simp; omega, HI2, Lib.hid (by rw [List.length_append, List.map_append]; exact hown4), Lib.hid hx4, Lib.hid hB4, heap_ltA hx4⟩
      · have i1 : ¬ (k : Int) < (len : Int) - 1 := by omega
        have HQ := Lib.hid (show layF again S n done = RR by have := HI.out; rw [bytes_end (by rw [List.length_tail, HLe.out]; omega)] at this; exact this)
        have HY := Lib.hid (HLY.out wr _ done HB.out HO.out (by omega) (by omega))
        rw [HQ.out] at HY
        clear HI HQ HLY
        go_wp2_with fail
        refine HY.out.mono ?_
        rintro e w2 ⟨f1, hm⟩
        rcases RR with er | T
        · obtain rfl := hm
          exact ⟨rfl, f1, rfl⟩
        obtain ⟨rfl, f2⟩ := hm
        go_wp2_with fail
        go_end0
        exact ⟨f1, rfl, f2⟩
end Go.Proofs.YtgfljokamgbcaaaGreatDoor
