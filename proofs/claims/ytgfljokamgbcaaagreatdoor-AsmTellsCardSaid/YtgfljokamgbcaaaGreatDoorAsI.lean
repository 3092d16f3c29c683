/- The walks of asm's words and text. -/
import Derived.Test.YtgfljokamgbcaaaGreatDoorAsH
import Derived.Laws.IdiomStrings
namespace Go.Proofs.YtgfljokamgbcaaaGreatDoor
open Go.RowKit
set_option linter.unusedSimpArgs false
set_option linter.unusedVariables false
set_option maxRecDepth 100000

theorem value_m (base wk pb ob : Nat) (again : Bool) (S : St) (s : Wd) (w : World) (h : AsOk base wk pb ob again S w) (hne : s ≠ []) (hs : s.length ≤ 100000) :
    Calls Tryz.prog 74 #[.pointer (some ⟨wk, 0, none⟩), .string ⟨s.toArray⟩] w (ValP (valueF again S.labels s) w) := by
  obtain ⟨vB, vL, vM, hF⟩ := h.is
  exact value_cA base wk pb ob again S S.labels vB vL vM s w hF hne hs
theorem words_stop {again : Bool} {lab : List (Wd × Int)} {ws : List Wd} {k : Nat} {x : Wd} {done : List Int} {er : Int} (h : ws[k]? = some x) (hb : valueF again lab x = .error er) : preB done (wordsL again lab (ws.drop k)) = .error er := by
  obtain ⟨hlt, rfl⟩ := List.getElem?_eq_some_iff.1 h
  rw [List.drop_eq_getElem_cons hlt, wordsL, hb]
  rfl
theorem words_on {again : Bool} {lab : List (Wd × Int)} {ws : List Wd} {k : Nat} {x : Wd} {done : List Int} {v : Int} (h : ws[k]? = some x) (hb : valueF again lab x = .ok v) : preB done (wordsL again lab (ws.drop k)) = preB (done ++ le4 v) (wordsL again lab (ws.drop (k + 1))) := by
  obtain ⟨hlt, rfl⟩ := List.getElem?_eq_some_iff.1 h
  rw [List.drop_eq_getElem_cons hlt, wordsL, hb]
  simp only
  cases wordsL again lab (ws.drop (k + 1)) <;> simp [preB]
theorem words_end {again : Bool} {lab : List (Wd × Int)} {ws : List Wd} {k : Nat} {done : List Int} (h : ws.length ≤ k) : preB done (wordsL again lab (ws.drop k)) = .ok done := by
  rw [List.drop_eq_nil_iff.2 h]
  simp [wordsL, preB]

def wordF (again : Bool) (S : St) (n : Int) (ws : List Wd) : Except Int St := if ws.length < 2 then .error 312 else match wordsL again S.labels ws.tail with | .error e => .error e | .ok b => layF again S n b
set_option maxHeartbeats 8000000 in
theorem words_c (base wk pb ob : Nat) (again : Bool) (S : St) (n : Int) (ao : Option Addr) (cap : Nat) (ws : List Wd) (w : World) (h : AsOk base wk pb ob again S w) (hl : LnOk w ao ws cap) (hwl : ws.length ≤ 10000) :
    Calls Tryz.prog 51 #[.pointer (some ⟨wk, 0, none⟩), lnV n ao ws.length cap] w (MetP base wk pb ob again (wordF again S n ws) w) := by
  obtain ⟨i0, hi, hz0, hz1, hz2⟩ := info_parts Isa.Tryz.infoB
  have hG0 := give_c
  have HG := Lib.hid hG0
  clear hG0
  have hs := h.hs
  have HA := Lib.hid h
  have hcap := hl.cap
  have hle := hl.le
  obtain ⟨RR, hRR⟩ : ∃ RR, wordF again S n ws = RR := ⟨_, rfl⟩
  rw [hRR]
  unfold wordF at hRR
  have HR := Lib.hid hRR
  clear hRR
  by_cases c1 : ws.length < 2
  · obtain rfl : RR = .error 312 := by rw [← HR.out]; exact if_pos c1
    have d1 : (ws.length : Int) < 2 := by omega
    unfold lnV
    clear HR
    go_enter Tryz.func51, Tryz.ntmps51
    go_wp2_with fail
    refine (HG.out _ _).mono ?_
    rintro e w2 ⟨rfl, rfl⟩
    exact ⟨rfl, Fr.of_below ((Below.refl _ _).alloc (Nat.le_refl _) _) hs, rfl⟩
  · have HR2 := Lib.hid (show (match wordsL again S.labels ws.tail with | .error e => .error e | .ok b => layF again S n b) = RR by have := HR.out; rwa [if_neg c1] at this)
    clear HR
    obtain ⟨blk, off, rfl, hbk, hcl⟩ : ∃ blk off, ao = some ⟨blk, off, none⟩ ∧ blk < w.heap.size ∧ ∀ i s, ws[i]? = some s → w.cell? ⟨blk, off + i, none⟩ = some (.string ⟨s.toArray⟩) := by
      rcases hl.inn with h' | ⟨blk, off, h1, h2⟩
      · rw [h'] at c1; simp at c1
      · exact ⟨blk, off, h1, World.block_lt_of_cell? w _ (h2 0 ws[0] (List.getElem?_eq_getElem (by omega))), h2⟩
    have HC := Lib.hid hcl
    have HE := Lib.hid hl.each
    obtain ⟨len, hlen⟩ : ∃ len, ws.length = len := ⟨_, rfl⟩
    have d1 : ¬ (len : Int) < 2 := by omega
    have d2 : (1 : Int) ≤ (len : Int) := by omega
    have d3 : (len : Int) ≤ (cap : Int) := by omega
    have HLe := Lib.hid hlen
    have HLY := Lib.hid fun (w1 : World) (vb : Value) (bs : List Int) (hb : Below w.heap.size w w1) (ho : w1.ownsRow w.heap.size 5 1 vb bs.length (bs.map (Value.int .u8))) (b1 : 1 ≤ bs.length) (b2 : bs.length ≤ 100000) => lay_m base wk pb ob again S n (some ⟨blk, off, none⟩) ws.length cap vb bs w w1 h hb ho b1 b2
    rw [hlen] at HLY hle ⊢
    unfold lnV at HLY ⊢
    clear hcl h hl
    have hwl2 : len ≤ 10000 := by omega
    clear hlen hwl c1
    go_enter Tryz.func51, Tryz.ntmps51
    go_wp2_with fail
    go_loopg [4, 17] (len - 1) (fun gk v4 vk wr => ∃ (k : Nat) (done : List Int), gk + k = len - 1 ∧ vk = .int .i64 (k : Int) ∧ done.length = 4 * k ∧ Hid ((match preB done (wordsL again S.labels (ws.tail.drop k)) with | .error e => .error e | .ok b => layF again S n b) = RR) ∧ Hid (wr.ownsRow w.heap.size 5 1 v4 done.length (done.map (Value.int .u8))) ∧ Hid (wr.heap[w.heap.size]? = some (.cells #[.int .i64 n, .slice (some ⟨blk, off, none⟩) len cap] 51 (0, 0))) ∧ Hid (Below w.heap.size w wr) ∧ w.heap.size < wr.heap.size)
    case atStart => exact ⟨0, [], rfl, rfl, rfl, Lib.hid (by have := HR2.out; cases hbf : wordsL again S.labels ws.tail <;> (rw [hbf] at this; simpa [preB, hbf] using this)), Lib.hid ⟨rfl, .inl ⟨rfl, rfl⟩⟩, Lib.hid (heap_alloc_new w _), Lib.hid ((Below.refl _ _).alloc (Nat.le_refl _) _), by simp⟩
    case round =>
      obtain ⟨k, done, hk, rfl, hdl, HI, HO, HBX, HB, hsr⟩ := hrel
      have HA2 := Lib.hid (HA.out.below HB.out)
      have r0 : wr.cell? ⟨w.heap.size, 0, none⟩ = some (.int .i64 n) := cell_of_row wr _ 0 _ _ _ HBX.out
      have r1 : wr.cell? ⟨w.heap.size, 1, none⟩ = some (.slice (some ⟨blk, off, none⟩) len cap) := cell_of_row wr _ 1 _ _ _ HBX.out
      by_cases e1 : k < len - 1
      · have i1 : (k : Int) < (len : Int) - 1 := by omega
        obtain ⟨x, hx⟩ : ∃ x, ws.tail[k]? = some x := ⟨_, List.getElem?_eq_getElem (by rw [List.length_tail, HLe.out]; exact e1)⟩
        have hx2 : ws[k + 1]? = some x := by simpa using hx
        have hc : wr.cell? ⟨blk, off + 1 + k, none⟩ = some (.string ⟨x.toArray⟩) := by
          have h1 := HC.out (k + 1) x hx2
          rw [show off + 1 + k = off + (k + 1) by omega]
          exact (HB.out.cell (p := ⟨blk, off + (k + 1), none⟩) hbk).trans h1
        have hbr : blk < wr.heap.size := by omega
        obtain ⟨hxne, hxl⟩ := HE.out x (List.mem_of_getElem? hx2)
        have HN := Lib.hid (value_m base wk pb ob again S x wr HA2.out hxne (by omega))
        have HST := Lib.hid (fun er hb => words_stop (again := again) (lab := S.labels) (done := done) (er := er) hx hb)
        have HON := Lib.hid (fun v hb => words_on (again := again) (lab := S.labels) (done := done) (v := v) hx hb)
        generalize valueF again S.labels x = nf at HN HST HON
        clear hx hx2 hxne
        go_wp2_with fail
        refine HN.out.mono ?_
        rintro e w2 ⟨hb2, hv⟩
        have HB2 := Lib.hid (HB.out.trans (hb2.mono (by omega)))
        have HO2 := Lib.hid (own_keepA HO.out (fun g cur hg => hb2.block g (heap_ltA hg)))
        have HBX2 := Lib.hid ((hb2.block _ hsr).trans HBX.out)
        have hs2 : w.heap.size < w2.heap.size := Nat.lt_of_lt_of_le hsr hb2.size
        clear hb2
        rcases nf with er | v
        · obtain rfl := hv
          obtain rfl : RR = .error er := by have := HI.out; rw [HST.out er rfl] at this; exact this.symm
          exact ⟨rfl, Fr.of_below HB2.out hs, rfl⟩
        · obtain rfl := hv
          have HI2 := Lib.hid (show (match preB (done ++ le4 v) (wordsL again S.labels (ws.tail.drop (k + 1))) with | .error e => .error e | .ok b => layF again S n b) = RR by have := HI.out; rwa [HON.out v rfl] at this)
          obtain ⟨u, hu⟩ : ∃ u, v % 4294967296 = u := ⟨_, rfl⟩
          have hu0 : 0 ≤ u := by omega
          have hu1 : u < 4294967296 := by omega
          have hwv : IntKind.u32.wrap v = u := by rw [← hu]; simp [IntKind.wrap, IntKind.bits, IntKind.signed]
          have HLE := Lib.hid (show le4 v = [u % 256, u / 256 % 256, u / 65536 % 256, u / 16777216] by unfold le4; rw [hu, show u / 16777216 % 256 = u / 16777216 by omega])
          clear HST HON HI hu
          go_wp2_with (first | (at_builtin; refine wpList_append_own _ rfl _ _ 23 rfl w.heap.size 5 i0 (.int .u8 0) 1 1 Tryz.underlying23 hi hz0 hz1 hz2 rfl (by decide) _ _ _ rfl (HO2.out.alloc _) ⟨w2.heap.size, 0, none⟩ 4 4 [.int .u8 (u % 256), .int .u8 (u / 256 % 256), .int .u8 (u / 65536 % 256), .int .u8 (u / 16777216)] rfl rfl (cells_newA _ _ _ _ rfl) (by simp [Value.oneCell']) (by unfold maxLen; omega) (by omega) (by simp; omega) ?_; intro v4' w4 hown4 hgrow4 _))
          go_roundg (gk - 1)
          case measure => omega
          case rel =>
            obtain ⟨hB4, hs4⟩ := own_nextA HB2.out (by omega) HO2.out hgrow4
            have hx4 : w4.heap[w.heap.size]? = _ := (blk_grownA (HO2.out.alloc _) (heap_alloc_old' HBX2.out) (fun _ => cells_ne (by decide)) hgrow4).trans (heap_alloc_old' HBX2.out)
            exact ⟨k + 1, done ++ le4 v, by omega, by go_num, by rw [List.length_append, HLE.out]; simp; omega, HI2, Lib.hid (by rw [List.length_append, List.map_append, HLE.out]; exact hown4), Lib.hid hx4, Lib.hid hB4, heap_ltA hx4⟩
      · have i1 : ¬ (k : Int) < (len : Int) - 1 := by omega
        have HQ := Lib.hid (show layF again S n done = RR by have := HI.out; rw [words_end (by rw [List.length_tail, HLe.out]; omega)] at this; exact this)
        have HY := Lib.hid (HLY.out wr _ done HB.out HO.out (by omega) (by omega))
        rw [HQ.out] at HY
        clear HI HQ HLY
        go_wp2_with fail
        refine HY.out.mono ?_
        rintro e w2 ⟨f1, hm⟩
        rcases RR with er | T
        · obtain rfl := hm
          exact ⟨rfl, f1, rfl⟩
        obtain ⟨rfl, f2⟩ := hm
        go_wp2_with fail
        go_end0
        exact ⟨f1, rfl, f2⟩

theorem conv_bytes (w : World) (s : Wd) (hs : s.length ≤ 100000) : ∃ (cap : Nat) (cur : Array Value), (convert 9 23 (.string ⟨s.toArray⟩)).run Tryz.prog w = .ok (.slice (some ⟨w.heap.size, 0, none⟩) s.length cap) (w.drew.alloc (.cells cur 5 (cur.size, cur.size + 1))) ∧ s.length ≤ cap ∧ cap ≤ maxLen ∧ cur.size = cap ∧ cur.toList.take s.length = s.map (fun c => Value.int .u8 (c.toNat : Int)) := by
  have hz := ba_size s
  have hge := grownCap_ge w s.length 0 5
  have hle := grownCap_le_maxLen w s.length 0 5 (by unfold maxLen; omega)
  refine ⟨grownCap w s.length 0 5, bytesRow ⟨s.toArray⟩ (grownCap w s.length 0 5), ?_, hge, hle, ?_, ?_⟩
  · have := run_bytes_of_string (P := Tryz.prog) w 9 23 5 ⟨s.toArray⟩ Tryz.underlying9 Tryz.underlying23 Tryz.underlying5
    rw [hz] at this
    exact this
  · unfold bytesRow
    rw [hz]
    simp
    omega
  · unfold bytesRow
    rw [hz]
    simp
def tl1 (c : UInt8) : Int := if c = 95 then 32 else if c = 124 then 10 else (c.toNat : Int)
def textK (s : Wd) (k : Nat) : List Int := (textL s).take k ++ (s.drop k).map fun c => (c.toNat : Int)
theorem textL_len (s : Wd) : (textL s).length = s.length := by simp [textL]
theorem textK_at {s : Wd} {k : Nat} {c : UInt8} (h : s[k]? = some c) : (textK s k)[k]? = some (c.toNat : Int) ∧ (textK s k).set k (tl1 c) = textK s (k + 1) := by
  obtain ⟨hlt, rfl⟩ := List.getElem?_eq_some_iff.1 h
  have hl : ((textL s).take k).length = k := by simp [textL_len]; omega
  unfold textK
  rw [List.drop_eq_getElem_cons hlt]
  constructor
  · rw [List.getElem?_append_right (by omega), hl, Nat.sub_self]
    rfl
  · have : (textL s)[k]? = some (tl1 s[k]) := by unfold textL; rw [List.getElem?_map, h]; rfl
    obtain ⟨h2, h3⟩ := List.getElem?_eq_some_iff.1 this
    rw [List.set_append_right _ _ (by omega), hl, Nat.sub_self, List.take_succ_eq_append_getElem h2, h3, List.append_assoc]
    rfl
theorem textK_zero (s : Wd) : textK s 0 = s.map fun c => (c.toNat : Int) := by simp [textK]
theorem textK_end (s : Wd) : textK s s.length = textL s := by
  unfold textK
  rw [List.take_of_length_le (by rw [textL_len]; exact Nat.le_refl _)]
  simp
theorem heap_setF {w : World} {k i : Nat} {cs : Array Value} {t : TypeId} {fr : Nat × Nat} (h : w.heap[k]? = some (.cells cs t fr)) (v : Value) : (w.setCell ⟨k, i, none⟩ v).heap[k]? = some (.cells (cs.set! i v) t fr) := by
  have hk := heap_ltA h
  have h2 : w.heap[k] = .cells cs t fr := by rw [Array.getElem?_eq_getElem hk] at h; exact Option.some.inj h
  simp [World.setCell, hk, Array.getElem_modify, h2]
theorem take_set {l : List Value} {n k : Nat} {v : Value} : (l.set k v).take n = (l.take n).set k v := by
  rw [List.take_set]

def textF (again : Bool) (S : St) (n : Int) (ws : List Wd) : Except Int St := if ws.length ≠ 2 then .error 312 else layF again S n (textL (ws.getD 1 []))
set_option maxHeartbeats 8000000 in
theorem text_c (base wk pb ob : Nat) (again : Bool) (S : St) (n : Int) (ao : Option Addr) (cap : Nat) (ws : List Wd) (w : World) (h : AsOk base wk pb ob again S w) (hl : LnOk w ao ws cap) :
    Calls Tryz.prog 52 #[.pointer (some ⟨wk, 0, none⟩), lnV n ao ws.length cap] w (MetP base wk pb ob again (textF again S n ws) w) := by
  obtain ⟨i0, hi, hz0, hz1, hz2⟩ := info_parts Isa.Tryz.infoB
  have hG0 := give_c
  have HG := Lib.hid hG0
  clear hG0
  have hs := h.hs
  have HA := Lib.hid h
  obtain ⟨RR, hRR⟩ : ∃ RR, textF again S n ws = RR := ⟨_, rfl⟩
  rw [hRR]
  unfold textF at hRR
  have HR := Lib.hid hRR
  clear hRR
  by_cases c1 : ws.length = 2
  · have HR2 := Lib.hid (show layF again S n (textL (ws.getD 1 [])) = RR by have := HR.out; rwa [if_neg (by omega)] at this)
    clear HR
    obtain ⟨a, s, rfl⟩ : ∃ a s, ws = [a, s] := by
      match ws, c1 with
      | [a, s], _ => exact ⟨a, s, rfl⟩
    have HE := Lib.hid (hl.each s (by simp))
    have hle := hl.le
    have hcap := hl.cap
    obtain ⟨blk, off, rfl, hb, y1⟩ := wd_at hl.inn (i := 1) rfl
    have HLY := Lib.hid fun (w1 : World) (gb cb : Nat) (hb : Below w.heap.size w w1) (hcb : s.length ≤ cb) (hgb : gb < w1.heap.size) (hg2 : w.heap.size ≤ gb) (hc : ∀ j u, ((textL s).map (Value.int .u8))[j]? = some u → w1.cell? ⟨gb, j, none⟩ = some u) => (textL_len s) ▸ lay_t base wk pb ob again S n (some ⟨blk, off, none⟩) 2 cap gb cb (textL s) w w1 h hb (by rw [textL_len]; exact hcb) hgb hg2 hc (by rw [textL_len]; exact List.length_pos_iff.2 HE.out.1) (by rw [textL_len]; have := HE.out.2; omega)
    simp only [List.length_cons, List.length_nil, List.getD_cons_succ, List.getD_cons_zero] at HR2 hle ⊢
    unfold lnV at HLY ⊢
    clear h hl
    obtain ⟨cb, cur0, hcv, hcb1, hcb2, hcur0, htk0⟩ := conv_bytes (w.alloc (.cells #[.int .i64 n, .slice (some ⟨blk, off, none⟩) 2 cap] 51)) s (by have := HE.out.2; omega)
    rw [World.size_alloc] at hcv
    subst hcur0
    have hsl : s.length ≤ 10000 := HE.out.2
    go_enter Tryz.func52, Tryz.ntmps52
    go_wp2_with fail
    have hbx0 := heap_alloc_new w (.cells #[.int .i64 n, .slice (some ⟨blk, off, none⟩) 2 cap] 51)
    have hnw := heap_alloc_new (w.alloc (.cells #[.int .i64 n, .slice (some ⟨blk, off, none⟩) 2 cap] 51)).drew (.cells cur0 5 (cur0.size, cur0.size + 1))
    have hszd : (w.alloc (.cells #[.int .i64 n, .slice (some ⟨blk, off, none⟩) 2 cap] 51)).drew.heap.size = w.heap.size + 1 := by simp
    rw [hszd] at hnw
    have HN0 := Lib.hid hnw
    have HBX0 := Lib.hid hbx0
    have HT0 := Lib.hid htk0
    clear hnw hszd hbx0 htk0 hcv
    go_loopg [19] s.length (fun gk vk wr => ∃ (k : Nat) (cur : Array Value), gk + k = s.length ∧ vk = .int .i64 (k : Int) ∧ Hid (wr.heap[w.heap.size + 1]? = some (.cells cur 5 (cur.size, cur.size + 1))) ∧ Hid (cur.size = cur0.size) ∧ Hid (cur.toList.take s.length = (textK s k).map (Value.int .u8)) ∧ Hid (wr.heap[w.heap.size]? = some (.cells #[.int .i64 n, .slice (some ⟨blk, off, none⟩) 2 cap] 51 (0, 0))) ∧ Hid (Below w.heap.size w wr) ∧ w.heap.size + 1 < wr.heap.size)
    case atStart => exact ⟨0, cur0, rfl, rfl, HN0, Lib.hid rfl, Lib.hid (by rw [textK_zero, List.map_map]; exact HT0.out), Lib.hid (heap_alloc_old' (w := (w.alloc _).drew) HBX0.out), Lib.hid (((Below.refl _ _).alloc (Nat.le_refl _) _).drew.alloc (by simp) _), by simp⟩
    case round =>
      obtain ⟨k, cur, hk, rfl, HC, HCZ, HT, HBX, HB, hsr⟩ := hrel
      by_cases e1 : k < s.length
      · have i1 : (k : Int) < (s.length : Int) := by omega
        obtain ⟨c, hc⟩ : ∃ c, s[k]? = some c := ⟨_, List.getElem?_eq_getElem e1⟩
        obtain ⟨ha1, ha2⟩ := textK_at hc
        have hcell : wr.cell? ⟨w.heap.size + 1, k, none⟩ = some (.int .u8 (c.toNat : Int)) := by
          rw [cell_of_row wr _ k _ _ _ HC.out]
          have h1 : (cur.toList.take s.length)[k]? = some (.int .u8 (c.toNat : Int)) := by rw [HT.out, List.getElem?_map, ha1]; rfl
          rw [List.getElem?_take, if_pos e1] at h1
          simpa using h1
        have hfz : wr.frozen? ⟨w.heap.size + 1, k, none⟩ = false := by
          have := HCZ.out
          simp [World.frozen?, HC.out]
          omega
        have h95 : (c = 95) = ((c.toNat : Int) = 95) := u8_neA (c := c) (k := 95) (by decide)
        have h124 : (c = 124) = ((c.toNat : Int) = 124) := u8_neA (c := c) (k := 124) (by decide)
        have HTL := Lib.hid (show tl1 c = if (c.toNat : Int) = 95 then 32 else if (c.toNat : Int) = 124 then 10 else (c.toNat : Int) by unfold tl1; simp only [h95, h124])
        have HA2 := Lib.hid ha2
        have hcl := u8_ltA c
        have HST : Hid (∀ x : Int, tl1 c = x → ((cur.set! k (.int .u8 x)).toList.take s.length = (textK s (k + 1)).map (Value.int .u8))) := Lib.hid (fun x hx => by
          rw [← ha2, List.map_set, ← HT.out, hx]
          simp [List.take_set])
        have HSAME : Hid (tl1 c = (c.toNat : Int) → cur.toList.take s.length = (textK s (k + 1)).map (Value.int .u8)) := Lib.hid (fun hx => by
          rw [← ha2, List.map_set, ← HT.out, hx]
          have h1 : (cur.toList.take s.length)[k]? = some (.int .u8 (c.toNat : Int)) := by rw [HT.out, List.getElem?_map, ha1]; rfl
          apply List.ext_getElem?
          intro i
          rw [List.getElem?_set]
          split
          · rename_i hik
            subst hik
            rw [h1]
            obtain ⟨h2, -⟩ := List.getElem?_eq_some_iff.1 h1
            simp at h2
            simp [h2]
          · rfl)
        clear hc ha1 ha2 h95 h124
        have hgb : w.heap.size ≤ w.heap.size + 1 := by omega
        by_cases f1 : (c.toNat : Int) = 95
        · have g1 : ((c.toNat : Int) == 95) = true := by simpa using f1
          have HS2 := Lib.hid (HST.out 32 (by rw [HTL.out, if_pos f1]))
          go_wp2_with fail
          go_roundg (gk - 1)
          case measure => omega
          case rel => exact ⟨k + 1, cur.set! k (.int .u8 32), by omega, by go_num, Lib.hid (by have := heap_setF (i := k) HC.out (.int .u8 32); simpa using this), Lib.hid (by simp [HCZ.out]), HS2, Lib.hid ((Below.heap_setCell _ _ _ _ (by simp)).trans HBX.out), Lib.hid (HB.out.setCell (by simp) _), by simpa using hsr⟩
        · have g1 : ((c.toNat : Int) == 95) = false := by simpa using f1
          by_cases f2 : (c.toNat : Int) = 124
          · have g2 : ((c.toNat : Int) == 124) = true := by simpa using f2
            have HS2 := Lib.hid (HST.out 10 (by rw [HTL.out, if_neg f1, if_pos f2]))
            go_wp2_with fail
            go_roundg (gk - 1)
            case measure => omega
            case rel => exact ⟨k + 1, cur.set! k (.int .u8 10), by omega, by go_num, Lib.hid (by have := heap_setF (i := k) HC.out (.int .u8 10); simpa using this), Lib.hid (by simp [HCZ.out]), HS2, Lib.hid ((Below.heap_setCell _ _ _ _ (by simp)).trans HBX.out), Lib.hid (HB.out.setCell (by simp) _), by simpa using hsr⟩
          · have g2 : ((c.toNat : Int) == 124) = false := by simpa using f2
            have HS2 := Lib.hid (HSAME.out (by rw [HTL.out, if_neg f1, if_neg f2]))
            clear hfz
            go_wp2_with fail
            go_roundg (gk - 1)
            case measure => omega
            case rel => exact ⟨k + 1, cur, by omega, by go_num, HC, HCZ, HS2, HBX, HB, hsr⟩
      · have i1 : ¬ (k : Int) < (s.length : Int) := by omega
        obtain rfl : k = s.length := by omega
        have r0 : wr.cell? ⟨w.heap.size, 0, none⟩ = some (.int .i64 n) := cell_of_row wr _ 0 _ _ _ HBX.out
        have r1 : wr.cell? ⟨w.heap.size, 1, none⟩ = some (.slice (some ⟨blk, off, none⟩) 2 cap) := cell_of_row wr _ 1 _ _ _ HBX.out
        have HY := Lib.hid (HLY.out wr (w.heap.size + 1) cur0.size HB.out hcb1 hsr (by omega) (fun j u hu => by
          rw [cell_of_row wr _ j _ _ _ HC.out]
          have h1 := HT.out
          rw [textK_end] at h1
          rw [← h1, List.getElem?_take] at hu
          split at hu
          · simpa using hu
          · cases hu))
        rw [HR2.out] at HY
        clear HLY HR2
        go_wp2_with fail
        refine HY.out.mono ?_
        rintro e w2 ⟨f1, hm⟩
        rcases RR with er | T
        · obtain rfl := hm
          exact ⟨rfl, f1, rfl⟩
        obtain ⟨rfl, f2⟩ := hm
        go_wp2_with fail
        go_end0
        exact ⟨f1, rfl, f2⟩
  · obtain rfl : RR = .error 312 := by rw [← HR.out]; exact if_pos c1
    have d1 : ((ws.length : Int) != 2) = true := by simp; omega
    unfold lnV
    clear HR
    go_enter Tryz.func52, Tryz.ntmps52
    go_wp2_with fail
    refine (HG.out _ _).mono ?_
    rintro e w2 ⟨rfl, rfl⟩
    exact ⟨rfl, Fr.of_below ((Below.refl _ _).alloc (Nat.le_refl _) _) hs, rfl⟩
end Go.Proofs.YtgfljokamgbcaaaGreatDoor
