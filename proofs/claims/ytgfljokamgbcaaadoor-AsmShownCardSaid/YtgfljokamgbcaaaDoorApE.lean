/- asm.Assemble as called; the statements' own call 'works'; the walk of AsmShown. -/
import Derived.Test.YtgfljokamgbcaaaDoorAsZB
import Derived.Test.YtgfljokamgbcaaaDoorApB
import Derived.Laws.BytesArg
namespace Go.Proofs.YtgfljokamgbcaaaDoor
open Go.RowKit
set_option linter.unusedSimpArgs false
set_option linter.unusedVariables false
set_option maxRecDepth 100000

theorem asm_c (L : List UInt8) (hL : L.length ≤ 9223372036854775807) (w : World) (HT : Hid (pTab w)) : Calls Tryd.prog 8 #[.string ⟨L.toArray⟩] w (AsmP (asmF L) w) :=
  (callsIn_wide (n := 9)).1 (asm_in 9 (by omega) L hL w HT)

/-- What lies as an owned row of bytes is, as a string, just these bytes. -/
theorem conv_ownA {w : World} {base n : Nat} {v : Value} {L : List Int} (h : w.ownsRow base 5 1 v n (L.map (Value.int .u8))) :
    (convert 23 9 v).run Tryd.prog w = .ok (.string (strOfNums L)) w := by
  have hl : L.length = n := by have := h.1; simpa using this
  rcases h.2 with ⟨rfl, h2⟩ | ⟨g, cap, cur, rfl, -, -, -⟩
  · have : L = [] := List.eq_nil_of_length_eq_zero (by omega)
    subst this
    rw [run_convert_bytes_nil (w := w) 23 5 Tryd.underlying23 Tryd.underlying5 0 0 9 Tryd.underlying9]
    rfl
  · refine run_convert_bytes_arg w 23 5 Tryd.underlying23 Tryd.underlying5 g 0 n cap L hl (fun i hi => ?_) 9 Tryd.underlying9
    have := h.cellAt i (by omega)
    simp only [Nat.zero_add]
    rw [this]
    simp [List.getElem?_eq_getElem (show i < L.length by omega)]
theorem own_belowA {W w1 : World} {base n s : Nat} {e : TypeId} {v : Value} {xs : List Value} (hb : Below W.heap.size W w1) (h : W.ownsRow base e s v n xs) : w1.ownsRow base e s v n xs :=
  own_keepA h (fun g cur hg => hb.block g (heap_ltA hg))
theorem own_nextE {W w w' : World} {base n size : Nat} {v : Value} {xs : List Value} {e : TypeId} (hB : Below base W w) (hs : base ≤ w.heap.size) (hown : w.ownsRow base e size v n xs) (hg : w.grownBy w' v.ownBlock) : Below base W w' ∧ base ≤ w'.heap.size :=
  ⟨hB.grown hg hs (fun k hk => (hown.lt k hk).1), Nat.le_trans hs hg.size⟩

theorem pTab_onE {w w1 : World} (HT : Hid (pTab w)) (hb : Below w.heap.size w w1) : Hid (pTab w1) := Lib.hid (fun w' h => HT.out w' (hb.trans (h.mono hb.size)))

def wkL : List UInt8 := [115, 116, 97, 114, 116, 58, 32, 108, 100, 105, 32, 114, 49, 32, 116, 101, 120, 116, 32, 32, 32, 59, 32, 119, 104, 101, 114, 101, 32, 105, 116, 32, 98, 101, 103, 105, 110, 115, 10, 32, 32, 32, 32, 32, 32, 32, 106, 109, 112, 32, 115, 116, 97, 114, 116, 10, 116, 101, 120, 116, 58, 32, 32, 46, 116, 101, 120, 116, 32, 97, 95, 98, 124, 10]
def wkB : List Int := [32, 16, 9, 0, 0, 0, 64, 247, 255, 97, 32, 98, 10]
theorem wk_asm : asmF wkL = .ok ⟨13, [([115, 116, 97, 114, 116], 0), ([116, 101, 120, 116], 9)], wkB, [(0, 1), (6, 2), (9, 3)]⟩ := by kernel_rfl
theorem wk_str : strOfNums wkB = ⟨#[32, 16, 9, 0, 0, 0, 64, 247, 255, 97, 32, 98, 10]⟩ := by decide

set_option maxHeartbeats 4000000 in
theorem works31_c (w : World) (HT : Hid (pTab w)) : Calls Tryd.prog 9 #[] w fun e w' => e = .returned (.bool true) ∧ Below w.heap.size w w' := by
  have HA := Lib.hid (asm_c wkL (by decide) w HT)
  rw [wk_asm] at HA
  have hws := wk_str
  go_enter Tryd.func9, Tryd.ntmps9
  go_wp2_with fail
  refine HA.out.mono ?_
  rintro e w1 ⟨hb, vB, vL, vM, rfl, hB, hL, hM⟩
  have hc := fun (W : World) (hW : Below w1.heap.size w1 W) => conv_ownA (own_belowA hW hB)
  rw [hws] at hc
  have k1 := hc (w1.alloc (.cells #[vB, vL, vM] 33)) ((Below.refl _ _).alloc (Nat.le_refl _) _)
  obtain ⟨aB, cB, rfl⟩ := own_sliceA hB
  obtain ⟨aL, cL, rfl⟩ := own_sliceA hL
  obtain ⟨aM, cM, rfl⟩ := own_sliceA hM
  clear hc hB hL hM
  simp only [List.length_cons, List.length_nil, Nat.zero_add, Nat.reduceAdd] at k1
  go_wp2_with fail
  go_ret
  exact ⟨rfl, hb.alloc hb.size _⟩

theorem insT_if (r : InsR) : insT r = if Isa.mayB (Isa.fm r.op false) r.a r.b r.imm = true then showL r.op r.a r.b r.imm ++ [10] else [] := rfl
theorem insE_if (r : InsR) : insE r = if Isa.mayB (Isa.fm r.op false) r.a r.b r.imm = true then Isa.encL (Isa.fm r.op false) r.op r.a r.b r.imm else [] := rfl
set_option maxHeartbeats 8000000 in
theorem shown_walk (ao : Option Addr) (len cap : Nat) (L : List InsR) (w : World) (HT : Hid (pTab w)) (hL : L.length = len) (hl : len ≤ 9223372036854775807) (hI : InssIn w ao L) :
    Calls Tryd.prog 3 #[.slice ao len cap] w fun e w' => e = .returned (.bool true) ∧ Below w.heap.size w w' := by
  obtain ⟨i0, hi, hz0, hz1, hz2⟩ := info_parts Isa.Tryd.infoB
  have HI := Lib.hid hI
  have HL := Lib.hid hL
  have HA := Lib.hid asm_c
  have HW := Lib.hid works31_c
  have HSh := Lib.hid show_c
  clear hI hL
  go_enter Tryd.func3, Tryd.ntmps3
  go_wp2_with fail
  go_loopg [3, 4, 5] (min len 200) (fun gk v3 v4 vk wr => ∃ k : Nat, gk + k = min len 200 ∧ vk = .int .i64 (k : Int) ∧ (∃ s : ByteArray, v3 = .string s ∧ Hid (s = ⟨((L.take k).flatMap insT).toArray⟩) ∧ s.size ≤ 40 * k) ∧
    wr.ownsRow w.heap.size 5 1 v4 ((L.take k).flatMap insE).length (((L.take k).flatMap insE).map (Value.int .u8)) ∧ Below w.heap.size w wr ∧ w.heap.size ≤ wr.heap.size)
  case atStart => exact ⟨0, rfl, rfl, ⟨_, rfl, Lib.hid rfl, Nat.zero_le _⟩, ⟨by simp, .inl ⟨rfl, by simp⟩⟩, Below.refl _ _, Nat.le_refl _⟩
  case round =>
    obtain ⟨k, hk, rfl, ⟨s, rfl, HS, hss⟩, hown, hB, hs⟩ := hrel
    have hnk : ((L.take k).flatMap insE).length ≤ 6 * k := Nat.le_trans (flat_len (fun r => (insE_len r).1) _) (by simp; omega)
    by_cases c1 : k < len ∧ k < 200
    · obtain ⟨c1, c2⟩ := c1
      obtain ⟨r, hr⟩ : ∃ r, L[k]? = some r := ⟨_, List.getElem?_eq_getElem (by rw [HL.out]; exact c1)⟩
      obtain ⟨blk, off, rfl, x0, x1, x2, x3⟩ : ∃ blk off, ao = some ⟨blk, off, none⟩ ∧ w.cell? ⟨blk, off + k * 4, none⟩ = some (.int .u8 r.op) ∧ w.cell? ⟨blk, off + k * 4 + 1, none⟩ = some (.int .u8 r.a) ∧ w.cell? ⟨blk, off + k * 4 + 2, none⟩ = some (.int .u8 r.b) ∧ w.cell? ⟨blk, off + k * 4 + 3, none⟩ = some (.int .i32 r.imm) := by
        rcases HI.out with h | ⟨blk, off, h1, h2⟩
        · rw [h] at hr; cases hr
        · exact ⟨blk, off, h1, h2 k r hr⟩
      have hb0 : blk < w.heap.size := World.block_lt_of_cell? w _ x0
      have y0 := (hB.cell (p := ⟨blk, off + k * 4, none⟩) hb0).trans x0
      have y1 := (hB.cell (p := ⟨blk, off + k * 4 + 1, none⟩) hb0).trans x1
      have y2 := (hB.cell (p := ⟨blk, off + k * 4 + 2, none⟩) hb0).trans x2
      have y3 := (hB.cell (p := ⟨blk, off + k * 4 + 3, none⟩) hb0).trans x3
      have i1 : (k : Int) < (len : Int) := by omega
      have i2 : (k : Int) < 200 := by omega
      have HTk := Lib.hid (show (L.take (k + 1)).flatMap insT = (L.take k).flatMap insT ++ insT r by rw [List.take_add_one, hr]; simp)
      have HEk := Lib.hid (show (L.take (k + 1)).flatMap insE = (L.take k).flatMap insE ++ insE r by rw [List.take_add_one, hr]; simp)
      have hlT := insT_len r
      have hlE := (insE_len r).1
      rw [insT_if r] at HTk hlT
      rw [insE_if r] at HEk hlE
      obtain ⟨ro, ra, rb, ri, q0, q1, q2, q3, q4, q5, q6, q7⟩ := r
      simp only at y0 y1 y2 y3 HTk HEk hlT hlE
      clear x0 x1 x2 x3 hr
      have hbr : blk < wr.heap.size := by omega
      by_cases c3 : Isa.mayB (Isa.fm ro false) ra rb ri = true
      · rw [if_pos c3] at HTk HEk hlT hlE
        have HE := Lib.hid fun w => Isa.encode_yes ro ra rb ri false w q0 q1 q2 q3 q4 q5 q6 q7 c3
        have HX := Lib.hid fun w HT => HSh.out ro ra rb ri w q0 q1 q2 q3 q4 q5 q6 q7 HT
        have hE1 : 0 < (Isa.encL (Isa.fm ro false) ro ra rb ri).length := by unfold Isa.encL; simp
        generalize Isa.encL (Isa.fm ro false) ro ra rb ri = E at HEk HE hlE hE1
        generalize showL ro ra rb ri = X at HTk HX hlT
        have hlX : (⟨X.toArray⟩ : ByteArray).size ≤ 39 := by rw [ba_size]; simp at hlT; omega
        generalize hxs : (⟨X.toArray⟩ : ByteArray) = xs at HX hlX
        have HXs := Lib.hid hxs
        unfold Isa.insV at HE HX
        clear hxs hlT
        go_wp2_with fail
        refine (HE.out _).mono ?_
        rintro e w1 ⟨hb, -, hv⟩
        obtain ⟨v, rfl, hown1⟩ := hv rfl
        clear hv
        have hB1 : Below w.heap.size w w1 := hB.trans (hb.mono hs)
        have z0 := (hb.cell (p := ⟨blk, off + k * 4, none⟩) hbr).trans y0
        have z1 := (hb.cell (p := ⟨blk, off + k * 4 + 1, none⟩) hbr).trans y1
        have z2 := (hb.cell (p := ⟨blk, off + k * 4 + 2, none⟩) hbr).trans y2
        have z3 := (hb.cell (p := ⟨blk, off + k * 4 + 3, none⟩) hbr).trans y3
        have hs1 := hb.size
        have hownA := own_belowA hb hown
        clear hown hB
        go_wp2_with fail
        refine (HX.out _ (pTab_onE HT hB1)).mono ?_
        rintro e w2 ⟨rfl, hb2⟩
        have hownB := own_belowA hb2 hownA
        have hown2 := own_belowA hb2 hown1
        have hB2 : Below w.heap.size w w2 := hB1.trans (hb2.mono (by omega))
        have hs2 : w.heap.size ≤ w2.heap.size := by have := hb2.size; omega
        obtain ⟨g, cp, rfl, hcg, hgl, hcells, -⟩ := own_some1A hown2 hE1
        have HC := Lib.hid hcells
        clear hcells hown2 hown1 hownA hb hb2 hB1 z0 z1 z2 z3 y0 y1 y2 y3
        go_wp2_with (first | (at_builtin; refine wpList_append_own _ rfl _ _ 23 rfl w.heap.size 5 i0 (.int .u8 0) 1 1 Tryd.underlying23 hi hz0 hz1 hz2 rfl (by decide) _ _ _ rfl hownB ⟨g, 0, none⟩ E.length cp (E.map (Value.int .u8)) rfl (by simp) (fun j u hu => by rw [addr0A]; exact HC.out j u hu) (fun u hu => by (obtain ⟨x, -, rfl⟩ := List.mem_map.1 hu; rfl)) (by unfold maxLen; omega) (by omega) hs2 ?_; intro v4' w4 hown4 hgrow4 _))
        go_roundg (gk - 1)
        case measure => omega
        case rel =>
          obtain ⟨hB4, hs4⟩ := own_nextE hB2 hs2 hownB hgrow4
          refine ⟨k + 1, by omega, by go_num, ⟨_, rfl, Lib.hid ?_, ?_⟩, ?_, hB4, hs4⟩
          · rw [HTk.out, HS.out, ← HXs.out]
            apply ByteArray.ext
            simp
          · simp only [ByteArray.size_append]
            have : (⟨#[10]⟩ : ByteArray).size = 1 := rfl
            omega
          · rw [HEk.out, List.map_append, List.length_append]
            exact hown4
      · rw [if_neg c3] at HTk HEk
        have c3 : Isa.mayB (Isa.fm ro false) ra rb ri = false := by simpa using c3
        have HE := Lib.hid fun w => Isa.encode_no ro ra rb ri false w q0 q1 q2 q3 q4 q5 q6 q7 [] c3
        unfold Isa.insV at HE
        clear hlT hlE c3
        go_wp2_with fail
        refine (HE.out _).mono ?_
        rintro e w1 ⟨hb, hv, -⟩
        obtain rfl := hv rfl
        clear hv
        have hB1 : Below w.heap.size w w1 := hB.trans (hb.mono hs)
        have hs1 := hb.size
        have hownA := own_belowA hb hown
        clear hown hB y0 y1 y2 y3
        go_wp2_with fail
        go_roundg (gk - 1)
        case measure => omega
        case rel =>
          refine ⟨k + 1, by omega, by go_num, ⟨_, rfl, Lib.hid ?_, by omega⟩, ?_, hB1, by omega⟩
          · rw [HTk.out, List.append_nil]
            exact HS.out
          · rw [HEk.out, List.append_nil]
            exact hownA
    · obtain ⟨S, hS, hSb⟩ := shown_law (L.take k) (by simp; omega)
      have hsz := ba_size ((L.take k).flatMap insT)
      have HA2 := HA.out ((L.take k).flatMap insT) (by rw [← HS.out] at hsz; omega) wr (pTab_onE HT hB)
      rw [← HS.out, hS] at HA2
      have HA3 := Lib.hid HA2
      generalize hE : (L.take k).flatMap insE = E at hown hSb
      obtain ⟨a4, c4, rfl⟩ := own_sliceA hown
      have HSb := Lib.hid hSb
      clear HA2 hS hSb hE hsz HA HSh hnk
      have key : ∀ (w2 : World) (e : Ending), AsmP (.ok S) wr e w2 → ∃ aB cB nB aL cL nL aM cM nM, e = .returned (.tuple #[.agg #[.slice aB nB cB, .slice aL nL cL, .slice aM nM cM], .int .i64 0, .int .i64 0]) ∧ Below wr.heap.size wr w2 ∧
          (convert 23 9 (.slice aB nB cB)).run Tryd.prog (w2.alloc (.cells #[.slice aB nB cB, .slice aL nL cL, .slice aM nM cM] 33)) = .ok (.string (strOfNums E)) (w2.alloc (.cells #[.slice aB nB cB, .slice aL nL cL, .slice aM nM cM] 33)) ∧
          (convert 23 9 (.slice a4 E.length c4)).run Tryd.prog (w2.alloc (.cells #[.slice aB nB cB, .slice aL nL cL, .slice aM nM cM] 33)) = .ok (.string (strOfNums E)) (w2.alloc (.cells #[.slice aB nB cB, .slice aL nL cL, .slice aM nM cM] 33)) := by
        rintro w2 e ⟨hb2, vB, vL, vM, rfl, o1, o2, o3⟩
        obtain ⟨aB, cB, rfl⟩ := own_sliceA o1
        obtain ⟨aL, cL, rfl⟩ := own_sliceA o2
        obtain ⟨aM, cM, rfl⟩ := own_sliceA o3
        refine ⟨aB, cB, _, aL, cL, _, aM, cM, _, rfl, hb2, ?_, ?_⟩
        · rw [← HSb.out]
          exact conv_ownA (own_belowA ((Below.refl _ _).alloc (Nat.le_refl _) _) o1)
        · exact conv_ownA (own_belowA ((Below.refl _ _).alloc (Nat.le_refl _) _) (own_belowA hb2 hown))
      have KEY := Lib.hid key
      clear key hown
      generalize strOfNums E = sE at KEY
      have fin : ∀ {e : Ending} {w2 : World}, AsmP (.ok S) wr e w2 → True := fun _ => trivial
      by_cases d1 : k < len
      · have i1 : (k : Int) < (len : Int) := by omega
        have i2 : ¬ (k : Int) < 200 := by omega
        go_wp2_with fail
        refine HA3.out.mono ?_
        intro e w2 hP
        obtain ⟨aB, cB, nB, aL, cL, nL, aM, cM, nM, rfl, hb2, k1, k2⟩ := KEY.out w2 e hP
        have hB2 : Below w.heap.size w w2 := hB.trans (hb2.mono hs)
        clear hP
        go_wp2_with fail
        refine (HW.out _ (pTab_onE HT (hB2.alloc (by have := hb2.size; omega) _))).mono ?_
        rintro e w3 ⟨rfl, hb3⟩
        go_wp2_with fail
        go_ret
        exact ⟨rfl, (hB2.alloc (by have := hb2.size; omega) _).trans (hb3.mono (by have := hb2.size; simp; omega))⟩
      · have i1 : ¬ (k : Int) < (len : Int) := by omega
        go_wp2_with fail
        refine HA3.out.mono ?_
        intro e w2 hP
        obtain ⟨aB, cB, nB, aL, cL, nL, aM, cM, nM, rfl, hb2, k1, k2⟩ := KEY.out w2 e hP
        have hB2 : Below w.heap.size w w2 := hB.trans (hb2.mono hs)
        clear hP
        go_wp2_with fail
        refine (HW.out _ (pTab_onE HT (hB2.alloc (by have := hb2.size; omega) _))).mono ?_
        rintro e w3 ⟨rfl, hb3⟩
        go_wp2_with fail
        go_ret
        exact ⟨rfl, (hB2.alloc (by have := hb2.size; omega) _).trans (hb3.mono (by have := hb2.size; simp; omega))⟩
end Go.Proofs.YtgfljokamgbcaaaDoor
