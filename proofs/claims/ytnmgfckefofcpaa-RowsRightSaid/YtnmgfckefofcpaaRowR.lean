/- Rows of translated code: the walk of the document's Right. -/
import Derived.Test.YtnmgfckefofcpaaRowQ
import Derived.Test.YtnmgfckefofcpaaRefH
namespace Go.Proofs.Ytnmgfckefofcpaa
open Go.RowKit
set_option linter.unusedSimpArgs false
set_option linter.unusedVariables false

set_option maxHeartbeats 8000000 in
theorem refRight_c (ao : Option Addr) (len cap : Nat) (B : List Int) (a2 : Option Addr) (len2 cap2 : Nat) (L : List RowR) (w : World) (hy : ByteArg w ao len cap B) (hL : L.length = len2) (hl2 : len2 ≤ 9223372036854775807) (hR : RowsIn w a2 L) :
    Calls Try.prog 17 #[.agg #[.slice ao len cap, .slice a2 len2 cap2]] w fun e w' => e = .returned (.bool (rightF B L 0)) ∧ Below w.heap.size w w' := by
  obtain ⟨hBl, hlc, hcm, hbt, hB⟩ := hy
  have HR := Lib.hid hR
  have HL := Lib.hid hL
  have HBl := Lib.hid hBl
  have HB := Lib.hid hB
  have HT := Lib.hid hbt
  have HD := Lib.hid fun (a : Nat) (w1 : World) (ao1 : Option Addr) (cap1 : Nat) (h : BytesIn w1 ao1 (B.drop a)) => Isa.rdec_c true ao1 (len - a) cap1 (B.drop a) w1 (by simp [hBl]) (by omega) (fun x hx => hbt x (List.mem_of_mem_drop hx)) h
  obtain ⟨R, hRR⟩ : ∃ R, rightF B L 0 = R := ⟨_, rfl⟩
  rw [hRR]
  have HRR := Lib.hid hRR
  clear hR hL hBl hB hbt hRR
  go_enter Try.func17, Try.ntmps17
  go_wp2_with fail
  go_loopg [3, 4] len2 (fun gk va vk wr => ∃ (k a : Nat), gk + k = len2 ∧ vk = .int .i64 (k : Int) ∧ va = .int .i64 (a : Int) ∧ a ≤ len ∧ Hid (rightF B (L.drop k) a = R) ∧
    Below (w.heap.size + 1) (w.alloc (.cells #[.slice ao len cap, .slice a2 len2 cap2] 36)) wr ∧ w.heap.size + 1 ≤ wr.heap.size)
  case atStart => exact ⟨0, 0, rfl, rfl, rfl, Nat.zero_le _, Lib.hid (by simpa using HRR.out), Below.refl _ _, by simp⟩
  case round =>
    obtain ⟨k, a, hk, rfl, rfl, ha, HI, hBw, hs⟩ := hrel
    obtain ⟨b0, b1⟩ := box2_read hBw
    have hsz : w.heap.size < wr.heap.size := by omega
    have hBW := below_b hBw
    by_cases c1 : k < len2
    · obtain ⟨blk, o, rfl, hbl, r, hr, ho, y0, y1, y2, y3⟩ := rows_at (rows_below hBW HR.out) (k := k) (by rw [HL.out]; exact c1)
      have i1 : (k : Int) < (len2 : Int) := by omega
      have hdrop : L.drop k = r :: L.drop (k + 1) := by
        obtain ⟨hlt, rfl⟩ := List.getElem?_eq_some_iff.1 hr
        exact List.drop_eq_getElem_cons hlt
      have HI := Lib.hid (hdrop ▸ HI.out)
      clear hr ho hdrop
      obtain ⟨ro, rp, rd, re⟩ := r
      simp only at y0 y1 y2 y3
      by_cases c2 : ro = (a : Int)
      · subst c2
        by_cases c3 : a < len
        · have i3 : (a : Int) < (len : Int) := by omega
          have i4 : (a : Int) < (cap : Int) := by omega
          have i5 : (len : Int) ≤ (cap : Int) := by omega
          have i6 : (cap : Int) ≤ 9223372036854775807 := by omega
          obtain ⟨bb, bo, rfl, hcb⟩ : ∃ bb bo, ao = some ⟨bb, bo, none⟩ ∧ ∀ i, i < B.length → w.cell? ⟨bb, bo + i, none⟩ = some (.int .u8 (B.getD i 0)) := by
            rcases HB.out with h | h
            · have := HBl.out; rw [h] at this; simp at this; omega
            · exact h
          have HBY := Lib.hid fun (w1 : World) (hb : Below w.heap.size w w1) => bytes_below' hb (bytes_drop a hcb)
          have HN := Lib.hid (dec_n (B.drop a))
          have HBD := Lib.hid (dec_bd (B.drop a) (fun x hx => HT.out x (List.mem_of_mem_drop hx)))
          have HST := Lib.hid (fun h3 h4 => right_step (B := B) (T := L.drop (k + 1)) (r := ⟨(a : Int), rp, rd, re⟩) (a := a) rfl (by rw [HBl.out]; exact c3) h3 h4)
          have HFE : (Isa.decR true (B.drop a)).err ≠ 0 → R = false := fun h => by rw [← HI.out]; simp [rightF, h]
          have HFF : fitsR re (Isa.decR true (B.drop a)).op (Isa.decR true (B.drop a)).imm = false → R = false := fun h => by rw [← HI.out]; simp [rightF, h]
          have HFE := Lib.hid HFE
          have HFF := Lib.hid HFF
          have HDa := Lib.hid (HD.out a)
          have hdl : (B.drop a).length = len - a := by simp [HBl.out]
          rw [hdl] at HN
          clear hcb hdl
          generalize Isa.decR true (B.drop a) = d at HN HBD HST HFE HFF HDa
          obtain ⟨dop, da, db, dimm, dn, derr⟩ := d
          unfold Isa.DR.post Isa.DecPost Isa.insV at HDa
          simp only at HN HBD HST HFE HFF HDa
          obtain ⟨o0, o1, m0, m1⟩ := HBD.out
          go_wp2_with fail
          refine (HDa.out _ _ _ (HBY.out _ hBW)).mono ?_
          rintro e w2 ⟨rfl, hb2⟩
          have hB2 := below_next hBW hb2
          have hs2 := hb2.size
          have z3 := keep hb2 y3
          have hz1 : w.heap.size < w2.heap.size := by omega
          have hz2 : blk < w2.heap.size := by omega
          have b1' := keep hb2 b1
          have hBw2 : Below (w.heap.size + 1) (w.alloc (.cells #[.slice (some ⟨bb, bo, none⟩) len cap, .slice (some ⟨blk, o, none⟩) len2 cap2] 36)) w2 := hBw.trans (hb2.mono (by omega))
          clear hb2
          by_cases c4 : derr = 0
          · subst c4
            obtain ⟨n0, n1⟩ := HN.out (by first | trivial | rfl)
            cases hx : fitsR re dop dimm
            · have HF : R = false := HFF.out hx
              subst HF
              by_cases c5 : dop = 113
              · have f1 : (re != dimm) = true := by unfold fitsR at hx; rw [if_pos c5] at hx; simpa using hx
                subst c5
                clear hx
                go_wp2_with fail
                go_ret
                exact ⟨rfl, hB2.alloc hB2.size _⟩
              · have f1 : 0 ≤ re := by unfold fitsR at hx; rw [if_neg c5] at hx; simpa using hx
                have f2 : (dop == 113) = false := beq_eq_false_iff_ne.2 c5
                have f3 : (dop != 113) = true := bne_iff_ne.2 c5
                clear hx
                go_wp2_with fail
                go_ret
                exact ⟨rfl, hB2.alloc hB2.size _⟩
            · have HS := Lib.hid (HST.out (by first | trivial | rfl) hx)
              have i7 : 0 ≤ (a : Int) + dn := by omega
              have i8 : (a : Int) + dn ≤ 9223372036854775807 := by omega
              have hcast : ((a + dn.toNat : Nat) : Int) = (a : Int) + dn := by omega
              have HCA := Lib.hid hcast
              have hx' : fitsR re dop dimm = true := by assumption
              clear hcast
              by_cases c5 : dop = 113
              · have f1 : (re != dimm) = false := by unfold fitsR at hx'; rw [if_pos c5] at hx'; simpa using hx'
                subst c5
                clear hx'
                go_wp2_with fail
                go_roundg (gk - 1)
                case measure => omega
                case rel => exact ⟨k + 1, a + dn.toNat, by omega, rfl, by rw [HCA.out], by omega, Lib.hid (by rw [← HS.out]; exact HI.out), hBw2.alloc (by omega) _, by simp; omega⟩
              · have f1 : ¬ 0 ≤ re := by unfold fitsR at hx'; rw [if_neg c5] at hx'; simpa using hx'
                have f2 : (dop == 113) = false := beq_eq_false_iff_ne.2 c5
                have f3 : (dop != 113) = true := bne_iff_ne.2 c5
                clear hx'
                go_wp2_with fail
                go_roundg (gk - 1)
                case measure => omega
                case rel => exact ⟨k + 1, a + dn.toNat, by omega, rfl, by rw [HCA.out], by omega, Lib.hid (by rw [← HS.out]; exact HI.out), hBw2.alloc (by omega) _, by simp; omega⟩
          · have d4 : (derr != 0) = true := bne_iff_ne.2 c4
            have HF : R = false := HFE.out c4
            subst HF
            clear c4
            go_wp2_with fail
            go_ret
            exact ⟨rfl, hB2.alloc hB2.size _⟩
        · have i3 : ¬ (a : Int) < (len : Int) := by omega
          have HF : R = false := by rw [← HI.out]; simp [rightF, HBl.out]; omega
          subst HF
          go_wp2_with fail
          go_ret
          exact ⟨rfl, hBW⟩
      · have d2 : (ro != (a : Int)) = true := bne_iff_ne.2 c2
        have HF : R = false := by rw [← HI.out]; simp [rightF, c2]
        subst HF
        go_wp2_with fail
        go_ret
        exact ⟨rfl, hBW⟩
    · have i1 : ¬ (k : Int) < (len2 : Int) := by omega
      have hdrop : L.drop k = [] := List.drop_eq_nil_iff.2 (by rw [HL.out]; omega)
      have HF : R = decide (a = len) := by rw [← HI.out, hdrop]; simp [rightF, HBl.out]
      subst HF
      clear hdrop
      go_wp2_with fail
      go_ret
      exact ⟨Isa.ret_bool (by rw [Bool.eq_iff_iff]; simp; omega), hBW⟩
end Go.Proofs.Ytnmgfckefofcpaa
