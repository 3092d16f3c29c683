/- Rows of translated code: the walk of rows.Right. -/
import Derived.Test.YtnmgfckefofcpaaRowP
import Derived.Test.YtnmgfckefofcpaaRowM
namespace Go.Proofs.Ytnmgfckefofcpaa
open Go.RowKit
set_option linter.unusedSimpArgs false
set_option linter.unusedVariables false

/-- A slice's rest leads to the rest of its bytes. -/
theorem bytes_drop {w : World} {blk off : Nat} {B : List Int} (a : Nat) (h : ∀ i, i < B.length → w.cell? ⟨blk, off + i, none⟩ = some (.int .u8 (B.getD i 0))) : BytesIn w (some ⟨blk, off + a, none⟩) (B.drop a) := by
  refine .inr ⟨blk, off + a, rfl, fun i hi => ?_⟩
  simp only [List.length_drop] at hi
  rw [Nat.add_assoc, h (a + i) (by omega)]
  simp [List.getD]

theorem bytes_below' {W w1 : World} {ao : Option Addr} {B : List Int} (hb : Below W.heap.size W w1) (h : BytesIn W ao B) : BytesIn w1 ao B := by
  rcases h with h | ⟨blk, off, h1, h2⟩
  · exact .inl h
  · exact .inr ⟨blk, off, h1, fun i hi => keep hb (h2 i hi)⟩

theorem right_step {B : List Int} {T : List RowR} {r : RowR} {a : Nat} (h1 : r.off = (a : Int)) (h2 : a < B.length) (h3 : (Isa.decR true (B.drop a)).err = 0) (h4 : fitsR r.exit (Isa.decR true (B.drop a)).op (Isa.decR true (B.drop a)).imm = true) :
    rightF B (r :: T) a = rightF B T (a + (Isa.decR true (B.drop a)).n.toNat) := by
  simp only [rightF]
  rw [if_neg (by omega), if_neg (by simp [h3]), if_neg (by simp [h4])]

theorem box2_read {w w1 : World} {x0 x1 : Value} {t : TypeId} (hb : Below (w.heap.size + 1) (w.alloc (.cells #[x0, x1] t)) w1) :
    w1.cell? ⟨w.heap.size, 0, none⟩ = some x0 ∧ w1.cell? ⟨w.heap.size, 1, none⟩ = some x1 := by
  have h : ∀ o v, (w.alloc (.cells #[x0, x1] t)).cell? ⟨w.heap.size, o, none⟩ = some v → w1.cell? ⟨w.heap.size, o, none⟩ = some v := fun o v hv =>
    (hb.cell (p := ⟨w.heap.size, o, none⟩) (Nat.lt_succ_self _)).trans hv
  exact ⟨h _ _ (by go_simp), h _ _ (by go_simp)⟩

theorem below_b {w w1 : World} {o : Obj} (h : Below (w.heap.size + 1) (w.alloc o) w1) : Below w.heap.size w w1 := (below_alloc1 w o).trans (h.mono (by omega))

set_option maxHeartbeats 8000000 in
theorem right_c (ao : Option Addr) (len cap : Nat) (B : List Int) (a2 : Option Addr) (len2 cap2 : Nat) (L : List RowR) (w : World) (hy : ByteArg w ao len cap B) (hL : L.length = len2) (hl2 : len2 ≤ 9223372036854775807) (hR : RowsIn w a2 L) :
    Calls Try.prog 16 #[.agg #[.slice ao len cap, .slice a2 len2 cap2]] w fun e w' => e = .returned (.bool (rightF B L 0)) ∧ Below w.heap.size w w' := by
  obtain ⟨hBl, hlc, hcm, hbt, hB⟩ := hy
  have HR := Lib.hid hR
  have HL := Lib.hid hL
  have HBl := Lib.hid hBl
  have HB := Lib.hid hB
  have HT := Lib.hid hbt
  have HD := Lib.hid fun (a : Nat) (w1 : World) (ao1 : Option Addr) (cap1 : Nat) (h : BytesIn w1 ao1 (B.drop a)) => Isa.dec_c true ao1 (len - a) cap1 (B.drop a) w1 (by simp [hBl]) (by omega) (fun x hx => hbt x (List.mem_of_mem_drop hx)) h
  obtain ⟨R, hRR⟩ : ∃ R, rightF B L 0 = R := ⟨_, rfl⟩
  rw [hRR]
  have HRR := Lib.hid hRR
  clear hR hL hBl hB hbt hRR
  go_enter Try.func16, Try.ntmps16
  go_wp2_with fail
  go_loopg [3, 12] len2 (fun gk va vk wr => ∃ (k a : Nat), gk + k = len2 ∧ vk = .int .i64 (k : Int) ∧ va = .int .i64 (a : Int) ∧ a ≤ len ∧ Hid (rightF B (L.drop k) a = R) ∧
    Below (w.heap.size + 1) (w.alloc (.cells #[.slice ao len cap, .slice a2 len2 cap2] 36)) wr ∧ w.heap.size + 1 ≤ wr.heap.size)
  case atStart => exact ⟨0, 0, rfl, rfl, rfl, Nat.zero_le _, Lib.hid (by simpa using HRR.out), Below.refl _ _, by simp⟩
  case round =>
    obtain ⟨k, a, hk, rfl, rfl, ha, HI, hBw, hs⟩ := hrel
    obtain ⟨b0, b1⟩ := box2_read hBw
    have hsz : w.heap.size < wr.heap.size := by omega
    have hBW := below_b hBw
    by_cases c1 : k < len2
    · obtain ⟨blk, o, rfl, hbl, r, hr, ho, y0, y1, y2, y3⟩ := rows_at (rows_below hBW HR.out) (k := k) (by rw [HL.out]; exact c1)
      have i1 : (k : Int) < (len2 : Int) := by omega
      have hdrop : L.drop k = r :: L.drop (k + 1) := by
        obtain ⟨hlt, rfl⟩ := List.getElem?_eq_some_iff.1 hr
        exact List.drop_eq_getElem_cons hlt
      have HI := Lib.hid (hdrop ▸ HI.out)
      clear hr ho hdrop
      obtain ⟨ro, rp, rd, re⟩ := r
      simp only at y0 y1 y2 y3
      by_cases c2 : ro = (a : Int)
      · subst c2
        by_cases c3 : a < len
        · have i3 : (a : Int) < (len : Int) := by omega
          have i4 : (a : Int) < (cap : Int) := by omega
          have i5 : (len : Int) ≤ (cap : Int) := by omega
          have i6 : (cap : Int) ≤ 9223372036854775807 := by omega
          obtain ⟨bb, bo, rfl, hcb⟩ : ∃ bb bo, ao = some ⟨bb, bo, none⟩ ∧ ∀ i, i < B.length → w.cell? ⟨bb, bo + i, none⟩ = some (.int .u8 (B.getD i 0)) := by
            rcases HB.out with h | h
            · have := HBl.out; rw [h] at this; simp at this; omega
            · exact h
          have HBY := Lib.hid fun (w1 : World) (hb : Below w.heap.size w w1) => bytes_below' hb (bytes_drop a hcb)
          have HN := Lib.hid (dec_n (B.drop a))
          have HBD := Lib.hid (dec_bd (B.drop a) (fun x hx => HT.out x (List.mem_of_mem_drop hx)))
          have HST := Lib.hid (fun h3 h4 => right_step (B := B) (T := L.drop (k + 1)) (r := ⟨(a : Int), rp, rd, re⟩) (a := a) rfl (by rw [HBl.out]; exact c3) h3 h4)
          have HFE : (Isa.decR true (B.drop a)).err ≠ 0 → R = false := fun h => by rw [← HI.out]; simp [rightF, h]
          have HFF : fitsR re (Isa.decR true (B.drop a)).op (Isa.decR true (B.drop a)).imm = false → R = false := fun h => by rw [← HI.out]; simp [rightF, h]
          have HFE := Lib.hid HFE
          have HFF := Lib.hid HFF
          have HDa := Lib.hid (HD.out a)
          have hdl : (B.drop a).length = len - a := by simp [HBl.out]
          rw [hdl] at HN
          clear hcb hdl
          generalize Isa.decR true (B.drop a) = d at HN HBD HST HFE HFF HDa
          obtain ⟨dop, da, db, dimm, dn, derr⟩ := d
          unfold Isa.DR.post Isa.DecPost Isa.insV at HDa
          simp only at HN HBD HST HFE HFF HDa
          obtain ⟨o0, o1, m0, m1⟩ := HBD.out
          have HFT := Lib.hid fun w => rfits_c ⟨(a : Int), rp, rd, re⟩ dop da db dimm w o0 o1 m0 m1
          unfold RowR.val Isa.insV at HFT
          simp only at HFT
          go_wp2_with fail
          refine (HDa.out _ _ _ (HBY.out _ ((hBW.alloc hBW.size _)))).mono ?_
          rintro e w2 ⟨rfl, hb2⟩
          obtain ⟨r0, r1, r2, r3⟩ := box_read (below_s hb2)
          have hB2 := below_box2 hBW hb2
          have hs2 : wr.heap.size < w2.heap.size := by have := hb2.size; simp at this; omega
          have hBw2 : Below (w.heap.size + 1) (w.alloc (.cells #[.slice (some ⟨bb, bo, none⟩) len cap, .slice (some ⟨blk, o, none⟩) len2 cap2] 36)) w2 := (hBw.alloc hs _).trans (hb2.mono (by simp; omega))
          clear hb2
          by_cases c4 : derr = 0
          · subst c4
            obtain ⟨n0, n1⟩ := HN.out (by first | trivial | rfl)
            go_wp2_with fail
            refine (HFT.out _).mono ?_
            rintro e w3 ⟨rfl, hb3⟩
            have hB3 := below_box2 hB2 hb3
            have hs3 : w2.heap.size < w3.heap.size := by have := hb3.size; simp at this; omega
            have hBw3 := (hBw2.alloc (by omega) (.cells #[.int .u8 dop, .int .u8 da, .int .u8 db, .int .i32 dimm] 51)).trans (hb3.mono (by simp; omega))
            cases hx : fitsR re dop dimm
            · have HF : R = false := HFF.out hx
              subst HF
              go_wp2_with fail
              go_ret
              exact ⟨rfl, hB3⟩
            · have HS := Lib.hid (HST.out (by first | trivial | rfl) hx)
              clear hx
              have i7 : 0 ≤ (a : Int) + dn := by omega
              have i8 : (a : Int) + dn ≤ 9223372036854775807 := by omega
              have hcast : ((a + dn.toNat : Nat) : Int) = (a : Int) + dn := by omega
              have HCA := Lib.hid hcast
              clear hcast
              go_wp2_with fail
              go_roundg (gk - 1)
              case measure => omega
              case rel => exact ⟨k + 1, a + dn.toNat, by omega, rfl, by rw [HCA.out], by omega, Lib.hid (by rw [← HS.out]; exact HI.out), hBw3, by omega⟩
          · have d4 : (derr != 0) = true := bne_iff_ne.2 c4
            have HF : R = false := HFE.out c4
            subst HF
            clear c4
            go_wp2_with fail
            go_ret
            exact ⟨rfl, hB2.alloc hB2.size _⟩
        · have i3 : ¬ (a : Int) < (len : Int) := by omega
          have HF : R = false := by rw [← HI.out]; simp [rightF, HBl.out]; omega
          subst HF
          go_wp2_with fail
          go_ret
          exact ⟨rfl, hBW.alloc hBW.size _⟩
      · have d2 : (ro != (a : Int)) = true := bne_iff_ne.2 c2
        have HF : R = false := by rw [← HI.out]; simp [rightF, c2]
        subst HF
        go_wp2_with fail
        go_ret
        exact ⟨rfl, hBW.alloc hBW.size _⟩
    · have i1 : ¬ (k : Int) < (len2 : Int) := by omega
      have hdrop : L.drop k = [] := List.drop_eq_nil_iff.2 (by rw [HL.out]; omega)
      have HF : R = decide (a = len) := by rw [← HI.out, hdrop]; simp [rightF, HBl.out]
      subst HF
      clear hdrop
      go_wp2_with fail
      go_ret
      exact ⟨Isa.ret_bool (by rw [Bool.eq_iff_iff]; simp; omega), hBW⟩
end Go.Proofs.Ytnmgfckefofcpaa
