/- The walk of IsaBack. -/
import Derived.Test.YtlimejnehfglpaaIsaT
import Derived.Test.YtlimejnehfglpaaIsaS
import Derived.Deep.LoopGhost
namespace Go.Proofs.Ytlimejnehfglpaa
open Go.RowKit
set_option linter.unusedSimpArgs false
set_option linter.unusedVariables false

theorem bytes_past {B : Nat} {W w1 : World} {ao : Option Addr} {L : List Int} (hb : Below B W w1) (hB : W.heap.size ≤ B) (h : BytesIn W ao L) : BytesIn w1 ao L := by
  rcases h with h | ⟨blk, off, h1, h2⟩
  · exact .inl h
  · exact .inr ⟨blk, off, h1, fun i hi => by
      rw [hb.cell (p := ⟨blk, off + i, none⟩) (Nat.lt_of_lt_of_le (World.block_lt_of_cell? W _ (h2 i hi)) hB)]; exact h2 i hi⟩

theorem box_keep {w wr w2 : World} {x0 x1 x2 x3 : Value} {t : TypeId} (hB : Below (w.heap.size + 1) (w.alloc (.cells #[x0, x1, x2, x3] t)) wr) (hb : Below wr.heap.size wr w2) :
    w2.cell? ⟨w.heap.size, 0, none⟩ = some x0 ∧ w2.cell? ⟨w.heap.size, 1, none⟩ = some x1 ∧ w2.cell? ⟨w.heap.size, 2, none⟩ = some x2 ∧ w2.cell? ⟨w.heap.size, 3, none⟩ = some x3 := by
  have h : ∀ o v, (w.alloc (.cells #[x0, x1, x2, x3] t)).cell? ⟨w.heap.size, o, none⟩ = some v → w2.cell? ⟨w.heap.size, o, none⟩ = some v := fun o v hv => by
    have h1 : wr.cell? ⟨w.heap.size, o, none⟩ = some v := (hB.cell (p := ⟨w.heap.size, o, none⟩) (Nat.lt_succ_self _)).trans hv
    exact cell_keep hb h1
  exact ⟨h _ _ (by go_simp), h _ _ (by go_simp), h _ _ (by go_simp), h _ _ (by go_simp)⟩

theorem back_dec {op a b imm : Int} {host : Bool} (h0 : 0 ≤ op) (h1 : op < 256) (h2 : 0 ≤ a) (h4 : 0 ≤ b) (h6 : -2147483648 ≤ imm) (h7 : imm < 2147483648) (hm : mayB (fm op host) a b imm = true) (E : List Int) (hE : encL (fm op host) op a b imm = E) (n : Int) (hn : (fm op host).n = n)
    (M : List Int) (hM : ∀ x ∈ M, 0 ≤ x ∧ x < 256) (base g len cap : Nat) (w : World) (hlen : (E ++ M).length = len) (hl : len ≤ 9223372036854775807) (ho : w.ownsRow base 5 1 (.slice (some ⟨g, 0, none⟩) len cap) len ((E ++ M).map (Value.int .u8))) :
    Calls Try.prog 18 #[.slice (some ⟨g, 0, none⟩) len cap, .bool host] w (DecPost op a b imm n 0 w) := by
  subst hE hn
  have := dec_c host (some ⟨g, 0, none⟩) len cap _ w hlen hl (fun x hx => by
    rcases List.mem_append.1 hx with hx | hx
    · exact encL_bytes h0 h1 h2 h4 hm x hx
    · exact hM x hx) (bytes_owned ho)
  rw [back_law h2 h4 h6 h7 hm M] at this
  exact this

set_option maxHeartbeats 2000000 in
theorem back_no (op a b imm : Int) (host : Bool) (v : Value) (w : World) (h0 : 0 ≤ op) (h1 : op < 256) (h2 : 0 ≤ a) (h3 : a < 256) (h4 : 0 ≤ b) (h5 : b < 256) (h6 : -2147483648 ≤ imm) (h7 : imm < 2147483648)
    (hm : mayB (fm op host) a b imm = false) :
    Calls Try.prog 10 #[insV op a b imm, .bool host, v] w fun e w' => e = .returned (.bool true) ∧ Below w.heap.size w w' := by
  have HA := Lib.hid fun w => encode_no op a b imm host w h0 h1 h2 h3 h4 h5 h6 h7 [] hm
  have HM0 := fun w => may_c op a b imm host w h0 h1 h2 h3 h4 h5 h6 h7
  rw [hm] at HM0
  have HM := Lib.hid HM0
  have HW := Lib.hid works_c
  clear hm HM0
  unfold insV at HA HM ⊢
  go_enter Try.func10, Try.ntmps10
  go_wp2_with fail
  refine (HA.out _).mono ?_
  rintro e w1 ⟨hb, hv, -⟩
  obtain rfl := hv rfl
  clear hv
  have hB1 := below_box hb
  obtain ⟨hcl, hfz⟩ := bcell hb
  have hz : w.heap.size < w1.heap.size := by have := hb.size; simp at this; omega
  go_wp2_with fail
  refine (HM.out _).mono ?_
  rintro e w2 ⟨rfl, hb2⟩
  go_wp2_with fail
  refine (HW.out _).mono ?_
  rintro e w3 ⟨rfl, hb3⟩
  go_wp2_with fail
  go_ret
  exact ⟨rfl, below_next (below_next hB1 hb2) hb3⟩

set_option maxHeartbeats 4000000 in
theorem back_yes (op a b imm : Int) (host : Bool) (ao : Option Addr) (len cap0 : Nat) (L : List Int) (w : World) (hy : ByteArg w ao len cap0 L) (h0 : 0 ≤ op) (h1 : op < 256) (h2 : 0 ≤ a) (h3 : a < 256) (h4 : 0 ≤ b) (h5 : b < 256) (h6 : -2147483648 ≤ imm) (h7 : imm < 2147483648)
    (hm : mayB (fm op host) a b imm = true) :
    Calls Try.prog 10 #[insV op a b imm, .bool host, .slice ao len cap0] w fun e w' => e = .returned (.bool true) ∧ Below w.heap.size w w' := by
  obtain ⟨hL, hlc, hcm, hbt, hB⟩ := hy
  have HA := Lib.hid fun w => encode_yes op a b imm host w h0 h1 h2 h3 h4 h5 h6 h7 hm
  have HM0 := fun w => may_c op a b imm host w h0 h1 h2 h3 h4 h5 h6 h7
  rw [hm] at HM0
  have HM := Lib.hid HM0
  have HZ := Lib.hid fun w => size_c op host w h0 h1
  have HD := back_dec h0 h1 h2 h4 h6 h7 hm _ rfl _ rfl
  have HW := Lib.hid works_c
  obtain ⟨n, hn⟩ := encL_len (fm op host) op a b imm
  have hsm := encL_n hm
  have hs6 : (fm op host).n ≤ 6 := by rcases fm_is op host with h | h | h | h | h | h | h | h | h | h <;> rw [h] <;> decide
  have hn6 : n ≤ 5 := by omega
  have hfn : (fm op host).n = (n : Int) + 1 := by omega
  rw [hfn] at HD HZ
  unfold DecPost insV at HD
  clear hs6 hsm hm hfn HM0
  generalize encL (fm op host) op a b imm = E at HA HD hn
  have HDh := Lib.hid HD
  clear HD
  have HN := Lib.hid hn
  have HL := Lib.hid hL
  have HT := Lib.hid hbt
  have HB := Lib.hid hB
  clear hn hL hbt hB
  obtain ⟨i0, hi, hz0, hz1, hz2⟩ := info_parts Try.infoB
  unfold insV at HA HM ⊢
  go_enter Try.func10, Try.ntmps10
  go_wp2_with fail
  refine (HA.out _).mono ?_
  rintro e w1 ⟨hb, -, hv⟩
  obtain ⟨v, rfl, hown⟩ := hv rfl
  clear hv
  rw [HN.out] at hown
  obtain ⟨g, cap, rfl⟩ := ownsRow_succ hown
  go_wp2_with fail
  go_loopg [7, 10] 20 (fun gk vb vk wr => ∃ (k g cap : Nat), gk + k = 20 ∧ k ≤ len ∧ vk = .int .i64 (k : Int) ∧ vb = .slice (some ⟨g, 0, none⟩) (n + 1 + k) cap ∧
    wr.ownsRow (w.heap.size + 1) 5 1 (.slice (some ⟨g, 0, none⟩) (n + 1 + k) cap) (n + 1 + k) ((E ++ L.take k).map (Value.int .u8)) ∧ Below (w.heap.size + 1) (w.alloc (.cells #[.int .u8 op, .int .u8 a, .int .u8 b, .int .i32 imm] 23)) wr ∧ w.heap.size + 1 ≤ wr.heap.size)
  case atStart =>
    refine ⟨0, g, cap, rfl, Nat.zero_le _, rfl, rfl, ?_, ?_, ?_⟩
    · simpa using hown
    · simpa using hb
    · have := hb.size; simpa using this
  case round =>
    obtain ⟨k, g, cap, hk, hkl, rfl, rfl, hown, hB, hs⟩ := hrel
    by_cases c1 : k < len
    · obtain ⟨blk, off, rfl, hx⟩ : ∃ blk off, ao = some ⟨blk, off, none⟩ ∧ w.cell? ⟨blk, off + k, none⟩ = some (.int .u8 (L.getD k 0)) := by
        rcases HB.out with h | ⟨blk, off, h1, h2⟩
        · have := HL.out; rw [h] at this; simp at this; omega
        · exact ⟨blk, off, h1, h2 k (by rw [HL.out]; exact c1)⟩
      have i1 : (k : Int) < (len : Int) := by omega
      by_cases c2 : k < 20
      · have i2 : (k : Int) < 20 := by omega
        have hmap : (E ++ L.take (k + 1)).map (Value.int .u8) = (E ++ L.take k).map (Value.int .u8) ++ [.int .u8 (L.getD k 0)] := by
          have hkL : k < L.length := by rw [HL.out]; exact c1
          rw [List.take_succ_eq_append_getElem hkL, ← List.append_assoc, List.map_append, show L.getD k 0 = L[k] from by simp [List.getD, hkL]]
          rfl
        have HP := Lib.hid hmap
        have hxb : blk < w.heap.size := World.block_lt_of_cell? w _ hx
        have hx' : wr.cell? ⟨blk, off + k, none⟩ = some (.int .u8 (L.getD k 0)) := by
          rw [hB.cell (p := ⟨blk, off + k, none⟩) (by show blk < _; omega), cell_past hxb]; exact hx
        have hxr : blk < wr.heap.size := by omega
        generalize L.getD k 0 = x at hx' HP
        clear hmap hx hkl
        go_wp2_with (first | (at_builtin; refine wpList_append_own _ rfl _ _ 26 rfl (w.heap.size + 1) 5 i0 (.int .u8 0) 1 1 Try.underlying26 hi hz0 hz1 hz2 rfl (by decide) _ _ _ rfl (hown.alloc _) _ 1 1 [_] rfl rfl (cell_one_new' _ _ _ _ (by simp)) (by simp [Value.oneCell']) (by unfold maxLen; omega) (by omega) (by first | (simp; done) | (simp; omega)) ?_; intro v4 w4 hown4 hgrow4 _; obtain ⟨g4, cap4, rfl⟩ := ownsRow_succ hown4; obtain ⟨hB4, hs4⟩ := own_next hB hs hown hgrow4; clear hgrow4))
        go_roundg (gk - 1)
        case measure => omega
        case rel =>
          exact ⟨k + 1, g4, cap4, by omega, by omega, rfl, rfl, (by rw [HP.out]; exact hown4), hB4, hs4⟩
      · have i2 : ¬ (k : Int) < 20 := by omega
        go_wp2_with fail
        refine (HDh.out (L.take k) (fun x hx => HT.out x (List.mem_of_mem_take hx)) (w.heap.size + 1) g (n + 1 + k) cap wr (by rw [List.length_append, HN.out, List.length_take, HL.out]; omega) (by omega) hown).mono ?_
        rintro e w2 ⟨rfl, hb2⟩
        have hz : w.heap.size < w2.heap.size := by have := hb2.size; omega
        have hB2 : Below w.heap.size w w2 := below_next ((below_alloc1 _ _).trans (hB.mono (by omega))) hb2
        obtain ⟨d0, d1, d2, d3⟩ := box_keep hB hb2
        go_wp2_with fail
        refine (HZ.out _).mono ?_
        rintro e w3 ⟨rfl, hb3⟩
        have e0 := cell_keep hb3 ((cell_past hz _).trans d0)
        have e1 := cell_keep hb3 ((cell_past hz _).trans d1)
        have e2 := cell_keep hb3 ((cell_past hz _).trans d2)
        have e3 := cell_keep hb3 ((cell_past hz _).trans d3)
        have hB3 := below_next (hB2.alloc hB2.size _) hb3
        go_wp2_with fail
        refine (HM.out _).mono ?_
        rintro e w4 ⟨rfl, hb4⟩
        go_wp2_with fail
        refine (HW.out _).mono ?_
        rintro e w5 ⟨rfl, hb5⟩
        go_wp2_with fail
        go_ret
        exact ⟨rfl, below_next (below_next hB3 hb4) hb5⟩
    · have i1 : ¬ (k : Int) < (len : Int) := by omega
      go_wp2_with fail
      refine (HDh.out (L.take k) (fun x hx => HT.out x (List.mem_of_mem_take hx)) (w.heap.size + 1) g (n + 1 + k) cap wr (by rw [List.length_append, HN.out, List.length_take, HL.out]; omega) (by omega) hown).mono ?_
      rintro e w2 ⟨rfl, hb2⟩
      have hz : w.heap.size < w2.heap.size := by have := hb2.size; omega
      have hB2 : Below w.heap.size w w2 := below_next ((below_alloc1 _ _).trans (hB.mono (by omega))) hb2
      obtain ⟨d0, d1, d2, d3⟩ := box_keep hB hb2
      go_wp2_with fail
      refine (HZ.out _).mono ?_
      rintro e w3 ⟨rfl, hb3⟩
      have e0 := cell_keep hb3 ((cell_past hz _).trans d0)
      have e1 := cell_keep hb3 ((cell_past hz _).trans d1)
      have e2 := cell_keep hb3 ((cell_past hz _).trans d2)
      have e3 := cell_keep hb3 ((cell_past hz _).trans d3)
      have hB3 := below_next (hB2.alloc hB2.size _) hb3
      go_wp2_with fail
      refine (HM.out _).mono ?_
      rintro e w4 ⟨rfl, hb4⟩
      go_wp2_with fail
      refine (HW.out _).mono ?_
      rintro e w5 ⟨rfl, hb5⟩
      go_wp2_with fail
      go_ret
      exact ⟨rfl, below_next (below_next hB3 hb4) hb5⟩

theorem back_walk (op : Int) (wo : (Lit.int .u8 op).wf = true) (a : Int) (wa : (Lit.int .u8 a).wf = true) (b : Int) (wb : (Lit.int .u8 b).wf = true) (imm : Int) (wi : (Lit.int .i32 imm).wf = true) (host : Bool) (ao : Option Addr) (len cap0 : Nat) (L : List Int) (w : World) (hy : ByteArg w ao len cap0 L) :
    Calls Try.prog 10 #[insV op a b imm, .bool host, .slice ao len cap0] w fun e w' => e = .returned (.bool true) ∧ Below w.heap.size w w' := by
  obtain ⟨h0, h1⟩ := bd_u8 wo
  obtain ⟨h2, h3⟩ := bd_u8 wa
  obtain ⟨h4, h5⟩ := bd_u8 wb
  obtain ⟨h6, h7⟩ := bd_i32 wi
  cases hm : mayB (fm op host) a b imm
  · exact back_no op a b imm host _ w h0 h1 h2 h3 h4 h5 h6 h7 hm
  · exact back_yes op a b imm host ao len cap0 L w hy h0 h1 h2 h3 h4 h5 h6 h7 hm
end Go.Proofs.Ytlimejnehfglpaa
