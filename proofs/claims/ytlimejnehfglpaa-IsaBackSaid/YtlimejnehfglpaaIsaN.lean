/- The walk of IsaEncodes. -/
import Derived.Test.YtlimejnehfglpaaIsaK
import Derived.Test.YtlimejnehfglpaaRefE
import Derived.Deep.RegionHeld3
import Derived.BigQuiet
namespace Go.Proofs.Ytlimejnehfglpaa
open Go.RowKit

theorem own_below {W w1 : World} {base n s : Nat} {e : TypeId} {v : Value} {xs : List Value} (hb : Below W.heap.size W w1) (h : W.ownsRow base e s v n xs) : w1.ownsRow base e s v n xs := by
  obtain ⟨h1, h2 | ⟨g, cap, cur, h3, h4, h5, h6⟩⟩ := h
  · exact ⟨h1, .inl h2⟩
  · exact ⟨h1, .inr ⟨g, cap, cur, h3, h4, by rw [hb.block g (Array.getElem?_eq_some_iff.1 h5).1]; exact h5, h6⟩⟩

theorem cell_keep {W w1 : World} (hb : Below W.heap.size W w1) {p : Addr} {v : Value} (h : W.cell? p = some v) : w1.cell? p = some v := (hb.cell (World.block_lt_of_cell? W p h)).trans h

theorem encL_len (f : Fm) (op a b imm : Int) : ∃ k, (encL f op a b imm).length = k + 1 := ⟨_, rfl⟩

set_option maxHeartbeats 2000000 in
theorem encodes_no (op a b imm : Int) (host : Bool) (w : World) (h0 : 0 ≤ op) (h1 : op < 256) (h2 : 0 ≤ a) (h3 : a < 256) (h4 : 0 ≤ b) (h5 : b < 256) (h6 : -2147483648 ≤ imm) (h7 : imm < 2147483648)
    (hm : mayB (fm op host) a b imm = false) :
    Calls Try.prog 4 #[insV op a b imm, .bool host] w fun e w' => e = .returned (.bool true) ∧ Below w.heap.size w w' := by
  have HA := Lib.hid fun w => encode_no op a b imm host w h0 h1 h2 h3 h4 h5 h6 h7 [] hm
  have HB := Lib.hid fun w => refMay_c op a b imm host w h0 h1 h2 h3 h4 h5 h6 h7
  have HW := Lib.hid works_c
  rw [hm] at HB
  clear hm
  unfold insV at HA HB ⊢
  go_enter Try.func4, Try.ntmps4
  go_wp2_with fail
  refine (HA.out _).mono ?_
  rintro e w1 ⟨hb, he, -⟩
  obtain rfl := he rfl
  clear he
  obtain ⟨hcl, hfz⟩ := bcell hb
  have hz : w.heap.size < w1.heap.size := by have := hb.size; simp at this; omega
  go_wp2_with fail
  refine (HB.out _).mono ?_
  rintro e w2 ⟨rfl, hb2⟩
  go_wp2_with fail
  refine (HW.out _).mono ?_
  rintro e w3 ⟨rfl, hb3⟩
  go_wp2_with fail
  go_ret
  exact ⟨rfl, below_next (below_next (below_box hb) hb2) hb3⟩

set_option maxHeartbeats 2000000 in
theorem encodes_yes (op a b imm : Int) (host : Bool) (w : World) (h0 : 0 ≤ op) (h1 : op < 256) (h2 : 0 ≤ a) (h3 : a < 256) (h4 : 0 ≤ b) (h5 : b < 256) (h6 : -2147483648 ≤ imm) (h7 : imm < 2147483648)
    (hm : mayB (fm op host) a b imm = true) :
    Calls Try.prog 4 #[insV op a b imm, .bool host] w fun e w' => e = .returned (.bool true) ∧ Below w.heap.size w w' := by
  have HA := Lib.hid fun w => encode_yes op a b imm host w h0 h1 h2 h3 h4 h5 h6 h7 hm
  have HB := Lib.hid fun w => refMay_c op a b imm host w h0 h1 h2 h3 h4 h5 h6 h7
  have HC := Lib.hid fun w => refEncode_c op a b imm host w h0 h1 h2 h3 h4 h5 h6 h7 hm
  have HW := Lib.hid works_c
  obtain ⟨n, hn⟩ := encL_len (fm op host) op a b imm
  rw [hm] at HB
  clear hm
  generalize encL (fm op host) op a b imm = L at HA HC hn
  obtain ⟨s, hs⟩ : ∃ s, strOfNums L = s := ⟨_, rfl⟩
  have HS := Lib.hid hs
  have HN := Lib.hid hn
  clear hs hn
  unfold insV at HA HB HC ⊢
  go_enter Try.func4, Try.ntmps4
  go_wp2_with fail
  refine (HA.out _).mono ?_
  rintro e w1 ⟨hb, -, hv⟩
  obtain ⟨v, rfl, hown⟩ := hv rfl
  clear hv
  rw [HN.out] at hown
  obtain ⟨g, cap, rfl⟩ := ownsRow_succ hown
  obtain ⟨hcl, hfz⟩ := bcell hb
  have hz : w.heap.size < w1.heap.size := by have := hb.size; simp at this; omega
  have hB1 := below_box hb
  go_wp2_with fail
  refine (HB.out _).mono ?_
  rintro e w2 ⟨rfl, hb2⟩
  have hown2 := own_below hb2 hown
  have hB2 := below_next hB1 hb2
  have hz2 : w.heap.size < w2.heap.size := by have := hb2.size; omega
  have c0 : w2.cell? ⟨w.heap.size, 0, none⟩ = some (.int .u8 op) := by rw [hb2.cell (p := ⟨w.heap.size, 0, none⟩) hz, hcl _ _ (by simp)]; go_simp
  have c1 : w2.cell? ⟨w.heap.size, 1, none⟩ = some (.int .u8 a) := by rw [hb2.cell (p := ⟨w.heap.size, 1, none⟩) hz, hcl _ _ (by simp)]; go_simp
  have c2 : w2.cell? ⟨w.heap.size, 2, none⟩ = some (.int .u8 b) := by rw [hb2.cell (p := ⟨w.heap.size, 2, none⟩) hz, hcl _ _ (by simp)]; go_simp
  have c3 : w2.cell? ⟨w.heap.size, 3, none⟩ = some (.int .i32 imm) := by rw [hb2.cell (p := ⟨w.heap.size, 3, none⟩) hz, hcl _ _ (by simp)]; go_simp
  have hO : w2.drew.ownsRow _ _ _ _ _ _ := hown2.drew
  have hC := conv_owned hO
  rw [HS.out] at hC
  clear hcl hfz hown hb hb2 hB1 hz hown2
  go_wp2_with fail
  go_region_with
    (first | (go_at_call 15; refine (HC.out _).mono ?_; rintro e w3 ⟨hb, v2, rfl, hown3⟩; have hz3 : w.heap.size < w3.heap.size := Nat.lt_of_lt_of_le hz2 hb.size; have e0 := cell_keep (W := w2.drew) hb c0; have e1 := cell_keep (W := w2.drew) hb c1; have e2 := cell_keep (W := w2.drew) hb c2; have e3 := cell_keep (W := w2.drew) hb c3; have hO3 := own_below hb hO; have hC := conv_owned hO3; rw [HS.out] at hC; rw [HN.out] at hown3; obtain ⟨g3, cap3, rfl⟩ := ownsRow_succ hown3; have hC3 := conv_owned hown3; rw [HS.out] at hC3; have hB3 := below_next hB2.drew hb) | (go_at_call 13; refine (HW.out _).mono ?_; rintro e w4 ⟨rfl, hb4⟩; have hz4 : w.heap.size < w4.heap.size := Nat.lt_of_lt_of_le hz3 hb4.size; have d0 := cell_keep hb4 e0; have d1 := cell_keep hb4 e1; have d2 := cell_keep hb4 e2; have d3 := cell_keep hb4 e3; have hO4 := own_below hb4 hO3; have hC := conv_owned hO4; rw [HS.out] at hC; have hB4 := below_next hB3 hb4))
  all_goals
    go_wp2_with fail
    go_ret
    exact ⟨rfl, hB4⟩

theorem encodes_walk (op : Int) (wo : (Lit.int .u8 op).wf = true) (a : Int) (wa : (Lit.int .u8 a).wf = true) (b : Int) (wb : (Lit.int .u8 b).wf = true) (imm : Int) (wi : (Lit.int .i32 imm).wf = true) (host : Bool) (w : World) :
    Calls Try.prog 4 #[insV op a b imm, .bool host] w fun e w' => e = .returned (.bool true) ∧ Below w.heap.size w w' := by
  obtain ⟨h0, h1⟩ := bd_u8 wo
  obtain ⟨h2, h3⟩ := bd_u8 wa
  obtain ⟨h4, h5⟩ := bd_u8 wb
  obtain ⟨h6, h7⟩ := bd_i32 wi
  cases hm : mayB (fm op host) a b imm
  · exact encodes_no op a b imm host w h0 h1 h2 h3 h4 h5 h6 h7 hm
  · exact encodes_yes op a b imm host w h0 h1 h2 h3 h4 h5 h6 h7 hm
end Go.Proofs.Ytlimejnehfglpaa
