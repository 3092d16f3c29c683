/- The walk of the document's May (mummerref02). The walk of the document's Encode (mummerref02), of an instruction that may be. -/
import Derived.Test.YtgfljokamgbcaaaGreatDoorRefA
import Derived.Test.YtgfljokamgbcaaaGreatDoorIsaE
namespace Go.Proofs.YtgfljokamgbcaaaGreatDoor.Isa
open Go.RowKit
set_option linter.unusedSimpArgs false
set_option linter.unusedVariables false

set_option maxHeartbeats 4000000 in
theorem refMay_c (op a b imm : Int) (host : Bool) (w : World) (h0 : 0 ≤ op) (h1 : op < 256) (h2 : 0 ≤ a) (h3 : a < 256) (h4 : 0 ≤ b) (h5 : b < 256) (h6 : -2147483648 ≤ imm) (h7 : imm < 2147483648) :
    Calls Tryz.prog 99 #[insV op a b imm, .bool host] w fun e w' => e = .returned (.bool (mayB (fm op host) a b imm)) ∧ Below w.heap.size w w' := by
  have hc := fun w => refOf_c op host w h0 h1
  have hF := fm_is op host
  generalize fm op host = f at hc hF ⊢
  have HC := Lib.hid hc
  clear hc
  unfold insV
  rcases hF with rfl | rfl | rfl | rfl | rfl | rfl | rfl | rfl | rfl | rfl
  all_goals
    go_enter Tryz.func99, Tryz.ntmps99
    go_wp2_with fail
    refine (HC.out _).mono ?_
    rintro e w1 ⟨rfl, hb⟩
    unfold Fm.rval
    obtain ⟨hcl, hfz⟩ := bcell hb
    have hz : w.heap.size < w1.heap.size := by have := hb.size; simp at this; omega
    go_wp2_with fail
    all_goals first
      | (go_ret
         refine ⟨ret_bool ?_, (below_box hb).alloc (below_box hb).size _⟩
         clear hcl hfz
         rw [Bool.eq_iff_iff]
         simp [mayB, fitsB]
         try simp only [bne_eq_false_iff_eq, bne_iff_ne, ne_eq] at *
         omega)
      | (go_ret
         refine ⟨ret_bool ?_, (below_box hb).alloc (below_box hb).size _⟩
         simp [mayB, fitsB]
         done)
      | (refine wp_loop_rounds 6 ?_
         rw [rounds_succ]
         go_wp2
         try (rw [rounds_succ]; go_wp2)
         try (rw [rounds_succ]; go_wp2)
         try (rw [rounds_succ]; go_wp2)
         try (rw [rounds_succ]; go_wp2)
         all_goals
           go_ret
           refine ⟨ret_bool ?_, (below_box hb).alloc (below_box hb).size _⟩
           clear hcl hfz
           rw [Bool.eq_iff_iff]
           simp [mayB, fitsB]
           try simp only [bne_eq_false_iff_eq, bne_iff_ne, ne_eq] at *
           omega)
      | skip
    go_ways
    trace_state
end Go.Proofs.YtgfljokamgbcaaaGreatDoor.Isa
namespace Go.Proofs.YtgfljokamgbcaaaGreatDoor.Isa
open Go.RowKit
set_option maxRecDepth 100000

theorem ownsRow_eq {w : World} {b n s : Nat} {e : TypeId} {v : Value} {xs ys : List Value} (h : xs = ys) (hx : w.ownsRow b e s v n xs) : w.ownsRow b e s v n ys := h ▸ hx

/-- What the document's Encode hands back. -/
def REncPost (L : List Int) (w : World) (e : Ending) (w' : World) : Prop :=
  Below w.heap.size w w' ∧ ∃ v, e = .returned v ∧ w'.ownsRow w.heap.size 5 1 v L.length (L.map (Value.int .u8))

set_option maxHeartbeats 4000000 in
theorem refEncode_c (op a b imm : Int) (host : Bool) (w : World) (h0 : 0 ≤ op) (h1 : op < 256) (h2 : 0 ≤ a) (h3 : a < 256) (h4 : 0 ≤ b) (h5 : b < 256) (h6 : -2147483648 ≤ imm) (h7 : imm < 2147483648)
    (hm : mayB (fm op host) a b imm = true) :
    Calls Tryz.prog 83 #[insV op a b imm, .bool host] w (REncPost (encL (fm op host) op a b imm) w) := by
  have hd := fun w => refOf_c op host w h0 h1
  have hF := fm_is op host
  generalize fm op host = f at hd hF hm ⊢
  have HD := Lib.hid hd
  have HM := Lib.hid hm
  clear hd hm
  unfold insV
  obtain ⟨i0, hi, hz0, hz1, hz2⟩ := info_parts Tryz.infoB
  rcases hF with rfl | rfl | rfl | rfl | rfl | rfl | rfl | rfl | rfl | rfl
  next => exact absurd HM.out (by simp [mayB])
  all_goals
    have hle := HM.out
    simp [mayB] at hle
    try have hb7 : b ≤ 7 := by omega
    try have ha7 : a ≤ 7 := by omega
    clear hle
    go_enter Tryz.func83, Tryz.ntmps83
    go_wp2_with fail
    refine (HD.out _).mono ?_
    rintro e w2 ⟨rfl, hb2⟩
    obtain ⟨hcl2, hfz2⟩ := bcell hb2
    have hz2' : w.heap.size < w2.heap.size := by have := hb2.size; simp at this; omega
    unfold Fm.rval
    have tokA : True := trivial
    go_wp2_with (first | (at_builtin; have _t := tokA; refine wpList_append_own _ rfl _ _ 23 rfl (w2.heap.size + 1) 5 i0 (.int .u8 0) 1 1 Tryz.underlying23 hi hz0 hz1 hz2 rfl (by decide) _ _ _ rfl ((ownsRow_lit1 _ (.int .u8 op) _ _ _ (by simp) (by simp)).alloc _) _ 1 1 [_] rfl rfl (cell_one_new' _ _ _ _ (by simp)) (by simp [Value.oneCell']) (by decide) (by decide) (by first | (simp; done) | (simp; omega)) ?_; clear tokA; intro v3 w3 hown hgrow _; obtain ⟨g, cap, rfl⟩ := ownsRow_succ hown; obtain ⟨hB, hs⟩ := own_first hgrow rfl; have hcl3 := bcell' hB (by simp); clear hgrow))
    all_goals refine wp_loop_rounds 6 ?_
    iterate 5
      all_goals try
        rw [rounds_succ]
        go_wp2_with (first | (at_builtin; have _t := tokA; refine wpList_append_own _ rfl _ _ 23 rfl (w2.heap.size + 1) 5 i0 (.int .u8 0) 1 1 Tryz.underlying23 hi hz0 hz1 hz2 rfl (by decide) _ _ _ rfl ((ownsRow_lit1 _ (.int .u8 op) _ _ _ (by simp) (by simp)).alloc _) _ 1 1 [_] rfl rfl (cell_one_new' _ _ _ _ (by simp)) (by simp [Value.oneCell']) (by decide) (by decide) (by first | (simp; done) | (simp; omega)) ?_; clear tokA; intro v3 w3 hown hgrow _; obtain ⟨g, cap, rfl⟩ := ownsRow_succ hown; obtain ⟨hB, hs⟩ := own_first hgrow rfl; have hcl3 := bcell' hB (by simp); clear hgrow) | (at_builtin; refine wpList_append_own _ rfl _ _ 23 rfl (w2.heap.size + 1) 5 i0 (.int .u8 0) 1 1 Tryz.underlying23 hi hz0 hz1 hz2 rfl (by decide) _ _ _ rfl (hown.alloc _) _ 1 1 [_] rfl rfl (cell_one_new' _ _ _ _ (by simp)) (by simp [Value.oneCell']) (by decide) (by decide) (by first | (simp; done) | (simp; omega)) ?_; intro v4 w4 hown4 hgrow4 _; obtain ⟨g4, cap4, rfl⟩ := ownsRow_succ hown4; obtain ⟨hB4, hs4⟩ := own_next hB hs hown hgrow4; clear hown hgrow4 hB hs hcl3; have hown := hown4; have hB := hB4; have hs := hs4; clear hown4 hB4 hs4; have hcl3 := bcell' hB (by simp)))
    all_goals
      go_ret
      refine ⟨?_, _, rfl, ?_⟩
      · first
          | exact ((below_box hb2).alloc (by omega) _).trans (hB.mono (by omega))
          | exact ((below_box hb2).alloc (by omega) _).alloc (by simp; omega) _
      · clear hcl2 hfz2
        first
          | (have hfin := ownsRow_mono hown (b' := w.heap.size) (by omega)
             simp [encL] at hfin ⊢
             refine ownsRow_eq ?_ hfin
             first
               | rfl
               | (simp; done)
               | (simp; omega))
          | (simp [encL]
             exact ownsRow_mono (ownsRow_lit1 _ (.int .u8 op) 5 (w2.heap.size + 1) (w2.heap.size + 1) (by simp) (Nat.le_refl _)) (by omega))
end Go.Proofs.YtgfljokamgbcaaaGreatDoor.Isa
