/- The walk of the document's May (mummerref02). -/
import Derived.Test.YtocgiapkapekdaaDoorRefA
namespace Go.Proofs.YtocgiapkapekdaaDoor.Isa
open Go.RowKit
set_option linter.unusedSimpArgs false
set_option linter.unusedVariables false

set_option maxHeartbeats 4000000 in
theorem refMay_c (op a b imm : Int) (host : Bool) (w : World) (h0 : 0 ≤ op) (h1 : op < 256) (h2 : 0 ≤ a) (h3 : a < 256) (h4 : 0 ≤ b) (h5 : b < 256) (h6 : -2147483648 ≤ imm) (h7 : imm < 2147483648) :
    Calls Tryd.prog 32 #[insV op a b imm, .bool host] w fun e w' => e = .returned (.bool (mayB (fm op host) a b imm)) ∧ Below w.heap.size w w' := by
  have hc := fun w => refOf_c op host w h0 h1
  have hF := fm_is op host
  generalize fm op host = f at hc hF ⊢
  have HC := Lib.hid hc
  clear hc
  unfold insV
  rcases hF with rfl | rfl | rfl | rfl | rfl | rfl | rfl | rfl | rfl | rfl
  all_goals
    go_enter Tryd.func32, Tryd.ntmps32
    go_wp2_with fail
    refine (HC.out _).mono ?_
    rintro e w1 ⟨rfl, hb⟩
    unfold Fm.rval
    obtain ⟨hcl, hfz⟩ := bcell hb
    have hz : w.heap.size < w1.heap.size := by have := hb.size; simp at this; omega
    go_wp2_with fail
    all_goals first
      | (go_ret
         refine ⟨ret_bool ?_, (below_box hb).alloc (below_box hb).size _⟩
         clear hcl hfz
         rw [Bool.eq_iff_iff]
         simp [mayB, fitsB]
         try simp only [bne_eq_false_iff_eq, bne_iff_ne, ne_eq] at *
         omega)
      | (go_ret
         refine ⟨ret_bool ?_, (below_box hb).alloc (below_box hb).size _⟩
         simp [mayB, fitsB]
         done)
      | (refine wp_loop_rounds 6 ?_
         rw [rounds_succ]
         go_wp2
         try (rw [rounds_succ]; go_wp2)
         try (rw [rounds_succ]; go_wp2)
         try (rw [rounds_succ]; go_wp2)
         try (rw [rounds_succ]; go_wp2)
         all_goals
           go_ret
           refine ⟨ret_bool ?_, (below_box hb).alloc (below_box hb).size _⟩
           clear hcl hfz
           rw [Bool.eq_iff_iff]
           simp [mayB, fitsB]
           try simp only [bne_eq_false_iff_eq, bne_iff_ne, ne_eq] at *
           omega)
      | skip
    go_ways
    trace_state
end Go.Proofs.YtocgiapkapekdaaDoor.Isa
