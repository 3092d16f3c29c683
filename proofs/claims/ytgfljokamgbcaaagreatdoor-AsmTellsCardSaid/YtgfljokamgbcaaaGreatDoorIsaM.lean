/- The walks of isa.Size, fits and isa.May. -/
import Derived.Test.YtgfljokamgbcaaaGreatDoorIsaF
import Derived.Lib.Hide
namespace Go.Proofs.YtgfljokamgbcaaaGreatDoor.Isa
open Go.RowKit

theorem ret_int {k : IntKind} {a b : Int} (h : a = b) : Ending.returned (.int k a) = .returned (.int k b) := by rw [h]
theorem ret_bool {a b : Bool} (h : a = b) : Ending.returned (.bool a) = .returned (.bool b) := by rw [h]

set_option maxHeartbeats 1000000 in
theorem size_c (op : Int) (host : Bool) (w : World) (h0 : 0 ≤ op) (h1 : op < 256) :
    Calls Tryz.prog 54 #[.int .u8 op, .bool host] w fun e w' => e = .returned (.int .i64 (fm op host).n) ∧ Below w.heap.size w w' := by
  have hi : ∀ (a b c d e : Int) (w : World), (Instr.index 96 (.agg #[.int .i64 a, .int .i64 b, .int .i64 c, .int .i64 d, .int .i64 e]) (.int .i64 0)).run Tryz.prog w = .ok (.int .i64 a) w := fun _ _ _ _ _ _ => by kernel_rfl
  go_enter Tryz.func54, Tryz.ntmps54
  go_wp2_with (go_at_call 38; refine (formOf_c op host _ h0 h1).mono ?_; rintro e w1 ⟨rfl, hb⟩; unfold Fm.val)
  go_ret
  exact ⟨rfl, hb⟩

set_option maxHeartbeats 1000000 in
theorem fits_c (f : Fm) (imm : Int) (w : World) (hf : fmIs f) (h0 : -2147483648 ≤ imm) (h1 : imm < 2147483648) :
    Calls Tryz.prog 39 #[f.val, .int .i32 imm] w fun e w' => e = .returned (.bool (fitsB f imm)) ∧ Below w.heap.size w w' := by
  rcases hf with rfl | rfl | rfl | rfl | rfl | rfl | rfl | rfl | rfl | rfl
  all_goals
    unfold Fm.val
    go_enter Tryz.func39, Tryz.ntmps39
    go_wp2
    all_goals
      go_ret
      exact ⟨ret_bool (by first | rfl | (simp [fitsB]; done) | (simp [fitsB]; omega)), below_alloc1 _ _⟩

theorem bcell {W w1 : World} (hb : Below W.heap.size W w1) : (∀ b o, b < W.heap.size → w1.cell? ⟨b, o, none⟩ = W.cell? ⟨b, o, none⟩) ∧ (∀ b o, b < W.heap.size → w1.frozen? ⟨b, o, none⟩ = W.frozen? ⟨b, o, none⟩) :=
  ⟨fun b o h => hb.cell (p := ⟨b, o, none⟩) h, fun b o h => hb.frozen (p := ⟨b, o, none⟩) h⟩

theorem below_box {w w1 : World} {o : Obj} (h : Below (w.alloc o).heap.size (w.alloc o) w1) : Below w.heap.size w w1 := (below_alloc1 w o).trans (h.mono (by simp))
theorem below_box2 {a w w1 : World} {o : Obj} (h : Below a.heap.size a w) (h1 : Below (w.alloc o).heap.size (w.alloc o) w1) : Below a.heap.size a w1 := (h.alloc h.size o).trans (h1.mono (by have := h.size; simp; omega))
theorem below_next {a w w1 : World} (h : Below a.heap.size a w) (h1 : Below w.heap.size w w1) : Below a.heap.size a w1 := h.trans (h1.mono h.size)

/-- An instruction as a value. -/
def insV (op a b imm : Int) : Value := .agg #[.int .u8 op, .int .u8 a, .int .u8 b, .int .i32 imm]

theorem mayB_of {f : Fm} {a b imm : Int} (hn : f.n ≠ 0) (ha : a ≤ 7 * f.a) (hb : b ≤ 7 * f.b) : fitsB f imm = mayB f a b imm := by simp [mayB, hn, ha, hb]

theorem neForm (f : Fm) (hf : fmIs f) (w : World) : (binOp .neq 96 f.val (.agg #[.int .i64 0, .int .i64 0, .int .i64 0, .int .i64 0, .int .i64 0])).run Tryz.prog w = .ok (.bool (decide (f.n ≠ 0))) w := by
  rcases hf with rfl | rfl | rfl | rfl | rfl | rfl | rfl | rfl | rfl | rfl
  all_goals kernel_rfl

set_option maxHeartbeats 2000000 in
theorem may_c (op a b imm : Int) (host : Bool) (w : World) (h0 : 0 ≤ op) (h1 : op < 256) (h2 : 0 ≤ a) (h3 : a < 256) (h4 : 0 ≤ b) (h5 : b < 256) (h6 : -2147483648 ≤ imm) (h7 : imm < 2147483648) :
    Calls Tryz.prog 18 #[insV op a b imm, .bool host] w fun e w' => e = .returned (.bool (mayB (fm op host) a b imm)) ∧ Below w.heap.size w w' := by
  have hc := fun w => formOf_c op host w h0 h1
  have hF := fm_is op host
  generalize fm op host = f at hc hF ⊢
  have hf := fun w => fits_c f imm w hF h6 h7
  have HC := Lib.hid hc
  have HF := Lib.hid hf
  have HN := hF
  clear hc hf
  unfold insV
  rcases hF with rfl | rfl | rfl | rfl | rfl | rfl | rfl | rfl | rfl | rfl
  all_goals
    go_enter Tryz.func18, Tryz.ntmps18
    go_wp2_with fail
    refine (HC.out _).mono ?_
    rintro e w1 ⟨rfl, hb⟩
    have hn := neForm _ HN
    unfold Fm.val at hn ⊢
    obtain ⟨hcl, hfz⟩ := bcell hb
    have hz : w.heap.size < w1.heap.size := by have := hb.size; simp at this; omega
    go_wp2_with fail
    all_goals first
      | (go_ret
         exact ⟨ret_bool (by first | rfl | (simp [mayB]; done) | (simp [mayB]; omega)), (below_box hb).alloc (below_box hb).size _⟩)
      | (have hF1 := HF.out
         unfold Fm.val at hF1
         refine (hF1 _).mono ?_
         rintro e w2 ⟨rfl, hb2⟩
         go_wp2_with fail
         go_ret
         exact ⟨ret_bool (mayB_of (by simp) (by simp; omega) (by simp; omega)), below_box2 (below_box hb) hb2⟩)
end Go.Proofs.YtgfljokamgbcaaaGreatDoor.Isa
