/- The walks of the document's Of and May (mummerref02). -/
import Derived.Test.YtgfljokamgbcaaaGreatDoorIsaM
namespace Go.Proofs.YtgfljokamgbcaaaGreatDoor.Isa
open Go.RowKit

/-- A form as the document has it. -/
def Fm.rval (f : Fm) : Value := .agg #[.int .i64 f.n, .bool (decide (f.a = 1)), .bool (decide (f.b = 1)), .int .i64 f.k, .bool (decide (f.s = 1))]

set_option maxHeartbeats 4000000 in
theorem refOf_c (op : Int) (host : Bool) (w : World) (h0 : 0 ≤ op) (h1 : op < 256) :
    Calls Tryz.prog 33 #[.int .u8 op, .bool host] w fun e w' => e = .returned (fm op host).rval ∧ Below w.heap.size w w' := by
  have hc := op_is op host
  generalize fm op host = f at hc ⊢
  rcases hc with ⟨c, rfl⟩ | ⟨c, c', rfl⟩ | ⟨rfl, rfl⟩ | ⟨c, c', rfl⟩ | ⟨rfl, rfl⟩ | ⟨rfl, rfl⟩ | ⟨rfl, rfl⟩ | ⟨rfl, rfl⟩ | ⟨rfl, rfl⟩ | ⟨rfl, rfl⟩ | ⟨rfl, rfl⟩ | ⟨rfl, rfl, rfl⟩ | ⟨rfl, rfl⟩ | ⟨c, c', rfl⟩ | ⟨c, c', rfl⟩ | ⟨rfl, rfl⟩ | ⟨rfl, rfl, rfl⟩ | ⟨rfl, rfl⟩ | ⟨rfl, rfl, rfl⟩ | ⟨rfl, rfl, rfl⟩ | ⟨c, c', rfl⟩ | ⟨c, c', rfl⟩ | ⟨c, c', rfl⟩ | ⟨c, c', rfl⟩ | ⟨c, c', rfl⟩ | ⟨c, c', rfl⟩ | ⟨c, rfl⟩
  case' inl => obtain rfl | rfl | rfl | rfl : op = 0 ∨ op = 1 ∨ op = 2 ∨ op = 3 := by omega
  case' inr.inr.inr.inl => obtain rfl | rfl | rfl | rfl : op = 98 ∨ op = 99 ∨ op = 100 ∨ op = 101 := by omega
  all_goals
    first
      | have e58 : (op == 58) = false := beq_eq_false_iff_ne.2 (by omega)
        have e73 : (op == 73) = false := beq_eq_false_iff_ne.2 (by omega)
        have e74 : (op == 74) = false := beq_eq_false_iff_ne.2 (by omega)
        have e56 : (op == 56) = false := beq_eq_false_iff_ne.2 (by omega)
        have e57 : (op == 57) = false := beq_eq_false_iff_ne.2 (by omega)
        have e96 : (op == 96) = false := beq_eq_false_iff_ne.2 (by omega)
        have e97 : (op == 97) = false := beq_eq_false_iff_ne.2 (by omega)
        have e98 : (op == 98) = false := beq_eq_false_iff_ne.2 (by omega)
        have e99 : (op == 99) = false := beq_eq_false_iff_ne.2 (by omega)
        have e100 : (op == 100) = false := beq_eq_false_iff_ne.2 (by omega)
        have e101 : (op == 101) = false := beq_eq_false_iff_ne.2 (by omega)
        have e80 : (op == 80) = false := beq_eq_false_iff_ne.2 (by omega)
        have e112 : (op == 112) = false := beq_eq_false_iff_ne.2 (by omega)
        have e33 : (op == 33) = false := beq_eq_false_iff_ne.2 (by omega)
        have e113 : (op == 113) = false := beq_eq_false_iff_ne.2 (by omega)
        have e32 : (op == 32) = false := beq_eq_false_iff_ne.2 (by omega)
        have e0 : (op == 0) = false := beq_eq_false_iff_ne.2 (by omega)
        have e1 : (op == 1) = false := beq_eq_false_iff_ne.2 (by omega)
        have e2 : (op == 2) = false := beq_eq_false_iff_ne.2 (by omega)
        have e3 : (op == 3) = false := beq_eq_false_iff_ne.2 (by omega)
        go_enter Tryz.func33, Tryz.ntmps33
      | go_enter Tryz.func33, Tryz.ntmps33
    go_wp2
    refine bodyPost_ret ?_ rfl ⟨rfl, ?_⟩
    · simp [results, Tryz.results33, go_sem, Fm.rval]
    · exact below_alloc1 _ _
end Go.Proofs.YtgfljokamgbcaaaGreatDoor.Isa
