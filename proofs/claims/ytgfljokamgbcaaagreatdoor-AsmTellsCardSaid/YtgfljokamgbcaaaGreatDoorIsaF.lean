/- The walk of isa.formOf: it gives the form 'fm'. -/
import Derived.Test.YtgfljokamgbcaaaGreatDoorRows
import Derived.Test.YtgfljokamgbcaaaGreatDoorForm
import Derived.WalkKit
import Derived.WalkLawsBesides
import Derived.Laws.BitsAllLaws
namespace Go.Proofs.YtgfljokamgbcaaaGreatDoor.Isa
open Go.RowKit

/-- A form as isa has it. -/
def Fm.val (f : Fm) : Value := .agg #[.int .i64 f.n, .int .i64 f.a, .int .i64 f.b, .int .i64 f.k, .int .i64 f.s]

theorem below_alloc1 (w : World) (o : Obj) : Below w.heap.size w (w.alloc o) := (Below.refl _ _).alloc (Nat.le_refl _) _

set_option maxHeartbeats 1000000 in
theorem formOf_c (op : Int) (host : Bool) (w : World) (h0 : 0 ≤ op) (h1 : op < 256) :
    Calls Tryz.prog 38 #[.int .u8 op, .bool host] w fun e w' => e = .returned (fm op host).val ∧ Below w.heap.size w w' := by
  have hc := op_is op host
  generalize fm op host = f at hc ⊢
  rcases hc with ⟨c, rfl⟩ | ⟨c, c', rfl⟩ | ⟨rfl, rfl⟩ | ⟨c, c', rfl⟩ | ⟨rfl, rfl⟩ | ⟨rfl, rfl⟩ | ⟨rfl, rfl⟩ | ⟨rfl, rfl⟩ | ⟨rfl, rfl⟩ | ⟨rfl, rfl⟩ | ⟨rfl, rfl⟩ | ⟨rfl, rfl, rfl⟩ | ⟨rfl, rfl⟩ | ⟨c, c', rfl⟩ | ⟨c, c', rfl⟩ | ⟨rfl, rfl⟩ | ⟨rfl, rfl, rfl⟩ | ⟨rfl, rfl⟩ | ⟨rfl, rfl, rfl⟩ | ⟨rfl, rfl, rfl⟩ | ⟨c, c', rfl⟩ | ⟨c, c', rfl⟩ | ⟨c, c', rfl⟩ | ⟨c, c', rfl⟩ | ⟨c, c', rfl⟩ | ⟨c, c', rfl⟩ | ⟨c, rfl⟩
  all_goals
    first
      | have e58 : (op == 58) = false := beq_eq_false_iff_ne.2 (by omega)
        have e73 : (op == 73) = false := beq_eq_false_iff_ne.2 (by omega)
        have e74 : (op == 74) = false := beq_eq_false_iff_ne.2 (by omega)
        have e56 : (op == 56) = false := beq_eq_false_iff_ne.2 (by omega)
        have e57 : (op == 57) = false := beq_eq_false_iff_ne.2 (by omega)
        have e96 : (op == 96) = false := beq_eq_false_iff_ne.2 (by omega)
        have e97 : (op == 97) = false := beq_eq_false_iff_ne.2 (by omega)
        have e80 : (op == 80) = false := beq_eq_false_iff_ne.2 (by omega)
        have e112 : (op == 112) = false := beq_eq_false_iff_ne.2 (by omega)
        have e33 : (op == 33) = false := beq_eq_false_iff_ne.2 (by omega)
        have e72 : (op == 72) = false := beq_eq_false_iff_ne.2 (by omega)
        have e113 : (op == 113) = false := beq_eq_false_iff_ne.2 (by omega)
        have e32 : (op == 32) = false := beq_eq_false_iff_ne.2 (by omega)
        go_enter Tryz.func38, Tryz.ntmps38
      | go_enter Tryz.func38, Tryz.ntmps38
    go_wp2
    refine bodyPost_ret ?_ rfl ⟨rfl, ?_⟩
    · simp [results, Tryz.results38, go_sem, Fm.val]
    · exact below_alloc1 _ _
end Go.Proofs.YtgfljokamgbcaaaGreatDoor.Isa
