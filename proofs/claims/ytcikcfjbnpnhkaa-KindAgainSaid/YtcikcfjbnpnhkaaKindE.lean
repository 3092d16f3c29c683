/- The document's table of operations (mummerref03): row, sense, Of. -/
import Derived.Test.YtcikcfjbnpnhkaaRows
import Derived.WalkKit
import Derived.WalkLawsBesides
import Derived.Lib.Hide
import Derived.Below
namespace Go.Proofs.Ytcikcfjbnpnhkaa
open Go.RowKit
set_option linter.unusedSimpArgs false
set_option linter.unusedVariables false

/-- A line of the document's table. -/
structure RK where
  cls : Int
  ra : Bool
  rb : Bool
  wa : Bool
  ln : Bool
  sd : Bool
  st : Bool
  tn : Bool
  fl : Bool
  si : Bool

def RK.val (r : RK) (en : Bool) : Value := .agg #[.int .i64 r.cls, .bool r.ra, .bool r.rb, .bool r.wa, .bool r.ln, .bool r.sd, .bool r.st, .bool r.tn, .bool r.fl, .bool r.si, .bool en]

def senseF (op : Int) : RK :=
  if op = 1 then ⟨4, false, false, false, false, false, false, false, true, false⟩
  else if op = 2 then ⟨4, false, false, false, false, false, false, true, false, true⟩
  else if op = 3 then ⟨4, false, false, false, false, false, false, false, false, true⟩
  else if op = 96 ∨ op = 98 then ⟨4, false, false, true, false, false, false, false, false, true⟩
  else if op = 97 then ⟨4, true, false, false, false, false, false, true, false, true⟩
  else if op = 99 ∨ op = 101 then ⟨4, true, false, false, false, false, false, false, true, false⟩
  else if op = 100 then ⟨4, false, false, true, false, false, false, false, true, false⟩
  else if op = 112 ∨ op = 113 then ⟨5, false, false, false, false, false, false, false, false, false⟩
  else ⟨0, false, false, false, false, false, false, false, false, false⟩

def rowF (op : Int) : RK :=
  if op = 0 then ⟨1, false, false, false, false, false, false, false, false, false⟩
  else if op = 16 then ⟨1, false, true, true, false, false, false, false, false, false⟩
  else if 17 ≤ op ∧ op ≤ 30 ∧ op ≠ 26 then (if op = 25 ∨ op = 30 then ⟨1, true, true, true, false, false, false, true, true, false⟩ else ⟨1, true, true, true, false, false, false, true, false, false⟩)
  else if op = 26 ∨ op = 31 then ⟨1, true, true, false, false, false, false, true, false, false⟩
  else if op = 32 then ⟨1, false, false, true, false, false, false, false, false, false⟩
  else if op = 33 then ⟨1, true, false, true, false, false, false, true, false, false⟩
  else if op = 48 ∨ op = 50 ∨ op = 52 ∨ op = 54 ∨ op = 55 then ⟨2, false, true, true, false, false, false, false, true, false⟩
  else if op = 56 then ⟨2, true, false, false, false, true, true, false, true, false⟩
  else if op = 57 then ⟨2, false, false, true, false, true, true, false, true, false⟩
  else if op = 58 then ⟨2, true, true, true, false, false, false, false, true, false⟩
  else if op = 49 ∨ op = 51 ∨ op = 53 then ⟨2, true, true, false, false, false, false, false, true, false⟩
  else if 64 ≤ op ∧ op ≤ 71 then ⟨3, false, false, false, false, false, false, false, false, false⟩
  else if op = 72 then ⟨3, false, false, false, true, false, false, false, false, false⟩
  else if op = 73 then ⟨3, true, false, false, false, false, false, false, false, false⟩
  else if op = 74 then ⟨3, true, false, false, true, false, false, false, false, false⟩
  else if op = 80 then ⟨3, false, false, false, false, false, false, false, true, false⟩
  else senseF op

theorem kbelow_alloc1 (w : World) (o : Obj) : Below w.heap.size w (w.alloc o) := (Below.refl _ _).alloc (Nat.le_refl _) _

/-- The operations that its tests name. -/
def senseLits : List Int := [1, 2, 3, 96, 98, 97, 99, 101, 100, 112, 113]

set_option maxRecDepth 100000 in
set_option maxHeartbeats 4000000 in
theorem sense_c_lit (op : Int) (h : op ∈ senseLits) (w : World) :
    Calls Try.prog 27 #[.int .u8 op] w fun e w' => e = .returned ((senseF op).val false) ∧ Below w.heap.size w w' := by
  simp only [senseLits, List.mem_cons, List.mem_nil_iff, or_false] at h
  rcases h with rfl | rfl | rfl | rfl | rfl | rfl | rfl | rfl | rfl | rfl | rfl
  all_goals
    go_enter Try.func27, Try.ntmps27
    go_wp2
    refine bodyPost_ret (v := (senseF _).val false) ?_ rfl ⟨rfl, kbelow_alloc1 _ _⟩
    simp [results, Try.results27, go_sem, RK.val, senseF]

set_option maxRecDepth 100000 in
set_option maxHeartbeats 4000000 in
theorem sense_c_no (op : Int) (h0 : 0 ≤ op) (h1 : op < 256) (hn : op ∉ senseLits) (w : World) :
    Calls Try.prog 27 #[.int .u8 op] w fun e w' => e = .returned ((senseF op).val false) ∧ Below w.heap.size w w' := by
  simp only [senseLits, List.mem_cons, List.mem_nil_iff, or_false, not_or] at hn
  have e1 : (op == 1) = false := beq_eq_false_iff_ne.2 (by omega)
  have n1 : (op != 1) = true := bne_iff_ne.2 (by omega)
  have e2 : (op == 2) = false := beq_eq_false_iff_ne.2 (by omega)
  have n2 : (op != 2) = true := bne_iff_ne.2 (by omega)
  have e3 : (op == 3) = false := beq_eq_false_iff_ne.2 (by omega)
  have n3 : (op != 3) = true := bne_iff_ne.2 (by omega)
  have e96 : (op == 96) = false := beq_eq_false_iff_ne.2 (by omega)
  have n96 : (op != 96) = true := bne_iff_ne.2 (by omega)
  have e98 : (op == 98) = false := beq_eq_false_iff_ne.2 (by omega)
  have n98 : (op != 98) = true := bne_iff_ne.2 (by omega)
  have e97 : (op == 97) = false := beq_eq_false_iff_ne.2 (by omega)
  have n97 : (op != 97) = true := bne_iff_ne.2 (by omega)
  have e99 : (op == 99) = false := beq_eq_false_iff_ne.2 (by omega)
  have n99 : (op != 99) = true := bne_iff_ne.2 (by omega)
  have e101 : (op == 101) = false := beq_eq_false_iff_ne.2 (by omega)
  have n101 : (op != 101) = true := bne_iff_ne.2 (by omega)
  have e100 : (op == 100) = false := beq_eq_false_iff_ne.2 (by omega)
  have n100 : (op != 100) = true := bne_iff_ne.2 (by omega)
  have e112 : (op == 112) = false := beq_eq_false_iff_ne.2 (by omega)
  have n112 : (op != 112) = true := bne_iff_ne.2 (by omega)
  have e113 : (op == 113) = false := beq_eq_false_iff_ne.2 (by omega)
  have n113 : (op != 113) = true := bne_iff_ne.2 (by omega)
  have hF : senseF op = ⟨0, false, false, false, false, false, false, false, false, false⟩ := by unfold senseF; repeat (first | rw [if_pos (by omega)] | rw [if_neg (by omega)])
  rw [hF]
  clear hF
  go_enter Try.func27, Try.ntmps27
  go_wp2
  refine bodyPost_ret (v := RK.val _ false) ?_ rfl ⟨rfl, kbelow_alloc1 _ _⟩
  simp [results, Try.results27, go_sem, RK.val]

theorem sense_c (op : Int) (h0 : 0 ≤ op) (h1 : op < 256) (w : World) :
    Calls Try.prog 27 #[.int .u8 op] w fun e w' => e = .returned ((senseF op).val false) ∧ Below w.heap.size w w' := by
  by_cases h : op ∈ senseLits
  · exact sense_c_lit op h w
  exact sense_c_no op h0 h1 h  w

theorem kbcell {W w1 : World} (hb : Below W.heap.size W w1) : (∀ b o, b < W.heap.size → w1.cell? ⟨b, o, none⟩ = W.cell? ⟨b, o, none⟩) ∧ (∀ b o, b < W.heap.size → w1.frozen? ⟨b, o, none⟩ = W.frozen? ⟨b, o, none⟩) :=
  ⟨fun b o h => hb.cell (p := ⟨b, o, none⟩) h, fun b o h => hb.frozen (p := ⟨b, o, none⟩) h⟩
theorem kbelow_box {w w1 : World} {o : Obj} (h : Below (w.alloc o).heap.size (w.alloc o) w1) : Below w.heap.size w w1 := (kbelow_alloc1 w o).trans (h.mono (by simp))
theorem kbelow_next {a w w1 : World} (h : Below a.heap.size a w) (h1 : Below w.heap.size w w1) : Below a.heap.size a w1 := h.trans (h1.mono h.size)

end Go.Proofs.Ytcikcfjbnpnhkaa
