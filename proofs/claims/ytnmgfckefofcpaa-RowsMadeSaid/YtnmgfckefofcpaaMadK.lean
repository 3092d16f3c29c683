/- What the table says of an operation: Ends. -/
import Derived.Test.YtnmgfckefofcpaaKindD
import Derived.Test.YtnmgfckefofcpaaKindS
namespace Go.Proofs.Ytnmgfckefofcpaa
open Go.RowKit
set_option maxRecDepth 100000
set_option linter.unusedSimpArgs false
set_option linter.unusedVariables false

/-- Does a letter stand among what is known? -/
def hasB (k : Kn) (c : Int) : Bool := k.is.any fun x => decide ((x.toNat : Int) = c)

theorem kret_bool {a b : Bool} (h : a = b) : Ending.returned (.bool a) = .returned (.bool b) := by rw [h]

theorem any_hit {l : List UInt8} {c : Int} {j : Nat} (h : j < l.length) (hc : (l[j].toNat : Int) = c) : (l.any fun x => decide ((x.toNat : Int) = c)) = true := by
  rw [List.any_eq_true]
  exact ⟨l[j], List.getElem_mem h, by simpa using hc⟩

theorem any_miss {l : List UInt8} {c : Int} (h : ∀ i (hi : i < l.length), (l[i].toNat : Int) ≠ c) : (l.any fun x => decide ((x.toNat : Int) = c)) = false := by
  rw [List.any_eq_false]
  intro x hx
  obtain ⟨i, hi, rfl⟩ := List.getElem_of_mem hx
  simpa using h i hi

/-- What a call on the table leaves: the table filled, nothing else turned. -/
def TabPost (w : World) (tb : Nat) (v : Value) (e : Ending) (w' : World) : Prop := e = .returned v ∧ TabIs w' tb ∧ w.grownBy w' (some tb)

theorem tab_below {w w' : World} {tb : Nat} (h : TabIs w tb) (hb : Below w.heap.size w w') : TabIs w' tb :=
  tab_kept h ⟨hb.os, hb.tape, hb.output, hb.size, fun k hk _ => hb.block k hk⟩
theorem grown_below {w w1 w' : World} {tb : Nat} (h : w.grownBy w1 (some tb)) (hb : Below w1.heap.size w1 w') : w.grownBy w' (some tb) :=
  h.trans ⟨hb.os, hb.tape, hb.output, hb.size, fun k hk _ => hb.block k hk⟩

set_option maxHeartbeats 1000000 in
theorem ends_c (tb : Nat) (op : Int) (w : World) (h : TabIs w tb) (h0 : 0 ≤ op) (h1 : op < 256) :
    Calls Try.prog 37 #[.pointer (some ⟨tb, 0, none⟩), .int .u8 op] w (TabPost w tb (.bool (decide (3 ≤ (knownF op).cls)))) := by
  have hO := Lib.hid (of_c tb op w h h0 h1)
  have hfl : ∀ (c : Int) (s : ByteArray) (w : World), (Instr.field 107 (.agg #[.int .i64 c, .string s]) 0).run Try.prog w = .ok (.int .i64 c) w := fun _ _ _ => by kernel_rfl
  clear h
  go_enter Try.func37, Try.ntmps37
  go_wp2_with fail
  refine hO.out.mono ?_
  rintro e w1 ⟨rfl, hF, hG⟩
  have HF := Lib.hid hF
  have HG := Lib.hid hG
  clear hF hG
  unfold Kn.val
  go_wp2_with fail
  go_ret
  exact ⟨rfl, .inr HF.out, HG.out⟩


theorem new_c (w : World) : Calls Try.prog 36 #[] w fun e w' => e = .returned (.pointer (some ⟨w.heap.size, 0, none⟩)) ∧ TabIs w' w.heap.size ∧ w.heap.size < w'.heap.size ∧ Below w.heap.size w w' := by
  go_enter Try.func36, Try.ntmps36
  go_wp2_with fail
  go_ret
  refine ⟨rfl, .inl ⟨by go_simp, by go_simp, by go_simp, by go_simp, fun j => by go_simp⟩, by simp, kbelow_alloc1 _ _⟩
end Go.Proofs.Ytnmgfckefofcpaa
