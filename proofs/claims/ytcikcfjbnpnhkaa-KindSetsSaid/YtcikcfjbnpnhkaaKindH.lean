/- The document's Of (mummerref03); what the table says is what the document says; the walks of KindClasses and KindAsks. -/
import Derived.Test.YtcikcfjbnpnhkaaKindF
import Derived.Test.YtcikcfjbnpnhkaaKindG
import Derived.Deep.RegionHeld3
import Derived.Test.YtcikcfjbnpnhkaaFlat
namespace Go.Proofs.Ytcikcfjbnpnhkaa
open Go.RowKit
set_option linter.unusedSimpArgs false
set_option linter.unusedVariables false

def endB (c : Int) : Bool := decide (c = 3) || (decide (c = 4) || decide (c = 5))

set_option maxRecDepth 100000 in
set_option maxHeartbeats 4000000 in
theorem refOf3_c (op : Int) (h0 : 0 ≤ op) (h1 : op < 256) (w : World) :
    Calls Try.prog 10 #[.int .u8 op] w fun e w' => e = .returned ((rowF op).val (endB (rowF op).cls)) ∧ Below w.heap.size w w' := by
  have HS := Lib.hid fun w => row_c op h0 h1 w
  generalize rowF op = x at HS ⊢
  obtain ⟨x1, x2, x3, x4, x5, x6, x7, x8, x9, x10⟩ := x
  unfold RK.val at HS ⊢
  simp only
  have hc : x1 = 3 ∨ x1 = 4 ∨ x1 = 5 ∨ (x1 ≠ 3 ∧ x1 ≠ 4 ∧ x1 ≠ 5) := by omega
  rcases hc with rfl | rfl | rfl | ⟨n3, n4, n5⟩
  case' inr.inr.inr =>
    have e3 : (x1 == 3) = false := beq_eq_false_iff_ne.2 n3
    have e4 : (x1 == 4) = false := beq_eq_false_iff_ne.2 n4
    have e5 : (x1 == 5) = false := beq_eq_false_iff_ne.2 n5
    have hen : endB x1 = false := by simp [endB, n3, n4, n5]
    rw [hen]
    clear hen n3 n4 n5
  case' inl => rw [show endB 3 = true from rfl]
  case' inr.inl => rw [show endB 4 = true from rfl]
  case' inr.inr.inl => rw [show endB 5 = true from rfl]
  all_goals
    go_enter Try.func10, Try.ntmps10
    go_wp2_with fail
    refine (HS.out _).mono ?_
    rintro e w1 ⟨rfl, hb⟩
    obtain ⟨hcl, hfz⟩ := kbcell hb
    have hz : w.heap.size < w1.heap.size := by have := hb.size; simp at this; omega
    have hB := kbelow_box hb
    go_wp2_with fail
    refine bodyPost_ret (v := RK.val ⟨_, x2, x3, x4, x5, x6, x7, x8, x9, x10⟩ _) ?_ rfl ⟨rfl, ?_⟩
    · unfold RK.val
      simp [results, Try.results10, go_sem, hcl, hz]
    · clear hcl hfz
      repeat (first | with_reducible exact hB | with_reducible refine Below.setCell ?_ (by simp) _ | with_reducible refine Below.alloc ?_ (by simp; omega) _)

theorem known_row (op : Int) (h0 : 0 ≤ op) (h1 : op < 256) : (rowF op).cls = (knownF op).cls ∧ endB (knownF op).cls = decide (3 ≤ (knownF op).cls) ∧ (rowF op).tn = hasB (knownF op) 102 ∧ (rowF op).fl = hasB (knownF op) 120 ∧ (rowF op).si = hasB (knownF op) 115 := by
  have h : ∀ i : Fin 256, (rowF (i.val : Int)).cls = (knownF (i.val : Int)).cls ∧ endB (knownF (i.val : Int)).cls = decide (3 ≤ (knownF (i.val : Int)).cls) ∧ (rowF (i.val : Int)).tn = hasB (knownF (i.val : Int)) 102 ∧ (rowF (i.val : Int)).fl = hasB (knownF (i.val : Int)) 120 ∧ (rowF (i.val : Int)).si = hasB (knownF (i.val : Int)) 115 := by decide +kernel
  obtain ⟨n, rfl⟩ : ∃ n : Nat, op = (n : Int) := ⟨op.toNat, by omega⟩
  exact h ⟨n, by omega⟩

theorem grown_base {w w1 w' : World} {tb : Nat} (h : Below w.heap.size w w1) (ht : w.heap.size ≤ tb) (hg : w1.grownBy w' (some tb)) : Below w.heap.size w w' :=
  h.grown hg h.size (fun k hk => by cases hk; exact ht)

theorem grown_cell {w1 w' : World} {tb b j : Nat} {v : Value} (hg : w1.grownBy w' (some tb)) (h : w1.cell? ⟨b, j, none⟩ = some v) (hne : b ≠ tb) : w'.cell? ⟨b, j, none⟩ = some v :=
  hg.cell h (by simpa using hne)

end Go.Proofs.Ytcikcfjbnpnhkaa
