/- The walks of asm's directive and of the closure that 'do' defers. -/
import Derived.Test.YtgfljokamgbcaaaGreatDoorAsO
import Derived.Test.YtgfljokamgbcaaaGreatDoorAsI
import Derived.Test.YtgfljokamgbcaaaGreatDoorAsG
import Derived.Test.YtgfljokamgbcaaaGreatDoorAsK
import Derived.Defers
import Derived.Recover
namespace Go.Proofs.YtgfljokamgbcaaaGreatDoor
open Go.RowKit
set_option linter.unusedSimpArgs false
set_option linter.unusedVariables false
set_option maxRecDepth 100000

def mthV (N wk : Nat) : Value := .func (.func N) #[.pointer (some ⟨wk, 0, none⟩)] #[]
/-- What 'directive' hands back. -/
def dirV (wk : Nat) (w : Wd) : Value :=
  if w = wOrg then mthV 47 wk
  else if w = wSpace then mthV 48 wk
  else if w = wAlign then mthV 49 wk
  else if w = wByte then mthV 50 wk
  else if w = wWord then mthV 51 wk
  else if w = wText then mthV 52 wk
  else .nilFunc

theorem ba_toListA (s : List UInt8) : (⟨s.toArray⟩ : ByteArray).toList = s := by
  rw [empty_toList]
theorem str_eqA (s t : List UInt8) : ((⟨s.toArray⟩ : ByteArray).toList == t) = decide (s = t) := by
  rw [ba_toListA, Bool.eq_iff_iff]
  simp

set_option maxHeartbeats 4000000 in
theorem directive_c (wk : Nat) (s : Wd) (w : World) :
    Calls Tryz.prog 27 #[.pointer (some ⟨wk, 0, none⟩), .string ⟨s.toArray⟩] w fun e w' => e = .returned (dirV wk s) ∧ w' = w := by
  have hmf : ∀ (fn : Fn) (first cap : Array Value) (w : World), (Instr.makeFunc fn first cap).run Tryz.prog w = .ok (.func fn first cap) w := fun _ _ _ _ => rfl
  have hX := str_eqA s
  obtain ⟨V, hV⟩ : ∃ V, dirV wk s = V := ⟨_, rfl⟩
  rw [hV]
  unfold dirV at hV
  have hc : s = wOrg ∨ s = wSpace ∨ s = wAlign ∨ s = wByte ∨ s = wWord ∨ s = wText ∨ (s ≠ wOrg ∧ s ≠ wSpace ∧ s ≠ wAlign ∧ s ≠ wByte ∧ s ≠ wWord ∧ s ≠ wText) := by
    by_cases h1 : s = wOrg
    · exact .inl h1
    by_cases h2 : s = wSpace
    · exact .inr (.inl h2)
    by_cases h3 : s = wAlign
    · exact .inr (.inr (.inl h3))
    by_cases h4 : s = wByte
    · exact .inr (.inr (.inr (.inl h4)))
    by_cases h5 : s = wWord
    · exact .inr (.inr (.inr (.inr (.inl h5))))
    by_cases h6 : s = wText
    · exact .inr (.inr (.inr (.inr (.inr (.inl h6)))))
    exact .inr (.inr (.inr (.inr (.inr (.inr ⟨h1, h2, h3, h4, h5, h6⟩)))))
  rcases hc with rfl | rfl | rfl | rfl | rfl | rfl | ⟨n1, n2, n3, n4, n5, n6⟩
  case' inr.inr.inr.inr.inr.inr =>
    rw [if_neg n1, if_neg n2, if_neg n3, if_neg n4, if_neg n5, if_neg n6] at hV
    have e1 := (hX wOrg).trans (decide_eq_false n1)
    have e2 := (hX wSpace).trans (decide_eq_false n2)
    have e3 := (hX wAlign).trans (decide_eq_false n3)
    have e4 := (hX wByte).trans (decide_eq_false n4)
    have e5 := (hX wWord).trans (decide_eq_false n5)
    have e6 := (hX wText).trans (decide_eq_false n6)
    clear hX n1 n2 n3 n4 n5 n6
    unfold wOrg at e1
    unfold wSpace at e2
    unfold wAlign at e3
    unfold wByte at e4
    unfold wWord at e5
    unfold wText at e6
    generalize (⟨s.toArray⟩ : ByteArray) = sb at e1 e2 e3 e4 e5 e6 ⊢
  all_goals
    subst hV
    go_enter Tryz.func27, Tryz.ntmps27
    go_wp2
    go_ret
    first
      | exact ⟨rfl, rfl⟩
      | (refine ⟨?_, rfl⟩; congr 1; kernel_rfl)

/-- A frame, and a store into a block that was not there before. -/
theorem Fr.setNew {base pb : Nat} {w w' : World} (h : Fr base pb w w') (b i : Nat) (v : Value) (hb : w.heap.size ≤ b) (hs : base ≤ w.heap.size) : Fr base pb w (w'.setCell ⟨b, i, none⟩ v) :=
  ⟨h.below.setCell (p := ⟨b, i, none⟩) (Nat.le_trans hs hb) _, fun g o hg ho hne => (Below.heap_setCell _ _ _ _ (fun e => by
    have e : g = b := e
    have := heap_ltA hg
    omega)).trans (h.out g o hg ho hne)⟩

theorem catch_idle (a : Value) (w : World) :
    CallsD Tryz.prog 25 #[a] .returning w fun e u' w' => e = .returned (.tuple #[]) ∧ u' = .returning ∧ w' = w := by
  refine callsD_of_wpS Tryz.func25 rfl fun c₀ cs hu => ?_
  have hz : (#[a] ++ Array.replicate (Tryz.f25.ntmps - (#[a] : Array Value).size) undef) = #[a, undef, undef, undef, undef, undef, undef, undef, undef, undef, undef, undef, undef, undef, undef, undef, undef] := by kernel_rfl
  rw [hz]
  clear hz
  apply wpS_seq
  apply wpS_region
  simp [wpOpsS, go_sem, recoverD, hu, Exit.thenS]
  refine wpS_of_wp ?_
  go_wp2_with fail
  exact ⟨rfl, .returning, by rw [← hu], .tuple #[], results_none rfl _ _ _, rfl, rfl, rfl⟩

set_option maxHeartbeats 4000000 in
theorem catch_panic (eb : Nat) (er v : Int) (w : World) (h1 : w.heap[eb]? = some (.cells #[.int .i64 v] 28 (0, 0))) :
    CallsD Tryz.prog 25 #[.pointer (some ⟨eb, 0, none⟩)] (.panicking (wrongP er)) w fun e u' w' => e = .returned (.tuple #[]) ∧ u' = .panicking [{ v := .iface 78 (.agg #[.int .i64 er]), recovered := true }] ∧
      w' = (w.setCell ⟨eb, 0, none⟩ (.int .i64 er)).alloc (.cells #[.int .i64 er] 78) := by
  have hta : ∀ (c : Int) (w : World), (Instr.typeAssert (.iface 78 (.agg #[.int .i64 c])) 20 78 true).run Tryz.prog w = .ok (.tuple #[.agg #[.int .i64 c], .bool true]) w := fun _ _ => by kernel_rfl
  have l1 : eb < w.heap.size := (Array.getElem?_eq_some_iff.1 h1).1
  have k1 : w.cell? ⟨eb, 0, none⟩ = some (.int .i64 v) := cell_of_row w _ 0 _ _ _ h1
  have f1 : w.frozen? ⟨eb, 0, none⟩ = false := frozen_of_row w _ 0 _ _ h1
  unfold wrongP
  refine callsD_of_wpS Tryz.func25 rfl fun c₀ cs hu => ?_
  have hz : (#[.pointer (some ⟨eb, 0, none⟩)] ++ Array.replicate (Tryz.f25.ntmps - (#[.pointer (some ⟨eb, 0, none⟩)] : Array Value).size) undef) = #[.pointer (some ⟨eb, 0, none⟩), undef, undef, undef, undef, undef, undef, undef, undef, undef, undef, undef, undef, undef, undef, undef, undef] := by kernel_rfl
  rw [hz]
  clear hz
  apply wpS_seq
  apply wpS_region
  simp [wpOpsS, go_sem, recoverD, hu, Exit.thenS]
  refine wpS_of_wp ?_
  go_wp2_with fail
  exact ⟨rfl, _, rfl, .tuple #[], results_none rfl _ _ _, rfl, rfl, rfl⟩
end Go.Proofs.YtgfljokamgbcaaaGreatDoor
