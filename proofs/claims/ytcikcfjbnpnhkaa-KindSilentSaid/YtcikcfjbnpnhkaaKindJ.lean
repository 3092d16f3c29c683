/- The walk of KindSilent. -/
import Derived.Test.YtcikcfjbnpnhkaaKindG
import Derived.Test.YtcikcfjbnpnhkaaFlat
namespace Go.Proofs.Ytcikcfjbnpnhkaa
open Go.RowKit
set_option linter.unusedSimpArgs false
set_option linter.unusedVariables false

theorem grown_base' {w w1 w' : World} {tb : Nat} (h : Below w.heap.size w w1) (ht : w.heap.size ≤ tb) (hg : w1.grownBy w' (some tb)) : Below w.heap.size w w' :=
  h.grown hg h.size (fun k hk => by cases hk; exact ht)

theorem silent_law (op : Int) (h0 : 0 ≤ op) (h1 : op < 256) : hasB (knownF op) 115 = true → ((knownF op).cls = 4 ∧ hasB (knownF op) 120 = false) := by
  have h : ∀ i : Fin 256, hasB (knownF (i.val : Int)) 115 = true → ((knownF (i.val : Int)).cls = 4 ∧ hasB (knownF (i.val : Int)) 120 = false) := by decide +kernel
  obtain ⟨n, rfl⟩ : ∃ n : Nat, op = (n : Int) := ⟨op.toNat, by omega⟩
  exact h ⟨n, by omega⟩

set_option maxRecDepth 100000 in
set_option maxHeartbeats 4000000 in
theorem kindSilent_walk (op : Int) (wo : (Lit.int .u8 op).wf = true) (w : World) :
    Calls Try.prog 5 #[.int .u8 op] w fun e w' => e = .returned (.bool true) ∧ Below w.heap.size w w' := by
  obtain ⟨h0, h1⟩ := bd_u8 wo
  have hN := Lib.hid (new_c w)
  have HC0 := Lib.hid fun (tb : Nat) (w : World) (h : TabIs w tb) => class_c tb 0 w h (by decide) (by decide)
  have HC1 := Lib.hid fun (tb : Nat) (w : World) (h : TabIs w tb) => class_c tb op w h h0 h1
  have HS := Lib.hid fun (tb : Nat) (w : World) (h : TabIs w tb) => silent_c tb op w h h0 h1
  have HF := Lib.hid fun (tb : Nat) (w : World) (h : TabIs w tb) => fails_c tb op w h h0 h1
  have HE := Lib.hid fun (tb : Nat) (w : World) (h : TabIs w tb) => ends_c tb op w h h0 h1
  have e0 : (knownF 0).cls = 1 := by decide +kernel
  have hl := silent_law op h0 h1
  rw [e0] at HC0
  clear e0
  generalize (knownF op).cls = c at HC1 HE hl
  generalize hasB (knownF op) 115 = si at HS hl
  generalize hasB (knownF op) 120 = fl at HF hl
  have HL := Lib.hid hl
  clear hl
  go_enter Try.func5, Try.ntmps5
  go_wp2_with fail
  refine hN.out.mono ?_
  rintro e w1 ⟨rfl, hT1, hs1, hb1⟩
  have HT1 := Lib.hid hT1
  clear hT1
  go_wp2_with fail
  refine (HC0.out _ _ HT1.out).mono ?_
  rintro e w2 ⟨rfl, hT2, hG2⟩
  have HT2 := Lib.hid hT2
  have hB2 := grown_base' hb1 (Nat.le_refl _) hG2
  clear hT2 hG2
  go_wp2_with fail
  refine (HS.out _ _ HT2.out).mono ?_
  rintro e w3 ⟨rfl, hT3, hG3⟩
  have HT3 := Lib.hid hT3
  have hB3 := grown_base' hB2 (Nat.le_refl _) hG3
  clear hT3 hG3
  cases si
  · go_wp2_with fail
    go_ret
    exact ⟨rfl, hB3⟩
  · obtain ⟨rfl, rfl⟩ := HL.out rfl
    go_wp2_with fail
    refine (HC1.out _ _ HT3.out).mono ?_
    rintro e w4 ⟨rfl, hT4, hG4⟩
    have HT4 := Lib.hid hT4
    have hB4 := grown_base' hB3 (Nat.le_refl _) hG4
    clear hT4 hG4
    go_wp2_with fail
    refine (HF.out _ _ HT4.out).mono ?_
    rintro e w5 ⟨rfl, hT5, hG5⟩
    have HT5 := Lib.hid hT5
    have hB5 := grown_base' hB4 (Nat.le_refl _) hG5
    clear hT5 hG5
    go_wp2_with fail
    refine (HE.out _ _ HT5.out).mono ?_
    rintro e w6 ⟨rfl, hT6, hG6⟩
    have hB6 := grown_base' hB5 (Nat.le_refl _) hG6
    clear hT6 hG6
    go_wp2_with fail
    go_ret
    exact ⟨rfl, hB6⟩
end Go.Proofs.Ytcikcfjbnpnhkaa
