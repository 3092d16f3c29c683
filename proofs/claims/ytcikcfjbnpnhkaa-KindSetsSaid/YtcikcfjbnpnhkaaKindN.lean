/- The walk of KindSets. -/
import Derived.Test.YtcikcfjbnpnhkaaKindM
namespace Go.Proofs.Ytcikcfjbnpnhkaa
open Go.RowKit
set_option linter.unusedSimpArgs false
set_option linter.unusedVariables false

theorem known_regs (op : Int) (h0 : 0 ≤ op) (h1 : op < 256) : hasB (knownF op) 97 = (rowF op).ra ∧ hasB (knownF op) 98 = (rowF op).rb ∧ hasB (knownF op) 112 = (rowF op).sd ∧ hasB (knownF op) 65 = (rowF op).wa ∧ hasB (knownF op) 76 = (rowF op).ln ∧ hasB (knownF op) 80 = (rowF op).st ∧ ¬ ((rowF op).wa = true ∧ (rowF op).ln = true) := by
  have h : ∀ i : Fin 256, hasB (knownF (i.val : Int)) 97 = (rowF (i.val : Int)).ra ∧ hasB (knownF (i.val : Int)) 98 = (rowF (i.val : Int)).rb ∧ hasB (knownF (i.val : Int)) 112 = (rowF (i.val : Int)).sd ∧ hasB (knownF (i.val : Int)) 65 = (rowF (i.val : Int)).wa ∧ hasB (knownF (i.val : Int)) 76 = (rowF (i.val : Int)).ln ∧ hasB (knownF (i.val : Int)) 80 = (rowF (i.val : Int)).st ∧ ¬ ((rowF (i.val : Int)).wa = true ∧ (rowF (i.val : Int)).ln = true) := by decide +kernel
  obtain ⟨n, rfl⟩ : ∃ n : Nat, op = (n : Int) := ⟨op.toNat, by omega⟩
  exact h ⟨n, by omega⟩

theorem reads_law (ra rb sd : Bool) (a b : Int) (h0 : 0 ≤ a) (h1 : a < 8) (h2 : 0 ≤ b) (h3 : b < 8) : setRAt ra rb sd a b 3 = refR ra rb sd (decide (a = b)) (pw a) (pw b) := by
  have h : ∀ (ra rb sd : Bool) (i j : Fin 8), setRAt ra rb sd (i.val : Int) (j.val : Int) 3 = refR ra rb sd (decide ((i.val : Int) = (j.val : Int))) (pw (i.val : Int)) (pw (j.val : Int)) := by decide +kernel
  obtain ⟨n, rfl⟩ : ∃ n : Nat, a = (n : Int) := ⟨a.toNat, by omega⟩
  obtain ⟨m, rfl⟩ : ∃ m : Nat, b = (m : Int) := ⟨b.toNat, by omega⟩
  exact h ra rb sd ⟨n, by omega⟩ ⟨m, by omega⟩

theorem writes_law (wa ln st : Bool) (a b : Int) (h0 : 0 ≤ a) (h1 : a < 8) (h : ¬ (wa = true ∧ ln = true)) : setWAt wa ln st a b 3 = refW wa ln st (pw a) := by
  have h' : ∀ (wa ln st : Bool) (i : Fin 8), ¬ (wa = true ∧ ln = true) → setWAt wa ln st (i.val : Int) 0 3 = refW wa ln st (pw (i.val : Int)) := by decide +kernel
  obtain ⟨n, rfl⟩ : ∃ n : Nat, a = (n : Int) := ⟨a.toNat, by omega⟩
  exact h' wa ln st ⟨n, by omega⟩ h

theorem sets_law (op a b imm : Int) (h0 : 0 ≤ op) (h1 : op < 256) (h2 : 0 ≤ a) (h4 : 0 ≤ b) :
    (if Isa.mayB (Isa.fm op true) a b imm = true then refR (rowF op).ra (rowF op).rb (rowF op).sd (decide (a = b)) (pw a) (pw b) else 0) = readsF (knownF op) (Isa.mayB (Isa.fm op true) a b imm) a b ∧
    (if Isa.mayB (Isa.fm op true) a b imm = true then refW (rowF op).wa (rowF op).ln (rowF op).st (pw a) else 0) = writesF (knownF op) (Isa.mayB (Isa.fm op true) a b imm) a b := by
  obtain ⟨k1, k2, k3, k4, k5, k6, k7⟩ := known_regs op h0 h1
  unfold readsF writesF
  cases hm : Isa.mayB (Isa.fm op true) a b imm
  · simp
  · obtain ⟨l1, l2⟩ := may_lt hm
    rw [if_pos rfl, if_pos rfl, if_pos rfl, if_pos rfl, k1, k2, k3, k4, k5, k6]
    exact ⟨(reads_law _ _ _ a b h2 l1 h4 l2).symm, (writes_law _ _ _ a b h2 l1 k7).symm⟩

set_option maxHeartbeats 8000000 in
theorem kindSets_in (op a b imm : Int) (w : World) (h0 : 0 ≤ op) (h1 : op < 256) (h2 : 0 ≤ a) (h3 : a < 256) (h4 : 0 ≤ b) (h5 : b < 256) (h6 : -2147483648 ≤ imm) (h7 : imm < 2147483648) :
    Calls Try.prog 6 #[Isa.insV op a b imm] w fun e w' => e = .returned (.bool true) ∧ Below w.heap.size w w' := by
  have e0 : (knownF 0).cls = 1 := by decide +kernel
  have HC0 := Lib.hid fun (tb : Nat) (w : World) (h : TabIs w tb) => class_c tb 0 w h (by decide) (by decide)
  rw [e0] at HC0
  have HN := Lib.hid new_c
  obtain ⟨l1, l2⟩ := sets_law op a b imm h0 h1 h2 h4
  have HS := fun w => sets_c op a b imm w h0 h1 h2 h3 h4 h5 h6 h7
  unfold SetsPost at HS
  rw [l1, l2] at HS
  have HR := fun (tb : Nat) (w : World) (h : TabIs w tb) (hlt : tb < w.heap.size) => tl_reads (tl_made tb) op a b imm w h h0 h1 h2 h3 h4 h5 h6 h7 (fun k hk => by cases hk; exact hlt)
  have HW := fun (tb : Nat) (w : World) (h : TabIs w tb) (hlt : tb < w.heap.size) => tl_writes (tl_made tb) op a b imm w h h0 h1 h2 h3 h4 h5 h6 h7 (fun k hk => by cases hk; exact hlt)
  generalize readsF (knownF op) (Isa.mayB (Isa.fm op true) a b imm) a b = rv at HS HR
  generalize writesF (knownF op) (Isa.mayB (Isa.fm op true) a b imm) a b = wv at HS HW
  unfold Isa.insV at HS HR HW ⊢
  have HS := Lib.hid HS
  have HR := Lib.hid HR
  have HW := Lib.hid HW
  clear e0 l1 l2
  go_enter Try.func6, Try.ntmps6
  go_wp2_with fail
  refine (HN.out _).mono ?_
  rintro e w1 ⟨rfl, hT1, hs1, hb1⟩
  have HT1 : Hid (TabIs w1 (w.heap.size + 1)) := Lib.hid (by simpa using hT1)
  clear hT1
  have i0 : w1.cell? ⟨w.heap.size, 0, none⟩ = some (.int .u8 op) := keepK hb1 (by go_simp)
  have i1 : w1.cell? ⟨w.heap.size, 1, none⟩ = some (.int .u8 a) := keepK hb1 (by go_simp)
  have i2 : w1.cell? ⟨w.heap.size, 2, none⟩ = some (.int .u8 b) := keepK hb1 (by go_simp)
  have i3 : w1.cell? ⟨w.heap.size, 3, none⟩ = some (.int .i32 imm) := keepK hb1 (by go_simp)
  have hb2 : Below w.heap.size w w1 := (kbelow_alloc1 w _).trans (hb1.mono (by simp))
  have hs2 : w.heap.size + 1 < w1.heap.size := by simpa using hs1
  clear hb1 hs1
  have HR' := Lib.hid fun (w1 : World) h h' => HR.out (w.heap.size + 1) w1 h h'
  have HW' := Lib.hid fun (w1 : World) h h' => HW.out (w.heap.size + 1) w1 h h'
  have HC' := Lib.hid fun (w1 : World) h => HC0.out (w.heap.size + 1) w1 h
  clear HR HW HC0
  go_wp2_with fail
  refine (HS.out _).mono ?_
  rintro e w2 ⟨rfl, hb⟩
  have i0 := keepK hb i0
  have i1 := keepK hb i1
  have i2 := keepK hb i2
  have i3 := keepK hb i3
  have HT2 := Lib.hid (tab_below HT1.out hb)
  have hB2 := kbelow_next hb2 hb
  have hs3 : w.heap.size + 1 < w2.heap.size := by have := hb.size; omega
  have hne : some w.heap.size ≠ some (w.heap.size + 1) := by simp
  clear hb hb2 hs2
  go_wp2_with fail
  refine (HR'.out _ HT2.out hs3).mono ?_
  rintro e w3 ⟨rfl, hT, hG⟩
  have i0 := hG.cell i0 hne
  have i1 := hG.cell i1 hne
  have i2 := hG.cell i2 hne
  have i3 := hG.cell i3 hne
  have HT3 := Lib.hid hT
  have hB3 := hB2.grown hG hB2.size (fun k hk => by cases hk; omega)
  have hs4 : w.heap.size + 1 < w3.heap.size := by have := hG.size; omega
  clear hT hG
  go_wp2_with fail
  refine (HW'.out _ HT3.out hs4).mono ?_
  rintro e w4 ⟨rfl, hT, hG⟩
  have HT4 := Lib.hid hT
  have hB4 := hB3.grown hG hB3.size (fun k hk => by cases hk; omega)
  clear hT hG
  go_wp2_with fail
  refine (HC'.out _ HT4.out).mono ?_
  rintro e w5 ⟨rfl, hT, hG⟩
  have hB5 := hB4.grown hG hB4.size (fun k hk => by cases hk; omega)
  clear hT hG
  go_wp2_with fail
  go_ret
  exact ⟨rfl, hB5⟩

theorem kindSets_walk (op : Int) (wo : (Lit.int .u8 op).wf = true) (a : Int) (wa : (Lit.int .u8 a).wf = true) (b : Int) (wb : (Lit.int .u8 b).wf = true) (imm : Int) (wi : (Lit.int .i32 imm).wf = true) (w : World) :
    Calls Try.prog 6 #[Isa.insV op a b imm] w fun e w' => e = .returned (.bool true) ∧ Below w.heap.size w w' := by
  obtain ⟨h0, h1⟩ := bd_u8 wo
  obtain ⟨h2, h3⟩ := bd_u8 wa
  obtain ⟨h4, h5⟩ := bd_u8 wb
  obtain ⟨h6, h7⟩ := bd_i32 wi
  exact kindSets_in op a b imm w h0 h1 h2 h3 h4 h5 h6 h7
end Go.Proofs.Ytcikcfjbnpnhkaa
