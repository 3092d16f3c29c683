/- sense.Do by a plain function. (Written by mkSI.py.) -/
import Derived.Test.YtlgnhjalhfednaaSenF
import Derived.Test.YtlgnhjalhfednaaSenH
namespace Go.Proofs.Ytlgnhjalhfednaa
open Go.RowKit
set_option linter.unusedSimpArgs false
set_option linter.unusedVariables false

def senseOp (op : Int) : Prop := op = 1 ∨ op = 2 ∨ op = 3 ∨ op = 96 ∨ op = 97 ∨ op = 98 ∨ op = 99 ∨ op = 100 ∨ op = 101
def sysOp (op : Int) : Prop := op = 1 ∨ op = 99 ∨ op = 100 ∨ op = 101
instance (op : Int) : Decidable (senseOp op) := by unfold senseOp; infer_instance
instance (op : Int) : Decidable (sysOp op) := by unfold sysOp; infer_instance

/-- What an instruction turns, ahead of the place. -/
def doM (x : DX) : DX :=
  if x.op = 1 then { x with h := true }
  else if x.op = 2 then (if x.user = true then x else { x with pc := (x.cr 2 - 1) % 4294967296, ps := bits .and .u32 (x.cr 3) 247 })
  else if x.op = 3 then { x with fl := !x.user }
  else if x.op = 96 then { x with r := updN x.r x.a.toNat x.ps }
  else if x.op = 97 then (if x.user = true then { x with ps := bits .or .u32 (bits .andNot .u32 x.ps 240) (bits .and .u32 (x.r x.a.toNat) 240) } else { x with ps := bits .and .u32 (x.r x.a.toNat) 247 })
  else if x.op = 98 then (if x.user = true then { x with r := updN x.r x.a.toNat 0 } else { x with r := updN x.r x.a.toNat (x.cr x.b.toNat) })
  else if x.op = 99 then { x with cr := updN x.cr x.b.toNat (x.r x.a.toNat), fl := decide (x.b = 0) }
  else if x.op = 100 then { x with r := updN x.r x.a.toNat x.inp }
  else { x with out := true, port := x.b, val := x.r x.a.toNat }

/-- What Do hands back. -/
def doV (x : DX) : Value :=
  if ¬ senseOp x.op ∨ Isa.mayB (Isa.fm x.op false) x.a x.b x.imm = false then .tuple #[.agg x.st, .agg (effA 1)]
  else if x.user = true ∧ sysOp x.op then .tuple #[.agg x.st, .agg (effA 2)]
  else .tuple #[.agg (DX.st { doM x with pc := ((doM x).pc + (Isa.fm x.op false).n) % 4294967296 }), .agg (doM x).ef]

structure DX.okay (x : DX) : Prop where
  start : x.start
  user : x.user = (bits .and .u32 x.ps 1 != 0)
  op0 : 0 ≤ x.op
  op1 : x.op < 256
  a0 : 0 ≤ x.a
  a1 : x.a < 256
  b0 : 0 ≤ x.b
  b1 : x.b < 256
  i0 : -2147483648 ≤ x.imm
  i1 : x.imm < 2147483648
  pc0 : 0 ≤ x.pc
  pc1 : x.pc < 4294967296
  cr0 : ∀ k, 0 ≤ x.cr k ∧ x.cr k < 4294967296

theorem may_regs {x : DX} (h : x.okay) (hm : Isa.mayB (Isa.fm x.op false) x.a x.b x.imm = true) : (0 ≤ x.a ∧ x.a < 8) ∧ (0 ≤ x.b ∧ x.b < 8) := by
  have hF := Isa.fm_is x.op false
  have g := h.a0
  have g' := h.b0
  simp only [Isa.mayB, Bool.and_eq_true, decide_eq_true_eq] at hm
  obtain ⟨-, ha, hb, -⟩ := hm
  rcases hF with e | e | e | e | e | e | e | e | e | e <;> rw [e] at ha hb <;> simp only at ha hb <;> omega

theorem enter_hlt (args : Array Value) (w : World) : (callFunc 28 args).run Try.prog w = .ok (.enter 28 args) w := by
  go_simp
theorem enter_iret (args : Array Value) (w : World) : (callFunc 29 args).run Try.prog w = .ok (.enter 29 args) w := by
  go_simp
theorem enter_flush (args : Array Value) (w : World) : (callFunc 30 args).run Try.prog w = .ok (.enter 30 args) w := by
  go_simp
theorem enter_rdps (args : Array Value) (w : World) : (callFunc 31 args).run Try.prog w = .ok (.enter 31 args) w := by
  go_simp
theorem enter_wrps (args : Array Value) (w : World) : (callFunc 32 args).run Try.prog w = .ok (.enter 32 args) w := by
  go_simp
theorem enter_rdcr (args : Array Value) (w : World) : (callFunc 33 args).run Try.prog w = .ok (.enter 33 args) w := by
  go_simp
theorem enter_wrcr (args : Array Value) (w : World) : (callFunc 34 args).run Try.prog w = .ok (.enter 34 args) w := by
  go_simp
theorem enter_read (args : Array Value) (w : World) : (callFunc 35 args).run Try.prog w = .ok (.enter 35 args) w := by
  go_simp
theorem enter_out (args : Array Value) (w : World) : (callFunc 36 args).run Try.prog w = .ok (.enter 36 args) w := by
  go_simp

theorem do_c (x : DX) (h : x.okay) (w : World) :
    Calls Try.prog 9 #[.agg x.st, Isa.insV x.op x.a x.b x.imm, .int .u32 x.inp] w fun e w' => e = .returned (doV x) ∧ Below w.heap.size w w' := by
  unfold doV
  by_cases hs : senseOp x.op
  · cases hm : Isa.mayB (Isa.fm x.op false) x.a x.b x.imm
    · rw [if_pos (.inr rfl)]
      rcases hs with e | e | e | e | e | e | e | e | e
      · exact do_bad x 28 h.start h.user w h.op0 h.op1 h.a0 h.a1 h.b0 h.b1 h.i0 h.i1 hm (fun b => by rw [e]; rfl)
      · exact do_bad x 29 h.start h.user w h.op0 h.op1 h.a0 h.a1 h.b0 h.b1 h.i0 h.i1 hm (fun b => by rw [e]; rfl)
      · exact do_bad x 30 h.start h.user w h.op0 h.op1 h.a0 h.a1 h.b0 h.b1 h.i0 h.i1 hm (fun b => by rw [e]; rfl)
      · exact do_bad x 31 h.start h.user w h.op0 h.op1 h.a0 h.a1 h.b0 h.b1 h.i0 h.i1 hm (fun b => by rw [e]; rfl)
      · exact do_bad x 32 h.start h.user w h.op0 h.op1 h.a0 h.a1 h.b0 h.b1 h.i0 h.i1 hm (fun b => by rw [e]; rfl)
      · exact do_bad x 33 h.start h.user w h.op0 h.op1 h.a0 h.a1 h.b0 h.b1 h.i0 h.i1 hm (fun b => by rw [e]; rfl)
      · exact do_bad x 34 h.start h.user w h.op0 h.op1 h.a0 h.a1 h.b0 h.b1 h.i0 h.i1 hm (fun b => by rw [e]; rfl)
      · exact do_bad x 35 h.start h.user w h.op0 h.op1 h.a0 h.a1 h.b0 h.b1 h.i0 h.i1 hm (fun b => by rw [e]; rfl)
      · exact do_bad x 36 h.start h.user w h.op0 h.op1 h.a0 h.a1 h.b0 h.b1 h.i0 h.i1 hm (fun b => by rw [e]; rfl)
    · rw [if_neg (by simp [hs])]
      obtain ⟨ra, rb⟩ := may_regs h hm
      by_cases hu : x.user = true
      · by_cases hy : sysOp x.op
        · rw [if_pos ⟨hu, hy⟩]
          rcases hy with e | e | e | e
          · exact do_forbidden x 28 h.start h.user w h.op0 h.op1 h.a0 h.a1 h.b0 h.b1 h.i0 h.i1 hm enter_hlt (fun b => by rw [e]; rfl) (fun b w hd => hlt_no b x w hd hu)
          · exact do_forbidden x 34 h.start h.user w h.op0 h.op1 h.a0 h.a1 h.b0 h.b1 h.i0 h.i1 hm enter_wrcr (fun b => by rw [e]; rfl) (fun b w hd => wrcr_no b x w hd hu)
          · exact do_forbidden x 35 h.start h.user w h.op0 h.op1 h.a0 h.a1 h.b0 h.b1 h.i0 h.i1 hm enter_read (fun b => by rw [e]; rfl) (fun b w hd => read_no b x w hd hu)
          · exact do_forbidden x 36 h.start h.user w h.op0 h.op1 h.a0 h.a1 h.b0 h.b1 h.i0 h.i1 hm enter_out (fun b => by rw [e]; rfl) (fun b w hd => out_no b x w hd hu)
        · rw [if_neg (fun q => hy q.2)]
          rcases hs with e | e | e | e | e | e | e | e | e
          · exact absurd (by unfold sysOp; omega) hy
          · exact do_ok x (doM x) 29 h.start h.user w h.op0 h.op1 h.a0 h.a1 h.b0 h.b1 h.i0 h.i1 hm enter_iret (fun b => by rw [e]; rfl) (fun b w hd => by rw [show doM x = x from by unfold doM; simp [e, hu]]; exact iret_user b x w hd hu) (by unfold doM; simp [e, hu]) (by unfold doM; simp [e, hu]; first | exact h.pc0 | omega) (by unfold doM; simp [e, hu]; first | exact h.pc1 | omega)
          · exact do_ok x (doM x) 30 h.start h.user w h.op0 h.op1 h.a0 h.a1 h.b0 h.b1 h.i0 h.i1 hm enter_flush (fun b => by rw [e]; rfl) (fun b w hd => by rw [show doM x = { x with fl := !x.user } from by unfold doM; simp [e]]; exact flush_c b x w hd) (by unfold doM; simp [e, hu]) (by unfold doM; simp [e, hu]; first | exact h.pc0 | omega) (by unfold doM; simp [e, hu]; first | exact h.pc1 | omega)
          · exact do_ok x (doM x) 31 h.start h.user w h.op0 h.op1 h.a0 h.a1 h.b0 h.b1 h.i0 h.i1 hm enter_rdps (fun b => by rw [e]; rfl) (fun b w hd => by rw [show doM x = { x with r := updN x.r x.a.toNat x.ps } from by unfold doM; simp [e, hu]]; exact rdps_c b x w hd ra) (by unfold doM; simp [e, hu]) (by unfold doM; simp [e, hu]; first | exact h.pc0 | omega) (by unfold doM; simp [e, hu]; first | exact h.pc1 | omega)
          · exact do_ok x (doM x) 32 h.start h.user w h.op0 h.op1 h.a0 h.a1 h.b0 h.b1 h.i0 h.i1 hm enter_wrps (fun b => by rw [e]; rfl) (fun b w hd => by rw [show doM x = { x with ps := bits .or .u32 (bits .andNot .u32 x.ps 240) (bits .and .u32 (x.r x.a.toNat) 240) } from by unfold doM; simp [e, hu]]; exact wrps_user b x w hd ra hu) (by unfold doM; simp [e, hu]) (by unfold doM; simp [e, hu]; first | exact h.pc0 | omega) (by unfold doM; simp [e, hu]; first | exact h.pc1 | omega)
          · exact do_ok x (doM x) 33 h.start h.user w h.op0 h.op1 h.a0 h.a1 h.b0 h.b1 h.i0 h.i1 hm enter_rdcr (fun b => by rw [e]; rfl) (fun b w hd => by rw [show doM x = { x with r := updN x.r x.a.toNat 0 } from by unfold doM; simp [e, hu]]; exact rdcr_user b x w hd ra hu) (by unfold doM; simp [e, hu]) (by unfold doM; simp [e, hu]; first | exact h.pc0 | omega) (by unfold doM; simp [e, hu]; first | exact h.pc1 | omega)
          · exact absurd (by unfold sysOp; omega) hy
          · exact absurd (by unfold sysOp; omega) hy
          · exact absurd (by unfold sysOp; omega) hy
      · rw [if_neg (fun q => hu q.1)]
        have hu : x.user = false := by simpa using hu
        have hc2 := h.cr0 2
        rcases hs with e | e | e | e | e | e | e | e | e
        · exact do_ok x (doM x) 28 h.start h.user w h.op0 h.op1 h.a0 h.a1 h.b0 h.b1 h.i0 h.i1 hm enter_hlt (fun b => by rw [e]; rfl) (fun b w hd => by rw [show doM x = { x with h := true } from by unfold doM; simp [e, hu]]; exact hlt_c b x w hd hu) (by unfold doM; simp [e, hu]) (by unfold doM; simp [e, hu]; first | exact h.pc0 | omega) (by unfold doM; simp [e, hu]; first | exact h.pc1 | omega)
        · exact do_ok x (doM x) 29 h.start h.user w h.op0 h.op1 h.a0 h.a1 h.b0 h.b1 h.i0 h.i1 hm enter_iret (fun b => by rw [e]; rfl) (fun b w hd => by rw [show doM x = { x with pc := (x.cr 2 - 1) % 4294967296, ps := bits .and .u32 (x.cr 3) 247 } from by unfold doM; simp [e, hu]]; exact iret_sys b x w hd hu hc2) (by unfold doM; simp [e, hu]) (by unfold doM; simp [e, hu]; first | exact h.pc0 | omega) (by unfold doM; simp [e, hu]; first | exact h.pc1 | omega)
        · exact do_ok x (doM x) 30 h.start h.user w h.op0 h.op1 h.a0 h.a1 h.b0 h.b1 h.i0 h.i1 hm enter_flush (fun b => by rw [e]; rfl) (fun b w hd => by rw [show doM x = { x with fl := !x.user } from by unfold doM; simp [e]]; exact flush_c b x w hd) (by unfold doM; simp [e, hu]) (by unfold doM; simp [e, hu]; first | exact h.pc0 | omega) (by unfold doM; simp [e, hu]; first | exact h.pc1 | omega)
        · exact do_ok x (doM x) 31 h.start h.user w h.op0 h.op1 h.a0 h.a1 h.b0 h.b1 h.i0 h.i1 hm enter_rdps (fun b => by rw [e]; rfl) (fun b w hd => by rw [show doM x = { x with r := updN x.r x.a.toNat x.ps } from by unfold doM; simp [e, hu]]; exact rdps_c b x w hd ra) (by unfold doM; simp [e, hu]) (by unfold doM; simp [e, hu]; first | exact h.pc0 | omega) (by unfold doM; simp [e, hu]; first | exact h.pc1 | omega)
        · exact do_ok x (doM x) 32 h.start h.user w h.op0 h.op1 h.a0 h.a1 h.b0 h.b1 h.i0 h.i1 hm enter_wrps (fun b => by rw [e]; rfl) (fun b w hd => by rw [show doM x = { x with ps := bits .and .u32 (x.r x.a.toNat) 247 } from by unfold doM; simp [e, hu]]; exact wrps_sys b x w hd ra hu) (by unfold doM; simp [e, hu]) (by unfold doM; simp [e, hu]; first | exact h.pc0 | omega) (by unfold doM; simp [e, hu]; first | exact h.pc1 | omega)
        · exact do_ok x (doM x) 33 h.start h.user w h.op0 h.op1 h.a0 h.a1 h.b0 h.b1 h.i0 h.i1 hm enter_rdcr (fun b => by rw [e]; rfl) (fun b w hd => by rw [show doM x = { x with r := updN x.r x.a.toNat (x.cr x.b.toNat) } from by unfold doM; simp [e, hu]]; exact rdcr_sys b x w hd ra rb hu) (by unfold doM; simp [e, hu]) (by unfold doM; simp [e, hu]; first | exact h.pc0 | omega) (by unfold doM; simp [e, hu]; first | exact h.pc1 | omega)
        · exact do_ok x (doM x) 34 h.start h.user w h.op0 h.op1 h.a0 h.a1 h.b0 h.b1 h.i0 h.i1 hm enter_wrcr (fun b => by rw [e]; rfl) (fun b w hd => by rw [show doM x = { x with cr := updN x.cr x.b.toNat (x.r x.a.toNat), fl := decide (x.b = 0) } from by unfold doM; simp [e, hu]]; exact wrcr_c b x w hd ra rb hu) (by unfold doM; simp [e, hu]) (by unfold doM; simp [e, hu]; first | exact h.pc0 | omega) (by unfold doM; simp [e, hu]; first | exact h.pc1 | omega)
        · exact do_ok x (doM x) 35 h.start h.user w h.op0 h.op1 h.a0 h.a1 h.b0 h.b1 h.i0 h.i1 hm enter_read (fun b => by rw [e]; rfl) (fun b w hd => by rw [show doM x = { x with r := updN x.r x.a.toNat x.inp } from by unfold doM; simp [e, hu]]; exact read_c b x w hd ra hu) (by unfold doM; simp [e, hu]) (by unfold doM; simp [e, hu]; first | exact h.pc0 | omega) (by unfold doM; simp [e, hu]; first | exact h.pc1 | omega)
        · exact do_ok x (doM x) 36 h.start h.user w h.op0 h.op1 h.a0 h.a1 h.b0 h.b1 h.i0 h.i1 hm enter_out (fun b => by rw [e]; rfl) (fun b w hd => by rw [show doM x = { x with out := true, port := x.b, val := x.r x.a.toNat } from by unfold doM; simp [e, hu]]; exact out_c b x w hd ra hu rb) (by unfold doM; simp [e, hu]) (by unfold doM; simp [e, hu]; first | exact h.pc0 | omega) (by unfold doM; simp [e, hu]; first | exact h.pc1 | omega)
  · rw [if_pos (.inl hs)]
    exact do_none x h.start h.user w h.op0 h.op1 h.a0 h.a1 h.b0 h.b1 h.i0 h.i1 (fun b => by
      unfold senseOp at hs
      unfold pickV
      repeat (first | rw [if_neg (by omega)]))
end Go.Proofs.Ytlgnhjalhfednaa
