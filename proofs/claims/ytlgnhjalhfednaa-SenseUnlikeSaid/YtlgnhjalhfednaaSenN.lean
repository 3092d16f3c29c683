/- SenseUnlike, the plain law: what each of the five silent instructions hands back in the two rings. -/
import Derived.Test.YtlgnhjalhfednaaSenM
namespace Go.Proofs.Ytlgnhjalhfednaa
open Go.RowKit
set_option linter.unusedSimpArgs false
set_option linter.unusedVariables false

theorem iret_sv (r : Nat → Int) (pc ps : Int) (cr : Nat → Int) (h : Bool) : doV ⟨r, pc, ps, cr, h, 2, 0, 0, 0, 0, 0, false, false, 0, 0, false⟩ = .tuple #[.agg (stA r (((cr 2 - 1) % 4294967296 + 1) % 4294967296) (bits .and .u32 (cr 3) 247) cr h), .agg #[.int .i64 0, .bool false, .bool false, .int .i64 0, .int .u32 0]] := by
  unfold doV; simp only; rw [if_neg (by decide), if_neg (by decide)]; rfl
theorem iret_uv (r : Nat → Int) (pc ps : Int) (cr : Nat → Int) (h : Bool) : doV ⟨r, pc, ps, cr, h, 2, 0, 0, 0, 0, 0, false, false, 0, 0, true⟩ = .tuple #[.agg (stA r ((pc + 1) % 4294967296) ps cr h), .agg #[.int .i64 0, .bool false, .bool false, .int .i64 0, .int .u32 0]] := by
  unfold doV; simp only; rw [if_neg (by decide), if_neg (by decide)]; rfl
theorem flush_v (r : Nat → Int) (pc ps : Int) (cr : Nat → Int) (h u : Bool) : doV ⟨r, pc, ps, cr, h, 3, 0, 0, 0, 0, 0, false, false, 0, 0, u⟩ = .tuple #[.agg (stA r ((pc + 1) % 4294967296) ps cr h), .agg #[.int .i64 0, .bool (!u), .bool false, .int .i64 0, .int .u32 0]] := by
  unfold doV; simp only; rw [if_neg (by decide), if_neg (by simp [sysOp])]; rfl
theorem may96 {a : Int} (h : a < 8) : Isa.mayB (Isa.fm 96 false) a 0 0 = true := by
  have e1 : 7 * (Isa.fm 96 false).a = 7 := by decide
  have e2 : 0 ≤ 7 * (Isa.fm 96 false).b := by decide
  simp only [Isa.mayB, Bool.and_eq_true, decide_eq_true_eq]
  exact ⟨by decide, by omega, by omega, by decide⟩
theorem may97 {a : Int} (h : a < 8) : Isa.mayB (Isa.fm 97 false) a 0 0 = true := by
  have e1 : 7 * (Isa.fm 97 false).a = 7 := by decide
  have e2 : 0 ≤ 7 * (Isa.fm 97 false).b := by decide
  simp only [Isa.mayB, Bool.and_eq_true, decide_eq_true_eq]
  exact ⟨by decide, by omega, by omega, by decide⟩
theorem rdps_v (r : Nat → Int) (pc ps : Int) (cr : Nat → Int) (h u : Bool) (a : Int) (ha : a < 8) : doV ⟨r, pc, ps, cr, h, 96, a, 0, 0, 0, 0, false, false, 0, 0, u⟩ = .tuple #[.agg (stA (updN r a.toNat ps) ((pc + 2) % 4294967296) ps cr h), .agg #[.int .i64 0, .bool false, .bool false, .int .i64 0, .int .u32 0]] := by
  unfold doV; simp only; rw [if_neg (by rw [may96 ha]; simp [senseOp]), if_neg (by simp [sysOp])]; rfl
theorem wrps_v (r : Nat → Int) (pc ps : Int) (cr : Nat → Int) (h u : Bool) (a : Int) (ha : a < 8) : doV ⟨r, pc, ps, cr, h, 97, a, 0, 0, 0, 0, false, false, 0, 0, u⟩ = .tuple #[.agg (stA r ((pc + 2) % 4294967296) (if u = true then bits .or .u32 (bits .andNot .u32 ps 240) (bits .and .u32 (r a.toNat) 240) else bits .and .u32 (r a.toNat) 247) cr h), .agg #[.int .i64 0, .bool false, .bool false, .int .i64 0, .int .u32 0]] := by
  unfold doV; simp only; rw [if_neg (by rw [may97 ha]; simp [senseOp]), if_neg (by simp [sysOp])]
  cases u <;> rfl
theorem rdcr_u (r : Nat → Int) (pc ps : Int) (cr : Nat → Int) (h : Bool) (a b : Int) (ha : a < 8) (hb : b < 8) :
    doV ⟨r, pc, ps, cr, h, 98, a, b, 0, 0, 0, false, false, 0, 0, true⟩ = .tuple #[.agg (stA (updN r a.toNat 0) ((pc + 2) % 4294967296) ps cr h), .agg #[.int .i64 0, .bool false, .bool false, .int .i64 0, .int .u32 0]] := by
  unfold doV; simp only; rw [if_neg (by rw [may98 ha hb]; simp [senseOp]), if_neg (by simp [sysOp])]
  rfl
end Go.Proofs.Ytlgnhjalhfednaa
