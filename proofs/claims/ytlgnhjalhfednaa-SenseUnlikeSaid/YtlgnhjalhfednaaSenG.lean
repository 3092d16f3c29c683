/- The blocks that sense.Do lays, and laws for its regions. -/
import Derived.Test.YtlgnhjalhfednaaSenD
import Derived.Test.YtlgnhjalhfednaaIsaM
import Derived.Deep.RegionWith
namespace Go.Proofs.Ytlgnhjalhfednaa
open Go.RowKit
set_option linter.unusedSimpArgs false
set_option linter.unusedVariables false

/-- The block as Do lays it. -/
def DX.start (x : DX) : Prop := x.cause = 0 ∧ x.fl = false ∧ x.out = false ∧ x.port = 0 ∧ x.val = 0
def DX.st (x : DX) : Array Value := stA x.r x.pc x.ps x.cr x.h
def DX.ef (x : DX) : Array Value := #[.int .i64 x.cause, .bool x.fl, .bool x.out, .int .i64 x.port, .int .u32 x.val]

theorem built_doc (x : DX) (h : x.start) : Try.prog.built 48 [(0, .agg x.st), (1, .agg #[.int .u8 x.op, .int .u8 x.a, .int .u8 x.b, .int .i32 x.imm]), (2, .int .u32 x.inp), (4, .bool x.user)] = some (docA x) := by
  obtain ⟨r, pc, ps, cr, hh, op, a, b, imm, inp, cause, fl, out, port, val, user⟩ := x
  obtain ⟨h1, h2, h3, h4, h5⟩ := h
  simp only at h1 h2 h3 h4 h5
  subst h1 h2 h3 h4 h5
  kernel_rfl

theorem st_size (x : DX) : x.st.size = 19 := rfl
theorem st_one (x : DX) : x.st.all (·.oneCell') = true := by simp [DX.st, stA, Value.oneCell']

def zero19 : Array Value := stA (fun _ => 0) 0 0 (fun _ => 0) false

/-- The blocks that Do has laid, of which n is the first. -/
def DoW (w : World) (A : Array Value) (op a b imm : Int) (x : DX) (W : World) : Prop :=
  W.heap[w.heap.size]? = some (.cells A 25 (0, 0)) ∧ W.heap[w.heap.size + 1]? = some (.cells #[.int .u8 op, .int .u8 a, .int .u8 b, .int .i32 imm] 27 (0, 0)) ∧ W.heap[w.heap.size + 1 + 1]? = some (.cells zero19 25 (0, 0)) ∧
  W.heap[w.heap.size + 1 + 1 + 1]? = some (.cells (effA 0) 29 (0, 0)) ∧ DocAt W (w.heap.size + 1 + 1 + 1 + 1) x ∧ w.heap.size + 5 ≤ W.heap.size ∧ Below w.heap.size w W

theorem DoW.below {w W W' : World} {A : Array Value} {op a b imm : Int} {x : DX} (h : DoW w A op a b imm x W) (hb : Below W.heap.size W W') : DoW w A op a b imm x W' := by
  obtain ⟨r0, r1, r2, r3, r4, r5, r6⟩ := h
  have k : ∀ j, j < 5 → W'.heap[w.heap.size + j]? = W.heap[w.heap.size + j]? := fun j hj => hb.block _ (by omega)
  exact ⟨(k 0 (by omega)).trans r0, (k 1 (by omega)).trans r1, (k 2 (by omega)).trans r2, (k 3 (by omega)).trans r3, (k 4 (by omega)).trans r4, Nat.le_trans r5 hb.size, r6.trans (hb.mono (by omega))⟩

theorem DoW.turn {w W W' : World} {A : Array Value} {op a b imm : Int} {x y : DX} (h : DoW w A op a b imm x W) (hg : W.grownBy W' (some (w.heap.size + 1 + 1 + 1 + 1))) (hd : DocAt W' (w.heap.size + 1 + 1 + 1 + 1) y) : DoW w A op a b imm y W' := by
  obtain ⟨r0, r1, r2, r3, r4, r5, r6⟩ := h
  have k : ∀ j, j < 4 → W'.heap[w.heap.size + j]? = W.heap[w.heap.size + j]? := fun j hj => hg.block _ (by omega) (by simp; omega)
  exact ⟨(k 0 (by omega)).trans r0, (k 1 (by omega)).trans r1, (k 2 (by omega)).trans r2, (k 3 (by omega)).trans r3, hd, Nat.le_trans r5 hg.size, r6.grown hg r6.size (fun j hj => by cases hj; omega)⟩

theorem cell_belowS {W w1 : World} (hb : Below W.heap.size W w1) {p : Addr} {v : Value} (h : W.cell? p = some v) : w1.cell? p = some v := (hb.cell (World.block_lt_of_cell? W p h)).trans h
theorem free_belowS {W w1 : World} (hb : Below W.heap.size W w1) {p : Addr} {v : Value} (h : W.cell? p = some v) (hf : W.frozen? p = false) : w1.frozen? p = false := (hb.frozen (World.block_lt_of_cell? W p h)).trans hf

theorem neqF (fn : Fn) (f c : Array Value) (w : World) : (binOp .eql 1 (.func fn f c) .nilFunc).run Try.prog w = .ok (.bool false) w := by kernel_rfl
theorem eqlF (w : World) : (binOp .eql 1 .nilFunc .nilFunc).run Try.prog w = .ok (.bool true) w := by kernel_rfl

theorem fm_n (op : Int) : 0 ≤ (Isa.fm op false).n ∧ (Isa.fm op false).n ≤ 6 := by
  have hF := Isa.fm_is op false
  rcases hF with h | h | h | h | h | h | h | h | h | h <;> rw [h] <;> decide

theorem ef_one (x : DX) : x.ef.all (·.oneCell') = true := by simp [DX.ef, Value.oneCell']

theorem yields_doc {ops : Array Oper} {Sp : World → Prop} {op : Oper} {a : Act} (hw : Region.wanted op (yielded ops a.tmps) = true) (ty : TypeId) (x : Operand) (ho : op.op = .load ty x)
    (b o : Nat) (hx : a.eval x = .pointer (some ⟨b, o, none⟩)) (cs : Array Value) {d : TypeDesc} (hS : ∀ w, Sp w → ∃ z : DX, DocAt w b z ∧ (docA z).extract o (o + cs.size) = cs)
    (hu : Try.prog.underlying ty = some d) (hd : d.isRow = true) (hi : (Try.prog.info? ty).map (·.size) = some cs.size) : YieldsIf Try.prog ops Sp op (.agg cs) a := by
  have h := yieldsIf_load_mid (P := Try.prog) (S := Sp) hw ty x ho b o hx cs.toList d (fun w h => by
    obtain ⟨z, hz, he⟩ := hS w h
    have := World.rangeAt_of_block hz o cs.size
    rw [he] at this
    exact this) hu hd (by simpa using hi)
  simpa using h

theorem results_two {P : Program} {fn : Func} {p q : Tmp} {ty ty' : TypeId} (h : fn.results = #[.cell p ty, .cell q ty']) (tmps : Array Value) (w : World) (g g' : Nat) (t t' : TypeId) {cs cs' : Array Value} {fr fr' : Nat × Nat} {d d' : TypeDesc}
    (hp : tmps.getD p undef = .pointer (some ⟨g, 0, none⟩)) (hq : tmps.getD q undef = .pointer (some ⟨g', 0, none⟩)) (hg : w.heap[g]? = some (.cells cs t fr)) (hg' : w.heap[g']? = some (.cells cs' t' fr'))
    (hu : P.underlying ty = some d) (hu' : P.underlying ty' = some d') (hd : (match d with | .struct _ | .array _ _ => true | _ => false) = true) (hd' : (match d' with | .struct _ | .array _ _ => true | _ => false) = true)
    (hi : (P.info? ty).map (·.size) = some cs.size) (hi' : (P.info? ty').map (·.size) = some cs'.size) : (results fn tmps).run P w = .ok (.tuple #[.agg cs, .agg cs']) w := by
  have hp' : tmps[p]?.getD undef = .pointer (some ⟨g, 0, none⟩) := by simpa using hp
  have hq' : tmps[q]?.getD undef = .pointer (some ⟨g', 0, none⟩) := by simpa using hq
  simp [results, h, hp', hq', asAddr, run_loadVar_row w g t ty cs fr d hg hu hd hi, run_loadVar_row w g' t' ty' cs' fr' d' hg' hu' hd' hi']

theorem catch_below {w w5 w6 : World} {tb eb : Nat} (h : CatchS w5 tb eb w6) (hb : Below w.heap.size w w5) (hs : w.heap.size + 5 ≤ w5.heap.size) (h1 : w.heap.size ≤ tb := by omega) (h2 : w.heap.size ≤ eb := by omega) : Below w.heap.size w w6 :=
  hb.trans ⟨h.2.2.1, h.2.2.2.1, h.2.2.2.2.1, h.2.2.2.2.2.1, fun k hk => h.2.2.2.2.2.2 k (by omega) (by omega) (by omega)⟩

end Go.Proofs.Ytlgnhjalhfednaa
