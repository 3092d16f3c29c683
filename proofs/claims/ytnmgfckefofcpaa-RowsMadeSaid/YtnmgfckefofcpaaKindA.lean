/- The table of operations: its map as a function of the operation; the walk of fill's inner function 'put', which lays one line for several operations. -/
import Derived.Test.YtnmgfckefofcpaaRows
import Derived.WalkKit
import Derived.WalkLawsBesides
import Derived.Lib.Hide
import Derived.Maps.Own
import Derived.Maps.OwnOps
import Derived.Maps.OwnSet
import Derived.Maps.Views
import Derived.Maps.AppendAt
import Derived.Deep.AppendLies
import Derived.Deep.LoopGhost
import Derived.StillTailTactics
import Derived.Lib.HexFns2
namespace Go.Proofs.Ytnmgfckefofcpaa
open Go.RowKit Go.ChangeMaps
set_option linter.unusedSimpArgs false
set_option linter.unusedVariables false

/-- What is known of an operation: its class, and letters. -/
structure Kn where
  cls : Int
  is : List UInt8

def Kn.val (k : Kn) : Value := .agg #[.int .i64 k.cls, .string ⟨k.is.toArray⟩]
def kdat (k : Kn) : DataW Unit := .agg [.lit (.int .i64 k.cls), .lit (.string k.is)]

/-- How an element of the table's map reads. -/
def kR (v : Value) : Option (DataW Unit × List MemPlace) :=
  match v with
  | .agg a => match a.toList with
    | [.int .i64 c, .string s] => some (kdat ⟨c, s.data.toList⟩, [])
    | _ => none
  | _ => none

theorem kR_val (k : Kn) : kR k.val = some (kdat k, []) := by simp [kR, Kn.val]

theorem kR_inv {v : Value} {k : Kn} {ps : List MemPlace} (h : kR v = some (kdat k, ps)) : v = k.val := by
  unfold kR at h
  split at h
  · rename_i a
    split at h
    · rename_i c s hl
      simp only [kdat, Option.some.injEq, Prod.mk.injEq, DataW.agg.injEq, List.cons.injEq, DataW.lit.injEq, Lit.int.injEq, Lit.string.injEq, true_and, and_true] at h
      obtain ⟨⟨h1, h2⟩, -⟩ := h
      obtain ⟨l⟩ := a
      simp only at hl
      subst hl
      obtain ⟨s⟩ := s
      obtain ⟨s⟩ := s
      obtain ⟨kc, ki⟩ := k
      simp only at h1 h2
      subst h1 h2
      rfl
    · cases h
  · cases h

/-- Block b is the table's map; it says f of every operation. -/
def KMap (w : World) (b n : Nat) (f : Int → Kn) : Prop :=
  ∃ D : DataW Unit, w.ownsMap Try.prog 5 kR b n D ∧ Go.Maps.IsMap D ∧ ∀ op, 0 ≤ op → op < 256 → D.atKey (.int .u8 op) (kdat ⟨0, []⟩) = kdat (f op)

def upd (f : Int → Kn) (x : Int) (k : Kn) : Int → Kn := fun op => if op = x then k else f op
def updL (f : Int → Kn) (L : List Int) (k : Kn) : Int → Kn := L.foldl (fun f x => upd f x k) f

theorem updL_take {L : List Int} {j : Nat} {f : Int → Kn} {k : Kn} (h : j < L.length) : updL f (L.take (j + 1)) k = upd (updL f (L.take j) k) (L.getD j 0) k := by
  unfold updL
  rw [List.take_succ_eq_append_getElem h, List.foldl_append]
  simp [List.getD, h]

theorem wf_u8' {a : Int} (h : 0 ≤ a) (h' : a < 256) : (Lit.int .u8 a).wf = true := WalkArith.wf_u8 (by omega)

theorem zeroKn (w : World) : (zeroValue 107).run Try.prog w = .ok (Kn.val ⟨0, []⟩) w := by kernel_rfl

theorem kmap_look {w : World} {b n : Nat} {f : Int → Kn} (h : KMap w b n f) {op : Int} (h0 : 0 ≤ op) (h1 : op < 256) :
    (Instr.lookup 103 (.map (some b)) (.int .u8 op) false).run Try.prog w = .ok (f op).val w := by
  obtain ⟨D, hown, hD, hf⟩ := h
  obtain ⟨v, ps, hrun, hv⟩ := hown.lookup (Go.Maps.int_keyed Try.underlying5) Try.underlying103 (zeroKn w) (kR_val _) (Go.Maps.keyOf_int_mk Try.underlying5 (wf_u8' h0 h1))
  rw [hf op h0 h1] at hv
  rw [hrun, kR_inv hv]

theorem kmap_put {w : World} {b n : Nat} {f : Int → Kn} (h : KMap w b n f) (hn : n < 1000) {op : Int} (h0 : 0 ≤ op) (h1 : op < 256) (k : Kn) :
    ∃ w', (Instr.mapUpdate 103 (.map (some b)) (.int .u8 op) k.val).run Try.prog w = .ok () w' ∧ KMap w' b (n + 1) (upd f op k) ∧ w.grownBy w' (some b) := by
  obtain ⟨D, hown, hD, hf⟩ := h
  obtain ⟨w', hrun, hown', hg⟩ := hown.update (Go.Maps.int_keyed Try.underlying5) Try.underlying103 (by unfold maxLen; omega) (Go.Maps.keyOf_int_mk Try.underlying5 (wf_u8' h0 h1)) (kR_val k)
  refine ⟨w', hrun, ⟨_, hown', hD.put _ _, fun x hx0 hx1 => ?_⟩, hg⟩
  unfold upd
  by_cases c : x = op
  · subst c
    rw [if_pos rfl, Go.Maps.atKey_put_same hD (by simp [WideAt.IsKeyLit])]
  · rw [if_neg c, Go.Maps.atKey_put_other (by simpa using c), hf x hx0 hx1]

theorem kmap_ne {w : World} {b n : Nat} {f : Int → Kn} (h : KMap w b n f) {p : Addr} {v : Value} (hp : w.cell? p = some v) : p.block ≠ b := by
  obtain ⟨D, ⟨es, clock, hb, _⟩, _⟩ := h
  intro e
  unfold World.cell? at hp
  rw [e, hb] at hp
  simp at hp

theorem kmap_kept {w w' : World} {b n : Nat} {f : Int → Kn} {row : Option Nat} (h : KMap w b n f) (hg : w.grownBy w' row) (hne : some b ≠ row) : KMap w' b n f := by
  obtain ⟨D, hown, r⟩ := h
  exact ⟨D, hown.kept hg hne, r⟩

theorem kmap_lt {w : World} {b n : Nat} {f : Int → Kn} (h : KMap w b n f) : b < w.heap.size := by
  obtain ⟨D, hown, r⟩ := h
  exact hown.lt

theorem wpList_kput {ops : Array Oper} {rest : List Oper} {o : Oper} {a : Act} {w : World} {Q : Exit → Act → World → Prop} (hg : o.guard = none) (m x v : Operand) (hop : o.op = Op.mapUpdate 103 m x v)
    (b n : Nat) (f : Int → Kn) (hm : a.eval m = .map (some b)) (h : KMap w b n f) (hn : n < 1000) (op : Int) (hx : a.eval x = .int .u8 op) (h0 : 0 ≤ op) (h1 : op < 256) (k : Kn) (hv : a.eval v = k.val)
    (hK : ∀ w', KMap w' b (n + 1) (upd f op k) → w.grownBy w' (some b) → wpList Try.prog ops Q rest (a.put o.dst undef) w') : wpList Try.prog ops Q (o :: rest) a w := by
  refine wpList_plain hg fun K' hK' => ?_
  obtain ⟨w', hrun, r1, r2⟩ := kmap_put h hn h0 h1 k
  unfold Oper.wp
  simp [execOp, hop, hm, hx, hv, hrun, Result.andThen]
  exact hK' _ _ (hK w' r1 r2)

set_option maxRecDepth 100000 in
set_option maxHeartbeats 4000000 in
theorem put_c (k : Kn) (sb len : Nat) (L : List Int) (bx tb mb n : Nat) (f : Int → Kn) (w : World) (hL : L.length = len) (hb : ∀ x ∈ L, 0 ≤ x ∧ x < 256) (hn : n + len ≤ 500)
    (hc : ∀ i, i < len → w.cell? ⟨sb, i, none⟩ = some (.int .u8 (L.getD i 0))) (hbx : w.cell? ⟨bx, 0, none⟩ = some (.pointer (some ⟨tb, 0, none⟩))) (hops : w.cell? ⟨tb, 4, none⟩ = some (.map (some mb))) (hm : KMap w mb n f) :
    Calls Try.prog 51 #[k.val, .slice (some ⟨sb, 0, none⟩) len len, .pointer (some ⟨bx, 0, none⟩)] w fun e w' => e = .returned (.tuple #[]) ∧ KMap w' mb (n + len) (updL f L k) ∧ w.grownBy w' (some mb) := by
  have n1 := kmap_ne hm hbx
  have n2 := kmap_ne hm hops
  have n3 : ∀ i, i < len → sb ≠ mb := fun i hi => kmap_ne hm (hc i hi)
  simp only at n1 n2
  have HC := Lib.hid hc
  have HL := Lib.hid hL
  have HB := Lib.hid hb
  have HM := Lib.hid hm
  have HN := Lib.hid n3
  have HX := Lib.hid hbx
  have HO := Lib.hid hops
  clear hc hL hb hm n3 hbx hops
  unfold Kn.val
  go_enter Try.func51, Try.ntmps51
  go_wp2_with fail
  go_loopg [9] len (fun gk vi wr => ∃ j : Nat, gk + j = len ∧ vi = .int .i64 (j : Int) ∧ Hid (KMap wr mb (n + j) (updL f (L.take j) k)) ∧ Hid ((w.alloc (.cells #[.int .i64 k.cls, .string ⟨k.is.toArray⟩] 107)).grownBy wr (some mb)))
  case atStart =>
    exact ⟨0, rfl, rfl, Lib.hid (by simpa [updL] using kmap_kept HM.out (World.grownBy_alloc w _ none) (by simp)), Lib.hid (World.grownBy.refl _ _)⟩
  case round =>
    obtain ⟨j, hj, rfl, HK, HG⟩ := hrel
    by_cases c1 : j < len
    · have i1 : (j : Int) < (len : Int) := by omega
      have hlm := kmap_lt HM.out
      have x0 : wr.cell? ⟨sb, j, none⟩ = some (.int .u8 (L.getD j 0)) := HG.out.cell ((World.grownBy_alloc w _ none).cell (HC.out j c1) (by simp)) (by have := HN.out j c1; simpa using this)
      have x1 : wr.cell? ⟨bx, 0, none⟩ = some (.pointer (some ⟨tb, 0, none⟩)) := HG.out.cell ((World.grownBy_alloc w _ none).cell HX.out (by simp)) (by simpa using n1)
      have x2 : wr.cell? ⟨tb, 4, none⟩ = some (.map (some mb)) := HG.out.cell ((World.grownBy_alloc w _ none).cell HO.out (by simp)) (by simpa using n2)
      have hne : some w.heap.size ≠ some mb := by simp; omega
      have x3 : wr.cell? ⟨w.heap.size, 0, none⟩ = some (.int .i64 k.cls) := HG.out.cell (by go_simp) hne
      have x4 : wr.cell? ⟨w.heap.size, 1, none⟩ = some (.string ⟨k.is.toArray⟩) := HG.out.cell (by go_simp) hne
      have hx : 0 ≤ L.getD j 0 ∧ L.getD j 0 < 256 := HB.out _ (by simp [List.getD, show j < L.length by rw [HL.out]; exact c1])
      have HU := Lib.hid (updL_take (f := f) (k := k) (L := L) (j := j) (by rw [HL.out]; exact c1))
      generalize L.getD j 0 = x at x0 hx HU
      obtain ⟨hx0, hx1⟩ := hx
      go_wp2_with fail
      go_still_tail 6, (by kernel_rfl)
      first | (change wpList _ _ _ _ _ wr.drew) | skip
      refine wpList_kput rfl _ _ _ rfl mb (n + j) _ rfl HK.out (by omega) x rfl hx0 hx1 k rfl ?_
      intro w2 hk2 hg2
      have HK2 := Lib.hid hk2
      have HG2 := Lib.hid (HG.out.trans (World.grownBy.trans (b := wr.drew) ⟨rfl, rfl, rfl, Nat.le_refl _, fun _ _ _ => rfl⟩ hg2))
      clear hk2 hg2
      go_wp2_with fail
      go_roundg (gk - 1)
      case measure => omega
      case rel => exact ⟨j + 1, by omega, rfl, Lib.hid (by rw [HU.out]; exact HK2.out), HG2⟩
    · have i1 : ¬ (j : Int) < (len : Int) := by omega
      go_wp2_with fail
      go_end0
      have hj' : j = len := by have := HL.out; omega
      subst hj'
      have := HK.out
      rw [List.take_of_length_le (by rw [HL.out]; omega)] at this
      exact ⟨rfl, this, (World.grownBy_alloc w _ _).trans HG.out⟩
end Go.Proofs.Ytnmgfckefofcpaa
