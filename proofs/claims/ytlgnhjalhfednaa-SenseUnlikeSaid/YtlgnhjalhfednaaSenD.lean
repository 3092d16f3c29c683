/- The closure that Do defers; pick. -/
import Derived.Test.YtlgnhjalhfednaaSenC
import Derived.Test.YtlgnhjalhfednaaRow
import Derived.Defers
import Derived.Recover
import Derived.Deep.MidRow
import Derived.Deep.RegionHeld3
import Derived.Laws.Pointers
namespace Go.Proofs.Ytlgnhjalhfednaa
open Go.RowKit
set_option linter.unusedSimpArgs false
set_option linter.unusedVariables false

set_option maxHeartbeats 4000000 in
theorem catch_idle (a b c : Value) (w : World) :
    CallsD Try.prog 16 #[a, b, c] .returning w fun e u' w' => e = .returned (.tuple #[]) ∧ u' = .returning ∧ w' = w := by
  refine callsD_of_wpS Try.func16 rfl fun c₀ cs hu => ?_
  have hz : (#[a, b, c] ++ Array.replicate (Try.f16.ntmps - (#[a, b, c] : Array Value).size) undef) = #[a, b, c, undef, undef, undef, undef, undef, undef, undef, undef, undef, undef, undef, undef, undef, undef, undef, undef, undef, undef] := by kernel_rfl
  rw [hz]
  clear hz
  apply wpS_seq
  apply wpS_region
  simp [wpOpsS, go_sem, recoverD, hu, Exit.thenS]
  refine wpS_of_wp ?_
  go_wp2_with fail
  exact ⟨rfl, .returning, by rw [← hu], .tuple #[], results_none rfl _ _ _, rfl, rfl, rfl⟩

theorem heap_setRow_same {w : World} {g : Nat} {c c' : Array Value} {t : TypeId} {fr : Nat × Nat} (h : w.heap[g]? = some (.cells c t fr)) : (w.setRow g c').heap[g]? = some (.cells c' t fr) := by
  simp only [World.setRow]
  rw [Array.getElem?_modify, if_pos rfl, h]
  rfl
theorem heap_setRow_other {w : World} {g k : Nat} {c' : Array Value} (h : k ≠ g) : (w.setRow g c').heap[k]? = w.heap[k]? := by
  simp only [World.setRow]
  rw [Array.getElem?_modify, if_neg (Ne.symm h)]
theorem size_setRow (w : World) (g : Nat) (c' : Array Value) : (w.setRow g c').heap.size = w.heap.size := by
  simp [World.setRow]

/-- The cells of an effect that is a fault's cause alone. -/
def effA (c : Int) : Array Value := #[.int .i64 c, .bool false, .bool false, .int .i64 0, .int .u32 0]

/-- While the closure stores: both results' blocks, and the rest. -/
def CatchS (w : World) (tb eb : Nat) (w' : World) : Prop :=
  (∃ T, w'.heap[tb]? = some (.cells T 25 (0, 0)) ∧ T.size = 19) ∧ (∃ E, w'.heap[eb]? = some (.cells E 29 (0, 0)) ∧ E.size = 5) ∧ w'.os = w.os ∧ w'.tape = w.tape ∧ w'.output = w.output ∧ w.heap.size ≤ w'.heap.size ∧
  ∀ k, k < w.heap.size → k ≠ tb → k ≠ eb → w'.heap[k]? = w.heap[k]?

theorem yields_st {ops : Array Oper} {Sp : World → Prop} {op : Oper} {a : Act} (hw : Region.wanted op (yielded ops a.tmps) = true) (x : Operand) (ho : op.op = .load 25 x)
    (b : Nat) (hx : a.eval x = .pointer (some ⟨b, 0, none⟩)) (cs : Array Value) (hs : cs.size = 19) (hS : ∀ w, Sp w → w.heap[b]? = some (.cells cs 25 (0, 0))) : YieldsIf Try.prog ops Sp op (.agg cs) a := by
  have h := yieldsIf_load_mid (P := Try.prog) (S := Sp) hw 25 x ho b 0 hx cs.toList _ (fun w h => by
    have := World.rangeAt_of_block (hS w h) 0 cs.size
    simpa using this) Try.underlying25 rfl (by simp only [Array.length_toList, hs]; kernel_rfl)
  simpa using h

theorem wp_store_st {P : Program} {op : Oper} {a : Act} {w : World} {K : Act → World → Prop} {Q : Exit → Act → World → Prop} (ty : TypeId) (x y : Operand) (ho : op.op = .store ty x y)
    (g : Nat) (cells : Array Value) (hx : a.eval x = .pointer (some ⟨g, 0, none⟩)) (hy : a.eval y = .agg cells) (t : TypeId) (old : Array Value) (hg : w.heap[g]? = some (.cells old t (0, 0)))
    (hi : (P.info? ty).map (·.size) = some cells.size) (hold : old.size = cells.size) (h1 : cells.all (·.oneCell') = true) (h : K (a.put op.dst undef) (w.setRow g cells)) : op.wp P a w K Q := by
  unfold Oper.wp execOp
  simp only [ho, hx, hy, Instr.storeAt, Instr.sureAddr, Sem.run_bind, Sem.run_pure, Result.andThen_ok, run_storeVar_row w g t ty old cells hg hi hold h1]
  exact h

/-- What the deferred closure leaves, where an instruction was given up. -/
def CatchPost (w : World) (tb eb : Nat) (S : Array Value) (c : Int) (e : Ending) (u' : FrameMode) (w' : World) : Prop :=
  e = .returned (.tuple #[]) ∧ u' = .panicking [{ v := .iface 44 (.agg #[.int .i64 c]), recovered := true }] ∧
  w'.heap[tb]? = some (.cells S 25 (0, 0)) ∧ w'.heap[eb]? = some (.cells (effA c) 29 (0, 0)) ∧ w'.os = w.os ∧ w'.tape = w.tape ∧ w'.output = w.output ∧ w.heap.size ≤ w'.heap.size ∧
  ∀ k, k < w.heap.size → k ≠ tb → k ≠ eb → w'.heap[k]? = w.heap[k]?

set_option maxRecDepth 100000 in
set_option maxHeartbeats 4000000 in
theorem catch_panic (sb tb eb : Nat) (A T E : Array Value) (c : Int) (w : World) (hS : A.size = 19) (hT : T.size = 19) (hE : E.size = 5) (hS1 : A.all (·.oneCell') = true)
    (h1 : w.heap[sb]? = some (.cells A 25 (0, 0))) (h2 : w.heap[tb]? = some (.cells T 25 (0, 0))) (h3 : w.heap[eb]? = some (.cells E 29 (0, 0))) (n1 : sb ≠ tb) (n2 : sb ≠ eb) (n3 : tb ≠ eb) :
    CallsD Try.prog 16 #[.pointer (some ⟨sb, 0, none⟩), .pointer (some ⟨tb, 0, none⟩), .pointer (some ⟨eb, 0, none⟩)] (.panicking (givesUp c)) w (CatchPost w tb eb A c) := by
  have hta : ∀ (c : Int) (w : World), (Instr.typeAssert (.iface 44 (.agg #[.int .i64 c])) 20 44 true).run Try.prog w = .ok (.tuple #[.agg #[.int .i64 c], .bool true]) w := fun _ _ => by kernel_rfl
  have l1 : sb < w.heap.size := (Array.getElem?_eq_some_iff.1 h1).1
  have l2 : tb < w.heap.size := (Array.getElem?_eq_some_iff.1 h2).1
  have l3 : eb < w.heap.size := (Array.getElem?_eq_some_iff.1 h3).1
  have H1 := Lib.hid h1
  have H2 := Lib.hid h2
  have H3 := Lib.hid h3
  have HS := Lib.hid hS
  have HT := Lib.hid hT
  have HE := Lib.hid hE
  have HO := Lib.hid hS1
  clear h1 h2 h3 hS hT hE hS1
  unfold givesUp
  refine callsD_of_wpS Try.func16 rfl fun c₀ cs hu => ?_
  have hz : (#[.pointer (some ⟨sb, 0, none⟩), .pointer (some ⟨tb, 0, none⟩), .pointer (some ⟨eb, 0, none⟩)] ++ Array.replicate (Try.f16.ntmps - (#[.pointer (some ⟨sb, 0, none⟩), .pointer (some ⟨tb, 0, none⟩), .pointer (some ⟨eb, 0, none⟩)] : Array Value).size) undef) = #[.pointer (some ⟨sb, 0, none⟩), .pointer (some ⟨tb, 0, none⟩), .pointer (some ⟨eb, 0, none⟩), undef, undef, undef, undef, undef, undef, undef, undef, undef, undef, undef, undef, undef, undef, undef, undef, undef, undef] := by kernel_rfl
  rw [hz]
  clear hz
  apply wpS_seq
  apply wpS_region
  simp [wpOpsS, go_sem, recoverD, hu, Exit.thenS]
  refine wpS_of_wp ?_
  --REGION
  go_wp2_with fail
  have hsz : (Try.prog.info? 25).map (·.size) = some A.size := by rw [HS.out]; kernel_rfl
  have hez : (Try.prog.info? 29).map (·.size) = some (effA c).size := by kernel_rfl
  refine wp_region_held_drew (S := fun w' => w'.heap[sb]? = some (.cells A 25 (0, 0)) ∧ w'.cell? ⟨w.heap.size, 0, none⟩ = some (.int .i64 c) ∧ CatchS w tb eb w') (by kernel_rfl) ⟨?_, ?_, ?_⟩ (fun hHeld => ?_)
  · exact heap_drew' (heap_old' H1.out)
  · go_simp
  · exact ⟨⟨T, heap_drew' (heap_old' H2.out), HT.out⟩, ⟨E, heap_drew' (heap_old' H3.out), HE.out⟩, rfl, rfl, rfl, by simp, fun k hk _ _ => Below.heap_alloc w _ k hk⟩
  refine wpAnyH_take (i := 0) (oi := { dst := some 17, op := Op.load 25 (Operand.tmp 0), type := 25, pos := "sense.go:110", after := #[], guard := none }) (v := .agg A) rfl (by kernel_rfl) (by kernel_rfl) (by kernel_rfl) (fun _ _ _ h => h) (yields_st (by rfl) _ rfl sb rfl A HS.out (fun w' h => h.1)) hHeld ?_
  try simp only [Act.put, List.setIfInBounds_toArray, List.set_cons_zero, List.set_cons_succ]
  refine wpAnyH_take (i := 1) (oi := { dst := some 18, op := Op.fieldAddr 44 (Operand.tmp 4) 0, type := 0, pos := "sense.go:110", after := #[], guard := none }) (v := .pointer (some ⟨w.heap.size, 0, none⟩)) rfl (by kernel_rfl) (by kernel_rfl) (by kernel_rfl) (fun _ _ _ h => h) (Or.inl ⟨by rfl, ?_⟩) hHeld ?_
  · intro w' hSw
    skip
    go_simp
  try simp only [Act.put, List.setIfInBounds_toArray, List.set_cons_zero, List.set_cons_succ]
  refine wpAnyH_take (i := 2) (oi := { dst := some 19, op := Op.load 3 (Operand.tmp 18), type := 3, pos := "sense.go:110", after := #[{ on := 1, ground := Ground.data }], guard := none }) (v := .int .i64 c) rfl (by kernel_rfl) (by kernel_rfl) (by kernel_rfl) (fun _ _ _ h => h) (Or.inl ⟨by rfl, ?_⟩) hHeld ?_
  · intro w' hSw
    have k1 := hSw.2.1
    go_simp
  try simp only [Act.put, List.setIfInBounds_toArray, List.set_cons_zero, List.set_cons_succ]
  refine wpAnyH_take (i := 3) (oi := { dst := some 20, op := Op.build 29 #[(0, Operand.tmp 19)], type := 29, pos := "sense.go:110", after := #[{ on := 2, ground := Ground.data }], guard := none }) (v := .agg (effA c)) rfl (by kernel_rfl) (by kernel_rfl) (by kernel_rfl) (fun _ _ _ h => h) (Or.inl ⟨by rfl, ?_⟩) hHeld ?_
  · intro w' hSw
    unfold effA
    go_simp
  try simp only [Act.put, List.setIfInBounds_toArray, List.set_cons_zero, List.set_cons_succ]
  refine wpAnyH_ready (rs := [4]) (by kernel_rfl) (by simp) ?_
  refine AllReadyH.cons (o := { dst := none, op := Op.store 25 (Operand.tmp 1) (Operand.tmp 17), type := 0, pos := "sense.go:110", after := #[{ on := 0, ground := Ground.data }, { on := 0, ground := Ground.phase }, { on := 1, ground := Ground.textOnly Departure.lateStores }, { on := 2, ground := Ground.textOnly Departure.lateStores }, { on := 3, ground := Ground.textOnly Departure.lateStoresUnsure }], guard := none }) rfl (fun K hK => ?_) AllReadyH.nil
  rw [if_pos (by rfl)]
  refine wp_store_st 25 _ _ rfl tb A rfl rfl 25 T (heap_drew' (heap_old' H2.out)) hsz (by rw [HT.out, HS.out]) HO.out ?_
  refine hK.out _ _ ⟨?_, ?_, ?_⟩ (fun hHeld => ?_)
  · rw [setRow_other _ _ _ _ n1]; exact heap_drew' (heap_old' H1.out)
  · rw [cell_setRow_other _ _ _ _ (by simp; omega)]; go_simp
  · refine ⟨⟨A, setRow_heap _ _ _ _ _ _ (heap_drew' (heap_old' H2.out)), HS.out⟩, ⟨E, ?_, HE.out⟩, rfl, rfl, rfl, by simp, fun k hk h1 h2 => ?_⟩
    · rw [setRow_other _ _ _ _ (Ne.symm n3)]; exact heap_drew' (heap_old' H3.out)
    · rw [setRow_other _ _ _ _ h1]; exact Below.heap_alloc w _ k hk
  clear hK K
  try simp only [Act.put, List.setIfInBounds_toArray, List.set_cons_zero, List.set_cons_succ]
  refine wpAnyH_ready (rs := [5]) (by kernel_rfl) (by simp) ?_
  refine AllReadyH.cons (o := { dst := none, op := Op.store 29 (Operand.tmp 2) (Operand.tmp 20), type := 0, pos := "sense.go:110", after := #[{ on := 3, ground := Ground.data }, { on := 4, ground := Ground.chain }, { on := 0, ground := Ground.phase }, { on := 1, ground := Ground.phase }, { on := 2, ground := Ground.phase }, { on := 3, ground := Ground.phase }, { on := 4, ground := Ground.phase }], guard := none }) rfl (fun K hK => ?_) AllReadyH.nil
  rw [if_pos (by rfl)]
  have g1 := setRow_heap (w.alloc (.cells #[.int .i64 c] 44)).drew tb T A _ _ (heap_drew' (heap_old' H2.out))
  have g2 : ((w.alloc (.cells #[.int .i64 c] 44)).drew.setRow tb A).heap[eb]? = some (.cells E 29 (0, 0)) := by rw [setRow_other _ _ _ _ (Ne.symm n3)]; exact heap_drew' (heap_old' H3.out)
  refine wp_store_st 29 _ _ rfl eb (effA c) rfl rfl 29 E g2 hez (by rw [HE.out]; rfl) (by simp [effA, Value.oneCell']) ?_
  refine hK.out _ _ ⟨?_, ?_, ?_⟩ (fun hHeld => ?_)
  · rw [setRow_other _ _ _ _ n2, setRow_other _ _ _ _ n1]; exact heap_drew' (heap_old' H1.out)
  · rw [cell_setRow_other _ _ _ _ (by simp; omega), cell_setRow_other _ _ _ _ (by simp; omega)]; go_simp
  · refine ⟨⟨A, ?_, HS.out⟩, ⟨effA c, setRow_heap _ _ _ _ _ _ g2, rfl⟩, rfl, rfl, rfl, by simp, fun k hk h1 h2 => ?_⟩
    · rw [setRow_other _ _ _ _ n3]; exact g1
    · rw [setRow_other _ _ _ _ h2, setRow_other _ _ _ _ h1]; exact Below.heap_alloc w _ k hk
  clear hK K
  refine wpAnyH_done (by kernel_rfl) ?_ _
  obtain ⟨-, -, -, -, q1, q2, q3, q4, q5⟩ := hHeld
  refine ⟨rfl, _, rfl, .tuple #[], results_none rfl _ _ _, rfl, rfl, ?_, setRow_heap _ _ _ _ _ _ g2, q1, q2, q3, q4, q5⟩
  rw [setRow_other _ _ _ _ n3]; exact g1

/-- What an instruction does; nil: it is none of the class. -/
def pickV (b : Nat) (op : Int) : Value :=
  if op = 1 then .func (.func 28) #[.pointer (some ⟨b, 0, none⟩)] #[]
  else if op = 2 then .func (.func 29) #[.pointer (some ⟨b, 0, none⟩)] #[]
  else if op = 3 then .func (.func 30) #[.pointer (some ⟨b, 0, none⟩)] #[]
  else if op = 96 then .func (.func 31) #[.pointer (some ⟨b, 0, none⟩)] #[]
  else if op = 97 then .func (.func 32) #[.pointer (some ⟨b, 0, none⟩)] #[]
  else if op = 98 then .func (.func 33) #[.pointer (some ⟨b, 0, none⟩)] #[]
  else if op = 99 then .func (.func 34) #[.pointer (some ⟨b, 0, none⟩)] #[]
  else if op = 100 then .func (.func 35) #[.pointer (some ⟨b, 0, none⟩)] #[]
  else if op = 101 then .func (.func 36) #[.pointer (some ⟨b, 0, none⟩)] #[]
  else .nilFunc

set_option maxHeartbeats 4000000 in
theorem pick_c (b : Nat) (x : DX) (w : World) (h : DocAt w b x) :
    Calls Try.prog 17 #[.pointer (some ⟨b, 0, none⟩)] w fun e w' => e = .returned (pickV b x.op) ∧ w = w' := by
  have hmf : ∀ (fn : Fn) (first cap : Array Value) (w : World), (Instr.makeFunc fn first cap).run Try.prog w = .ok (.func fn first cap) w := fun _ _ _ _ => rfl
  have c19 : w.cell? ⟨b, 19, none⟩ = some (.int .u8 x.op) := h.cell 19
  generalize x.op = op at c19
  have hc : op = 1 ∨ op = 2 ∨ op = 3 ∨ op = 96 ∨ op = 97 ∨ op = 98 ∨ op = 99 ∨ op = 100 ∨ op = 101 ∨ (op ≠ 1 ∧ op ≠ 2 ∧ op ≠ 3 ∧ op ≠ 96 ∧ op ≠ 97 ∧ op ≠ 98 ∧ op ≠ 99 ∧ op ≠ 100 ∧ op ≠ 101) := by omega
  clear h
  rcases hc with rfl | rfl | rfl | rfl | rfl | rfl | rfl | rfl | rfl | ⟨n1, n2, n3, n4, n5, n6, n7, n8, n9⟩
  case' inr.inr.inr.inr.inr.inr.inr.inr.inr =>
    have hv : pickV b op = .nilFunc := by unfold pickV; repeat (first | rw [if_neg (by omega)])
    rw [hv]
    have e1 : (op == 1) = false := beq_eq_false_iff_ne.2 n1
    have e2 : (op == 2) = false := beq_eq_false_iff_ne.2 n2
    have e3 : (op == 3) = false := beq_eq_false_iff_ne.2 n3
    have e4 : (op == 96) = false := beq_eq_false_iff_ne.2 n4
    have e5 : (op == 97) = false := beq_eq_false_iff_ne.2 n5
    have e6 : (op == 98) = false := beq_eq_false_iff_ne.2 n6
    have e7 : (op == 99) = false := beq_eq_false_iff_ne.2 n7
    have e8 : (op == 100) = false := beq_eq_false_iff_ne.2 n8
    have e9 : (op == 101) = false := beq_eq_false_iff_ne.2 n9
    clear hv n1 n2 n3 n4 n5 n6 n7 n8 n9
  all_goals
    go_enter Try.func17, Try.ntmps17
    go_wp2
    go_ret
    exact ⟨rfl, rfl⟩
end Go.Proofs.Ytlgnhjalhfednaa
