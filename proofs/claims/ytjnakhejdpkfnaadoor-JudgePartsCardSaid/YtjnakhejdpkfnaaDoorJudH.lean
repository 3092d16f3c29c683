/- judge.parts: of two guests, in order. (Written by mkJH.py.) -/
import Derived.Test.YtjnakhejdpkfnaaDoorJudG
import Derived.Deep.MidRow
namespace Go.Proofs.YtjnakhejdpkfnaaDoor
open Go.RowKit
set_option linter.unusedSimpArgs false
set_option linter.unusedVariables false
set_option maxRecDepth 100000

/-- A slice of bytes, and what it leads to. -/
structure BSl where
  a : Option Addr
  len : Nat
  cap : Nat
  L : List Int
/-- A slice of flat structs. -/
structure ESl where
  a : Option Addr
  len : Nat
  cap : Nat
  L : List (List Value)
abbrev BSl.v (s : BSl) : Value := .slice s.a s.len s.cap
abbrev ESl.v (s : ESl) : Value := .slice s.a s.len s.cap
abbrev BSl.ok (s : BSl) (w : World) : Prop := ByteArg w s.a s.len s.cap s.L
abbrev ESl.ok (s : ESl) (ks : List CK) (w : World) : Prop := ElemArg w ks s.a s.len s.cap s.L
/-- A saved guest. -/
structure SvR where
  fr : Int
  mem : BSl
  S : Array Value
  st : Int
  notes : ESl
  out : BSl
  disk : BSl
  queue : BSl
  script : ESl
  d : Nat → Int
/-- Its cells. -/
structure SvAt (A : Array Value) (s : SvR) : Prop where
  size : A.size = 35
  fr : A[0]? = some (.int .i64 s.fr)
  mem : A[1]? = some s.mem.v
  S : ∀ j v, s.S.toList[j]? = some v → A[2 + j]? = some v
  st : A[21]? = some (.int .i64 s.st)
  notes : A[22]? = some s.notes.v
  out : A[23]? = some s.out.v
  disk : A[24]? = some s.disk.v
  queue : A[25]? = some s.queue.v
  script : A[26]? = some s.script.v
  d0 : A[27]? = some (.int .u32 (s.d 0))
  d1 : A[28]? = some (.int .u32 (s.d 1))
  d2 : A[29]? = some (.int .u32 (s.d 2))
  d3 : A[30]? = some (.int .u32 (s.d 3))
  d4 : A[31]? = some (.int .u32 (s.d 4))
  d5 : A[32]? = some (.int .u32 (s.d 5))
  d6 : A[33]? = some (.int .u32 (s.d 6))
  d7 : A[34]? = some (.int .u32 (s.d 7))
/-- What the walk is told of it. -/
structure SvOk (s : SvR) (w : World) : Prop where
  fr0 : -9223372036854775808 ≤ s.fr
  fr1 : s.fr ≤ 9223372036854775807
  st0 : -9223372036854775808 ≤ s.st
  st1 : s.st ≤ 9223372036854775807
  S : s.S.size = 19
  Sok : okAll stKJ s.S.toList
  mem : s.mem.ok w
  notes : s.notes.ok ksN w
  out : s.out.ok w
  disk : s.disk.ok w
  queue : s.queue.ok w
  script : s.script.ok ksE w
  d : ∀ k, 0 ≤ s.d k ∧ s.d k < 4294967296
theorem SvOk.below {s : SvR} {w w' : World} (h : SvOk s w) (hb : Below w.heap.size w w') : SvOk s w' :=
  ⟨h.fr0, h.fr1, h.st0, h.st1, h.S, h.Sok, ByteArg.below h.mem hb, ElemArg.below h.notes hb, ByteArg.below h.out hb, ByteArg.below h.disk hb, ByteArg.below h.queue hb, ElemArg.below h.script hb, h.d⟩

/-- What a part's closure has taken. -/
def Qnum (x y : Int) (fn : Nat) (caps : Array Value) (w : World) : Prop := fn = 48 ∧ ∃ p q, caps = #[ptrV p, ptrV q] ∧ NB2 p q x y w
def Qbytes (va vb : Value) (n : Int) (fn : Nat) (caps : Array Value) (w : World) : Prop := fn = 52 ∧ ∃ k p q, caps = #[ptrV k, ptrV p, ptrV q] ∧ BBox p q k va vb n w
def Qlist (n : Int) (fn : Nat) (caps : Array Value) (w : World) : Prop := fn = 54 ∧ ∃ p, caps = #[ptrV p] ∧ w.heap[p]? = some (.cells #[.int .i64 n] 3 (0, 0))
def Qdev (fn : Nat) (caps : Array Value) (w : World) : Prop := fn = 43 ∧ caps = #[]
theorem Qnum.next {x y : Int} {fn : Nat} {caps : Array Value} {w w' : World} (h : Qnum x y fn caps w) (hb : Below w.heap.size w w') : Qnum x y fn caps w' := by
  obtain ⟨h1, p, q, h2, h3⟩ := h
  exact ⟨h1, p, q, h2, h3.next hb⟩
theorem Qbytes.next {va vb : Value} {n : Int} {fn : Nat} {caps : Array Value} {w w' : World} (h : Qbytes va vb n fn caps w) (hb : Below w.heap.size w w') : Qbytes va vb n fn caps w' := by
  obtain ⟨h1, k, p, q, h2, h3⟩ := h
  exact ⟨h1, k, p, q, h2, (hb.block _ (lt_of_rowJ h3.a)).trans h3.a, (hb.block _ (lt_of_rowJ h3.b)).trans h3.b, (hb.block _ (lt_of_rowJ h3.k)).trans h3.k⟩
theorem Qlist.next {n : Int} {fn : Nat} {caps : Array Value} {w w' : World} (h : Qlist n fn caps w) (hb : Below w.heap.size w w') : Qlist n fn caps w' := by
  obtain ⟨h1, p, h2, h3⟩ := h
  exact ⟨h1, p, h2, (hb.block _ (lt_of_rowJ h3)).trans h3⟩
theorem Qdev.next {fn : Nat} {caps : Array Value} {w w' : World} (h : Qdev fn caps w) (hb : Below w.heap.size w w') : Qdev fn caps w' := h

/-- A part: its cells, and what its closure has taken. -/
def PartIs (C : List Value) (nm : ByteArray) (d : Bool) (Q : Nat → Array Value → World → Prop) (w : World) : Prop :=
  ∃ fn caps, C = [.string nm, .bool d, .func (.func fn) #[] caps] ∧ Q fn caps w

/-- The rows of the two guests. -/
structure PrS (w : World) (A B : Array Value) (w' : World) : Prop where
  a : w'.heap[w.heap.size]? = some (.cells A 30 (0, 0))
  b : w'.heap[w.heap.size + 1]? = some (.cells B 30 (0, 0))
  below : Below w.heap.size w w'
  size : w.heap.size + 1 < w'.heap.size
theorem PrS.next {w w1 w2 : World} {A B : Array Value} (h : PrS w A B w1) (hb : Below w1.heap.size w1 w2) : PrS w A B w2 :=
  have hs := h.size
  ⟨(hb.block _ (by omega)).trans h.a, (hb.block _ (by omega)).trans h.b, h.below.trans (hb.mono (by omega)), Nat.lt_of_lt_of_le h.size hb.size⟩
theorem range_of_row {w : World} {b o : Nat} {A : Array Value} {t : TypeId} {f : Nat × Nat} (h : w.heap[b]? = some (.cells A t f)) (cs : List Value) (hc : ∀ j v, cs[j]? = some v → A[o + j]? = some v) : w.rangeAt b o cs :=
  fun j v hv => (cell_of_row w b (o + j) A t f h).trans (hc j v hv)

theorem wf_u32J {x : Int} (h : 0 ≤ x) (h' : x < 4294967296) : (Lit.int .u32 x).wf = true := by
  have e1 : IntKind.min .u32 = 0 := by decide
  have e2 : IntKind.max .u32 = 4294967295 := by decide
  simp only [Lit.wf, Bool.and_eq_true, decide_eq_true_eq]
  omega

noncomputable def devNe (s r : SvR) : Bool := @decide (¬ ((s.d 0 = r.d 0 ∧ s.d 1 = r.d 1 ∧ s.d 2 = r.d 2 ∧ s.d 3 = r.d 3) ∧ s.d 4 = r.d 4 ∧ s.d 5 = r.d 5 ∧ s.d 6 = r.d 6 ∧ s.d 7 = r.d 7)) inferInstance

set_option maxHeartbeats 16000000 in
theorem parts_c (A B : Array Value) (s r : SvR) (hA : SvAt A s) (hB : SvAt B r) (w : World) (hs : SvOk s w) (hr : SvOk r w) (ds : Bool) (Qst : Nat → Array Value → World → Prop)
    (hQ : ∀ fn caps W W', Qst fn caps W → Below W.heap.size W W' → Qst fn caps W')
    (HSt : ∀ W, Below w.heap.size w W → Calls Tryd.prog 39 #[.agg s.S, .agg r.S] W fun e w' => (∃ fn caps, e = .returned (.agg #[.string ⟨#[115, 116, 97, 116, 101]⟩, .bool ds, .func (.func fn) #[] caps]) ∧ Qst fn caps w') ∧ Below W.heap.size W w') :
    Calls Tryd.prog 30 #[.agg A, .agg B] w fun e w' => ∃ g C0 C1 C2 C3 C4 C5 C6 C7 C8 C9,
      e = .returned (.slice (some ⟨g, 0, none⟩) 10 10) ∧ w.heap.size ≤ g ∧ w'.heap[g]? = some (.cells (C0 ++ C1 ++ C2 ++ C3 ++ C4 ++ C5 ++ C6 ++ C7 ++ C8 ++ C9).toArray 63 (0, 0)) ∧
      PartIs C0 ⟨#[102, 114, 97, 109, 101, 115]⟩ (s.fr != r.fr) (Qnum s.fr r.fr) w' ∧ PartIs C1 ⟨#[115, 116, 101, 112, 115]⟩ (s.st != r.st) (Qnum s.st r.st) w' ∧ PartIs C2 ⟨#[115, 116, 97, 116, 101]⟩ ds Qst w' ∧ PartIs C3 ⟨#[109, 101, 109]⟩ (decide (0 ≤ firstL s.mem.L r.mem.L)) (Qbytes s.mem.v r.mem.v (firstL s.mem.L r.mem.L)) w' ∧
      PartIs C4 ⟨#[110, 111, 116, 101, 115]⟩ (decide (0 ≤ firstE s.notes.L r.notes.L)) (Qlist (firstE s.notes.L r.notes.L)) w' ∧ PartIs C5 ⟨#[111, 117, 116]⟩ (decide (0 ≤ firstL s.out.L r.out.L)) (Qbytes s.out.v r.out.v (firstL s.out.L r.out.L)) w' ∧
      PartIs C6 ⟨#[100, 105, 115, 107]⟩ (decide (0 ≤ firstL s.disk.L r.disk.L)) (Qbytes s.disk.v r.disk.v (firstL s.disk.L r.disk.L)) w' ∧ PartIs C7 ⟨#[113, 117, 101, 117, 101]⟩ (decide (0 ≤ firstL s.queue.L r.queue.L)) (Qbytes s.queue.v r.queue.v (firstL s.queue.L r.queue.L)) w' ∧
      PartIs C8 ⟨#[115, 99, 114, 105, 112, 116]⟩ (decide (0 ≤ firstE s.script.L r.script.L)) (Qlist (firstE s.script.L r.script.L)) w' ∧ PartIs C9 ⟨#[100, 101, 118, 105, 99, 101, 115]⟩ (devNe s r) Qdev w' ∧ Below w.heap.size w w' := by
  have hzA : A.size = 35 := hA.size
  have hzB : B.size = 35 := hB.size
  have HN := Lib.hid fun nm x y W => numbers_c nm x y W
  have HL := Lib.hid fun nm k W => list_c nm k W
  have HMem := Lib.hid fun (W : World) (hb : Below w.heap.size w W) => bytesP_c ⟨#[109, 101, 109]⟩ _ _ _ _ _ _ _ _ W (ByteArg.below hs.mem hb) (ByteArg.below hr.mem hb)
  have HOut := Lib.hid fun (W : World) (hb : Below w.heap.size w W) => bytesP_c ⟨#[111, 117, 116]⟩ _ _ _ _ _ _ _ _ W (ByteArg.below hs.out hb) (ByteArg.below hr.out hb)
  have HDisk := Lib.hid fun (W : World) (hb : Below w.heap.size w W) => bytesP_c ⟨#[100, 105, 115, 107]⟩ _ _ _ _ _ _ _ _ W (ByteArg.below hs.disk hb) (ByteArg.below hr.disk hb)
  have HQueue := Lib.hid fun (W : World) (hb : Below w.heap.size w W) => bytesP_c ⟨#[113, 117, 101, 117, 101]⟩ _ _ _ _ _ _ _ _ W (ByteArg.below hs.queue hb) (ByteArg.below hr.queue hb)
  have HNotes := Lib.hid fun (W : World) (hb : Below w.heap.size w W) => judgeNotes_c _ _ _ _ _ _ _ _ W (ElemArg.below hs.notes hb) (ElemArg.below hr.notes hb)
  have HEvents := Lib.hid fun (W : World) (hb : Below w.heap.size w W) => judgeEvents_c _ _ _ _ _ _ _ _ W (ElemArg.below hs.script hb) (ElemArg.below hr.script hb)
  have HDA := Lib.hid fun W => devices_c A hA.size _ _ _ _ _ _ _ _ hA.d0 hA.d1 hA.d2 hA.d3 hA.d4 hA.d5 hA.d6 hA.d7 W
  have HDB := Lib.hid fun W => devices_c B hB.size _ _ _ _ _ _ _ _ hB.d0 hB.d1 hB.d2 hB.d3 hB.d4 hB.d5 hB.d6 hB.d7 W
  have HSH := Lib.hid HSt
  have HQH := Lib.hid hQ
  have hdn : ∀ W, (binOp .neq 24 (.agg #[.int .u32 (s.d 0), .int .u32 (s.d 1), .int .u32 (s.d 2), .int .u32 (s.d 3), .int .u32 (s.d 4), .int .u32 (s.d 5), .int .u32 (s.d 6), .int .u32 (s.d 7)]) (.agg #[.int .u32 (r.d 0), .int .u32 (r.d 1), .int .u32 (r.d 2), .int .u32 (r.d 3), .int .u32 (r.d 4), .int .u32 (r.d 5), .int .u32 (r.d 6), .int .u32 (r.d 7)])).run Tryd.prog W = .ok (.bool (devNe s r)) W := by
    have wf : ∀ {x : Int}, (0 ≤ x ∧ x < 4294967296) → CK.ok (.i .u32) (.int .u32 x) := fun {x} h => ⟨x, rfl, wf_u32J h.1 h.2⟩
    obtain ⟨b, -, h1, h2⟩ := run_eql_flat (P := Tryd.prog) (n := 3) (t := 24) (ks := [.i .u32, .i .u32, .i .u32, .i .u32, .i .u32, .i .u32, .i .u32, .i .u32]) (by decide) (by kernel_rfl) (by kernel_rfl) (by kernel_rfl) (by kernel_rfl)
      (xs := [.int .u32 (s.d 0), .int .u32 (s.d 1), .int .u32 (s.d 2), .int .u32 (s.d 3), .int .u32 (s.d 4), .int .u32 (s.d 5), .int .u32 (s.d 6), .int .u32 (s.d 7)]) (ys := [.int .u32 (r.d 0), .int .u32 (r.d 1), .int .u32 (r.d 2), .int .u32 (r.d 3), .int .u32 (r.d 4), .int .u32 (r.d 5), .int .u32 (r.d 6), .int .u32 (r.d 7)])
      ⟨wf (hs.d 0), wf (hs.d 1), wf (hs.d 2), wf (hs.d 3), wf (hs.d 4), wf (hs.d 5), wf (hs.d 6), wf (hs.d 7), trivial⟩ ⟨wf (hr.d 0), wf (hr.d 1), wf (hr.d 2), wf (hr.d 3), wf (hr.d 4), wf (hr.d 5), wf (hr.d 6), wf (hr.d 7), trivial⟩
    have e : (!b) = devNe s r := by
      unfold devNe
      have h3 : b = decide ((s.d 0 = r.d 0 ∧ s.d 1 = r.d 1 ∧ s.d 2 = r.d 2 ∧ s.d 3 = r.d 3) ∧ s.d 4 = r.d 4 ∧ s.d 5 = r.d 5 ∧ s.d 6 = r.d 6 ∧ s.d 7 = r.d 7) := by
        rw [Bool.eq_iff_iff, h2]
        simp [and_assoc]
      rw [h3]; simp
    intro W; rw [← e]; exact h1 W
  have zS : s.S.toList.length = 19 := by simpa using hs.S
  have zR : r.S.toList.length = 19 := by simpa using hr.S
  have HAt := Lib.hid hA
  have HBt := Lib.hid hB
  clear hs hr hA hB HSt hQ
  obtain ⟨fl3, hfl3⟩ : ∃ n, n = firstL s.mem.L r.mem.L := ⟨_, rfl⟩
  obtain ⟨fl5, hfl5⟩ : ∃ n, n = firstL s.out.L r.out.L := ⟨_, rfl⟩
  obtain ⟨fl6, hfl6⟩ : ∃ n, n = firstL s.disk.L r.disk.L := ⟨_, rfl⟩
  obtain ⟨fl7, hfl7⟩ : ∃ n, n = firstL s.queue.L r.queue.L := ⟨_, rfl⟩
  obtain ⟨fl4, hfl4⟩ : ∃ n, n = firstE s.notes.L r.notes.L := ⟨_, rfl⟩
  obtain ⟨fl8, hfl8⟩ : ∃ n, n = firstE s.script.L r.script.L := ⟨_, rfl⟩
  rw [← hfl3] at HMem ⊢
  rw [← hfl5] at HOut ⊢
  rw [← hfl6] at HDisk ⊢
  rw [← hfl7] at HQueue ⊢
  rw [← hfl4] at HNotes ⊢
  rw [← hfl8] at HEvents ⊢
  clear hfl3 hfl4 hfl5 hfl6 hfl7 hfl8
  generalize devNe s r = dn at hdn ⊢
  go_enter Tryd.func30, Tryd.ntmps30
  go_wp2_with fail
  have HI : Hid (PrS w A B ((w.alloc (.cells A 30)).alloc (.cells B 30)).drew) :=
    Lib.hid ⟨heap_drew' (heap_old' (heap_new' rfl)), heap_drew' (heap_new' (by simp)), ((below_alloc1 w _).alloc (by simp) _).drew, by simp⟩
  refine wp_region_held_drew (S := fun w' => PrS w A B w') (by kernel_rfl) HI.out (fun hHeld => ?_)
  clear HI
  refine wpAnyH_take (i := 0) (oi := { dst := some 5, op := Op.fieldAddr _ (Operand.tmp 2) 0, type := _, pos := "judge.go:148", after := #[], guard := none }) (v := .pointer (some ⟨w.heap.size, 0, none⟩)) rfl (by kernel_rfl) (by kernel_rfl) (by kernel_rfl) (fun _ _ _ h => h) (Or.inl ⟨by rfl, ?_⟩) hHeld ?_
  · intro w' hSw
    skip
    go_simp
  try simp only [Act.put, List.setIfInBounds_toArray, List.set_cons_zero, List.set_cons_succ]
  refine wpAnyH_take (i := 1) (oi := { dst := some 6, op := Op.load _ (Operand.tmp 5), type := _, pos := "judge.go:148", after := #[{ on := 0, ground := Ground.data }], guard := none }) (v := .int .i64 s.fr) rfl (by kernel_rfl) (by kernel_rfl) (by kernel_rfl) (fun _ _ _ h => h) (Or.inl ⟨by rfl, ?_⟩) hHeld ?_
  · intro w' hSw
    have k0 := (cell_of_row w' _ 0 _ _ _ hSw.a).trans HAt.out.fr
    go_simp
  try simp only [Act.put, List.setIfInBounds_toArray, List.set_cons_zero, List.set_cons_succ]
  refine wpAnyH_take (i := 2) (oi := { dst := some 7, op := Op.fieldAddr _ (Operand.tmp 3) 0, type := _, pos := "judge.go:148", after := #[], guard := none }) (v := .pointer (some ⟨w.heap.size + 1, 0, none⟩)) rfl (by kernel_rfl) (by kernel_rfl) (by kernel_rfl) (fun _ _ _ h => h) (Or.inl ⟨by rfl, ?_⟩) hHeld ?_
  · intro w' hSw
    skip
    go_simp
  try simp only [Act.put, List.setIfInBounds_toArray, List.set_cons_zero, List.set_cons_succ]
  refine wpAnyH_take (i := 3) (oi := { dst := some 8, op := Op.load _ (Operand.tmp 7), type := _, pos := "judge.go:148", after := #[{ on := 2, ground := Ground.data }], guard := none }) (v := .int .i64 r.fr) rfl (by kernel_rfl) (by kernel_rfl) (by kernel_rfl) (fun _ _ _ h => h) (Or.inl ⟨by rfl, ?_⟩) hHeld ?_
  · intro w' hSw
    have k0 := (cell_of_row w' _ 0 _ _ _ hSw.b).trans HBt.out.fr
    go_simp
  try simp only [Act.put, List.setIfInBounds_toArray, List.set_cons_zero, List.set_cons_succ]
  refine wpAnyH_take (i := 5) (oi := { dst := some 10, op := Op.fieldAddr _ (Operand.tmp 2) 3, type := _, pos := "judge.go:148", after := #[], guard := none }) (v := .pointer (some ⟨w.heap.size, 21, none⟩)) rfl (by kernel_rfl) (by kernel_rfl) (by kernel_rfl) (fun _ _ _ h => h) (Or.inl ⟨by rfl, ?_⟩) hHeld ?_
  · intro w' hSw
    skip
    go_simp
  try simp only [Act.put, List.setIfInBounds_toArray, List.set_cons_zero, List.set_cons_succ]
  refine wpAnyH_take (i := 6) (oi := { dst := some 11, op := Op.load _ (Operand.tmp 10), type := _, pos := "judge.go:148", after := #[{ on := 5, ground := Ground.data }], guard := none }) (v := .int .i64 s.st) rfl (by kernel_rfl) (by kernel_rfl) (by kernel_rfl) (fun _ _ _ h => h) (Or.inl ⟨by rfl, ?_⟩) hHeld ?_
  · intro w' hSw
    have k0 := (cell_of_row w' _ 21 _ _ _ hSw.a).trans HAt.out.st
    go_simp
  try simp only [Act.put, List.setIfInBounds_toArray, List.set_cons_zero, List.set_cons_succ]
  refine wpAnyH_take (i := 7) (oi := { dst := some 12, op := Op.fieldAddr _ (Operand.tmp 3) 3, type := _, pos := "judge.go:148", after := #[], guard := none }) (v := .pointer (some ⟨w.heap.size + 1, 21, none⟩)) rfl (by kernel_rfl) (by kernel_rfl) (by kernel_rfl) (fun _ _ _ h => h) (Or.inl ⟨by rfl, ?_⟩) hHeld ?_
  · intro w' hSw
    skip
    go_simp
  try simp only [Act.put, List.setIfInBounds_toArray, List.set_cons_zero, List.set_cons_succ]
  refine wpAnyH_take (i := 8) (oi := { dst := some 13, op := Op.load _ (Operand.tmp 12), type := _, pos := "judge.go:148", after := #[{ on := 7, ground := Ground.data }], guard := none }) (v := .int .i64 r.st) rfl (by kernel_rfl) (by kernel_rfl) (by kernel_rfl) (fun _ _ _ h => h) (Or.inl ⟨by rfl, ?_⟩) hHeld ?_
  · intro w' hSw
    have k0 := (cell_of_row w' _ 21 _ _ _ hSw.b).trans HBt.out.st
    go_simp
  try simp only [Act.put, List.setIfInBounds_toArray, List.set_cons_zero, List.set_cons_succ]
  refine wpAnyH_take (i := 10) (oi := { dst := some 15, op := Op.fieldAddr _ (Operand.tmp 2) 2, type := _, pos := "judge.go:148", after := #[], guard := none }) (v := .pointer (some ⟨w.heap.size, 2, none⟩)) rfl (by kernel_rfl) (by kernel_rfl) (by kernel_rfl) (fun _ _ _ h => h) (Or.inl ⟨by rfl, ?_⟩) hHeld ?_
  · intro w' hSw
    skip
    go_simp
  try simp only [Act.put, List.setIfInBounds_toArray, List.set_cons_zero, List.set_cons_succ]
  refine wpAnyH_take (i := 11) (oi := { dst := some 16, op := Op.load _ (Operand.tmp 15), type := _, pos := "judge.go:148", after := #[{ on := 10, ground := Ground.data }], guard := none }) (v := .agg s.S) rfl (by kernel_rfl) (by kernel_rfl) (by kernel_rfl) (fun _ _ _ h => h) (yieldsIf_load_mid (by rfl) _ _ rfl _ 2 rfl s.S.toList _ (fun w' hSw => range_of_row hSw.a _ HAt.out.S) Tryd.underlying26 rfl (by rw [zS]; kernel_rfl)) hHeld ?_
  try simp only [Act.put, List.setIfInBounds_toArray, List.set_cons_zero, List.set_cons_succ]
  refine wpAnyH_take (i := 12) (oi := { dst := some 17, op := Op.fieldAddr _ (Operand.tmp 3) 2, type := _, pos := "judge.go:148", after := #[], guard := none }) (v := .pointer (some ⟨w.heap.size + 1, 2, none⟩)) rfl (by kernel_rfl) (by kernel_rfl) (by kernel_rfl) (fun _ _ _ h => h) (Or.inl ⟨by rfl, ?_⟩) hHeld ?_
  · intro w' hSw
    skip
    go_simp
  try simp only [Act.put, List.setIfInBounds_toArray, List.set_cons_zero, List.set_cons_succ]
  refine wpAnyH_take (i := 13) (oi := { dst := some 18, op := Op.load _ (Operand.tmp 17), type := _, pos := "judge.go:148", after := #[{ on := 12, ground := Ground.data }], guard := none }) (v := .agg r.S) rfl (by kernel_rfl) (by kernel_rfl) (by kernel_rfl) (fun _ _ _ h => h) (yieldsIf_load_mid (by rfl) _ _ rfl _ 2 rfl r.S.toList _ (fun w' hSw => range_of_row hSw.b _ HBt.out.S) Tryd.underlying26 rfl (by rw [zR]; kernel_rfl)) hHeld ?_
  try simp only [Act.put, List.setIfInBounds_toArray, List.set_cons_zero, List.set_cons_succ]
  refine wpAnyH_take (i := 15) (oi := { dst := some 20, op := Op.fieldAddr _ (Operand.tmp 2) 1, type := _, pos := "judge.go:148", after := #[], guard := none }) (v := .pointer (some ⟨w.heap.size, 1, none⟩)) rfl (by kernel_rfl) (by kernel_rfl) (by kernel_rfl) (fun _ _ _ h => h) (Or.inl ⟨by rfl, ?_⟩) hHeld ?_
  · intro w' hSw
    skip
    go_simp
  try simp only [Act.put, List.setIfInBounds_toArray, List.set_cons_zero, List.set_cons_succ]
  refine wpAnyH_take (i := 16) (oi := { dst := some 21, op := Op.load _ (Operand.tmp 20), type := _, pos := "judge.go:148", after := #[{ on := 15, ground := Ground.data }], guard := none }) (v := .slice s.mem.a s.mem.len s.mem.cap) rfl (by kernel_rfl) (by kernel_rfl) (by kernel_rfl) (fun _ _ _ h => h) (Or.inl ⟨by rfl, ?_⟩) hHeld ?_
  · intro w' hSw
    have k0 := (cell_of_row w' _ 1 _ _ _ hSw.a).trans HAt.out.mem
    go_simp
  try simp only [Act.put, List.setIfInBounds_toArray, List.set_cons_zero, List.set_cons_succ]
  refine wpAnyH_take (i := 17) (oi := { dst := some 22, op := Op.fieldAddr _ (Operand.tmp 3) 1, type := _, pos := "judge.go:148", after := #[], guard := none }) (v := .pointer (some ⟨w.heap.size + 1, 1, none⟩)) rfl (by kernel_rfl) (by kernel_rfl) (by kernel_rfl) (fun _ _ _ h => h) (Or.inl ⟨by rfl, ?_⟩) hHeld ?_
  · intro w' hSw
    skip
    go_simp
  try simp only [Act.put, List.setIfInBounds_toArray, List.set_cons_zero, List.set_cons_succ]
  refine wpAnyH_take (i := 18) (oi := { dst := some 23, op := Op.load _ (Operand.tmp 22), type := _, pos := "judge.go:148", after := #[{ on := 17, ground := Ground.data }], guard := none }) (v := .slice r.mem.a r.mem.len r.mem.cap) rfl (by kernel_rfl) (by kernel_rfl) (by kernel_rfl) (fun _ _ _ h => h) (Or.inl ⟨by rfl, ?_⟩) hHeld ?_
  · intro w' hSw
    have k0 := (cell_of_row w' _ 1 _ _ _ hSw.b).trans HBt.out.mem
    go_simp
  try simp only [Act.put, List.setIfInBounds_toArray, List.set_cons_zero, List.set_cons_succ]
  refine wpAnyH_take (i := 20) (oi := { dst := some 25, op := Op.fieldAddr _ (Operand.tmp 2) 4, type := _, pos := "judge.go:148", after := #[], guard := none }) (v := .pointer (some ⟨w.heap.size, 22, none⟩)) rfl (by kernel_rfl) (by kernel_rfl) (by kernel_rfl) (fun _ _ _ h => h) (Or.inl ⟨by rfl, ?_⟩) hHeld ?_
  · intro w' hSw
    skip
    go_simp
  try simp only [Act.put, List.setIfInBounds_toArray, List.set_cons_zero, List.set_cons_succ]
  refine wpAnyH_take (i := 21) (oi := { dst := some 26, op := Op.load _ (Operand.tmp 25), type := _, pos := "judge.go:148", after := #[{ on := 20, ground := Ground.data }], guard := none }) (v := .slice s.notes.a s.notes.len s.notes.cap) rfl (by kernel_rfl) (by kernel_rfl) (by kernel_rfl) (fun _ _ _ h => h) (Or.inl ⟨by rfl, ?_⟩) hHeld ?_
  · intro w' hSw
    have k0 := (cell_of_row w' _ 22 _ _ _ hSw.a).trans HAt.out.notes
    go_simp
  try simp only [Act.put, List.setIfInBounds_toArray, List.set_cons_zero, List.set_cons_succ]
  refine wpAnyH_take (i := 22) (oi := { dst := some 27, op := Op.fieldAddr _ (Operand.tmp 3) 4, type := _, pos := "judge.go:148", after := #[], guard := none }) (v := .pointer (some ⟨w.heap.size + 1, 22, none⟩)) rfl (by kernel_rfl) (by kernel_rfl) (by kernel_rfl) (fun _ _ _ h => h) (Or.inl ⟨by rfl, ?_⟩) hHeld ?_
  · intro w' hSw
    skip
    go_simp
  try simp only [Act.put, List.setIfInBounds_toArray, List.set_cons_zero, List.set_cons_succ]
  refine wpAnyH_take (i := 23) (oi := { dst := some 28, op := Op.load _ (Operand.tmp 27), type := _, pos := "judge.go:148", after := #[{ on := 22, ground := Ground.data }], guard := none }) (v := .slice r.notes.a r.notes.len r.notes.cap) rfl (by kernel_rfl) (by kernel_rfl) (by kernel_rfl) (fun _ _ _ h => h) (Or.inl ⟨by rfl, ?_⟩) hHeld ?_
  · intro w' hSw
    have k0 := (cell_of_row w' _ 22 _ _ _ hSw.b).trans HBt.out.notes
    go_simp
  try simp only [Act.put, List.setIfInBounds_toArray, List.set_cons_zero, List.set_cons_succ]
  refine wpAnyH_take (i := 26) (oi := { dst := some 31, op := Op.fieldAddr _ (Operand.tmp 2) 5, type := _, pos := "judge.go:148", after := #[], guard := none }) (v := .pointer (some ⟨w.heap.size, 23, none⟩)) rfl (by kernel_rfl) (by kernel_rfl) (by kernel_rfl) (fun _ _ _ h => h) (Or.inl ⟨by rfl, ?_⟩) hHeld ?_
  · intro w' hSw
    skip
    go_simp
  try simp only [Act.put, List.setIfInBounds_toArray, List.set_cons_zero, List.set_cons_succ]
  refine wpAnyH_take (i := 27) (oi := { dst := some 32, op := Op.load _ (Operand.tmp 31), type := _, pos := "judge.go:148", after := #[{ on := 26, ground := Ground.data }], guard := none }) (v := .slice s.out.a s.out.len s.out.cap) rfl (by kernel_rfl) (by kernel_rfl) (by kernel_rfl) (fun _ _ _ h => h) (Or.inl ⟨by rfl, ?_⟩) hHeld ?_
  · intro w' hSw
    have k0 := (cell_of_row w' _ 23 _ _ _ hSw.a).trans HAt.out.out
    go_simp
  try simp only [Act.put, List.setIfInBounds_toArray, List.set_cons_zero, List.set_cons_succ]
  refine wpAnyH_take (i := 28) (oi := { dst := some 33, op := Op.fieldAddr _ (Operand.tmp 3) 5, type := _, pos := "judge.go:148", after := #[], guard := none }) (v := .pointer (some ⟨w.heap.size + 1, 23, none⟩)) rfl (by kernel_rfl) (by kernel_rfl) (by kernel_rfl) (fun _ _ _ h => h) (Or.inl ⟨by rfl, ?_⟩) hHeld ?_
  · intro w' hSw
    skip
    go_simp
  try simp only [Act.put, List.setIfInBounds_toArray, List.set_cons_zero, List.set_cons_succ]
  refine wpAnyH_take (i := 29) (oi := { dst := some 34, op := Op.load _ (Operand.tmp 33), type := _, pos := "judge.go:148", after := #[{ on := 28, ground := Ground.data }], guard := none }) (v := .slice r.out.a r.out.len r.out.cap) rfl (by kernel_rfl) (by kernel_rfl) (by kernel_rfl) (fun _ _ _ h => h) (Or.inl ⟨by rfl, ?_⟩) hHeld ?_
  · intro w' hSw
    have k0 := (cell_of_row w' _ 23 _ _ _ hSw.b).trans HBt.out.out
    go_simp
  try simp only [Act.put, List.setIfInBounds_toArray, List.set_cons_zero, List.set_cons_succ]
  refine wpAnyH_take (i := 31) (oi := { dst := some 36, op := Op.fieldAddr _ (Operand.tmp 2) 6, type := _, pos := "judge.go:148", after := #[], guard := none }) (v := .pointer (some ⟨w.heap.size, 24, none⟩)) rfl (by kernel_rfl) (by kernel_rfl) (by kernel_rfl) (fun _ _ _ h => h) (Or.inl ⟨by rfl, ?_⟩) hHeld ?_
  · intro w' hSw
    skip
    go_simp
  try simp only [Act.put, List.setIfInBounds_toArray, List.set_cons_zero, List.set_cons_succ]
  refine wpAnyH_take (i := 32) (oi := { dst := some 37, op := Op.load _ (Operand.tmp 36), type := _, pos := "judge.go:148", after := #[{ on := 31, ground := Ground.data }], guard := none }) (v := .slice s.disk.a s.disk.len s.disk.cap) rfl (by kernel_rfl) (by kernel_rfl) (by kernel_rfl) (fun _ _ _ h => h) (Or.inl ⟨by rfl, ?_⟩) hHeld ?_
  · intro w' hSw
    have k0 := (cell_of_row w' _ 24 _ _ _ hSw.a).trans HAt.out.disk
    go_simp
  try simp only [Act.put, List.setIfInBounds_toArray, List.set_cons_zero, List.set_cons_succ]
  refine wpAnyH_take (i := 33) (oi := { dst := some 38, op := Op.fieldAddr _ (Operand.tmp 3) 6, type := _, pos := "judge.go:148", after := #[], guard := none }) (v := .pointer (some ⟨w.heap.size + 1, 24, none⟩)) rfl (by kernel_rfl) (by kernel_rfl) (by kernel_rfl) (fun _ _ _ h => h) (Or.inl ⟨by rfl, ?_⟩) hHeld ?_
  · intro w' hSw
    skip
    go_simp
  try simp only [Act.put, List.setIfInBounds_toArray, List.set_cons_zero, List.set_cons_succ]
  refine wpAnyH_take (i := 34) (oi := { dst := some 39, op := Op.load _ (Operand.tmp 38), type := _, pos := "judge.go:148", after := #[{ on := 33, ground := Ground.data }], guard := none }) (v := .slice r.disk.a r.disk.len r.disk.cap) rfl (by kernel_rfl) (by kernel_rfl) (by kernel_rfl) (fun _ _ _ h => h) (Or.inl ⟨by rfl, ?_⟩) hHeld ?_
  · intro w' hSw
    have k0 := (cell_of_row w' _ 24 _ _ _ hSw.b).trans HBt.out.disk
    go_simp
  try simp only [Act.put, List.setIfInBounds_toArray, List.set_cons_zero, List.set_cons_succ]
  refine wpAnyH_take (i := 36) (oi := { dst := some 41, op := Op.fieldAddr _ (Operand.tmp 2) 7, type := _, pos := "judge.go:148", after := #[], guard := none }) (v := .pointer (some ⟨w.heap.size, 25, none⟩)) rfl (by kernel_rfl) (by kernel_rfl) (by kernel_rfl) (fun _ _ _ h => h) (Or.inl ⟨by rfl, ?_⟩) hHeld ?_
  · intro w' hSw
    skip
    go_simp
  try simp only [Act.put, List.setIfInBounds_toArray, List.set_cons_zero, List.set_cons_succ]
  refine wpAnyH_take (i := 37) (oi := { dst := some 42, op := Op.load _ (Operand.tmp 41), type := _, pos := "judge.go:148", after := #[{ on := 36, ground := Ground.data }], guard := none }) (v := .slice s.queue.a s.queue.len s.queue.cap) rfl (by kernel_rfl) (by kernel_rfl) (by kernel_rfl) (fun _ _ _ h => h) (Or.inl ⟨by rfl, ?_⟩) hHeld ?_
  · intro w' hSw
    have k0 := (cell_of_row w' _ 25 _ _ _ hSw.a).trans HAt.out.queue
    go_simp
  try simp only [Act.put, List.setIfInBounds_toArray, List.set_cons_zero, List.set_cons_succ]
  refine wpAnyH_take (i := 38) (oi := { dst := some 43, op := Op.fieldAddr _ (Operand.tmp 3) 7, type := _, pos := "judge.go:148", after := #[], guard := none }) (v := .pointer (some ⟨w.heap.size + 1, 25, none⟩)) rfl (by kernel_rfl) (by kernel_rfl) (by kernel_rfl) (fun _ _ _ h => h) (Or.inl ⟨by rfl, ?_⟩) hHeld ?_
  · intro w' hSw
    skip
    go_simp
  try simp only [Act.put, List.setIfInBounds_toArray, List.set_cons_zero, List.set_cons_succ]
  refine wpAnyH_take (i := 39) (oi := { dst := some 44, op := Op.load _ (Operand.tmp 43), type := _, pos := "judge.go:148", after := #[{ on := 38, ground := Ground.data }], guard := none }) (v := .slice r.queue.a r.queue.len r.queue.cap) rfl (by kernel_rfl) (by kernel_rfl) (by kernel_rfl) (fun _ _ _ h => h) (Or.inl ⟨by rfl, ?_⟩) hHeld ?_
  · intro w' hSw
    have k0 := (cell_of_row w' _ 25 _ _ _ hSw.b).trans HBt.out.queue
    go_simp
  try simp only [Act.put, List.setIfInBounds_toArray, List.set_cons_zero, List.set_cons_succ]
  refine wpAnyH_take (i := 41) (oi := { dst := some 46, op := Op.fieldAddr _ (Operand.tmp 2) 8, type := _, pos := "judge.go:148", after := #[], guard := none }) (v := .pointer (some ⟨w.heap.size, 26, none⟩)) rfl (by kernel_rfl) (by kernel_rfl) (by kernel_rfl) (fun _ _ _ h => h) (Or.inl ⟨by rfl, ?_⟩) hHeld ?_
  · intro w' hSw
    skip
    go_simp
  try simp only [Act.put, List.setIfInBounds_toArray, List.set_cons_zero, List.set_cons_succ]
  refine wpAnyH_take (i := 42) (oi := { dst := some 47, op := Op.load _ (Operand.tmp 46), type := _, pos := "judge.go:148", after := #[{ on := 41, ground := Ground.data }], guard := none }) (v := .slice s.script.a s.script.len s.script.cap) rfl (by kernel_rfl) (by kernel_rfl) (by kernel_rfl) (fun _ _ _ h => h) (Or.inl ⟨by rfl, ?_⟩) hHeld ?_
  · intro w' hSw
    have k0 := (cell_of_row w' _ 26 _ _ _ hSw.a).trans HAt.out.script
    go_simp
  try simp only [Act.put, List.setIfInBounds_toArray, List.set_cons_zero, List.set_cons_succ]
  refine wpAnyH_take (i := 43) (oi := { dst := some 48, op := Op.fieldAddr _ (Operand.tmp 3) 8, type := _, pos := "judge.go:148", after := #[], guard := none }) (v := .pointer (some ⟨w.heap.size + 1, 26, none⟩)) rfl (by kernel_rfl) (by kernel_rfl) (by kernel_rfl) (fun _ _ _ h => h) (Or.inl ⟨by rfl, ?_⟩) hHeld ?_
  · intro w' hSw
    skip
    go_simp
  try simp only [Act.put, List.setIfInBounds_toArray, List.set_cons_zero, List.set_cons_succ]
  refine wpAnyH_take (i := 44) (oi := { dst := some 49, op := Op.load _ (Operand.tmp 48), type := _, pos := "judge.go:148", after := #[{ on := 43, ground := Ground.data }], guard := none }) (v := .slice r.script.a r.script.len r.script.cap) rfl (by kernel_rfl) (by kernel_rfl) (by kernel_rfl) (fun _ _ _ h => h) (Or.inl ⟨by rfl, ?_⟩) hHeld ?_
  · intro w' hSw
    have k0 := (cell_of_row w' _ 26 _ _ _ hSw.b).trans HBt.out.script
    go_simp
  try simp only [Act.put, List.setIfInBounds_toArray, List.set_cons_zero, List.set_cons_succ]
  refine wpAnyH_take (i := 47) (oi := { dst := some 52, op := Op.load _ (Operand.tmp 2), type := _, pos := "judge.go:148", after := #[], guard := none }) (v := .agg A) rfl (by kernel_rfl) (by kernel_rfl) (by kernel_rfl) (fun _ _ _ h => h) (yieldsIf_load_mid (by rfl) _ _ rfl _ 0 rfl A.toList _ (fun w' hSw => range_of_row hSw.a _ (fun j v hv => by simpa using hv)) Tryd.underlying30 rfl (by rw [Array.length_toList, hzA]; kernel_rfl)) hHeld ?_
  try simp only [Act.put, List.setIfInBounds_toArray, List.set_cons_zero, List.set_cons_succ]
  refine wpAnyH_take (i := 49) (oi := { dst := some 54, op := Op.load _ (Operand.tmp 3), type := _, pos := "judge.go:148", after := #[], guard := none }) (v := .agg B) rfl (by kernel_rfl) (by kernel_rfl) (by kernel_rfl) (fun _ _ _ h => h) (yieldsIf_load_mid (by rfl) _ _ rfl _ 0 rfl B.toList _ (fun w' hSw => range_of_row hSw.b _ (fun j v hv => by simpa using hv)) Tryd.underlying30 rfl (by rw [Array.length_toList, hzB]; kernel_rfl)) hHeld ?_
  try simp only [Act.put, List.setIfInBounds_toArray, List.set_cons_zero, List.set_cons_succ]
  refine wpAnyH_ready (rs := [4]) (by kernel_rfl) (by simp) ?_
  refine AllReadyH.cons (o := { dst := some 9, op := Op.call { callee := Callee.value (Operand.func _), args := #[Operand.const (Value.string { data := #[102, 114, 97, 109, 101, 115] }), Operand.tmp 6, Operand.tmp 8], argTypes := _ }, type := _, pos := "judge.go:149", after := #[{ on := 1, ground := Ground.data }, { on := 3, ground := Ground.data }], guard := none }) rfl (fun K hK => ?_) AllReadyH.nil
  go_simp
  go_at_call 38
  refine (HN.out _ _ _ _).mono ?_
  rintro e w4 ⟨rfl, hq, hb4⟩
  obtain ⟨c0, hc0, F0⟩ : ∃ c, c = #[ptrV _, ptrV _] ∧ Qnum s.fr r.fr 48 c w4 := ⟨_, rfl, rfl, _, _, rfl, hq⟩
  rw [← hc0]
  clear hq hc0
  have B4 := hHeld.below
  refine hK.out _ _ (hHeld.next hb4) (fun hHeld => ?_)
  clear hK K B4
  try simp only [Act.put, List.setIfInBounds_toArray, List.set_cons_zero, List.set_cons_succ]
  refine wpAnyH_ready (rs := [9]) (by kernel_rfl) (by simp) ?_
  refine AllReadyH.cons (o := { dst := some 14, op := Op.call { callee := Callee.value (Operand.func _), args := #[Operand.const (Value.string { data := #[115, 116, 101, 112, 115] }), Operand.tmp 11, Operand.tmp 13], argTypes := _ }, type := _, pos := "judge.go:150", after := #[{ on := 6, ground := Ground.data }, { on := 8, ground := Ground.data }, { on := 4, ground := Ground.chain }], guard := none }) rfl (fun K hK => ?_) AllReadyH.nil
  go_simp
  go_at_call 38
  refine (HN.out _ _ _ _).mono ?_
  rintro e w9 ⟨rfl, hq, hb9⟩
  replace F0 := F0.next hb9
  obtain ⟨c1, hc1, F1⟩ : ∃ c, c = #[ptrV _, ptrV _] ∧ Qnum s.st r.st 48 c w9 := ⟨_, rfl, rfl, _, _, rfl, hq⟩
  rw [← hc1]
  clear hq hc1
  have B9 := hHeld.below
  refine hK.out _ _ (hHeld.next hb9) (fun hHeld => ?_)
  clear hK K B9
  try simp only [Act.put, List.setIfInBounds_toArray, List.set_cons_zero, List.set_cons_succ]
  refine wpAnyH_ready (rs := [14]) (by kernel_rfl) (by simp) ?_
  refine AllReadyH.cons (o := { dst := some 19, op := Op.call { callee := Callee.value (Operand.func _), args := #[Operand.tmp 16, Operand.tmp 18], argTypes := _ }, type := _, pos := "judge.go:151", after := #[{ on := 11, ground := Ground.data }, { on := 13, ground := Ground.data }, { on := 9, ground := Ground.chain }], guard := none }) rfl (fun K hK => ?_) AllReadyH.nil
  go_simp
  go_at_call 39
  refine (HSH.out _ hHeld.below).mono ?_
  rintro e w14 ⟨⟨f2, c2, rfl, F2⟩, hb14⟩
  replace F0 := F0.next hb14
  replace F1 := F1.next hb14
  have B14 := hHeld.below
  refine hK.out _ _ (hHeld.next hb14) (fun hHeld => ?_)
  clear hK K B14
  try simp only [Act.put, List.setIfInBounds_toArray, List.set_cons_zero, List.set_cons_succ]
  refine wpAnyH_ready (rs := [19]) (by kernel_rfl) (by simp) ?_
  refine AllReadyH.cons (o := { dst := some 24, op := Op.call { callee := Callee.value (Operand.func _), args := #[Operand.const (Value.string { data := #[109, 101, 109] }), Operand.tmp 21, Operand.tmp 23], argTypes := _ }, type := _, pos := "judge.go:152", after := #[{ on := 16, ground := Ground.data }, { on := 18, ground := Ground.data }, { on := 14, ground := Ground.chain }], guard := none }) rfl (fun K hK => ?_) AllReadyH.nil
  go_simp
  go_at_call 40
  refine (HMem.out _ hHeld.below).mono ?_
  rintro e w19 ⟨kk, rfl, hq, -, hb19⟩
  replace F0 := F0.next hb19
  replace F1 := F1.next hb19
  replace F2 := HQH.out _ _ _ _ F2 hb19
  obtain ⟨c3, hc3, F3⟩ : ∃ c, c = #[ptrV _, ptrV _, ptrV _] ∧ Qbytes s.mem.v r.mem.v fl3 52 c w19 := ⟨_, rfl, rfl, _, _, _, rfl, hq⟩
  rw [← hc3]
  clear hq hc3
  have B19 := hHeld.below
  refine hK.out _ _ (hHeld.next hb19) (fun hHeld => ?_)
  clear hK K B19
  try simp only [Act.put, List.setIfInBounds_toArray, List.set_cons_zero, List.set_cons_succ]
  refine wpAnyH_ready (rs := [24]) (by kernel_rfl) (by simp) ?_
  refine AllReadyH.cons (o := { dst := some 29, op := Op.call { callee := Callee.value (Operand.func _), args := #[Operand.tmp 26, Operand.tmp 28], argTypes := _ }, type := _, pos := "judge.go:153", after := #[{ on := 21, ground := Ground.data }, { on := 23, ground := Ground.data }, { on := 19, ground := Ground.chain }], guard := none }) rfl (fun K hK => ?_) AllReadyH.nil
  go_simp
  go_at_call 9
  refine (HNotes.out _ hHeld.below).mono ?_
  rintro e w24 ⟨rfl, hb24⟩
  replace F0 := F0.next hb24
  replace F1 := F1.next hb24
  replace F2 := HQH.out _ _ _ _ F2 hb24
  replace F3 := F3.next hb24
  refine hK.out _ _ (hHeld.next hb24) (fun hHeld => ?_)
  clear hK K
  try simp only [Act.put, List.setIfInBounds_toArray, List.set_cons_zero, List.set_cons_succ]
  refine wpAnyH_ready (rs := [25]) (by kernel_rfl) (by simp) ?_
  refine AllReadyH.cons (o := { dst := some 30, op := Op.call { callee := Callee.value (Operand.func _), args := #[Operand.const (Value.string { data := #[110, 111, 116, 101, 115] }), Operand.tmp 29], argTypes := _ }, type := _, pos := "judge.go:153", after := #[{ on := 24, ground := Ground.data }, { on := 24, ground := Ground.chain }], guard := none }) rfl (fun K hK => ?_) AllReadyH.nil
  go_simp
  go_at_call 41
  refine (HL.out _ _ _).mono ?_
  rintro e w25 ⟨rfl, hq, hb25⟩
  replace F0 := F0.next hb25
  replace F1 := F1.next hb25
  replace F2 := HQH.out _ _ _ _ F2 hb25
  replace F3 := F3.next hb25
  obtain ⟨c4, hc4, F4⟩ : ∃ c, c = #[ptrV _] ∧ Qlist fl4 54 c w25 := ⟨_, rfl, rfl, _, rfl, hq⟩
  rw [← hc4]
  clear hq hc4
  have B25 := hHeld.below
  refine hK.out _ _ (hHeld.next hb25) (fun hHeld => ?_)
  clear hK K B25
  try simp only [Act.put, List.setIfInBounds_toArray, List.set_cons_zero, List.set_cons_succ]
  refine wpAnyH_ready (rs := [30]) (by kernel_rfl) (by simp) ?_
  refine AllReadyH.cons (o := { dst := some 35, op := Op.call { callee := Callee.value (Operand.func _), args := #[Operand.const (Value.string { data := #[111, 117, 116] }), Operand.tmp 32, Operand.tmp 34], argTypes := _ }, type := _, pos := "judge.go:154", after := #[{ on := 27, ground := Ground.data }, { on := 29, ground := Ground.data }, { on := 25, ground := Ground.chain }], guard := none }) rfl (fun K hK => ?_) AllReadyH.nil
  go_simp
  go_at_call 40
  refine (HOut.out _ hHeld.below).mono ?_
  rintro e w30 ⟨kk, rfl, hq, -, hb30⟩
  replace F0 := F0.next hb30
  replace F1 := F1.next hb30
  replace F2 := HQH.out _ _ _ _ F2 hb30
  replace F3 := F3.next hb30
  replace F4 := F4.next hb30
  obtain ⟨c5, hc5, F5⟩ : ∃ c, c = #[ptrV _, ptrV _, ptrV _] ∧ Qbytes s.out.v r.out.v fl5 52 c w30 := ⟨_, rfl, rfl, _, _, _, rfl, hq⟩
  rw [← hc5]
  clear hq hc5
  have B30 := hHeld.below
  refine hK.out _ _ (hHeld.next hb30) (fun hHeld => ?_)
  clear hK K B30
  try simp only [Act.put, List.setIfInBounds_toArray, List.set_cons_zero, List.set_cons_succ]
  refine wpAnyH_ready (rs := [35]) (by kernel_rfl) (by simp) ?_
  refine AllReadyH.cons (o := { dst := some 40, op := Op.call { callee := Callee.value (Operand.func _), args := #[Operand.const (Value.string { data := #[100, 105, 115, 107] }), Operand.tmp 37, Operand.tmp 39], argTypes := _ }, type := _, pos := "judge.go:155", after := #[{ on := 32, ground := Ground.data }, { on := 34, ground := Ground.data }, { on := 30, ground := Ground.chain }], guard := none }) rfl (fun K hK => ?_) AllReadyH.nil
  go_simp
  go_at_call 40
  refine (HDisk.out _ hHeld.below).mono ?_
  rintro e w35 ⟨kk, rfl, hq, -, hb35⟩
  replace F0 := F0.next hb35
  replace F1 := F1.next hb35
  replace F2 := HQH.out _ _ _ _ F2 hb35
  replace F3 := F3.next hb35
  replace F4 := F4.next hb35
  replace F5 := F5.next hb35
  obtain ⟨c6, hc6, F6⟩ : ∃ c, c = #[ptrV _, ptrV _, ptrV _] ∧ Qbytes s.disk.v r.disk.v fl6 52 c w35 := ⟨_, rfl, rfl, _, _, _, rfl, hq⟩
  rw [← hc6]
  clear hq hc6
  have B35 := hHeld.below
  refine hK.out _ _ (hHeld.next hb35) (fun hHeld => ?_)
  clear hK K B35
  try simp only [Act.put, List.setIfInBounds_toArray, List.set_cons_zero, List.set_cons_succ]
  refine wpAnyH_ready (rs := [40]) (by kernel_rfl) (by simp) ?_
  refine AllReadyH.cons (o := { dst := some 45, op := Op.call { callee := Callee.value (Operand.func _), args := #[Operand.const (Value.string { data := #[113, 117, 101, 117, 101] }), Operand.tmp 42, Operand.tmp 44], argTypes := _ }, type := _, pos := "judge.go:156", after := #[{ on := 37, ground := Ground.data }, { on := 39, ground := Ground.data }, { on := 35, ground := Ground.chain }], guard := none }) rfl (fun K hK => ?_) AllReadyH.nil
  go_simp
  go_at_call 40
  refine (HQueue.out _ hHeld.below).mono ?_
  rintro e w40 ⟨kk, rfl, hq, -, hb40⟩
  replace F0 := F0.next hb40
  replace F1 := F1.next hb40
  replace F2 := HQH.out _ _ _ _ F2 hb40
  replace F3 := F3.next hb40
  replace F4 := F4.next hb40
  replace F5 := F5.next hb40
  replace F6 := F6.next hb40
  obtain ⟨c7, hc7, F7⟩ : ∃ c, c = #[ptrV _, ptrV _, ptrV _] ∧ Qbytes s.queue.v r.queue.v fl7 52 c w40 := ⟨_, rfl, rfl, _, _, _, rfl, hq⟩
  rw [← hc7]
  clear hq hc7
  have B40 := hHeld.below
  refine hK.out _ _ (hHeld.next hb40) (fun hHeld => ?_)
  clear hK K B40
  try simp only [Act.put, List.setIfInBounds_toArray, List.set_cons_zero, List.set_cons_succ]
  refine wpAnyH_ready (rs := [45]) (by kernel_rfl) (by simp) ?_
  refine AllReadyH.cons (o := { dst := some 50, op := Op.call { callee := Callee.value (Operand.func _), args := #[Operand.tmp 47, Operand.tmp 49], argTypes := _ }, type := _, pos := "judge.go:157", after := #[{ on := 42, ground := Ground.data }, { on := 44, ground := Ground.data }, { on := 40, ground := Ground.chain }], guard := none }) rfl (fun K hK => ?_) AllReadyH.nil
  go_simp
  go_at_call 11
  refine (HEvents.out _ hHeld.below).mono ?_
  rintro e w45 ⟨rfl, hb45⟩
  replace F0 := F0.next hb45
  replace F1 := F1.next hb45
  replace F2 := HQH.out _ _ _ _ F2 hb45
  replace F3 := F3.next hb45
  replace F4 := F4.next hb45
  replace F5 := F5.next hb45
  replace F6 := F6.next hb45
  replace F7 := F7.next hb45
  refine hK.out _ _ (hHeld.next hb45) (fun hHeld => ?_)
  clear hK K
  try simp only [Act.put, List.setIfInBounds_toArray, List.set_cons_zero, List.set_cons_succ]
  refine wpAnyH_ready (rs := [46]) (by kernel_rfl) (by simp) ?_
  refine AllReadyH.cons (o := { dst := some 51, op := Op.call { callee := Callee.value (Operand.func _), args := #[Operand.const (Value.string { data := #[115, 99, 114, 105, 112, 116] }), Operand.tmp 50], argTypes := _ }, type := _, pos := "judge.go:157", after := #[{ on := 45, ground := Ground.data }, { on := 45, ground := Ground.chain }], guard := none }) rfl (fun K hK => ?_) AllReadyH.nil
  go_simp
  go_at_call 41
  refine (HL.out _ _ _).mono ?_
  rintro e w46 ⟨rfl, hq, hb46⟩
  replace F0 := F0.next hb46
  replace F1 := F1.next hb46
  replace F2 := HQH.out _ _ _ _ F2 hb46
  replace F3 := F3.next hb46
  replace F4 := F4.next hb46
  replace F5 := F5.next hb46
  replace F6 := F6.next hb46
  replace F7 := F7.next hb46
  obtain ⟨c8, hc8, F8⟩ : ∃ c, c = #[ptrV _] ∧ Qlist fl8 54 c w46 := ⟨_, rfl, rfl, _, rfl, hq⟩
  rw [← hc8]
  clear hq hc8
  have B46 := hHeld.below
  refine hK.out _ _ (hHeld.next hb46) (fun hHeld => ?_)
  clear hK K B46
  try simp only [Act.put, List.setIfInBounds_toArray, List.set_cons_zero, List.set_cons_succ]
  refine wpAnyH_ready (rs := [48]) (by kernel_rfl) (by simp) ?_
  refine AllReadyH.cons (o := { dst := some 53, op := Op.call { callee := Callee.value (Operand.func _), args := #[Operand.tmp 52], argTypes := _ }, type := _, pos := "judge.go:158", after := #[{ on := 47, ground := Ground.data }, { on := 46, ground := Ground.chain }], guard := none }) rfl (fun K hK => ?_) AllReadyH.nil
  go_simp
  go_at_call 42
  refine (HDA.out _).mono ?_
  rintro e w48 ⟨rfl, hb48⟩
  replace F0 := F0.next hb48
  replace F1 := F1.next hb48
  replace F2 := HQH.out _ _ _ _ F2 hb48
  replace F3 := F3.next hb48
  replace F4 := F4.next hb48
  replace F5 := F5.next hb48
  replace F6 := F6.next hb48
  replace F7 := F7.next hb48
  replace F8 := F8.next hb48
  refine hK.out _ _ (hHeld.next hb48) (fun hHeld => ?_)
  clear hK K
  try simp only [Act.put, List.setIfInBounds_toArray, List.set_cons_zero, List.set_cons_succ]
  refine wpAnyH_ready (rs := [50]) (by kernel_rfl) (by simp) ?_
  refine AllReadyH.cons (o := { dst := some 55, op := Op.call { callee := Callee.value (Operand.func _), args := #[Operand.tmp 54], argTypes := _ }, type := _, pos := "judge.go:158", after := #[{ on := 49, ground := Ground.data }, { on := 48, ground := Ground.chain }], guard := none }) rfl (fun K hK => ?_) AllReadyH.nil
  go_simp
  go_at_call 42
  refine (HDB.out _).mono ?_
  rintro e w50 ⟨rfl, hb50⟩
  replace F0 := F0.next hb50
  replace F1 := F1.next hb50
  replace F2 := HQH.out _ _ _ _ F2 hb50
  replace F3 := F3.next hb50
  replace F4 := F4.next hb50
  replace F5 := F5.next hb50
  replace F6 := F6.next hb50
  replace F7 := F7.next hb50
  replace F8 := F8.next hb50
  refine hK.out _ _ (hHeld.next hb50) (fun hHeld => ?_)
  clear hK K
  try simp only [Act.put, List.setIfInBounds_toArray, List.set_cons_zero, List.set_cons_succ]
  refine wpAnyH_take (i := 51) (oi := { dst := some 56, op := Op.binOp BinOp.neq _ (Operand.tmp 53) (Operand.tmp 55) _, type := _, pos := "judge.go:148", after := #[{ on := 48, ground := Ground.data }, { on := 50, ground := Ground.data }], guard := none }) (v := .bool dn) rfl (by kernel_rfl) (by kernel_rfl) (by kernel_rfl) (fun _ _ _ h => h) (Or.inl ⟨by rfl, ?_⟩) hHeld ?_
  · intro w' hSw
    skip
    go_simp
  try simp only [Act.put, List.setIfInBounds_toArray, List.set_cons_zero, List.set_cons_succ]
  refine wpAnyH_take (i := 52) (oi := { dst := some 57, op := Op.build _ #[(0, Operand.const (Value.string { data := #[100, 101, 118, 105, 99, 101, 115] })), (1, Operand.tmp 56), (2, Operand.func _)], type := _, pos := "judge.go:148", after := #[{ on := 51, ground := Ground.data }], guard := none }) (v := .agg #[.string ⟨#[100, 101, 118, 105, 99, 101, 115]⟩, .bool dn, .func (.func 43) #[] #[]]) rfl (by kernel_rfl) (by kernel_rfl) (by kernel_rfl) (fun _ _ _ h => h) (Or.inl ⟨by rfl, ?_⟩) hHeld ?_
  · intro w' hSw
    skip
    go_simp
  try simp only [Act.put, List.setIfInBounds_toArray, List.set_cons_zero, List.set_cons_succ]
  refine wpAnyH_ready (rs := [53]) (by kernel_rfl) (by simp) ?_
  refine AllReadyH.cons (o := { dst := some 58, op := Op.buildSlice 59 10 #[(0, Operand.tmp 9), (1, Operand.tmp 14), (2, Operand.tmp 19), (3, Operand.tmp 24), (4, Operand.tmp 30), (5, Operand.tmp 35), (6, Operand.tmp 40), (7, Operand.tmp 45), (8, Operand.tmp 51), (9, Operand.tmp 57)], type := _, pos := "judge.go:148", after := #[{ on := 4, ground := Ground.data }, { on := 9, ground := Ground.data }, { on := 14, ground := Ground.data }, { on := 19, ground := Ground.data }, { on := 25, ground := Ground.data }, { on := 30, ground := Ground.data }, { on := 35, ground := Ground.data }, { on := 40, ground := Ground.data }, { on := 46, ground := Ground.data }, { on := 52, ground := Ground.data }], guard := none }) rfl (fun K hK => ?_) AllReadyH.nil
  go_simp
  have hSz := hHeld.below.size
  refine hK.out _ _ (hHeld.next (below_alloc1 w50 _)) (fun hHeld => ?_)
  clear hK K
  try simp only [Act.put, List.setIfInBounds_toArray, List.set_cons_zero, List.set_cons_succ]
  refine wpAnyH_take (i := 54) (oi := { dst := some 4, op := Op.assign (Operand.tmp 58), type := _, pos := "judge.go:148", after := #[{ on := 53, ground := Ground.data }, { on := 50, ground := Ground.chain }, { on := 0, ground := Ground.phase }, { on := 1, ground := Ground.phase }, { on := 2, ground := Ground.phase }, { on := 3, ground := Ground.phase }, { on := 4, ground := Ground.phase }, { on := 5, ground := Ground.phase }, { on := 6, ground := Ground.phase }, { on := 7, ground := Ground.phase }, { on := 8, ground := Ground.phase }, { on := 9, ground := Ground.phase }, { on := 10, ground := Ground.phase }, { on := 11, ground := Ground.phase }, { on := 12, ground := Ground.phase }, { on := 13, ground := Ground.phase }, { on := 14, ground := Ground.phase }, { on := 15, ground := Ground.phase }, { on := 16, ground := Ground.phase }, { on := 17, ground := Ground.phase }, { on := 18, ground := Ground.phase }, { on := 19, ground := Ground.phase }, { on := 20, ground := Ground.phase }, { on := 21, ground := Ground.phase }, { on := 22, ground := Ground.phase }, { on := 23, ground := Ground.phase }, { on := 24, ground := Ground.phase }, { on := 25, ground := Ground.phase }, { on := 26, ground := Ground.phase }, { on := 27, ground := Ground.phase }, { on := 28, ground := Ground.phase }, { on := 29, ground := Ground.phase }, { on := 30, ground := Ground.phase }, { on := 31, ground := Ground.phase }, { on := 32, ground := Ground.phase }, { on := 33, ground := Ground.phase }, { on := 34, ground := Ground.phase }, { on := 35, ground := Ground.phase }, { on := 36, ground := Ground.phase }, { on := 37, ground := Ground.phase }, { on := 38, ground := Ground.phase }, { on := 39, ground := Ground.phase }, { on := 40, ground := Ground.phase }, { on := 41, ground := Ground.phase }, { on := 42, ground := Ground.phase }, { on := 43, ground := Ground.phase }, { on := 44, ground := Ground.phase }, { on := 45, ground := Ground.phase }, { on := 46, ground := Ground.phase }, { on := 47, ground := Ground.phase }, { on := 48, ground := Ground.phase }, { on := 49, ground := Ground.phase }, { on := 50, ground := Ground.phase }, { on := 51, ground := Ground.phase }, { on := 52, ground := Ground.phase }, { on := 53, ground := Ground.phase }], guard := none }) (v := .slice (some ⟨w50.heap.size, 0, none⟩) 10 10) rfl (by kernel_rfl) (by kernel_rfl) (by kernel_rfl) (fun _ _ _ h => h) (Or.inl ⟨by rfl, ?_⟩) hHeld ?_
  · intro w' hSw
    skip
    go_simp
  try simp only [Act.put, List.setIfInBounds_toArray, List.set_cons_zero, List.set_cons_succ]
  refine wpAnyH_done (by kernel_rfl) ?_ _
  go_wp2_with fail
  go_ret
  exact ⟨w50.heap.size, [.string ⟨#[102, 114, 97, 109, 101, 115]⟩, .bool (s.fr != r.fr), .func (.func 48) #[] c0], [.string ⟨#[115, 116, 101, 112, 115]⟩, .bool (s.st != r.st), .func (.func 48) #[] c1], [.string ⟨#[115, 116, 97, 116, 101]⟩, .bool ds, .func (.func f2) #[] c2], [.string ⟨#[109, 101, 109]⟩, .bool (decide (0 ≤ fl3)), .func (.func 52) #[] c3], [.string ⟨#[110, 111, 116, 101, 115]⟩, .bool (decide (0 ≤ fl4)), .func (.func 54) #[] c4], [.string ⟨#[111, 117, 116]⟩, .bool (decide (0 ≤ fl5)), .func (.func 52) #[] c5], [.string ⟨#[100, 105, 115, 107]⟩, .bool (decide (0 ≤ fl6)), .func (.func 52) #[] c6], [.string ⟨#[113, 117, 101, 117, 101]⟩, .bool (decide (0 ≤ fl7)), .func (.func 52) #[] c7], [.string ⟨#[115, 99, 114, 105, 112, 116]⟩, .bool (decide (0 ≤ fl8)), .func (.func 54) #[] c8], [.string ⟨#[100, 101, 118, 105, 99, 101, 115]⟩, .bool dn, .func (.func 43) #[] #[]], rfl, hSz, heap_new' rfl, ⟨_, _, rfl, F0.next (below_alloc1 w50 _)⟩, ⟨_, _, rfl, F1.next (below_alloc1 w50 _)⟩, ⟨_, _, rfl, HQH.out _ _ _ _ F2 (below_alloc1 w50 _)⟩, ⟨_, _, rfl, F3.next (below_alloc1 w50 _)⟩, ⟨_, _, rfl, F4.next (below_alloc1 w50 _)⟩, ⟨_, _, rfl, F5.next (below_alloc1 w50 _)⟩, ⟨_, _, rfl, F6.next (below_alloc1 w50 _)⟩, ⟨_, _, rfl, F7.next (below_alloc1 w50 _)⟩, ⟨_, _, rfl, F8.next (below_alloc1 w50 _)⟩, ⟨_, _, rfl, ⟨rfl, rfl⟩⟩, hHeld.below⟩
end Go.Proofs.YtjnakhejdpkfnaaDoor
