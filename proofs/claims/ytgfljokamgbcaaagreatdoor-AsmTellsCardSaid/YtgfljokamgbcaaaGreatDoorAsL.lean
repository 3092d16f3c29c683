/- A range over a function whose iterator has variables of its own (boxes that it writes between two rounds), and whose rounds are told what holds of what comes. Whatever the program. -/
import Derived.RangeFuncNested
import Derived.RangeFuncBound
import Derived.RangeFuncCalls
import Derived.RangeFuncLeaves
import Derived.Shelf.Abstract
import Derived.Shelf.RegionOpen
import Derived.WalkKit
import Derived.OwnWalkIn
import Derived.TacticsInMore
import Derived.LoopNIn
import Derived.LoopIn
import Derived.RangeFuncWrites
import Derived.Test.YtgfljokamgbcaaaGreatDoorRows
namespace Go.Proofs.YtgfljokamgbcaaaGreatDoor
open Go.RowKit Go.Shelf
set_option linter.unusedSimpArgs false
set_option linter.unusedVariables false

/-- A step of an iterator between two rounds: new blocks; or a store into a box of its own, of one of the types Ts, laid at B or behind. -/
def IStep (Ts : List TypeId) (B : Nat) (W W' : World) : Prop :=
  Below W.heap.size W W' ∨ ∃ b cur T v, B ≤ b ∧ T ∈ Ts ∧ W.heap[b]? = some (.cells cur T (0, 0)) ∧ W' = W.setCell ⟨b, 0, none⟩ v
def Stb {β : Type} (Ts : List TypeId) (B : Nat) (J : β → World → Prop) : Prop := ∀ s W W', J s W → IStep Ts B W W' → J s W'
/-- What a round keeps for the iterator: its boxes. -/
def KpT (Ts : List TypeId) (B : Nat) (W W' : World) : Prop := W.heap.size ≤ W'.heap.size ∧ ∀ g cur T, B ≤ g → T ∈ Ts → W.heap[g]? = some (.cells cur T (0, 0)) → W'.heap[g]? = some (.cells cur T (0, 0))
theorem KpT.refl (Ts : List TypeId) (B : Nat) (W : World) : KpT Ts B W W := ⟨Nat.le_refl _, fun _ _ _ _ _ h => h⟩
theorem KpT.trans {Ts : List TypeId} {B : Nat} {X Y Z : World} (h : KpT Ts B X Y) (k : KpT Ts B Y Z) : KpT Ts B X Z := ⟨Nat.le_trans h.1 k.1, fun g cur T hB hT hg => k.2 g cur T hB hT (h.2 g cur T hB hT hg)⟩
theorem KpT.put {Ts : List TypeId} {B : Nat} {W : World} {l : Nat} {o o' : Obj} (hl : W.heap[l]? = some o) (ho : o.isCells = false) : KpT Ts B W (W.putObj l o') :=
  ⟨by simp, fun g cur T _ _ hg => (World.putObj_heap_other (fun e => by
    subst e
    rw [hl] at hg
    cases hg
    cases ho)).trans hg⟩

/-- What an iterator's closure does with whatever loop it is called by. -/
def IterC {α : Type} (F : Fence) (n : Nat) (P : Program) (g : Nat) (lb : Array Value) (encs : α → Array Value) (Ts : List TypeId) (B : Nat) (Ok : List α → α → World → Prop) (S Sp : List α → Prop) (w0 : World) : Prop :=
  ∀ (l : Nat) (J Jx : List α → World → Prop) (W : World), Below w0.heap.size w0 W → Stb Ts B J → OwnFrom W.heap.size J → OwnFrom W.heap.size Jx →
    (∀ pre x W1, J pre W1 → Ok pre x W1 → YieldAt F (n - 1) P l (encs x) W1 fun e W' => KeepsFrom W.heap.size W1 W' ∧
      ((e = .returned (.bool true) ∧ J (pre ++ [x]) W' ∧ KpT Ts B W1 W') ∨ (e = .returned (.bool false) ∧ Jx (pre ++ [x]) W'))) →
    J [] W →
    CallsIn F n P g (#[.func (.yield l) #[] #[]] ++ lb) W fun e W' => (∃ v, e = .returned v) ∧ ((∃ xs, S xs ∧ J xs W') ∨ (∃ pre, Sp pre ∧ Jx pre W'))

/-- The books of a loop: its record, and the block for what its rounds defer. -/
structure Books (D : Nat) (r : Loop) (W : World) : Prop where
  loop : W.heap[D + 1]? = some (.loop r)
  defs : W.heap[D]? = some (.deferred (some []))
theorem Books.istep {Ts : List TypeId} {B D : Nat} {r : Loop} {W W' : World} (h : Books D r W) (hs : IStep Ts B W W') : Books D r W' := by
  rcases hs with hb | ⟨b, cur, T, v, hB, hT, hc, rfl⟩
  · exact ⟨(hb.block _ (Array.getElem?_eq_some_iff.1 h.loop).1).trans h.loop, (hb.block _ (Array.getElem?_eq_some_iff.1 h.defs).1).trans h.defs⟩
  · refine ⟨(Below.heap_setCell _ _ _ _ (fun e => ?_)).trans h.loop, (Below.heap_setCell _ _ _ _ (fun e => ?_)).trans h.defs⟩
    · have := h.loop; rw [e, hc] at this; cases this
    · have := h.defs; rw [e, hc] at this; cases this
theorem Books.grown {D B : Nat} {r : Loop} {W W' : World} {row : Option Nat} (h : Books D r W) (hB : D + 1 < B) (hg : W.grownBy W' row) (hr : ∀ k, row = some k → B ≤ k) : Books D r W' :=
  ⟨(hg.block _ (Array.getElem?_eq_some_iff.1 h.loop).1 (fun e => by have := hr _ e.symm; omega)).trans h.loop, (hg.block _ (Array.getElem?_eq_some_iff.1 h.defs).1 (fun e => by have := hr _ e.symm; omega)).trans h.defs⟩
theorem Books.keeps {D : Nat} {r : Loop} {W W' : World} (h : Books D r W) (hk : KeepsFrom D W W') : Books D r W' := ⟨hk.same _ _ (by omega) h.loop rfl, hk.same _ _ (Nat.le_refl _) h.defs rfl⟩
theorem Books.put {D : Nat} {r : Loop} {W : World} (h : Books D r W) (r' : Loop) : Books D r' (W.putObj (D + 1) (.loop r')) :=
  ⟨World.putObj_heap_same (Array.getElem?_eq_some_iff.1 h.loop).1, (World.putObj_heap_other (by omega)).trans h.defs⟩

variable {F : Fence} {n : Nat} {P : Program} {w : World}

/-- THE LAW: a loop over such an iterator. -/
theorem rangeOwn {α : Type} {g : Operand} {ps : Array Tmp} {assign body : Code} {Q : Exit → Act → World → Prop} {a : Act}
    (hro : F.round = none) (h1 : 1 ≤ n) {gf : Nat} {lb : Array Value} (hg : a.eval g = .func (.func gf) #[] lb) (hFg : F.fn gf) (eg : ∀ args w, (callFunc gf args).run P w = .ok (.enter gf args) w)
    {encs : α → Array Value} {Ts : List TypeId} {B : Nat} {Ok : List α → α → World → Prop} {S Sp : List α → Prop} {w0 : World} (hit : IterC F (n - 1) P gf lb encs Ts B Ok S Sp w0) (hb0 : Below w0.heap.size w0 w) (hps : ∀ x, (encs x).size = ps.size)
    (hOk : ∀ pre x W l o o', Ok pre x W → W.heap[l]? = some o → o.isCells = false → Ok pre x (W.putObj l o'))
    (I : List α → World → Prop) (Ix : Code → List α → World → Prop) (hI : OwnFrom w.heap.size I) (hSt : Stb Ts B I) (hIx : ∀ c, OwnFrom w.heap.size (Ix c)) (h0 : I [] w) (a₁ : α → Act)
    (hassign : ∀ (l : Nat) (x : α) (W : World) (K : Act → World → Prop), K (a₁ x) W →
      assign.wpIn (F.inRound l) (n - 1 - 1) P (Exit.then K (fun _ _ _ => False)) { tmps := (ps.zip (encs x)).foldl (fun t (p, v) => t.setIfInBounds p v) a.tmps, defers := [] } W)
    (hbody : ∀ (l : Nat) (pre : List α) (x : α) (W : World), I pre W → Ok pre x W → body.wpIn (F.inRound l) (n - 1 - 1) P (ownPostG w.heap.size (KpT Ts B) I Ix (pre ++ [x]) W) (a₁ x) W)
    (hdone : ∀ (D : Nat) (xs : List α) (W : World), w.heap.size ≤ D → S xs → I xs W → W.heap[D]? = some (.deferred (some [])) → Q .normal { a with defers := { target := .collected D, args := #[] } :: a.defers } W)
    (hstop : ∀ (D : Nat) (c : Code) (pre : List α) (W : World), w.heap.size ≤ D → Sp pre → Ix c pre W → W.heap[D]? = some (.deferred (some [])) → c.wpIn F n P Q { a with defers := { target := .collected D, args := #[] } :: a.defers } W) :
    (Code.rangeFunc g ps assign body).wpIn F n P Q a w := by
  refine wpIn_rangeFunc fun fn hfn => ?_
  rw [hro]
  obtain ⟨rc, hrc⟩ : ∃ rc : LoopState → Option Code → Loop, rc = fun st pe => { state := st, pending := pe, fn, tmps := a.tmps, params := ps, assign, body, defers := w.heap.size } := ⟨_, rfl⟩
  obtain ⟨V, hV⟩ : ∃ V, V = (w.alloc (.deferred (some []))).alloc (.loop (rc .ready none)) := ⟨_, rfl⟩
  have bk : Books w.heap.size (rc .ready none) V := by
    constructor
    · have h := World.alloc_heap_new (w.alloc (.deferred (some []))) (.loop (rc .ready none))
      rw [World.size_alloc] at h
      rw [hV]
      exact h
    · rw [hV]
      exact (Below.heap_alloc _ _ _ (by simp)).trans (World.alloc_heap_new w _)
  refine ⟨w.heap.size + 1, [{ target := .collected w.heap.size, args := #[] }], V, { target := .fn (.func gf) lb, args := #[.func (.yield (w.heap.size + 1)) #[] #[]] }, V, gf, #[.func (.yield (w.heap.size + 1)) #[] #[]] ++ lb, V, ?_, ?_, ?_, ?_, fun _ => h1, ?_⟩
  · rw [hV, hrc]; exact run_enterLoop_outer _ _ _ _ _
  · simp only [resolve, hg]
    simp [go_sem]
  · intro f' hf'
    simp [Target.leads] at hf'
    subst hf'
    exact hFg
  · simp [invoke, go_sem, eg]
  have hbV : Below w0.heap.size w0 V := by
    rw [hV]
    exact hb0.trans ((((Below.refl _ w).alloc (Nat.le_refl _) _).alloc (by simp) _).mono hb0.size)
  have hVs : V.heap.size = w.heap.size + 2 := by rw [hV]; simp
  have hIV : I [] V := by rw [hV]; exact hI.alloc _ (hI.alloc _ h0)
  refine (hit (w.heap.size + 1) (fun pre W => I pre W ∧ Books w.heap.size (rc .ready none) W) (fun pre W => ∃ c, Ix c pre W ∧ Books w.heap.size (rc .done (some c)) W) V hbV
    (fun s X Y h hs => ⟨hSt s X Y h.1 hs, h.2.istep hs⟩)
    (fun s X Y row h hg hr => ⟨hI s X Y row h.1 hg (fun r e => ⟨Nat.le_trans (by omega) (hr r e).1, (hr r e).2⟩), h.2.grown (B := V.heap.size) (by omega) hg (fun r e => (hr r e).1)⟩)
    (fun s X Y row h hg hr => by
      obtain ⟨c, hc, hb⟩ := h
      exact ⟨c, hIx c s X Y row hc hg (fun r e => ⟨Nat.le_trans (by omega) (hr r e).1, (hr r e).2⟩), hb.grown (B := V.heap.size) (by omega) hg (fun r e => (hr r e).1)⟩) ?_ ⟨hIV, bk⟩).mono ?_
  · rintro pre x W ⟨hi, hk⟩ hok
    have hy := run_yield (P := P) (args := encs x) hk.loop (by rw [hrc]; exact hps x)
    rw [hrc] at hy
    refine ⟨fn, _, assign, body, hy, roundIn_of_wpIn hfn (hassign _ x W _ ?_)⟩
    refine ⟨_, run_beginRound hk.loop (by rw [hrc]), ?_⟩
    have hk2 := hk.put { rc .ready none with state := .busy }
    refine wpIn_mono (hbody _ pre x _ (hI.putObj _ hi (by omega) hk.loop rfl) (hOk _ _ _ _ _ _ hok hk.loop rfl)) ?_
    have keeps : ∀ (j : Option Code) (Z : World), KeepsFrom w.heap.size (W.putObj (w.heap.size + 1) (.loop { rc .ready none with state := .busy })) Z → Books w.heap.size { rc .ready none with state := .busy } Z → ∀ r', KeepsFrom V.heap.size W (Z.putObj (w.heap.size + 1) (.loop r')) := fun j Z hz hbz r' => by
      refine ⟨by have := hz.size; simpa using this, fun g o hg ho hc => ?_⟩
      have h1 := hz.same g o (by omega) ((World.putObj_heap_other (by omega)).trans ho) hc
      exact (World.putObj_heap_other (by omega)).trans h1
    have done : ∀ (j : Option Code) (Z : World), KeepsFrom w.heap.size (W.putObj (w.heap.size + 1) (.loop { rc .ready none with state := .busy })) Z →
        (Instr.endRound (w.heap.size + 1) j).run P Z = .ok (.bool j.isNone) (Z.putObj (w.heap.size + 1) (.loop (rc (if j.isNone then .ready else .done) j))) ∧
        Books w.heap.size { rc .ready none with state := .busy } Z := fun j Z hz => by
      have hz2 := hk2.keeps hz
      have hr := run_endRound (P := P) j hz2.loop
      rw [hrc] at hr hz2 ⊢
      exact ⟨hr, hz2⟩
    intro e a3 Z hp
    cases e with
    | normal =>
      obtain ⟨p1, p2, p3⟩ := hp
      obtain ⟨hr, hz⟩ := done none Z p1
      refine ⟨_, _, hr, keeps none Z p1 hz _, .inl ⟨rfl, ⟨hI.putObj _ p3 (by omega) hz.loop rfl, hz.put _⟩, ?_⟩⟩
      exact (KpT.put hk.loop rfl).trans (p2.trans (KpT.put hz.loop rfl))
    | ret =>
      obtain ⟨hr, hz⟩ := done (some .ret) Z hp.1
      exact ⟨_, _, hr, keeps none Z hp.1 hz _, .inr ⟨rfl, .ret, (hIx _).putObj _ hp.2 (by omega) hz.loop rfl, hz.put _⟩⟩
    | exit id =>
      obtain ⟨hr, hz⟩ := done (some (.exit id)) Z hp.1
      exact ⟨_, _, hr, keeps none Z hp.1 hz _, .inr ⟨rfl, .exit id, (hIx _).putObj _ hp.2 (by omega) hz.loop rfl, hz.put _⟩⟩
    | goto t =>
      obtain ⟨hr, hz⟩ := done (some (.goto t)) Z hp.1
      exact ⟨_, _, hr, keeps none Z hp.1 hz _, .inr ⟨rfl, .goto t, (hIx _).putObj _ hp.2 (by omega) hz.loop rfl, hz.put _⟩⟩
    | panic c => exact hp.elim
    | outgrown => exact hp.elim
  · rintro e Z ⟨⟨v, rfl⟩, ⟨xs, hS, hi, hk⟩ | ⟨pre, hSp, c, hi, hk⟩⟩
    · have h := run_endLoop (P := P) hk.loop (by rw [hrc]; simp)
      rw [hrc] at h
      exact ⟨none, _, h, hdone _ xs _ (Nat.le_refl _) hS (hI.putObj _ hi (by omega) hk.loop rfl) ((World.putObj_heap_other (by omega)).trans hk.defs)⟩
    · have h := run_endLoop (P := P) hk.loop (by rw [hrc]; simp)
      rw [hrc] at h
      exact ⟨some c, _, h, hstop _ c pre _ (Nat.le_refl _) hSp ((hIx c).putObj _ hi (by omega) hk.loop rfl) ((World.putObj_heap_other (by omega)).trans hk.defs)⟩
end Go.Proofs.YtgfljokamgbcaaaGreatDoor
