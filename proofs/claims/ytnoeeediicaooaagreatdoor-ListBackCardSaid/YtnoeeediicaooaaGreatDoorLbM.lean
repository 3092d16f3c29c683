/- A range over a function with boxes of its own, whose loop's variable is boxed; and what of asm's work abides its loop. What of asm's work abides its loop over the lines. asm.Assemble. (Written by mkAZB.py.) asm, plainly: where its labels and marks stand. asm, plainly: instructions that are shown, one a line. asm, plainly: a jump to a label, and where it leads. Of the texts LstA LstB LstC LstD LstE LstF LstG LstH LstI LstJ LstK: what this seat needs. (Laid by pick.py.) The text of any bytes makes them again: plainly. The walk of ListBack. -/
import Derived.Test.YtnoeeediicaooaaGreatDoorAsX
import Derived.Test.YtnoeeediicaooaaGreatDoorAsS
import Derived.Test.YtnoeeediicaooaaGreatDoorAsT
import Derived.Test.YtnoeeediicaooaaGreatDoorAsU
import Derived.LoopN
import Derived.Test.YtnoeeediicaooaaGreatDoorInsO
import Derived.Test.YtnoeeediicaooaaGreatDoorIsaR
import Derived.Test.YtnoeeediicaooaaGreatDoorShelf
import Derived.Test.YtnoeeediicaooaaGreatDoorRows
import Derived.Test.YtnoeeediicaooaaGreatDoorIsaH
import Derived.Test.YtnoeeediicaooaaGreatDoorBytes
import Derived.Test.YtnoeeediicaooaaGreatDoorTxtB
import Derived.Test.YtnoeeediicaooaaGreatDoorIsaT
import Derived.Shelf.Strings.BuilderF
import Derived.WalkKit
import Derived.WalkLawsBesides
import Derived.Lib.Hide
import Derived.Below
import Derived.Deep.LoopGhost
import Derived.IntWalk
import Derived.Laws.BytesArg
import Derived.Laws.MakeOwn
import Derived.Lib.AppendIntMem
import Derived.Deep.RegionHeld3
import Derived.Lib.Join
import Derived.Lib.FrozenHead
import Derived.RangeFuncNested
import Derived.RangeFuncBound
import Derived.RangeFuncCalls
import Derived.RangeFuncLeaves
import Derived.Shelf.Abstract
import Derived.Shelf.RegionOpen
import Derived.OwnWalkIn
import Derived.TacticsInMore
import Derived.LoopNIn
import Derived.LoopIn
import Derived.RangeFuncWrites
import Derived.Laws.BytesString
namespace Go.Proofs.YtnoeeediicaooaaGreatDoor
open Go.RowKit Go.Shelf
set_option linter.unusedSimpArgs false
set_option linter.unusedVariables false

section
variable {F : Fence} {n : Nat} {P : Program} {w : World}

/-- THE LAW, WHERE THE LOOP's VARIABLE IS BOXED: each round lays a block for it. -/
theorem rangeOwnA {α : Type} {g : Operand} {ps : Array Tmp} {assign body : Code} {Q : Exit → Act → World → Prop} {a : Act}
    (hro : F.round = none) (h1 : 1 ≤ n) {gf : Nat} {lb : Array Value} (hg : a.eval g = .func (.func gf) #[] lb) (hFg : F.fn gf) (eg : ∀ args w, (callFunc gf args).run P w = .ok (.enter gf args) w)
    {encs : α → Array Value} {Ts : List TypeId} {B : Nat} {Ok : List α → α → World → Prop} {S Sp : List α → Prop} {w0 : World} (hit : IterC F (n - 1) P gf lb encs Ts B Ok S Sp w0) (hb0 : Below w0.heap.size w0 w) (hps : ∀ x, (encs x).size = ps.size)
    (hOk : ∀ pre x W l o o', Ok pre x W → W.heap[l]? = some o → o.isCells = false → Ok pre x (W.putObj l o'))
    (I : List α → World → Prop) (Ix : Code → List α → World → Prop) (hI : OwnFrom w.heap.size I) (hSt : Stb Ts B I) (hIx : ∀ c, OwnFrom w.heap.size (Ix c)) (h0 : I [] w) (Ax : α → Act → World → Prop) (hAx : ∀ x a' W l o o', Ax x a' W → W.heap[l]? = some o → o.isCells = false → Ax x a' (W.putObj l o'))
    (hOkB : ∀ pre x W W', Ok pre x W → Below W.heap.size W W' → Ok pre x W')
    (hassign : ∀ (l : Nat) (x : α) (W : World) (K : Act → World → Prop), (∀ a' W', Below W.heap.size W W' → Ax x a' W' → K a' W') →
      assign.wpIn (F.inRound l) (n - 1 - 1) P (Exit.then K (fun _ _ _ => False)) { tmps := (ps.zip (encs x)).foldl (fun t (p, v) => t.setIfInBounds p v) a.tmps, defers := [] } W)
    (hbody : ∀ (l : Nat) (pre : List α) (x : α) (a' : Act) (W : World), I pre W → Ok pre x W → Ax x a' W → body.wpIn (F.inRound l) (n - 1 - 1) P (ownPostG w.heap.size (KpT Ts B) I Ix (pre ++ [x]) W) a' W)
    (hdone : ∀ (D : Nat) (xs : List α) (W : World), w.heap.size ≤ D → S xs → I xs W → W.heap[D]? = some (.deferred (some [])) → Q .normal { a with defers := { target := .collected D, args := #[] } :: a.defers } W)
    (hstop : ∀ (D : Nat) (c : Code) (pre : List α) (W : World), w.heap.size ≤ D → Sp pre → Ix c pre W → W.heap[D]? = some (.deferred (some [])) → c.wpIn F n P Q { a with defers := { target := .collected D, args := #[] } :: a.defers } W) :
    (Code.rangeFunc g ps assign body).wpIn F n P Q a w := by
  refine wpIn_rangeFunc fun fn hfn => ?_
  rw [hro]
  obtain ⟨rc, hrc⟩ : ∃ rc : LoopState → Option Code → Loop, rc = fun st pe => { state := st, pending := pe, fn, tmps := a.tmps, params := ps, assign, body, defers := w.heap.size } := ⟨_, rfl⟩
  obtain ⟨V, hV⟩ : ∃ V, V = (w.alloc (.deferred (some []))).alloc (.loop (rc .ready none)) := ⟨_, rfl⟩
  have bk : Books w.heap.size (rc .ready none) V := by
    constructor
    · have h := World.alloc_heap_new (w.alloc (.deferred (some []))) (.loop (rc .ready none))
      rw [World.size_alloc] at h
      rw [hV]
      exact h
    · rw [hV]
      exact (Below.heap_alloc _ _ _ (by simp)).trans (World.alloc_heap_new w _)
  refine ⟨w.heap.size + 1, [{ target := .collected w.heap.size, args := #[] }], V, { target := .fn (.func gf) lb, args := #[.func (.yield (w.heap.size + 1)) #[] #[]] }, V, gf, #[.func (.yield (w.heap.size + 1)) #[] #[]] ++ lb, V, ?_, ?_, ?_, ?_, fun _ => h1, ?_⟩
  · rw [hV, hrc]; exact run_enterLoop_outer _ _ _ _ _
  · simp only [resolve, hg]
    simp [go_sem]
  · intro f' hf'
    simp [Target.leads] at hf'
    subst hf'
    exact hFg
  · simp [invoke, go_sem, eg]
  have hbV : Below w0.heap.size w0 V := by
    rw [hV]
    exact hb0.trans ((((Below.refl _ w).alloc (Nat.le_refl _) _).alloc (by simp) _).mono hb0.size)
  have hVs : V.heap.size = w.heap.size + 2 := by rw [hV]; simp
  have hIV : I [] V := by rw [hV]; exact hI.alloc _ (hI.alloc _ h0)
  refine (hit (w.heap.size + 1) (fun pre W => I pre W ∧ Books w.heap.size (rc .ready none) W) (fun pre W => ∃ c, Ix c pre W ∧ Books w.heap.size (rc .done (some c)) W) V hbV
    (fun s X Y h hs => ⟨hSt s X Y h.1 hs, h.2.istep hs⟩)
    (fun s X Y row h hg hr => ⟨hI s X Y row h.1 hg (fun r e => ⟨Nat.le_trans (by omega) (hr r e).1, (hr r e).2⟩), h.2.grown (B := V.heap.size) (by omega) hg (fun r e => (hr r e).1)⟩)
    (fun s X Y row h hg hr => by
      obtain ⟨c, hc, hb⟩ := h
      exact ⟨c, hIx c s X Y row hc hg (fun r e => ⟨Nat.le_trans (by omega) (hr r e).1, (hr r e).2⟩), hb.grown (B := V.heap.size) (by omega) hg (fun r e => (hr r e).1)⟩) ?_ ⟨hIV, bk⟩).mono ?_
  · rintro pre x W0 ⟨hi0, hk0⟩ hok0
    have hy := run_yield (P := P) (args := encs x) hk0.loop (by rw [hrc]; exact hps x)
    rw [hrc] at hy
    refine ⟨fn, _, assign, body, hy, roundIn_of_wpIn hfn (hassign _ x W0 _ ?_)⟩
    intro a' W hbw hax
    have hk := hk0.istep (Ts := Ts) (B := w.heap.size + 2) (.inl hbw)
    have hi := hSt pre W0 W hi0 (.inl hbw)
    have hok := hOkB pre x W0 W hok0 hbw
    refine ⟨_, run_beginRound hk.loop (by rw [hrc]), ?_⟩
    have hk2 := hk.put { rc .ready none with state := .busy }
    refine wpIn_mono (hbody _ pre x a' _ (hI.putObj _ hi (by omega) hk.loop rfl) (hOk _ _ _ _ _ _ hok hk.loop rfl) (hAx _ _ _ _ _ _ hax hk.loop rfl)) ?_
    have keeps : ∀ (Z : World), KeepsFrom w.heap.size (W.putObj (w.heap.size + 1) (.loop { rc .ready none with state := .busy })) Z → ∀ r', KeepsFrom V.heap.size W0 (Z.putObj (w.heap.size + 1) (.loop r')) := fun Z hz r' => by
      refine ⟨by have := hz.size; have h2 := hbw.size; simp at this ⊢; omega, fun g o hg ho hc => ?_⟩
      have h1 := hz.same g o (by omega) ((World.putObj_heap_other (by omega)).trans ((hbw.block g (Array.getElem?_eq_some_iff.1 ho).1).trans ho)) hc
      exact (World.putObj_heap_other (by omega)).trans h1
    have done : ∀ (j : Option Code) (Z : World), KeepsFrom w.heap.size (W.putObj (w.heap.size + 1) (.loop { rc .ready none with state := .busy })) Z →
        (Instr.endRound (w.heap.size + 1) j).run P Z = .ok (.bool j.isNone) (Z.putObj (w.heap.size + 1) (.loop (rc (if j.isNone then .ready else .done) j))) ∧
        Books w.heap.size { rc .ready none with state := .busy } Z := fun j Z hz => by
      have hz2 := hk2.keeps hz
      have hr := run_endRound (P := P) j hz2.loop
      rw [hrc] at hr hz2 ⊢
      exact ⟨hr, hz2⟩
    intro e a3 Z hp
    cases e with
    | normal =>
      obtain ⟨p1, p2, p3⟩ := hp
      obtain ⟨hr, hz⟩ := done none Z p1
      refine ⟨_, _, hr, keeps Z p1 _, .inl ⟨rfl, ⟨hI.putObj _ p3 (by omega) hz.loop rfl, hz.put _⟩, ?_⟩⟩
      have hk0p : KpT Ts B W0 W := ⟨hbw.size, fun g cur T _ _ hg => (hbw.block g (Array.getElem?_eq_some_iff.1 hg).1).trans hg⟩
      exact hk0p.trans ((KpT.put hk.loop rfl).trans (p2.trans (KpT.put hz.loop rfl)))
    | ret =>
      obtain ⟨hr, hz⟩ := done (some .ret) Z hp.1
      exact ⟨_, _, hr, keeps Z hp.1 _, .inr ⟨rfl, .ret, (hIx _).putObj _ hp.2 (by omega) hz.loop rfl, hz.put _⟩⟩
    | exit id =>
      obtain ⟨hr, hz⟩ := done (some (.exit id)) Z hp.1
      exact ⟨_, _, hr, keeps Z hp.1 _, .inr ⟨rfl, .exit id, (hIx _).putObj _ hp.2 (by omega) hz.loop rfl, hz.put _⟩⟩
    | goto t =>
      obtain ⟨hr, hz⟩ := done (some (.goto t)) Z hp.1
      exact ⟨_, _, hr, keeps Z hp.1 _, .inr ⟨rfl, .goto t, (hIx _).putObj _ hp.2 (by omega) hz.loop rfl, hz.put _⟩⟩
    | panic c => exact hp.elim
    | outgrown => exact hp.elim
  · rintro e Z ⟨⟨v, rfl⟩, ⟨xs, hS, hi, hk⟩ | ⟨pre, hSp, c, hi, hk⟩⟩
    · have h := run_endLoop (P := P) hk.loop (by rw [hrc]; simp)
      rw [hrc] at h
      exact ⟨none, _, h, hdone _ xs _ (Nat.le_refl _) hS (hI.putObj _ hi (by omega) hk.loop rfl) ((World.putObj_heap_other (by omega)).trans hk.defs)⟩
    · have h := run_endLoop (P := P) hk.loop (by rw [hrc]; simp)
      rw [hrc] at h
      exact ⟨some c, _, h, hstop _ c pre _ (Nat.le_refl _) hSp ((hIx c).putObj _ hi (by omega) hk.loop rfl) ((World.putObj_heap_other (by omega)).trans hk.defs)⟩
end

/-- A pass over texts in two parts. -/
theorem passF_snoc (again : Bool) : ∀ (l : List (List Wd)) (S : St) (n : Int) (ws : List Wd) (r : List (List Wd)), passF again S n (l ++ ws :: r) = match passF again S n l with
    | .error e => .error e
    | .ok T => match doF again T (n + (l.length : Int) + 1) ws with
      | .error e => .error (n + (l.length : Int) + 1, e)
      | .ok U => passF again U (n + (l.length : Int) + 1) r
  | [], S, n, ws, r => by
    simp only [List.nil_append, passF, List.length_nil]
    rw [show n + ((0 : Nat) : Int) + 1 = n + 1 by omega]
    rfl
  | x :: l, S, n, ws, r => by
    simp only [List.cons_append, passF]
    cases doF again S (n + 1) x with
    | error e => rfl
    | ok T =>
      simp only
      rw [passF_snoc again l T (n + 1) ws r]
      rw [show n + ((x :: l).length : Int) + 1 = n + 1 + (l.length : Int) + 1 by simp; omega]

/-- The bounds of a work. -/
structure StOk (S : St) (k : Nat) : Prop where
  a0 : 0 ≤ S.at'
  a1 : S.at' ≤ 4096
  bl : S.bytes.length ≤ 4096
  ml : S.marks.length ≤ k
  ll : S.labels.length ≤ k
  lb : ∀ p ∈ S.labels, 0 ≤ p.2 ∧ p.2 ≤ 4096
theorem StOk.more {S : St} {k m : Nat} (h : StOk S k) (hm : k ≤ m) : StOk S m := ⟨h.a0, h.a1, h.bl, Nat.le_trans h.ml hm, Nat.le_trans h.ll hm, h.lb⟩
theorem toF_ok {again : Bool} {S T : St} {t : Int} {k : Nat} (h : StOk S k) (h0 : 0 ≤ t) (hT : toF again S t = .ok T) : StOk T k ∧ T.at' = t ∧ T.labels = S.labels ∧ T.marks = S.marks ∧ (again = true → (t.toNat : Nat) ≤ T.bytes.length) := by
  unfold toF at hT
  split at hT
  · cases hT
  · rename_i hn
    cases hT
    refine ⟨⟨h0, by simp only; omega, ?_, h.ml, h.ll, h.lb⟩, rfl, rfl, rfl, fun ha => ?_⟩
    · simp only
      split
      · have := h.bl; simp; omega
      · exact h.bl
    · simp only [ha, if_true]
      simp
      omega
theorem toF_err {again : Bool} {S : St} {t : Int} {e : Int} (hT : toF again S t = .error e) : e = 311 := by
  unfold toF at hT
  split at hT
  · cases hT; rfl
  · cases hT
theorem over_lenY (l b : List Int) (a : Nat) (h : a + b.length ≤ l.length) : (over l a b).length = l.length := by
  unfold over
  simp
  omega
theorem layF_ok {again : Bool} {S T : St} {n : Int} {b : List Int} {k : Nat} (h : StOk S k) (hT : layF again S n b = .ok T) : StOk T (k + 1) := by
  unfold layF at hT
  cases hq : toF again S (S.at' + (b.length : Int)) with
  | error e => rw [hq] at hT; cases hT
  | ok U =>
    rw [hq] at hT
    have ha0 := h.a0
    obtain ⟨hU, u1, u2, u3, u4⟩ := toF_ok h (by omega) hq
    cases again
    · cases hT
      exact hU.more (Nat.le_succ _)
    · cases hT
      have u5 := u4 rfl
      refine ⟨hU.a0, hU.a1, ?_, by have := hU.ml; simp; omega, Nat.le_succ_of_le hU.ll, hU.lb⟩
      show (over U.bytes S.at'.toNat b).length ≤ 4096
      rw [over_lenY _ _ _ (by omega)]
      exact hU.bl
theorem layF_err {again : Bool} {S : St} {n : Int} {b : List Int} {e : Int} (hT : layF again S n b = .error e) : e = 311 := by
  unfold layF at hT
  cases hq : toF again S (S.at' + (b.length : Int)) with
  | error e' => rw [hq] at hT; cases hT; exact toF_err hq
  | ok U => rw [hq] at hT; cases again <;> cases hT
theorem oneF_err {ws : List Wd} {lo hi e : Int} (h : oneF ws lo hi = .error e) : e ≠ 0 := by
  unfold oneF at h
  split at h
  · cases h; decide
  · split at h
    · cases h; decide
    · cases h
theorem valueF_err {again : Bool} {l : List (Wd × Int)} {s : Wd} {e : Int} (h : valueF again l s = .error e) : e ≠ 0 := by
  unfold valueF at h
  split at h
  · cases h
  · split at h
    · cases hf : findL l s with
      | none => rw [hf] at h; cases h; decide
      | some a => rw [hf] at h; cases h
    · split at h
      · cases h
      · cases h; decide
theorem bytesF_err {again : Bool} {e : Int} : ∀ {ws : List Wd}, bytesF again ws = .error e → e ≠ 0
  | [], h => by cases h
  | x :: r, h => by
    unfold bytesF at h
    split at h
    · cases h; decide
    · cases hb : bytesF again r with
      | error e' => rw [hb] at h; cases h; exact bytesF_err hb
      | ok l => rw [hb] at h; cases h
theorem wordsL_err {again : Bool} {l : List (Wd × Int)} {e : Int} : ∀ {ws : List Wd}, wordsL again l ws = .error e → e ≠ 0
  | [], h => by cases h
  | x :: r, h => by
    unfold wordsL at h
    cases hv : valueF again l x with
    | error e' => rw [hv] at h; cases h; exact valueF_err hv
    | ok v =>
      rw [hv] at h
      simp only at h
      cases hb : wordsL again l r with
      | error e' => rw [hb] at h; cases h; exact wordsL_err hb
      | ok l' => rw [hb] at h; cases h
theorem namedF_err {S : St} {ws : List Wd} {op e : Int} (h : namedF S ws op = .error e) : e ≠ 0 := by
  unfold namedF at h
  split at h
  · cases h
  · cases hv : valueF true S.labels (ws.getD (labelled op - 1) []) with
    | error e' => rw [hv] at h; cases h; exact valueF_err hv
    | ok v =>
      rw [hv] at h
      simp only at h
      split at h
      · cases h
      · split at h
        · cases h; decide
        · cases h
theorem instrF_both {again : Bool} {S : St} {n : Int} {ws : List Wd} {op : Int} {k : Nat} (h : StOk S k) : (∀ T, instrF again S n ws op = .ok T → StOk T (k + 1)) ∧ ∀ e, instrF again S n ws op = .error e → e ≠ 0 := by
  have hs6 : 0 ≤ (Isa.fm op false).n ∧ (Isa.fm op false).n ≤ 6 := by rcases Isa.fm_is op false with h | h | h | h | h | h | h | h | h | h <;> rw [h] <;> decide
  have ha := h.a0
  unfold instrF
  split
  · exact ⟨fun T hT => (toF_ok h (by omega) hT).1.more (Nat.le_succ _), fun e he => by rw [toF_err he]; decide⟩
  · cases hn : namedF S ws op with
    | error e => exact ⟨(fun T hT => by cases hT), fun e' he => by cases he; exact namedF_err hn⟩
    | ok l =>
      simp only
      cases hr : readF (joinF l) with
      | error e => exact ⟨(fun T hT => by cases hT), fun e' he => by cases he; rcases read_bad hr with h | h <;> omega⟩
      | ok t =>
        obtain ⟨o, a, b, i⟩ := t
        exact ⟨fun T hT => layF_ok h hT, fun e he => by rw [layF_err he]; decide⟩
theorem stepF_both {again : Bool} {S : St} {n : Int} {ws : List Wd} {k : Nat} (h : StOk S k) : (∀ T, stepF again S n ws = .ok T → StOk T (k + 1)) ∧ ∀ e, stepF again S n ws = .error e → e ≠ 0 := by
  have ha := h.a0
  unfold stepF
  simp only
  split
  · cases h1 : oneF ws 0 2147483647 with
    | error e => exact ⟨(fun T hT => by cases hT), fun e' he => by cases he; exact oneF_err h1⟩
    | ok v =>
      have := oneF_bd h1
      simp only
      split
      · exact ⟨(fun T hT => by cases hT), fun e' he => by cases he; decide⟩
      · exact ⟨fun T hT => (toF_ok h (by omega) hT).1.more (Nat.le_succ _), fun e he => by rw [toF_err he]; decide⟩
  split
  · cases h1 : oneF ws 0 2147483647 with
    | error e => exact ⟨(fun T hT => by cases hT), fun e' he => by cases he; exact oneF_err h1⟩
    | ok v =>
      have := oneF_bd h1
      exact ⟨fun T hT => (toF_ok h (by omega) hT).1.more (Nat.le_succ _), fun e he => by rw [toF_err he]; decide⟩
  split
  · cases h1 : oneF ws 1 64 with
    | error e => exact ⟨(fun T hT => by cases hT), fun e' he => by cases he; exact oneF_err h1⟩
    | ok v =>
      have := oneF_bd h1
      exact ⟨fun T hT => (toF_ok h (Int.mul_nonneg (Int.ediv_nonneg (by omega) (by omega)) (by omega)) hT).1.more (Nat.le_succ _), fun e he => by rw [toF_err he]; decide⟩
  split
  · split
    · exact ⟨(fun T hT => by cases hT), fun e' he => by cases he; decide⟩
    · cases h1 : bytesF again ws.tail with
      | error e => exact ⟨(fun T hT => by cases hT), fun e' he => by cases he; exact bytesF_err h1⟩
      | ok b => exact ⟨fun T hT => layF_ok h hT, fun e he => by rw [layF_err he]; decide⟩
  split
  · split
    · exact ⟨(fun T hT => by cases hT), fun e' he => by cases he; decide⟩
    · cases h1 : wordsL again S.labels ws.tail with
      | error e => exact ⟨(fun T hT => by cases hT), fun e' he => by cases he; exact wordsL_err h1⟩
      | ok b => exact ⟨fun T hT => layF_ok h hT, fun e he => by rw [layF_err he]; decide⟩
  split
  · split
    · exact ⟨(fun T hT => by cases hT), fun e' he => by cases he; decide⟩
    · exact ⟨fun T hT => layF_ok h hT, fun e he => by rw [layF_err he]; decide⟩
  · cases opF (ws.headD []) with
    | none => exact ⟨(fun T hT => by cases hT), fun e' he => by cases he; decide⟩
    | some op => exact instrF_both h
theorem doF_both {again : Bool} {S : St} {n : Int} {ws : List Wd} {k : Nat} (h : StOk S k) : (∀ T, doF again S n ws = .ok T → StOk T (k + 2)) ∧ ∀ e, doF again S n ws = .error e → e ≠ 0 := by
  unfold doF
  split
  · exact ⟨fun T hT => by cases hT; exact h.more (by omega), fun e he => by cases he⟩
  · have hl : (∀ T vs, labelF again S ws = .ok (T, vs) → StOk T (k + 1)) ∧ ∀ e, labelF again S ws = .error e → e ≠ 0 := by
      unfold labelF
      simp only
      split
      · split
        · exact ⟨fun T vs hh => by cases hh; exact h.more (by omega), fun e he => by cases he⟩
        · split
          · exact ⟨fun T vs hh => (by cases hh), fun e he => by cases he; decide⟩
          · refine ⟨fun T vs hh => ?_, fun e he => by cases he⟩
            cases hh
            refine ⟨h.a0, h.a1, h.bl, Nat.le_succ_of_le h.ml, by have := h.ll; simp; omega, fun p hp => ?_⟩
            rcases List.mem_append.1 hp with hp | hp
            · exact h.lb p hp
            · have : p = ((ws.headD []).dropLast, S.at') := by simpa using hp
              rw [this]
              exact ⟨h.a0, h.a1⟩
      · exact ⟨fun T vs hh => by cases hh; exact h.more (by omega), fun e he => by cases he⟩
    cases hL : labelF again S ws with
    | error e => exact ⟨(fun T hT => by cases hT), fun e' he => by cases he; exact hl.2 e hL⟩
    | ok t =>
      obtain ⟨T, vs⟩ := t
      have hT := hl.1 T vs hL
      simp only
      split
      · exact ⟨fun U hU => by cases hU; exact hT.more (by omega), fun e he => by cases he⟩
      · have := stepF_both (again := again) (n := n) (ws := vs) hT
        exact ⟨fun U hU => (this.1 U hU).more (by omega), this.2⟩
end Go.Proofs.YtnoeeediicaooaaGreatDoor
namespace Go.Proofs.YtnoeeediicaooaaGreatDoor
open Go.RowKit Go.Shelf
set_option linter.unusedSimpArgs false
set_option linter.unusedVariables false

theorem AsFix.setAgain {base wk pb ob : Nat} {again : Bool} {S : St} {pl : List (Wd × Int)} {vB vL vM : Value} {w : World} (h : AsFix base wk pb ob again S pl vB vL vM w) (b : Bool) : AsFix base wk pb ob b S pl vB vL vM (w.setCell ⟨wk, 1, none⟩ (.bool b)) := by
  have hne : ∀ {g : Nat} {o : Obj}, w.heap[g]? = some o → (∀ cur, o ≠ .cells cur 44 (0, 0)) → g ≠ wk := fun hc he hgk => by
    subst hgk
    rw [h.h] at hc
    exact he _ (Option.some.inj hc).symm
  obtain ⟨es, cl, hp⟩ := h.pm.heap
  obtain ⟨es2, cl2, ho⟩ := h.om.heap
  refine ⟨by rw [heap_setA h.h _ (by simp [wkA])]; simp [wkA], h.le, h.lp, h.lo, h.ne, own_keepA h.bs (fun g cur hc => Below.heap_setCell _ _ _ _ (hne hc (fun _ => cells_ne (by decide)))), own_keepA h.ls (fun g cur hc => Below.heap_setCell _ _ _ _ (hne hc (fun _ => cells_ne (by decide)))), own_keepA h.ms (fun g cur hc => Below.heap_setCell _ _ _ _ (hne hc (fun _ => cells_ne (by decide)))),
    h.pm.same (Below.heap_setCell _ _ _ _ (hne hp (fun _ e => by cases e))), h.om.same (Below.heap_setCell _ _ _ _ (hne ho (fun _ e => by cases e)))⟩

theorem outO_not {o : Obj} (h : ¬ OutO o) : o.isCells = true := by
  cases o <;> first | rfl | exact absurd trivial h
theorem AsOk.grownX {base wk pb ob again S} {w w' : World} {row : Option Nat} (h : AsOk base wk pb ob again S w) (hg : w.grownBy w' row) (hr : ∀ r, row = some r → base ≤ r ∧ r ≠ pb ∧ r ≠ ob ∧ ∃ o, w.heap[r]? = some o ∧ o.isCells = false) : AsOk base wk pb ob again S w' := by
  obtain ⟨vB, vL, vM, hF⟩ := h.is
  refine ⟨⟨vB, vL, vM, hF.same (fun g o hg' hx => (hg.block g (heap_ltA hg') (fun e => ?_)).trans hg')⟩, Nat.le_trans h.hs hg.size, h.a0, h.a1, h.bl, h.ml, h.lb, h.tab.on ((Below.refl _ _).grown hg h.hs (fun k hk => (hr k hk).1))⟩
  obtain ⟨-, h1, h2, o', h3, h4⟩ := hr g e.symm
  rcases hx with hx | hx | hx
  · rw [hg'] at h3
    cases h3
    rw [outO_not hx] at h4
    cases h4
  · exact h1 hx
  · exact h2 hx
theorem Fr.grownX {base pb : Nat} {w W W' : World} {row : Option Nat} (h : Fr base pb w W) (hg : W.grownBy W' row) (hr : ∀ r, row = some r → w.heap.size ≤ r) (hs : base ≤ w.heap.size) : Fr base pb w W' :=
  ⟨h.below.grown hg (Nat.le_trans hs h.size) (fun k hk => Nat.le_trans hs (hr k hk)), fun g o ho hO hne => (hg.block g (Nat.lt_of_lt_of_le (heap_ltA ho) h.size) (fun e => by have := hr g e.symm; have := heap_ltA ho; omega)).trans (h.out g o ho hO hne)⟩
theorem Fr.istep {Ts : List TypeId} {base pb : Nat} {w W W' : World} (h : Fr base pb w W) (hi : IStep Ts w.heap.size W W') (hs : base ≤ w.heap.size) : Fr base pb w W' := by
  rcases hi with hb | ⟨b, cur, T, v, h1, h2, h3, rfl⟩
  · exact h.trans (Fr.of_below hb (Nat.le_trans hs h.size))
  · exact h.setNew b 0 v h1 hs
theorem outO_ts {T : TypeId} {cs : Array Value} (h : T ∈ TsS) : OutO (.cells cs T (0, 0)) := by
  simp only [TsS, List.mem_cons, List.not_mem_nil, or_false] at h
  rcases h with rfl | rfl | rfl <;> simp [OutO]
theorem AsOk.istep {base wk pb ob again S B} {w w' : World} (h : AsOk base wk pb ob again S w) (hi : IStep TsS B w w') (hB : base ≤ B) : AsOk base wk pb ob again S w' := by
  rcases hi with hb | ⟨b, cur, T, v, h1, h2, h3, rfl⟩
  · exact h.below hb
  · exact h.setBox h3 (outO_ts h2) (Nat.le_trans hB h1) 0 v
theorem KpT.of_fr {base pb B : Nat} {W W' : World} {es cl} (h : Fr base pb W W') (hp : W.heap[pb]? = some (.map es cl)) : KpT TsS B W W' :=
  ⟨h.size, fun g cur T _ hT hg => h.out g _ hg (outO_ts hT) (fun e => by subst e; rw [hp] at hg; cases hg)⟩
theorem KeepsFrom.of_fr {base pb D : Nat} {W W' : World} (h : Fr base pb W W') (hp : pb < D) : KeepsFrom D W W' :=
  ⟨h.size, fun k o hk ho hc => h.out k o ho (by cases o <;> first | trivial | cases hc) (by omega)⟩
theorem AsOk.pm_heap {base wk pb ob again S w} (h : AsOk base wk pb ob again S w) : (∃ es cl, w.heap[pb]? = some (.map es cl)) ∧ pb < w.heap.size ∧ ob < w.heap.size := by
  obtain ⟨vB, vL, vM, hF⟩ := h.is
  exact ⟨hF.pm.heap, hF.pm.lt, hF.om.lt⟩
theorem AsOk.of {base wk pb ob again T k} {W : World} (h : AsIs base wk pb ob again T W) (hs : base ≤ W.heap.size) (ok : StOk T k) (hk : k ≤ 100000) (ht : Lib.TabBelow Tryz.prog base W "internal/strconv.uint64pow10" .u64 Lib.pow10Tab) : AsOk base wk pb ob again T W :=
  ⟨h, hs, ok.a0, ok.a1, ok.bl, Nat.le_trans ok.ml hk, ok.lb, ht⟩

/-- What a pass keeps. -/
def PassI (base wk pb ob : Nat) (again : Bool) (S0 : St) (K0 : Nat) (Wl : World) (pre : List LnE) (W : World) : Prop :=
  ∃ T, passF again S0 0 (pre.map LnE.ws) = .ok T ∧ StOk T (K0 + 2 * pre.length) ∧ AsOk base wk pb ob again T W ∧ Fr base pb Wl W
abbrev zPr : Array Value := #[.slice none 0 0, .slice none 0 0, .slice none 0 0]
structure PassE (base R bb yb : Nat) (again : Bool) (S0 : St) (Wl : World) (ln er : Int) (W : World) : Prop where
  bad : W.heap[bb]? = some (.cells #[.int .i64 ln] 3 (0, 0))
  why : W.heap[yb]? = some (.cells #[.int .i64 er] 28 (0, 0))
  res : W.heap[R]? = some (.cells zPr 27 (0, 0))
  below : Below base Wl W
  defs : ∀ D : Nat, Wl.heap[D]? = some (Obj.deferred (some [])) → W.heap[D]? = some (Obj.deferred (some []))
/-- .. and where a line is wrong. -/
def PassX (base R bb yb : Nat) (again : Bool) (S0 : St) (Wl : World) (c : Code) (pre : List LnE) (W : World) : Prop :=
  c = .exit 2 ∧ ∃ ln er, (∀ r, passF again S0 0 (pre.map LnE.ws ++ r) = .error (ln, er)) ∧ er ≠ 0 ∧ PassE base R bb yb again S0 Wl ln er W

theorem passI_own {base wk pb ob : Nat} {again : Bool} {S0 : St} {K0 : Nat} {Wl : World} (hs : base ≤ Wl.heap.size) (hpb : pb < Wl.heap.size) (hob : ob < Wl.heap.size) : OwnFrom Wl.heap.size (PassI base wk pb ob again S0 K0 Wl) := by
  rintro pre W W' row ⟨T, h1, h2, h3, h4⟩ hg hr
  exact ⟨T, h1, h2, h3.grownX hg (fun r e => by
    obtain ⟨q1, q2⟩ := hr r e
    exact ⟨by omega, by omega, by omega, q2⟩), h4.grownX hg (fun r e => (hr r e).1) hs⟩
theorem passI_stb {base wk pb ob : Nat} {again : Bool} {S0 : St} {K0 : Nat} {Wl : World} (hs : base ≤ Wl.heap.size) : Stb TsS Wl.heap.size (PassI base wk pb ob again S0 K0 Wl) := by
  rintro pre W W' ⟨T, h1, h2, h3, h4⟩ hi
  exact ⟨T, h1, h2, h3.istep hi hs, h4.istep hi hs⟩
theorem passX_own {base R bb yb : Nat} {again : Bool} {S0 : St} {Wl : World} (hs : base ≤ Wl.heap.size) (c : Code) : OwnFrom Wl.heap.size (PassX base R bb yb again S0 Wl c) := by
  rintro pre W W' row ⟨rfl, ln, er, h1, h2, h3⟩ hg hr
  refine ⟨rfl, ln, er, h1, h2, row_keptX h3.bad hg hr, row_keptX h3.why hg hr, row_keptX h3.res hg hr, h3.below.grown hg (Nat.le_trans hs h3.below.size) (fun k hk => Nat.le_trans hs (hr k hk).1), fun D hD => ?_⟩
  have hDl := heap_ltA hD
  exact (hg.block D (Nat.lt_of_lt_of_le hDl h3.below.size) (fun e => by have := (hr D e.symm).1; omega)).trans (h3.defs D hD)

/-- What Assemble hands back. -/
def AsmP (r : Except (Int × Int) St) (w : World) (e : Ending) (w' : World) : Prop := Below w.heap.size w w' ∧ match r with
  | .ok S => ∃ vB vL vM, e = .returned (.tuple #[.agg #[vB, vL, vM], .int .i64 0, .int .i64 0]) ∧ w'.ownsRow w.heap.size 5 1 vB S.bytes.length (S.bytes.map (Value.int .u8)) ∧ w'.ownsRow w.heap.size 33 2 vL S.labels.length (S.labels.flatMap labA) ∧ w'.ownsRow w.heap.size 140 2 vM S.marks.length (S.marks.flatMap mrkA)
  | .error (ln, er) => e = .returned (.tuple #[.agg zPr, .int .i64 ln, .int .i64 er])

/-- One line of a pass. -/
theorem pass_line {base wk pb ob : Nat} {again : Bool} {S0 T : St} {K0 : Nat} {Wl W : World} {pre : List LnE} {x : LnE} (h1 : passF again S0 0 (pre.map LnE.ws) = .ok T) (hn : x.n = (pre.length : Int) + 1) :
    (∀ U, doF again T x.n x.ws = .ok U → passF again S0 0 ((pre ++ [x]).map LnE.ws) = .ok U) ∧ ∀ er, doF again T x.n x.ws = .error er → ∀ r, passF again S0 0 ((pre ++ [x]).map LnE.ws ++ r) = .error (x.n, er) := by
  have hl : (0 : Int) + ((pre.map LnE.ws).length : Int) + 1 = x.n := by rw [hn]; simp
  constructor
  · intro U hU
    rw [List.map_append, List.map_cons, List.map_nil, passF_snoc, h1]
    simp only
    rw [hl, hU]
    rfl
  · intro er he r
    rw [List.map_append, List.map_cons, List.map_nil, List.append_assoc, List.singleton_append, passF_snoc, h1]
    simp only
    rw [hl, he]
end Go.Proofs.YtnoeeediicaooaaGreatDoor
namespace Go.Proofs.YtnoeeediicaooaaGreatDoor
open Go.RowKit Go.Shelf
set_option linter.unusedSimpArgs false
set_option linter.unusedVariables false
set_option maxRecDepth 100000
attribute [local go_sem] Oper.semAt_some

theorem loop_three {P : Program} {c : Code} {Q : Exit → Act → World → Prop} {a : Act} {w : World} (I : Nat → Act → World → Prop)
    (hr : ∀ i a w, i ≤ 2 → I i a w → c.wp P (Exit.then (fun a' w' => i < 2 ∧ I (i + 1) a' w') Q) a w) (h0 : I 0 a w) : (Code.loop c).wp P Q a w := by
  refine wp_loop_rounds 3 ?_
  have key : ∀ (j i : Nat) (a : Act) (w : World), i + j = 3 → i ≤ 2 → I i a w → Code.rounds P c Q j a w := by
    intro j
    induction j with
    | zero => intro i a w h h2 _; omega
    | succ j ih =>
      intro i a w h h2 hi
      rw [rounds_succ]
      refine Code.wp_mono (fun e a' w' hq => ?_) (hr i a w h2 hi)
      cases e <;> first | exact hq | exact ih (i + 1) a' w' (by omega) (by have := hq.1; omega) hq.2
  exact key 3 0 a w rfl (by decide) h0

/-- How far Assemble is. -/
def StgA (L : List UInt8) : Nat → St → Prop
  | 0, S => S = ⟨0, [], [], []⟩
  | 1, S => passF false ⟨0, [], [], []⟩ 0 (linesF L) = .ok S
  | _, S => asmF L = .ok S
theorem stg_next {L : List UInt8} (hl : longB L = false) {i : Nat} {S T : St} (hi : i < 2) (h : StgA L i S) (hp : passF (decide (i = 1)) { S with at' := 0 } 0 (linesF L) = .ok T) : StgA L (i + 1) T := by
  rcases i with _ | _ | i
  · have h : S = ⟨0, [], [], []⟩ := h
    subst h
    exact hp
  · have h : passF false ⟨0, [], [], []⟩ 0 (linesF L) = .ok S := h
    show asmF L = .ok T
    unfold asmF
    rw [hl, if_neg (by decide), h]
    exact hp
  · omega
theorem stg_bad {L : List UInt8} (hl : longB L = false) {i : Nat} {S : St} {x : Int × Int} (hi : i < 2) (h : StgA L i S) (hp : passF (decide (i = 1)) { S with at' := 0 } 0 (linesF L) = .error x) : asmF L = .error x := by
  unfold asmF
  rw [hl, if_neg (by decide)]
  rcases i with _ | _ | i
  · have h : S = ⟨0, [], [], []⟩ := h
    subst h
    have hp : passF false ⟨0, [], [], []⟩ 0 (linesF L) = .error x := hp
    rw [hp]
  · have h : passF false ⟨0, [], [], []⟩ 0 (linesF L) = .ok S := h
    rw [h]
    exact hp
  · omega
theorem stok0 {S : St} {k : Nat} (h : StOk S k) : StOk { S with at' := 0 } k := ⟨Int.le_refl _, by simp, h.bl, h.ml, h.ll, h.lb⟩


theorem lines_lenZ (L : List UInt8) (h : longB L = false) : (linesF L).length ≤ 513 := by
  unfold longB at h
  simp only [Bool.or_eq_false_iff, decide_eq_false_iff_not] at h
  unfold linesF
  rw [List.length_map, splitC_len]
  have := h.2
  omega
theorem st0_okZ : StOk ⟨0, [], [], []⟩ 0 := ⟨by decide, by decide, by simp, by simp, by simp, by simp⟩
theorem lines_words (L : List UInt8) (hL : L.length ≤ 8192) : ∀ ws ∈ linesF L, ws.length ≤ 8193 := by
  intro ws h
  unfold linesF at h
  obtain ⟨s, hs, rfl⟩ := List.mem_map.1 h
  exact (lineW_ok s 8192 (Nat.le_trans (splitC_le 10 L s hs) hL)).1

abbrev markD (D : Nat) : Deferred := { target := .collected D, args := #[] }
structure LpW (base R tb sb wk : Nat) (w0 w : World) : Prop where
  res : w.heap[R]? = some (.cells zPr 27 (0, 0))
  work : w.heap[tb]? = some (.cells #[.pointer (some ⟨wk, 0, none⟩)] 39 (0, 0))
  bools : w.heap[sb]? = some (.cells #[.bool false, .bool true] 4 (0, 0))
  below : Below base w0 w
theorem LpW.fr {base pb R tb sb wk : Nat} {w0 w w' : World} {es cl} (h : LpW base R tb sb wk w0 w) (hf : Fr base pb w w') (hp : w.heap[pb]? = some (.map es cl)) : LpW base R tb sb wk w0 w' :=
  ⟨hf.out _ _ h.res (by simp [OutO]) (fun e => by subst e; have := h.res; rw [hp] at this; cases this), hf.out _ _ h.work (by simp [OutO]) (fun e => by subst e; have := h.work; rw [hp] at this; cases this), hf.out _ _ h.bools (by simp [OutO]) (fun e => by subst e; have := h.bools; rw [hp] at this; cases this), h.below.trans hf.below⟩
theorem LpW.belowW {base R tb sb wk : Nat} {w0 w w' : World} (h : LpW base R tb sb wk w0 w) (hb : Below w.heap.size w w') (hs : base ≤ w.heap.size) : LpW base R tb sb wk w0 w' :=
  ⟨(hb.block _ (heap_ltA h.res)).trans h.res, (hb.block _ (heap_ltA h.work)).trans h.work, (hb.block _ (heap_ltA h.bools)).trans h.bools, h.below.trans (hb.mono hs)⟩
/-- At a return the marks are taken, one by one. -/
theorem leaves_marks {F : Fence} {n : Nat} {P : Program} {fn : Func} {tmps : Array Value} {R : Ending → World → Prop} {base : Nat} : ∀ (Ds : List Nat) (W : World), Ds.Pairwise (· ≠ ·) → (∀ D ∈ Ds, base ≤ D ∧ W.heap[D]? = some (Obj.deferred (some []))) →
    (∀ W', Below base W W' → (∀ k, k ∉ Ds → W'.heap[k]? = W.heap[k]?) → LeavesInM F n P fn tmps R [] .returning W') → LeavesInM F n P fn tmps R (Ds.map markD) .returning W
  | [], W, _, _, h => h W (Below.refl _ _) (fun _ _ => rfl)
  | D :: Ds, W, hp, hd, h => by
    rw [List.pairwise_cons] at hp
    obtain ⟨hb, hD⟩ := hd D List.mem_cons_self
    have hB : Below base W (W.putObj D (.deferred none)) := (Below.refl _ W).grown (grownBy_putObj' W D _) (by have := heap_ltA hD; omega) (fun k e => by cases e; omega)
    refine ⟨by simp, .inl ⟨_, _, rfl, run_takeDeferred hD, ?_⟩⟩
    refine leaves_marks Ds _ hp.2 (fun E hE => ⟨(hd E (List.mem_cons_of_mem _ hE)).1, (World.putObj_heap_other (fun e => hp.1 E hE (by omega))).trans (hd E (List.mem_cons_of_mem _ hE)).2⟩) (fun W' hb' hk => h W' (hB.trans hb') (fun k hk2 => ?_))
    rw [hk k (fun h => hk2 (List.mem_cons_of_mem _ h))]
    exact World.putObj_heap_other (fun e => hk2 (by rw [show k = D by omega]; exact List.mem_cons_self))
/-- What the loop over the two passes keeps. -/
def LpI (L : List UInt8) (s : ByteArray) (base R pb ob wk tb sb : Nat) (w0 : World) (i : Nat) (a : Act) (W : World) : Prop :=
  ∃ (S : St) (ag : Bool) (Ds : List Nat), i ≤ 2 ∧ StgA L i S ∧ StOk S (i * 1100) ∧ AsOk base wk pb ob ag S W ∧ LpW base R tb sb wk w0 W ∧ Ds.length = i ∧ Ds.Pairwise (· ≠ ·) ∧ (∀ D ∈ Ds, base ≤ D ∧ W.heap[D]? = some (Obj.deferred (some []))) ∧
    ∃ x1 x6 x7 x8 x9 x10 x11 x12 x13 x14 x15 x16 x17 x18 x22 x23 x24 x25 x26 x27 x28 x29 x30 x31 x32 x33 x34 x35 x36 x37 x38 x39 x40 x41 x42 x43 x44 x45 x46 x47 x48 x49 x50 x51 x52 : Value, a = { tmps := #[.string s, x1, .pointer (some ⟨R, 0, none⟩), .int .i64 0, .int .i64 0, .pointer (some ⟨tb, 0, none⟩), x6, x7, x8, x9, x10, x11, x12, x13, x14, x15, x16, x17, x18, .slice (some ⟨sb, 0, none⟩) 2 2, .int .i64 2, .int .i64 (i : Int), x22, x23, x24, x25, x26, x27, x28, x29, x30, x31, x32, x33, x34, x35, x36, x37, x38, x39, x40, x41, x42, x43, x44, x45, x46, x47, x48, x49, x50, x51, x52], defers := Ds.map markD }

/-- A round's variable. -/
def AxZ (tb bb yb : Nat) (x : LnE) (a : Act) (W : World) : Prop :=
  ∃ (lb : Nat), W.heap[lb]? = some (.cells #[.int .i64 x.n, .slice x.ao x.ws.length x.cap] 51 (0, 0)) ∧ ∃ y0 y1 y2 y3 y4 y6 y7 y11 y12 y13 y14 y15 y16 y17 y18 y19 y20 y21 y22 y23 y24 y25 y26 y27 y28 y29 y30 y31 y32 y33 y34 y35 y36 y37 y38 y39 y40 y41 y42 y43 y44 y45 y46 y47 y48 y49 y50 y51 y52 : Value, a = { tmps := #[y0, y1, y2, y3, y4, .pointer (some ⟨tb, 0, none⟩), y6, y7, .pointer (some ⟨bb, 0, none⟩), .pointer (some ⟨yb, 0, none⟩), .pointer (some ⟨lb, 0, none⟩), y11, y12, y13, y14, y15, y16, y17, y18, y19, y20, y21, y22, y23, y24, y25, y26, y27, y28, y29, y30, y31, y32, y33, y34, y35, y36, y37, y38, y39, y40, y41, y42, y43, y44, y45, y46, y47, y48, y49, y50, y51, y52], defers := [] }

set_option maxHeartbeats 32000000 in
theorem asm_in (n : Nat) (hn : 9 ≤ n) (L : List UInt8) (hL : L.length ≤ 9223372036854775807) (w : World) (HT : Hid (pTab w)) :
    CallsIn Fence.wide n Tryz.prog 6 #[.string ⟨L.toArray⟩] w (AsmP (asmF L) w) := by
  have h1 : 1 ≤ n := by omega
  have HLg := Lib.hid fun (W : World) => long_c L hL W
  have HOp := Lib.hid fun (W : World) (H : Hid (pTab W)) => operations_c W H
  have HLi := Lib.hid fun (W : World) => lines_c L W
  have hmm := @run_makeMap Tryz.prog
  generalize hs : (⟨L.toArray⟩ : ByteArray) = s at HLg HLi ⊢
  have HS := Lib.hid hs
  clear hs
  refine callsIn_of_wp_marks Tryz.func6 rfl trivial ?_ rfl
  simp only [Tryz.ntmps6, List.size_toArray, List.length_cons, List.length_nil, Nat.reduceAdd, Nat.reduceSub, Array.replicate_succ, Array.replicate_zero, List.push_toArray, List.append_toArray, List.nil_append, List.cons_append]
  refine wpIn_wide.2 ?_
  by_cases hlg : longB L = true
  · rw [hlg] at HLg
    have hR : asmF L = .error (0, 3) := by unfold asmF; rw [if_pos hlg]
    rw [hR]
    clear hR hlg HOp HLi hmm HS
    go_wp2_with fail
    refine (HLg.out _).mono ?_
    rintro e w1 ⟨rfl, rfl⟩
    go_wp2_with fail
    refine ⟨.tuple #[.agg zPr, .int .i64 0, .int .i64 3], ?_, ?_, rfl⟩
    · simp [results, Tryz.f6, go_sem]
    · exact (Below.refl _ _).alloc (Nat.le_refl _) _
  have hlf : longB L = false := by simpa using hlg
  have hLs : L.length ≤ 8192 := by
    unfold longB at hlf
    simp only [Bool.or_eq_false_iff, decide_eq_false_iff_not] at hlf
    omega
  rw [hlf] at HLg
  have HLF := Lib.hid hlf
  clear hlf hlg
  go_wp2_with fail
  refine (HLg.out _).mono ?_
  rintro e w1 ⟨rfl, rfl⟩
  go_wp2_with fail
  refine (HOp.out _ (Lib.hid (pTab_of (B := w.heap.size) (Lib.TabBelow.on HT.out (((Below.refl _ w).alloc (Nat.le_refl _) _).alloc (by simp) _)) (by simp; omega)))).mono ?_
  rintro e w2 ⟨rfl, hM, hB2⟩
  go_wp2_with fail
  obtain ⟨W0, hW0⟩ : ∃ x, x = ((w2.alloc (.cells #[.int .i64 0, .bool false, .map (some (w.heap.size + 1)), .map (some (w.heap.size + 1 + 1)), .slice none 0 0, .slice none 0 0, .slice none 0 0] 44)).alloc (.cells #[.pointer (some ⟨w2.heap.size, 0, none⟩)] 39)).alloc (.cells #[.bool false, .bool true] 4) := ⟨_, rfl⟩
  rw [← hW0]
  have hB2' : Below w.heap.size w w2 := ((((Below.refl _ w).alloc (Nat.le_refl _) _).alloc (by simp) _).trans (hB2.mono (by simp; omega)))
  have hs2 : w.heap.size + 1 + 1 ≤ w2.heap.size := by have := hB2.size; simpa using this
  have hB0 : Below w.heap.size w W0 := by rw [hW0]; exact ((hB2'.alloc (by omega) _).alloc (by simp; omega) _).alloc (by simp; omega) _
  have hb20 : Below w2.heap.size w2 W0 := by rw [hW0]; exact (((Below.refl _ w2).alloc (Nat.le_refl _) _).alloc (by simp) _).alloc (by simp; omega) _
  have hpm0 : SMap w2 3 .i64 (w.heap.size + 1) 0 (findL []) := by
    have h1 := ((SMap.made (w.alloc (.cells zPr 27)) 3 .i64).ext (g := findL []) (fun s => rfl)).below hB2
    simpa using h1
  have hM' : SMap w2 5 .u8 (w.heap.size + 1 + 1) 256 opF := by simpa using hM
  have hAs0 : AsOk w.heap.size w2.heap.size (w.heap.size + 1) (w.heap.size + 1 + 1) false ⟨0, [], [], []⟩ W0 := by
    refine AsOk.of ⟨_, _, _, ⟨?_, by omega, by omega, by omega, by omega, World.ownsRow_nil _ _ _ _, World.ownsRow_nil _ _ _ _, World.ownsRow_nil _ _ _ _, ?_, ?_⟩⟩ (by have := hB0.size; omega) st0_okZ (by decide) (Lib.TabBelow.on HT.out hB0)
    · rw [hW0]; exact heap_oldT (heap_oldT (heap_newT rfl))
    · exact hpm0.below hb20
    · exact hM'.below hb20
  have hLp0 : LpW w.heap.size w.heap.size (w2.heap.size + 1) (w2.heap.size + 1 + 1) w2.heap.size w W0 := by
    refine ⟨?_, ?_, ?_, hB0⟩
    · rw [hb20.block _ (by omega), hB2.block _ (by simp; omega)]
      exact heap_oldT (heap_newT rfl)
    · rw [hW0]; exact heap_oldT (heap_newT (by simp))
    · rw [hW0]; exact heap_newT (by simp)
  clear hpm0 hb20 hB0 hB2 hB2' hM hM' hW0
  refine loop_three (fun i a' W => LpI L s w.heap.size w.heap.size (w.heap.size + 1) (w.heap.size + 1 + 1) w2.heap.size (w2.heap.size + 1) (w2.heap.size + 1 + 1) w i a' W) ?round ?start
  case start => exact ⟨⟨0, [], [], []⟩, false, [], by decide, rfl, st0_okZ, hAs0, hLp0, rfl, List.Pairwise.nil, (fun D h => by cases h), _, _, _, _, _, _, _, _, _, _, _, _, _, _, _, _, _, _, _, _, _, _, _, _, _, _, _, _, _, _, _, _, _, _, _, _, _, _, _, _, _, _, _, _, _, rfl⟩
  case round =>
    intro i a W hi hI
    clear hAs0 hLp0 W0 HOp HLg
    generalize w2.heap.size + 1 + 1 = sb at hI
    generalize w2.heap.size + 1 = tb at hI
    generalize w2.heap.size = wk at hI
    generalize w.heap.size + 1 + 1 = ob at hI
    generalize w.heap.size + 1 = pb at hI
    obtain ⟨S, ag, Ds, -, hst, hok, hAs, hLp, hDl, hDp, hDk, x1, x6, x7, x8, x9, x10, x11, x12, x13, x14, x15, x16, x17, x18, x22, x23, x24, x25, x26, x27, x28, x29, x30, x31, x32, x33, x34, x35, x36, x37, x38, x39, x40, x41, x42, x43, x44, x45, x46, x47, x48, x49, x50, x51, x52, rfl⟩ := hI
    clear hmm
    obtain ⟨vB, vL, vM, hF⟩ := hAs.is
    have hbs := hAs.hs
    have hbD := hDk
    have htbk := hLp.work
    have htw : tb ≠ wk := fun e => by subst e; rw [hF.h] at htbk; cases htbk
    have hRw : w.heap.size ≠ wk := fun e => by have := hLp.res; rw [e, hF.h] at this; cases this
    have hRt : w.heap.size ≠ tb := fun e => by have := hLp.res; rw [e, htbk] at this; cases this
    have k0 := cell_of_row W tb 0 _ _ _ htbk
    by_cases c1 : i < 2
    · have i1 : (i : Int) < 2 := by omega
      obtain ⟨b, hb⟩ : ∃ b, b = decide (i = 1) := ⟨_, rfl⟩
      have hbc : W.cell? ⟨sb, i, none⟩ = some (.bool b) := by
        rw [cell_of_row W sb i _ _ _ hLp.bools, hb]
        rcases i with _ | _ | i
        · rfl
        · rfl
        · omega
      have hsbl := heap_ltA hLp.bools
      -- the pass's own world
      obtain ⟨W1, hW1⟩ : ∃ x, x = ((W.setCell ⟨wk, 1, none⟩ (.bool b)).setCell ⟨wk, 0, none⟩ (.int .i64 0)).drew := ⟨_, rfl⟩
      have hFa := hF.setAgain b
      have hFb := hFa.setAt 0
      have hF1 := hFb.drew
      have q1 : W.cell? ⟨wk, 1, none⟩ = some (.bool ag) := hF.cell 1
      have q2 := hF.frozen 1
      have q3 : W.cell? ⟨wk, 0, none⟩ = some (.int .i64 S.at') := hF.cell 0
      have q4 := hF.frozen 0
      have r1 := row_setOR (w := W) (b := tb) (c := wk) htbk htw 1 (.bool b)
      have r2 := row_setOR r1 htw 0 (.int .i64 0)
      have kT0 := Lib.hid (show W.drew.cell? ⟨tb, 0, none⟩ = some (.pointer (some ⟨wk, 0, none⟩)) from cell_of_row W.drew tb 0 _ _ _ htbk)
      have kT1 := Lib.hid (show (W.setCell ⟨wk, 1, none⟩ (.bool b)).drew.cell? ⟨tb, 0, none⟩ = some (.pointer (some ⟨wk, 0, none⟩)) from cell_of_row _ tb 0 _ _ _ r1)
      have kT2 := Lib.hid (show ((W.setCell ⟨wk, 1, none⟩ (.bool b)).setCell ⟨wk, 0, none⟩ (.int .i64 0)).drew.cell? ⟨tb, 0, none⟩ = some (.pointer (some ⟨wk, 0, none⟩)) from cell_of_row _ tb 0 _ _ _ r2)
      have hFr1 : Fr w.heap.size pb W W1 := by
        rw [hW1]
        exact ((Fr.setWk (.bool b) hF.h hF.le).trans (Fr.setWk (.int .i64 0) hFa.h hF.le)).trans (Fr.of_below (Below.refl _ _).drew (by simpa [World.setCell] using hbs))
      obtain ⟨es, cl, hpm⟩ := hF.pm.heap
      have hLp1 := hLp.fr hFr1 hpm
      have hA1 : AsOk w.heap.size wk pb ob b { S with at' := 0 } W1 := by
        rw [hW1] at hFr1 ⊢
        exact AsOk.of ⟨_, _, _, hF1⟩ (Nat.le_trans hbs hFr1.size) (stok0 hok) (by omega) (hAs.tab.on hFr1.below)
      have hDk1 : ∀ D ∈ Ds, w.heap.size ≤ D ∧ W1.heap[D]? = some (Obj.deferred (some [])) := fun D hD => ⟨(hDk D hD).1, hFr1.out _ _ (hDk D hD).2 trivial (fun e => by have := (hDk D hD).2; rw [e, hpm] at this; cases this)⟩
      have hsz1 : W1.heap.size = W.heap.size := by rw [hW1]; simp [World.setCell]
      have HH := Lib.hid (And.intro hLp1 (And.intro hA1 hDk1))
      have hok0 := Lib.hid (stok0 hok)
      have HSt := Lib.hid hst
      have HDD := Lib.hid (And.intro hDl hDp)
      have HBi := Lib.hid hb
      clear hb
      clear hbD hDk hDl hDp hst hok hLp1 hA1 hDk1 hFr1 hpm hLp hAs hF1 r1 r2 hi
      have hwkl := hF.lt
      clear hF hFa hFb
      go_wp2_with fail
      refine Code.wp_mono onlyQ_of ?_
      refine wp_region_held_drew (S := fun w' => w'.cell? ⟨tb, 0, none⟩ = some (.pointer (some ⟨wk, 0, none⟩))) (by kernel_rfl) kT0.out (fun hHeld => ?_)
      refine wpAnyH_take (i := 0) (oi := { dst := some 25, op := Op.load _ (Operand.tmp 5), type := _, pos := "asm.go:385", after := #[], guard := none }) (v := .pointer (some ⟨wk, 0, none⟩)) rfl (by kernel_rfl) (by kernel_rfl) (by kernel_rfl) (fun _ _ _ h => h) (Or.inl ⟨by rfl, ?_⟩) hHeld ?_
      · intro w' hSw
        have hc : w'.cell? ⟨tb, 0, none⟩ = some (.pointer (some ⟨wk, 0, none⟩)) := hSw
        go_simp
      try simp only [Act.put, List.setIfInBounds_toArray, List.set_cons_zero, List.set_cons_succ]
      refine wpAnyH_take (i := 1) (oi := { dst := some 26, op := Op.load _ (Operand.tmp 5), type := _, pos := "asm.go:385", after := #[{ on := 5, ground := Ground.gcOnly Departure.lateStores }], guard := none }) (v := .pointer (some ⟨wk, 0, none⟩)) rfl (by kernel_rfl) (by kernel_rfl) (by kernel_rfl) (fun _ _ _ h => h) (Or.inl ⟨by rfl, ?_⟩) hHeld ?_
      · intro w' hSw
        have hc : w'.cell? ⟨tb, 0, none⟩ = some (.pointer (some ⟨wk, 0, none⟩)) := hSw
        go_simp
      try simp only [Act.put, List.setIfInBounds_toArray, List.set_cons_zero, List.set_cons_succ]
      refine wpAnyH_take (i := 2) (oi := { dst := some 27, op := Op.move (Operand.tmp 7), type := _, pos := "asm.go:385", after := #[], guard := none }) (v := .bool b) rfl (by kernel_rfl) (by kernel_rfl) (by kernel_rfl) (fun _ _ _ h => h) (Or.inl ⟨by rfl, ?_⟩) hHeld ?_
      · intro w' hSw
        have hc : w'.cell? ⟨tb, 0, none⟩ = some (.pointer (some ⟨wk, 0, none⟩)) := hSw
        go_simp
      try simp only [Act.put, List.setIfInBounds_toArray, List.set_cons_zero, List.set_cons_succ]
      refine wpAnyH_take (i := 3) (oi := { dst := some 28, op := Op.nilCheck (Operand.tmp 25), type := _, pos := "asm.go:385", after := #[{ on := 0, ground := Ground.data }, { on := 0, ground := Ground.phase }, { on := 1, ground := Ground.textOnly Departure.lateStores }, { on := 2, ground := Ground.phase }], guard := none }) (v := .pointer (some ⟨wk, 0, none⟩)) rfl (by kernel_rfl) (by kernel_rfl) (by kernel_rfl) (fun _ _ _ h => h) (Or.inl ⟨by rfl, ?_⟩) hHeld ?_
      · intro w' hSw
        have hc : w'.cell? ⟨tb, 0, none⟩ = some (.pointer (some ⟨wk, 0, none⟩)) := hSw
        go_simp
      try simp only [Act.put, List.setIfInBounds_toArray, List.set_cons_zero, List.set_cons_succ]
      refine wpAnyH_take (i := 4) (oi := { dst := some 29, op := Op.fieldAddr _ (Operand.tmp 28) 1, type := _, pos := "asm.go:385", after := #[{ on := 3, ground := Ground.data }, { on := 0, ground := Ground.phase }, { on := 1, ground := Ground.textOnly Departure.lateStores }, { on := 2, ground := Ground.phase }], guard := none }) (v := .pointer (some ⟨wk, 1, none⟩)) rfl (by kernel_rfl) (by kernel_rfl) (by kernel_rfl) (fun _ _ _ h => h) (Or.inl ⟨by rfl, ?_⟩) hHeld ?_
      · intro w' hSw
        have hc : w'.cell? ⟨tb, 0, none⟩ = some (.pointer (some ⟨wk, 0, none⟩)) := hSw
        go_simp
      try simp only [Act.put, List.setIfInBounds_toArray, List.set_cons_zero, List.set_cons_succ]
      refine wpAnyH_ready (rs := [5]) (by kernel_rfl) (by simp) ?_
      refine AllReadyH.cons (o := { dst := none, op := Op.store _ (Operand.tmp 29) (Operand.tmp 27), type := _, pos := "asm.go:385", after := #[{ on := 4, ground := Ground.data }, { on := 2, ground := Ground.data }, { on := 0, ground := Ground.phase }, { on := 1, ground := Ground.textOnly Departure.lateStores }, { on := 2, ground := Ground.phase }], guard := none }) rfl (fun K hK => ?_) AllReadyH.nil
      go_simp
      refine hK.out _ _ (kT1.out) (fun hHeld => ?_)
      clear hK K
      try simp only [Act.put, List.setIfInBounds_toArray, List.set_cons_zero, List.set_cons_succ]
      refine wpAnyH_take (i := 6) (oi := { dst := some 30, op := Op.nilCheck (Operand.tmp 26), type := _, pos := "asm.go:385", after := #[{ on := 1, ground := Ground.data }, { on := 0, ground := Ground.phase }, { on := 1, ground := Ground.phase }, { on := 2, ground := Ground.phase }, { on := 3, ground := Ground.phase }, { on := 4, ground := Ground.phase }, { on := 5, ground := Ground.phase }], guard := none }) (v := .pointer (some ⟨wk, 0, none⟩)) rfl (by kernel_rfl) (by kernel_rfl) (by kernel_rfl) (fun _ _ _ h => h) (Or.inl ⟨by rfl, ?_⟩) hHeld ?_
      · intro w' hSw
        have hc : w'.cell? ⟨tb, 0, none⟩ = some (.pointer (some ⟨wk, 0, none⟩)) := hSw
        go_simp
      try simp only [Act.put, List.setIfInBounds_toArray, List.set_cons_zero, List.set_cons_succ]
      refine wpAnyH_take (i := 7) (oi := { dst := some 31, op := Op.fieldAddr _ (Operand.tmp 30) 0, type := _, pos := "asm.go:385", after := #[{ on := 6, ground := Ground.data }, { on := 0, ground := Ground.phase }, { on := 1, ground := Ground.phase }, { on := 2, ground := Ground.phase }, { on := 3, ground := Ground.phase }, { on := 4, ground := Ground.phase }, { on := 5, ground := Ground.phase }], guard := none }) (v := .pointer (some ⟨wk, 0, none⟩)) rfl (by kernel_rfl) (by kernel_rfl) (by kernel_rfl) (fun _ _ _ h => h) (Or.inl ⟨by rfl, ?_⟩) hHeld ?_
      · intro w' hSw
        have hc : w'.cell? ⟨tb, 0, none⟩ = some (.pointer (some ⟨wk, 0, none⟩)) := hSw
        go_simp
      try simp only [Act.put, List.setIfInBounds_toArray, List.set_cons_zero, List.set_cons_succ]
      refine wpAnyH_ready (rs := [8]) (by kernel_rfl) (by simp) ?_
      refine AllReadyH.cons (o := { dst := none, op := Op.store _ (Operand.tmp 31) (Operand.const (Value.int IntKind.i64 0)), type := _, pos := "asm.go:385", after := #[{ on := 7, ground := Ground.data }, { on := 5, ground := Ground.chain }, { on := 0, ground := Ground.phase }, { on := 1, ground := Ground.phase }, { on := 2, ground := Ground.phase }, { on := 3, ground := Ground.phase }, { on := 4, ground := Ground.phase }, { on := 5, ground := Ground.phase }], guard := none }) rfl (fun K hK => ?_) AllReadyH.nil
      go_simp
      refine hK.out _ _ (kT2.out) (fun hHeld => ?_)
      clear hK K
      try simp only [Act.put, List.setIfInBounds_toArray, List.set_cons_zero, List.set_cons_succ]
      refine wpAnyH_done (by kernel_rfl) ?_ _
      dsimp only [OnlyQ]
      rw [← hW1]
      clear hW1 kT0 kT1 kT2 q1 q2 q3 q4 hHeld
      go_wp2_with fail
      refine (HLi.out _).mono ?_
      rintro e w3 ⟨rfl, rfl⟩
      go_wp2_with fail
      refine (wpIn_wide (n := n)).1 ?_
      obtain ⟨Wl, hWl⟩ : ∃ x, x = ((W1.alloc (.cells #[.int .i64 0] 3)).alloc (.cells #[.int .i64 0] 28)).alloc (.cells #[.string s] 9) := ⟨_, rfl⟩
      rw [← hWl]
      have hbl : Below W1.heap.size W1 Wl := by rw [hWl]; exact (((Below.refl _ W1).alloc (Nat.le_refl _) _).alloc (by simp) _).alloc (by simp; omega) _
      have hszl : Wl.heap.size = W.heap.size + 3 := by rw [hWl]; simp; omega
      obtain ⟨hLp1, hA1, hDk1⟩ := HH.out
      have hAl := hA1.below hbl
      have hLpl := hLp1.belowW hbl hA1.hs
      have hDkl : ∀ D ∈ Ds, w.heap.size ≤ D ∧ Wl.heap[D]? = some (Obj.deferred (some [])) := fun D hD => ⟨(hDk1 D hD).1, (hbl.block _ (heap_ltA (hDk1 D hD).2)).trans (hDk1 D hD).2⟩
      have hbb : Wl.heap[W.heap.size]? = some (.cells #[.int .i64 0] 3 (0, 0)) := by rw [hWl]; exact heap_oldT (heap_oldT (heap_newT hsz1.symm))
      have hyb : Wl.heap[W.heap.size + 1]? = some (.cells #[.int .i64 0] 28 (0, 0)) := by rw [hWl]; exact heap_oldT (heap_newT (by simp; omega))
      have hqb : Wl.heap[W.heap.size + 1 + 1]? = some (strC L) := by
        unfold strC
        rw [HS.out, hWl]
        exact heap_newT (by simp; omega)
      have hbs := hAl.hs
      obtain ⟨⟨es, cl, hpm⟩, hpbl, hobl⟩ := hAl.pm_heap
      have hlen := lines_lenZ L HLF.out
      have hwrd := lines_words L hLs
      have hok1 := hok0.out
      obtain ⟨S0, hS0⟩ : ∃ x, x = { S with at' := 0 } := ⟨_, rfl⟩
      rw [← hS0] at hAl hok1
      have H0 := Lib.hid hS0
      clear hS0 hWl hbl hLp1 hA1 hDk1 HH hok0 hsz1 HLi
      generalize W.heap.size + 1 + 1 = qb at hqb ⊢
      obtain ⟨yb, hyb'⟩ : ∃ x, x = W.heap.size + 1 := ⟨_, rfl⟩
      obtain ⟨bb, hbb'⟩ : ∃ x, x = W.heap.size := ⟨_, rfl⟩
      rw [← hyb'] at hyb ⊢
      rw [← hbb'] at hbb ⊢
      have hby : bb ≠ yb := by omega
      have hbD0 : ∀ (k : Nat) {o : Obj}, Wl.heap[k]? = some o → k = bb ∨ k = yb → w.heap.size ≤ k := fun k o _ h => by omega
      have hbR : w.heap.size ≠ bb := fun e => by have := hLpl.res; rw [e, hbb] at this; cases this
      have hyR : w.heap.size ≠ yb := fun e => by have := hLpl.res; rw [e, hyb] at this; cases this
      clear hyb' hbb' hszl hbc hsbl k0 htbk hwkl hRt hRw htw
      refine rangeOwnA (F := Fence.wide) rfl h1 (gf := 26) (lb := #[.pointer (some ⟨qb, 0, none⟩)]) rfl trivial (enters_of Tryz.func26 (by kernel_rfl) rfl)
        (encs := lnE) (Ts := TsS) (B := Wl.heap.size) (Ok := OkL L) (S := fun xs => xs.map LnE.ws = linesF L) (Sp := fun pre => ∃ r, pre.map LnE.ws ++ r = linesF L) (w0 := Wl) ?hit (Below.refl _ _) (fun _ => rfl) ?ok
        (PassI w.heap.size wk pb ob b S0 (i * 1100) Wl) (PassX w.heap.size w.heap.size bb yb b S0 Wl) (passI_own hbs hpbl hobl) (passI_stb hbs) (passX_own hbs) ?init (AxZ tb bb yb) ?ax ?okB ?assign ?body ?done ?stop
      case hit =>
        intro l2 J2 Jx2 W' hb hst hO hOx hY2 h02
        exact lines1_in (n - 1) (by omega) l2 qb Wl.heap.size L hLs W' J2 Jx2 hst hO hOx hY2 ((hb.block _ (heap_ltA hqb)).trans hqb) hb.size h02
      case ok => exact fun pre x W' l o o' h h1 h2 => h.put o' h1 h2
      case init => exact ⟨S0, rfl, hok1, hAl, Fr.refl _ _ _⟩
      case ax =>
        rintro x a' W' l o o' ⟨lb, hlb, hex⟩ hl ho
        refine ⟨lb, (World.putObj_heap_other (fun e => ?_)).trans hlb, hex⟩
        rw [← show lb = l by omega, hlb] at hl
        cases hl
        cases ho
      case okB => exact fun pre x W' W'' h hb => ⟨h.1.below hb, h.2⟩
      case assign =>
        intro l2 x W' K hK
        simp only [lnE, lnV]
        gi_wp2
        exact hK _ _ ((Below.refl _ _).alloc (Nat.le_refl _) _) ⟨W'.heap.size, heap_newT rfl, _, _, _, _, _, _, _, _, _, _, _, _, _, _, _, _, _, _, _, _, _, _, _, _, _, _, _, _, _, _, _, _, _, _, _, _, _, _, _, _, _, _, _, _, _, _, _, _, _, rfl⟩
      case body =>
        rintro l2 pre x a' Wc ⟨T, hp, hok', hA, hFr⟩ ⟨hln, hxn, r, hr⟩ ⟨lb, hlb, y0, y1, y2, y3, y4, y6, y7, y11, y12, y13, y14, y15, y16, y17, y18, y19, y20, y21, y22, y23, y24, y25, y26, y27, y28, y29, y30, y31, y32, y33, y34, y35, y36, y37, y38, y39, y40, y41, y42, y43, y44, y45, y46, y47, y48, y49, y50, y51, y52, rfl⟩
        obtain ⟨⟨es2, cl2, hpc⟩, -, -⟩ := hA.pm_heap
        have hw := hwrd x.ws (by rw [← hr]; simp)
        have hi' : i < 2 := c1
        have hpl : pre.length + 1 ≤ 513 := by have := congrArg List.length hr; simp at this; omega
        have HD := CallsIn.inRound l2 ((callsIn_wide (n := n - 1 - 1 - 1)).2 (do_c w.heap.size wk pb ob b T x.n x.ao x.cap x.ws Wc hA hln (by omega) (by have := hok'.ll; omega)))
        obtain ⟨hl1, hl2⟩ := pass_line (base := 0) (wk := 0) (pb := 0) (ob := 0) (K0 := 0) (Wl := w) (W := w) hp hxn
        obtain ⟨hd1, hd2⟩ := doF_both (again := b) (n := x.n) (ws := x.ws) hok'
        have hLpc := hLpl.fr hFr hpm
        have hbbc := hFr.out _ _ hbb (by simp [OutO]) (fun e => by rw [e, hpm] at hbb; cases hbb)
        have hybc := hFr.out _ _ hyb (by simp [OutO]) (fun e => by rw [e, hpm] at hyb; cases hyb)
        have k1 := cell_of_row Wc tb 0 _ _ _ hLpc.work
        have k2 := cell_of_row Wc lb 0 _ _ _ hlb
        have k3 := cell_of_row Wc lb 1 _ _ _ hlb
        unfold lnV at HD
        obtain ⟨xn, xa, xw, xc⟩ := x
        simp only at HD hl1 hl2 hd1 hd2 k2 k3 hlb hxn
        generalize doF b T xn xw = RD at HD hl1 hl2 hd1 hd2
        have HDh := Lib.hid HD
        have HLb := Lib.hid hlb
        have HL := Lib.hid (And.intro hl1 (And.intro hl2 (And.intro hd1 hd2)))
        have HA := Lib.hid (And.intro hA (And.intro hFr (And.intro hpc (And.intro hLpc (And.intro hbbc hybc)))))
        have HW := Lib.hid (And.intro hbb (And.intro hyb (And.intro hpm hpbl)))
        have Hby := Lib.hid hby
        have HbR := Lib.hid (And.intro hbR hyR)
        have Hpl := Lib.hid hpl
        have Hil := Lib.hid hi'
        clear HD hlb hl1 hl2 hd1 hd2 hA hFr hpc hLpc hbbc hybc hbb hyb hpm hpbl hp hok' hln hxn hr hw hpl hwrd hlen hDkl hLpl hAl hok1 hby hbR hyR hobl hqb i1 hi'
        simp only [lnE]
        gi_wp2
        refine ⟨trivial, fun _ => by omega, HDh.out.mono ?_⟩
        rintro e w4 ⟨hf, hm⟩
        obtain ⟨hl1, hl2, hd1, hd2⟩ := HL.out
        obtain ⟨hA, hFr, hpc, hLpc, hbbc, hybc⟩ := HA.out
        obtain ⟨hbb, hyb, hpm, hpbl⟩ := HW.out
        rcases RD with er | U
        · obtain rfl := hm
          have hne := hd2 er rfl
          have hneb : (er != 0) = true := by simpa using hne
          have b4 := hf.out _ _ hbbc (by simp [OutO]) (fun e => by rw [e, hpc] at hbbc; cases hbbc)
          have y4 := hf.out _ _ hybc (by simp [OutO]) (fun e => by rw [e, hpc] at hybc; cases hybc)
          have hlb := HLb.out
          have l4 := hf.out _ _ hlb (by simp [OutO]) (fun e => by rw [e, hpc] at hlb; cases hlb)
          have m1 := cell_of_row w4 lb 0 _ _ _ l4
          have m2 := cell_of_row w4 bb 0 _ _ _ b4
          have m3 := frozen_of_row w4 bb 0 _ _ b4
          have m4 := cell_of_row w4 yb 0 _ _ _ y4
          have m5 := frozen_of_row w4 yb 0 _ _ y4
          have hLp4 := hLpc.fr hf hpc
          have hby := Hby.out
          obtain ⟨hbR, hyR⟩ := HbR.out
          have hn1 : ¬ yb = bb := fun e => hby e.symm
          have hn2 : ¬ bb = yb := hby
          have hK4 : KeepsFrom Wl.heap.size Wc ((w4.setCell ⟨bb, 0, none⟩ (.int .i64 xn)).setCell ⟨yb, 0, none⟩ (.int .i64 er)) :=
            ((KeepsFrom.of_fr hf hpbl).trans (KeepsFrom.set b4)).trans (KeepsFrom.set (row_setOR y4 (Ne.symm hby) 0 (.int .i64 xn)))
          have hE4 : PassE w.heap.size w.heap.size bb yb b S0 Wl xn er ((w4.setCell ⟨bb, 0, none⟩ (.int .i64 xn)).setCell ⟨yb, 0, none⟩ (.int .i64 er)) := by
            refine ⟨?_, ?_, row_setOR (row_setOR hLp4.res hbR _ _) hyR _ _, ?_, fun D hD => ?_⟩
            · exact row_setOR (row_setR b4 0 (.int .i64 xn)) hby 0 (.int .i64 er)
            · exact row_setR (row_setOR y4 (Ne.symm hby) 0 (.int .i64 xn)) 0 (.int .i64 er)
            · have hbb0 := hbD0 bb hbb (.inl rfl)
              have hyb0 := hbD0 yb hyb (.inr rfl)
              exact ((hFr.below.trans hf.below).setCell (p := ⟨bb, 0, none⟩) hbb0 _).setCell (p := ⟨yb, 0, none⟩) hyb0 _
            · have hD2 := hFr.out D _ hD trivial (fun e => by rw [e, hpm] at hD; cases hD)
              have hD1 := hf.out D _ hD2 trivial (fun e => by rw [e, hpc] at hD2; cases hD2)
              exact row_setOR (row_setOR hD1 (fun e => by rw [e, b4] at hD1; cases hD1) _ _) (fun e => by rw [e, y4] at hD1; cases hD1) _ _
          have HK4 := Lib.hid hK4
          have HE4 := Lib.hid hE4
          have hl2' := Lib.hid (hl2 er rfl)
          have hne' := Lib.hid hne
          clear hK4 hE4 hl1 hl2 hd1 hd2 hne hA hFr hpc hLpc hbbc hybc hbb hyb hpm hpbl b4 y4 l4 hlb hLp4 hby hbR hyR hf hbD0
          gi_wp2
          exact ⟨HK4.out, rfl, xn, er, hl2'.out, hne'.out, HE4.out⟩
        · obtain ⟨rfl, hAs⟩ := hm
          have hU2 := hd1 U rfl
          have hpl := Hpl.out
          have hil := Hil.out
          have hKp : KpT TsS Wl.heap.size Wc w4 := KpT.of_fr hf hpc
          have hPI : PassI w.heap.size wk pb ob b S0 (i * 1100) Wl (pre ++ [⟨xn, xa, xw, xc⟩]) w4 :=
            ⟨U, hl1 U rfl, hU2.more (by simp; omega), AsOk.of hAs (Nat.le_trans hA.hs hf.size) hU2 (by omega) (hA.tab.on hf.below), hFr.trans hf⟩
          have HP := Lib.hid (And.intro (KeepsFrom.of_fr (D := Wl.heap.size) hf hpbl) (And.intro hKp hPI))
          clear hl1 hl2 hd1 hd2 hAs hA hFr hpc hLpc hbbc hybc hbb hyb hpm hpbl hU2 hKp hPI hpl hil hf hbD0
          gi_wp2
          exact HP.out
      case done =>
        rintro D xs W' hD hS ⟨T, hp, hok', hA', hFr⟩ hK
        rw [hS] at hp
        have hyc := hFr.out _ _ hyb (by simp [OutO]) (fun e => by rw [e, hpm] at hyb; cases hyb)
        have k1 := cell_of_row W' yb 0 _ _ _ hyc
        have hLp' := hLpl.fr hFr hpm
        have hlx : xs.length ≤ 513 := by have := congrArg List.length hS; simp at this; omega
        have hok2 : StOk T ((i + 1) * 1100) := hok'.more (by omega)
        have hst2 := stg_next HLF.out c1 HSt.out (T := T) (by rw [← HBi.out, ← H0.out]; exact hp)
        have hDs : ∀ E ∈ D :: Ds, w.heap.size ≤ E ∧ W'.heap[E]? = some (Obj.deferred (some [])) := fun E hE => by
          rcases List.mem_cons.1 hE with rfl | hE
          · exact ⟨by omega, hK⟩
          · have h2 := (hDkl E hE).2
            exact ⟨(hDkl E hE).1, hFr.out E _ h2 trivial (fun e => by rw [e, hpm] at h2; cases h2)⟩
        have hDn : (D :: Ds).Pairwise (· ≠ ·) := List.pairwise_cons.2 ⟨fun E hE e => by have := heap_ltA (hDkl E hE).2; omega, HDD.out.2⟩
        have HF := Lib.hid (And.intro hst2 (And.intro hok2 (And.intro hA' (And.intro hLp' (And.intro hDn hDs)))))
        have HDl := HDD.out.1
        clear hst2 hok2 hok' hA' hLp' hDn hDs hp hFr hyc hS hK hDkl hLpl hAl
        go_wp2_with fail
        obtain ⟨g1, g2, g3, g4, g5, g6⟩ := HF.out
        exact ⟨c1, T, b, D :: Ds, by omega, g1, g2, g3, g4, by simp [HDl], g5, g6, _, _, _, _, _, _, _, _, _, _, _, _, _, _, _, _, _, _, _, _, _, _, _, _, _, _, _, _, _, _, _, _, _, _, _, _, _, _, _, _, _, _, _, _, _, rfl⟩
      case stop =>
        rintro D c pre W' hD ⟨r, hr⟩ ⟨rfl, ln, er, hlaw, hne, hE⟩ hK
        have hR : asmF L = .error (ln, er) := stg_bad HLF.out c1 HSt.out (by rw [← HBi.out, ← H0.out, ← hr]; exact hlaw r)
        have hneb : (er != 0) = true := by simpa using hne
        have k1 := cell_of_row W' yb 0 _ _ _ hE.why
        gi_wp2
        have e1 := cell_of_row W' bb 0 _ _ _ hE.bad
        have e2 := cell_of_row W' w.heap.size 0 _ _ _ hE.res
        have e3 := cell_of_row W' w.heap.size 1 _ _ _ hE.res
        have e4 := cell_of_row W' w.heap.size 2 _ _ _ hE.res
        have e5 := frozen_of_row W' w.heap.size 0 _ _ hE.res
        have e6 := frozen_of_row W' w.heap.size 1 _ _ hE.res
        have e7 := frozen_of_row W' w.heap.size 2 _ _ hE.res
        obtain ⟨W5, hW5⟩ : ∃ x, x = (((W'.setCell ⟨w.heap.size, 0, none⟩ (.slice none 0 0)).setCell ⟨w.heap.size, 1, none⟩ (.slice none 0 0)).setCell ⟨w.heap.size, 2, none⟩ (.slice none 0 0)).drew := ⟨_, rfl⟩
        have hb5 : W5.heap[bb]? = some (.cells #[.int .i64 ln] 3 (0, 0)) := by rw [hW5]; exact row_setOR (row_setOR (row_setOR hE.bad (Ne.symm hbR) _ _) (Ne.symm hbR) _ _) (Ne.symm hbR) _ _
        have hy5 : W5.heap[yb]? = some (.cells #[.int .i64 er] 28 (0, 0)) := by rw [hW5]; exact row_setOR (row_setOR (row_setOR hE.why (Ne.symm hyR) _ _) (Ne.symm hyR) _ _) (Ne.symm hyR) _ _
        have hR5 : W5.heap[w.heap.size]? = some (.cells zPr 27 (0, 0)) := by
          rw [hW5]
          exact row_setR (row_setR (row_setR hE.res 0 (.slice none 0 0)) 1 (.slice none 0 0)) 2 (.slice none 0 0)
        have hB5 : Below w.heap.size w W5 := by
          rw [hW5]
          exact ((((hLpl.below.trans hE.below).setCell (p := ⟨w.heap.size, 0, none⟩) (Nat.le_refl _) _).setCell (p := ⟨w.heap.size, 1, none⟩) (Nat.le_refl _) _).setCell (p := ⟨w.heap.size, 2, none⟩) (Nat.le_refl _) _).drew
        have hDs5 : ∀ E ∈ D :: Ds, w.heap.size ≤ E ∧ W5.heap[E]? = some (Obj.deferred (some [])) := fun E hE' => by
          have h2 : w.heap.size ≤ E ∧ W'.heap[E]? = some (Obj.deferred (some [])) := by
            rcases List.mem_cons.1 hE' with rfl | hE'
            · exact ⟨by omega, hK⟩
            · exact ⟨(hDkl E hE').1, hE.defs E (hDkl E hE').2⟩
          have hne : E ≠ w.heap.size := fun e => by have h3 := h2.2; rw [e, hE.res] at h3; cases h3
          rw [hW5]
          exact ⟨h2.1, row_setOR (row_setOR (row_setOR h2.2 hne _ _) hne _ _) hne _ _⟩
        have hDn : (D :: Ds).Pairwise (· ≠ ·) := List.pairwise_cons.2 ⟨fun E hE e => by have := heap_ltA (hDkl E hE).2; omega, HDD.out.2⟩
        have kE3 := Lib.hid (show W5.cell? ⟨bb, 0, none⟩ = some (.int .i64 ln) ∧ W5.cell? ⟨yb, 0, none⟩ = some (.int .i64 er) from ⟨cell_of_row W5 bb 0 _ _ _ hb5, cell_of_row W5 yb 0 _ _ _ hy5⟩)
        rw [hW5] at kE3
        have kE0 := Lib.hid (show W'.drew.cell? ⟨bb, 0, none⟩ = some (.int .i64 ln) ∧ W'.drew.cell? ⟨yb, 0, none⟩ = some (.int .i64 er) from ⟨e1, k1⟩)
        have HX := Lib.hid (And.intro hR (And.intro hR5 (And.intro hB5 (And.intro hDs5 hDn))))
        clear hR hR5 hB5 hDs5 hDn hb5 hy5 hE hK hlaw hLpl hAl hDkl
        go_wp2_with fail
        refine Code.wp_mono onlyQ_of ?_
        refine wp_region_held_drew (S := fun w' => w'.cell? ⟨bb, 0, none⟩ = some (.int .i64 ln) ∧ w'.cell? ⟨yb, 0, none⟩ = some (.int .i64 er)) (by kernel_rfl) kE0.out (fun hHeld => ?_)
        refine wpAnyH_take (i := 0) (oi := { dst := some 45, op := Op.build _ #[], type := _, pos := "asm.go:394", after := #[], guard := none }) (v := .agg #[.slice none 0 0, .slice none 0 0, .slice none 0 0]) rfl (by kernel_rfl) (by kernel_rfl) (by kernel_rfl) (fun _ _ _ h => h) (Or.inl ⟨by rfl, ?_⟩) hHeld ?_
        · intro w' hSw
          have hc1 : w'.cell? ⟨bb, 0, none⟩ = some (.int .i64 ln) := hSw.1
          have hc2 : w'.cell? ⟨yb, 0, none⟩ = some (.int .i64 er) := hSw.2
          go_simp
        try simp only [Act.put, List.setIfInBounds_toArray, List.set_cons_zero, List.set_cons_succ]
        refine wpAnyH_take (i := 1) (oi := { dst := some 46, op := Op.load _ (Operand.tmp 8), type := _, pos := "asm.go:394", after := #[{ on := 3, ground := Ground.gcOnly Departure.lateStores }], guard := none }) (v := .int .i64 ln) rfl (by kernel_rfl) (by kernel_rfl) (by kernel_rfl) (fun _ _ _ h => h) (Or.inl ⟨by rfl, ?_⟩) hHeld ?_
        · intro w' hSw
          have hc1 : w'.cell? ⟨bb, 0, none⟩ = some (.int .i64 ln) := hSw.1
          have hc2 : w'.cell? ⟨yb, 0, none⟩ = some (.int .i64 er) := hSw.2
          go_simp
        try simp only [Act.put, List.setIfInBounds_toArray, List.set_cons_zero, List.set_cons_succ]
        refine wpAnyH_take (i := 2) (oi := { dst := some 47, op := Op.load _ (Operand.tmp 9), type := _, pos := "asm.go:394", after := #[{ on := 4, ground := Ground.gcOnly Departure.lateStores }], guard := none }) (v := .int .i64 er) rfl (by kernel_rfl) (by kernel_rfl) (by kernel_rfl) (fun _ _ _ h => h) (Or.inl ⟨by rfl, ?_⟩) hHeld ?_
        · intro w' hSw
          have hc1 : w'.cell? ⟨bb, 0, none⟩ = some (.int .i64 ln) := hSw.1
          have hc2 : w'.cell? ⟨yb, 0, none⟩ = some (.int .i64 er) := hSw.2
          go_simp
        try simp only [Act.put, List.setIfInBounds_toArray, List.set_cons_zero, List.set_cons_succ]
        refine wpAnyH_ready (rs := [3]) (by kernel_rfl) (by simp) ?_
        refine AllReadyH.cons (o := { dst := none, op := Op.store _ (Operand.tmp 2) (Operand.tmp 45), type := _, pos := "asm.go:394", after := #[{ on := 0, ground := Ground.data }, { on := 0, ground := Ground.phase }, { on := 1, ground := Ground.textOnly Departure.lateStores }, { on := 2, ground := Ground.textOnly Departure.lateStores }], guard := none }) rfl (fun K hK => ?_) AllReadyH.nil
        go_simp
        refine hK.out _ _ kE3.out (fun hHeld => ?_)
        clear hK K
        try simp only [Act.put, List.setIfInBounds_toArray, List.set_cons_zero, List.set_cons_succ]
        refine wpAnyH_take (i := 4) (oi := { dst := some 3, op := Op.assign (Operand.tmp 46), type := _, pos := "asm.go:394", after := #[{ on := 1, ground := Ground.data }, { on := 3, ground := Ground.chain }, { on := 0, ground := Ground.phase }, { on := 1, ground := Ground.phase }, { on := 2, ground := Ground.textOnly Departure.lateStores }, { on := 3, ground := Ground.phase }], guard := none }) (v := .int .i64 ln) rfl (by kernel_rfl) (by kernel_rfl) (by kernel_rfl) (fun _ _ _ h => h) (Or.inl ⟨by rfl, ?_⟩) hHeld ?_
        · intro w' hSw
          have hc1 : w'.cell? ⟨bb, 0, none⟩ = some (.int .i64 ln) := hSw.1
          have hc2 : w'.cell? ⟨yb, 0, none⟩ = some (.int .i64 er) := hSw.2
          go_simp
        try simp only [Act.put, List.setIfInBounds_toArray, List.set_cons_zero, List.set_cons_succ]
        refine wpAnyH_take (i := 5) (oi := { dst := some 4, op := Op.assign (Operand.tmp 47), type := _, pos := "asm.go:394", after := #[{ on := 2, ground := Ground.data }, { on := 4, ground := Ground.chain }, { on := 0, ground := Ground.phase }, { on := 1, ground := Ground.phase }, { on := 2, ground := Ground.phase }, { on := 3, ground := Ground.phase }, { on := 4, ground := Ground.phase }], guard := none }) (v := .int .i64 er) rfl (by kernel_rfl) (by kernel_rfl) (by kernel_rfl) (fun _ _ _ h => h) (Or.inl ⟨by rfl, ?_⟩) hHeld ?_
        · intro w' hSw
          have hc1 : w'.cell? ⟨bb, 0, none⟩ = some (.int .i64 ln) := hSw.1
          have hc2 : w'.cell? ⟨yb, 0, none⟩ = some (.int .i64 er) := hSw.2
          go_simp
        try simp only [Act.put, List.setIfInBounds_toArray, List.set_cons_zero, List.set_cons_succ]
        refine wpAnyH_done (by kernel_rfl) ?_ _
        dsimp only [OnlyQ]
        rw [← hW5]
        clear hW5 kE3 kE0 e1 e2 e3 e4 e5 e6 e7
        go_wp2_with fail
        obtain ⟨g1, g2, g3, g4, g5⟩ := HX.out
        refine leaves_marks (base := w.heap.size) (D :: Ds) W5 g5 g4 (fun W6 hB6 hk6 => ?_)
        have hRn : w.heap.size ∉ D :: Ds := fun h => by have h3 := (g4 _ h).2; rw [g2] at h3; cases h3
        have hR6 := (hk6 _ hRn).trans g2
        have n0 := cell_of_row W6 w.heap.size 0 _ _ _ hR6
        have n1 := cell_of_row W6 w.heap.size 1 _ _ _ hR6
        have n2 := cell_of_row W6 w.heap.size 2 _ _ _ hR6
        rw [g1]
        refine ⟨.tuple #[.agg zPr, .int .i64 ln, .int .i64 er], ?_, g3.trans hB6, rfl⟩
        simp [results, Tryz.f6, go_sem, n0, n1, n2]
    · have hi2 : i = 2 := by omega
      subst hi2
      obtain ⟨aB, cB, rfl⟩ := own_sliceA hF.bs
      obtain ⟨aL, cL, rfl⟩ := own_sliceA hF.ls
      obtain ⟨aM, cM, rfl⟩ := own_sliceA hF.ms
      have hst : asmF L = .ok S := hst
      have m4 : W.cell? ⟨wk, 4, none⟩ = some (.slice aB S.bytes.length cB) := hF.cell 4
      have m5 : W.cell? ⟨wk, 5, none⟩ = some (.slice aL S.labels.length cL) := hF.cell 5
      have m6 : W.cell? ⟨wk, 6, none⟩ = some (.slice aM S.marks.length cM) := hF.cell 6
      have e2 := cell_of_row W w.heap.size 0 _ _ _ hLp.res
      have e3 := cell_of_row W w.heap.size 1 _ _ _ hLp.res
      have e4 := cell_of_row W w.heap.size 2 _ _ _ hLp.res
      have e5 := frozen_of_row W w.heap.size 0 _ _ hLp.res
      have e6 := frozen_of_row W w.heap.size 1 _ _ hLp.res
      have e7 := frozen_of_row W w.heap.size 2 _ _ hLp.res
      obtain ⟨W5, hW5⟩ : ∃ x, x = (((W.setCell ⟨w.heap.size, 0, none⟩ (.slice aB S.bytes.length cB)).setCell ⟨w.heap.size, 1, none⟩ (.slice aL S.labels.length cL)).setCell ⟨w.heap.size, 2, none⟩ (.slice aM S.marks.length cM)) := ⟨_, rfl⟩
      have hR5 : W5.heap[w.heap.size]? = some (.cells #[(.slice aB S.bytes.length cB), (.slice aL S.labels.length cL), (.slice aM S.marks.length cM)] 27 (0, 0)) := by
        rw [hW5]
        exact row_setR (row_setR (row_setR hLp.res 0 (.slice aB S.bytes.length cB)) 1 (.slice aL S.labels.length cL)) 2 (.slice aM S.marks.length cM)
      have hB5 : Below w.heap.size w W5 := by
        rw [hW5]
        exact (((hLp.below).setCell (p := ⟨w.heap.size, 0, none⟩) (Nat.le_refl _) _).setCell (p := ⟨w.heap.size, 1, none⟩) (Nat.le_refl _) _).setCell (p := ⟨w.heap.size, 2, none⟩) (Nat.le_refl _) _
      have hO5 : ∀ k o, k ≠ w.heap.size → W.heap[k]? = some o → W5.heap[k]? = some o := fun k o hne h => by
        rw [hW5]
        exact row_setOR (row_setOR (row_setOR h hne _ _) hne _ _) hne _ _
      have hDs5 : ∀ E ∈ Ds, w.heap.size ≤ E ∧ W5.heap[E]? = some (Obj.deferred (some [])) := fun E hE =>
        ⟨(hDk E hE).1, hO5 E _ (fun e => by have h3 := (hDk E hE).2; rw [e, hLp.res] at h3; cases h3) (hDk E hE).2⟩
      have hrow : ∀ (e : TypeId) (sz m : Nat) (v : Value) (xs : List Value), 27 ≠ e → W.ownsRow w.heap.size e sz v m xs → ∀ W6 : World, (∀ k, k ∉ Ds → W6.heap[k]? = W5.heap[k]?) → W6.ownsRow w.heap.size e sz v m xs := fun e sz m v xs hte h W6 hk => by
        refine own_keepA h (fun g cur hg => ?_)
        rw [hk g (fun hm => by have h3 := (hDk g hm).2; rw [hg] at h3; cases h3), hO5 g _ (fun e => by rw [e, hLp.res] at hg; cases hg; exact hte rfl) hg, hg]
      have HX := Lib.hid (And.intro hst (And.intro hR5 (And.intro hB5 (And.intro hDs5 hDp))))
      have HR := Lib.hid hrow
      have HBs := Lib.hid (And.intro hF.bs (And.intro hF.ls hF.ms))
      clear hst hR5 hB5 hDs5 hDp hO5 hrow hLp hAs hF hok hDk hbD htbk htw hRw hRt HLi hi
      go_wp2_with fail
      rw [← hW5]
      obtain ⟨g1, g2, g3, g4, g5⟩ := HX.out
      refine leaves_marks (base := w.heap.size) Ds W5 g5 g4 (fun W6 hB6 hk6 => ?_)
      have hRn : w.heap.size ∉ Ds := fun h => by have h3 := (g4 _ h).2; rw [g2] at h3; cases h3
      have hR6 := (hk6 _ hRn).trans g2
      have n0 := cell_of_row W6 w.heap.size 0 _ _ _ hR6
      have n1 := cell_of_row W6 w.heap.size 1 _ _ _ hR6
      have n2 := cell_of_row W6 w.heap.size 2 _ _ _ hR6
      obtain ⟨o1, o2, o3⟩ := HBs.out
      rw [g1]
      refine ⟨.tuple #[.agg #[(.slice aB S.bytes.length cB), (.slice aL S.labels.length cL), (.slice aM S.marks.length cM)], .int .i64 0, .int .i64 0], ?_, g3.trans hB6, (.slice aB S.bytes.length cB), (.slice aL S.labels.length cL), (.slice aM S.marks.length cM), rfl, HR.out _ _ _ _ _ (by decide) o1 W6 hk6, HR.out _ _ _ _ _ (by decide) o2 W6 hk6, HR.out _ _ _ _ _ (by decide) o3 W6 hk6⟩
      simp [results, Tryz.f6, go_sem, n0, n1, n2]
end Go.Proofs.YtnoeeediicaooaaGreatDoor
namespace Go.Proofs.YtnoeeediicaooaaGreatDoor
open Go.RowKit
set_option linter.unusedSimpArgs false
set_option linter.unusedVariables false

/-- What one line's step does to a text's places. -/
structure Stp (again : Bool) (S T : St) (n : Int) : Prop where
  le : S.at' ≤ T.at'
  labels : T.labels = S.labels
  long : again = true → T.at'.toNat ≤ T.bytes.length
  first : again = false → T.bytes = S.bytes ∧ T.marks = S.marks
  marks : T.marks = S.marks ∨ T.marks = S.marks ++ [(S.at', n)]
theorem toF_stp {again : Bool} {S T : St} {n t : Int} (h : S.at' ≤ t) (hT : toF again S t = .ok T) : Stp again S T n ∧ T.at' = t := by
  unfold toF at hT
  split at hT
  · cases hT
  · cases hT
    refine ⟨⟨h, rfl, fun ha => ?_, fun ha => ⟨by simp [ha], rfl⟩, .inl rfl⟩, rfl⟩
    simp only [ha, if_true]
    simp
    omega
theorem layF_stp {again : Bool} {S T : St} {n : Int} {b : List Int} (h0 : 0 ≤ S.at') (hT : layF again S n b = .ok T) : Stp again S T n ∧ T.at' = S.at' + (b.length : Int) := by
  unfold layF at hT
  cases hq : toF again S (S.at' + (b.length : Int)) with
  | error e => rw [hq] at hT; cases hT
  | ok U =>
    rw [hq] at hT
    obtain ⟨hU, hat⟩ := toF_stp (n := n) (by omega) hq
    cases again
    · cases hT
      exact ⟨hU, hat⟩
    · cases hT
      have hl := hU.long rfl
      refine ⟨⟨hU.le, hU.labels, fun _ => ?_, (fun h => by cases h), .inr ?_⟩, hat⟩
      · show U.at'.toNat ≤ (over U.bytes S.at'.toNat b).length
        rw [over_lenY _ _ _ (by omega)]
        exact hl
      · show U.marks ++ [(S.at', n)] = S.marks ++ [(S.at', n)]
        unfold toF at hq
        split at hq
        · cases hq
        · cases hq; rfl
theorem fmn6 (op : Int) : 0 ≤ (Isa.fm op false).n ∧ (Isa.fm op false).n ≤ 6 := by rcases Isa.fm_is op false with h | h | h | h | h | h | h | h | h | h <;> rw [h] <;> decide
theorem instrF_stp {again : Bool} {S T : St} {n : Int} {ws : List Wd} {op : Int} {k : Nat} (h : StOk S k) (hT : instrF again S n ws op = .ok T) : Stp again S T n := by
  have hs6 := fmn6 op
  unfold instrF at hT
  split at hT
  · rename_i ha
    subst ha
    exact (toF_stp (by omega) hT).1
  · cases hn : namedF S ws op with
    | error e => rw [hn] at hT; cases hT
    | ok l =>
      rw [hn] at hT
      simp only at hT
      cases hr : readF (joinF l) with
      | error e => rw [hr] at hT; cases hT
      | ok t =>
        obtain ⟨o, a, b, i⟩ := t
        rw [hr] at hT
        cases again
        · contradiction
        · exact (layF_stp h.a0 hT).1
theorem align_le {a v : Int} (h0 : 0 ≤ a) (h1 : 1 ≤ v) : a ≤ (a + v - 1) / v * v := by
  have h2 := Int.emod_add_mul_ediv (a + v - 1) v
  have h3 := Int.emod_lt_of_pos (a + v - 1) (show 0 < v by omega)
  have h4 : (a + v - 1) / v * v = v * ((a + v - 1) / v) := Int.mul_comm _ _
  omega
theorem stepF_stp {again : Bool} {S T : St} {n : Int} {ws : List Wd} {k : Nat} (h : StOk S k) (hT : stepF again S n ws = .ok T) : Stp again S T n := by
  have ha := h.a0
  unfold stepF at hT
  simp only at hT
  split at hT
  · cases h1 : oneF ws 0 2147483647 with
    | error e => rw [h1] at hT; cases hT
    | ok v =>
      rw [h1] at hT
      simp only at hT
      split at hT
      · cases hT
      · exact (toF_stp (by omega) hT).1
  split at hT
  · cases h1 : oneF ws 0 2147483647 with
    | error e => rw [h1] at hT; cases hT
    | ok v =>
      have := oneF_bd h1
      rw [h1] at hT
      exact (toF_stp (by omega) hT).1
  split at hT
  · cases h1 : oneF ws 1 64 with
    | error e => rw [h1] at hT; cases hT
    | ok v =>
      have := oneF_bd h1
      rw [h1] at hT
      exact (toF_stp (align_le ha this.1) hT).1
  split at hT
  · split at hT
    · cases hT
    · cases h1 : bytesF again ws.tail with
      | error e => rw [h1] at hT; cases hT
      | ok b => rw [h1] at hT; exact (layF_stp ha hT).1
  split at hT
  · split at hT
    · cases hT
    · cases h1 : wordsL again S.labels ws.tail with
      | error e => rw [h1] at hT; cases hT
      | ok b => rw [h1] at hT; exact (layF_stp ha hT).1
  split at hT
  · split at hT
    · cases hT
    · exact (layF_stp ha hT).1
  · cases ho : opF (ws.headD []) with
    | none => rw [ho] at hT; cases hT
    | some op => rw [ho] at hT; exact instrF_stp h hT

/-- Both passes lay as many bytes. -/
theorem bytesF_len {again : Bool} : ∀ {ws : List Wd} {l : List Int}, bytesF again ws = .ok l → l.length = ws.length
  | [], l, h => by cases h; rfl
  | x :: r, l, h => by
    unfold bytesF at h
    split at h
    · cases h
    · cases hb : bytesF again r with
      | error e' => rw [hb] at h; cases h
      | ok l' => rw [hb] at h; cases h; simp [bytesF_len hb]
theorem wordsL_len {again : Bool} {lb : List (Wd × Int)} : ∀ {ws : List Wd} {l : List Int}, wordsL again lb ws = .ok l → l.length = 4 * ws.length
  | [], l, h => by cases h; rfl
  | x :: r, l, h => by
    unfold wordsL at h
    cases hv : valueF again lb x with
    | error e' => rw [hv] at h; cases h
    | ok v =>
      rw [hv] at h
      simp only at h
      cases hb : wordsL again lb r with
      | error e' => rw [hb] at h; cases h
      | ok l' => rw [hb] at h; cases h; simp [wordsL_len hb, le4]; omega
theorem named_head {S : St} {ws l : List Wd} {op : Int} (hne : ws ≠ []) (h : namedF S ws op = .ok l) : ∃ rest, l = ws.headD [] :: rest := by
  obtain ⟨x, r, rfl⟩ := List.exists_cons_of_ne_nil hne
  unfold namedF at h
  split at h
  · cases h; exact ⟨r, rfl⟩
  · rename_i hc
    simp only [not_or] at hc
    obtain ⟨c1, c2, c3⟩ := hc
    have hk : labelled op = 2 ∨ labelled op = 3 := by revert c1; unfold labelled; split <;> (try split) <;> simp
    obtain ⟨j, hj⟩ : ∃ j, labelled op - 1 = j + 1 := ⟨labelled op - 2, by omega⟩
    cases hv : valueF true S.labels ((x :: r).getD (labelled op - 1) []) with
    | error e => rw [hv] at h; cases h
    | ok v =>
      rw [hv] at h
      simp only at h
      rw [hj] at h
      split at h
      · cases h; exact ⟨r.take j ++ [Lib.itoa v], by simp⟩
      · split at h
        · cases h
        · cases h; exact ⟨r.take j ++ [Lib.itoa (v - (S.at' + (Isa.fm op false).n))], by simp⟩
theorem instrF_agree {S S' T T' : St} {n : Int} {ws : List Wd} {op : Int} {k k' : Nat} (h : StOk S k) (h' : StOk S' k') (ha : S.at' = S'.at') (hne : ws ≠ []) (hop : opF (ws.headD []) = some op) (h1 : instrF false S n ws op = .ok T) (h2 : instrF true S' n ws op = .ok T') : T.at' = T'.at' := by
  have hs6 := fmn6 op
  unfold instrF at h1 h2
  rw [if_pos rfl] at h1
  rw [if_neg (by decide)] at h2
  have e1 := (toF_stp (n := n) (by omega) h1).2
  cases hn : namedF S' ws op with
  | error e => rw [hn] at h2; cases h2
  | ok l =>
    rw [hn] at h2
    simp only at h2
    cases hr : readF (joinF l) with
    | error e => rw [hr] at h2; cases h2
    | ok t =>
      obtain ⟨o, a, b, i⟩ := t
      rw [hr] at h2
      obtain ⟨rest, rfl⟩ := named_head hne hn
      obtain ⟨rfl, hm⟩ := read_first hop hr
      have e2 := (layF_stp h'.a0 h2).2
      rw [encL_len hm] at e2
      omega
theorem stepF_agree {S S' T T' : St} {n : Int} {ws : List Wd} {k k' : Nat} (h : StOk S k) (h' : StOk S' k') (ha : S.at' = S'.at') (hne : ws ≠ []) (h1 : stepF false S n ws = .ok T) (h2 : stepF true S' n ws = .ok T') : T.at' = T'.at' := by
  have h0 := h.a0
  have h0' := h'.a0
  unfold stepF at h1 h2
  simp only at h1 h2
  split at h1
  · rename_i c
    rw [if_pos c] at h2
    cases hv : oneF ws 0 2147483647 with
    | error e => rw [hv] at h1; cases h1
    | ok v =>
      rw [hv] at h1 h2
      simp only at h1 h2
      split at h1
      · cases h1
      · rw [if_neg (by omega)] at h2
        rw [(toF_stp (n := n) (by omega) h1).2, (toF_stp (n := n) (by omega) h2).2]
  rename_i c
  rw [if_neg c] at h2
  split at h1
  · rename_i c
    rw [if_pos c] at h2
    cases hv : oneF ws 0 2147483647 with
    | error e => rw [hv] at h1; cases h1
    | ok v =>
      have := oneF_bd hv
      rw [hv] at h1 h2
      simp only at h1 h2
      rw [(toF_stp (n := n) (by omega) h1).2, (toF_stp (n := n) (by omega) h2).2, ha]
  rename_i c
  rw [if_neg c] at h2
  split at h1
  · rename_i c
    rw [if_pos c] at h2
    cases hv : oneF ws 1 64 with
    | error e => rw [hv] at h1; cases h1
    | ok v =>
      have := oneF_bd hv
      rw [hv] at h1 h2
      simp only at h1 h2
      rw [(toF_stp (n := n) (align_le h0 this.1) h1).2, (toF_stp (n := n) (align_le h0' this.1) h2).2, ha]
  rename_i c
  rw [if_neg c] at h2
  split at h1
  · rename_i c
    rw [if_pos c] at h2
    split at h1
    · cases h1
    · rename_i c
      rw [if_neg c] at h2
      cases hv : bytesF false ws.tail with
      | error e => rw [hv] at h1; cases h1
      | ok b =>
        cases hv2 : bytesF true ws.tail with
        | error e => rw [hv2] at h2; cases h2
        | ok b2 =>
          rw [hv] at h1
          rw [hv2] at h2
          rw [(layF_stp h0 h1).2, (layF_stp h0' h2).2, bytesF_len hv, bytesF_len hv2, ha]
  rename_i c
  rw [if_neg c] at h2
  split at h1
  · rename_i c
    rw [if_pos c] at h2
    split at h1
    · cases h1
    · rename_i c
      rw [if_neg c] at h2
      cases hv : wordsL false S.labels ws.tail with
      | error e => rw [hv] at h1; cases h1
      | ok b =>
        cases hv2 : wordsL true S'.labels ws.tail with
        | error e => rw [hv2] at h2; cases h2
        | ok b2 =>
          rw [hv] at h1
          rw [hv2] at h2
          rw [(layF_stp h0 h1).2, (layF_stp h0' h2).2, wordsL_len hv, wordsL_len hv2, ha]
  rename_i c
  rw [if_neg c] at h2
  split at h1
  · rename_i c
    rw [if_pos c] at h2
    split at h1
    · cases h1
    · rename_i c
      rw [if_neg c] at h2
      rw [(layF_stp h0 h1).2, (layF_stp h0' h2).2, ha]
  · rename_i c
    rw [if_neg c] at h2
    cases ho : opF (ws.headD []) with
    | none => rw [ho] at h1; cases h1
    | some op => rw [ho] at h1 h2; exact instrF_agree h h' ha hne ho h1 h2

/-- What the first pass keeps. -/
structure P1 (S : St) : Prop where
  names : ∀ p ∈ S.labels, nameB p.1 = true
  uniq : S.labels.Pairwise (fun p q => p.1 ≠ q.1)
  up : S.labels.Pairwise (fun p q => p.2 ≤ q.2)
  bd : ∀ p ∈ S.labels, 0 ≤ p.2 ∧ p.2 ≤ S.at'
  none : S.bytes = [] ∧ S.marks = []
/-- What the second keeps. -/
structure P2 (S : St) (n : Int) : Prop where
  lines : S.marks.Pairwise (fun p q => p.1 ≤ q.1 ∧ p.2 < q.2)
  bd : ∀ m ∈ S.marks, 0 ≤ m.1 ∧ m.1 ≤ S.at' ∧ 1 ≤ m.2 ∧ m.2 ≤ n
  long : S.at'.toNat ≤ S.bytes.length
theorem findL_noneP {l : List (Wd × Int)} {s : Wd} (h : findL l s = none) : ∀ p ∈ l, p.1 ≠ s := by
  unfold findL at h
  simp only [Option.map_eq_none_iff, List.find?_eq_none] at h
  intro p hp e
  exact h p hp (by simp [e])
theorem findL_uniq : ∀ {l : List (Wd × Int)}, l.Pairwise (fun p q => p.1 ≠ q.1) → ∀ p ∈ l, findL l p.1 = some p.2
  | [], _, p, hp => by cases hp
  | x :: r, h, p, hp => by
    rw [List.pairwise_cons] at h
    rcases List.mem_cons.1 hp with rfl | hp
    · simp [findL]
    · have hne := h.1 p hp
      have := findL_uniq h.2 p hp
      unfold findL at this ⊢
      rw [List.find?_cons]
      rw [show (x.1 == p.1) = false by simpa using hne]
      exact this
theorem P1.step {S T : St} {n : Int} (h : P1 S) (s : Stp false S T n) : P1 T := by
  have := s.first rfl
  exact ⟨by rw [s.labels]; exact h.names, by rw [s.labels]; exact h.uniq, by rw [s.labels]; exact h.up, by rw [s.labels]; exact fun p hp => ⟨(h.bd p hp).1, Int.le_trans (h.bd p hp).2 s.le⟩, by rw [this.1, this.2]; exact h.none⟩
theorem pairwise_snoc {α : Type} {R : α → α → Prop} {l : List α} {x : α} (h : l.Pairwise R) (hx : ∀ y ∈ l, R y x) : (l ++ [x]).Pairwise R := by
  rw [List.pairwise_append]
  refine ⟨h, by simp, fun a ha b hb => ?_⟩
  have : b = x := by simpa using hb
  rw [this]
  exact hx a ha
theorem P1.label {S : St} {s : Wd} (h : P1 S) (a0 : 0 ≤ S.at') (hf : findL S.labels s = .none) (hn : nameB s = true) : P1 { S with labels := S.labels ++ [(s, S.at')] } := by
  refine ⟨fun p hp => ?_, pairwise_snoc h.uniq (findL_noneP hf), pairwise_snoc h.up (fun p hp => (h.bd p hp).2), fun p hp => ?_, h.none⟩
  · rcases List.mem_append.1 hp with hp | hp
    · exact h.names p hp
    · have : p = (s, S.at') := by simpa using hp
      rw [this]; exact hn
  · rcases List.mem_append.1 hp with hp | hp
    · exact h.bd p hp
    · have : p = (s, S.at') := by simpa using hp
      rw [this]; exact ⟨a0, Int.le_refl _⟩
theorem P2.step {S T : St} {n : Int} (h : P2 S n) (a0 : 0 ≤ S.at') (n0 : 0 ≤ n) (s : Stp true S T (n + 1)) : P2 T (n + 1) := by
  refine ⟨?_, ?_, s.long rfl⟩
  · rcases s.marks with e | e
    · rw [e]; exact h.lines
    · rw [e]; exact pairwise_snoc h.lines (fun p hp => ⟨(h.bd p hp).2.1, by have := (h.bd p hp).2.2.2; simp only; omega⟩)
  · intro m hm
    have hle := s.le
    rcases s.marks with e | e
    · rw [e] at hm; have := h.bd m hm; omega
    · rw [e] at hm
      rcases List.mem_append.1 hm with hm | hm
      · have := h.bd m hm; omega
      · have : m = (S.at', n + 1) := by simpa using hm
        rw [this]
        simp only
        omega
theorem P2.more {S : St} {n : Int} (h : P2 S n) : P2 S (n + 1) := ⟨h.lines, fun m hm => by have := h.bd m hm; omega, h.long⟩

theorem label_first {S T : St} {ws vs : List Wd} {k : Nat} (hk : StOk S k) (h : P1 S) (hl : labelF false S ws = .ok (T, vs)) : P1 T ∧ T.at' = S.at' ∧ StOk T (k + 1) := by
  unfold labelF at hl
  simp only at hl
  split at hl
  · rw [if_neg (by decide)] at hl
    split at hl
    · cases hl
    · rename_i hc
      cases hl
      simp only [not_or] at hc
      obtain ⟨c1, c2⟩ := hc
      refine ⟨h.label hk.a0 (by simpa using c1) (by simpa using c2), rfl, hk.a0, hk.a1, hk.bl, Nat.le_succ_of_le hk.ml, by have := hk.ll; simp; omega, fun p hp => ?_⟩
      rcases List.mem_append.1 hp with hp | hp
      · exact hk.lb p hp
      · have : p = ((ws.headD []).dropLast, S.at') := by simpa using hp
        rw [this]
        exact ⟨hk.a0, hk.a1⟩
  · cases hl
    exact ⟨h, rfl, hk.more (by omega)⟩
theorem label_againP {S T : St} {ws vs : List Wd} (hl : labelF true S ws = .ok (T, vs)) : T = S := by
  unfold labelF at hl
  simp only [↓reduceIte] at hl
  split at hl <;> (cases hl; rfl)
theorem label_same {S S' T T' : St} {ws vs vs' : List Wd} (h1 : labelF false S ws = .ok (T, vs)) (h2 : labelF true S' ws = .ok (T', vs')) : vs = vs' := by
  unfold labelF at h1 h2
  simp only [↓reduceIte, Bool.false_eq_true] at h1 h2
  split at h1
  · rename_i c
    rw [if_pos c] at h2
    split at h1
    · cases h1
    · cases h1; cases h2; rfl
  · rename_i c
    rw [if_neg c] at h2
    cases h1; cases h2; rfl
theorem doF_first {S T : St} {n : Int} {ws : List Wd} {k : Nat} (hk : StOk S k) (h : P1 S) (hT : doF false S n ws = .ok T) : P1 T := by
  unfold doF at hT
  split at hT
  · cases hT; exact h
  · cases hl : labelF false S ws with
    | error e => rw [hl] at hT; cases hT
    | ok t =>
      obtain ⟨U, vs⟩ := t
      rw [hl] at hT
      simp only at hT
      obtain ⟨q1, q2, q3⟩ := label_first hk h hl
      split at hT
      · cases hT; exact q1
      · exact q1.step (stepF_stp q3 hT)
theorem doF_again {S T : St} {n : Int} {ws : List Wd} {k : Nat} (hk : StOk S k) (h : P2 S n) (n0 : 0 ≤ n) (hT : doF true S (n + 1) ws = .ok T) : P2 T (n + 1) ∧ T.labels = S.labels := by
  unfold doF at hT
  split at hT
  · cases hT; exact ⟨h.more, rfl⟩
  · cases hl : labelF true S ws with
    | error e => rw [hl] at hT; cases hT
    | ok t =>
      obtain ⟨U, vs⟩ := t
      rw [hl] at hT
      simp only at hT
      obtain rfl := label_againP hl
      split at hT
      · cases hT; exact ⟨h.more, rfl⟩
      · have s := stepF_stp hk hT
        exact ⟨h.step hk.a0 n0 s, s.labels⟩
theorem doF_agree {S S' T T' : St} {n : Int} {ws : List Wd} {k k' : Nat} (hk : StOk S k) (h : P1 S) (h' : StOk S' k') (ha : S.at' = S'.at') (h1 : doF false S n ws = .ok T) (h2 : doF true S' n ws = .ok T') : T.at' = T'.at' := by
  unfold doF at h1 h2
  split at h1
  · rename_i c
    rw [if_pos c] at h2
    cases h1; cases h2; exact ha
  · rename_i c
    rw [if_neg c] at h2
    cases hl : labelF false S ws with
    | error e => rw [hl] at h1; cases h1
    | ok t =>
      obtain ⟨U, vs⟩ := t
      rw [hl] at h1
      simp only at h1
      cases hl' : labelF true S' ws with
      | error e => rw [hl'] at h2; cases h2
      | ok t' =>
        obtain ⟨U', vs'⟩ := t'
        rw [hl'] at h2
        simp only at h2
        obtain rfl := label_same hl hl'
        obtain rfl := label_againP hl'
        obtain ⟨q1, q2, q3⟩ := label_first hk h hl
        split at h1
        · rename_i cv
          rw [if_pos cv] at h2
          cases h1; cases h2; rw [q2]; exact ha
        · rename_i cv
          rw [if_neg cv] at h2
          exact stepF_agree q3 h' (by rw [q2]; exact ha) cv h1 h2
theorem passF_both : ∀ (L : List (List Wd)) {S S' T T' : St} {n : Int} {k k' : Nat}, StOk S k → P1 S → StOk S' k' → P2 S' n → 0 ≤ n → S.at' = S'.at' → passF false S n L = .ok T → passF true S' n L = .ok T' →
    P1 T ∧ P2 T' (n + (L.length : Int)) ∧ T.at' = T'.at' ∧ T'.labels = S'.labels
  | [], S, S', T, T', n, k, k', hk, h, hk', h', n0, ha, h1, h2 => by
    cases h1; cases h2
    exact ⟨h, by simpa using h', ha, rfl⟩
  | ws :: r, S, S', T, T', n, k, k', hk, h, hk', h', n0, ha, h1, h2 => by
    simp only [passF] at h1 h2
    cases hd : doF false S (n + 1) ws with
    | error e => rw [hd] at h1; cases h1
    | ok U =>
      rw [hd] at h1
      cases hd' : doF true S' (n + 1) ws with
      | error e => rw [hd'] at h2; cases h2
      | ok U' =>
        rw [hd'] at h2
        obtain ⟨q1, q2⟩ := doF_again hk' h' n0 hd'
        obtain ⟨z1, z2, z3, z4⟩ := passF_both r ((doF_both hk).1 U hd) (doF_first hk h hd) ((doF_both hk').1 U' hd') q1 (by omega) (doF_agree hk h hk' ha hd hd') h1 h2
        refine ⟨z1, ?_, z3, z4.trans q2⟩
        have e : n + ((ws :: r).length : Int) = n + 1 + (r.length : Int) := by simp; omega
        rw [e]
        exact z2
theorem passF_first : ∀ (L : List (List Wd)) {S T : St} {n : Int} {k : Nat}, StOk S k → P1 S → passF false S n L = .ok T → P1 T
  | [], S, T, n, k, hk, h, h1 => by cases h1; exact h
  | ws :: r, S, T, n, k, hk, h, h1 => by
    simp only [passF] at h1
    cases hd : doF false S (n + 1) ws with
    | error e => rw [hd] at h1; cases h1
    | ok U =>
      rw [hd] at h1
      exact passF_first r ((doF_both hk).1 U hd) (doF_first hk h hd) h1
theorem passF_ok : ∀ (L : List (List Wd)) {again : Bool} {S T : St} {n : Int} {k : Nat}, StOk S k → passF again S n L = .ok T → StOk T (k + 2 * L.length)
  | [], again, S, T, n, k, hk, h => by cases h; simpa using hk
  | ws :: r, again, S, T, n, k, hk, h => by
    simp only [passF] at h
    cases hd : doF again S (n + 1) ws with
    | error e => rw [hd] at h; cases h
    | ok U =>
      rw [hd] at h
      exact (passF_ok r ((doF_both hk).1 U hd) h).more (by simp; omega)
theorem passF_bad : ∀ (L : List (List Wd)) {again : Bool} {S : St} {n : Int} {k : Nat} {ln er : Int}, StOk S k → passF again S n L = .error (ln, er) → n + 1 ≤ ln ∧ ln ≤ n + (L.length : Int) ∧ er ≠ 0
  | [], again, S, n, k, ln, er, hk, h => by cases h
  | ws :: r, again, S, n, k, ln, er, hk, h => by
    simp only [passF] at h
    cases hd : doF again S (n + 1) ws with
    | error e =>
      rw [hd] at h
      cases h
      exact ⟨Int.le_refl _, by simp; omega, (doF_both hk).2 _ hd⟩
    | ok U =>
      rw [hd] at h
      have := passF_bad r ((doF_both hk).1 U hd) h
      simp
      omega
theorem st0_ok : StOk ⟨0, [], [], []⟩ 0 := ⟨by decide, by decide, by simp, by simp, by simp, by simp⟩

/-- A program's places. -/
structure PlOk (S : St) : Prop where
  names : ∀ p ∈ S.labels, nameB p.1 = true
  find : ∀ p ∈ S.labels, findL S.labels p.1 = some p.2
  up : S.labels.Pairwise (fun p q => p.2 ≤ q.2)
  bd : ∀ p ∈ S.labels, 0 ≤ p.2 ∧ p.2 ≤ (S.bytes.length : Int)
  lines : S.marks.Pairwise (fun p q => p.1 ≤ q.1 ∧ p.2 < q.2)
  mks : ∀ m ∈ S.marks, 0 ≤ m.1 ∧ m.1 ≤ (S.bytes.length : Int) ∧ 1 ≤ m.2
theorem lines_len (L : List UInt8) (h : longB L = false) : (linesF L).length ≤ 513 := by
  unfold longB at h
  simp only [Bool.or_eq_false_iff, decide_eq_false_iff_not] at h
  unfold linesF
  rw [List.length_map, splitC_len]
  have := h.2
  omega
theorem asm_ok {L : List UInt8} {S : St} (h : asmF L = .ok S) : PlOk S ∧ StOk S 3000 := by
  unfold asmF at h
  split at h
  · cases h
  · rename_i hc
    have hl := lines_len L (by simpa using hc)
    cases h1 : passF false ⟨0, [], [], []⟩ 0 (linesF L) with
    | error e => rw [h1] at h; cases h
    | ok U =>
      rw [h1] at h
      simp only at h
      have q0 : P1 ⟨0, [], [], []⟩ := ⟨by simp, by simp, by simp, by simp, rfl, rfl⟩
      have q1 := passF_ok _ st0_ok h1
      have q2 := passF_first _ st0_ok q0 h1
      have q3 : StOk { U with at' := 0 } (0 + 2 * (linesF L).length) := ⟨Int.le_refl _, by simp, q1.bl, q1.ml, q1.ll, q1.lb⟩
      have q4 : P2 { U with at' := 0 } 0 := ⟨by rw [show ({ U with at' := 0 } : St).marks = U.marks from rfl, q2.none.2]; simp, by rw [show ({ U with at' := 0 } : St).marks = U.marks from rfl, q2.none.2]; simp, by simp⟩
      obtain ⟨z1, z2, z3, z4⟩ := passF_both _ st0_ok q0 q3 q4 (Int.le_refl _) rfl h1 h
      have z4 : S.labels = U.labels := z4
      have hlong := z2.long
      refine ⟨⟨by rw [z4]; exact q2.names, by rw [z4]; exact findL_uniq q2.uniq, by rw [z4]; exact q2.up, ?_, z2.lines, fun m hm => ?_⟩, (passF_ok _ q3 h).more (by omega)⟩
      · rw [z4]
        intro p hp
        have := q2.bd p hp
        omega
      · have := z2.bd m hm
        omega
theorem asm_bad {L : List UInt8} {ln er : Int} (h : asmF L = .error (ln, er)) : er ≠ 0 ∧ ((ln = 0 ∧ er = 3 ∧ longB L = true) ∨ (1 ≤ ln ∧ ln ≤ 513)) := by
  unfold asmF at h
  split at h
  · rename_i hc
    cases h
    exact ⟨by decide, .inl ⟨rfl, rfl, hc⟩⟩
  · rename_i hc
    have hl := lines_len L (by simpa using hc)
    cases h1 : passF false ⟨0, [], [], []⟩ 0 (linesF L) with
    | error e =>
      rw [h1] at h
      cases h
      have := passF_bad _ st0_ok h1
      exact ⟨this.2.2, .inr ⟨by omega, by omega⟩⟩
    | ok U =>
      rw [h1] at h
      simp only at h
      have q1 := passF_ok _ st0_ok h1
      have q3 : StOk { U with at' := 0 } (0 + 2 * (linesF L).length) := ⟨Int.le_refl _, by simp, q1.bl, q1.ml, q1.ll, q1.lb⟩
      have := passF_bad _ q3 h
      exact ⟨this.2.2, .inr ⟨by omega, by omega⟩⟩
/-- The line of a place, by the marks. -/
def lineM (ms : List (Int × Int)) (x : Int) : Int := ms.foldl (fun n m => if m.1 ≤ x then m.2 else n) 0
theorem lineM_snoc (ms : List (Int × Int)) (m : Int × Int) (x : Int) : lineM (ms ++ [m]) x = if m.1 ≤ x then m.2 else lineM ms x := by simp [lineM]
theorem line_after : ∀ (ms : List (Int × Int)) (x n : Int), (∀ m ∈ ms, x < m.1) → ms.foldl (fun n m => if m.1 ≤ x then m.2 else n) n = n
  | [], x, n, h => rfl
  | m :: r, x, n, h => by
    rw [List.foldl_cons, if_neg (by have := h m List.mem_cons_self; omega)]
    exact line_after r x n (fun q hq => h q (List.mem_cons_of_mem _ hq))
theorem line_none {ms : List (Int × Int)} {x : Int} (h : ∀ m ∈ ms, x < m.1) : lineM ms x = 0 := line_after ms x 0 h
theorem line_at {ms : List (Int × Int)} (hp : ms.Pairwise (fun p q => p.1 ≤ q.1 ∧ p.2 < q.2)) {k : Nat} {m : Int × Int} (hk : ms[k]? = some m) (hn : ∀ q, ms[k + 1]? = some q → m.1 < q.1) : lineM ms m.1 = m.2 := by
  have hkl := (List.getElem?_eq_some_iff.1 hk).1
  have hm := (List.getElem?_eq_some_iff.1 hk).2
  have e : ms = ms.take k ++ m :: ms.drop (k + 1) := by
    rw [← hm, List.getElem_cons_drop, List.take_append_drop]
  unfold lineM
  rw [e, List.foldl_append, List.foldl_cons, if_pos (Int.le_refl _)]
  refine line_after _ _ _ (fun q hq => ?_)
  cases hd : ms.drop (k + 1) with
  | nil => rw [hd] at hq; cases hq
  | cons y r =>
    have hy : ms[k + 1]? = some y := by rw [← List.head?_drop, hd]; rfl
    have h1 := hn y hy
    have hpd : (ms.drop (k + 1)).Pairwise (fun p q => p.1 ≤ q.1 ∧ p.2 < q.2) := hp.drop
    rw [hd] at hq hpd
    rw [List.pairwise_cons] at hpd
    rcases List.mem_cons.1 hq with rfl | hq
    · exact h1
    · have := (hpd.1 q hq).1
      omega
end Go.Proofs.YtnoeeediicaooaaGreatDoor
namespace Go.Proofs.YtnoeeediicaooaaGreatDoor
open Go.RowKit
set_option linter.unusedSimpArgs false
set_option linter.unusedVariables false

def insOk (r : InsR) : Bool := Isa.mayB (Isa.fm r.op false) r.a r.b r.imm
def insT (r : InsR) : List UInt8 := if insOk r then showL r.op r.a r.b r.imm ++ [10] else []
def insE (r : InsR) : List Int := if insOk r then Isa.encL (Isa.fm r.op false) r.op r.a r.b r.imm else []
theorem ins_nm {r : InsR} (h : insOk r = true) : ∃ n ∈ nmTab, n.op = r.op := by
  have hg := guest_zero h
  have ok := r.ok
  have h2 := List.all_eq_true.1 op_first r.op.toNat (List.mem_range.2 (by omega))
  rw [show ((r.op.toNat : Nat) : Int) = r.op by omega, hg] at h2
  simp only [Bool.not_true, Bool.false_or, List.any_eq_true, Bool.and_eq_true, decide_eq_true_eq] at h2
  obtain ⟨n, h3, h4, -⟩ := h2
  exact ⟨n, h3, h4⟩
theorem words_plainB {n : Nm} (h : n ∈ nmTab) {a b : Int} (ha : 0 ≤ a ∧ a < 8) (hb : 0 ≤ b ∧ b < 8) (imm : Int) : ∀ x ∈ wordsOf n a b imm, x ≠ [] ∧ ∀ c ∈ x, blankB c = false ∧ c ≠ 59 ∧ c ≠ 10 := by
  obtain ⟨k, hk⟩ := List.getElem?_of_mem h
  obtain ⟨_, _, pa, pb, _⟩ := nm_is hk
  obtain ⟨-, -, w1, w2⟩ := nm_plain_of h
  have hc : ∀ c : UInt8, (48 ≤ c.toNat ∧ c.toNat ≤ 57) ∨ 97 ≤ c.toNat → blankB c = false ∧ c ≠ 59 ∧ c ≠ 10 := by
    intro c h1
    have hne : ∀ k : UInt8, (k.toNat < 48 ∨ (57 < k.toNat ∧ k.toNat < 97)) → c ≠ k := fun k hk e => by subst e; omega
    refine ⟨?_, hne 59 (by decide), hne 10 (by decide)⟩
    simp [blankB, hne 32 (by decide), hne 9 (by decide)]
  have hl : ∀ c : Int, (c = 114 ∨ c = 99 ∨ c = 112) → ∀ r : Int, 0 ≤ r → r < 8 → ∀ d ∈ [UInt8.ofNat c.toNat, UInt8.ofNat (48 + r).toNat], blankB d = false ∧ d ≠ 59 ∧ d ≠ 10 := by
    intro c hc' r h0 h1 d hd
    refine hc d ?_
    simp at hd
    rcases hd with rfl | rfl
    · rw [u8_of (by omega)]; omega
    · rw [u8_of (by omega)]; omega
  intro x hx
  unfold wordsOf at hx
  simp only [List.mem_cons, List.mem_append] at hx
  rcases hx with rfl | (hx | hx) | hx
  · exact ⟨w1, fun c h => hc c (.inr (w2 c h).1)⟩
  · split at hx
    · cases hx
    · simp at hx; subst hx
      exact ⟨by simp, hl n.a (by omega) a ha.1 ha.2⟩
  · split at hx
    · cases hx
    · simp at hx; subst hx
      exact ⟨by simp, hl n.b (by omega) b hb.1 hb.2⟩
  · split at hx
    · simp at hx; subst hx
      exact ⟨(itoa_head imm).2.1, (itoa_head imm).2.2⟩
    · cases hx
theorem join_no10 : ∀ (l : List Wd), (∀ x ∈ l, ∀ c ∈ x, c ≠ 10) → ∀ c ∈ joinF l, c ≠ 10
  | [], _, c, hc => by cases hc
  | [x], h, c, hc => h x (by simp) c (by simpa [joinF] using hc)
  | x :: y :: l, h, c, hc => by
    have e : joinF (x :: y :: l) = x ++ 32 :: joinF (y :: l) := by simp [joinF]
    rw [e] at hc
    rcases List.mem_append.1 hc with hc | hc
    · exact h x (by simp) c hc
    · rcases List.mem_cons.1 hc with rfl | hc
      · decide
      · exact join_no10 (y :: l) (fun z hz => h z (List.mem_cons_of_mem _ hz)) c hc
/-- A shown instruction's line. -/
theorem ins_line {r : InsR} (h : insOk r = true) : ∃ n ∈ nmTab, n.op = r.op ∧ lineW (showL r.op r.a r.b r.imm) = wordsOf n r.a r.b r.imm ∧ ∀ c ∈ showL r.op r.a r.b r.imm, c ≠ 10 := by
  obtain ⟨n, hn, ho⟩ := ins_nm h
  have ok := r.ok
  have hmt : Isa.mayB (Isa.fm n.op true) r.a r.b r.imm = true := by rw [ho, fm_host (guest_zero h)]; exact h
  obtain ⟨a8, b8, -⟩ := may_parts hn hmt (by omega) (by omega)
  have hw := words_plainB hn (a := r.a) (b := r.b) ⟨by omega, a8⟩ ⟨by omega, b8⟩ r.imm
  have e := show_is hn hmt
  rw [ho] at e
  refine ⟨n, hn, ho, ?_, ?_⟩
  · rw [e]
    exact lineW_join (words_head n _ _ _).2 (fun x hx => ⟨(hw x hx).1, fun c hc => ⟨((hw x hx).2 c hc).1, ((hw x hx).2 c hc).2.1⟩⟩)
  · rw [e]
    exact join_no10 _ (fun x hx c hc => ((hw x hx).2 c hc).2.2)
theorem insE_len (r : InsR) : (insE r).length ≤ 6 ∧ (insOk r = true → ((insE r).length : Int) = (Isa.fm r.op false).n) := by
  unfold insE
  split
  · rename_i h
    have h1 := encL_len h
    have h2 := fmn6 r.op
    exact ⟨by omega, fun _ => h1⟩
  · rename_i h
    exact ⟨by simp, fun h' => absurd h' h⟩
theorem insT_len (r : InsR) : (insT r).length ≤ 40 := by
  unfold insT
  split
  · have ok := r.ok
    rename_i h
    unfold showL
    split
    · split
      · rename_i n hf
        obtain ⟨k, hk⟩ := List.getElem?_of_mem (List.mem_of_find?_eq_some hf)
        obtain ⟨_, _, _, _, hw⟩ := nm_is hk
        have hi := itoa_len r.imm (by omega) (by omega)
        unfold Nm.show regL numL
        simp only [List.length_append]
        split <;> split <;> split <;> simp <;> omega
      · simp
    · simp
  · simp
theorem flat_len {α : Type} {f : InsR → List α} {m : Nat} (h : ∀ r, (f r).length ≤ m) : ∀ l : List InsR, (l.flatMap f).length ≤ m * l.length
  | [] => by simp
  | r :: l => by
    rw [List.flatMap_cons, List.length_append, List.length_cons, Nat.mul_succ]
    have := h r
    have := flat_len h l
    omega
theorem shown_pass : ∀ (l : List InsR) (S : St) (k : Int), 0 ≤ S.at' → S.at' + ((l.flatMap insE).length : Int) ≤ 4096 →
    passF false S k (linesF (l.flatMap insT)) = .ok { S with at' := S.at' + ((l.flatMap insE).length : Int) } ∧
    ((S.bytes.length : Int) = S.at' → ∃ T, passF true S k (linesF (l.flatMap insT)) = .ok T ∧ T.bytes = S.bytes ++ l.flatMap insE)
  | [], S, k, h0, h => by
    simp only [List.flatMap_nil, linesF_nil, passF, doF, if_true, List.length_nil, List.append_nil]
    exact ⟨by simp, fun _ => ⟨S, rfl, rfl⟩⟩
  | r :: l, S, k, h0, h => by
    rw [List.flatMap_cons, List.flatMap_cons]
    rw [List.flatMap_cons, List.length_append] at h
    by_cases c : insOk r = true
    · have el := (insE_len r).2 c
      have ok := r.ok
      obtain ⟨n, hn, ho, hlw, h10⟩ := ins_line c
      have eT : insT r ++ l.flatMap insT = showL r.op r.a r.b r.imm ++ 10 :: l.flatMap insT := by unfold insT; rw [if_pos c]; simp
      have eE : insE r = Isa.encL (Isa.fm n.op false) n.op r.a r.b r.imm := by unfold insE; rw [if_pos c, ho]
      rw [eT, linesF_cons _ _ h10, hlw]
      have hm : Isa.mayB (Isa.fm n.op false) r.a r.b r.imm = true := by rw [ho]; exact c
      rw [← ho] at el
      obtain ⟨p1, p2⟩ := line_instr hn hm (by omega) (by omega) (by omega) (by omega) S (k + 1) (by omega)
      simp only [passF]
      constructor
      · rw [p1]
        simp only
        have := (shown_pass l { S with at' := S.at' + (Isa.fm n.op false).n } (k + 1) (by have := fmn6 n.op; simp only; omega) (by simp only; omega)).1
        rw [this]
        simp only
        rw [List.length_append]
        congr 2
        omega
      · intro hb
        rw [p2 hb]
        simp only
        obtain ⟨T, t1, t2⟩ := (shown_pass l { S with at' := S.at' + (Isa.fm n.op false).n, bytes := S.bytes ++ Isa.encL (Isa.fm n.op false) n.op r.a r.b r.imm, marks := S.marks ++ [(S.at', k + 1)] } (k + 1) (by have := fmn6 n.op; simp only; omega) (by simp only; omega)).2 (by simp only [List.length_append]; rw [← eE]; omega)
        refine ⟨T, t1, ?_⟩
        rw [t2]
        simp only
        rw [eE, List.append_assoc]
    · have eT : insT r = [] := by unfold insT; rw [if_neg c]
      have eE : insE r = [] := by unfold insE; rw [if_neg c]
      rw [eT, eE, List.nil_append, List.nil_append]
      rw [eE] at h
      exact shown_pass l S k h0 (by simpa using h)
theorem count_flat : ∀ l : List InsR, (l.flatMap insT).count 10 ≤ l.length ∧ ((l.flatMap insT) ≠ [] → (l.flatMap insT).getLast? = some 10)
  | [] => by simp
  | r :: l => by
    obtain ⟨h1, h2⟩ := count_flat l
    rw [List.flatMap_cons, List.count_append, List.length_cons]
    by_cases c : insOk r = true
    · obtain ⟨n, hn, ho, hlw, h10⟩ := ins_line c
      have eT : insT r = showL r.op r.a r.b r.imm ++ [10] := by unfold insT; rw [if_pos c]
      rw [eT, List.count_append, List.count_eq_zero.2 (fun hm => h10 10 hm rfl)]
      refine ⟨by simp; omega, fun _ => ?_⟩
      by_cases e : l.flatMap insT = []
      · rw [e]; simp
      · rw [List.getLast?_append, h2 e]; rfl
    · have eT : insT r = [] := by unfold insT; rw [if_neg c]
      rw [eT]
      refine ⟨by simp; omega, fun h => ?_⟩
      simp only [List.nil_append] at h ⊢
      exact h2 h
theorem shown_law (l : List InsR) (hl : l.length ≤ 200) : ∃ S, asmF (l.flatMap insT) = .ok S ∧ S.bytes = l.flatMap insE := by
  have h1 := flat_len insT_len l
  have h2 := flat_len (fun r => (insE_len r).1) l
  obtain ⟨h3, h4⟩ := count_flat l
  have hlong : longB (l.flatMap insT) = false := by
    unfold longB
    have : (if l.flatMap insT ≠ [] ∧ (l.flatMap insT).getLast? ≠ some 10 then 1 else 0) = 0 := if_neg (fun h => h.2 (h4 h.1))
    rw [this]
    simp only [Bool.or_eq_false_iff, decide_eq_false_iff_not]
    omega
  unfold asmF
  rw [hlong]
  simp only [Bool.false_eq_true, if_false]
  rw [(shown_pass l ⟨0, [], [], []⟩ 0 (Int.le_refl _) (by simp only; omega)).1]
  simp only
  obtain ⟨T, t1, t2⟩ := (shown_pass l ⟨0, [], [], []⟩ 0 (Int.le_refl _) (by simp only; omega)).2 rfl
  exact ⟨T, t1, by rw [t2]; rfl⟩
end Go.Proofs.YtnoeeediicaooaaGreatDoor
namespace Go.Proofs.YtnoeeediicaooaaGreatDoor
open Go.RowKit
set_option linter.unusedSimpArgs false
set_option linter.unusedVariables false

def ldiN : Nm := ⟨[108, 100, 105], 32, 114, 0, true⟩
theorem ldi_in : ldiN ∈ nmTab := by decide
def nopN : Nm := ⟨[110, 111, 112], 0, 0, 0, false⟩
theorem nop_in : nopN ∈ nmTab := by decide
theorem may_ldi (v : Int) : Isa.mayB (Isa.fm 32 true) 0 0 v = true := by simp [Isa.mayB, Isa.fitsB, Isa.fm]
/-- A number's text is read as it. -/
theorem number_itoa {v : Int} (h0 : -2147483648 ≤ v) (h1 : v < 2147483648) : numberF (Lib.itoa v) = (v, true) := by
  have hs := show_is ldi_in (a := 0) (b := 0) (imm := v) (may_ldi v)
  have e : joinF (wordsOf ldiN 0 0 v) = ldiW ++ Lib.itoa v := by
    show joinF [[108, 100, 105], [114, 48], Lib.itoa v] = ldiW ++ Lib.itoa v
    simp [joinF, ldiW]
  have hne : showL 32 0 0 v ≠ [] := by
    rw [show showL 32 0 0 v = joinF (wordsOf ldiN 0 0 v) from hs, e]
    simp [ldiW]
  have hr := read_show (op := 32) (a := 0) (b := 0) (imm := v) (Int.le_refl _) (Int.le_refl _) h0 h1 hne
  rw [show showL 32 0 0 v = joinF (wordsOf ldiN 0 0 v) from hs, e] at hr
  unfold numberF
  rw [hr]
theorem one_itoa {w : Wd} {v lo hi : Int} (h0 : -2147483648 ≤ v) (h1 : v < 2147483648) (h2 : lo ≤ v) (h3 : v ≤ hi) : oneF [w, Lib.itoa v] lo hi = .ok v := by
  have hn : numberF ([w, Lib.itoa v].getD 1 []) = (v, true) := number_itoa h0 h1
  unfold oneF
  rw [hn]
  rw [if_neg (by simp), if_neg]
  simp
  omega
theorem space_line (again : Bool) (S : St) (k : Int) {v : Int} (h0 : 0 ≤ v) (h1 : S.at' + v ≤ 4096) (ha : 0 ≤ S.at') :
    stepF again S k [wSpace, Lib.itoa v] = .ok { S with at' := S.at' + v, bytes := if again then S.bytes ++ List.replicate ((S.at' + v).toNat - S.bytes.length) 0 else S.bytes } := by
  unfold stepF
  simp only [List.headD_cons]
  rw [if_neg (show ¬ wSpace = wOrg by decide), if_pos trivial, one_itoa (by omega) (by omega) h0 (by omega)]
  simp only
  unfold toF
  rw [if_neg (by omega)]
theorem do_plain (again : Bool) (S : St) (k : Int) {ws : List Wd} (hne : ws ≠ []) (h : (ws.headD []).getLast? ≠ some 58) : doF again S k ws = stepF again S k ws := by
  unfold doF
  rw [if_neg hne]
  unfold labelF
  simp only
  rw [if_neg h]
  simp only
  rw [if_neg hne]
theorem do_lab1 (S : St) (k : Int) {s : Wd} {vs : List Wd} (hv : vs ≠ []) (hn : nameB s = true) (hf : findL S.labels s = none) : doF false S k ((s ++ [58]) :: vs) = stepF false { S with labels := S.labels ++ [(s, S.at')] } k vs := by
  unfold doF
  rw [if_neg (by simp)]
  unfold labelF
  simp only [List.headD_cons, List.getLast?_concat, List.dropLast_concat, List.tail_cons]
  rw [if_pos trivial, if_neg (by decide), if_neg (by simp [hn, hf])]
  simp only
  rw [if_neg hv]
theorem do_lab2 (S : St) (k : Int) {s : Wd} {vs : List Wd} (hv : vs ≠ []) : doF true S k ((s ++ [58]) :: vs) = stepF true S k vs := by
  unfold doF
  rw [if_neg (by simp)]
  unfold labelF
  simp only [List.headD_cons, List.getLast?_concat, List.tail_cons]
  rw [if_pos trivial, if_pos trivial]
  simp only
  rw [if_neg hv]
theorem step_nop (again : Bool) (S : St) (k : Int) : stepF again S k [nopN.word] = doF again S k (wordsOf nopN 0 0 0) :=
  (do_plain again S k (ws := wordsOf nopN 0 0 0) (by simp [wordsOf]) (by decide)).symm
theorem may_nop : Isa.mayB (Isa.fm nopN.op false) 0 0 0 = true := by decide
theorem jump_fm {op : Int} (h0 : 64 ≤ op) (h1 : op ≤ 72) (host : Bool) : Isa.fm op host = ⟨3, 0, 0, 2, 1⟩ := by
  unfold Isa.fm
  rw [if_neg (by omega), if_neg (by omega), if_neg (by omega), if_neg (by omega), if_neg (by omega), if_neg (by omega), if_pos (by omega)]
theorem jump_may {op d : Int} (h0 : 64 ≤ op) (h1 : op ≤ 72) (d0 : -32768 ≤ d) (d1 : d < 32768) (host : Bool) : Isa.mayB (Isa.fm op host) 0 0 d = true := by
  rw [jump_fm h0 h1]
  simp [Isa.mayB, Isa.fitsB]
  omega
theorem jump_first {n : Nm} (hn : n ∈ nmTab) (h0 : 64 ≤ n.op) (h1 : n.op ≤ 72) (S : St) (k : Int) (s : Wd) (h : S.at' + 3 ≤ 4096) : stepF false S k [n.word, s] = .ok { S with at' := S.at' + 3 } := by
  rw [step_instr hn false S k [n.word, s] rfl (guest_zero (jump_may h0 h1 (d := 0) (by decide) (by decide) false))]
  unfold instrF toF
  rw [if_pos rfl, jump_fm h0 h1, if_neg (by simp only; omega)]
  simp
theorem jump_again {n : Nm} (hn : n ∈ nmTab) (h0 : 64 ≤ n.op) (h1 : n.op ≤ 72) (S : St) (k : Int) (s : Wd) {v : Int} (h : S.at' + 3 ≤ 4096) (ha : 0 ≤ S.at') (hb : (S.bytes.length : Int) = S.at') (hf : findL S.labels s = some v) (hl : letterB (s.headD 0) = true) (v0 : 0 ≤ v) (v1 : v ≤ 4096) :
    stepF true S k [n.word, s] = .ok { S with at' := S.at' + 3, bytes := S.bytes ++ Isa.encL (Isa.fm n.op false) n.op 0 0 (v - (S.at' + 3)), marks := S.marks ++ [(S.at', k)] } := by
  have hm := fun d (d0 : -32768 ≤ d) (d1 : d < 32768) host => jump_may h0 h1 d0 d1 host
  have hfm := jump_fm h0 h1
  have hla : labelled n.op = 2 := by unfold labelled; rw [if_pos (by omega)]
  have hlb := List.all_eq_true.1 nm_lab n hn
  unfold Nm.lab at hlb
  have hab : n.a = 0 ∧ n.b = 0 ∧ n.imm = true := by
    simp only [Bool.and_eq_true, Bool.or_eq_true, Bool.not_eq_true', decide_eq_false_iff_not, decide_eq_true_eq] at hlb
    rcases hlb.1 with h | h
    · omega
    · exact h
  have hws : wordsOf n 0 0 (v - (S.at' + 3)) = [n.word, Lib.itoa (v - (S.at' + 3))] := by
    unfold wordsOf
    rw [if_pos hab.1, if_pos hab.2.1, if_pos hab.2.2]
    rfl
  have hmt := hm (v - (S.at' + 3)) (by omega) (by omega) true
  have hmf := hm (v - (S.at' + 3)) (by omega) (by omega) false
  have hval : valueF true S.labels ([n.word, s].getD (2 - 1) []) = .ok v := by
    show valueF true S.labels s = .ok v
    unfold valueF
    rw [if_neg (by decide), if_pos hl, hf]
  have hnamed : namedF S [n.word, s] n.op = .ok [n.word, Lib.itoa (v - (S.at' + 3))] := by
    unfold namedF
    rw [hla, if_neg (by simpa using hl), hval]
    simp only
    rw [if_neg (by omega), hfm]
    simp only
    rw [show wrap32F (v - (S.at' + 3)) = v - (S.at' + 3) by unfold wrap32F; omega, ← hfm false, hmf, if_neg (by decide)]
    rfl
  have hsne : showL n.op 0 0 (v - (S.at' + 3)) ≠ [] := by
    rw [show_is hn hmt]
    obtain ⟨-, -, h3, -⟩ := nm_plain_of hn
    unfold joinF wordsOf
    intro e
    simp at e
    exact h3 e.1
  have hr := read_show (op := n.op) (Int.le_refl 0) (Int.le_refl 0) (by omega) (by omega) hsne
  rw [show_is hn hmt, hws] at hr
  have hlen := encL_len hmf
  rw [step_instr hn true S k [n.word, s] rfl (guest_zero (hm 0 (by decide) (by decide) false))]
  unfold instrF
  rw [if_neg (by decide), hnamed]
  simp only
  rw [hr]
  simp only
  have h3 : (Isa.fm n.op false).n = 3 := by rw [hfm]
  rw [lay_ok k _ hb (by omega), hlen, h3]

def hereW : Wd := [104, 101, 114, 101]
def thereW : Wd := [116, 104, 101, 114, 101]
abbrev srcF (A B : Int) (w : Wd) : List UInt8 := joinF [wSpace, Lib.itoa A] ++ 10 :: (joinF [hereW ++ [58], w, thereW] ++ 10 :: (joinF [wSpace, Lib.itoa B] ++ 10 :: (joinF [thereW ++ [58], nopN.word] ++ 10 :: [])))
abbrev srcB (A B : Int) (w : Wd) : List UInt8 := joinF [wSpace, Lib.itoa A] ++ 10 :: (joinF [thereW ++ [58], nopN.word] ++ 10 :: (joinF [wSpace, Lib.itoa B] ++ 10 :: (joinF [hereW ++ [58], w, thereW] ++ 10 :: [])))
theorem lineJ {ws : List Wd} (hne : ws ≠ []) (h : ∀ x ∈ ws, x ≠ [] ∧ ∀ c ∈ x, blankB c = false ∧ c ≠ 59 ∧ c ≠ 10) (r : List UInt8) : linesF (joinF ws ++ 10 :: r) = ws :: linesF r := by
  rw [linesF_cons _ _ (join_no10 ws (fun x hx c hc => ((h x hx).2 c hc).2.2)), lineW_join hne (fun x hx => ⟨(h x hx).1, fun c hc => ⟨((h x hx).2 c hc).1, ((h x hx).2 c hc).2.1⟩⟩)]
theorem okW {w : Wd} (h : decide (w ≠ []) && w.all (fun c => !blankB c && (decide (c ≠ 59) && decide (c ≠ 10))) = true) : w ≠ [] ∧ ∀ c ∈ w, blankB c = false ∧ c ≠ 59 ∧ c ≠ 10 := by
  simp only [Bool.and_eq_true, List.all_eq_true, Bool.not_eq_true', decide_eq_true_eq] at h
  exact ⟨h.1, fun c hc => h.2 c hc⟩
theorem okN {n : Nm} (hn : n ∈ nmTab) : n.word ≠ [] ∧ ∀ c ∈ n.word, blankB c = false ∧ c ≠ 59 ∧ c ≠ 10 :=
  words_plainB hn (a := 0) (b := 0) (by decide) (by decide) 0 n.word (by simp [wordsOf])
theorem linesS (v : Int) (r : List UInt8) : linesF (joinF [wSpace, Lib.itoa v] ++ 10 :: r) = [wSpace, Lib.itoa v] :: linesF r :=
  lineJ (by simp) (fun x hx => by
    simp only [List.mem_cons, List.not_mem_nil, or_false] at hx
    rcases hx with rfl | rfl
    · exact okW (by decide)
    · exact ⟨(itoa_head v).2.1, (itoa_head v).2.2⟩) r
theorem linesH {n : Nm} (hn : n ∈ nmTab) (r : List UInt8) : linesF (joinF [hereW ++ [58], n.word, thereW] ++ 10 :: r) = [hereW ++ [58], n.word, thereW] :: linesF r :=
  lineJ (by simp) (fun x hx => by
    simp only [List.mem_cons, List.not_mem_nil, or_false] at hx
    rcases hx with rfl | rfl | rfl
    · exact okW (by decide)
    · exact okN hn
    · exact okW (by decide)) r
theorem linesT (r : List UInt8) : linesF (joinF [thereW ++ [58], nopN.word] ++ 10 :: r) = [thereW ++ [58], nopN.word] :: linesF r :=
  lineJ (by simp) (fun x hx => by
    simp only [List.mem_cons, List.not_mem_nil, or_false] at hx
    rcases hx with rfl | rfl
    · exact okW (by decide)
    · exact okN nop_in) r
theorem longJ {L : List UInt8} (h : L.length ≤ 500) : longB L = false := by
  have := List.count_le_length (a := (10 : UInt8)) (l := L)
  unfold longB
  simp
  refine ⟨by omega, ?_⟩
  split <;> omega
theorem src_len (A B : Int) (a0 : 0 ≤ A) (a1 : A < 1500) (b0 : 0 ≤ B) (b1 : B < 1500) {n : Nm} (hn : n ∈ nmTab) : (srcF A B n.word).length ≤ 500 ∧ (srcB A B n.word).length ≤ 500 := by
  obtain ⟨k, hk⟩ := List.getElem?_of_mem hn
  obtain ⟨_, _, _, _, hw⟩ := nm_is hk
  have h1 := itoa_len A (by omega) (by omega)
  have h2 := itoa_len B (by omega) (by omega)
  constructor <;> simp [joinF, wSpace, hereW, thereW, nopN] <;> omega
/-- What such a text makes. -/
structure JmpOk (S : St) (h t : Int) (op : Int) : Prop where
  here : findL S.labels hereW = some h
  there : findL S.labels thereW = some t
  h0 : 0 ≤ h
  at' : ∃ pre post d, S.bytes = pre ++ (Isa.encL (Isa.fm op false) op 0 0 d ++ post) ∧ d = t - (h + 3) ∧ (pre.length : Int) = h
  ll : S.labels.length = 2
  bd : ∀ x ∈ S.bytes, 0 ≤ x ∧ x < 256
theorem bd_app {X Y : List Int} (h : ∀ x ∈ X, 0 ≤ x ∧ x < 256) (k : ∀ x ∈ Y, 0 ≤ x ∧ x < 256) : ∀ x ∈ X ++ Y, 0 ≤ x ∧ x < 256 := fun x hx => (List.mem_append.1 hx).elim (h x) (k x)
theorem bd_nil : ∀ x ∈ ([] : List Int), 0 ≤ x ∧ x < 256 := fun x hx => by cases hx
theorem bd_rep (n : Nat) : ∀ x ∈ List.replicate n (0 : Int), 0 ≤ x ∧ x < 256 := fun x hx => by rw [(List.mem_replicate.1 hx).2]; decide
theorem bd_nop : ∀ x ∈ Isa.encL (Isa.fm nopN.op false) nopN.op 0 0 0, 0 ≤ x ∧ x < 256 := Isa.encL_bytes (by decide) (by decide) (by decide) (by decide) may_nop
theorem app_nilJ (X E : List Int) : X ++ E = X ++ (E ++ []) := by simp
theorem app_assJ (X E Y Z : List Int) : X ++ E ++ Y ++ Z = X ++ (E ++ (Y ++ Z)) := by simp
theorem fm_nop : (Isa.fm nopN.op false).n = 1 := by decide
theorem jump_front {n : Nm} (hn : n ∈ nmTab) (h0 : 64 ≤ n.op) (h1 : n.op ≤ 72) {A B : Int} (a0 : 0 ≤ A) (a1 : A < 1500) (b0 : 0 ≤ B) (b1 : B < 1500) : ∃ S, asmF (srcF A B n.word) = .ok S ∧ JmpOk S A (A + 3 + B) n.op := by
  have hlong := longJ (src_len A B a0 a1 b0 b1 hn).1
  unfold asmF
  rw [hlong]
  simp only [Bool.false_eq_true, if_false]
  rw [linesS, linesH hn, linesS, linesT, linesF_nil]
  have s1 : ∀ again S k v, doF again S k [wSpace, Lib.itoa v] = stepF again S k [wSpace, Lib.itoa v] := fun again S k v => do_plain again S k (by simp) (show wSpace.getLast? ≠ some 58 by decide)
  have e1 : ∀ again S k, doF again S k [] = .ok S := fun again S k => by unfold doF; rw [if_pos rfl]
  simp only [passF, s1, e1]
  rw [space_line false ⟨0, [], [], []⟩ (0 + 1) a0 (by simp only; omega) (by simp)]
  simp only [Bool.false_eq_true, if_false, Int.zero_add]
  rw [do_lab1 _ _ (by simp) (by decide) rfl]
  rw [jump_first hn h0 h1 _ _ _ (by simp only; omega)]
  simp only
  rw [space_line false _ _ b0 (by simp only; omega) (by simp only; omega)]
  simp only [Bool.false_eq_true, if_false]
  rw [do_lab1 _ _ (by simp) (by decide) (by simp [findL, hereW, thereW])]
  rw [step_nop]
  rw [(line_instr nop_in may_nop (Int.le_refl _) (Int.le_refl _) (by decide) (by decide) _ _ (by rw [fm_nop]; simp only; omega)).1]
  simp only
  rw [space_line true _ _ a0 (by simp only; omega) (by simp)]
  simp only [if_true]
  rw [do_lab2 _ _ (by simp)]
  have hf : findL ([] ++ [(hereW, A)] ++ [(thereW, A + 3 + B)]) thereW = some (A + 3 + B) := by simp [findL, hereW, thereW]
  rw [jump_again hn h0 h1 _ _ thereW (v := A + 3 + B) (by simp only; omega) (by simp only; omega) (by simp; omega) hf (by decide) (by omega) (by omega)]
  simp only
  have hfm3 : ((Isa.encL (Isa.fm n.op false) n.op 0 0 (A + 3 + B - (0 + A + 3))).length : Int) = 3 := by
    rw [encL_len (jump_may h0 h1 (by omega) (by omega) false), jump_fm h0 h1]
  rw [space_line true _ _ b0 (by simp only; omega) (by simp only; omega)]
  simp only [if_true]
  rw [do_lab2 _ _ (by simp)]
  rw [step_nop]
  rw [(line_instr nop_in may_nop (Int.le_refl _) (Int.le_refl _) (by decide) (by decide) _ _ (by rw [fm_nop]; simp only; omega)).2 (by simp only [List.length_append, List.length_replicate, List.length_nil]; omega)]
  refine ⟨_, rfl, ⟨by simp [findL, hereW], hf, a0, ?_, rfl, bd_app (bd_app (bd_app (bd_app bd_nil (bd_rep _)) (Isa.encL_bytes (by omega) (by omega) (by decide) (by decide) (jump_may h0 h1 (by omega) (by omega) false))) (bd_rep _)) bd_nop⟩⟩
  refine ⟨_, _, _, app_assJ _ _ _ _, by omega, ?_⟩
  simp only [List.nil_append, List.length_nil, Nat.sub_zero, List.length_replicate]
  omega
theorem jump_behind {n : Nm} (hn : n ∈ nmTab) (h0 : 64 ≤ n.op) (h1 : n.op ≤ 72) {A B : Int} (a0 : 0 ≤ A) (a1 : A < 1500) (b0 : 0 ≤ B) (b1 : B < 1500) : ∃ S, asmF (srcB A B n.word) = .ok S ∧ JmpOk S (A + 1 + B) A n.op := by
  have hlong := longJ (src_len A B a0 a1 b0 b1 hn).2
  unfold asmF
  rw [hlong]
  simp only [Bool.false_eq_true, if_false]
  rw [linesS, linesT, linesS, linesH hn, linesF_nil]
  have s1 : ∀ again S k v, doF again S k [wSpace, Lib.itoa v] = stepF again S k [wSpace, Lib.itoa v] := fun again S k v => do_plain again S k (by simp) (show wSpace.getLast? ≠ some 58 by decide)
  have e1 : ∀ again S k, doF again S k [] = .ok S := fun again S k => by unfold doF; rw [if_pos rfl]
  simp only [passF, s1, e1]
  rw [space_line false ⟨0, [], [], []⟩ (0 + 1) a0 (by simp only; omega) (by simp)]
  simp only [Bool.false_eq_true, if_false, Int.zero_add]
  rw [do_lab1 _ _ (by simp) (by decide) rfl]
  rw [step_nop]
  rw [(line_instr nop_in may_nop (Int.le_refl _) (Int.le_refl _) (by decide) (by decide) _ _ (by rw [fm_nop]; simp only; omega)).1]
  simp only [fm_nop]
  rw [space_line false _ _ b0 (by simp only; omega) (by simp only; omega)]
  simp only [Bool.false_eq_true, if_false]
  rw [do_lab1 _ _ (by simp) (by decide) (by simp [findL, hereW, thereW])]
  rw [jump_first hn h0 h1 _ _ _ (by simp only; omega)]
  simp only
  rw [space_line true _ _ a0 (by simp only; omega) (by simp)]
  simp only [if_true]
  rw [do_lab2 _ _ (by simp)]
  rw [step_nop]
  rw [(line_instr nop_in may_nop (Int.le_refl _) (Int.le_refl _) (by decide) (by decide) _ _ (by rw [fm_nop]; simp only; omega)).2 (by simp; omega)]
  simp only [fm_nop]
  have hn1 : ((Isa.encL (Isa.fm nopN.op false) nopN.op 0 0 0).length : Int) = 1 := by rw [encL_len may_nop, fm_nop]
  rw [space_line true _ _ b0 (by simp only; omega) (by simp only; omega)]
  simp only [if_true]
  rw [do_lab2 _ _ (by simp)]
  have hf : findL ([] ++ [(thereW, A)] ++ [(hereW, A + 1 + B)]) thereW = some A := by simp [findL, hereW, thereW]
  rw [jump_again hn h0 h1 _ _ thereW (v := A) (by simp only; omega) (by simp only; omega) (by simp only [List.length_append, List.length_replicate, List.length_nil]; omega) hf (by decide) (by omega) (by omega)]
  refine ⟨_, rfl, ⟨by simp [findL, hereW, thereW], hf, by omega, ?_, rfl, bd_app (bd_app (bd_app (bd_app bd_nil (bd_rep _)) bd_nop) (bd_rep _)) (Isa.encL_bytes (by omega) (by omega) (by decide) (by decide) (jump_may h0 h1 (by simp only; omega) (by simp only; omega) false))⟩⟩
  refine ⟨_, [], _, app_nilJ _ _, (by simp only; omega), ?_⟩
  simp only [List.length_append, List.length_replicate, List.length_nil]
  omega
end Go.Proofs.YtnoeeediicaooaaGreatDoor
namespace Go.Proofs.YtnoeeediicaooaaGreatDoor
open Go.RowKit
open Go.RowKit Go.Shelf
set_option linter.unusedSimpArgs false
set_option linter.unusedVariables false
set_option maxRecDepth 100000
attribute [local go_sem] Oper.semAt_some
/- What stands at a place of some bytes: list.One and the document's. -/

theorem decR_bd (L : List Int) (hb : ∀ x ∈ L, 0 ≤ x ∧ x < 256) : 0 ≤ (Isa.decR false L).op ∧ (Isa.decR false L).op < 256 ∧ 0 ≤ (Isa.decR false L).a ∧ (Isa.decR false L).a < 256 ∧ 0 ≤ (Isa.decR false L).b ∧ (Isa.decR false L).b < 256 ∧
    -2147483648 ≤ (Isa.decR false L).imm ∧ (Isa.decR false L).imm < 2147483648 := by
  cases L with
  | nil => simp [Isa.decR]
  | cons x T =>
    have hbt : ∀ i, 0 ≤ T.getD i 0 ∧ T.getD i 0 < 256 := fun i => by
      rcases Nat.lt_or_ge i T.length with h | h
      · have : T.getD i 0 = T[i] := by simp [List.getD, List.getElem?_eq_getElem h]
        rw [this]; exact hb _ (List.mem_cons_of_mem _ (List.getElem_mem h))
      · have : T.getD i 0 = 0 := by simp [List.getD, List.getElem?_eq_none h]
        rw [this]; omega
    have b0 := hb x (List.mem_cons_self ..)
    have n1 := Isa.numF_bd (Isa.fm_is x false) (hbt 0) (hbt 1) (hbt 2) (hbt 3)
    have n2 := Isa.numF_bd (Isa.fm_is x false) (hbt 1) (hbt 2) (hbt 3) (hbt 4)
    have ra : 0 ≤ Isa.regA (Isa.fm x false) (T.getD 0 0) ∧ Isa.regA (Isa.fm x false) (T.getD 0 0) < 256 := by
      have := hbt 0; unfold Isa.regA; split <;> omega
    have rb : 0 ≤ Isa.regB (Isa.fm x false) (T.getD 0 0) ∧ Isa.regB (Isa.fm x false) (T.getD 0 0) < 256 := by
      have := hbt 0; unfold Isa.regB; split <;> omega
    unfold Isa.decR
    simp only
    by_cases c1 : (Isa.fm x false).n = 0
    · rw [if_pos c1]; simp
    · rw [if_neg c1]
      by_cases c2 : ((x :: T).length : Int) < (Isa.fm x false).n
      · rw [if_pos c2]; simp
      · rw [if_neg c2]
        split
        · refine ⟨b0.1, b0.2, ra.1, ra.2, rb.1, rb.2, ?_⟩
          simp only [Isa.numL]
          split
          · exact ⟨n2.1, n2.2⟩
          · exact ⟨n1.1, n1.2⟩
        · simp
theorem decR_n (L : List Int) (h : (Isa.decR false L).err = 0) : 1 ≤ (Isa.decR false L).n ∧ (Isa.decR false L).n ≤ L.length := by
  cases L with
  | nil => simp [Isa.decR] at h
  | cons x T =>
    have hF := Isa.fm_is x false
    have h0 : 0 ≤ (Isa.fm x false).n := by rcases hF with h | h | h | h | h | h | h | h | h | h <;> rw [h] <;> simp
    unfold Isa.decR at h ⊢
    simp only at h ⊢
    by_cases c1 : (Isa.fm x false).n = 0
    · rw [if_pos c1] at h; simp at h
    · rw [if_neg c1] at h ⊢
      by_cases c2 : ((x :: T).length : Int) < (Isa.fm x false).n
      · rw [if_pos c2] at h; simp at h
      · rw [if_neg c2] at h ⊢
        split at h
        · rename_i c3
          rw [if_pos c3]
          exact ⟨by simp only; omega, by simpa using c2⟩
        · simp at h
/-- What stands at a place, and how many bytes it takes. -/
def oneT (L : List Int) (n : Nat) : List UInt8 :=
  if (Isa.decR false (L.drop n)).err = 0 then showL (Isa.decR false (L.drop n)).op (Isa.decR false (L.drop n)).a (Isa.decR false (L.drop n)).b (Isa.decR false (L.drop n)).imm else [46, 98, 121, 116, 101, 32] ++ Lib.itoa (L.getD n 0)
def oneN (L : List Int) (n : Nat) : Int := if (Isa.decR false (L.drop n)).err = 0 then (Isa.decR false (L.drop n)).n else 1
theorem oneN_bd {L : List Int} {n : Nat} (h : n < L.length) : 1 ≤ oneN L n ∧ (n : Int) + oneN L n ≤ L.length := by
  unfold oneN
  split
  · rename_i h
    have := decR_n _ h
    simp at this
    omega
  · omega
theorem bytes_dropL {w : World} {blk off : Nat} {B : List Int} (a : Nat) (h : ∀ i, i < B.length → w.cell? ⟨blk, off + i, none⟩ = some (.int .u8 (B.getD i 0))) : BytesIn w (some ⟨blk, off + a, none⟩) (B.drop a) := by
  refine .inr ⟨blk, off + a, rfl, fun i hi => ?_⟩
  simp only [List.length_drop] at hi
  rw [Nat.add_assoc, h (a + i) (by omega)]
  simp [List.getD]
theorem BytesIn.belowL {w w' : World} {ao : Option Addr} {L : List Int} (h : BytesIn w ao L) (hb : Below w.heap.size w w') : BytesIn w' ao L := by
  rcases h with h | ⟨blk, off, e, h⟩
  · exact .inl h
  · exact .inr ⟨blk, off, e, fun i hi => by
      have := h i hi
      exact (hb.cell (World.block_lt_of_cell? w _ this)).trans this⟩
theorem ByteArg.belowL {w w' : World} {ao : Option Addr} {len cap : Nat} {L : List Int} (h : ByteArg w ao len cap L) (hb : Below w.heap.size w w') : ByteArg w' ao len cap L :=
  ⟨h.1, h.2.1, h.2.2.1, h.2.2.2.1, h.2.2.2.2.belowL hb⟩
set_option maxHeartbeats 4000000 in
theorem stands_c (ao : Option Addr) (len cap : Nat) (L : List Int) (n : Nat) (hn : n < len) (w : World) (hy : ByteArg w ao len cap L) :
    Calls Tryz.prog 39 #[.slice ao len cap, .int .i64 (n : Int)] w fun e w' =>
      e = .returned (.tuple #[Isa.insV (Isa.decR false (L.drop n)).op (Isa.decR false (L.drop n)).a (Isa.decR false (L.drop n)).b (Isa.decR false (L.drop n)).imm, .int .i64 (Isa.decR false (L.drop n)).n, .bool (decide ((Isa.decR false (L.drop n)).err = 0))]) ∧ Below w.heap.size w w' := by
  obtain ⟨hL, hlc, hcm, hbt, hB⟩ := hy
  obtain ⟨blk, off, rfl, hc⟩ : ∃ blk off, ao = some ⟨blk, off, none⟩ ∧ ∀ i, i < L.length → w.cell? ⟨blk, off + i, none⟩ = some (.int .u8 (L.getD i 0)) := by
    rcases hB with h | h
    · rw [h] at hL; simp at hL; omega
    · exact h
  have HD := Lib.hid fun (w1 : World) (hb : Below w.heap.size w w1) (cap1 : Nat) => Isa.dec_c false (some ⟨blk, off + n, none⟩) (len - n) cap1 (L.drop n) w1 (by simp [hL]) (by omega) (fun x hx => hbt x (List.mem_of_mem_drop hx)) ((bytes_dropL n hc).belowL hb)
  generalize Isa.decR false (L.drop n) = r at HD ⊢
  obtain ⟨op, a, b, imm, m, err⟩ := r
  unfold Isa.DR.post Isa.DecPost Isa.insV at HD
  simp only at HD ⊢
  unfold Isa.insV
  have i3 : (n : Int) < (len : Int) := by omega
  have i4 : (n : Int) < (cap : Int) := by omega
  have i5 : (len : Int) ≤ (cap : Int) := by omega
  have i6 : (cap : Int) ≤ 9223372036854775807 := by omega
  clear hL hbt hc hB
  go_enter Tryz.func39, Tryz.ntmps39
  go_wp2_with fail
  refine (HD.out _ (Isa.below_alloc1 _ _) _).mono ?_
  rintro e w1 ⟨rfl, hb1⟩
  have B1 := Isa.below_box hb1
  have s1 : w.heap.size < w1.heap.size := by have := hb1.size; simp at this; omega
  obtain ⟨hcl, hfz⟩ := Isa.bcell hb1
  go_wp2_with fail
  refine bodyPost_ret (v := .tuple #[Isa.insV op a b imm, .int .i64 m, .bool (decide (err = 0))]) ?_ rfl ⟨rfl, ?_⟩
  · unfold Isa.insV
    simp [results, Tryz.results39, go_sem, hcl, s1]
    by_cases he : err = 0 <;> simp [he]
  · exact ((((B1.setCell (Nat.le_refl _) _).setCell (Nat.le_refl _) _).setCell (Nat.le_refl _) _).setCell (Nat.le_refl _) _).alloc (by simp; omega) _
theorem ret_tup {a b : ByteArray} {x y : Value} (h : a = b) (h' : x = y) : Ending.returned (.tuple #[.string a, x]) = .returned (.tuple #[.string b, y]) := by rw [h, h']
theorem ba_extL {x y : ByteArray} (h : x.data.toList = y.data.toList) : x = y := by
  cases x; cases y
  simp only [ByteArray.mk.injEq]
  exact Array.toList_inj.1 h
set_option maxHeartbeats 4000000 in
theorem one_in (ao : Option Addr) (len cap : Nat) (L : List Int) (n : Nat) (hn : n < len) (w : World) (hy : ByteArg w ao len cap L) (HT : Hid (pTab w)) :
    Calls Tryz.prog 21 #[.slice ao len cap, .int .i64 (n : Int)] w fun e w' => e = .returned (.tuple #[.string ⟨(oneT L n).toArray⟩, .int .i64 (oneN L n)]) ∧ Below w.heap.size w w' := by
  have HS := Lib.hid (stands_c ao len cap L n hn w hy)
  obtain ⟨hL, hlc, hcm, hbt, hB⟩ := hy
  have HBD := decR_bd (L.drop n) (fun x hx => hbt x (List.mem_of_mem_drop hx))
  obtain ⟨h0, h1, h2, h3, h4, h5, h6, h7⟩ := HBD
  have HSh := Lib.hid fun (W : World) (hb : Below w.heap.size w W) => show_c _ _ _ _ W h0 h1 h2 h3 h4 h5 h6 h7 (Lib.hid (fun w' h => HT.out w' (hb.trans (h.mono hb.size))))
  unfold oneT oneN
  have hxb : 0 ≤ L.getD n 0 ∧ L.getD n 0 < 256 := by
    have hk : n < L.length := by omega
    have : L.getD n 0 = L[n] := by simp [List.getD, List.getElem?_eq_getElem hk]
    rw [this]; exact hbt _ (List.getElem_mem hk)
  obtain ⟨blk, off, rfl, x1⟩ : ∃ blk off, ao = some ⟨blk, off, none⟩ ∧ w.cell? ⟨blk, off + n, none⟩ = some (.int .u8 (L.getD n 0)) := by
    rcases hB with h | ⟨b, o, h, hc⟩
    · rw [h] at hL; simp at hL; omega
    · exact ⟨b, o, h, hc n (by omega)⟩
  clear h0 h1 h2 h3 h4 h5 h6 h7 hbt hB hL
  generalize Isa.decR false (L.drop n) = r at HS HSh ⊢
  generalize L.getD n 0 = x at hxb x1 ⊢
  obtain ⟨op, a, b, imm, m, err⟩ := r
  simp only at HS HSh ⊢
  unfold Isa.insV at HS HSh
  have i1 : (n : Int) < (len : Int) := by omega
  have i2 : ¬ (len : Int) ≤ (n : Int) := by omega
  have i3 : ¬ (n : Int) < 0 := by omega
  by_cases he : err = 0
  · rw [if_pos he, if_pos he]
    rw [decide_eq_true he] at HS
    generalize hs : (⟨(showL op a b imm).toArray⟩ : ByteArray) = s at HSh
    clear he hxb x1
    go_enter Tryz.func21, Tryz.ntmps21
    go_wp2_with fail
    refine HS.out.mono ?_
    rintro e w1 ⟨rfl, hb1⟩
    go_wp2_with fail
    refine (HSh.out _ (hb1.alloc hb1.size _)).mono ?_
    rintro e w2 ⟨rfl, hb2⟩
    go_wp2_with fail
    exact bodyPost_ret (v := .tuple #[.string s, .int .i64 m]) (by simp [results, Tryz.results21, go_sem]) rfl ⟨rfl, Isa.below_box2 hb1 hb2⟩
  · rw [if_neg he, if_neg he]
    rw [decide_eq_false he] at HS
    have HI := Lib.hid fun (W : World) (hb : Below w.heap.size w W) => itoa_c x (by omega) (by omega) W (HT.out.on hb).here
    have hwr : IntKind.i64.wrap x = x := IntWalk.i64_in _ (by omega)
    have hlen : (Lib.itoa x).length ≤ 20 := itoa_len x (by omega) (by omega)
    obtain ⟨t, ht⟩ : ∃ t : ByteArray, t = ⟨(Lib.itoa x).toArray⟩ := ⟨_, rfl⟩
    have hts : t.size ≤ 20 := by rw [ht]; simpa [ByteArray.size] using hlen
    rw [← ht] at HI
    have HTt := Lib.hid ht
    have hbk : blk < w.heap.size := World.block_lt_of_cell? w _ x1
    have HX := Lib.hid x1
    clear he hxb ht hlen x1
    go_enter Tryz.func21, Tryz.ntmps21
    go_wp2_with fail
    refine HS.out.mono ?_
    rintro e w1 ⟨rfl, hb1⟩
    have x2 : w1.cell? ⟨blk, off + n, none⟩ = some (.int .u8 x) := (hb1.cell (p := ⟨blk, off + n, none⟩) hbk).trans HX.out
    have hb2 : blk < w1.heap.size := Nat.lt_of_lt_of_le hbk hb1.size
    go_wp2_with fail
    refine (HI.out _ (hb1.alloc hb1.size _)).mono ?_
    rintro e w2 ⟨rfl, hb3⟩
    go_wp2_with fail
    refine bodyPost_ret (v := .tuple #[.string (⟨#[46, 98, 121, 116, 101, 32]⟩ ++ t), .int .i64 1]) (by simp [results, Tryz.results21, go_sem]) rfl ⟨ret_tup (ba_extL ?_) rfl, Isa.below_box2 hb1 hb3⟩
    rw [HTt.out]; simp
/- The statements' own call 'works', and the walk of ListOnes. -/

theorem one_add : oneT [17, 18, 4] 0 = [97, 100, 100, 32, 114, 49, 32, 114, 50] ∧ oneN [17, 18, 4] 0 = 2 := by decide +kernel
set_option maxHeartbeats 2000000 in
theorem works_c (w : World) (HT : Hid (pTab w)) : Calls Tryz.prog 8 #[] w fun e w' => e = .returned (.bool true) ∧ Below w.heap.size w w' := by
  have hS := one_in (some ⟨w.heap.size, 0, none⟩) 3 3 [17, 18, 4] 0 (by decide) (w.alloc (.cells #[.int .u8 17, .int .u8 18, .int .u8 4] 5)) ⟨rfl, by decide, by decide, by decide, .inr ⟨_, _, rfl, fun i hi => by
    match i, hi with
    | 0, _ => go_simp
    | 1, _ => go_simp
    | 2, _ => go_simp⟩⟩ (Lib.hid fun w' h => HT.out w' ((Isa.below_alloc1 w _).trans (h.mono (by simp))))
  rw [one_add.1, one_add.2] at hS
  have HS := Lib.hid hS
  clear hS
  go_enter Tryz.func8, Tryz.ntmps8
  go_wp2_with fail
  refine (HS.out).mono ?_
  rintro e w1 ⟨rfl, hb⟩
  go_wp2_with fail
  go_ret
  exact ⟨rfl, Isa.below_box hb⟩
/- strings.Builder's WriteString, by hand. -/

abbrev tB : TypeId := 60
theorem Tryz.sizeBuilder : (Tryz.prog.info? tB).map (fun i => i.size) = some 2 := by kernel_rfl
theorem Tryz.infoBuilder : ∃ j, Tryz.prog.info? tB = some j ∧ j.size = 2 := Option.map_eq_some_iff.1 Tryz.sizeBuilder
theorem Tryz.liesBuilder : liesAt Tryz.prog Tryz.prog.depth tB (2 / Tryz.prog.cellsOf tB) 0 tB 1 = true := by kernel_rfl
theorem Tryz.infoByteB : (Tryz.prog.info? 5).map (fun i => (i.zero, i.size, i.bytes)) = some (some (.int .u8 0), 1, 1) := by kernel_rfl
theorem heap_newH {w : World} {o : Obj} {k : Nat} (hk : k = w.heap.size) : (w.alloc o).heap[k]? = some o := by subst hk; exact heap_alloc_new w o
theorem ba_extH {x y : ByteArray} (h : x.data.toList = y.data.toList) : x = y := by
  cases x; cases y
  simp only [ByteArray.mk.injEq]
  exact Array.toList_inj.1 h
theorem join_empty : ∀ xs : List (List UInt8), Lib.join xs [] = xs.flatten
  | [] => rfl
  | [x] => by simp [Lib.join, List.intercalate]
  | x :: y :: r => by
    have ih := join_empty (y :: r)
    unfold Lib.join List.intercalate at *
    simp only [List.intersperse_cons_cons, List.flatten_cons, List.nil_append] at *
    rw [ih]
theorem flat_le (xs : List (List UInt8)) (m : Nat) (h : ∀ x ∈ xs, x.length ≤ m) : xs.flatten.length ≤ xs.length * m := by
  induction xs with
  | nil => simp
  | cons x r ih =>
    have h1 := h x List.mem_cons_self
    have h2 := ih (fun y hy => h y (List.mem_cons_of_mem _ hy))
    simp only [List.flatten_cons, List.length_append, List.length_cons]
    rw [Nat.add_mul]; omega
/-- Pieces, and the end of a line. -/
def lineL (xs : List (List UInt8)) : List UInt8 := xs.flatten ++ [10]
abbrev sH (x : List UInt8) : ByteArray := ⟨x.toArray⟩
set_option maxHeartbeats 2000000 in
theorem line_c (bk c : Nat) (xs : List (List UInt8)) (hx : ∀ x ∈ xs, x.length ≤ 1000) (hn : xs.length ≤ 100) (hc : xs.length ≤ c) (w : World) (hcells : ∀ j x, xs[j]? = some x → w.cell? ⟨bk, j, none⟩ = some (.string (sH x))) (hbk : bk < w.heap.size) :
    Calls Tryz.prog 17 #[.slice (some ⟨bk, 0, none⟩) xs.length c] w fun e w' => e = .returned (.string (sH (lineL xs))) ∧ Below w.heap.size w w' := by
  have hfl := flat_le xs 1000 hx
  have hmap : (xs.map sH).map (·.data.toList) = xs := by
    rw [List.map_map]
    conv => rhs; rw [← List.map_id xs]
    apply List.map_congr_left
    intro x _
    simp
  have HJ := Lib.hid (Tryz.strings_Join bk 0 c (xs.map sH) ⟨#[]⟩ w (fun j x hj => by
    rw [List.getElem?_map] at hj
    cases h : xs[j]? with
    | none => rw [h] at hj; cases hj
    | some y =>
      rw [h] at hj
      cases hj
      rw [Nat.zero_add]; exact hcells j y h) hbk (by simp; omega) (by simpa using hc) (by rw [hmap]; show (Lib.join xs []).length ≤ _; rw [join_empty]; omega))
  rw [hmap, List.length_map] at HJ
  have ej : Lib.join xs (⟨#[]⟩ : ByteArray).data.toList = xs.flatten := join_empty xs
  rw [ej] at HJ
  have hz : (⟨xs.flatten.toArray⟩ : ByteArray).size ≤ 100000 := by show xs.flatten.toArray.size ≤ _; rw [List.size_toArray]; omega
  have he : sH (lineL xs) = (⟨xs.flatten.toArray⟩ : ByteArray) ++ ⟨#[10]⟩ := by apply ba_extH; simp [lineL]
  rw [he]
  generalize (⟨xs.flatten.toArray⟩ : ByteArray) = s at HJ hz
  clear hfl hmap ej he hcells hx
  go_enter Tryz.func17, Tryz.ntmps17
  go_wp2_with fail
  refine (HJ.out).mono ?_
  rintro e w1 ⟨rfl, hb⟩
  go_wp2_with fail
  go_ret
  exact ⟨rfl, hb⟩
theorem isB_keepH {T e : TypeId} {B b : Nat} {bs : List Value} {w w' : World} (h : Lib.IsBuilderF T e B b bs w) (hb : Below w.heap.size w w') : Lib.IsBuilderF T e B b bs w' := by
  have key : ∀ p, Lib.BuilderAtF T e B b p bs w → Lib.BuilderAtF T e B b p bs w' := fun p h => by
    obtain ⟨h1, v, h2, h3, h4⟩ := h
    refine ⟨h1, v, (hb.block _ (Array.getElem?_eq_some_iff.1 h2).1).trans h2, ?_, h4⟩
    refine ⟨h3.1, ?_⟩
    rcases h3.2 with h | ⟨g, cap, cur, fz, q1, q2, q3, q4⟩
    · exact .inl h
    · exact .inr ⟨g, cap, cur, fz, q1, q2, (hb.block _ (Array.getElem?_eq_some_iff.1 q3).1).trans q3, q4⟩
  rcases h with h | h
  · exact .inl (key _ h)
  · exact .inr (key _ h)
theorem ByteArg.belowH {w w' : World} {ao : Option Addr} {len cap : Nat} {L : List Int} (h : ByteArg w ao len cap L) (hb : Below w.heap.size w w') : ByteArg w' ao len cap L := by
  refine ⟨h.1, h.2.1, h.2.2.1, h.2.2.2.1, ?_⟩
  rcases h.2.2.2.2 with h | ⟨blk, off, e, h⟩
  · exact .inl h
  · exact .inr ⟨blk, off, e, fun i hi => by
      have := h i hi
      exact (hb.cell (World.block_lt_of_cell? w _ this)).trans this⟩
theorem cells_app (l : List UInt8) (x : List UInt8) : Lib.byteCells l ++ Lib.strCells (sH x) = Lib.byteCells (l ++ x) := by
  unfold Lib.byteCells Lib.strCells
  simp
theorem sH_size (a : List UInt8) : (sH a).size = a.length := by show a.toArray.size = _; simp
/- The walk of ListDumps. -/

def fewL (L : List Int) : List Int := L.take 400
theorem few_c (ao : Option Addr) (la ca : Nat) (L : List Int) (w : World) (hA : ByteArg w ao la ca L) :
    Calls Tryz.prog 5 #[.slice ao la ca] w fun e w' => (∃ ca', e = .returned (.slice ao (fewL L).length ca') ∧ ByteArg w ao (fewL L).length ca' (fewL L)) ∧ w' = w := by
  obtain ⟨a1, a2, a3, a4, a5⟩ := hA
  subst a1
  by_cases c : 400 < L.length
  · have i1 : (400 : Int) < (L.length : Int) := by omega
    have hl : (fewL L).length = 400 := by unfold fewL; simp; omega
    obtain ⟨blk, off, rfl, hc⟩ : ∃ blk off, ao = some ⟨blk, off, none⟩ ∧ ∀ i, i < L.length → w.cell? ⟨blk, off + i, none⟩ = some (.int .u8 (L.getD i 0)) := by
      rcases a5 with h | h
      · rw [h] at c; simp at c
      · exact h
    have hA' : ByteArg w (some ⟨blk, off, none⟩) 400 ca (fewL L) := by
      refine ⟨hl, by omega, a3, fun x hx => a4 x (List.mem_of_mem_take hx), .inr ⟨blk, off, rfl, fun i hi => ?_⟩⟩
      rw [hl] at hi
      rw [hc i (by omega)]
      unfold fewL
      rw [List.getD_eq_getElem?_getD, List.getD_eq_getElem?_getD, List.getElem?_take, if_pos hi]
    rw [hl]
    have HA := Lib.hid hA'
    have j1 : (400 : Int) ≤ (ca : Int) := by omega
    clear hA' hc a4 a5 hl
    go_enter Tryz.func5, Tryz.ntmps5
    go_wp2_with fail
    go_ret
    exact ⟨⟨_, rfl, HA.out⟩, rfl⟩
  · have i1 : ¬ (400 : Int) < (L.length : Int) := by omega
    have hl : fewL L = L := List.take_of_length_le (by omega)
    have hA' : ByteArg w ao L.length ca (fewL L) := by rw [hl]; exact ⟨rfl, a2, a3, a4, a5⟩
    have hl2 : (fewL L).length = L.length := by rw [hl]
    rw [hl2]
    have HA := Lib.hid hA'
    clear hA' a4 a5 hl hl2
    go_enter Tryz.func5, Tryz.ntmps5
    go_wp2_with fail
    go_ret
    exact ⟨⟨_, rfl, HA.out⟩, rfl⟩
theorem few_len (L : List Int) : (fewL L).length ≤ 400 := by unfold fewL; simp; omega
/- list.places: what stands at each place, as it comes one by one. -/

/-- A line's text: of at most 100 bytes. -/
abbrev PlT := { t : List UInt8 // t.length ≤ 100 }
def plT (L : List Int) (a : Nat) : PlT := ⟨(oneT L a).take 100, by simp; omega⟩
theorem show_len100 {op a b imm : Int} (h6 : -2147483648 ≤ imm) (h7 : imm < 2147483648) : (showL op a b imm).length ≤ 100 := by
  unfold showL
  split
  · split
    · rename_i n hf
      obtain ⟨k, hk⟩ := List.getElem?_of_mem (List.mem_of_find?_eq_some hf)
      obtain ⟨_, _, _, _, hw⟩ := nm_is hk
      have hi := itoa_len imm h6 h7
      unfold Nm.show regL numL
      simp only [List.length_append]
      split <;> split <;> split <;> simp <;> omega
    · simp
  · simp
theorem oneT_len {L : List Int} (hb : ∀ x ∈ L, 0 ≤ x ∧ x < 256) {a : Nat} (ha : a < L.length) : (oneT L a).length ≤ 100 := by
  unfold oneT
  split
  · have := decR_bd (L.drop a) (fun x hx => hb x (List.mem_of_mem_drop hx))
    exact show_len100 (by omega) (by omega)
  · have hx : 0 ≤ L.getD a 0 ∧ L.getD a 0 < 256 := by
      have : L.getD a 0 = L[a] := by simp [List.getD, List.getElem?_eq_getElem ha]
      rw [this]; exact hb _ (List.getElem_mem ha)
    have hi := itoa_len (L.getD a 0) (by omega) (by omega)
    simp only [List.length_append, List.length_cons, List.length_nil]; omega
theorem plT_eq {L : List Int} (hb : ∀ x ∈ L, 0 ≤ x ∧ x < 256) {a : Nat} (ha : a < L.length) : (plT L a).1 = oneT L a := List.take_of_length_le (oneT_len hb ha)
/-- What stands at the places from one on. -/
def srcL (L : List Int) : Nat → Nat → List (Nat × PlT)
  | 0, _ => []
  | f + 1, a => if a < L.length then (a, plT L a) :: srcL L f (a + (oneN L a).toNat) else []
theorem srcL_end (L : List Int) (f a : Nat) (h : L.length ≤ a) : srcL L f a = [] := by
  cases f
  · rfl
  · rw [srcL, if_neg (by omega)]
theorem srcL_fuel (L : List Int) : ∀ (f g a : Nat), L.length - a ≤ f → L.length - a ≤ g → srcL L f a = srcL L g a
  | 0, g, a, h1, _ => by rw [srcL_end L g a (by omega)]; rfl
  | f + 1, 0, a, _, h2 => by rw [srcL_end L (f + 1) a (by omega)]; rfl
  | f + 1, g + 1, a, h1, h2 => by
    rw [srcL, srcL]
    by_cases c : a < L.length
    · rw [if_pos c, if_pos c]
      have := oneN_bd c
      rw [srcL_fuel L f g _ (by omega) (by omega)]
    · rw [if_neg c, if_neg c]
theorem srcL_step (L : List Int) {a : Nat} (h : a < L.length) : srcL L (L.length - a) a = (a, plT L a) :: srcL L (L.length - (a + (oneN L a).toNat)) (a + (oneN L a).toNat) := by
  obtain ⟨f, hf⟩ : ∃ f, L.length - a = f + 1 := ⟨L.length - a - 1, by omega⟩
  have := oneN_bd h
  rw [hf, srcL, if_pos h]
  rw [srcL_fuel L f (L.length - (a + (oneN L a).toNat)) _ (by omega) (by omega)]
/-- What a round keeps: what lay below, and the box of the bytes. -/
def KpP (n₀ Bs : Nat) (W W' : World) : Prop := Below n₀ W W' ∧ ∀ v, W.cell? ⟨Bs, 0, none⟩ = some v → W'.cell? ⟨Bs, 0, none⟩ = some v
theorem kpp_t {n₀ Bs : Nat} {A B C : World} (h : KpP n₀ Bs A B) (k : KpP n₀ Bs B C) : KpP n₀ Bs A C := ⟨h.1.trans k.1, fun v hv => k.2 v (h.2 v hv)⟩
theorem kpp_b {n₀ Bs : Nat} {w : World} (h0 : n₀ ≤ w.heap.size) (hn : Bs < w.heap.size) (W : World) (l : Nat) (o o' : Obj) (hl : w.heap.size ≤ l) (h : W.heap[l]? = some o) (h1 : o.isCells = false) (h2 : o.isWalk = false) : KpP n₀ Bs W (W.putObj l o') :=
  ⟨belowK_b h0 W l o o' hl h h1 h2, fun v hv => by
    have hlt : Bs < W.heap.size := by have := (Array.getElem?_eq_some_iff.1 h).1; omega
    exact (World.cell?_of_block (a := ⟨Bs, 0, none⟩) ((grownBy_putObj' W l o').block Bs hlt (fun e => by cases e; omega))).trans hv⟩
abbrev plE (x : Nat × PlT) : Array Value := #[.int .i64 (x.1 : Int), .string ⟨x.2.1.toArray⟩]
theorem grown_noneP {w w1 : World} (hb : Below w.heap.size w w1) : w.grownBy w1 none := ⟨hb.os, hb.tape, hb.output, hb.size, fun k hk _ => hb.block k hk⟩
theorem pTab_onP {w w1 : World} (HT : Hid (pTab w)) (hb : Below w.heap.size w w1) : Hid (pTab w1) := Lib.hid (fun w' h => HT.out w' (hb.trans (h.mono hb.size)))
set_option maxHeartbeats 8000000 in
theorem places1_in (n : Nat) (hn : 2 ≤ n) (l Bs : Nat) (w0 : World) (ao : Option Addr) (la ca : Nat) (L : List Int) (hA : ByteArg w0 ao la ca L) (HT : Hid (pTab w0)) (B : Nat) (J Jx : List (Nat × PlT) → World → Prop) (hJ : AbidesFrom B J)
    (hY : ∀ pre x W, J pre W → pre.length < (srcL L L.length 0).length → YieldAt Fence.wide (n - 1) Tryz.prog l (plE x) W fun e W' =>
      (e = .returned (.bool true) ∧ J (pre ++ [x]) W' ∧ KpP w0.heap.size Bs W W') ∨ (e = .returned (.bool false) ∧ Jx (pre ++ [x]) W'))
    (W : World) (hW0 : Below w0.heap.size w0 W) (hBs : W.cell? ⟨Bs, 0, none⟩ = some (.slice ao la ca)) (h0 : J [] W) :
    CallsIn Fence.wide n Tryz.prog 38 #[.func (.yield l) #[] #[], .pointer (some ⟨Bs, 0, none⟩)] W fun e W' => (∃ v, e = .returned v) ∧
      ((∃ ys, ys = srcL L L.length 0 ∧ J ys W') ∨ (∃ pre, pre <+: srcL L L.length 0 ∧ Jx pre W')) := by
  have HY := Lib.hid hY
  have hla : L.length = la := hA.1
  have hcap : la ≤ 9223372036854775807 := Nat.le_trans hA.2.1 hA.2.2.1
  have HO := Lib.hid fun (a : Nat) (ha : a < la) (V : World) (hb : Below w0.heap.size w0 V) => one_in ao la ca L a ha V (hA.belowH hb) (pTab_onP HT hb)
  have HBy := Lib.hid hA.2.2.2.1
  subst hla
  clear hY hA HT
  refine callsIn_of_wp Tryz.func38 rfl trivial ?_ rfl
  simp only [Tryz.ntmps38, List.size_toArray, List.length_cons, List.length_nil, Nat.reduceAdd, Nat.reduceSub, Array.replicate_succ, Array.replicate_zero, List.push_toArray, List.append_toArray, List.nil_append, List.cons_append]
  gi_wp2
  gi_loopw [3] (fun v3 wr => ∃ (a : Nat) (pre : List (Nat × PlT)), v3 = .int .i64 (a : Int) ∧ a ≤ L.length ∧ J pre wr ∧ wr.cell? ⟨Bs, 0, none⟩ = some (.slice ao L.length ca) ∧ Below w0.heap.size w0 wr ∧ Hid (pre ++ srcL L (L.length - a) a = srcL L L.length 0))
    (fun v3 _ => L.length - (intOf v3).toNat)
  case atStart => exact ⟨0, [], rfl, Nat.zero_le _, h0, hBs, hW0, Lib.hid rfl⟩
  case round =>
    obtain ⟨a, pre, rfl, haL, hJs, hcx, hB0, HP⟩ := hrel
    by_cases ck : a < L.length
    · have ik : (a : Int) < (L.length : Int) := by omega
      have hbd := oneN_bd ck
      have hpt := plT_eq HBy.out ck
      have hst := Lib.hid (srcL_step L ck)
      have HOa := Lib.hid (HO.out a ck wr hB0)
      have hlt : pre.length < (srcL L L.length 0).length := by
        rw [← HP.out, List.length_append, hst.out]; simp
      obtain ⟨m, hm⟩ : ∃ m : Nat, oneN L a = (m : Int) := ⟨(oneN L a).toNat, by omega⟩
      rw [hm] at HOa hbd
      have hst : Hid (srcL L (L.length - a) a = (a, plT L a) :: srcL L (L.length - (a + m)) (a + m)) := Lib.hid (by rw [hst.out, hm]; rfl)
      clear hm
      have h1n : 1 ≤ n := Nat.le_trans (by decide) hn
      gi_wp2_with (refine ⟨trivial, ?_⟩; gi_at_call 21; refine (callsIn_wide.2 HOa.out).mono ?_; rintro e w1 ⟨rfl, hb1⟩; have hJ1 := hJ pre wr w1 none hJs (grown_noneP hb1) (fun r e => by cases e); have hcx1 := (hb1.cell (p := ⟨Bs, 0, none⟩) (World.block_lt_of_cell? _ _ hcx)).trans hcx; obtain ⟨fn, tmps, assign, body, hy, hR⟩ := HY.out pre (a, plT L a) w1 hJ1 hlt; dsimp only [plE] at hy; rw [hpt] at hy)
      refine hR.mono ?_
      rintro e W3 (⟨rfl, hJ3, hk3⟩ | ⟨rfl, hJx3⟩)
      · gi_wp2
        go_roundw
        case rel => exact ⟨a + m, pre ++ [(a, plT L a)], by go_num, by omega, hJ3, hk3.2 _ hcx1, (hB0.trans (hb1.mono hB0.size)).trans hk3.1, Lib.hid (by rw [List.append_assoc, ← HP.out, hst.out]; rfl)⟩
        case measure => simp [intOf]; omega
      · gi_wp2
        refine bodyPost_ret (results_none rfl _ _ _) rfl ?_
        exact ⟨⟨_, rfl⟩, .inr ⟨_, ⟨srcL L (L.length - (a + m)) (a + m), by rw [List.append_assoc, ← HP.out, hst.out]; rfl⟩, hJx3⟩⟩
    · obtain rfl : a = L.length := by omega
      gi_wp2
      go_end0
      exact ⟨⟨_, rfl⟩, .inl ⟨pre, by rw [← HP.out, srcL_end _ _ _ (Nat.le_refl _), List.append_nil], hJs⟩⟩
theorem places_in (n : Nat) (v : Value) (hv : ∃ a l c, v = .slice a l c) (w : World) :
    CallsIn Fence.wide n Tryz.prog 18 #[v] w fun e w' => e = .returned (.func (.func 38) #[] #[.pointer (some ⟨w.heap.size, 0, none⟩)]) ∧ w' = w.alloc (.cells #[v] 22) := by
  obtain ⟨a, l, c, rfl⟩ := hv
  refine callsIn_of_wp Tryz.func18 rfl trivial ?_ rfl
  simp only [Tryz.ntmps18, List.size_toArray, List.length_cons, List.length_nil, Nat.reduceAdd, Nat.reduceSub, Array.replicate_succ, Array.replicate_zero, List.push_toArray, List.append_toArray, List.nil_append, List.cons_append]
  gi_wp2
  go_ret
  exact ⟨rfl, rfl⟩
/- list.Source -/

/-- What is no row of bytes, and is not the builder, stands. -/
def KeptB (b : Nat) (w w' : World) : Prop := ∀ k o, k ≠ b → w.heap[k]? = some o → (∀ cs f, o ≠ .cells cs 5 f) → w'.heap[k]? = some o
theorem keptB_t {b : Nat} {x y z : World} (h : KeptB b x y) (g : KeptB b y z) : KeptB b x z := fun k o a c d => g k o a (h k o a c d) d
theorem keptB_below {b : Nat} {x y : World} (h : Below x.heap.size x y) : KeptB b x y := fun k o _ hk _ => (h.block k (Array.getElem?_eq_some_iff.1 hk).1).trans hk
theorem keptB_set {b j : Nat} {x : World} {v : Value} : KeptB b x (x.setCell ⟨b, j, none⟩ v) := fun k o hne hk _ => (Below.heap_setCell x ⟨b, j, none⟩ v k hne).trans hk
set_option maxHeartbeats 2000000 in
theorem copyCheck_k (B b : Nat) (bs : List Value) (w : World) (h : Lib.IsBuilderF tB 5 B b bs w) :
    Calls Tryz.prog 36 #[.pointer (some ⟨b, 0, none⟩)] w fun e w' => e = .returned (.tuple #[]) ∧ (Lib.BuilderAtF tB 5 B b (.pointer (some ⟨b, 0, none⟩)) bs w' ∧ Below B w w') ∧ KeptB b w w' := by
  obtain ⟨j, hj, hjs⟩ := Tryz.infoBuilder
  rcases h with h | h
  · have h0 := h.cell0
    have hsh := h.shape
    have hfz := h.frozen0
    have hB := h.1
    have hU := h.used (.pointer (some ⟨b, 0, none⟩))
    have HU := Lib.hid hU
    clear h hU
    have k1 : (w.setCell ⟨b, 0, none⟩ (.pointer (some ⟨b, 0, none⟩))).cell? ⟨b, 0, none⟩ = some (.pointer (some ⟨b, 0, none⟩)) := World.cell?_setCell_same' _ _ _ (by rw [h0]; rfl)
    go_enter Tryz.func36, Tryz.ntmps36
    go_wp2_with fail
    rw [Lib.run_to_unsafe w ⟨b, 0, none⟩ Tryz.underlying58 Tryz.underlying125 hj (by rw [hjs]; decide) hsh (Nat.zero_lt_succ 1)]
    simp only [Result.andThen]
    rw [Oper.upon_value]
    go_wp2_with fail
    rw [run_callFunc_extern Tryz.func64 (by kernel_rfl) (by kernel_rfl) (by kernel_rfl) (e := Extern.AbiNoEscape.same) (by kernel_rfl)]
    rw [Lib.run_noEscape]
    simp only [Result.andThen]
    rw [Oper.upon_value]
    go_wp2_with fail
    rw [Lib.run_from_unsafe w ⟨b, 0, none⟩ Tryz.underlying125 Tryz.underlying58 hj hsh Tryz.liesBuilder]
    simp only [Result.andThen]
    rw [Oper.upon_value]
    go_wp2_with fail
    go_end0
    exact ⟨rfl, ⟨HU.out, (Below.refl B w).setCell (p := ⟨b, 0, none⟩) hB _⟩, keptB_set⟩
  · have h0 := h.cell0
    have HU := Lib.hid h
    clear h
    go_enter Tryz.func36, Tryz.ntmps36
    go_wp2_with fail
    rw [Lib.run_neq_ptr_same w _ Tryz.underlying58 hj]
    go_wp2_with fail
    go_end0
    exact ⟨rfl, ⟨HU.out, Below.refl _ _⟩, fun k o _ hk _ => hk⟩
set_option maxHeartbeats 4000000 in
theorem write_k (B b : Nat) (bs : List Value) (s : ByteArray) (w : World) (h : Lib.IsBuilderF tB 5 B b bs w) (hlen : bs.length + s.size ≤ 140737488355328) (hBw : B ≤ w.heap.size) :
    Calls Tryz.prog 16 #[.pointer (some ⟨b, 0, none⟩), .string s] w fun e w' => e = .returned (.tuple #[.int .i64 s.size, .nilIface]) ∧ (Lib.IsBuilderF tB 5 B b (bs ++ Lib.strCells s) w' ∧ Below B w w') ∧ KeptB b w w' := by
  obtain ⟨i0, hi, hz0, hz1, hz2⟩ := info_parts Tryz.infoByteB
  have HC := Lib.hid (copyCheck_k B b bs w h)
  clear h
  go_enter Tryz.func16, Tryz.ntmps16
  go_wp2_with fail
  refine (HC.out).mono ?_
  rintro e w1 ⟨rfl, ⟨⟨hB, v, hbk, hown, hne⟩, hb1⟩, hk1⟩
  have c1 : w1.cell? ⟨b, 1, none⟩ = some v := by rw [Lib.cell_of_heap hbk]; rfl
  have hs1 := hb1.size
  have HK1 := Lib.hid hk1
  clear HC hk1
  go_wp2_with (first | (at_builtin; refine Lib.wpList_append_own_stringF _ rfl _ _ 22 9 rfl B 5 i0 Tryz.underlying22 Tryz.underlying9 hi hz0 hz1 hz2 _ _ _ rfl hown s rfl (by unfold maxLen; omega) (by omega) (by omega) ?_))
  intro v' w2 hown' hgrow _
  have hlt : b < w1.heap.size := (Array.getElem?_eq_some_iff.1 hbk).1
  have hb2 : w2.heap[b]? = some (.cells #[.pointer (some ⟨b, 0, none⟩), v] tB (0, 0)) := by
    rw [hgrow.block b hlt (fun e => hne e.symm)]
    exact hbk
  have d1 : w2.cell? ⟨b, 1, none⟩ = some v := by rw [Lib.cell_of_heap hb2]; rfl
  have f1 : w2.frozen? ⟨b, 1, none⟩ = false := Lib.frozen_of_heap hb2 1
  have hk2 : KeptB b w1 w2 := fun k o hkb hk ho => by
    refine (hgrow.block k (Array.getElem?_eq_some_iff.1 hk).1 (fun e => ?_)).trans hk
    rcases hown.2 with ⟨h, _⟩ | ⟨g, cap, cur, fz, h, _, h3, _⟩
    · rw [h] at e; simp [Value.ownBlock] at e
    · rw [h] at e
      have : k = g := by simpa [Value.ownBlock] using e
      subst this
      rw [hk] at h3
      exact ho _ _ (Option.some.inj h3)
  have HK2 := Lib.hid (keptB_t HK1.out hk2)
  clear hk2
  obtain ⟨ao, n', cap, rfl⟩ : ∃ ao n' cap, v' = .slice ao n' cap := by
    rcases hown'.2 with ⟨hv, _⟩ | ⟨g, cap, cur, fz, hv, _⟩
    · exact ⟨_, _, _, hv⟩
    · exact ⟨_, _, _, hv⟩
  go_wp2_with fail
  refine bodyPost_ret (v := .tuple #[.int .i64 s.size, .nilIface]) (by simp [results, Tryz.results16, go_sem]) rfl ⟨rfl, ⟨.inr ?_, ?_⟩, keptB_t HK2.out keptB_set⟩
  · exact Lib.BuilderAtF.put hB hb2 (bs' := bs ++ Lib.strCells s) (by simpa [Lib.strCells_length] using hown') (by decide)
  · exact (hb1.grown hgrow (by omega) (fun k hk => (hown.lt k hk).1)).setCell (p := ⟨b, 1, none⟩) hB _
theorem row_keptK {A B : World} {row : Option Nat} {b : Nat} {cs : Array Value} {t : TypeId} {f : Nat × Nat} (h : A.heap[b]? = some (.cells cs t f)) (hg : A.grownBy B row) (hr : ∀ r, row = some r → ∃ o, A.heap[r]? = some o ∧ o.isCells = false) : B.heap[b]? = some (.cells cs t f) :=
  (hg.block b (Array.getElem?_eq_some_iff.1 h).1 (fun e => by
    obtain ⟨o, ho, hc⟩ := hr b e.symm
    rw [h] at ho; cases ho; cases hc)).trans h
theorem isB_own {T e : TypeId} {B b : Nat} {bs : List Value} {w w' : World} {row : Option Nat} (h : Lib.IsBuilderF T e B b bs w) (hg : w.grownBy w' row) (hr : ∀ r, row = some r → ∃ o, w.heap[r]? = some o ∧ o.isCells = false) : Lib.IsBuilderF T e B b bs w' := by
  have key : ∀ p, Lib.BuilderAtF T e B b p bs w → Lib.BuilderAtF T e B b p bs w' := fun p h => by
    obtain ⟨h1, v, h2, h3, h4⟩ := h
    refine ⟨h1, v, row_keptK h2 hg hr, ?_, h4⟩
    refine ⟨h3.1, ?_⟩
    rcases h3.2 with h | ⟨g, cap, cur, fz, q1, q2, q3, q4⟩
    · exact .inl h
    · exact .inr ⟨g, cap, cur, fz, q1, q2, row_keptK q3 hg hr, q4⟩
  rcases h with h | h
  · exact .inl (key _ h)
  · exact .inr (key _ h)
/-- The text of the lines that have come. -/
def srcT (pre : List (Nat × PlT)) : List UInt8 := pre.flatMap fun x => x.2.1 ++ [10]
theorem srcT_snoc (pre : List (Nat × PlT)) (x : Nat × PlT) : srcT (pre ++ [x]) = srcT pre ++ (x.2.1 ++ [10]) := by simp [srcT]
theorem srcT_len (pre : List (Nat × PlT)) : (srcT pre).length ≤ pre.length * 101 := by
  induction pre with
  | nil => simp [srcT]
  | cons x r ih =>
    have := x.2.2
    simp only [srcT, List.flatMap_cons, List.length_append, List.length_cons, List.length_nil] at *
    omega
theorem srcL_len (L : List Int) : ∀ f a, (srcL L f a).length ≤ f
  | 0, a => by simp [srcL]
  | f + 1, a => by
    rw [srcL]
    split
    · have := srcL_len L f (a + (oneN L a).toNat)
      simp; omega
    · simp
set_option maxHeartbeats 16000000 in
theorem source_in (n : Nat) (hn : 4 ≤ n) (ao : Option Addr) (la ca : Nat) (L : List Int) (hL : L.length ≤ 400) (w : World) (hA : ByteArg w ao la ca L) (HT : Hid (pTab w)) :
    CallsIn Fence.wide n Tryz.prog 9 #[.slice ao la ca] w fun e W' => e = .returned (.string (sH (srcT (srcL L L.length 0)))) ∧ Below w.heap.size w W' := by
  have h1 : 1 ≤ n := by omega
  refine callsIn_of_wp_marks Tryz.func9 rfl trivial ?_ rfl
  simp only [Tryz.ntmps9, List.size_toArray, List.length_cons, List.length_nil, Nat.reduceAdd, Nat.reduceSub, Array.replicate_succ, Array.replicate_zero, List.push_toArray, List.append_toArray, List.nil_append, List.cons_append]
  gi_wp2_with (refine ⟨trivial, ?_⟩; gi_at_call 18; refine (places_in (n - 1) _ ⟨_, _, _, rfl⟩ _).mono ?_; rintro e w' ⟨rfl, rfl⟩)
  obtain ⟨W0, hW0⟩ : ∃ W0, W0 = w.alloc (.cells #[.pointer none, .slice none 0 0] tB) := ⟨_, rfl⟩
  have hsz : W0.heap.size = w.heap.size + 1 := by rw [hW0]; simp
  have hB0 : Below w.heap.size w (W0.alloc (.cells #[.slice ao la ca] 22)) := by rw [hW0]; exact ((Below.refl _ w).alloc (Nat.le_refl _) _).alloc (by simp) _
  have hI0 : Lib.IsBuilderF tB 5 w.heap.size w.heap.size (Lib.byteCells (srcT [])) (W0.alloc (.cells #[.slice ao la ca] 22)) := by
    rw [hW0]
    exact isB_keepH (Lib.IsBuilderF.of (Lib.fresh_isBuilder tB 5 w)) ((Below.refl _ _).alloc (Nat.le_refl _) _)
  have hbx0 : (W0.alloc (.cells #[.slice ao la ca] 22)).heap[w.heap.size + 1]? = some (.cells #[.slice ao la ca] 22 (0, 0)) := heap_newH (by rw [hsz])
  have hSt : SeqStopsK Fence.wide (n - 1) Tryz.prog 38 #[.pointer (some ⟨w.heap.size + 1, 0, none⟩)] plE (KpP w.heap.size (w.heap.size + 1)) (fun ys => ys = srcL L L.length 0) (fun pre => pre <+: srcL L L.length 0) (srcL L L.length 0).length (W0.alloc (.cells #[.slice ao la ca] 22)) :=
    fun l J Jx W hW hJ hJx hY h0 => places1_in (n - 1) (by omega) l (w.heap.size + 1) w ao la ca L hA HT W.heap.size J Jx hJ hY W (hB0.trans (hW.mono hB0.size)) ((cell_of_row _ _ 0 _ _ _ ((hW.block _ (by simp; omega)).trans hbx0)).trans rfl) h0
  have hlen := srcL_len L L.length 0
  obtain ⟨XS, hXS⟩ : ∃ XS, XS = srcL L L.length 0 := ⟨_, rfl⟩
  rw [← hXS] at hSt hlen
  clear hA HT
  rw [← hW0]
  clear hW0
  refine wpIn_rangeFunc_ownG (F := Fence.wide) rfl h1 (gf := 38) (lb := #[.pointer (some ⟨w.heap.size + 1, 0, none⟩)]) rfl trivial (enters_of Tryz.func38 (by kernel_rfl) rfl)
    hSt kpp_t (kpp_b (by simp; omega) (by simp; omega)) (Below.refl _ _) (fun _ => rfl)
    (fun pre W => (Lib.IsBuilderF tB 5 w.heap.size w.heap.size (Lib.byteCells (srcT pre)) W ∧ W.heap[w.heap.size + 1]? = some (.cells #[.slice ao la ca] 22 (0, 0))) ∧ Below w.heap.size w W)
    (fun _ _ _ => False)
    (OwnFrom.and (Own.from (fun s A B row hs hg hr => ⟨isB_own hs.1 hg hr, row_keptK hs.2 hg hr⟩) _) (ownFrom_below (Nat.le_refl _) (by simp; omega)))
    (fun _ _ _ _ _ hs _ _ => hs)
    ⟨⟨hI0, hbx0⟩, hB0⟩
    (fun x => { tmps := #[.slice ao la ca, undef, .string ⟨#[]⟩, .pointer (some ⟨w.heap.size, 0, none⟩), undef, .string ⟨x.2.1.toArray⟩, .slice ao la ca, .func (.func 38) #[] #[.pointer (some ⟨w.heap.size + 1, 0, none⟩)], .int .i64 (x.1 : Int), .string ⟨x.2.1.toArray⟩, undef, undef, undef, undef, undef], defers := [] }) ?assign ?body ?done ?stop
  case assign =>
    intro l x W K hK
    gi_wp2
    exact hK
  case body =>
    rintro l pre x W ⟨⟨hI, hbx⟩, hB⟩ hlt
    have hx := x.2.2
    have h3 : 1 ≤ n - 1 - 1 := by omega
    have HL := Lib.hid (line_c W.heap.size 1 [x.2.1] (by simp; omega) (by simp) (by simp) (W.alloc (.cells #[.string ⟨x.2.1.toArray⟩] 9)) (fun j y hj => (cell_of_row _ _ j _ _ _ (heap_newH rfl)).trans (by
      cases j with
      | zero => simp at hj; subst hj; rfl
      | succ j => simp at hj)) (by simp))
    have hll : lineL [x.2.1] = x.2.1 ++ [10] := by simp [lineL]
    rw [hll] at HL
    have HWk := Lib.hid fun (V : World) (h : Lib.IsBuilderF tB 5 w.heap.size w.heap.size (Lib.byteCells (srcT pre)) V) (hV : w.heap.size ≤ V.heap.size) => write_k w.heap.size w.heap.size _ (sH (x.2.1 ++ [10])) V h (by
      rw [Lib.byteCells_length, sH_size, List.length_append]
      have := srcT_len pre
      simp; omega) hV
    have HI := Lib.hid hI
    have hBsz := hB.size
    have hlw := (Array.getElem?_eq_some_iff.1 hbx).1
    clear hll hI
    gi_wp2_with (first
      | (refine ⟨trivial, ?_⟩; gi_at_call 17; refine (CallsIn.inRound l (callsIn_wide.2 HL.out)).mono ?_; rintro e w1 ⟨rfl, hb1⟩; have hbW : Below W.heap.size W w1 := ((Below.refl W.heap.size W).alloc (Nat.le_refl _) _).trans (hb1.mono (by simp)))
      | (refine ⟨trivial, ?_⟩; gi_at_call 16; refine (CallsIn.inRound l (callsIn_wide.2 (HWk.out _ (isB_keepH HI.out hbW) (Nat.le_trans hBsz hbW.size)))).mono ?_; rintro e w2 ⟨rfl, ⟨hI2, hb2⟩, hk2⟩))
    have hkk : KeptB w.heap.size W w2 := keptB_t (keptB_below hbW) hk2
    have hbx2 := hkk (w.heap.size + 1) _ (by omega) hbx (fun cs f e => by cases e)
    have hBW2 : Below w.heap.size W w2 := (hbW.mono hBsz).trans hb2
    rw [cells_app, ← srcT_snoc] at hI2
    refine ⟨⟨hBW2.size, fun k o hk ho hc => hkk k o (by simp at hk; omega) ho (fun cs f e => by rw [e] at hc; cases hc)⟩, ⟨hBW2, fun v hv => ?_⟩, ⟨hI2, hbx2⟩, hB.trans hBW2⟩
    have e1 := (cell_of_row _ _ 0 _ _ _ hbx).trans rfl
    have e2 := (cell_of_row _ _ 0 _ _ _ hbx2).trans rfl
    rw [e1] at hv
    rw [e2]; exact hv
  case done =>
    rintro D ys W hD rfl ⟨⟨hI, hbx⟩, hB⟩ hK
    have HSt := Lib.hid (Tryz.Builder_String_any_k w.heap.size w.heap.size (srcT ys) W hI hB.size)
    clear hI
    gi_wp2_with (refine ⟨trivial, ?_⟩; gi_at_call 20; refine (callsIn_wide.2 HSt.out).mono ?_; rintro e w1 ⟨rfl, -, hb1, hk1⟩)
    have hK1 := hk1 D _ hK (fun e => by cases e; simp at hD; omega) (fun c fz e => by cases e)
    refine ⟨by simp, .inl ⟨_, _, rfl, run_takeDeferred hK1, ?_⟩⟩
    exact ⟨_, results_tmp rfl _ _ _, by rw [← hXS]; rfl, (hB.trans hb1).trans (belowK_b (w := w) (Nat.le_refl _) w1 D _ _ (by simp at hD; omega) hK1 rfl rfl)⟩
  case stop =>
    rintro D c pre W _ _ h _
    exact h.elim
end Go.Proofs.YtnoeeediicaooaaGreatDoor
namespace Go.Proofs.YtnoeeediicaooaaGreatDoor
open Go.RowKit
set_option linter.unusedSimpArgs false
set_option linter.unusedVariables false

theorem dec_lenB : ∀ (k u : Nat), u < 10 ^ (k + 1) → (Lib.decDigits u).length ≤ k + 1
  | 0, u, h => by
    rw [Lib.decDigits, dif_pos (by simpa using h)]
    simp
  | k + 1, u, h => by
    rw [Lib.decDigits]
    split
    · simp
    · have : u / 10 < 10 ^ (k + 1) := by
        rw [Nat.pow_succ] at h
        exact Nat.div_lt_of_lt_mul (by omega)
      have := dec_lenB k (u / 10) this
      simp
      omega
theorem itoa_3 {v : Int} (h0 : 0 ≤ v) (h1 : v < 256) : (Lib.itoa v).length ≤ 3 := by
  unfold Lib.itoa
  rw [if_neg (by omega)]
  exact dec_lenB 2 v.toNat (by omega)
theorem itoa_6 {v : Int} (h0 : -65536 ≤ v) (h1 : v < 65536) : (Lib.itoa v).length ≤ 6 := by
  unfold Lib.itoa
  split
  · have := dec_lenB 4 v.natAbs (by omega)
    simp
    omega
  · have := dec_lenB 4 v.toNat (by omega)
    omega
theorem show_lenB {op a b imm : Int} (hm : Isa.mayB (Isa.fm op false) a b imm = true) (i0 : -2147483648 ≤ imm) (i1 : imm < 2147483648) : (showL op a b imm).length + 1 ≤ 20 * (Isa.fm op false).n.toNat := by
  have hi : (Lib.itoa imm).length ≤ 6 ∧ 1 ≤ (Isa.fm op false).n ∨ (Isa.fm op false).n = 6 := by
    rcases Isa.fm_is op false with h | h | h | h | h | h | h | h | h | h
    all_goals
      rw [h] at hm ⊢
      simp [Isa.mayB, Isa.fitsB] at hm
    all_goals first
      | exact .inr rfl
      | exact .inl ⟨itoa_6 (by omega) (by omega), by decide⟩
  have hi20 := itoa_len imm i0 i1
  have key : (showL op a b imm).length ≤ 12 + (Lib.itoa imm).length := by
    unfold showL
    split
    · split
      · rename_i n hf
        obtain ⟨k, hk⟩ := List.getElem?_of_mem (List.mem_of_find?_eq_some hf)
        obtain ⟨_, _, _, _, hw⟩ := nm_is hk
        unfold Nm.show regL numL
        simp only [List.length_append]
        split <;> split <;> split <;> simp <;> omega
      · simp
    · simp
  omega

/-- A line that is one byte. -/
theorem byte_line (again : Bool) (S : St) (k : Int) {v : Int} (h0 : 0 ≤ v) (h1 : v < 256) (h2 : S.at' + 1 ≤ 4096) :
    doF false S k [wByte, Lib.itoa v] = .ok { S with at' := S.at' + 1 } ∧ ((S.bytes.length : Int) = S.at' → doF true S k [wByte, Lib.itoa v] = .ok { S with at' := S.at' + 1, bytes := S.bytes ++ [v], marks := S.marks ++ [(S.at', k)] }) := by
  have hn := number_itoa (v := v) (by omega) (by omega)
  have hb : ∀ again, bytesF again [Lib.itoa v] = .ok [v] := fun again => by
    unfold bytesF bytesF
    rw [hn]
    rw [if_neg (by simp; omega)]
    simp only
    rw [show v % 256 = v by omega]
  have hp : ∀ again, doF again S k [wByte, Lib.itoa v] = layF again S k [v] := fun again => by
    rw [do_plain again S k (ws := [wByte, Lib.itoa v]) (by simp) (show wByte.getLast? ≠ some 58 by decide)]
    unfold stepF
    simp only [List.headD_cons, List.tail_cons]
    rw [if_neg (show ¬ wByte = wOrg by decide), if_neg (show ¬ wByte = wSpace by decide), if_neg (show ¬ wByte = wAlign by decide), if_pos trivial, if_neg (by simp), hb]
  rw [hp, hp]
  exact ⟨lay_first k [v] (by simpa using h2), fun h => lay_ok k [v] h (by simpa using h2)⟩
/-- What stands at a place, as a line. -/
theorem one_line {L : List Int} (hb : ∀ x ∈ L, 0 ≤ x ∧ x < 256) {a : Nat} (ha : a < L.length) :
    (∀ c ∈ oneT L a, c ≠ 10) ∧ (oneT L a).length + 1 ≤ 20 * (oneN L a).toNat ∧ ∀ (S : St) (k : Int), S.at' + oneN L a ≤ 4096 →
      doF false S k (lineW (oneT L a)) = .ok { S with at' := S.at' + oneN L a } ∧
      ((S.bytes.length : Int) = S.at' → ∃ ms, doF true S k (lineW (oneT L a)) = .ok { S with at' := S.at' + oneN L a, bytes := S.bytes ++ (L.drop a).take (oneN L a).toNat, marks := ms }) := by
  have hbd : ∀ x ∈ L.drop a, 0 ≤ x ∧ x < 256 := fun x hx => hb x (List.mem_of_mem_drop hx)
  unfold oneT oneN
  by_cases c : (Isa.decR false (L.drop a)).err = 0
  · rw [if_pos c, if_pos c]
    obtain ⟨hm, he, n1, n2, o0, o1, a0, a1, b0, b1, i0, i1⟩ := Isa.once_law hbd c
    generalize Isa.decR false (L.drop a) = R at *
    obtain ⟨op, ra, rb, imm, sz, err⟩ := R
    simp only at *
    have hok : insOk ⟨op, ra, rb, imm, ⟨o0, o1, a0, a1, b0, b1, i0, i1⟩⟩ = true := hm
    obtain ⟨n, hn, ho, hlw, h10⟩ := ins_line hok
    simp only at ho hlw h10
    have hlen := encL_len hm
    have hszn : (Isa.fm op false).n = sz := by
      rw [he, List.length_take] at hlen
      have : (L.drop a).length = (L.drop a).length := rfl
      omega
    refine ⟨h10, ?_, fun S k hS => ?_⟩
    · have := show_lenB hm i0 i1
      rw [hszn] at this
      exact this
    · rw [hlw]
      have hm' : Isa.mayB (Isa.fm n.op false) ra rb imm = true := by rw [ho]; exact hm
      obtain ⟨p1, p2⟩ := line_instr hn hm' a0 b0 i0 i1 S k (by rw [ho]; omega)
      rw [ho, hszn] at p1 p2
      refine ⟨p1, fun hl => ⟨S.marks ++ [(S.at', k)], ?_⟩⟩
      rw [p2 hl, he]
  · rw [if_neg c, if_neg c]
    have hx : 0 ≤ L.getD a 0 ∧ L.getD a 0 < 256 := by
      have : L.getD a 0 = L[a] := by simp [List.getD, List.getElem?_eq_getElem ha]
      rw [this]; exact hb _ (List.getElem_mem ha)
    have hj : ([46, 98, 121, 116, 101, 32] ++ Lib.itoa (L.getD a 0) : List UInt8) = joinF [wByte, Lib.itoa (L.getD a 0)] := by simp [joinF, wByte]
    rw [hj]
    have hws : ∀ x ∈ [wByte, Lib.itoa (L.getD a 0)], x ≠ [] ∧ ∀ c ∈ x, blankB c = false ∧ c ≠ 59 ∧ c ≠ 10 := fun x hx => by
      simp only [List.mem_cons, List.not_mem_nil, or_false] at hx
      rcases hx with rfl | rfl
      · exact okW (by decide)
      · exact ⟨(itoa_head _).2.1, (itoa_head _).2.2⟩
    refine ⟨join_no10 _ (fun x hx c hc => ((hws x hx).2 c hc).2.2), ?_, fun S k hS => ?_⟩
    · have h3 : (Lib.itoa (L.getD a 0)).length ≤ 3 := itoa_3 hx.1 hx.2
      have e : (joinF [wByte, Lib.itoa (L.getD a 0)]).length = 6 + (Lib.itoa (L.getD a 0)).length := by
        generalize Lib.itoa (L.getD a 0) = t
        simp [joinF, wByte]
        omega
      rw [e, show (1 : Int).toNat = 1 from rfl]
      omega
    · rw [lineW_join (by simp) (fun x hx => ⟨(hws x hx).1, fun c hc => ⟨((hws x hx).2 c hc).1, ((hws x hx).2 c hc).2.1⟩⟩)]
      obtain ⟨p1, p2⟩ := byte_line false S k hx.1 hx.2 hS
      refine ⟨p1, fun hl => ⟨S.marks ++ [(S.at', k)], ?_⟩⟩
      rw [p2 hl]
      have h1 : (L.drop a).take (1 : Int).toNat = [L[a]] := by
        rw [List.drop_eq_getElem_cons ha]
        rfl
      have h2 : L.getD a 0 = L[a] := by simp [List.getD, List.getElem?_eq_getElem ha]
      rw [h1, h2]
theorem back_pass (L : List Int) (hb : ∀ x ∈ L, 0 ≤ x ∧ x < 256) (hL : L.length ≤ 400) : ∀ (m a : Nat), L.length - a ≤ m → a ≤ L.length → ∀ (S : St) (k : Int), S.at' = (a : Int) →
    passF false S k (linesF (srcT (srcL L (L.length - a) a))) = .ok { S with at' := (L.length : Int) } ∧
    (S.bytes = L.take a → ∃ T, passF true S k (linesF (srcT (srcL L (L.length - a) a))) = .ok T ∧ T.bytes = L)
  | m, a, hm, ha, S, k, hS => by
    by_cases c : a < L.length
    · have hn := oneN_bd c
      obtain ⟨h10, -, hline⟩ := one_line hb c
      obtain ⟨m, rfl⟩ : ∃ j, m = j + 1 := ⟨m - 1, by omega⟩
      rw [srcL_step L c]
      have e : srcT ((a, plT L a) :: srcL L (L.length - (a + (oneN L a).toNat)) (a + (oneN L a).toNat)) = oneT L a ++ 10 :: srcT (srcL L (L.length - (a + (oneN L a).toNat)) (a + (oneN L a).toNat)) := by
        unfold srcT
        rw [List.flatMap_cons]
        simp only
        rw [plT_eq hb c]
        simp
      rw [e, linesF_cons _ _ h10]
      simp only [passF]
      obtain ⟨p1, p2⟩ := hline S (k + 1) (by omega)
      constructor
      · rw [p1]
        simp only
        exact (back_pass L hb hL m (a + (oneN L a).toNat) (by omega) (by omega) { S with at' := S.at' + oneN L a } (k + 1) (by simp only; omega)).1
      · intro hbs
        obtain ⟨ms, p2⟩ := p2 (by rw [hbs, List.length_take]; omega)
        rw [p2]
        simp only
        exact (back_pass L hb hL m (a + (oneN L a).toNat) (by omega) (by omega) { S with at' := S.at' + oneN L a, bytes := S.bytes ++ (L.drop a).take (oneN L a).toNat, marks := ms } (k + 1) (by simp only; omega)).2 (by simp only; rw [hbs, List.take_add])
    · obtain rfl : a = L.length := by omega
      rw [srcL_end L _ _ (Nat.le_refl _)]
      have e : linesF (srcT []) = [[]] := rfl
      rw [e]
      simp only [passF, doF, if_true]
      refine ⟨?_, fun h => ⟨S, rfl, by rw [h, List.take_length]⟩⟩
      rw [← hS]
theorem back_len (L : List Int) (hb : ∀ x ∈ L, 0 ≤ x ∧ x < 256) : ∀ (m a : Nat), L.length - a ≤ m → a ≤ L.length →
    (srcT (srcL L (L.length - a) a)).length ≤ 20 * (L.length - a) ∧ (srcT (srcL L (L.length - a) a)).count 10 ≤ L.length - a ∧ (srcT (srcL L (L.length - a) a) ≠ [] → (srcT (srcL L (L.length - a) a)).getLast? = some 10)
  | m, a, hm, ha => by
    by_cases c : a < L.length
    · have hn := oneN_bd c
      obtain ⟨h10, hlen, -⟩ := one_line hb c
      obtain ⟨m, rfl⟩ : ∃ j, m = j + 1 := ⟨m - 1, by omega⟩
      rw [srcL_step L c]
      have e : srcT ((a, plT L a) :: srcL L (L.length - (a + (oneN L a).toNat)) (a + (oneN L a).toNat)) = oneT L a ++ 10 :: srcT (srcL L (L.length - (a + (oneN L a).toNat)) (a + (oneN L a).toNat)) := by
        unfold srcT
        rw [List.flatMap_cons]
        simp only
        rw [plT_eq hb c]
        simp
      obtain ⟨h1, h2, h3⟩ := back_len L hb m (a + (oneN L a).toNat) (by omega) (by omega)
      rw [e]
      generalize srcT (srcL L (L.length - (a + (oneN L a).toNat)) (a + (oneN L a).toNat)) = X at h1 h2 h3
      refine ⟨by simp only [List.length_append, List.length_cons]; omega, ?_, fun _ => ?_⟩
      · rw [List.count_append, List.count_eq_zero.2 (fun hm => h10 10 hm rfl), List.count_cons]
        simp
        omega
      · by_cases ex : X = []
        · rw [ex]; simp
        · rw [List.getLast?_append, List.getLast?_cons, h3 ex]; rfl
    · obtain rfl : a = L.length := by omega
      rw [srcL_end L _ _ (Nat.le_refl _)]
      simp [srcT]
theorem back_law32 (L : List Int) (hb : ∀ x ∈ L, 0 ≤ x ∧ x < 256) (hL : L.length ≤ 400) : ∃ S, asmF (srcT (srcL L L.length 0)) = .ok S ∧ S.bytes = L := by
  obtain ⟨h1, h2, h3⟩ := back_len L hb L.length 0 (by omega) (by omega)
  have hp := back_pass L hb hL L.length 0 (by omega) (by omega)
  simp only [Nat.sub_zero] at h1 h2 h3 hp
  have hlong : longB (srcT (srcL L L.length 0)) = false := by
    unfold longB
    have : (if srcT (srcL L L.length 0) ≠ [] ∧ (srcT (srcL L L.length 0)).getLast? ≠ some 10 then 1 else 0) = 0 := if_neg (fun h => h.2 (h3 h.1))
    rw [this]
    simp only [Bool.or_eq_false_iff, decide_eq_false_iff_not]
    omega
  unfold asmF
  rw [hlong]
  simp only [Bool.false_eq_true, if_false]
  rw [(hp ⟨0, [], [], []⟩ 0 rfl).1]
  simp only
  exact (hp ⟨0, [], [], []⟩ 0 rfl).2 rfl
end Go.Proofs.YtnoeeediicaooaaGreatDoor
namespace Go.Proofs.YtnoeeediicaooaaGreatDoor
open Go.RowKit
set_option linter.unusedSimpArgs false
set_option linter.unusedVariables false
set_option maxRecDepth 100000

theorem asm32_c (L : List UInt8) (hL : L.length ≤ 9223372036854775807) (w : World) (HT : Hid (pTab w)) : Calls Tryz.prog 6 #[.string ⟨L.toArray⟩] w (AsmP (asmF L) w) :=
  (callsIn_wide (n := 9)).1 (asm_in 9 (by omega) L hL w HT)
theorem source32_c (ao : Option Addr) (la ca : Nat) (L : List Int) (hL : L.length ≤ 400) (w : World) (hA : ByteArg w ao la ca L) (HT : Hid (pTab w)) :
    Calls Tryz.prog 9 #[.slice ao la ca] w fun e W' => e = .returned (.string ⟨(srcT (srcL L L.length 0)).toArray⟩) ∧ Below w.heap.size w W' :=
  (callsIn_wide (n := 4)).1 (source_in 4 (by omega) ao la ca L hL w hA HT)
/-- What lies as an owned row of bytes is, as a string, just these bytes. -/
theorem conv_own32 {w : World} {base n : Nat} {v : Value} {L : List Int} (h : w.ownsRow base 5 1 v n (L.map (Value.int .u8))) :
    (convert 22 9 v).run Tryz.prog w = .ok (.string (strOfNums L)) w := by
  have hl : L.length = n := by have := h.1; simpa using this
  rcases h.2 with ⟨rfl, h2⟩ | ⟨g, cap, cur, rfl, -, -, -⟩
  · have : L = [] := List.eq_nil_of_length_eq_zero (by omega)
    subst this
    rw [run_convert_bytes_nil (w := w) 22 5 Tryz.underlying22 Tryz.underlying5 0 0 9 Tryz.underlying9]
    rfl
  · refine run_convert_bytes_arg w 22 5 Tryz.underlying22 Tryz.underlying5 g 0 n cap L hl (fun i hi => ?_) 9 Tryz.underlying9
    have := h.cellAt i (by omega)
    simp only [Nat.zero_add]
    rw [this]
    simp [List.getElem?_eq_getElem (show i < L.length by omega)]
theorem conv_arg32 {w : World} {ao : Option Addr} {n cap : Nat} {L : List Int} (h : ByteArg w ao n cap L) :
    (convert 22 9 (.slice ao n cap)).run Tryz.prog w = .ok (.string (strOfNums L)) w := by
  obtain ⟨h1, h2, h3, h4, h5⟩ := h
  cases ao with
  | none =>
    rcases h5 with h5 | ⟨blk, off, e, -⟩
    · subst h5
      subst h1
      rw [run_convert_bytes_nil (w := w) 22 5 Tryz.underlying22 Tryz.underlying5 _ _ 9 Tryz.underlying9]
      rfl
    · cases e
  | some a =>
    rcases h5 with h5 | ⟨blk, off, e, h6⟩
    · subst h5
      subst h1
      rw [run_convert_bytes_string w 22 9 5 _ _ _ Tryz.underlying22 Tryz.underlying5 Tryz.underlying9]
      exact run_bytesToString w a 0 cap [] rfl
    · cases e
      exact run_convert_bytes_arg w 22 5 Tryz.underlying22 Tryz.underlying5 blk off n cap L h1 (fun i hi => h6 i (by omega)) 9 Tryz.underlying9
theorem own_below32 {W w1 : World} {base n s : Nat} {e : TypeId} {v : Value} {xs : List Value} (hb : Below W.heap.size W w1) (h : W.ownsRow base e s v n xs) : w1.ownsRow base e s v n xs :=
  own_keepA h (fun g cur hg => hb.block g (heap_ltA hg))

set_option maxHeartbeats 8000000 in
theorem back32_walk (ao : Option Addr) (len cap : Nat) (L : List Int) (w : World) (HT : Hid (pTab w)) (hy : ByteArg w ao len cap L) :
    Calls Tryz.prog 4 #[.slice ao len cap] w fun e w' => e = .returned (.bool true) ∧ Below w.heap.size w w' := by
  have HF := Lib.hid (few_c ao len cap L w hy)
  have HW := Lib.hid works_c
  have hlf := few_len L
  clear hy
  generalize fewL L = l at HF hlf
  go_enter Tryz.func4, Tryz.ntmps4
  go_wp2_with fail
  refine HF.out.mono ?_
  rintro e w1 ⟨⟨ca, rfl, hA⟩, hw⟩
  have hw := hw.symm
  subst hw
  have hbd := hA.2.2.2.1
  obtain ⟨S, hS, hSb⟩ := back_law32 l hbd hlf
  have HSo := Lib.hid fun (W : World) (h : ByteArg W ao l.length ca l) (HT : Hid (pTab W)) => source32_c ao l.length ca l hlf W h HT
  obtain ⟨T, hT⟩ : ∃ T, T = srcT (srcL l l.length 0) := ⟨_, rfl⟩
  rw [← hT] at hS HSo
  have hlen : T.length ≤ 9223372036854775807 := by
    have h1 := (back_len l hbd l.length 0 (by omega) (by omega)).1
    simp only [Nat.sub_zero] at h1
    rw [hT]
    omega
  have HAs := Lib.hid fun (W : World) (HT : Hid (pTab W)) => asm32_c T hlen W HT
  rw [hS] at HAs
  have HA := Lib.hid hA
  have HSb := Lib.hid hSb
  clear hS hSb hT hlen hbd hA HF
  generalize hsT : (⟨T.toArray⟩ : ByteArray) = sT at HAs HSo
  clear hsT
  go_wp2_with fail
  refine (HSo.out _ HA.out HT).mono ?_
  rintro e w2 ⟨rfl, hb2⟩
  go_wp2_with fail
  refine (HAs.out _ (pTab_onP HT hb2)).mono ?_
  rintro e w3 ⟨hb3, vB, vL, vM, rfl, o1, o2, o3⟩
  obtain ⟨aB, cB, rfl⟩ := own_sliceA o1
  obtain ⟨aL, cL, rfl⟩ := own_sliceA o2
  obtain ⟨aM, cM, rfl⟩ := own_sliceA o3
  have hB3 : Below w.heap.size w w3 := hb2.trans (hb3.mono hb2.size)
  have k1 := conv_own32 (own_below32 (w1 := w3.alloc (.cells #[.slice aB S.bytes.length cB, .slice aL S.labels.length cL, .slice aM S.marks.length cM] 27)) ((Below.refl _ _).alloc (Nat.le_refl _) _) o1)
  have k2 := conv_arg32 (HA.out.belowL (w' := w3.alloc (.cells #[.slice aB S.bytes.length cB, .slice aL S.labels.length cL, .slice aM S.marks.length cM] 27)) (hB3.alloc hB3.size _))
  rw [show strOfNums S.bytes = strOfNums l by rw [HSb.out]] at k1
  have hsz := hB3.size
  clear o1 o2 o3
  generalize strOfNums l = sl at k1 k2
  go_wp2_with fail
  refine (HW.out _ (pTab_onP HT (hB3.alloc hB3.size _))).mono ?_
  rintro e w5 ⟨rfl, hb5⟩
  go_wp2_with fail
  go_ret
  exact ⟨rfl, (hB3.alloc hB3.size _).trans (hb5.mono (by simp; omega))⟩
end Go.Proofs.YtnoeeediicaooaaGreatDoor
