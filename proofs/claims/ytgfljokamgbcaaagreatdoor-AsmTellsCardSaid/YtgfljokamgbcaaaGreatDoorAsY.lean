/- A range over a function with boxes of its own, whose loop's variable is boxed; and what of asm's work abides its loop. -/
import Derived.Test.YtgfljokamgbcaaaGreatDoorAsX
namespace Go.Proofs.YtgfljokamgbcaaaGreatDoor
open Go.RowKit Go.Shelf
set_option linter.unusedSimpArgs false
set_option linter.unusedVariables false

section
variable {F : Fence} {n : Nat} {P : Program} {w : World}

/-- THE LAW, WHERE THE LOOP's VARIABLE IS BOXED: each round lays a block for it. -/
theorem rangeOwnA {α : Type} {g : Operand} {ps : Array Tmp} {assign body : Code} {Q : Exit → Act → World → Prop} {a : Act}
    (hro : F.round = none) (h1 : 1 ≤ n) {gf : Nat} {lb : Array Value} (hg : a.eval g = .func (.func gf) #[] lb) (hFg : F.fn gf) (eg : ∀ args w, (callFunc gf args).run P w = .ok (.enter gf args) w)
    {encs : α → Array Value} {Ts : List TypeId} {B : Nat} {Ok : List α → α → World → Prop} {S Sp : List α → Prop} {w0 : World} (hit : IterC F (n - 1) P gf lb encs Ts B Ok S Sp w0) (hb0 : Below w0.heap.size w0 w) (hps : ∀ x, (encs x).size = ps.size)
    (hOk : ∀ pre x W l o o', Ok pre x W → W.heap[l]? = some o → o.isCells = false → Ok pre x (W.putObj l o'))
    (I : List α → World → Prop) (Ix : Code → List α → World → Prop) (hI : OwnFrom w.heap.size I) (hSt : Stb Ts B I) (hIx : ∀ c, OwnFrom w.heap.size (Ix c)) (h0 : I [] w) (Ax : α → Act → World → Prop) (hAx : ∀ x a' W l o o', Ax x a' W → W.heap[l]? = some o → o.isCells = false → Ax x a' (W.putObj l o'))
    (hOkB : ∀ pre x W W', Ok pre x W → Below W.heap.size W W' → Ok pre x W')
    (hassign : ∀ (l : Nat) (x : α) (W : World) (K : Act → World → Prop), (∀ a' W', Below W.heap.size W W' → Ax x a' W' → K a' W') →
      assign.wpIn (F.inRound l) (n - 1 - 1) P (Exit.then K (fun _ _ _ => False)) { tmps := (ps.zip (encs x)).foldl (fun t (p, v) => t.setIfInBounds p v) a.tmps, defers := [] } W)
    (hbody : ∀ (l : Nat) (pre : List α) (x : α) (a' : Act) (W : World), I pre W → Ok pre x W → Ax x a' W → body.wpIn (F.inRound l) (n - 1 - 1) P (ownPostG w.heap.size (KpT Ts B) I Ix (pre ++ [x]) W) a' W)
    (hdone : ∀ (D : Nat) (xs : List α) (W : World), w.heap.size ≤ D → S xs → I xs W → W.heap[D]? = some (.deferred (some [])) → Q .normal { a with defers := { target := .collected D, args := #[] } :: a.defers } W)
    (hstop : ∀ (D : Nat) (c : Code) (pre : List α) (W : World), w.heap.size ≤ D → Sp pre → Ix c pre W → W.heap[D]? = some (.deferred (some [])) → c.wpIn F n P Q { a with defers := { target := .collected D, args := #[] } :: a.defers } W) :
    (Code.rangeFunc g ps assign body).wpIn F n P Q a w := by
  refine wpIn_rangeFunc fun fn hfn => ?_
  rw [hro]
  obtain ⟨rc, hrc⟩ : ∃ rc : LoopState → Option Code → Loop, rc = fun st pe => { state := st, pending := pe, fn, tmps := a.tmps, params := ps, assign, body, defers := w.heap.size } := ⟨_, rfl⟩
  obtain ⟨V, hV⟩ : ∃ V, V = (w.alloc (.deferred (some []))).alloc (.loop (rc .ready none)) := ⟨_, rfl⟩
  have bk : Books w.heap.size (rc .ready none) V := by
    constructor
    · have h := World.alloc_heap_new (w.alloc (.deferred (some []))) (.loop (rc .ready none))
      rw [World.size_alloc] at h
      rw [hV]
      exact h
    · rw [hV]
      exact (Below.heap_alloc _ _ _ (by simp)).trans (World.alloc_heap_new w _)
  refine ⟨w.heap.size + 1, [{ target := .collected w.heap.size, args := #[] }], V, { target := .fn (.func gf) lb, args := #[.func (.yield (w.heap.size + 1)) #[] #[]] }, V, gf, #[.func (.yield (w.heap.size + 1)) #[] #[]] ++ lb, V, ?_, ?_, ?_, ?_, fun _ => h1, ?_⟩
  · rw [hV, hrc]; exact run_enterLoop_outer _ _ _ _ _
  · simp only [resolve, hg]
    simp [go_sem]
  · intro f' hf'
    simp [Target.leads] at hf'
    subst hf'
    exact hFg
  · simp [invoke, go_sem, eg]
  have hbV : Below w0.heap.size w0 V := by
    rw [hV]
    exact hb0.trans ((((Below.refl _ w).alloc (Nat.le_refl _) _).alloc (by simp) _).mono hb0.size)
  have hVs : V.heap.size = w.heap.size + 2 := by rw [hV]; simp
  have hIV : I [] V := by rw [hV]; exact hI.alloc _ (hI.alloc _ h0)
  refine (hit (w.heap.size + 1) (fun pre W => I pre W ∧ Books w.heap.size (rc .ready none) W) (fun pre W => ∃ c, Ix c pre W ∧ Books w.heap.size (rc .done (some c)) W) V hbV
    (fun s X Y h hs => ⟨hSt s X Y h.1 hs, h.2.istep hs⟩)
    (fun s X Y row h hg hr => ⟨hI s X Y row h.1 hg (fun r e => ⟨Nat.le_trans (by omega) (hr r e).1, (hr r e).2⟩), h.2.grown (B := V.heap.size) (by omega) hg (fun r e => (hr r e).1)⟩)
    (fun s X Y row h hg hr => by
      obtain ⟨c, hc, hb⟩ := h
      exact ⟨c, hIx c s X Y row hc hg (fun r e => ⟨Nat.le_trans (by omega) (hr r e).1, (hr r e).2⟩), hb.grown (B := V.heap.size) (by omega) hg (fun r e => (hr r e).1)⟩) ?_ ⟨hIV, bk⟩).mono ?_
  · rintro pre x W0 ⟨hi0, hk0⟩ hok0
    have hy := run_yield (P := P) (args := encs x) hk0.loop (by rw [hrc]; exact hps x)
    rw [hrc] at hy
    refine ⟨fn, _, assign, body, hy, roundIn_of_wpIn hfn (hassign _ x W0 _ ?_)⟩
    intro a' W hbw hax
    have hk := hk0.istep (Ts := Ts) (B := w.heap.size + 2) (.inl hbw)
    have hi := hSt pre W0 W hi0 (.inl hbw)
    have hok := hOkB pre x W0 W hok0 hbw
    refine ⟨_, run_beginRound hk.loop (by rw [hrc]), ?_⟩
    have hk2 := hk.put { rc .ready none with state := .busy }
    refine wpIn_mono (hbody _ pre x a' _ (hI.putObj _ hi (by omega) hk.loop rfl) (hOk _ _ _ _ _ _ hok hk.loop rfl) (hAx _ _ _ _ _ _ hax hk.loop rfl)) ?_
    have keeps : ∀ (Z : World), KeepsFrom w.heap.size (W.putObj (w.heap.size + 1) (.loop { rc .ready none with state := .busy })) Z → ∀ r', KeepsFrom V.heap.size W0 (Z.putObj (w.heap.size + 1) (.loop r')) := fun Z hz r' => by
      refine ⟨by have := hz.size; have h2 := hbw.size; simp at this ⊢; omega, fun g o hg ho hc => ?_⟩
      have h1 := hz.same g o (by omega) ((World.putObj_heap_other (by omega)).trans ((hbw.block g (Array.getElem?_eq_some_iff.1 ho).1).trans ho)) hc
      exact (World.putObj_heap_other (by omega)).trans h1
    have done : ∀ (j : Option Code) (Z : World), KeepsFrom w.heap.size (W.putObj (w.heap.size + 1) (.loop { rc .ready none with state := .busy })) Z →
        (Instr.endRound (w.heap.size + 1) j).run P Z = .ok (.bool j.isNone) (Z.putObj (w.heap.size + 1) (.loop (rc (if j.isNone then .ready else .done) j))) ∧
        Books w.heap.size { rc .ready none with state := .busy } Z := fun j Z hz => by
      have hz2 := hk2.keeps hz
      have hr := run_endRound (P := P) j hz2.loop
      rw [hrc] at hr hz2 ⊢
      exact ⟨hr, hz2⟩
    intro e a3 Z hp
    cases e with
    | normal =>
      obtain ⟨p1, p2, p3⟩ := hp
      obtain ⟨hr, hz⟩ := done none Z p1
      refine ⟨_, _, hr, keeps Z p1 _, .inl ⟨rfl, ⟨hI.putObj _ p3 (by omega) hz.loop rfl, hz.put _⟩, ?_⟩⟩
      have hk0p : KpT Ts B W0 W := ⟨hbw.size, fun g cur T _ _ hg => (hbw.block g (Array.getElem?_eq_some_iff.1 hg).1).trans hg⟩
      exact hk0p.trans ((KpT.put hk.loop rfl).trans (p2.trans (KpT.put hz.loop rfl)))
    | ret =>
      obtain ⟨hr, hz⟩ := done (some .ret) Z hp.1
      exact ⟨_, _, hr, keeps Z hp.1 _, .inr ⟨rfl, .ret, (hIx _).putObj _ hp.2 (by omega) hz.loop rfl, hz.put _⟩⟩
    | exit id =>
      obtain ⟨hr, hz⟩ := done (some (.exit id)) Z hp.1
      exact ⟨_, _, hr, keeps Z hp.1 _, .inr ⟨rfl, .exit id, (hIx _).putObj _ hp.2 (by omega) hz.loop rfl, hz.put _⟩⟩
    | goto t =>
      obtain ⟨hr, hz⟩ := done (some (.goto t)) Z hp.1
      exact ⟨_, _, hr, keeps Z hp.1 _, .inr ⟨rfl, .goto t, (hIx _).putObj _ hp.2 (by omega) hz.loop rfl, hz.put _⟩⟩
    | panic c => exact hp.elim
    | outgrown => exact hp.elim
  · rintro e Z ⟨⟨v, rfl⟩, ⟨xs, hS, hi, hk⟩ | ⟨pre, hSp, c, hi, hk⟩⟩
    · have h := run_endLoop (P := P) hk.loop (by rw [hrc]; simp)
      rw [hrc] at h
      exact ⟨none, _, h, hdone _ xs _ (Nat.le_refl _) hS (hI.putObj _ hi (by omega) hk.loop rfl) ((World.putObj_heap_other (by omega)).trans hk.defs)⟩
    · have h := run_endLoop (P := P) hk.loop (by rw [hrc]; simp)
      rw [hrc] at h
      exact ⟨some c, _, h, hstop _ c pre _ (Nat.le_refl _) hSp ((hIx c).putObj _ hi (by omega) hk.loop rfl) ((World.putObj_heap_other (by omega)).trans hk.defs)⟩
end

/-- A pass over texts in two parts. -/
theorem passF_snoc (again : Bool) : ∀ (l : List (List Wd)) (S : St) (n : Int) (ws : List Wd) (r : List (List Wd)), passF again S n (l ++ ws :: r) = match passF again S n l with
    | .error e => .error e
    | .ok T => match doF again T (n + (l.length : Int) + 1) ws with
      | .error e => .error (n + (l.length : Int) + 1, e)
      | .ok U => passF again U (n + (l.length : Int) + 1) r
  | [], S, n, ws, r => by
    simp only [List.nil_append, passF, List.length_nil]
    rw [show n + ((0 : Nat) : Int) + 1 = n + 1 by omega]
    rfl
  | x :: l, S, n, ws, r => by
    simp only [List.cons_append, passF]
    cases doF again S (n + 1) x with
    | error e => rfl
    | ok T =>
      simp only
      rw [passF_snoc again l T (n + 1) ws r]
      rw [show n + ((x :: l).length : Int) + 1 = n + 1 + (l.length : Int) + 1 by simp; omega]

/-- The bounds of a work. -/
structure StOk (S : St) (k : Nat) : Prop where
  a0 : 0 ≤ S.at'
  a1 : S.at' ≤ 4096
  bl : S.bytes.length ≤ 4096
  ml : S.marks.length ≤ k
  ll : S.labels.length ≤ k
  lb : ∀ p ∈ S.labels, 0 ≤ p.2 ∧ p.2 ≤ 4096
theorem StOk.more {S : St} {k m : Nat} (h : StOk S k) (hm : k ≤ m) : StOk S m := ⟨h.a0, h.a1, h.bl, Nat.le_trans h.ml hm, Nat.le_trans h.ll hm, h.lb⟩
theorem toF_ok {again : Bool} {S T : St} {t : Int} {k : Nat} (h : StOk S k) (h0 : 0 ≤ t) (hT : toF again S t = .ok T) : StOk T k ∧ T.at' = t ∧ T.labels = S.labels ∧ T.marks = S.marks ∧ (again = true → (t.toNat : Nat) ≤ T.bytes.length) := by
  unfold toF at hT
  split at hT
  · cases hT
  · rename_i hn
    cases hT
    refine ⟨⟨h0, by simp only; omega, ?_, h.ml, h.ll, h.lb⟩, rfl, rfl, rfl, fun ha => ?_⟩
    · simp only
      split
      · have := h.bl; simp; omega
      · exact h.bl
    · simp only [ha, if_true]
      simp
      omega
theorem toF_err {again : Bool} {S : St} {t : Int} {e : Int} (hT : toF again S t = .error e) : e = 311 := by
  unfold toF at hT
  split at hT
  · cases hT; rfl
  · cases hT
theorem over_lenY (l b : List Int) (a : Nat) (h : a + b.length ≤ l.length) : (over l a b).length = l.length := by
  unfold over
  simp
  omega
theorem layF_ok {again : Bool} {S T : St} {n : Int} {b : List Int} {k : Nat} (h : StOk S k) (hT : layF again S n b = .ok T) : StOk T (k + 1) := by
  unfold layF at hT
  cases hq : toF again S (S.at' + (b.length : Int)) with
  | error e => rw [hq] at hT; cases hT
  | ok U =>
    rw [hq] at hT
    have ha0 := h.a0
    obtain ⟨hU, u1, u2, u3, u4⟩ := toF_ok h (by omega) hq
    cases again
    · cases hT
      exact hU.more (Nat.le_succ _)
    · cases hT
      have u5 := u4 rfl
      refine ⟨hU.a0, hU.a1, ?_, by have := hU.ml; simp; omega, Nat.le_succ_of_le hU.ll, hU.lb⟩
      show (over U.bytes S.at'.toNat b).length ≤ 4096
      rw [over_lenY _ _ _ (by omega)]
      exact hU.bl
theorem layF_err {again : Bool} {S : St} {n : Int} {b : List Int} {e : Int} (hT : layF again S n b = .error e) : e = 311 := by
  unfold layF at hT
  cases hq : toF again S (S.at' + (b.length : Int)) with
  | error e' => rw [hq] at hT; cases hT; exact toF_err hq
  | ok U => rw [hq] at hT; cases again <;> cases hT
theorem oneF_err {ws : List Wd} {lo hi e : Int} (h : oneF ws lo hi = .error e) : e ≠ 0 := by
  unfold oneF at h
  split at h
  · cases h; decide
  · split at h
    · cases h; decide
    · cases h
theorem valueF_err {again : Bool} {l : List (Wd × Int)} {s : Wd} {e : Int} (h : valueF again l s = .error e) : e ≠ 0 := by
  unfold valueF at h
  split at h
  · cases h
  · split at h
    · cases hf : findL l s with
      | none => rw [hf] at h; cases h; decide
      | some a => rw [hf] at h; cases h
    · split at h
      · cases h
      · cases h; decide
theorem bytesF_err {again : Bool} {e : Int} : ∀ {ws : List Wd}, bytesF again ws = .error e → e ≠ 0
  | [], h => by cases h
  | x :: r, h => by
    unfold bytesF at h
    split at h
    · cases h; decide
    · cases hb : bytesF again r with
      | error e' => rw [hb] at h; cases h; exact bytesF_err hb
      | ok l => rw [hb] at h; cases h
theorem wordsL_err {again : Bool} {l : List (Wd × Int)} {e : Int} : ∀ {ws : List Wd}, wordsL again l ws = .error e → e ≠ 0
  | [], h => by cases h
  | x :: r, h => by
    unfold wordsL at h
    cases hv : valueF again l x with
    | error e' => rw [hv] at h; cases h; exact valueF_err hv
    | ok v =>
      rw [hv] at h
      simp only at h
      cases hb : wordsL again l r with
      | error e' => rw [hb] at h; cases h; exact wordsL_err hb
      | ok l' => rw [hb] at h; cases h
theorem namedF_err {S : St} {ws : List Wd} {op e : Int} (h : namedF S ws op = .error e) : e ≠ 0 := by
  unfold namedF at h
  split at h
  · cases h
  · cases hv : valueF true S.labels (ws.getD (labelled op - 1) []) with
    | error e' => rw [hv] at h; cases h; exact valueF_err hv
    | ok v =>
      rw [hv] at h
      simp only at h
      split at h
      · cases h
      · split at h
        · cases h; decide
        · cases h
theorem instrF_both {again : Bool} {S : St} {n : Int} {ws : List Wd} {op : Int} {k : Nat} (h : StOk S k) : (∀ T, instrF again S n ws op = .ok T → StOk T (k + 1)) ∧ ∀ e, instrF again S n ws op = .error e → e ≠ 0 := by
  have hs6 : 0 ≤ (Isa.fm op false).n ∧ (Isa.fm op false).n ≤ 6 := by rcases Isa.fm_is op false with h | h | h | h | h | h | h | h | h | h <;> rw [h] <;> decide
  have ha := h.a0
  unfold instrF
  split
  · exact ⟨fun T hT => (toF_ok h (by omega) hT).1.more (Nat.le_succ _), fun e he => by rw [toF_err he]; decide⟩
  · cases hn : namedF S ws op with
    | error e => exact ⟨(fun T hT => by cases hT), fun e' he => by cases he; exact namedF_err hn⟩
    | ok l =>
      simp only
      cases hr : readF (joinF l) with
      | error e => exact ⟨(fun T hT => by cases hT), fun e' he => by cases he; rcases read_bad hr with h | h <;> omega⟩
      | ok t =>
        obtain ⟨o, a, b, i⟩ := t
        exact ⟨fun T hT => layF_ok h hT, fun e he => by rw [layF_err he]; decide⟩
theorem stepF_both {again : Bool} {S : St} {n : Int} {ws : List Wd} {k : Nat} (h : StOk S k) : (∀ T, stepF again S n ws = .ok T → StOk T (k + 1)) ∧ ∀ e, stepF again S n ws = .error e → e ≠ 0 := by
  have ha := h.a0
  unfold stepF
  simp only
  split
  · cases h1 : oneF ws 0 2147483647 with
    | error e => exact ⟨(fun T hT => by cases hT), fun e' he => by cases he; exact oneF_err h1⟩
    | ok v =>
      have := oneF_bd h1
      simp only
      split
      · exact ⟨(fun T hT => by cases hT), fun e' he => by cases he; decide⟩
      · exact ⟨fun T hT => (toF_ok h (by omega) hT).1.more (Nat.le_succ _), fun e he => by rw [toF_err he]; decide⟩
  split
  · cases h1 : oneF ws 0 2147483647 with
    | error e => exact ⟨(fun T hT => by cases hT), fun e' he => by cases he; exact oneF_err h1⟩
    | ok v =>
      have := oneF_bd h1
      exact ⟨fun T hT => (toF_ok h (by omega) hT).1.more (Nat.le_succ _), fun e he => by rw [toF_err he]; decide⟩
  split
  · cases h1 : oneF ws 1 64 with
    | error e => exact ⟨(fun T hT => by cases hT), fun e' he => by cases he; exact oneF_err h1⟩
    | ok v =>
      have := oneF_bd h1
      exact ⟨fun T hT => (toF_ok h (Int.mul_nonneg (Int.ediv_nonneg (by omega) (by omega)) (by omega)) hT).1.more (Nat.le_succ _), fun e he => by rw [toF_err he]; decide⟩
  split
  · split
    · exact ⟨(fun T hT => by cases hT), fun e' he => by cases he; decide⟩
    · cases h1 : bytesF again ws.tail with
      | error e => exact ⟨(fun T hT => by cases hT), fun e' he => by cases he; exact bytesF_err h1⟩
      | ok b => exact ⟨fun T hT => layF_ok h hT, fun e he => by rw [layF_err he]; decide⟩
  split
  · split
    · exact ⟨(fun T hT => by cases hT), fun e' he => by cases he; decide⟩
    · cases h1 : wordsL again S.labels ws.tail with
      | error e => exact ⟨(fun T hT => by cases hT), fun e' he => by cases he; exact wordsL_err h1⟩
      | ok b => exact ⟨fun T hT => layF_ok h hT, fun e he => by rw [layF_err he]; decide⟩
  split
  · split
    · exact ⟨(fun T hT => by cases hT), fun e' he => by cases he; decide⟩
    · exact ⟨fun T hT => layF_ok h hT, fun e he => by rw [layF_err he]; decide⟩
  · cases opF (ws.headD []) with
    | none => exact ⟨(fun T hT => by cases hT), fun e' he => by cases he; decide⟩
    | some op => exact instrF_both h
theorem doF_both {again : Bool} {S : St} {n : Int} {ws : List Wd} {k : Nat} (h : StOk S k) : (∀ T, doF again S n ws = .ok T → StOk T (k + 2)) ∧ ∀ e, doF again S n ws = .error e → e ≠ 0 := by
  unfold doF
  split
  · exact ⟨fun T hT => by cases hT; exact h.more (by omega), fun e he => by cases he⟩
  · have hl : (∀ T vs, labelF again S ws = .ok (T, vs) → StOk T (k + 1)) ∧ ∀ e, labelF again S ws = .error e → e ≠ 0 := by
      unfold labelF
      simp only
      split
      · split
        · exact ⟨fun T vs hh => by cases hh; exact h.more (by omega), fun e he => by cases he⟩
        · split
          · exact ⟨fun T vs hh => (by cases hh), fun e he => by cases he; decide⟩
          · refine ⟨fun T vs hh => ?_, fun e he => by cases he⟩
            cases hh
            refine ⟨h.a0, h.a1, h.bl, Nat.le_succ_of_le h.ml, by have := h.ll; simp; omega, fun p hp => ?_⟩
            rcases List.mem_append.1 hp with hp | hp
            · exact h.lb p hp
            · have : p = ((ws.headD []).dropLast, S.at') := by simpa using hp
              rw [this]
              exact ⟨h.a0, h.a1⟩
      · exact ⟨fun T vs hh => by cases hh; exact h.more (by omega), fun e he => by cases he⟩
    cases hL : labelF again S ws with
    | error e => exact ⟨(fun T hT => by cases hT), fun e' he => by cases he; exact hl.2 e hL⟩
    | ok t =>
      obtain ⟨T, vs⟩ := t
      have hT := hl.1 T vs hL
      simp only
      split
      · exact ⟨fun U hU => by cases hU; exact hT.more (by omega), fun e he => by cases he⟩
      · have := stepF_both (again := again) (n := n) (ws := vs) hT
        exact ⟨fun U hU => (this.1 U hU).more (by omega), this.2⟩
end Go.Proofs.YtgfljokamgbcaaaGreatDoor
