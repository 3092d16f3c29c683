/- asm's work in the heap: its block, its own bytes, labels, marks, its maps; and what a step of it keeps. -/
import Derived.Test.YtgfljokamgbcaaaGreatDoorAsA
import Derived.Laws.Rows
import Derived.Below
import Derived.Maps.Own
import Derived.Maps.OwnOps
import Derived.Maps.OwnSet
import Derived.Maps.Views
import Derived.Maps.AppendAt
import Derived.Deep.AppendLies
import Derived.Deep.LoopGhost
namespace Go.Proofs.YtgfljokamgbcaaaGreatDoor
open Go.RowKit Go.ChangeMaps
set_option linter.unusedSimpArgs false
set_option linter.unusedVariables false

def wkA (S : St) (again : Bool) (pb ob : Nat) (vB vL vM : Value) : Array Value := #[.int .i64 S.at', .bool again, .map (some pb), .map (some ob), vB, vL, vM]
def labA (p : Wd × Int) : List Value := [.string ⟨p.1.toArray⟩, .int .i64 p.2]
def mrkA (p : Int × Int) : List Value := [.int .i64 p.1, .int .i64 p.2]

/-- A map from words to numbers. -/
def SMap (w : World) (e : TypeId) (q : IntKind) (b n : Nat) (f : Wd → Option Int) : Prop :=
  ∃ D : DataW Unit, w.ownsMap Tryz.prog 9 (plainElem Tryz.prog e) b n D ∧ Go.Maps.IsMap D ∧ ∀ s : Wd, s.length ≤ maxLen → Go.Maps.has D (.string s) = (f s).isSome ∧ D.atKey (.string s) (.lit (.int q 0)) = .lit (.int q ((f s).getD 0))

theorem SMap.kept {w w' : World} {e : TypeId} {q : IntKind} {b n : Nat} {f : Wd → Option Int} (h : SMap w e q b n f) {row : Option Nat} (hg : w.grownBy w' row) (hne : some b ≠ row) : SMap w' e q b n f := by
  obtain ⟨D, h1, h2⟩ := h
  exact ⟨D, h1.kept hg hne, h2⟩
theorem SMap.lt {w : World} {e : TypeId} {q : IntKind} {b n : Nat} {f : Wd → Option Int} (h : SMap w e q b n f) : b < w.heap.size := by
  obtain ⟨D, h1, h2⟩ := h
  exact h1.lt
theorem SMap.heap {w : World} {e : TypeId} {q : IntKind} {b n : Nat} {f : Wd → Option Int} (h : SMap w e q b n f) : ∃ es clock, w.heap[b]? = some (.map es clock) := by
  obtain ⟨D, ⟨es, clock, hb, _⟩, _⟩ := h
  exact ⟨es, clock, hb⟩
/-- The block's own object is what the map says. -/
theorem SMap.same {w w' : World} {e : TypeId} {q : IntKind} {b n : Nat} {f : Wd → Option Int} (h : SMap w e q b n f) (hb : w'.heap[b]? = w.heap[b]?) : SMap w' e q b n f := by
  obtain ⟨D, ⟨es, clock, h1, h2⟩, h3⟩ := h
  exact ⟨D, ⟨es, clock, hb.trans h1, h2⟩, h3⟩

structure AsFix (base wk pb ob : Nat) (again : Bool) (S : St) (pl : List (Wd × Int)) (vB vL vM : Value) (w : World) : Prop where
  h : w.heap[wk]? = some (.cells (wkA S again pb ob vB vL vM) 44)
  le : base ≤ wk
  lp : base ≤ pb
  lo : base ≤ ob
  ne : pb ≠ ob
  bs : w.ownsRow base 5 1 vB S.bytes.length (S.bytes.map (Value.int .u8))
  ls : w.ownsRow base 61 2 vL S.labels.length (S.labels.flatMap labA)
  ms : w.ownsRow base 63 2 vM S.marks.length (S.marks.flatMap mrkA)
  pm : SMap w 3 .i64 pb pl.length (findL pl)
  om : SMap w 5 .u8 ob 256 opF
def AsIs (base wk pb ob : Nat) (again : Bool) (S : St) (w : World) : Prop := ∃ vB vL vM, AsFix base wk pb ob again S S.labels vB vL vM w

/-- What a step of asm's work keeps of any object. -/
def OutO : Obj → Prop
  | .cells _ T _ => T ≠ 5 ∧ T ≠ 61 ∧ T ≠ 63 ∧ T ≠ 44
  | _ => True
structure Fr (base pb : Nat) (w w' : World) : Prop where
  below : Below base w w'
  out : ∀ g o, w.heap[g]? = some o → OutO o → g ≠ pb → w'.heap[g]? = some o
theorem Fr.refl (base pb : Nat) (w : World) : Fr base pb w w := ⟨Below.refl _ _, fun _ _ h _ _ => h⟩
theorem Fr.trans {base pb : Nat} {w w1 w2 : World} (h : Fr base pb w w1) (k : Fr base pb w1 w2) : Fr base pb w w2 := ⟨h.below.trans k.below, fun g o hg ho hne => k.out g o (h.out g o hg ho hne) ho hne⟩
theorem Fr.of_below {base pb : Nat} {w w' : World} (hb : Below w.heap.size w w') (hs : base ≤ w.heap.size) : Fr base pb w w' :=
  ⟨hb.mono hs, fun g o hg _ _ => (hb.block g (Array.getElem?_eq_some_iff.1 hg).1).trans hg⟩
theorem Fr.size {base pb : Nat} {w w' : World} (h : Fr base pb w w') : w.heap.size ≤ w'.heap.size := h.below.size

theorem own_keepA {w w' : World} {base e s n : Nat} {v : Value} {xs : List Value} (h : w.ownsRow base e s v n xs) (hk : ∀ (g : Nat) (cur : Array Value), w.heap[g]? = some (Obj.cells cur e (0, 0)) → w'.heap[g]? = w.heap[g]?) : w'.ownsRow base e s v n xs := by
  obtain ⟨h1, h2 | ⟨g, cap, cur, h3, h4, h5, h6⟩⟩ := h
  · exact ⟨h1, .inl h2⟩
  · exact ⟨h1, .inr ⟨g, cap, cur, h3, h4, by rw [hk g cur h5]; exact h5, h6⟩⟩
theorem own_blkA {w : World} {base e s n : Nat} {v : Value} {xs : List Value} (h : w.ownsRow base e s v n xs) {k : Nat} (hk : some k = v.ownBlock) : ∃ cur, w.heap[k]? = some (.cells cur e (0, 0)) := by
  obtain ⟨h1, ⟨rfl, -⟩ | ⟨g, cap, cur, rfl, h4, h5, h6⟩⟩ := h
  · simp [Value.ownBlock] at hk
  · simp [Value.ownBlock] at hk
    subst hk
    exact ⟨cur, h5⟩
theorem heap_ltA {w : World} {k : Nat} {o : Obj} (h : w.heap[k]? = some o) : k < w.heap.size := (Array.getElem?_eq_some_iff.1 h).1
/-- A block of another make stays, while a row of one's own grows. -/
theorem blk_grownA {w w' : World} {base e s n k : Nat} {v : Value} {xs : List Value} {o : Obj} (h : w.ownsRow base e s v n xs) (hk : w.heap[k]? = some o) (hne : ∀ cur, o ≠ .cells cur e (0, 0)) (hg : w.grownBy w' v.ownBlock) : w'.heap[k]? = w.heap[k]? :=
  hg.block k (heap_ltA hk) (fun hkk => by
    obtain ⟨c, hc⟩ := own_blkA h hkk
    rw [hk] at hc
    exact hne c (Option.some.inj hc))
theorem heap_setA {w : World} {k i : Nat} {cs : Array Value} {t : TypeId} (h : w.heap[k]? = some (.cells cs t (0, 0))) (v : Value) (hi : i < cs.size) : (w.setCell ⟨k, i, none⟩ v).heap[k]? = some (.cells (cs.set! i v) t (0, 0)) := by
  have hk := heap_ltA h
  have h2 : w.heap[k] = .cells cs t (0, 0) := by rw [Array.getElem?_eq_getElem hk] at h; exact Option.some.inj h
  simp [World.setCell, hk, Array.getElem_modify, h2]
theorem own_sliceA {w : World} {base e s n : Nat} {v : Value} {xs : List Value} (h : w.ownsRow base e s v n xs) : ∃ a c, v = .slice a n c := by
  obtain ⟨h1, ⟨rfl, rfl⟩ | ⟨g, cap, cur, rfl, h4⟩⟩ := h
  · exact ⟨none, 0, rfl⟩
  · exact ⟨_, _, rfl⟩
theorem cells_ne {cur cur' : Array Value} {e e' : TypeId} (h : e' ≠ e) : (Obj.cells cur' e' (0, 0)) ≠ .cells cur e (0, 0) := fun hh => by
  simp at hh
  exact h hh.2

section
variable {base wk pb ob : Nat} {again : Bool} {S : St} {pl : List (Wd × Int)} {vB vL vM : Value} {w w' : World}
theorem AsFix.lt (h : AsFix base wk pb ob again S pl vB vL vM w) : wk < w.heap.size := heap_ltA h.h
theorem AsFix.cell (h : AsFix base wk pb ob again S pl vB vL vM w) (i : Nat) : w.cell? ⟨wk, i, none⟩ = (wkA S again pb ob vB vL vM)[i]? := cell_of_row w wk i _ _ _ h.h
theorem AsFix.frozen (h : AsFix base wk pb ob again S pl vB vL vM w) (i : Nat) : w.frozen? ⟨wk, i, none⟩ = false := frozen_of_row w wk i _ _ h.h
theorem AsFix.below (h : AsFix base wk pb ob again S pl vB vL vM w) (hb : Below w.heap.size w w') : AsFix base wk pb ob again S pl vB vL vM w' :=
  ⟨by rw [hb.block wk h.lt]; exact h.h, h.le, h.lp, h.lo, h.ne, own_keepA h.bs (fun g cur hg => hb.block g (heap_ltA hg)), own_keepA h.ls (fun g cur hg => hb.block g (heap_ltA hg)), own_keepA h.ms (fun g cur hg => hb.block g (heap_ltA hg)), h.pm.same (hb.block _ h.pm.lt), h.om.same (hb.block _ h.om.lt)⟩
theorem AsFix.alloc (h : AsFix base wk pb ob again S pl vB vL vM w) (o : Obj) : AsFix base wk pb ob again S pl vB vL vM (w.alloc o) := h.below ((Below.refl _ _).alloc (Nat.le_refl _) _)
theorem AsFix.drew (h : AsFix base wk pb ob again S pl vB vL vM w) : AsFix base wk pb ob again S pl vB vL vM w.drew := ⟨h.h, h.le, h.lp, h.lo, h.ne, h.bs, h.ls, h.ms, h.pm, h.om⟩
/-- A block that is neither the work nor a row nor a map of its own may turn. -/
theorem AsFix.same (h : AsFix base wk pb ob again S pl vB vL vM w) (hk : ∀ g o, w.heap[g]? = some o → ¬ OutO o ∨ g = pb ∨ g = ob → w'.heap[g]? = some o) : AsFix base wk pb ob again S pl vB vL vM w' := by
  have k0 := hk _ _ h.h (.inl (by simp [OutO]))
  obtain ⟨es, cl, hp⟩ := h.pm.heap
  obtain ⟨es2, cl2, ho⟩ := h.om.heap
  exact ⟨k0, h.le, h.lp, h.lo, h.ne, own_keepA h.bs (fun g cur hg => (hk g _ hg (.inl (by simp [OutO]))).trans hg.symm), own_keepA h.ls (fun g cur hg => (hk g _ hg (.inl (by simp [OutO]))).trans hg.symm), own_keepA h.ms (fun g cur hg => (hk g _ hg (.inl (by simp [OutO]))).trans hg.symm),
    h.pm.same ((hk _ _ hp (.inr (.inl rfl))).trans hp.symm), h.om.same ((hk _ _ ho (.inr (.inr rfl))).trans ho.symm)⟩

/-- A number of the work is written: its place. -/
theorem AsFix.setAt (h : AsFix base wk pb ob again S pl vB vL vM w) (t : Int) : AsFix base wk pb ob again { S with at' := t } pl vB vL vM (w.setCell ⟨wk, 0, none⟩ (.int .i64 t)) := by
  have hne : ∀ {g : Nat} {o : Obj}, w.heap[g]? = some o → (∀ cur, o ≠ .cells cur 44 (0, 0)) → g ≠ wk := fun hc he hgk => by
    subst hgk
    rw [h.h] at hc
    exact he _ (Option.some.inj hc).symm
  obtain ⟨es, cl, hp⟩ := h.pm.heap
  obtain ⟨es2, cl2, ho⟩ := h.om.heap
  refine ⟨by rw [heap_setA h.h _ (by simp [wkA])]; simp [wkA], h.le, h.lp, h.lo, h.ne, own_keepA h.bs (fun g cur hc => Below.heap_setCell _ _ _ _ (hne hc (fun _ => cells_ne (by decide)))), own_keepA h.ls (fun g cur hc => Below.heap_setCell _ _ _ _ (hne hc (fun _ => cells_ne (by decide)))), own_keepA h.ms (fun g cur hc => Below.heap_setCell _ _ _ _ (hne hc (fun _ => cells_ne (by decide)))),
    h.pm.same (Below.heap_setCell _ _ _ _ (hne hp (fun _ e => by cases e))), h.om.same (Below.heap_setCell _ _ _ _ (hne ho (fun _ e => by cases e)))⟩
/-- Its row of bytes has grown, and is written. -/
theorem AsFix.setBytes (h : AsFix base wk pb ob again S pl vB vL vM w) {vB' : Value} {L' : List Int} (hg : w.grownBy w' vB.ownBlock) (hw : w'.ownsRow base 5 1 vB' L'.length (L'.map (Value.int .u8))) :
    AsFix base wk pb ob again { S with bytes := L' } pl vB' vL vM (w'.setCell ⟨wk, 4, none⟩ vB') := by
  have h1 : w'.heap[wk]? = some (.cells (wkA S again pb ob vB vL vM) 44) := (blk_grownA h.bs h.h (fun _ => cells_ne (by decide)) hg).trans h.h
  have hne : ∀ {g : Nat} {o : Obj}, w'.heap[g]? = some o → (∀ cur, o ≠ .cells cur 44 (0, 0)) → g ≠ wk := fun hc he hgk => by
    subst hgk
    rw [h1] at hc
    exact he _ (Option.some.inj hc).symm
  obtain ⟨es, cl, hp⟩ := h.pm.heap
  obtain ⟨es2, cl2, ho⟩ := h.om.heap
  have gl := own_keepA (w' := w') h.ls (fun g cur hc => blk_grownA h.bs hc (fun _ => cells_ne (by decide)) hg)
  have gm := own_keepA (w' := w') h.ms (fun g cur hc => blk_grownA h.bs hc (fun _ => cells_ne (by decide)) hg)
  have hp' : w'.heap[pb]? = _ := (blk_grownA h.bs hp (fun _ e => by cases e) hg).trans hp
  have ho' : w'.heap[ob]? = _ := (blk_grownA h.bs ho (fun _ e => by cases e) hg).trans ho
  have gp := h.pm.same (w' := w') (hp'.trans hp.symm)
  have go := h.om.same (w' := w') (ho'.trans ho.symm)
  exact ⟨by rw [heap_setA h1 _ (by simp [wkA])]; simp [wkA], h.le, h.lp, h.lo, h.ne, own_keepA hw (fun g cur hc => Below.heap_setCell _ _ _ _ (hne hc (fun _ => cells_ne (by decide)))), own_keepA gl (fun g cur hc => Below.heap_setCell _ _ _ _ (hne hc (fun _ => cells_ne (by decide)))), own_keepA gm (fun g cur hc => Below.heap_setCell _ _ _ _ (hne hc (fun _ => cells_ne (by decide)))),
    gp.same (Below.heap_setCell _ _ _ _ (hne hp' (fun _ e => by cases e))), go.same (Below.heap_setCell _ _ _ _ (hne ho' (fun _ e => by cases e)))⟩
/-- Its row of bytes is written over, where it lies. -/
theorem AsFix.rowBytes (h : AsFix base wk pb ob again S pl vB vL vM w) {L' : List Int} (hg : w.grownBy w' vB.ownBlock) (hw : w'.ownsRow base 5 1 vB L'.length (L'.map (Value.int .u8))) :
    AsFix base wk pb ob again { S with bytes := L' } pl vB vL vM w' := by
  obtain ⟨es, cl, hp⟩ := h.pm.heap
  obtain ⟨es2, cl2, ho⟩ := h.om.heap
  exact ⟨(blk_grownA h.bs h.h (fun _ => cells_ne (by decide)) hg).trans h.h, h.le, h.lp, h.lo, h.ne, hw, own_keepA h.ls (fun g cur hc => blk_grownA h.bs hc (fun _ => cells_ne (by decide)) hg), own_keepA h.ms (fun g cur hc => blk_grownA h.bs hc (fun _ => cells_ne (by decide)) hg),
    h.pm.same (blk_grownA h.bs hp (fun _ e => by cases e) hg), h.om.same (blk_grownA h.bs ho (fun _ e => by cases e) hg)⟩
/-- Its row of marks. -/
theorem AsFix.setMarks (h : AsFix base wk pb ob again S pl vB vL vM w) {vM' : Value} {M' : List (Int × Int)} (hg : w.grownBy w' vM.ownBlock) (hw : w'.ownsRow base 63 2 vM' M'.length (M'.flatMap mrkA)) :
    AsFix base wk pb ob again { S with marks := M' } pl vB vL vM' (w'.setCell ⟨wk, 6, none⟩ vM') := by
  have h1 : w'.heap[wk]? = some (.cells (wkA S again pb ob vB vL vM) 44) := (blk_grownA h.ms h.h (fun _ => cells_ne (by decide)) hg).trans h.h
  have hne : ∀ {g : Nat} {o : Obj}, w'.heap[g]? = some o → (∀ cur, o ≠ .cells cur 44 (0, 0)) → g ≠ wk := fun hc he hgk => by
    subst hgk
    rw [h1] at hc
    exact he _ (Option.some.inj hc).symm
  obtain ⟨es, cl, hp⟩ := h.pm.heap
  obtain ⟨es2, cl2, ho⟩ := h.om.heap
  have gl := own_keepA (w' := w') h.ls (fun g cur hc => blk_grownA h.ms hc (fun _ => cells_ne (by decide)) hg)
  have gb := own_keepA (w' := w') h.bs (fun g cur hc => blk_grownA h.ms hc (fun _ => cells_ne (by decide)) hg)
  have hp' : w'.heap[pb]? = _ := (blk_grownA h.ms hp (fun _ e => by cases e) hg).trans hp
  have ho' : w'.heap[ob]? = _ := (blk_grownA h.ms ho (fun _ e => by cases e) hg).trans ho
  have gp := h.pm.same (w' := w') (hp'.trans hp.symm)
  have go := h.om.same (w' := w') (ho'.trans ho.symm)
  exact ⟨by rw [heap_setA h1 _ (by simp [wkA])]; simp [wkA], h.le, h.lp, h.lo, h.ne, own_keepA gb (fun g cur hc => Below.heap_setCell _ _ _ _ (hne hc (fun _ => cells_ne (by decide)))), own_keepA gl (fun g cur hc => Below.heap_setCell _ _ _ _ (hne hc (fun _ => cells_ne (by decide)))), own_keepA hw (fun g cur hc => Below.heap_setCell _ _ _ _ (hne hc (fun _ => cells_ne (by decide)))),
    gp.same (Below.heap_setCell _ _ _ _ (hne hp' (fun _ e => by cases e))), go.same (Below.heap_setCell _ _ _ _ (hne ho' (fun _ e => by cases e)))⟩
/-- An entry more in its map of places. -/
theorem AsFix.setPm (h : AsFix base wk pb ob again S pl vB vL vM w) {pl' : List (Wd × Int)} (hg : w.grownBy w' (some pb)) (hp : SMap w' 3 .i64 pb pl'.length (findL pl')) : AsFix base wk pb ob again S pl' vB vL vM w' := by
  obtain ⟨es, cl, hpo⟩ := h.pm.heap
  obtain ⟨es2, cl2, ho⟩ := h.om.heap
  have hk : ∀ (g : Nat) (cur : Array Value) (T : TypeId), w.heap[g]? = some (Obj.cells cur T (0, 0)) → w'.heap[g]? = w.heap[g]? := fun g cur T hc => hg.block g (heap_ltA hc) (fun e => by cases e; rw [hpo] at hc; cases hc)
  exact ⟨(hk _ _ _ h.h).trans h.h, h.le, h.lp, h.lo, h.ne, own_keepA h.bs (fun g cur hc => hk g cur _ hc), own_keepA h.ls (fun g cur hc => hk g cur _ hc), own_keepA h.ms (fun g cur hc => hk g cur _ hc), hp, h.om.same (hg.block ob h.om.lt (fun e => h.ne (by cases e; rfl)))⟩
theorem Fr.map {base pb : Nat} {w w' : World} (hg : w.grownBy w' (some pb)) (hb : base ≤ pb) (hs : base ≤ w.heap.size) : Fr base pb w w' :=
  ⟨(Below.refl _ _).grown hg hs (fun k hk => by cases hk; exact hb), fun g o ho _ hne => (hg.block g (heap_ltA ho) (fun e => hne (by cases e; rfl))).trans ho⟩
/-- A label more. -/
theorem AsFix.setLabels (h : AsFix base wk pb ob again S pl vB vL vM w) {vL' : Value} {M' : List (Wd × Int)} (hg : w.grownBy w' vL.ownBlock) (hw : w'.ownsRow base 61 2 vL' M'.length (M'.flatMap labA)) :
    AsFix base wk pb ob again { S with labels := M' } pl vB vL' vM (w'.setCell ⟨wk, 5, none⟩ vL') := by
  have h1 : w'.heap[wk]? = some (.cells (wkA S again pb ob vB vL vM) 44) := (blk_grownA h.ls h.h (fun _ => cells_ne (by decide)) hg).trans h.h
  have hne : ∀ {g : Nat} {o : Obj}, w'.heap[g]? = some o → (∀ cur, o ≠ .cells cur 44 (0, 0)) → g ≠ wk := fun hc he hgk => by
    subst hgk
    rw [h1] at hc
    exact he _ (Option.some.inj hc).symm
  obtain ⟨es, cl, hp⟩ := h.pm.heap
  obtain ⟨es2, cl2, ho⟩ := h.om.heap
  have gl := own_keepA (w' := w') h.ms (fun g cur hc => blk_grownA h.ls hc (fun _ => cells_ne (by decide)) hg)
  have gb := own_keepA (w' := w') h.bs (fun g cur hc => blk_grownA h.ls hc (fun _ => cells_ne (by decide)) hg)
  have hp' : w'.heap[pb]? = _ := (blk_grownA h.ls hp (fun _ e => by cases e) hg).trans hp
  have ho' : w'.heap[ob]? = _ := (blk_grownA h.ls ho (fun _ e => by cases e) hg).trans ho
  have gp := h.pm.same (w' := w') (hp'.trans hp.symm)
  have go := h.om.same (w' := w') (ho'.trans ho.symm)
  exact ⟨by rw [heap_setA h1 _ (by simp [wkA])]; simp [wkA], h.le, h.lp, h.lo, h.ne, own_keepA gb (fun g cur hc => Below.heap_setCell _ _ _ _ (hne hc (fun _ => cells_ne (by decide)))), own_keepA hw (fun g cur hc => Below.heap_setCell _ _ _ _ (hne hc (fun _ => cells_ne (by decide)))), own_keepA gl (fun g cur hc => Below.heap_setCell _ _ _ _ (hne hc (fun _ => cells_ne (by decide)))),
    gp.same (Below.heap_setCell _ _ _ _ (hne hp' (fun _ e => by cases e))), go.same (Below.heap_setCell _ _ _ _ (hne ho' (fun _ e => by cases e)))⟩
/-- Of the frame: a row of the work's own has grown, and the work is written. -/
theorem Fr.grown {e s n : Nat} {v : Value} {xs : List Value} (hr : w.ownsRow base e s v n xs) (he : e = 5 ∨ e = 61 ∨ e = 63) (hg : w.grownBy w' v.ownBlock) (hbs : base ≤ w.heap.size) : Fr base pb w w' :=
  ⟨(Below.refl _ _).grown hg hbs (fun k hk => (hr.lt k hk).1), fun g o ho hO _ => (blk_grownA hr ho (fun cur hh => by
    subst hh
    simp only [OutO] at hO
    rcases he with rfl | rfl | rfl
    · exact hO.1 rfl
    · exact hO.2.1 rfl
    · exact hO.2.2.1 rfl) hg).trans ho⟩
theorem Fr.setWk {cs : Array Value} {i : Nat} (v : Value) (h : w.heap[wk]? = some (.cells cs 44 (0, 0))) (hl : base ≤ wk) : Fr base pb w (w.setCell ⟨wk, i, none⟩ v) :=
  ⟨(Below.refl _ _).setCell hl _, fun g o ho hO _ => (Below.heap_setCell _ _ _ _ (fun hgk => by
    have hgk : g = wk := hgk
    subst hgk
    rw [h] at ho
    cases ho
    simp only [OutO] at hO
    exact hO.2.2.2 rfl)).trans ho⟩
end
end Go.Proofs.YtgfljokamgbcaaaGreatDoor
