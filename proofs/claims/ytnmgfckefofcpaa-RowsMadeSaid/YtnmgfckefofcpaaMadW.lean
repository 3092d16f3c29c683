/- The work of a translation in the heap: its block, its own bytes and its own rows. -/
import Derived.Test.YtnmgfckefofcpaaMadB
import Derived.Test.YtnmgfckefofcpaaRowB
import Derived.Test.YtnmgfckefofcpaaIsaE
import Derived.Deep.Heap
import Derived.Laws.Rows
namespace Go.Proofs.Ytnmgfckefofcpaa
open Go.RowKit
set_option linter.unusedSimpArgs false
set_option linter.unusedVariables false

def WkCells (b : BlkR) (vB vR : Value) (nx : Int) : Array Value := #[vB, vR, .slice b.ai b.ins.length b.ci, .slice b.aa b.ats.length b.ca, .int .u32 b.nx, .int .u32 b.to, .int .i64 b.en, b.vf, b.vt, .int .i64 nx]

/-- A block of the heap is the work; what it leads to is its own. -/
structure WkFix (base wk : Nat) (b : BlkR) (L : List Int) (R : List RowR) (nx : Int) (vB vR : Value) (w : World) : Prop where
  h : w.heap[wk]? = some (.cells (WkCells b vB vR nx) 62)
  le : base ≤ wk
  bs : w.ownsRow base 5 1 vB L.length (L.map (Value.int .u8))
  rs : w.ownsRow base 27 4 vR R.length (R.flatMap RowR.cells)
def WkAt (base wk : Nat) (b : BlkR) (L : List Int) (R : List RowR) (nx : Int) (w : World) : Prop := ∃ vB vR, WkFix base wk b L R nx vB vR w

theorem own_keep {w w' : World} {base e s n : Nat} {v : Value} {xs : List Value} (h : w.ownsRow base e s v n xs) (hk : ∀ (g : Nat) (cur : Array Value), w.heap[g]? = some (Obj.cells cur e (0, 0)) → w'.heap[g]? = w.heap[g]?) : w'.ownsRow base e s v n xs := by
  obtain ⟨h1, h2 | ⟨g, cap, cur, h3, h4, h5, h6⟩⟩ := h
  · exact ⟨h1, .inl h2⟩
  · exact ⟨h1, .inr ⟨g, cap, cur, h3, h4, by rw [hk g cur h5]; exact h5, h6⟩⟩
theorem own_blk {w : World} {base e s n : Nat} {v : Value} {xs : List Value} (h : w.ownsRow base e s v n xs) {k : Nat} (hk : some k = v.ownBlock) : ∃ cur, w.heap[k]? = some (.cells cur e (0, 0)) := by
  obtain ⟨h1, ⟨rfl, -⟩ | ⟨g, cap, cur, rfl, h4, h5, h6⟩⟩ := h
  · simp [Value.ownBlock] at hk
  · simp [Value.ownBlock] at hk
    subst hk
    exact ⟨cur, h5⟩
theorem heap_lt {w : World} {k : Nat} {o : Obj} (h : w.heap[k]? = some o) : k < w.heap.size := (Array.getElem?_eq_some_iff.1 h).1
/-- A block of another type stays, while a row of one's own grows. -/
theorem blk_grown {w w' : World} {base e s n e' k : Nat} {v : Value} {xs : List Value} {cur : Array Value} (h : w.ownsRow base e s v n xs) (hne : e' ≠ e) (hk : w.heap[k]? = some (.cells cur e' (0, 0))) (hg : w.grownBy w' v.ownBlock) : w'.heap[k]? = w.heap[k]? :=
  hg.block k (heap_lt hk) (fun hkk => by
    obtain ⟨c, hc⟩ := own_blk h hkk
    rw [hk] at hc
    simp at hc
    exact hne hc.2)
theorem heap_set {w : World} {k i : Nat} {cs : Array Value} {t : TypeId} (h : w.heap[k]? = some (.cells cs t (0, 0))) (v : Value) (hi : i < cs.size) : (w.setCell ⟨k, i, none⟩ v).heap[k]? = some (.cells (cs.set! i v) t (0, 0)) := by
  have hk := heap_lt h
  have h2 : w.heap[k] = .cells cs t (0, 0) := by rw [Array.getElem?_eq_getElem hk] at h; exact Option.some.inj h
  simp [World.setCell, hk, Array.getElem_modify, h2]

theorem WkFix.lt {base wk b L R nx vB vR w} (h : WkFix base wk b L R nx vB vR w) : wk < w.heap.size := heap_lt h.h
theorem WkFix.cell {base wk b L R nx vB vR w} (h : WkFix base wk b L R nx vB vR w) (i : Nat) : w.cell? ⟨wk, i, none⟩ = (WkCells b vB vR nx)[i]? := by
  exact cell_of_row w wk i _ _ _ h.h
theorem WkFix.frozen {base wk b L R nx vB vR w} (h : WkFix base wk b L R nx vB vR w) (i : Nat) : w.frozen? ⟨wk, i, none⟩ = false := by
  exact frozen_of_row w wk i _ _ h.h
theorem WkFix.below {base wk b L R nx vB vR w w'} (h : WkFix base wk b L R nx vB vR w) (hb : Below w.heap.size w w') : WkFix base wk b L R nx vB vR w' :=
  ⟨by rw [hb.block wk h.lt]; exact h.h, h.le, own_keep h.bs (fun g cur hg => hb.block g (heap_lt hg)), own_keep h.rs (fun g cur hg => hb.block g (heap_lt hg))⟩
theorem WkFix.alloc {base wk b L R nx vB vR w} (h : WkFix base wk b L R nx vB vR w) (o : Obj) : WkFix base wk b L R nx vB vR (w.alloc o) := h.below (below_alloc1 w o)
theorem WkFix.rows {base wk b L R nx vB vR w w'} (h : WkFix base wk b L R nx vB vR w) {vR' : Value} {R' : List RowR} (hg : w.grownBy w' vR.ownBlock) (ho : w'.ownsRow base 27 4 vR' R'.length (R'.flatMap RowR.cells)) :
    WkFix base wk b L R' nx vB vR' (w'.setCell ⟨wk, 1, none⟩ vR') := by
  have h1 : w'.heap[wk]? = some (.cells (WkCells b vB vR nx) 62) := (blk_grown h.rs (by decide) h.h hg).trans h.h
  have h2 : w'.ownsRow base 5 1 vB L.length (L.map (Value.int .u8)) := own_keep h.bs (fun g cur hc => blk_grown h.rs (by decide) hc hg)
  have hne : ∀ {g : Nat} {cur : Array Value} {e : TypeId}, e ≠ 62 → w'.heap[g]? = some (.cells cur e (0, 0)) → g ≠ wk := fun he hc hgk => by
    subst hgk
    rw [h1] at hc
    simp at hc
    exact he hc.2.symm
  exact ⟨by rw [heap_set h1 vR' (by simp [WkCells])]; simp [WkCells], h.le, own_keep h2 (fun g cur hc => Below.heap_setCell _ _ _ _ (hne (by decide) hc)), own_keep ho (fun g cur hc => Below.heap_setCell _ _ _ _ (hne (by decide) hc))⟩
theorem WkFix.bytes {base wk b L R nx vB vR w w'} (h : WkFix base wk b L R nx vB vR w) {vB' : Value} {L' : List Int} (hg : w.grownBy w' vB.ownBlock) (ho : w'.ownsRow base 5 1 vB' L'.length (L'.map (Value.int .u8))) :
    WkFix base wk b L' R nx vB' vR (w'.setCell ⟨wk, 0, none⟩ vB') := by
  have h1 : w'.heap[wk]? = some (.cells (WkCells b vB vR nx) 62) := (blk_grown h.bs (by decide) h.h hg).trans h.h
  have h2 : w'.ownsRow base 27 4 vR R.length (R.flatMap RowR.cells) := own_keep h.rs (fun g cur hc => blk_grown h.bs (by decide) hc hg)
  have hne : ∀ {g : Nat} {cur : Array Value} {e : TypeId}, e ≠ 62 → w'.heap[g]? = some (.cells cur e (0, 0)) → g ≠ wk := fun he hc hgk => by
    subst hgk
    rw [h1] at hc
    simp at hc
    exact he hc.2.symm
  exact ⟨by rw [heap_set h1 vB' (by simp [WkCells])]; simp [WkCells], h.le, own_keep ho (fun g cur hc => Below.heap_setCell _ _ _ _ (hne (by decide) hc)), own_keep h2 (fun g cur hc => Below.heap_setCell _ _ _ _ (hne (by decide) hc))⟩
theorem WkFix.next {base wk b L R nx vB vR w} (h : WkFix base wk b L R nx vB vR w) (nx' : Int) : WkFix base wk b L R nx' vB vR (w.setCell ⟨wk, 9, none⟩ (.int .i64 nx')) := by
  have hne : ∀ {g : Nat} {cur : Array Value} {e : TypeId}, e ≠ 62 → w.heap[g]? = some (.cells cur e (0, 0)) → g ≠ wk := fun he hc hgk => by
    subst hgk
    rw [h.h] at hc
    simp at hc
    exact he hc.2.symm
  exact ⟨by rw [heap_set h.h _ (by simp [WkCells])]; simp [WkCells], h.le, own_keep h.bs (fun g cur hc => Below.heap_setCell _ _ _ _ (hne (by decide) hc)), own_keep h.rs (fun g cur hc => Below.heap_setCell _ _ _ _ (hne (by decide) hc))⟩
theorem own_nextS {W w w' : World} {base n size : Nat} {v : Value} {xs : List Value} {e : TypeId} (hB : Below base W w) (hs : base ≤ w.heap.size) (hown : w.ownsRow base e size v n xs) (hg : w.grownBy w' v.ownBlock) : Below base W w' ∧ base ≤ w'.heap.size :=
  ⟨hB.grown hg hs (fun k hk => (hown.lt k hk).1), by have := hg.size; omega⟩
/-- A slice of one's own, of so and so many. -/
theorem own_slice {w : World} {base e s n : Nat} {v : Value} {xs : List Value} (h : w.ownsRow base e s v n xs) : ∃ a c, v = .slice a n c := by
  obtain ⟨h1, ⟨rfl, rfl⟩ | ⟨g, cap, cur, rfl, h4⟩⟩ := h
  · exact ⟨none, 0, rfl⟩
  · exact ⟨_, _, rfl⟩
theorem own_some1 {w : World} {base e n : Nat} {v : Value} {xs : List Value} (h : w.ownsRow base e 1 v n xs) (hp : 0 < n) : ∃ g cap, v = .slice (some ⟨g, 0, none⟩) n cap ∧ n ≤ cap ∧ g < w.heap.size ∧ ∀ j u, xs[j]? = some u → w.cell? ⟨g, j, none⟩ = some u := by
  rcases h.2 with ⟨-, h1⟩ | ⟨g, cap, cur, rfl, h2, h3, h4, h5, h6, h7⟩
  · omega
  · refine ⟨g, cap, rfl, h4, (Array.getElem?_eq_some_iff.1 h3).1, fun j u hu => ?_⟩
    have hj : j < n * 1 := by have := (List.getElem?_eq_some_iff.1 hu).1; rw [h.1] at this; exact this
    rw [h.cellAt j hj]
    exact hu
end Go.Proofs.Ytnmgfckefofcpaa
