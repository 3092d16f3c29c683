/- sync.Once over the table: the first call fills it, later ones do not; kind.Table.of. -/
import Derived.Test.YtnmgfckefofcpaaKindB
import Derived.Test.YtnmgfckefofcpaaKindC
import Derived.Laws.NewBlocks
namespace Go.Proofs.Ytnmgfckefofcpaa
open Go.RowKit
set_option maxRecDepth 100000
set_option linter.unusedSimpArgs false
set_option linter.unusedVariables false

/-- The table in block tb is filled: its map is known. -/
def Filled (w : World) (tb : Nat) : Prop :=
  w.cell? ⟨tb, 0, none⟩ = some (.bool true) ∧ w.cell? ⟨tb, 1, none⟩ = some (.int .u32 1) ∧ ∃ mb, w.cell? ⟨tb, 4, none⟩ = some (.map (some mb)) ∧ KMap w mb 53 knownF

/-- The table in block tb is as New makes it. -/
def Fresh (w : World) (tb : Nat) : Prop :=
  w.cell? ⟨tb, 0, none⟩ = some (.bool true) ∧ w.cell? ⟨tb, 1, none⟩ = some (.int .u32 0) ∧ w.cell? ⟨tb, 2, none⟩ = some (.int .i32 0) ∧ w.cell? ⟨tb, 4, none⟩ = some (.map none) ∧ ∀ j, w.frozen? ⟨tb, j, none⟩ = false

def TabIs (w : World) (tb : Nat) : Prop := Fresh w tb ∨ Filled w tb

def SlowPost (w : World) (tb : Nat) (e : Ending) (w' : World) : Prop := e = .returned (.tuple #[]) ∧ Filled w' tb ∧ w.grownBy w' (some tb)

theorem grownBy_set (w : World) (tb j : Nat) (v : Value) : w.grownBy (w.setCell ⟨tb, j, none⟩ v) (some tb) :=
  ⟨rfl, rfl, rfl, by simp, fun k _ hk => Below.heap_setCell w ⟨tb, j, none⟩ _ k (fun e => hk (by rw [e]))⟩

theorem cell_set_other (w : World) (tb j k : Nat) (v : Value) (h : j ≠ k) : (w.setCell ⟨tb, j, none⟩ v).cell? ⟨tb, k, none⟩ = w.cell? ⟨tb, k, none⟩ := World.cell?_setCell_other _ _ _ _ (by simp [h])

set_option maxRecDepth 100000 in
set_option maxHeartbeats 1600000 in
theorem slow_first (tb : Nat) (w : World) (h : Fresh w tb) :
    Calls Try.prog 50 #[.pointer (some ⟨tb, 1, none⟩), .func (.func 47) #[.pointer (some ⟨tb, 0, none⟩)] #[]] w (SlowPost w tb) := by
  obtain ⟨h0, h1, h2, h4, hf⟩ := h
  have f0 := hf 0
  have f1 := hf 1
  have f2 := hf 2
  have f4 := hf 4
  have g1 : (w.setCell ⟨tb, 2, none⟩ (.int .i32 1)).cell? ⟨tb, 1, none⟩ = some (.int .u32 0) := (cell_set_other w tb 2 1 _ (by omega)).trans h1
  have hl := run_call_load (P := Try.prog) Try.func52 (by kernel_rfl) (by kernel_rfl) (by kernel_rfl) .u32 (by kernel_rfl) g1
  have hF := Lib.hid (fill_c tb (.map none) (w.setCell ⟨tb, 2, none⟩ (.int .i32 1)) ((cell_set_other w tb 2 4 _ (by omega)).trans h4) (by rw [World.frozen?_setCell]; exact f4))
  have HF := Lib.hid hf
  have H0 := Lib.hid h0
  have H1 := Lib.hid h1
  have H2 := Lib.hid h2
  clear hf f0 f4 h0 h1 h4
  have hnot : ∀ (x : Bool) (w : World), (Op.unary .not (.bool x)).run Try.prog w = .ok (.bool (!x)) w := fun _ _ => rfl
  go_enter_defers Try.func50, Try.ntmps50
  go_wp2_with (go_at_call 53; refine (lock_free ⟨tb, 2, none⟩ _ (by go_simp) (by go_simp)).mono ?_; rintro e w' ⟨rfl, rfl⟩)
  go_wp2_with (first | (go_at_call 47; refine hF.out.mono ?_; rintro e w2 ⟨rfl, hs⟩) | (go_at_call 49; go_in))
  have HS := Lib.hid hs
  clear hs
  have hS := HS.out
  obtain ⟨-, m1, m2, m3, m4, m5, m6, m7⟩ := hS
  -- the two deferred calls, the last laid first
  refine leaves_cons (f := 55) (args := #[.pointer (some ⟨tb, 1, none⟩), .bool true]) (by simp) (by simp [go_sem]) ?_
  have c1 : w2.cell? ⟨tb, 1, none⟩ = some (.int .u32 0) := (m3 1 (by omega)).trans ((cell_set_other w tb 2 1 _ (by omega)).trans H1.out)
  have z1 : w2.frozen? ⟨tb, 1, none⟩ = false := (m4 1).trans (by rw [World.frozen?_setCell]; exact f1)
  refine (store_deferred ⟨tb, 1, none⟩ (.int .u32 0) .returning _ c1 z1).mono ?_
  rintro e u' w'' ⟨rfl, rfl, rfl⟩
  refine leaves_cons (f := 54) (args := #[.pointer (some ⟨tb, 2, none⟩)]) (by simp [settle]) (by simp [go_sem]) ?_
  have c2 : (w2.drew.setCell ⟨tb, 1, none⟩ (.int .u32 1)).cell? ⟨tb, 2, none⟩ = some (.int .i32 1) := by
    rw [cell_set_other _ tb 1 2 _ (by omega), World.cell?_drew, m3 2 (by omega)]
    exact World.cell?_setCell_same w _ _ H2.out
  have z2 : (w2.drew.setCell ⟨tb, 1, none⟩ (.int .u32 1)).frozen? ⟨tb, 2, none⟩ = false := by
    rw [World.frozen?_setCell, World.frozen?_drew, m4 2, World.frozen?_setCell]; exact f2
  refine (unlock_deferred ⟨tb, 2, none⟩ _ _ c2 z2).mono ?_
  rintro e u' w'' ⟨rfl, rfl, rfl⟩
  have hG1 : w2.grownBy ((w2.drew.setCell ⟨tb, 1, none⟩ (.int .u32 1)).setCell ⟨tb, 2, none⟩ (.int .i32 0)) (some tb) :=
    World.grownBy.trans (b := w2.drew) ⟨rfl, rfl, rfl, Nat.le_refl _, fun _ _ _ => rfl⟩ ((grownBy_set w2.drew tb 1 _).trans (grownBy_set _ tb 2 _))
  have hmt : tb ≠ w.heap.size + 1 := by simpa using kmap_ne m1 m2
  have hP : Filled ((w2.drew.setCell ⟨tb, 1, none⟩ (.int .u32 1)).setCell ⟨tb, 2, none⟩ (.int .i32 0)) tb := by
    refine ⟨?_, ?_, _, ?_, kmap_kept m1 hG1 (by simp; omega)⟩
    · rw [cell_set_other _ tb 2 0 _ (by omega), cell_set_other _ tb 1 0 _ (by omega), World.cell?_drew, m3 0 (by omega), cell_set_other _ tb 2 0 _ (by omega)]; exact H0.out
    · rw [cell_set_other _ tb 2 1 _ (by omega)]; exact World.cell?_setCell_same _ _ _ (by rw [World.cell?_drew]; exact c1)
    · rw [cell_set_other _ tb 2 4 _ (by omega), cell_set_other _ tb 1 4 _ (by omega), World.cell?_drew]; exact m2
  have hQ := (grownBy_set w tb 2 (.int .i32 1)).trans (m5.trans hG1)
  have HP := Lib.hid hP
  have HQ := Lib.hid hQ
  clear hP hQ hG1
  simp [Leaves, settle, results, Try.results50]
  exact ⟨rfl, HP.out, HQ.out⟩

def DoPost (w : World) (tb : Nat) (e : Ending) (w' : World) : Prop := e = .returned (.tuple #[]) ∧ Filled w' tb ∧ w.grownBy w' (some tb)

set_option maxHeartbeats 1000000 in
theorem do_tab (tb : Nat) (w : World) (h : TabIs w tb) :
    Calls Try.prog 46 #[.pointer (some ⟨tb, 1, none⟩), .func (.func 47) #[.pointer (some ⟨tb, 0, none⟩)] #[]] w (DoPost w tb) := by
  have hnot : ∀ (x : Bool) (w : World), (Op.unary .not (.bool x)).run Try.prog w = .ok (.bool (!x)) w := fun _ _ => rfl
  rcases h with h | h
  · have hS := Lib.hid (slow_first tb w h)
    obtain ⟨h0, h1, h2, h4, hf⟩ := h
    have hl := run_call_load (P := Try.prog) Try.func52 (by kernel_rfl) (by kernel_rfl) (by kernel_rfl) .u32 (by kernel_rfl) h1
    clear hf h0 h2 h4
    go_enter Try.func46, Try.ntmps46
    go_wp2_with (first | (go_at_call 50; refine hS.out.mono ?_; rintro e w2 ⟨rfl, hp, hq⟩) | (go_at_call 49; go_in))
    have HP := Lib.hid hp
    have HQ := Lib.hid hq
    clear hp hq
    go_end0
    exact ⟨rfl, HP.out, HQ.out⟩
  · have HF := Lib.hid h
    obtain ⟨-, h1, -⟩ := h
    have hl := run_call_load (P := Try.prog) Try.func52 (by kernel_rfl) (by kernel_rfl) (by kernel_rfl) .u32 (by kernel_rfl) h1
    go_enter Try.func46, Try.ntmps46
    go_wp2_with (go_at_call 49; go_in)
    go_end0
    exact ⟨rfl, HF.out, World.grownBy.refl _ _⟩

def OfPost (w : World) (tb : Nat) (op : Int) (e : Ending) (w' : World) : Prop := e = .returned (knownF op).val ∧ Filled w' tb ∧ w.grownBy w' (some tb)

theorem filled_alloc {w : World} {tb : Nat} (h : Filled w tb) (o : Obj) : Filled (w.alloc o) tb := by
  obtain ⟨h0, h1, mb, h4, hm⟩ := h
  have hg := World.grownBy_alloc w o none
  exact ⟨hg.cell h0 (by simp), hg.cell h1 (by simp), mb, hg.cell h4 (by simp), kmap_kept hm hg (by simp)⟩

theorem tab_kept {w w' : World} {tb : Nat} (h : TabIs w tb) (hg : w.grownBy w' none) : TabIs w' tb := by
  rcases h with ⟨h0, h1, h2, h4, hf⟩ | ⟨h0, h1, mb, h4, hm⟩
  · have hlt := World.block_lt_of_cell? w _ h0
    exact .inl ⟨hg.cell h0 (by simp), hg.cell h1 (by simp), hg.cell h2 (by simp), hg.cell h4 (by simp), fun j => (hg.frozen_far ⟨tb, j, none⟩ hlt (by simp)).trans (hf j)⟩
  · exact .inr ⟨hg.cell h0 (by simp), hg.cell h1 (by simp), mb, hg.cell h4 (by simp), kmap_kept hm hg (by simp)⟩

theorem tab_made {w : World} {tb : Nat} (h : TabIs w tb) : w.cell? ⟨tb, 0, none⟩ = some (.bool true) := by
  rcases h with h | h
  · exact h.1
  · exact h.1

theorem filled_kept {w w' : World} {tb k : Nat} {x : Value} (h : Filled w tb) (hg : w.grownBy w' (some k)) (hk : w.cell? ⟨k, 0, none⟩ = some x) (hne : tb ≠ k) : Filled w' tb := by
  obtain ⟨h0, h1, mb, h4, hm⟩ := h
  have hmk := kmap_ne hm hk
  simp only at hmk
  have ht : some tb ≠ some k := by simpa using hne
  exact ⟨hg.cell h0 ht, hg.cell h1 ht, mb, hg.cell h4 ht, kmap_kept hm hg (by simp; omega)⟩

set_option maxHeartbeats 1000000 in
theorem of_c (tb : Nat) (op : Int) (w : World) (h : TabIs w tb) (h0 : 0 ≤ op) (h1 : op < 256) :
    Calls Try.prog 42 #[.pointer (some ⟨tb, 0, none⟩), .int .u8 op] w (OfPost w tb op) := by
  have hmf : ∀ (fn : Fn) (first cap : Array Value) (w : World), (Instr.makeFunc fn first cap).run Try.prog w = .ok (.func fn first cap) w := fun _ _ _ _ => rfl
  have hD := Lib.hid fun o => do_tab tb (w.alloc o) (tab_kept h (World.grownBy_alloc w o none))
  have hm := tab_made h
  have hlt := World.block_lt_of_cell? w _ hm
  simp only at hlt
  clear h
  go_enter Try.func42, Try.ntmps42
  go_wp2_with fail
  refine (hD.out _).mono ?_
  rintro e w2 ⟨rfl, hF, hG⟩
  have HF := Lib.hid hF
  have HG := Lib.hid ((World.grownBy_alloc w _ _).trans hG)
  obtain ⟨mb, c4, hM⟩ : ∃ mb, w2.cell? ⟨tb, 4, none⟩ = some (.map (some mb)) ∧ KMap w2 mb 53 knownF := hF.2.2
  have hne : some w.heap.size ≠ some tb := by simp at hlt ⊢; omega
  have b0 : w2.cell? ⟨w.heap.size, 0, none⟩ = some (.int .i64 0) := hG.cell (by go_simp) hne
  have b1 : w2.cell? ⟨w.heap.size, 1, none⟩ = some (.string ⟨#[]⟩) := hG.cell (by go_simp) hne
  have bf : ∀ j, w2.frozen? ⟨w.heap.size, j, none⟩ = false := fun j => (hG.frozen_far ⟨w.heap.size, j, none⟩ (by simp) hne).trans (by go_simp)
  have hs : w.heap.size < w2.heap.size := by have := hG.size; simp at this; omega
  have hlk := kmap_look hM h0 h1
  unfold Kn.val at hlk
  clear hF hG hM
  go_wp2_with fail
  have hG2 := (grownBy_set w2 w.heap.size 0 (.int .i64 (knownF op).cls)).trans (grownBy_set _ w.heap.size 1 (.string ⟨(knownF op).is.toArray⟩))
  refine bodyPost_ret (v := (knownF op).val) ?_ rfl ⟨rfl, filled_kept HF.out hG2 b0 (by omega), HG.out.andThen hG2 (fun j hj => by cases hj; exact .inl (Nat.le_refl _))⟩
  unfold Kn.val
  simp [results, Try.results42, go_sem, b0, b1, hs]

/-- A table that is not there, or that no call made, knows nothing. -/
theorem of_none (w : World) (op : Int) : Calls Try.prog 42 #[.pointer none, .int .u8 op] w fun e w' => e = .returned (Kn.val ⟨0, []⟩) ∧ Below w.heap.size w w' := by
  go_enter Try.func42, Try.ntmps42
  go_wp2_with fail
  refine bodyPost_ret (v := Kn.val ⟨0, []⟩) ?_ rfl ⟨rfl, ?_⟩
  · unfold Kn.val
    simp [results, Try.results42, go_sem]
  · exact (Below.refl _ _).alloc (Nat.le_refl _) _

theorem of_unmade (w : World) (tb : Nat) (h : w.cell? ⟨tb, 0, none⟩ = some (.bool false)) (op : Int) : Calls Try.prog 42 #[.pointer (some ⟨tb, 0, none⟩), .int .u8 op] w fun e w' => e = .returned (Kn.val ⟨0, []⟩) ∧ Below w.heap.size w w' := by
  have hlt := World.block_lt_of_cell? w _ h
  simp only at hlt
  go_enter Try.func42, Try.ntmps42
  go_wp2_with fail
  refine bodyPost_ret (v := Kn.val ⟨0, []⟩) ?_ rfl ⟨rfl, ?_⟩
  · unfold Kn.val
    simp [results, Try.results42, go_sem]
  · exact (Below.refl _ _).alloc (Nat.le_refl _) _
end Go.Proofs.Ytnmgfckefofcpaa
