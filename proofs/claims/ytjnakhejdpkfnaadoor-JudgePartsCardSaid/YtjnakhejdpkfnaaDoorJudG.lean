/- judge: the part that is the state, of two guests in the same state; the devices. -/
import Derived.Test.YtjnakhejdpkfnaaDoorJudF
import Derived.Test.YtjnakhejdpkfnaaDoorRow
namespace Go.Proofs.YtjnakhejdpkfnaaDoor
open Go.RowKit
set_option linter.unusedSimpArgs false
set_option linter.unusedVariables false
set_option maxRecDepth 100000

/-- The kinds of a state's cells. -/
def stKJ : List CK := [.i .u32, .i .u32, .i .u32, .i .u32, .i .u32, .i .u32, .i .u32, .i .u32, .i .u32, .i .u32, .i .u32, .i .u32, .i .u32, .i .u32, .i .u32, .i .u32, .i .u32, .i .u32, .b]

set_option maxHeartbeats 4000000 in
theorem apartEq_c (S : Array Value) (hz : S.size = 19) (hok : okAll stKJ S.toList) (w : World) :
    Calls Tryd.prog 27 #[.agg S, .agg S] w fun e w' => e = .returned (.tuple #[.slice none 0 0, .slice none 0 0]) ∧ Below w.heap.size w w' := by
  obtain ⟨r, heq, -, hiff⟩ := run_eql_flat (P := Tryd.prog) (n := 4) (t := 26) (ks := stKJ) (by decide) (by kernel_rfl) (by kernel_rfl) (by kernel_rfl) (by kernel_rfl) hok hok
  obtain rfl : r = true := hiff.2 rfl
  clear hiff hok
  have Z1 := Lib.hid hz
  go_enter Tryd.func27, Tryd.ntmps27
  go_wp2_with (first
    | ((with_reducible show wpList _ _ _ (Oper.mk _ (.load 26 _) _ _ _ _ :: _) _ _); refine wpList_load_row rfl 26 _ rfl _ rfl 26 _ (0, 0) _ (by first | (refine heap_new' ?_; simp; done) | (refine heap_old' (heap_new' ?_); simp; done)) Tryd.underlying26 rfl (by rw [Z1.out]; kernel_rfl) ?_))
  refine bodyPost_ret (v := .tuple #[.slice none 0 0, .slice none 0 0]) (by simp [results, Tryd.results27, go_sem]) rfl ⟨rfl, ?_⟩
  exact (below_alloc1 _ _).alloc (by simp) _

set_option maxHeartbeats 4000000 in
theorem statesEq_c (S : Array Value) (hz : S.size = 19) (hok : okAll stKJ S.toList) (w : World) :
    Calls Tryd.prog 39 #[.agg S, .agg S] w fun e w' => (∃ p q, e = .returned (.agg #[.string ⟨#[115, 116, 97, 116, 101]⟩, .bool false, .func (.func 51) #[] #[ptrV p, ptrV q]])) ∧ Below w.heap.size w w' := by
  have HA := Lib.hid fun w => apartEq_c S hz hok w
  clear hok
  have Z1 := Lib.hid hz
  have B0 : ∀ o1 o2 o3, Below w.heap.size w (((w.alloc o1).alloc o2).alloc o3) := fun o1 o2 o3 => (((Below.refl _ _).alloc (Nat.le_refl _) _).alloc (by simp) _).alloc (by simp; omega) _
  go_enter Tryd.func39, Tryd.ntmps39
  go_wp2_with (first
    | ((with_reducible show wpList _ _ _ (Oper.mk _ (.load 26 _) _ _ _ _ :: _) _ _); refine wpList_load_row rfl 26 _ rfl _ rfl 26 _ (0, 0) _ (by first | (refine heap_new' ?_; simp; done) | (refine heap_old' (heap_new' ?_); simp; done) | (refine heap_old' (heap_old' (heap_new' ?_)); simp; done)) Tryd.underlying26 rfl (by rw [Z1.out]; kernel_rfl) ?_))
  refine (HA.out _).mono ?_
  rintro e w1 ⟨rfl, hb1⟩
  have s1 : w.heap.size + 1 + 1 < w1.heap.size := by have := hb1.size; simp at this; omega
  have s2 : w.heap.size + 1 + 1 < w1.heap.size + 1 := by omega
  have B1 : Below w.heap.size w w1 := below_nextJ (B0 _ _ _) hb1
  obtain ⟨hcl, hfz⟩ := bcellJ hb1
  go_wp2_with fail
  refine bodyPost_ret (v := .agg #[.string ⟨#[115, 116, 97, 116, 101]⟩, .bool false, .func (.func 51) #[] #[ptrV w1.heap.size, ptrV (w1.heap.size + 1)]]) ?_ rfl ⟨⟨_, _, rfl⟩, ?_⟩
  · simp [results, Tryd.results39, go_sem, hcl, s1, s2]
  · refine Below.alloc (Below.alloc (Below.setCell (Below.setCell (Below.setCell B1 ?_ _) ?_ _) ?_ _) ?_ _) ?_ _
    iterate 3 (show w.heap.size ≤ w.heap.size + 1 + 1; omega)
    all_goals (simp; omega)

set_option maxHeartbeats 4000000 in
theorem devices_c (X : Array Value) (hz : X.size = 35) (d0 d1 d2 d3 d4 d5 d6 d7 : Int) (h0 : X[27]? = some (.int .u32 d0)) (h1 : X[28]? = some (.int .u32 d1)) (h2 : X[29]? = some (.int .u32 d2)) (h3 : X[30]? = some (.int .u32 d3)) (h4 : X[31]? = some (.int .u32 d4)) (h5 : X[32]? = some (.int .u32 d5)) (h6 : X[33]? = some (.int .u32 d6)) (h7 : X[34]? = some (.int .u32 d7)) (w : World) :
    Calls Tryd.prog 42 #[.agg X] w fun e w' => e = .returned (.agg #[.int .u32 d0, .int .u32 d1, .int .u32 d2, .int .u32 d3, .int .u32 d4, .int .u32 d5, .int .u32 d6, .int .u32 d7]) ∧ Below w.heap.size w w' := by
  have K : ∀ (j : Nat) v, X[j]? = some v → ∀ o, ((w.alloc (.cells X 30)).alloc o).cell? ⟨w.heap.size, j, none⟩ = some v := fun j v hv o =>
    (cell_of_row _ _ j X 30 (0, 0) (heap_old' (heap_new' rfl))).trans hv
  have k0 := K 27 _ h0
  have k1 := K 28 _ h1
  have k2 := K 29 _ h2
  have k3 := K 30 _ h3
  have k4 := K 31 _ h4
  have k5 := K 32 _ h5
  have k6 := K 33 _ h6
  have k7 := K 34 _ h7
  clear K h0 h1 h2 h3 h4 h5 h6 h7
  go_enter Tryd.func42, Tryd.ntmps42
  go_wp2_with fail
  refine bodyPost_ret (v := .agg #[.int .u32 d0, .int .u32 d1, .int .u32 d2, .int .u32 d3, .int .u32 d4, .int .u32 d5, .int .u32 d6, .int .u32 d7]) (by simp [results, Tryd.results42, go_sem]) rfl ⟨rfl, ?_⟩
  exact (below_alloc1 _ _).alloc (by simp) _
end Go.Proofs.YtjnakhejdpkfnaaDoor
