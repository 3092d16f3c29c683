/- The walks of trap.without, trap.Enter and the document's Enter: both lead to the state 'entered'. -/
import Derived.Test.YtgaffakhmghbdaaTrapB
import Derived.Test.YtgaffakhmghbdaaFlatEq
import Derived.Test.YtgaffakhmghbdaaRow
import Derived.RegionTactic
import Derived.BigRegion
import Derived.BigQuiet
import Derived.Laws.IdiomCopy
import Derived.Deep.QuietTactic
import Derived.BigQuiet
import Derived.Laws.IdiomCopy
import Derived.Laws.IdiomCopy
import Derived.Deep.QuietTactic
import Derived.BigQuiet
import Derived.Laws.IdiomCopy
import Derived.Laws.IdiomCopy
import Derived.Laws.IdiomCopy
import Derived.Deep.QuietTactic
import Derived.BigQuiet
import Derived.Laws.IdiomCopy
import Derived.Laws.IdiomCopy
import Derived.Laws.IdiomCopy
import Derived.Laws.IdiomCopy
import Derived.Deep.QuietTactic
import Derived.BigQuiet
import Derived.Laws.IdiomCopy
import Derived.Laws.IdiomCopy
import Derived.Laws.IdiomCopy
import Derived.Laws.IdiomCopy
import Derived.Deep.QuietTactic
import Derived.BigQuiet
import Derived.Laws.IdiomCopy
import Derived.Laws.IdiomCopy
import Derived.Laws.IdiomCopy
import Derived.Laws.IdiomCopy
import Derived.Deep.QuietTactic
namespace Go.Proofs.Ytgaffakhmghbdaa
open Go.RowKit

theorem and_split (a b : Nat) (ha : a < 4294967296) (hb : b < 4294967296) : (a &&& (4294967295 - b)) + (a &&& b) = a := by
  have hx : ((BitVec.ofNat 32 a &&& ~~~ BitVec.ofNat 32 b) &&& (BitVec.ofNat 32 a &&& BitVec.ofNat 32 b)) = 0#32 := by
    ext i hi
    simp
    intros; simp_all
  have h := BitVec.toNat_add_of_and_eq_zero hx
  rw [BitVec.add_eq_or_of_and_eq_zero _ _ hx] at h
  have e : ((BitVec.ofNat 32 a &&& ~~~ BitVec.ofNat 32 b) ||| (BitVec.ofNat 32 a &&& BitVec.ofNat 32 b)) = BitVec.ofNat 32 a := by
    ext i hi
    simp only [BitVec.getElem_or, BitVec.getElem_and, BitVec.getElem_not]
    cases (BitVec.ofNat 32 a)[i] <;> cases (BitVec.ofNat 32 b)[i] <;> rfl
  rw [e] at h
  simp only [BitVec.toNat_and, BitVec.toNat_not, BitVec.toNat_ofNat] at h
  have e2 : (2 : Nat) ^ 32 = 4294967296 := by decide
  rw [e2, Nat.mod_eq_of_lt ha, Nat.mod_eq_of_lt hb] at h
  exact h.symm

/-- Bits taken out are taken off. -/
theorem andNot_sub {x m : Int} (h0 : 0 ≤ x) (h1 : x < 4294967296) (h2 : 0 ≤ m) (h3 : m < 4294967296) : bits .andNot .u32 x m = x - bits .and .u32 x m := by
  rw [u32_andNot _ _ h0 h1 h2 h3, u32_and _ _ h0 h1 h2 h3]
  have := and_split x.toNat m.toNat (by omega) (by omega)
  omega
theorem and1 {x : Int} (h0 : 0 ≤ x) (h1 : x < 4294967296) : bits .and .u32 x 1 = x % 2 := by
  rw [u32_and _ _ h0 h1 (by omega) (by omega), show (1 : Int).toNat = 1 from rfl, nat_mask1]; omega
theorem and2 {x : Int} (h0 : 0 ≤ x) (h1 : x < 4294967296) : bits .and .u32 x 2 = x / 2 % 2 * 2 := by
  rw [u32_and _ _ h0 h1 (by omega) (by omega), show (2 : Int).toNat = 2 ^ 1 from rfl, nat_bit]; omega

set_option maxHeartbeats 400000 in
theorem without_c (ps : Int) (b : Nat) (w : World) (h0 : 0 ≤ ps) (h1 : ps < 4294967296) (hc0 : w.cell? ⟨b, 0, none⟩ = some (.int .u32 1)) (hc1 : w.cell? ⟨b, 1, none⟩ = some (.int .u32 2)) :
    Calls Try.prog 17 #[.int .u32 ps, .slice (some ⟨b, 0, none⟩) 2 2] w fun e w' => e = .returned (.int .u32 (ps - ps % 2 - ps / 2 % 2 * 2)) ∧ w = w' := by
  have h : bits .andNot .u32 (bits .andNot .u32 ps 1) 2 = ps - ps % 2 - ps / 2 % 2 * 2 := by
    rw [andNot_sub h0 h1 (by omega) (by omega), and1 h0 h1, andNot_sub (by omega) (by omega) (by omega) (by omega), and2 (by omega) (by omega)]
    omega
  have H := Lib.hid h
  clear h
  go_enter Try.func17, Try.ntmps17
  go_wp2
  refine wp_loop_rounds 3 ?_
  rw [rounds_succ]
  go_wp2
  rw [rounds_succ]
  go_wp2
  rw [rounds_succ]
  go_wp2
  go_ret
  exact ⟨by rw [H.out]; rfl, rfl⟩

/-- A state as a value. -/
def stV (r0 r1 r2 r3 r4 r5 r6 r7 pc ps c0 c1 c2 c3 c4 c5 c6 c7 : Int) (h : Bool) : Value :=
  .agg #[.int .u32 r0, .int .u32 r1, .int .u32 r2, .int .u32 r3, .int .u32 r4, .int .u32 r5, .int .u32 r6, .int .u32 r7, .int .u32 pc, .int .u32 ps, .int .u32 c0, .int .u32 c1, .int .u32 c2, .int .u32 c3, .int .u32 c4, .int .u32 c5, .int .u32 c6, .int .u32 c7, .bool h]
/-- A fault as a value. -/
def faV (fc fa : Int) : Value := .agg #[.int .i64 fc, .int .u32 fa]

set_option maxHeartbeats 2000000 in
theorem refEnter_c (r0 r1 r2 r3 r4 r5 r6 r7 pc ps c0 c1 c2 c3 c4 c5 c6 c7 : Int) (h : Bool) (fc fa back : Int) (w : World) (h0 : 0 ≤ ps) (h1 : ps < 4294967296) :
    Calls Try.prog 13 #[stV r0 r1 r2 r3 r4 r5 r6 r7 pc ps c0 c1 c2 c3 c4 c5 c6 c7 h, faV fc fa, .int .u32 back] w fun e w' =>
      e = .returned (stV r0 r1 r2 r3 r4 r5 r6 r7 c1 (ps - ps % 2 - ps / 2 % 2 * 2) c0 c1 back ps (fc % 4294967296) fa c6 c7 h) ∧ Below w.heap.size w w' := by
  unfold stV faV
  go_enter Try.func13, Try.ntmps13
  go_wp2_with (first
    | ((with_reducible show wpList _ _ _ (Oper.mk _ (.load 28 _) _ _ _ _ :: _) _ _); refine wpList_load_row rfl 28 _ rfl _ rfl 28 _ (0, 0) _ (by first | (refine heap_new' ?_; simp; done) | (refine heap_old' (heap_new' ?_); simp; done) | (refine heap_old' (heap_old' (heap_new' ?_)); simp; done) | (refine heap_old' (heap_old' (heap_old' (heap_new' ?_))); simp; done) | (refine heap_old' (heap_old' (heap_old' (heap_old' (heap_new' ?_)))); simp; done)) Try.underlying28 rfl (by kernel_rfl) ?_)
    | ((with_reducible show wpList _ _ _ (Oper.mk _ (.store 28 _ _) _ _ _ _ :: _) _ _); refine wpList_store_at rfl 28 _ _ rfl rfl _ _ rfl rfl 28 _ (by first | (refine heap_new' ?_; simp; done) | (refine heap_old' (heap_new' ?_); simp; done) | (refine heap_old' (heap_old' (heap_new' ?_)); simp; done) | (refine heap_old' (heap_old' (heap_old' (heap_new' ?_))); simp; done)) (by kernel_rfl) (by rfl) (by simp [Value.oneCell']) _ (by first | (refine setRow_new' _ _ _ _ _ ?_; simp; done) | (refine setRow_past _ (setRow_new' _ _ _ _ _ ?_) ?_ <;> simp; done) | (refine setRow_past _ (setRow_past _ (setRow_new' _ _ _ _ _ ?_) ?_) ?_ <;> simp; done) | (refine setRow_past _ (setRow_past _ (setRow_past _ (setRow_new' _ _ _ _ _ ?_) ?_) ?_) ?_ <;> simp; done)) ?_))
  refine bodyPost_ret (results_cell_row (fn := Try.f13) rfl _ _ (w.heap.size + 1 + 1) 28 _ (0, 0) _ rfl (by first | (refine heap_old' (heap_new' ?_); simp; done)) Try.underlying28 rfl (by kernel_rfl)) rfl ⟨rfl, ?_⟩
  exact (((below_alloc1 _ _).alloc (by simp) _).alloc (by simp; omega) _).alloc (by simp; omega) _

theorem copy4_world (W0 : World) (L S : Obj) (v0 v1 v2 v3 v4 v5 v6 v7 v8 v9 v10 v11 v12 v13 v14 v15 v16 v17 v18 s0 s1 s2 s3 : Value) : ((((W0.alloc S).alloc (.cells #[v0, v1, v2, v3, v4, v5, v6, v7, v8, v9, v10, v11, v12, v13, v14, v15, v16, v17, v18] 28)).alloc L).drew.drew).setCells (W0.heap.size + 1) 12 [s0, s1, s2, s3] = (((W0.alloc S).alloc (.cells #[v0, v1, v2, v3, v4, v5, v6, v7, v8, v9, v10, v11, s0, s1, s2, s3, v16, v17, v18] 28)).alloc L).drew.drew := by
  simp only [World.setCells]
  go_simp

theorem copy4_c (W0 : World) (L : Obj) (v0 v1 v2 v3 v4 v5 v6 v7 v8 v9 v10 v11 v12 v13 v14 v15 v16 v17 v18 s0 s1 s2 s3 : Value) (t4 : TypeId) (h0 : s0.oneCell' = true) (h1 : s1.oneCell' = true) (h2 : s2.oneCell' = true) (h3 : s3.oneCell' = true) :
    (Builtin.copy_ #[44, 44] 3 #[.slice (some ⟨W0.heap.size + 1, 12, none⟩) 4 6, .slice (some ⟨W0.heap.size, 0, none⟩) 4 4]).run Try.prog ((((W0.alloc (.cells #[s0, s1, s2, s3] t4)).alloc (.cells #[v0, v1, v2, v3, v4, v5, v6, v7, v8, v9, v10, v11, v12, v13, v14, v15, v16, v17, v18] 28)).alloc L).drew.drew) =
      .ok (.int .i64 4) ((((W0.alloc (.cells #[s0, s1, s2, s3] t4)).alloc (.cells #[v0, v1, v2, v3, v4, v5, v6, v7, v8, v9, v10, v11, s0, s1, s2, s3, v16, v17, v18] 28)).alloc L).drew.drew) := by
  have hrun := run_copy_cells (P := Try.prog) ((((W0.alloc (.cells #[s0, s1, s2, s3] t4)).alloc (.cells #[v0, v1, v2, v3, v4, v5, v6, v7, v8, v9, v10, v11, v12, v13, v14, v15, v16, v17, v18] 28)).alloc L).drew.drew) 44 44 3 22 (W0.heap.size + 1) 12 4 6 ⟨W0.heap.size, 0, none⟩ 4 4 [s0, s1, s2, s3] Try.underlying44 (by kernel_rfl) rfl
    (fun j v hj => by
      match j, hj with
      | 0, hj => simp at hj; subst hj; simp [Addr.add]; go_simp
      | 1, hj => simp at hj; subst hj; simp [Addr.add]; go_simp
      | 2, hj => simp at hj; subst hj; simp [Addr.add]; go_simp
      | 3, hj => simp at hj; subst hj; simp [Addr.add]; go_simp
      | j + 4, hj => simp at hj)
    (fun j hj => by
      match j, hj with
      | 0, _ => go_simp
      | 1, _ => go_simp
      | 2, _ => go_simp
      | 3, _ => go_simp
      | j + 4, hj => simp at hj; omega)
    (fun j hj => by
      match j, hj with
      | 0, _ => go_simp
      | 1, _ => go_simp
      | 2, _ => go_simp
      | 3, _ => go_simp
      | j + 4, hj => simp at hj; omega)
    (by simp [h0, h1, h2, h3])
  rw [hrun, copy4_world]
  rfl

theorem wrapM_wf (n : Int) : (Lit.int .u32 (n % 4294967296)).wf = true := by
  have hmin : IntKind.u32.min = 0 := rfl
  have hmax : IntKind.u32.max = 4294967295 := rfl
  simp only [Lit.wf, Bool.and_eq_true, decide_eq_true_eq]; omega

set_option maxHeartbeats 2000000 in
theorem enter_c (r0 r1 r2 r3 r4 r5 r6 r7 pc ps c0 c1 c2 c3 c4 c5 c6 c7 : Int) (h : Bool) (fc fa back : Int) (w : World) (h0 : 0 ≤ ps) (h1 : ps < 4294967296)
    (wp : (Lit.int .u32 ps).wf = true) (wb : (Lit.int .u32 back).wf = true) (wa : (Lit.int .u32 fa).wf = true) (w2 : (Lit.int .u32 c2).wf = true) (w3 : (Lit.int .u32 c3).wf = true) (w4 : (Lit.int .u32 c4).wf = true) (w5 : (Lit.int .u32 c5).wf = true) :
    Calls Try.prog 12 #[stV r0 r1 r2 r3 r4 r5 r6 r7 pc ps c0 c1 c2 c3 c4 c5 c6 c7 h, faV fc fa, .int .u32 back] w fun e w' =>
      e = .returned (stV r0 r1 r2 r3 r4 r5 r6 r7 c1 (ps - ps % 2 - ps / 2 % 2 * 2) c0 c1 back ps (fc % 4294967296) fa c6 c7 h) ∧ Below w.heap.size w w' := by
  unfold stV faV
  go_enter Try.func12, Try.ntmps12
  go_wp2_with (first
    | ((with_reducible show wpList _ _ _ (Oper.mk _ (.load 28 _) _ _ _ _ :: _) _ _); refine wpList_load_row rfl 28 _ rfl _ rfl 28 _ (0, 0) _ (by first | (refine heap_drew' (heap_old' (heap_new' ?_)); simp; done) | (refine heap_drew' (heap_drew' (heap_old' (heap_new' ?_))); simp; done) | (refine heap_drew' (heap_old' (heap_old' (heap_old' (heap_new' ?_)))); simp; done) | (refine heap_drew' (heap_drew' (heap_old' (heap_old' (heap_old' (heap_new' ?_))))); simp; done) | (refine heap_new' ?_; simp; done) | (refine heap_old' (heap_new' ?_); simp; done) | (refine heap_old' (heap_old' (heap_new' ?_)); simp; done) | (refine heap_old' (heap_old' (heap_old' (heap_new' ?_))); simp; done) | (refine heap_old' (heap_old' (heap_old' (heap_old' (heap_new' ?_)))); simp; done)) Try.underlying28 rfl (by kernel_rfl) ?_)
    | ((with_reducible show wpList _ _ _ (Oper.mk _ (.store 28 _ _) _ _ _ _ :: _) _ _); refine wpList_store_at rfl 28 _ _ rfl rfl _ _ rfl rfl 28 _ (by first | (refine heap_drew' (heap_old' (heap_new' ?_)); simp; done) | (refine heap_drew' (heap_drew' (heap_old' (heap_new' ?_))); simp; done) | (refine heap_drew' (heap_old' (heap_old' (heap_old' (heap_new' ?_)))); simp; done) | (refine heap_drew' (heap_drew' (heap_old' (heap_old' (heap_old' (heap_new' ?_))))); simp; done) | (refine heap_new' ?_; simp; done) | (refine heap_old' (heap_new' ?_); simp; done) | (refine heap_old' (heap_old' (heap_new' ?_)); simp; done) | (refine heap_old' (heap_old' (heap_old' (heap_new' ?_))); simp; done)) (by kernel_rfl) (by rfl) (by simp [Value.oneCell']) _ (by first | (refine setRow_drew (setRow_past _ (setRow_past _ (setRow_past _ (setRow_new' _ _ _ _ _ ?_) ?_) ?_) ?_) <;> simp; done) | (refine setRow_drew (setRow_drew (setRow_past _ (setRow_past _ (setRow_past _ (setRow_new' _ _ _ _ _ ?_) ?_) ?_) ?_)) <;> simp; done) | (refine setRow_new' _ _ _ _ _ ?_; simp; done) | (refine setRow_past _ (setRow_new' _ _ _ _ _ ?_) ?_ <;> simp; done) | (refine setRow_past _ (setRow_past _ (setRow_new' _ _ _ _ _ ?_) ?_) ?_ <;> simp; done) | (refine setRow_past _ (setRow_past _ (setRow_past _ (setRow_new' _ _ _ _ _ ?_) ?_) ?_) ?_ <;> simp; done)) ?_))
  refine (without_c _ _ _ h0 h1 ?ha ?hb).mono ?_
  case ha => go_simp
  case hb => go_simp
  rintro e w' ⟨rfl, rfl⟩
  obtain ⟨r, _, hne, hiff⟩ := run_eql_flat (P := Try.prog) (n := 3) (t := 42) (ks := [.i .u32, .i .u32, .i .u32, .i .u32]) (by decide) (by kernel_rfl) (by kernel_rfl) (by kernel_rfl) (by kernel_rfl) (xs := [.int .u32 back, .int .u32 ps, .int .u32 (fc % 4294967296), .int .u32 fa]) (ys := [.int .u32 c2, .int .u32 c3, .int .u32 c4, .int .u32 c5])
    ⟨⟨_, rfl, wb⟩, ⟨_, rfl, wp⟩, ⟨_, rfl, wrapM_wf fc⟩, ⟨_, rfl, wa⟩, trivial⟩ ⟨⟨_, rfl, w2⟩, ⟨_, rfl, w3⟩, ⟨_, rfl, w4⟩, ⟨_, rfl, w5⟩, trivial⟩
  have HI := Lib.hid hiff
  clear hiff
  have hsp : ∀ (b o c : Nat) (w : World), (Instr.arrayAt 42 (.slice (some ⟨b, o, none⟩) 4 c)).run Try.prog w = .ok (.pointer (some ⟨b, o, none⟩)) w := fun _ _ _ _ => by kernel_rfl
  cases r
  · go_wp2_with (first
    | ((with_reducible show wpList _ _ _ (Oper.mk _ (.load 28 _) _ _ _ _ :: _) _ _); refine wpList_load_row rfl 28 _ rfl _ rfl 28 _ (0, 0) _ (by first | (refine heap_drew' (heap_old' (heap_new' ?_)); simp; done) | (refine heap_drew' (heap_drew' (heap_old' (heap_new' ?_))); simp; done) | (refine heap_drew' (heap_old' (heap_old' (heap_old' (heap_new' ?_)))); simp; done) | (refine heap_drew' (heap_drew' (heap_old' (heap_old' (heap_old' (heap_new' ?_))))); simp; done) | (refine heap_new' ?_; simp; done) | (refine heap_old' (heap_new' ?_); simp; done) | (refine heap_old' (heap_old' (heap_new' ?_)); simp; done) | (refine heap_old' (heap_old' (heap_old' (heap_new' ?_))); simp; done) | (refine heap_old' (heap_old' (heap_old' (heap_old' (heap_new' ?_)))); simp; done)) Try.underlying28 rfl (by kernel_rfl) ?_)
    | ((with_reducible show wpList _ _ _ (Oper.mk _ (.store 28 _ _) _ _ _ _ :: _) _ _); refine wpList_store_at rfl 28 _ _ rfl rfl _ _ rfl rfl 28 _ (by first | (refine heap_drew' (heap_old' (heap_new' ?_)); simp; done) | (refine heap_drew' (heap_drew' (heap_old' (heap_new' ?_))); simp; done) | (refine heap_drew' (heap_old' (heap_old' (heap_old' (heap_new' ?_)))); simp; done) | (refine heap_drew' (heap_drew' (heap_old' (heap_old' (heap_old' (heap_new' ?_))))); simp; done) | (refine heap_new' ?_; simp; done) | (refine heap_old' (heap_new' ?_); simp; done) | (refine heap_old' (heap_old' (heap_new' ?_)); simp; done) | (refine heap_old' (heap_old' (heap_old' (heap_new' ?_))); simp; done)) (by kernel_rfl) (by rfl) (by simp [Value.oneCell']) _ (by first | (refine setRow_drew (setRow_past _ (setRow_past _ (setRow_past _ (setRow_new' _ _ _ _ _ ?_) ?_) ?_) ?_) <;> simp; done) | (refine setRow_drew (setRow_drew (setRow_past _ (setRow_past _ (setRow_past _ (setRow_new' _ _ _ _ _ ?_) ?_) ?_) ?_)) <;> simp; done) | (refine setRow_new' _ _ _ _ _ ?_; simp; done) | (refine setRow_past _ (setRow_new' _ _ _ _ _ ?_) ?_ <;> simp; done) | (refine setRow_past _ (setRow_past _ (setRow_new' _ _ _ _ _ ?_) ?_) ?_ <;> simp; done) | (refine setRow_past _ (setRow_past _ (setRow_past _ (setRow_new' _ _ _ _ _ ?_) ?_) ?_) ?_ <;> simp; done)) ?_))
    go_region
    go_wp2_with (first
      | ((with_reducible show wpList _ _ _ (Oper.mk _ (.load 28 _) _ _ _ _ :: _) _ _); refine wpList_load_row rfl 28 _ rfl _ rfl 28 _ (0, 0) _ (by first | (refine heap_drew' (heap_old' (heap_new' ?_)); simp; done) | (refine heap_drew' (heap_drew' (heap_old' (heap_new' ?_))); simp; done) | (refine heap_drew' (heap_old' (heap_old' (heap_old' (heap_new' ?_)))); simp; done) | (refine heap_drew' (heap_drew' (heap_old' (heap_old' (heap_old' (heap_new' ?_))))); simp; done) | (refine heap_new' ?_; simp; done) | (refine heap_old' (heap_new' ?_); simp; done) | (refine heap_old' (heap_old' (heap_new' ?_)); simp; done) | (refine heap_old' (heap_old' (heap_old' (heap_new' ?_))); simp; done) | (refine heap_old' (heap_old' (heap_old' (heap_old' (heap_new' ?_)))); simp; done)) Try.underlying28 rfl (by kernel_rfl) ?_)
      | ((with_reducible show wpList _ _ _ (Oper.mk _ (.store 28 _ _) _ _ _ _ :: _) _ _); refine wpList_store_at rfl 28 _ _ rfl rfl _ _ rfl rfl 28 _ (by first | (refine heap_drew' (heap_old' (heap_new' ?_)); simp; done) | (refine heap_drew' (heap_drew' (heap_old' (heap_new' ?_))); simp; done) | (refine heap_drew' (heap_old' (heap_old' (heap_old' (heap_new' ?_)))); simp; done) | (refine heap_drew' (heap_drew' (heap_old' (heap_old' (heap_old' (heap_new' ?_))))); simp; done) | (refine heap_new' ?_; simp; done) | (refine heap_old' (heap_new' ?_); simp; done) | (refine heap_old' (heap_old' (heap_new' ?_)); simp; done) | (refine heap_old' (heap_old' (heap_old' (heap_new' ?_))); simp; done)) (by kernel_rfl) (by rfl) (by simp [Value.oneCell']) _ (by first | (refine setRow_drew (setRow_past _ (setRow_past _ (setRow_past _ (setRow_new' _ _ _ _ _ ?_) ?_) ?_) ?_) <;> simp; done) | (refine setRow_drew (setRow_drew (setRow_past _ (setRow_past _ (setRow_past _ (setRow_new' _ _ _ _ _ ?_) ?_) ?_) ?_)) <;> simp; done) | (refine setRow_new' _ _ _ _ _ ?_; simp; done) | (refine setRow_past _ (setRow_new' _ _ _ _ _ ?_) ?_ <;> simp; done) | (refine setRow_past _ (setRow_past _ (setRow_new' _ _ _ _ _ ?_) ?_) ?_ <;> simp; done) | (refine setRow_past _ (setRow_past _ (setRow_past _ (setRow_new' _ _ _ _ _ ?_) ?_) ?_) ?_ <;> simp; done)) ?_))
    have hcp := copy4_c (((w.alloc (.cells #[.int .u32 r0, .int .u32 r1, .int .u32 r2, .int .u32 r3, .int .u32 r4, .int .u32 r5, .int .u32 r6, .int .u32 r7, .int .u32 pc, .int .u32 ps, .int .u32 c0, .int .u32 c1, .int .u32 c2, .int .u32 c3, .int .u32 c4, .int .u32 c5, .int .u32 c6, .int .u32 c7, .bool h] 28)).alloc (.cells #[.int .i64 fc, .int .u32 fa] 30)).alloc (.cells #[.int .u32 0, .int .u32 0, .int .u32 0, .int .u32 0, .int .u32 0, .int .u32 0, .int .u32 0, .int .u32 0, .int .u32 0, .int .u32 0, .int .u32 0, .int .u32 0, .int .u32 0, .int .u32 0, .int .u32 0, .int .u32 0, .int .u32 0, .int .u32 0, .bool false] 28))
      (.cells #[.int .u32 1, .int .u32 2] 22) (.int .u32 r0) (.int .u32 r1) (.int .u32 r2) (.int .u32 r3) (.int .u32 r4) (.int .u32 r5) (.int .u32 r6) (.int .u32 r7) (.int .u32 c1) (.int .u32 (ps - ps % 2 - ps / 2 % 2 * 2)) (.int .u32 c0) (.int .u32 c1) (.int .u32 c2) (.int .u32 c3) (.int .u32 c4) (.int .u32 c5) (.int .u32 c6) (.int .u32 c7) (.bool h) (.int .u32 back) (.int .u32 ps) (.int .u32 (fc % 4294967296)) (.int .u32 fa) 42 rfl rfl rfl rfl
    simp only [World.size_alloc] at hcp
    go_region
    go_wp2_with (first
      | ((with_reducible show wpList _ _ _ (Oper.mk _ (.load 28 _) _ _ _ _ :: _) _ _); refine wpList_load_row rfl 28 _ rfl _ rfl 28 _ (0, 0) _ (by first | (refine heap_drew' (heap_old' (heap_new' ?_)); simp; done) | (refine heap_drew' (heap_drew' (heap_old' (heap_new' ?_))); simp; done) | (refine heap_drew' (heap_old' (heap_old' (heap_old' (heap_new' ?_)))); simp; done) | (refine heap_drew' (heap_drew' (heap_old' (heap_old' (heap_old' (heap_new' ?_))))); simp; done) | (refine heap_new' ?_; simp; done) | (refine heap_old' (heap_new' ?_); simp; done) | (refine heap_old' (heap_old' (heap_new' ?_)); simp; done) | (refine heap_old' (heap_old' (heap_old' (heap_new' ?_))); simp; done) | (refine heap_old' (heap_old' (heap_old' (heap_old' (heap_new' ?_)))); simp; done)) Try.underlying28 rfl (by kernel_rfl) ?_)
      | ((with_reducible show wpList _ _ _ (Oper.mk _ (.store 28 _ _) _ _ _ _ :: _) _ _); refine wpList_store_at rfl 28 _ _ rfl rfl _ _ rfl rfl 28 _ (by first | (refine heap_drew' (heap_old' (heap_new' ?_)); simp; done) | (refine heap_drew' (heap_drew' (heap_old' (heap_new' ?_))); simp; done) | (refine heap_drew' (heap_old' (heap_old' (heap_old' (heap_new' ?_)))); simp; done) | (refine heap_drew' (heap_drew' (heap_old' (heap_old' (heap_old' (heap_new' ?_))))); simp; done) | (refine heap_new' ?_; simp; done) | (refine heap_old' (heap_new' ?_); simp; done) | (refine heap_old' (heap_old' (heap_new' ?_)); simp; done) | (refine heap_old' (heap_old' (heap_old' (heap_new' ?_))); simp; done)) (by kernel_rfl) (by rfl) (by simp [Value.oneCell']) _ (by first | (refine setRow_drew (setRow_past _ (setRow_past _ (setRow_past _ (setRow_new' _ _ _ _ _ ?_) ?_) ?_) ?_) <;> simp; done) | (refine setRow_drew (setRow_drew (setRow_past _ (setRow_past _ (setRow_past _ (setRow_new' _ _ _ _ _ ?_) ?_) ?_) ?_)) <;> simp; done) | (refine setRow_new' _ _ _ _ _ ?_; simp; done) | (refine setRow_past _ (setRow_new' _ _ _ _ _ ?_) ?_ <;> simp; done) | (refine setRow_past _ (setRow_past _ (setRow_new' _ _ _ _ _ ?_) ?_) ?_ <;> simp; done) | (refine setRow_past _ (setRow_past _ (setRow_past _ (setRow_new' _ _ _ _ _ ?_) ?_) ?_) ?_ <;> simp; done)) ?_))
    refine bodyPost_ret (results_cell_row (fn := Try.f12) rfl _ _ (w.heap.size + 1 + 1) 28 _ (0, 0) _ rfl (by first | (refine heap_drew' (heap_drew' (heap_old' (heap_old' (heap_old' (heap_new' ?_))))); simp; done) | (refine heap_drew' (heap_old' (heap_old' (heap_old' (heap_new' ?_)))); simp; done)) Try.underlying28 rfl (by kernel_rfl)) rfl ⟨?_, ?_⟩
    · rfl
    · exact (((((((below_alloc1 _ _).alloc (by simp) _).alloc (by simp; omega) _).alloc (by simp; omega) _).alloc (by simp; omega) _).alloc (by simp; omega) _).drew).drew
  · have he := HI.out
    simp at he
    obtain ⟨rfl, rfl, rfl, rfl⟩ := he
    clear HI
    go_wp2_with (first
      | ((with_reducible show wpList _ _ _ (Oper.mk _ (.load 28 _) _ _ _ _ :: _) _ _); refine wpList_load_row rfl 28 _ rfl _ rfl 28 _ (0, 0) _ (by first | (refine heap_drew' (heap_old' (heap_new' ?_)); simp; done) | (refine heap_drew' (heap_drew' (heap_old' (heap_new' ?_))); simp; done) | (refine heap_drew' (heap_old' (heap_old' (heap_old' (heap_new' ?_)))); simp; done) | (refine heap_drew' (heap_drew' (heap_old' (heap_old' (heap_old' (heap_new' ?_))))); simp; done) | (refine heap_new' ?_; simp; done) | (refine heap_old' (heap_new' ?_); simp; done) | (refine heap_old' (heap_old' (heap_new' ?_)); simp; done) | (refine heap_old' (heap_old' (heap_old' (heap_new' ?_))); simp; done) | (refine heap_old' (heap_old' (heap_old' (heap_old' (heap_new' ?_)))); simp; done)) Try.underlying28 rfl (by kernel_rfl) ?_)
      | ((with_reducible show wpList _ _ _ (Oper.mk _ (.store 28 _ _) _ _ _ _ :: _) _ _); refine wpList_store_at rfl 28 _ _ rfl rfl _ _ rfl rfl 28 _ (by first | (refine heap_drew' (heap_old' (heap_new' ?_)); simp; done) | (refine heap_drew' (heap_drew' (heap_old' (heap_new' ?_))); simp; done) | (refine heap_drew' (heap_old' (heap_old' (heap_old' (heap_new' ?_)))); simp; done) | (refine heap_drew' (heap_drew' (heap_old' (heap_old' (heap_old' (heap_new' ?_))))); simp; done) | (refine heap_new' ?_; simp; done) | (refine heap_old' (heap_new' ?_); simp; done) | (refine heap_old' (heap_old' (heap_new' ?_)); simp; done) | (refine heap_old' (heap_old' (heap_old' (heap_new' ?_))); simp; done)) (by kernel_rfl) (by rfl) (by simp [Value.oneCell']) _ (by first | (refine setRow_drew (setRow_past _ (setRow_past _ (setRow_past _ (setRow_new' _ _ _ _ _ ?_) ?_) ?_) ?_) <;> simp; done) | (refine setRow_drew (setRow_drew (setRow_past _ (setRow_past _ (setRow_past _ (setRow_new' _ _ _ _ _ ?_) ?_) ?_) ?_)) <;> simp; done) | (refine setRow_new' _ _ _ _ _ ?_; simp; done) | (refine setRow_past _ (setRow_new' _ _ _ _ _ ?_) ?_ <;> simp; done) | (refine setRow_past _ (setRow_past _ (setRow_new' _ _ _ _ _ ?_) ?_) ?_ <;> simp; done) | (refine setRow_past _ (setRow_past _ (setRow_past _ (setRow_new' _ _ _ _ _ ?_) ?_) ?_) ?_ <;> simp; done)) ?_))
    go_region
    go_wp2_with (first
      | ((with_reducible show wpList _ _ _ (Oper.mk _ (.load 28 _) _ _ _ _ :: _) _ _); refine wpList_load_row rfl 28 _ rfl _ rfl 28 _ (0, 0) _ (by first | (refine heap_drew' (heap_old' (heap_new' ?_)); simp; done) | (refine heap_drew' (heap_drew' (heap_old' (heap_new' ?_))); simp; done) | (refine heap_drew' (heap_old' (heap_old' (heap_old' (heap_new' ?_)))); simp; done) | (refine heap_drew' (heap_drew' (heap_old' (heap_old' (heap_old' (heap_new' ?_))))); simp; done) | (refine heap_new' ?_; simp; done) | (refine heap_old' (heap_new' ?_); simp; done) | (refine heap_old' (heap_old' (heap_new' ?_)); simp; done) | (refine heap_old' (heap_old' (heap_old' (heap_new' ?_))); simp; done) | (refine heap_old' (heap_old' (heap_old' (heap_old' (heap_new' ?_)))); simp; done)) Try.underlying28 rfl (by kernel_rfl) ?_)
      | ((with_reducible show wpList _ _ _ (Oper.mk _ (.store 28 _ _) _ _ _ _ :: _) _ _); refine wpList_store_at rfl 28 _ _ rfl rfl _ _ rfl rfl 28 _ (by first | (refine heap_drew' (heap_old' (heap_new' ?_)); simp; done) | (refine heap_drew' (heap_drew' (heap_old' (heap_new' ?_))); simp; done) | (refine heap_drew' (heap_old' (heap_old' (heap_old' (heap_new' ?_)))); simp; done) | (refine heap_drew' (heap_drew' (heap_old' (heap_old' (heap_old' (heap_new' ?_))))); simp; done) | (refine heap_new' ?_; simp; done) | (refine heap_old' (heap_new' ?_); simp; done) | (refine heap_old' (heap_old' (heap_new' ?_)); simp; done) | (refine heap_old' (heap_old' (heap_old' (heap_new' ?_))); simp; done)) (by kernel_rfl) (by rfl) (by simp [Value.oneCell']) _ (by first | (refine setRow_drew (setRow_past _ (setRow_past _ (setRow_past _ (setRow_new' _ _ _ _ _ ?_) ?_) ?_) ?_) <;> simp; done) | (refine setRow_drew (setRow_drew (setRow_past _ (setRow_past _ (setRow_past _ (setRow_new' _ _ _ _ _ ?_) ?_) ?_) ?_)) <;> simp; done) | (refine setRow_new' _ _ _ _ _ ?_; simp; done) | (refine setRow_past _ (setRow_new' _ _ _ _ _ ?_) ?_ <;> simp; done) | (refine setRow_past _ (setRow_past _ (setRow_new' _ _ _ _ _ ?_) ?_) ?_ <;> simp; done) | (refine setRow_past _ (setRow_past _ (setRow_past _ (setRow_new' _ _ _ _ _ ?_) ?_) ?_) ?_ <;> simp; done)) ?_))
    refine bodyPost_ret (results_cell_row (fn := Try.f12) rfl _ _ (w.heap.size + 1 + 1) 28 _ (0, 0) _ rfl (by first | (refine heap_drew' (heap_drew' (heap_old' (heap_old' (heap_old' (heap_new' ?_))))); simp; done) | (refine heap_drew' (heap_old' (heap_old' (heap_old' (heap_new' ?_)))); simp; done)) Try.underlying28 rfl (by kernel_rfl)) rfl ⟨?_, ?_⟩
    · rfl
    · exact ((((((below_alloc1 _ _).alloc (by simp) _).alloc (by simp; omega) _).alloc (by simp; omega) _).alloc (by simp; omega) _).alloc (by simp; omega) _).drew
end Go.Proofs.Ytgaffakhmghbdaa
