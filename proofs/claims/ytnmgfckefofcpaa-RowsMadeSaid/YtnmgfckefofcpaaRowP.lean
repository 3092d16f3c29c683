/- Rows of translated code: rows.fits and rows.Right. -/
import Derived.Test.YtnmgfckefofcpaaRowD
import Derived.Test.YtnmgfckefofcpaaRowE
import Derived.Test.YtnmgfckefofcpaaIsaH
namespace Go.Proofs.Ytnmgfckefofcpaa
open Go.RowKit
set_option linter.unusedSimpArgs false
set_option linter.unusedVariables false

/-- Does a row fit the instruction at its place? -/
def fitsR (ex op imm : Int) : Bool := if op = 113 then decide (ex = imm) else decide (ex < 0)

/-- Do rows fit their bytes, from a place on? -/
def rightF (B : List Int) : List RowR → Nat → Bool
  | [], a => decide (a = B.length)
  | r :: T, a =>
    if r.off ≠ (a : Int) ∨ B.length ≤ a then false
    else if (Isa.decR true (B.drop a)).err ≠ 0 then false
    else if fitsR r.exit (Isa.decR true (B.drop a)).op (Isa.decR true (B.drop a)).imm = false then false
    else rightF B T (a + (Isa.decR true (B.drop a)).n.toNat)

theorem dec_n (L : List Int) (h : (Isa.decR true L).err = 0) : 0 ≤ (Isa.decR true L).n ∧ (Isa.decR true L).n ≤ L.length := by
  cases L with
  | nil => simp [Isa.decR] at h
  | cons x T =>
    have hF := Isa.fm_is x true
    have h0 : 0 ≤ (Isa.fm x true).n := by rcases hF with h | h | h | h | h | h | h | h | h | h <;> rw [h] <;> simp
    unfold Isa.decR at h ⊢
    simp only at h ⊢
    by_cases c1 : (Isa.fm x true).n = 0
    · rw [if_pos c1] at h; simp at h
    · rw [if_neg c1] at h ⊢
      by_cases c2 : ((x :: T).length : Int) < (Isa.fm x true).n
      · rw [if_pos c2] at h; simp at h
      · rw [if_neg c2] at h ⊢
        split at h
        · rename_i c3
          rw [if_pos c3]
          exact ⟨h0, by simpa using c2⟩
        · simp at h

theorem dec_bd (L : List Int) (hb : ∀ x ∈ L, 0 ≤ x ∧ x < 256) : 0 ≤ (Isa.decR true L).op ∧ (Isa.decR true L).op < 256 ∧ -2147483648 ≤ (Isa.decR true L).imm ∧ (Isa.decR true L).imm < 2147483648 := by
  cases L with
  | nil => simp [Isa.decR]
  | cons x T =>
    have hbt : ∀ i, 0 ≤ T.getD i 0 ∧ T.getD i 0 < 256 := fun i => by
      rcases Nat.lt_or_ge i T.length with h | h
      · have : T.getD i 0 = T[i] := by simp [List.getD, List.getElem?_eq_getElem h]
        rw [this]; exact hb _ (List.mem_cons_of_mem _ (List.getElem_mem h))
      · have : T.getD i 0 = 0 := by simp [List.getD, List.getElem?_eq_none h]
        rw [this]; omega
    have b0 := hb x (List.mem_cons_self ..)
    have n1 := Isa.numF_bd (Isa.fm_is x true) (hbt 0) (hbt 1) (hbt 2) (hbt 3)
    have n2 := Isa.numF_bd (Isa.fm_is x true) (hbt 1) (hbt 2) (hbt 3) (hbt 4)
    unfold Isa.decR
    simp only
    by_cases c1 : (Isa.fm x true).n = 0
    · rw [if_pos c1]; simp
    · rw [if_neg c1]
      by_cases c2 : ((x :: T).length : Int) < (Isa.fm x true).n
      · rw [if_pos c2]; simp
      · rw [if_neg c2]
        split
        · refine ⟨b0.1, b0.2, ?_⟩
          simp only [Isa.numL]
          split
          · exact ⟨n2.1, n2.2⟩
          · exact ⟨n1.1, n1.2⟩
        · simp

set_option maxHeartbeats 1000000 in
theorem rfits_c (r : RowR) (op a b imm : Int) (w : World) (h0 : 0 ≤ op) (h1 : op < 256) (h6 : -2147483648 ≤ imm) (h7 : imm < 2147483648) :
    Calls Try.prog 23 #[r.val, Isa.insV op a b imm] w fun e w' => e = .returned (.bool (fitsR r.exit op imm)) ∧ Below w.heap.size w w' := by
  unfold RowR.val Isa.insV fitsR
  by_cases c : op = 113
  · subst c
    rw [if_pos rfl]
    go_enter Try.func23, Try.ntmps23
    go_wp2_with fail
    go_ret
    exact ⟨Isa.ret_bool (by rw [Bool.eq_iff_iff]; simp), (below_alloc1 _ _).alloc (by simp) _⟩
  · rw [if_neg c]
    have d : (op != 113) = true := bne_iff_ne.2 c
    go_enter Try.func23, Try.ntmps23
    go_wp2_with fail
    go_ret
    exact ⟨rfl, (below_alloc1 _ _).alloc (by simp) _⟩
end Go.Proofs.Ytnmgfckefofcpaa
