/- The walk of (*work).to. -/
import Derived.Test.YtgfljokamgbcaaaDoorAsB
import Derived.Laws.CopyOwn
namespace Go.Proofs.YtgfljokamgbcaaaDoor
open Go.RowKit
set_option linter.unusedSimpArgs false
set_option linter.unusedVariables false
set_option maxRecDepth 100000

/-- What a method hands back: the work as told, or a panic with the error told. -/
def MetP (base wk pb ob : Nat) (again : Bool) (r : Except Int St) (w : World) (e : Ending) (w' : World) : Prop := Fr base pb w w' ∧ match r with
  | .ok T => e = .returned (.tuple #[]) ∧ AsIs base wk pb ob again T w'
  | .error er => e = .panicked (wrongP er)

/-- What 'to' hands back: of the blocks that were there, the work and its row of bytes alone have turned. -/
def ToP (base wk pb ob : Nat) (again : Bool) (r : Except Int St) (pl : List (Wd × Int)) (vB vL vM : Value) (w : World) (e : Ending) (w' : World) : Prop := Fr base pb w w' ∧ (∀ g, g < w.heap.size → g ≠ wk → some g ≠ vB.ownBlock → w'.heap[g]? = w.heap[g]?) ∧ match r with
  | .ok T => e = .returned (.tuple #[]) ∧ ∃ vB', (∀ g, some g = vB'.ownBlock → some g = vB.ownBlock ∨ w.heap.size ≤ g) ∧ AsFix base wk pb ob again T pl vB' vL vM w'
  | .error er => e = .panicked (wrongP er)

set_option maxHeartbeats 4000000 in
theorem to_c (base wk pb ob : Nat) (again : Bool) (S : St) (pl : List (Wd × Int)) (vB vL vM : Value) (t : Int) (w : World) (hF : AsFix base wk pb ob again S pl vB vL vM w) (hs : base ≤ w.heap.size) (t0 : 0 ≤ t) (t1 : t ≤ 4611686018427387904) (hb : S.bytes.length ≤ 4096) :
    Calls Tryd.prog 52 #[.pointer (some ⟨wk, 0, none⟩), .int .i64 t] w (ToP base wk pb ob again (toF again S t) pl vB vL vM w) := by
  obtain ⟨i0, hi, hz0, hz1, hz2⟩ := info_parts Isa.Tryd.infoB
  have hg := give_c
  have HG := Lib.hid hg
  clear hg
  have hwb := hF.le
  by_cases c1 : 4096 < t
  · have hR : toF again S t = .error 311 := by unfold toF; rw [if_pos c1]
    rw [hR]
    clear hF
    go_enter Tryd.func52, Tryd.ntmps52
    go_wp2_with fail
    refine (HG.out _ _).mono ?_
    rintro e w2 ⟨rfl, rfl⟩
    exact ⟨rfl, Fr.refl _ _ _, fun _ _ _ _ => rfl, rfl⟩
  · have hR : toF again S t = .ok { S with at' := t, bytes := if again then S.bytes ++ List.replicate (t.toNat - S.bytes.length) 0 else S.bytes } := by unfold toF; rw [if_neg c1]
    obtain ⟨T, hT⟩ : ∃ T : St, T = { S with at' := t, bytes := if again then S.bytes ++ List.replicate (t.toNat - S.bytes.length) 0 else S.bytes } := ⟨_, rfl⟩
    rw [hR, ← hT]
    have HTT := Lib.hid hT
    clear hT hR
    have k0 := hF.cell 0
    have f0 := hF.frozen 0
    simp only [wkA] at k0
    have hlt := hF.lt
    have hF1 := hF.setAt t
    have hfr : Fr base pb w (w.setCell ⟨wk, 0, none⟩ (.int .i64 t)) := Fr.setWk _ hF.h hF.le
    have hk1 : ∀ g, g < w.heap.size → g ≠ wk → some g ≠ vB.ownBlock → (w.setCell ⟨wk, 0, none⟩ (.int .i64 t)).heap[g]? = w.heap[g]? := fun g _ hg _ => Below.heap_setCell _ _ _ _ hg
    have hsz1 : (w.setCell ⟨wk, 0, none⟩ (.int .i64 t)).heap.size = w.heap.size := by simp
    go_enter Tryd.func52, Tryd.ntmps52
    go_wp2_with fail
    obtain ⟨w1, hw1⟩ : ∃ x, x = w.setCell ⟨wk, 0, none⟩ (.int .i64 t) := ⟨_, rfl⟩
    rw [← hw1] at hF1 hfr hk1 hsz1 ⊢
    cases again
    · clear hw1
      have a1 : w1.cell? ⟨wk, 1, none⟩ = some (.bool false) := hF1.cell 1
      refine wp_loop_rounds 2 ?_
      rw [rounds_succ]
      go_wp2_with fail
      go_end0
      exact ⟨hfr, hk1, rfl, vB, fun g hg => .inl hg, by rw [HTT.out]; exact hF1⟩
    · have HF1 := Lib.hid hF1
      have HFr := Lib.hid hfr
      have HK1 := Lib.hid hk1
      have HS1 := Lib.hid hsz1
      clear hF hF1 hfr hk1 hw1 k0 f0 hsz1
      go_loopg [] (t.toNat - S.bytes.length) (fun gk wr => ∃ (j : Nat) (vj : Value), gk + j = t.toNat - S.bytes.length ∧ Hid (AsFix base wk pb ob true { S with at' := t, bytes := S.bytes ++ List.replicate j 0 } pl vj vL vM wr) ∧ Hid (Fr base pb w wr) ∧ Hid (∀ g, some g = vj.ownBlock → some g = vB.ownBlock ∨ w.heap.size ≤ g) ∧
        Hid (∀ g, g < w.heap.size → g ≠ wk → some g ≠ vB.ownBlock → wr.heap[g]? = w.heap[g]?))
      case atStart => exact ⟨0, vB, rfl, Lib.hid (by simpa using HF1.out), HFr, Lib.hid (fun g hg => .inl hg), HK1⟩
      case round =>
        obtain ⟨j, vj, hj, HF, HFr2, HO, HK⟩ := hrel
        have hO := HF.out.bs
        have hjl : (S.bytes ++ List.replicate j 0).length = S.bytes.length + j := by simp
        rw [hjl] at hO
        obtain ⟨aj, cj, rfl⟩ := own_sliceA hO
        have a1 : wr.cell? ⟨wk, 1, none⟩ = some (.bool true) := HF.out.cell 1
        have a4 : wr.cell? ⟨wk, 4, none⟩ = some (.slice aj (S.bytes.length + j) cj) := (HF.out.cell 4).trans (by simp [wkA])
        have hltr := HF.out.lt
        have hbr : base ≤ wr.heap.size := Nat.le_trans hs HFr2.out.size
        by_cases c2 : S.bytes.length + j < t.toNat
        · have i1 : (S.bytes.length : Int) + (j : Int) < t := by omega
          have HOj := Lib.hid hO
          clear hO
          go_wp2_with (first | (at_builtin; refine wpList_append_own_at _ rfl _ _ 23 rfl base 5 i0 (.int .u8 0) 1 1 Tryd.underlying23 hi hz0 hz1 hz2 rfl (by decide) (.slice aj (S.bytes.length + j) cj) _ _ rfl (HOj.out.alloc _) _ 1 1 [.int .u8 0] rfl rfl (cell_one_new _ _ _) (by simp [Value.oneCell']) (by unfold maxLen; omega) (by omega) (by simp; omega) ?_; intro v4 w4 hown4 hgrow4 _ hblk; obtain ⟨a4', q4, rfl⟩ := own_sliceA hown4; have h4 := blk_grownA (HOj.out.alloc _) (HF.out.alloc _).h (fun _ => cells_ne (by decide)) hgrow4; have c4 : w4.cell? ⟨wk, 4, none⟩ = some (.slice aj (S.bytes.length + j) cj) := (World.cell?_of_block h4).trans (((HF.out.alloc _).cell 4).trans (by simp [wkA])); have f4 : w4.frozen? ⟨wk, 4, none⟩ = false := (World.frozen?_of_block h4).trans ((HF.out.alloc _).frozen 4); clear h4))
          go_roundg (gk - 1)
          case measure => omega
          case rel =>
            have hrep : (S.bytes ++ List.replicate (j + 1) 0).length = S.bytes.length + j + 1 := by simp; omega
            have hmap : (S.bytes ++ List.replicate (j + 1) 0).map (Value.int .u8) = (S.bytes ++ List.replicate j 0).map (Value.int .u8) ++ [.int .u8 0] := by rw [List.replicate_succ', ← List.append_assoc, List.map_append]; rfl
            have hFn := (HF.out.alloc (.cells #[.int .u8 0] 5)).setBytes (L' := S.bytes ++ List.replicate (j + 1) 0) hgrow4 (by rw [hrep, hmap]; exact hown4)
            have hwrs := HFr2.out.size
            refine ⟨j + 1, _, by omega, Lib.hid hFn, Lib.hid ?_, Lib.hid ?_, Lib.hid ?_⟩
            · refine HFr2.out.trans ((Fr.of_below ((Below.refl _ _).alloc (Nat.le_refl _) _) hbr).trans ((Fr.grown (HOj.out.alloc _) (.inl rfl) hgrow4 (by simp; omega)).trans ?_))
              have h4 := blk_grownA (HOj.out.alloc _) (HF.out.alloc _).h (fun _ => cells_ne (by decide)) hgrow4
              exact Fr.setWk _ (h4.trans (HF.out.alloc _).h) hwb
            · intro g hg
              rcases hblk with h | h
              · exact HO.out g (by rw [hg]; exact h)
              · rw [h] at hg
                simp at hg
                exact .inr (by omega)
            · intro g hg hgw hgb
              refine (Below.heap_setCell _ _ _ _ hgw).trans ((hgrow4.block g (by simp; omega) (fun h => ?_)).trans ((Below.heap_alloc _ _ _ (by omega)).trans (HK.out g hg hgw hgb)))
              rcases HO.out g h with h | h
              · exact hgb h
              · omega
        · have i1 : ¬ (S.bytes.length : Int) + (j : Int) < t := by omega
          have hjz : j = t.toNat - S.bytes.length := by omega
          go_wp2_with fail
          go_end0
          subst hjz
          exact ⟨HFr2.out, HK.out, rfl, _, HO.out, by rw [HTT.out]; simpa only [if_true] using HF.out⟩
end Go.Proofs.YtgfljokamgbcaaaDoor
