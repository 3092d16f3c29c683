/- What each method of the package sense turns: rdcr, wrcr, read, out. (Written by mkSB.py.) -/
import Derived.Test.YtlgnhjalhfednaaSenB
namespace Go.Proofs.Ytlgnhjalhfednaa
open Go.RowKit
set_option linter.unusedSimpArgs false
set_option linter.unusedVariables false

theorem updN_updN (f : Nat → Int) (k : Nat) (v v' : Int) : updN (updN f k v) k v' = updN f k v' := by
  funext j; simp only [updN]; split <;> rfl

set_option maxHeartbeats 4000000 in
theorem rdcr_user (b : Nat) (x : DX) (w : World) (h : DocAt w b x) (h0 : 0 ≤ x.a ∧ x.a < 8) (hu : x.user = true) :
    Calls Try.prog 33 #[.pointer (some ⟨b, 0, none⟩)] w (MPost w b { x with r := updN x.r x.a.toNat 0 }) := by
  obtain ⟨c8, c9, c12, c13, c20, c21, c23, c29⟩ := docK h
  obtain ⟨k, hk, ha⟩ : ∃ k : Nat, k < 8 ∧ x.a = (k : Int) := ⟨x.a.toNat, by omega, by omega⟩
  have cA : w.cell? ⟨b, k, none⟩ = some (.int .u32 (x.r k)) := (h.cell k).trans (docR x hk)
  have fA := h.free k
  have i1 : (0 : Int) ≤ (k : Int) ∧ (k : Int) < 8 := ⟨by omega, by omega⟩
  have hka : x.a.toNat = k := by omega
  rw [hka]
  rw [ha] at c20
  rw [hu] at c29
  have H := Lib.hid h
  have HK := Lib.hid hk
  have nk : k ≠ 29 := by omega
  clear h h0 ha hka hu hk
  go_enter Try.func33, Try.ntmps33
  go_wp2_with fail
  go_region
  all_goals
    go_wp2_with fail
    first | go_end0 | refine bodyPost_ret (results_none rfl _ _ _) rfl ?_
    exact ⟨rfl, (H.out.set k _ (docSetR x HK.out _)).drew, grownBy_drewS (grownBy_setS _ _ _ _)⟩

set_option maxHeartbeats 4000000 in
theorem rdcr_sys (b : Nat) (x : DX) (w : World) (h : DocAt w b x) (h0 : 0 ≤ x.a ∧ x.a < 8) (h1 : 0 ≤ x.b ∧ x.b < 8) (hu : x.user = false) :
    Calls Try.prog 33 #[.pointer (some ⟨b, 0, none⟩)] w (MPost w b { x with r := updN x.r x.a.toNat (x.cr x.b.toNat) }) := by
  obtain ⟨c8, c9, c12, c13, c20, c21, c23, c29⟩ := docK h
  obtain ⟨k, hk, ha⟩ : ∃ k : Nat, k < 8 ∧ x.a = (k : Int) := ⟨x.a.toNat, by omega, by omega⟩
  have cA : w.cell? ⟨b, k, none⟩ = some (.int .u32 (x.r k)) := (h.cell k).trans (docR x hk)
  have fA := h.free k
  have i1 : (0 : Int) ≤ (k : Int) ∧ (k : Int) < 8 := ⟨by omega, by omega⟩
  have hka : x.a.toNat = k := by omega
  rw [hka]
  rw [ha] at c20
  obtain ⟨j, hj, hb⟩ : ∃ j : Nat, j < 8 ∧ x.b = (j : Int) := ⟨x.b.toNat, by omega, by omega⟩
  have cB : w.cell? ⟨b, 10 + j, none⟩ = some (.int .u32 (x.cr j)) := (h.cell (10 + j)).trans (docC x hj)
  have fB := h.free (10 + j)
  have i2 : (0 : Int) ≤ (j : Int) ∧ (j : Int) < 8 := ⟨by omega, by omega⟩
  have hjb : x.b.toNat = j := by omega
  rw [hjb]
  rw [hb] at c21
  rw [hu] at c29
  have H := Lib.hid h
  have HK := Lib.hid hk
  have n29 : (w.setCell ⟨b, k, none⟩ (.int .u32 0)).cell? ⟨b, 29, none⟩ = some (.bool false) := (World.cell?_setCell_other _ _ _ _ (by first | (simp; done) | (simp; omega))).trans c29
  have n20 : (w.setCell ⟨b, k, none⟩ (.int .u32 0)).cell? ⟨b, 20, none⟩ = some (.int .u8 (k : Int)) := (World.cell?_setCell_other _ _ _ _ (by first | (simp; done) | (simp; omega))).trans c20
  have n21 : (w.setCell ⟨b, k, none⟩ (.int .u32 0)).cell? ⟨b, 21, none⟩ = some (.int .u8 (j : Int)) := (World.cell?_setCell_other _ _ _ _ (by first | (simp; done) | (simp; omega))).trans c21
  have nB : (w.setCell ⟨b, k, none⟩ (.int .u32 0)).cell? ⟨b, 10 + j, none⟩ = some (.int .u32 (x.cr j)) := (World.cell?_setCell_other _ _ _ _ (by first | (simp; done) | (simp; omega))).trans cB
  have nA : (w.setCell ⟨b, k, none⟩ (.int .u32 0)).cell? ⟨b, k, none⟩ = some (.int .u32 0) := World.cell?_setCell_same _ _ _ cA
  have nF : (w.setCell ⟨b, k, none⟩ (.int .u32 0)).frozen? ⟨b, k, none⟩ = false := by rw [World.frozen?_setCell]; exact fA
  have hD := Lib.hid (h.set k (.int .u32 0) (docSetR x hk 0))
  clear h h0 ha hka hk h1 hb hjb hj hu
  go_enter Try.func33, Try.ntmps33
  go_wp2_with fail
  go_region
  all_goals
    obtain ⟨w1, hw1⟩ : ∃ w1, w1 = w.setCell ⟨b, k, none⟩ (.int .u32 0) := ⟨_, rfl⟩
    rw [← hw1] at n29 n20 n21 nB nA nF hD ⊢
    have G1 := Lib.hid (show w.grownBy w1 (some b) from by rw [hw1]; exact grownBy_setS _ _ _ _)
    clear hw1 c8 c9 c12 c13 c20 c21 c23 c29 cA cB fA fB
    go_wp2_with fail
    go_region
    all_goals
      go_wp2_with fail
      first | go_end0 | refine bodyPost_ret (results_none rfl _ _ _) rfl ?_
      have hZ := (hD.out.set k (.int .u32 (x.cr j)) (docSetR _ HK.out _)).drew.drew
      simp only [updN_updN] at hZ
      exact ⟨rfl, hZ, G1.out.trans (grownBy_drewS (grownBy_drewS (grownBy_setS _ _ _ _)))⟩

set_option maxHeartbeats 4000000 in
theorem wrcr_c (b : Nat) (x : DX) (w : World) (h : DocAt w b x) (h0 : 0 ≤ x.a ∧ x.a < 8) (h1 : 0 ≤ x.b ∧ x.b < 8) (hu : x.user = false) :
    Calls Try.prog 34 #[.pointer (some ⟨b, 0, none⟩)] w (MPost w b { x with cr := updN x.cr x.b.toNat (x.r x.a.toNat), fl := decide (x.b = 0) }) := by
  obtain ⟨c8, c9, c12, c13, c20, c21, c23, c29⟩ := docK h
  obtain ⟨k, hk, ha⟩ : ∃ k : Nat, k < 8 ∧ x.a = (k : Int) := ⟨x.a.toNat, by omega, by omega⟩
  have cA : w.cell? ⟨b, k, none⟩ = some (.int .u32 (x.r k)) := (h.cell k).trans (docR x hk)
  have fA := h.free k
  have i1 : (0 : Int) ≤ (k : Int) ∧ (k : Int) < 8 := ⟨by omega, by omega⟩
  have hka : x.a.toNat = k := by omega
  rw [hka]
  rw [ha] at c20
  obtain ⟨j, hj, hb⟩ : ∃ j : Nat, j < 8 ∧ x.b = (j : Int) := ⟨x.b.toNat, by omega, by omega⟩
  have cB : w.cell? ⟨b, 10 + j, none⟩ = some (.int .u32 (x.cr j)) := (h.cell (10 + j)).trans (docC x hj)
  have fB := h.free (10 + j)
  have i2 : (0 : Int) ≤ (j : Int) ∧ (j : Int) < 8 := ⟨by omega, by omega⟩
  have hjb : x.b.toNat = j := by omega
  rw [hjb]
  rw [hb] at c21
  have HS := Lib.hid (system_ok b x w h hu)
  have c25 : w.cell? ⟨b, 25, none⟩ = some (.bool x.fl) := h.cell 25
  have f25 := h.free 25
  have m25 : (w.setCell ⟨b, 10 + j, none⟩ (.int .u32 (x.r k))).cell? ⟨b, 25, none⟩ = some (.bool x.fl) := (World.cell?_setCell_other _ _ _ _ (by first | (simp; done) | (simp; omega))).trans c25
  have m21 : (w.setCell ⟨b, 10 + j, none⟩ (.int .u32 (x.r k))).cell? ⟨b, 21, none⟩ = some (.int .u8 (j : Int)) := (World.cell?_setCell_other _ _ _ _ (by first | (simp; done) | (simp; omega))).trans c21
  have mF : (w.setCell ⟨b, 10 + j, none⟩ (.int .u32 (x.r k))).frozen? ⟨b, 25, none⟩ = false := by rw [World.frozen?_setCell]; exact f25
  have hD := Lib.hid (h.set (10 + j) (.int .u32 (x.r k)) (docSetC x hj (x.r k)))
  have hZ : decide (x.b = 0) = ((j : Int) == 0) := by rw [hb]; rfl
  have HZ := Lib.hid hZ
  rw [hZ]
  clear h h0 ha hka hk h1 hb hjb hj hu hZ
  go_enter Try.func34, Try.ntmps34
  go_wp2_with fail
  refine HS.out.mono ?_
  rintro e wq ⟨rfl, rfl⟩
  go_wp2_with fail
  go_region
  all_goals
    obtain ⟨w1, hw1⟩ : ∃ w1, w1 = w.setCell ⟨b, 10 + j, none⟩ (.int .u32 (x.r k)) := ⟨_, rfl⟩
    rw [← hw1] at m25 m21 mF hD ⊢
    have G1 := Lib.hid (show w.grownBy w1 (some b) from by rw [hw1]; exact grownBy_setS _ _ _ _)
    clear hw1 c8 c9 c12 c13 c20 c21 c23 c29 cA cB fA fB c25 f25
    go_wp2_with fail
    first | go_end0 | refine bodyPost_ret (results_none rfl _ _ _) rfl ?_
    exact ⟨rfl, (DocAt.set hD.out 25 _ (by rfl)).drew, G1.out.trans (grownBy_drewS (grownBy_setS _ _ _ _))⟩

set_option maxHeartbeats 4000000 in
theorem read_c (b : Nat) (x : DX) (w : World) (h : DocAt w b x) (h0 : 0 ≤ x.a ∧ x.a < 8) (hu : x.user = false) :
    Calls Try.prog 35 #[.pointer (some ⟨b, 0, none⟩)] w (MPost w b { x with r := updN x.r x.a.toNat x.inp }) := by
  obtain ⟨c8, c9, c12, c13, c20, c21, c23, c29⟩ := docK h
  obtain ⟨k, hk, ha⟩ : ∃ k : Nat, k < 8 ∧ x.a = (k : Int) := ⟨x.a.toNat, by omega, by omega⟩
  have cA : w.cell? ⟨b, k, none⟩ = some (.int .u32 (x.r k)) := (h.cell k).trans (docR x hk)
  have fA := h.free k
  have i1 : (0 : Int) ≤ (k : Int) ∧ (k : Int) < 8 := ⟨by omega, by omega⟩
  have hka : x.a.toNat = k := by omega
  rw [hka]
  rw [ha] at c20
  have HS := Lib.hid (system_ok b x w h hu)
  have H := Lib.hid h
  have HK := Lib.hid hk
  clear h h0 ha hka hk hu
  go_enter Try.func35, Try.ntmps35
  go_wp2_with fail
  refine HS.out.mono ?_
  rintro e wq ⟨rfl, rfl⟩
  go_wp2_with fail
  go_region
  all_goals
    go_wp2_with fail
    first | go_end0 | refine bodyPost_ret (results_none rfl _ _ _) rfl ?_
    exact ⟨rfl, (H.out.set k _ (docSetR x HK.out _)).drew, grownBy_drewS (grownBy_setS _ _ _ _)⟩

set_option maxHeartbeats 4000000 in
theorem out_c (b : Nat) (x : DX) (w : World) (h : DocAt w b x) (h0 : 0 ≤ x.a ∧ x.a < 8) (hu : x.user = false) (h1 : 0 ≤ x.b ∧ x.b < 8) :
    Calls Try.prog 36 #[.pointer (some ⟨b, 0, none⟩)] w (MPost w b { x with out := true, port := x.b, val := x.r x.a.toNat }) := by
  obtain ⟨c8, c9, c12, c13, c20, c21, c23, c29⟩ := docK h
  obtain ⟨k, hk, ha⟩ : ∃ k : Nat, k < 8 ∧ x.a = (k : Int) := ⟨x.a.toNat, by omega, by omega⟩
  have cA : w.cell? ⟨b, k, none⟩ = some (.int .u32 (x.r k)) := (h.cell k).trans (docR x hk)
  have fA := h.free k
  have i1 : (0 : Int) ≤ (k : Int) ∧ (k : Int) < 8 := ⟨by omega, by omega⟩
  have hka : x.a.toNat = k := by omega
  rw [hka]
  rw [ha] at c20
  have HS := Lib.hid (system_ok b x w h hu)
  have c26 : w.cell? ⟨b, 26, none⟩ = some (.bool x.out) := h.cell 26
  have c27 : w.cell? ⟨b, 27, none⟩ = some (.int .i64 x.port) := h.cell 27
  have c28 : w.cell? ⟨b, 28, none⟩ = some (.int .u32 x.val) := h.cell 28
  have f26 := h.free 26
  have f27 := h.free 27
  have f28 := h.free 28
  have H := Lib.hid h
  obtain ⟨h1, h2⟩ := h1
  clear h h0 ha hka hk hu
  go_enter Try.func36, Try.ntmps36
  go_wp2_with fail
  refine HS.out.mono ?_
  rintro e wq ⟨rfl, rfl⟩
  go_wp2_with fail
  go_region
  all_goals
    go_wp2_with fail
    first | go_end0 | refine bodyPost_ret (results_none rfl _ _ _) rfl ?_
    exact ⟨rfl, (DocAt.set (DocAt.set (y := { x with out := true, port := x.b }) (DocAt.set (y := { x with out := true }) H.out 26 _ (by rfl)) 27 _ (by rfl)) 28 _ (by rfl)).drew, grownBy_drewS (((grownBy_setS _ _ _ _).trans (grownBy_setS _ _ _ _)).trans (grownBy_setS _ _ _ _))⟩

end Go.Proofs.Ytlgnhjalhfednaa
