/- What each method of the package sense turns. (Written by mkSB.py.) -/
import Derived.Test.YtlgnhjalhfednaaSenA
namespace Go.Proofs.Ytlgnhjalhfednaa
open Go.RowKit
set_option linter.unusedSimpArgs false
set_option linter.unusedVariables false

theorem docK {w : World} {b : Nat} {x : DX} (h : DocAt w b x) : w.cell? ⟨b, 8, none⟩ = some (.int .u32 x.pc) ∧ w.cell? ⟨b, 9, none⟩ = some (.int .u32 x.ps) ∧ w.cell? ⟨b, 12, none⟩ = some (.int .u32 (x.cr 2)) ∧ w.cell? ⟨b, 13, none⟩ = some (.int .u32 (x.cr 3)) ∧
    w.cell? ⟨b, 20, none⟩ = some (.int .u8 x.a) ∧ w.cell? ⟨b, 21, none⟩ = some (.int .u8 x.b) ∧ w.cell? ⟨b, 23, none⟩ = some (.int .u32 x.inp) ∧ w.cell? ⟨b, 29, none⟩ = some (.bool x.user) :=
  ⟨h.cell 8, h.cell 9, h.cell 12, h.cell 13, h.cell 20, h.cell 21, h.cell 23, h.cell 29⟩

set_option maxHeartbeats 4000000 in
theorem hlt_c (b : Nat) (x : DX) (w : World) (h : DocAt w b x) (hu : x.user = false) :
    Calls Try.prog 28 #[.pointer (some ⟨b, 0, none⟩)] w (MPost w b { x with h := true }) := by
  obtain ⟨c8, c9, c12, c13, c20, c21, c23, c29⟩ := docK h
  have HS := Lib.hid (system_ok b x w h hu)
  have c18 : w.cell? ⟨b, 18, none⟩ = some (.bool x.h) := h.cell 18
  have f18 := h.free 18
  have H := Lib.hid h
  clear h hu c8 c9 c12 c13 c20 c21 c23 c29
  go_enter Try.func28, Try.ntmps28
  go_wp2_with fail
  refine HS.out.mono ?_
  rintro e w1 ⟨rfl, rfl⟩
  go_wp2_with fail
  first | go_end0 | refine bodyPost_ret (results_none rfl _ _ _) rfl ?_
  exact ⟨rfl, H.out.set 18 _ rfl, grownBy_setS _ _ _ _⟩

set_option maxHeartbeats 4000000 in
theorem hlt_no (b : Nat) (x : DX) (w : World) (h : DocAt w b x) (hu : x.user = true) :
    Calls Try.prog 28 #[.pointer (some ⟨b, 0, none⟩)] w fun e w' => e = .panicked (givesUp 2) ∧ w = w' := by
  obtain ⟨c8, c9, c12, c13, c20, c21, c23, c29⟩ := docK h
  have HS := Lib.hid (system_no b x w h hu)
  clear h hu c8 c9 c12 c13 c20 c21 c23 c29
  go_enter Try.func28, Try.ntmps28
  go_wp2_with fail
  refine HS.out.mono ?_
  rintro e w1 ⟨rfl, rfl⟩
  exact ⟨rfl, rfl, rfl⟩

set_option maxHeartbeats 4000000 in
theorem wrcr_no (b : Nat) (x : DX) (w : World) (h : DocAt w b x) (hu : x.user = true) :
    Calls Try.prog 34 #[.pointer (some ⟨b, 0, none⟩)] w fun e w' => e = .panicked (givesUp 2) ∧ w = w' := by
  obtain ⟨c8, c9, c12, c13, c20, c21, c23, c29⟩ := docK h
  have HS := Lib.hid (system_no b x w h hu)
  clear h hu c8 c9 c12 c13 c20 c21 c23 c29
  go_enter Try.func34, Try.ntmps34
  go_wp2_with fail
  refine HS.out.mono ?_
  rintro e w1 ⟨rfl, rfl⟩
  exact ⟨rfl, rfl, rfl⟩

set_option maxHeartbeats 4000000 in
theorem read_no (b : Nat) (x : DX) (w : World) (h : DocAt w b x) (hu : x.user = true) :
    Calls Try.prog 35 #[.pointer (some ⟨b, 0, none⟩)] w fun e w' => e = .panicked (givesUp 2) ∧ w = w' := by
  obtain ⟨c8, c9, c12, c13, c20, c21, c23, c29⟩ := docK h
  have HS := Lib.hid (system_no b x w h hu)
  clear h hu c8 c9 c12 c13 c20 c21 c23 c29
  go_enter Try.func35, Try.ntmps35
  go_wp2_with fail
  refine HS.out.mono ?_
  rintro e w1 ⟨rfl, rfl⟩
  exact ⟨rfl, rfl, rfl⟩

set_option maxHeartbeats 4000000 in
theorem out_no (b : Nat) (x : DX) (w : World) (h : DocAt w b x) (hu : x.user = true) :
    Calls Try.prog 36 #[.pointer (some ⟨b, 0, none⟩)] w fun e w' => e = .panicked (givesUp 2) ∧ w = w' := by
  obtain ⟨c8, c9, c12, c13, c20, c21, c23, c29⟩ := docK h
  have HS := Lib.hid (system_no b x w h hu)
  clear h hu c8 c9 c12 c13 c20 c21 c23 c29
  go_enter Try.func36, Try.ntmps36
  go_wp2_with fail
  refine HS.out.mono ?_
  rintro e w1 ⟨rfl, rfl⟩
  exact ⟨rfl, rfl, rfl⟩

set_option maxHeartbeats 4000000 in
theorem iret_user (b : Nat) (x : DX) (w : World) (h : DocAt w b x) (hu : x.user = true) :
    Calls Try.prog 29 #[.pointer (some ⟨b, 0, none⟩)] w (MPost w b x) := by
  obtain ⟨c8, c9, c12, c13, c20, c21, c23, c29⟩ := docK h
  rw [hu] at c29
  have H := Lib.hid h
  clear h hu
  go_enter Try.func29, Try.ntmps29
  go_wp2_with fail
  first | go_end0 | refine bodyPost_ret (results_none rfl _ _ _) rfl ?_
  exact ⟨rfl, H.out, World.grownBy.refl _ _⟩

set_option maxHeartbeats 4000000 in
theorem iret_sys (b : Nat) (x : DX) (w : World) (h : DocAt w b x) (hu : x.user = false) (g2 : 0 ≤ x.cr 2 ∧ x.cr 2 < 4294967296) :
    Calls Try.prog 29 #[.pointer (some ⟨b, 0, none⟩)] w (MPost w b { x with pc := (x.cr 2 - 1) % 4294967296, ps := bits .and .u32 (x.cr 3) 247 }) := by
  obtain ⟨c8, c9, c12, c13, c20, c21, c23, c29⟩ := docK h
  rw [hu] at c29
  have f8 := h.free 8
  have f9 := h.free 9
  have H := Lib.hid h
  obtain ⟨g2, g3⟩ := g2
  clear h hu
  go_enter Try.func29, Try.ntmps29
  go_wp2_with fail
  first | go_end0 | refine bodyPost_ret (results_none rfl _ _ _) rfl ?_
  exact ⟨rfl, (H.out.set (y := { x with pc := (x.cr 2 - 1) % 4294967296 }) 8 _ rfl).set 9 _ rfl, (grownBy_setS _ _ _ _).trans (grownBy_setS _ _ _ _)⟩

set_option maxHeartbeats 4000000 in
theorem flush_c (b : Nat) (x : DX) (w : World) (h : DocAt w b x) :
    Calls Try.prog 30 #[.pointer (some ⟨b, 0, none⟩)] w (MPost w b { x with fl := !x.user }) := by
  obtain ⟨c8, c9, c12, c13, c20, c21, c23, c29⟩ := docK h
  have c25 : w.cell? ⟨b, 25, none⟩ = some (.bool x.fl) := h.cell 25
  have f25 := h.free 25
  have hnot : ∀ (x : Bool) (w : World), (Op.unary .not (.bool x)).run Try.prog w = .ok (.bool (!x)) w := fun _ _ => rfl
  have H := Lib.hid h
  clear h
  go_enter Try.func30, Try.ntmps30
  go_wp2_with fail
  first | go_end0 | refine bodyPost_ret (results_none rfl _ _ _) rfl ?_
  exact ⟨rfl, H.out.set 25 _ rfl, grownBy_setS _ _ _ _⟩

set_option maxHeartbeats 4000000 in
theorem rdps_c (b : Nat) (x : DX) (w : World) (h : DocAt w b x) (h0 : 0 ≤ x.a ∧ x.a < 8) :
    Calls Try.prog 31 #[.pointer (some ⟨b, 0, none⟩)] w (MPost w b { x with r := updN x.r x.a.toNat x.ps }) := by
  obtain ⟨c8, c9, c12, c13, c20, c21, c23, c29⟩ := docK h
  obtain ⟨k, hk, ha⟩ : ∃ k : Nat, k < 8 ∧ x.a = (k : Int) := ⟨x.a.toNat, by omega, by omega⟩
  have cA : w.cell? ⟨b, k, none⟩ = some (.int .u32 (x.r k)) := (h.cell k).trans (docR x hk)
  have fA := h.free k
  have i1 : (0 : Int) ≤ (k : Int) ∧ (k : Int) < 8 := ⟨by omega, by omega⟩
  have hka : x.a.toNat = k := by omega
  rw [hka]
  rw [ha] at c20
  have H := Lib.hid h
  have HK := Lib.hid hk
  clear h h0 ha hka hk
  go_enter Try.func31, Try.ntmps31
  go_wp2_with fail
  go_region
  all_goals
    go_wp2_with fail
    first | go_end0 | refine bodyPost_ret (results_none rfl _ _ _) rfl ?_
    exact ⟨rfl, (H.out.set k _ (docSetR x HK.out _)).drew, grownBy_drewS (grownBy_setS _ _ _ _)⟩

set_option maxHeartbeats 4000000 in
theorem wrps_user (b : Nat) (x : DX) (w : World) (h : DocAt w b x) (h0 : 0 ≤ x.a ∧ x.a < 8) (hu : x.user = true) :
    Calls Try.prog 32 #[.pointer (some ⟨b, 0, none⟩)] w (MPost w b { x with ps := bits .or .u32 (bits .andNot .u32 x.ps 240) (bits .and .u32 (x.r x.a.toNat) 240) }) := by
  obtain ⟨c8, c9, c12, c13, c20, c21, c23, c29⟩ := docK h
  obtain ⟨k, hk, ha⟩ : ∃ k : Nat, k < 8 ∧ x.a = (k : Int) := ⟨x.a.toNat, by omega, by omega⟩
  have cA : w.cell? ⟨b, k, none⟩ = some (.int .u32 (x.r k)) := (h.cell k).trans (docR x hk)
  have fA := h.free k
  have i1 : (0 : Int) ≤ (k : Int) ∧ (k : Int) < 8 := ⟨by omega, by omega⟩
  have hka : x.a.toNat = k := by omega
  rw [hka]
  rw [ha] at c20
  have f9 := h.free 9
  rw [hu] at c29
  have H := Lib.hid h
  clear h h0 ha hka hk hu
  go_enter Try.func32, Try.ntmps32
  go_wp2_with fail
  go_region
  all_goals
    go_wp2_with fail
    first | go_end0 | refine bodyPost_ret (results_none rfl _ _ _) rfl ?_
    exact ⟨rfl, DocAt.drew (DocAt.set H.out 9 _ (by rfl)), grownBy_drewS (grownBy_setS _ _ _ _)⟩

set_option maxHeartbeats 4000000 in
theorem wrps_sys (b : Nat) (x : DX) (w : World) (h : DocAt w b x) (h0 : 0 ≤ x.a ∧ x.a < 8) (hu : x.user = false) :
    Calls Try.prog 32 #[.pointer (some ⟨b, 0, none⟩)] w (MPost w b { x with ps := bits .and .u32 (x.r x.a.toNat) 247 }) := by
  obtain ⟨c8, c9, c12, c13, c20, c21, c23, c29⟩ := docK h
  obtain ⟨k, hk, ha⟩ : ∃ k : Nat, k < 8 ∧ x.a = (k : Int) := ⟨x.a.toNat, by omega, by omega⟩
  have cA : w.cell? ⟨b, k, none⟩ = some (.int .u32 (x.r k)) := (h.cell k).trans (docR x hk)
  have fA := h.free k
  have i1 : (0 : Int) ≤ (k : Int) ∧ (k : Int) < 8 := ⟨by omega, by omega⟩
  have hka : x.a.toNat = k := by omega
  rw [hka]
  rw [ha] at c20
  have f9 := h.free 9
  rw [hu] at c29
  have H := Lib.hid h
  clear h h0 ha hka hk hu
  go_enter Try.func32, Try.ntmps32
  go_wp2_with fail
  go_region
  all_goals
    go_wp2_with fail
    first | go_end0 | refine bodyPost_ret (results_none rfl _ _ _) rfl ?_
    exact ⟨rfl, DocAt.drew (DocAt.set H.out 9 _ (by rfl)), grownBy_drewS (grownBy_setS _ _ _ _)⟩

end Go.Proofs.Ytlgnhjalhfednaa
