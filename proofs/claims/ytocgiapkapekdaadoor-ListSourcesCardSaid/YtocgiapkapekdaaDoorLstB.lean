/- The statements' own call 'works', and the walk of ListOnes. -/
import Derived.Test.YtocgiapkapekdaaDoorLstA
namespace Go.Proofs.YtocgiapkapekdaaDoor
open Go.RowKit
set_option linter.unusedSimpArgs false
set_option linter.unusedVariables false
set_option maxRecDepth 100000

theorem one_add : oneT [17, 18, 4] 0 = [97, 100, 100, 32, 114, 49, 32, 114, 50] ∧ oneN [17, 18, 4] 0 = 2 := by decide +kernel

set_option maxHeartbeats 2000000 in
theorem works_c (w : World) (HT : Hid (pTab w)) : Calls Tryd.prog 8 #[] w fun e w' => e = .returned (.bool true) ∧ Below w.heap.size w w' := by
  have hS := one_in (some ⟨w.heap.size, 0, none⟩) 3 3 [17, 18, 4] 0 (by decide) (w.alloc (.cells #[.int .u8 17, .int .u8 18, .int .u8 4] 5)) ⟨rfl, by decide, by decide, by decide, .inr ⟨_, _, rfl, fun i hi => by
    match i, hi with
    | 0, _ => go_simp
    | 1, _ => go_simp
    | 2, _ => go_simp⟩⟩ (Lib.hid fun w' h => HT.out w' ((Isa.below_alloc1 w _).trans (h.mono (by simp))))
  rw [one_add.1, one_add.2] at hS
  have HS := Lib.hid hS
  clear hS
  go_enter Tryd.func8, Tryd.ntmps8
  go_wp2_with fail
  refine (HS.out).mono ?_
  rintro e w1 ⟨rfl, hb⟩
  go_wp2_with fail
  go_ret
  exact ⟨rfl, Isa.below_box hb⟩

set_option maxHeartbeats 4000000 in
theorem ones_in (ao : Option Addr) (len cap : Nat) (L : List Int) (at_ : Int) (w : World) (hy : ByteArg w ao len cap L) (HT : Hid (pTab w)) :
    Calls Tryd.prog 3 #[.slice ao len cap, .int .i64 at_] w fun e w' => e = .returned (.bool true) ∧ Below w.heap.size w w' := by
  obtain ⟨s, m, hA, hB⟩ : ∃ (s : ByteArray) (m : Int), (Calls Tryd.prog 6 #[.slice ao len cap, .int .i64 at_] w fun e w' => e = .returned (.tuple #[.string s, .int .i64 m]) ∧ Below w.heap.size w w') ∧
      (∀ W, Below w.heap.size w W → Calls Tryd.prog 7 #[.slice ao len cap, .int .i64 at_] W fun e w' => e = .returned (.tuple #[.string s, .int .i64 m]) ∧ Below W.heap.size W w') := by
    by_cases h : at_ < 0 ∨ (len : Int) ≤ at_
    · exact ⟨_, _, (one_no_A ao len cap at_ h w).mono fun e w' ⟨h1, h2⟩ => ⟨h1, h2 ▸ Below.refl _ _⟩, fun W _ => (one_no_B ao len cap at_ h W).mono fun e w' ⟨h1, h2⟩ => ⟨h1, h2 ▸ Below.refl _ _⟩⟩
    · obtain ⟨n, rfl⟩ : ∃ n : Nat, at_ = (n : Int) := ⟨at_.toNat, by omega⟩
      have hn : n < len := by omega
      exact ⟨_, _, one_in ao len cap L n hn w hy HT, fun W hb => refOne_in ao len cap L n hn W (hy.belowL hb)⟩
  have HA := Lib.hid hA
  have HB := Lib.hid hB
  have HW := Lib.hid fun (W : World) (hb : Below w.heap.size w W) => works_c W (Lib.hid (fun w' h => HT.out w' (hb.trans (h.mono hb.size))))
  clear hA hB hy
  go_enter Tryd.func3, Tryd.ntmps3
  go_wp2_with fail
  refine HA.out.mono ?_
  rintro e w1 ⟨rfl, hb1⟩
  go_wp2_with fail
  refine (HB.out _ hb1).mono ?_
  rintro e w2 ⟨rfl, hb2⟩
  have B2 := Isa.below_next hb1 hb2
  go_wp2_with fail
  refine (HW.out _ B2).mono ?_
  rintro e w3 ⟨rfl, hb3⟩
  go_wp2_with fail
  go_ret
  exact ⟨rfl, Isa.below_next B2 hb3⟩

theorem ones_walk (ao : Option Addr) (len cap : Nat) (L : List Int) (at_ : Int) (wa : (Lit.int .i64 at_).wf = true) (w : World) (HT : Hid (pTab w)) (hy : ByteArg w ao len cap L) :
    Calls Tryd.prog 3 #[.slice ao len cap, .int .i64 at_] w fun e w' => e = .returned (.bool true) ∧ Below w.heap.size w w' :=
  ones_in ao len cap L at_ w hy HT
end Go.Proofs.YtocgiapkapekdaaDoor
