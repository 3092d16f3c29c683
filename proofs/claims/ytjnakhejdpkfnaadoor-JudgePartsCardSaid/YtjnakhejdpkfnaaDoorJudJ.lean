/- The statements' own call 'works'. -/
import Derived.Test.YtjnakhejdpkfnaaDoorJudI
namespace Go.Proofs.YtjnakhejdpkfnaaDoor
open Go.RowKit
set_option linter.unusedSimpArgs false
set_option linter.unusedVariables false
set_option maxRecDepth 100000

theorem tells_num {x y : Int} {fn : Nat} {caps : Array Value} {w : World} (nm : ByteArray) (d : Bool) (h : Qnum x y fn caps w) (HT : Hid (pTab w)) (hx0 : -9223372036854775808 ≤ x) (hx1 : x ≤ 9223372036854775807) (hy0 : -9223372036854775808 ≤ y) (hy1 : y ≤ 9223372036854775807) :
    Tells ⟨nm, d, fn, caps, fun s => sayS s (bothS (numS x) (numS y))⟩ w := by
  obtain ⟨rfl, p, q, rfl, hN⟩ := h
  refine ⟨fun args w => by go_simp, fun w' bt s hb hs hbt hB => ?_⟩
  have h1 := lt_of_rowJ hN.a
  have h2 := lt_of_rowJ hN.b
  exact numbers1_c p q bt x y s (by omega) hx0 hx1 hy0 hy1 w' (hN.next hb) hB (pTab_on HT hb) (by omega) (by omega)

def zero19J : Array Value := #[.int .u32 0, .int .u32 0, .int .u32 0, .int .u32 0, .int .u32 0, .int .u32 0, .int .u32 0, .int .u32 0, .int .u32 0, .int .u32 0, .int .u32 0, .int .u32 0, .int .u32 0, .int .u32 0, .int .u32 0, .int .u32 0, .int .u32 0, .int .u32 0, .bool false]
/-- A guest that has done so many steps, and nothing else. -/
def svZ (n : Int) : SvR := ⟨0, ⟨none, 0, 0, []⟩, zero19J, n, ⟨none, 0, 0, []⟩, ⟨none, 0, 0, []⟩, ⟨none, 0, 0, []⟩, ⟨none, 0, 0, []⟩, ⟨none, 0, 0, []⟩, fun _ => 0⟩
def rowZ (n : Int) : Array Value := #[.int .i64 0, .slice none 0 0, .int .u32 0, .int .u32 0, .int .u32 0, .int .u32 0, .int .u32 0, .int .u32 0, .int .u32 0, .int .u32 0, .int .u32 0, .int .u32 0, .int .u32 0, .int .u32 0, .int .u32 0, .int .u32 0, .int .u32 0, .int .u32 0, .int .u32 0, .int .u32 0, .bool false, .int .i64 n,
  .slice none 0 0, .slice none 0 0, .slice none 0 0, .slice none 0 0, .slice none 0 0, .int .u32 0, .int .u32 0, .int .u32 0, .int .u32 0, .int .u32 0, .int .u32 0, .int .u32 0, .int .u32 0]
theorem svZ_at (n : Int) : SvAt (rowZ n) (svZ n) := by
  refine ⟨rfl, rfl, rfl, ?_, rfl, rfl, rfl, rfl, rfl, rfl, rfl, rfl, rfl, rfl, rfl, rfl, rfl, rfl⟩
  intro j v h
  have hj : j < 19 := by
    have := (List.getElem?_eq_some_iff.1 h).1
    simpa [svZ, zero19J] using this
  rcases Nat.lt_or_ge j 10 with c | c
  · rcases (by omega : j = 0 ∨ j = 1 ∨ j = 2 ∨ j = 3 ∨ j = 4 ∨ j = 5 ∨ j = 6 ∨ j = 7 ∨ j = 8 ∨ j = 9) with rfl | rfl | rfl | rfl | rfl | rfl | rfl | rfl | rfl | rfl <;> exact h
  · rcases (by omega : j = 10 ∨ j = 11 ∨ j = 12 ∨ j = 13 ∨ j = 14 ∨ j = 15 ∨ j = 16 ∨ j = 17 ∨ j = 18) with rfl | rfl | rfl | rfl | rfl | rfl | rfl | rfl | rfl <;> exact h
theorem okZ : okAll stKJ zero19J.toList := by
  have h : CK.ok (.i .u32) (.int .u32 0) := ⟨0, rfl, by decide⟩
  exact ⟨h, h, h, h, h, h, h, h, h, h, h, h, h, h, h, h, h, h, ⟨false, rfl⟩, trivial⟩
theorem svZ_ok (n : Int) (h0 : -9223372036854775808 ≤ n) (h1 : n ≤ 9223372036854775807) (w : World) : SvOk (svZ n) w := by
  have hb : ByteArg w none 0 0 [] := ⟨rfl, Nat.le_refl _, by decide, fun x hx => (by cases hx), .inl rfl⟩
  have he : ∀ ks, ElemArg w ks none 0 0 [] := fun ks => ⟨rfl, Nat.le_refl _, by decide, fun x hx => (by cases hx), .inl rfl⟩
  exact ⟨by show _ ≤ (0 : Int); decide, by show (0 : Int) ≤ _; decide, h0, h1, rfl, okZ, hb, he _, hb, hb, hb, he _, fun k => ⟨by show (0 : Int) ≤ 0; decide, by show (0 : Int) < _; decide⟩⟩

theorem tells_no {p : PEnt} {w : World} (h : p.d = false) : p.d = true → Tells p w := fun h' => by rw [h] at h'; cases h'

theorem num34 : sayS ⟨#[115, 116, 101, 112, 115]⟩ (bothS (numS 3) (numS 4)) = ⟨#[115, 116, 101, 112, 115, 32, 51, 44, 32, 52]⟩ := by
  have e3 : numS 3 = ⟨#[51]⟩ := by unfold numS Lib.itoa Lib.decDigits; rfl
  have e4 : numS 4 = ⟨#[52]⟩ := by unfold numS Lib.itoa Lib.decDigits; rfl
  rw [e3, e4]
  unfold sayS bothS
  rw [if_neg (by rw [ByteArray.toList_eq]; decide)]
  first | rfl | decide +kernel

set_option maxHeartbeats 4000000 in
theorem tellZ_c (w : World) (HT : Hid (pTab w)) :
    Calls Tryd.prog 22 #[.agg (rowZ 3), .agg (rowZ 4)] w fun e w' => e = .returned (.string ⟨#[115, 116, 101, 112, 115, 32, 51, 44, 32, 52]⟩) ∧ Below w.heap.size w w' := by
  refine tell_c (rowZ 3) (rowZ 4) rfl rfl w (fun E => tellM E = ⟨#[115, 116, 101, 112, 115, 32, 51, 44, 32, 52]⟩) _ (fun E h => h) (fun W hb => ?_)
  refine (parts_c (rowZ 3) (rowZ 4) (svZ 3) (svZ 4) (svZ_at 3) (svZ_at 4) W (svZ_ok 3 (by decide) (by decide) W) (svZ_ok 4 (by decide) (by decide) W) false (fun _ _ _ => True) (fun _ _ _ _ _ _ => trivial) (fun W' hb' => ?_)).mono ?_
  · refine (statesEq_c zero19J rfl okZ W').mono ?_
    rintro e w' ⟨⟨p, q, rfl⟩, hb⟩
    exact ⟨⟨_, _, rfl, trivial⟩, hb⟩
  · rintro e w' ⟨g, C0, C1, C2, C3, C4, C5, C6, C7, C8, C9, rfl, hg, hrow, ⟨f0, c0, rfl, q0⟩, ⟨f1, c1, rfl, q1⟩, ⟨f2, c2, rfl, q2⟩, ⟨f3, c3, rfl, q3⟩, ⟨f4, c4, rfl, q4⟩, ⟨f5, c5, rfl, q5⟩, ⟨f6, c6, rfl, q6⟩, ⟨f7, c7, rfl, q7⟩, ⟨f8, c8, rfl, q8⟩, ⟨f9, c9, rfl, q9⟩, hB⟩
    have e4 : firstE (svZ 3).notes.L (svZ 4).notes.L = -1 := firstE_none (fun j => rfl)
    have e8 : firstE (svZ 3).script.L (svZ 4).script.L = -1 := firstE_none (fun j => rfl)
    have e9 : devNe (svZ 3) (svZ 4) = false := by unfold devNe svZ; simp
    rw [e4, e8, e9] at hrow
    refine ⟨g, [⟨_, (0 : Int) != 0, f0, c0, id⟩, ⟨_, true, f1, c1, fun s => sayS s (bothS (numS 3) (numS 4))⟩, ⟨_, false, f2, c2, id⟩, ⟨_, false, f3, c3, id⟩, ⟨_, false, f4, c4, id⟩, ⟨_, false, f5, c5, id⟩, ⟨_, false, f6, c6, id⟩, ⟨_, false, f7, c7, id⟩, ⟨_, false, f8, c8, id⟩, ⟨_, false, f9, c9, id⟩], rfl, ?_, rfl, hg, hrow, ?_, ?_, hB⟩
    · show sayS ⟨#[115, 116, 101, 112, 115]⟩ (bothS (numS 3) (numS 4)) = _
      exact num34
    · intro p hp
      simp only [List.mem_cons, List.not_mem_nil, or_false] at hp
      rcases hp with rfl | rfl | rfl | rfl | rfl | rfl | rfl | rfl | rfl | rfl <;> (dsimp only; decide)
    · intro p hp
      simp only [List.mem_cons, List.not_mem_nil, or_false] at hp
      rcases hp with rfl | rfl | rfl | rfl | rfl | rfl | rfl | rfl | rfl | rfl
      · exact tells_no rfl
      · exact fun _ => tells_num _ _ q1 (pTab_on HT (below_nextJ hb hB)) (by decide) (by decide) (by decide) (by decide)
      all_goals exact tells_no rfl

set_option maxHeartbeats 2000000 in
theorem works_c (w : World) (HT : Hid (pTab w)) : Calls Tryd.prog 13 #[] w fun e w' => e = .returned (.bool true) ∧ Below w.heap.size w w' := by
  have HS := Lib.hid (tellZ_c w HT)
  unfold rowZ at HS
  go_enter Tryd.func13, Tryd.ntmps13
  go_wp2_with fail
  refine (HS.out).mono ?_
  rintro e w1 ⟨rfl, hb⟩
  go_wp2_with fail
  go_ret
  exact ⟨rfl, hb⟩
end Go.Proofs.YtjnakhejdpkfnaaDoor
