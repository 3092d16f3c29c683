/- What the table says of an operation: has, Class, Ends, Turns, Fails, Silent. -/
import Derived.Test.YtlgnhjalhfednaaKindD
import Derived.Test.YtlgnhjalhfednaaKindS
namespace Go.Proofs.Ytlgnhjalhfednaa
open Go.RowKit
set_option maxRecDepth 100000
set_option linter.unusedSimpArgs false
set_option linter.unusedVariables false

/-- Does a letter stand among what is known? -/
def hasB (k : Kn) (c : Int) : Bool := k.is.any fun x => decide ((x.toNat : Int) = c)

theorem kret_bool {a b : Bool} (h : a = b) : Ending.returned (.bool a) = .returned (.bool b) := by rw [h]

theorem any_hit {l : List UInt8} {c : Int} {j : Nat} (h : j < l.length) (hc : (l[j].toNat : Int) = c) : (l.any fun x => decide ((x.toNat : Int) = c)) = true := by
  rw [List.any_eq_true]
  exact ⟨l[j], List.getElem_mem h, by simpa using hc⟩

theorem any_miss {l : List UInt8} {c : Int} (h : ∀ i (hi : i < l.length), (l[i].toNat : Int) ≠ c) : (l.any fun x => decide ((x.toNat : Int) = c)) = false := by
  rw [List.any_eq_false]
  intro x hx
  obtain ⟨i, hi, rfl⟩ := List.getElem_of_mem hx
  simpa using h i hi

set_option maxHeartbeats 2000000 in
theorem has_c (k : Kn) (hk : k.is.length ≤ 100) (c : Int) (w : World) (h0 : 0 ≤ c) (h1 : c < 256) :
    Calls Try.prog 25 #[k.val, .int .u8 c] w fun e w' => e = .returned (.bool (hasB k c)) ∧ Below w.heap.size w w' := by
  obtain ⟨cls, l⟩ := k
  unfold Kn.val
  simp only at hk ⊢
  obtain ⟨s, hs⟩ : ∃ s : ByteArray, s = ⟨l.toArray⟩ := ⟨_, rfl⟩
  have hl : s.data.toList = l := by rw [hs]
  have hz : s.size = l.length := by rw [hs]; simp [ByteArray.size]
  rw [← hs]
  subst hl
  have HZ := Lib.hid hz
  have hsz : s.size ≤ 100 := by omega
  clear hs hz hk
  go_enter Try.func25, Try.ntmps25
  go_wp2_with fail
  go_loopg [9] s.size (fun gk vi wr => ∃ j : Nat, gk + j = s.size ∧ vi = .int .i64 (j : Int) ∧ Hid (∀ i (hi : i < s.data.toList.length), i < j → (s.data.toList[i].toNat : Int) ≠ c) ∧ wr = w.alloc (.cells #[.int .i64 cls, .string s] 71))
  case atStart => exact ⟨0, rfl, rfl, Lib.hid (fun i hi h => absurd h (Nat.not_lt_zero _)), rfl⟩
  case round =>
    obtain ⟨j, hj, rfl, HN, rfl⟩ := hrel
    by_cases c1 : j < s.size
    · have i1 : (j : Int) < (s.size : Int) := by omega
      have hx : s.data.toList[j]'(by rw [← HZ.out]; exact c1) = s[j] := rfl
      by_cases c2 : ((s[j]).toNat : Int) = c
      · have HT := Lib.hid (any_hit (l := s.data.toList) (c := c) (j := j) (by rw [← HZ.out]; exact c1) (by rw [hx]; exact c2))
        have d2 : (((s[j]).toNat : Int) == c) = true := by simpa using c2
        clear hx
        clear c2
        go_wp2_with fail
        go_ret
        exact ⟨kret_bool HT.out.symm, kbelow_alloc1 _ _⟩
      · have HX := Lib.hid hx
        have d2 : (((s[j]).toNat : Int) == c) = false := by simpa using c2
        have C2 := Lib.hid c2
        clear hx c2
        go_wp2_with fail
        go_roundg (gk - 1)
        case measure => omega
        case rel => exact ⟨j + 1, by omega, rfl, Lib.hid (fun i hi h => by
          by_cases hij : i = j
          · subst hij; rw [HX.out]; exact C2.out
          · exact HN.out i hi (by omega)), rfl⟩
    · have i1 : ¬ (j : Int) < (s.size : Int) := by omega
      go_wp2_with fail
      go_ret
      exact ⟨kret_bool (any_miss (fun i hi => HN.out i hi (by have := HZ.out; omega))).symm, kbelow_alloc1 _ _⟩

theorem known_len (op : Int) (h0 : 0 ≤ op) (h1 : op < 256) : (knownF op).is.length ≤ 100 := by
  have h : ∀ i : Fin 256, (knownF (i.val : Int)).is.length ≤ 100 := by decide +kernel
  obtain ⟨n, rfl⟩ : ∃ n : Nat, op = (n : Int) := ⟨op.toNat, by omega⟩
  exact h ⟨n, by omega⟩

/-- What a call on the table leaves: the table filled, nothing else turned. -/
def TabPost (w : World) (tb : Nat) (v : Value) (e : Ending) (w' : World) : Prop := e = .returned v ∧ TabIs w' tb ∧ w.grownBy w' (some tb)

theorem tab_below {w w' : World} {tb : Nat} (h : TabIs w tb) (hb : Below w.heap.size w w') : TabIs w' tb :=
  tab_kept h ⟨hb.os, hb.tape, hb.output, hb.size, fun k hk _ => hb.block k hk⟩
theorem grown_below {w w1 w' : World} {tb : Nat} (h : w.grownBy w1 (some tb)) (hb : Below w1.heap.size w1 w') : w.grownBy w' (some tb) :=
  h.trans ⟨hb.os, hb.tape, hb.output, hb.size, fun k hk _ => hb.block k hk⟩

set_option maxHeartbeats 1000000 in
theorem class_c (tb : Nat) (op : Int) (w : World) (h : TabIs w tb) (h0 : 0 ≤ op) (h1 : op < 256) :
    Calls Try.prog 13 #[.pointer (some ⟨tb, 0, none⟩), .int .u8 op] w (TabPost w tb (.int .i64 (knownF op).cls)) := by
  have hO := Lib.hid (of_c tb op w h h0 h1)
  have hfl : ∀ (c : Int) (s : ByteArray) (w : World), (Instr.field 71 (.agg #[.int .i64 c, .string s]) 0).run Try.prog w = .ok (.int .i64 c) w := fun _ _ _ => by kernel_rfl
  clear h
  go_enter Try.func13, Try.ntmps13
  go_wp2_with fail
  refine hO.out.mono ?_
  rintro e w1 ⟨rfl, hF, hG⟩
  have HF := Lib.hid hF
  have HG := Lib.hid hG
  clear hF hG
  unfold Kn.val
  go_wp2_with fail
  go_ret
  exact ⟨rfl, .inr HF.out, HG.out⟩

set_option maxHeartbeats 1000000 in
theorem silent_c (tb : Nat) (op : Int) (w : World) (h : TabIs w tb) (h0 : 0 ≤ op) (h1 : op < 256) :
    Calls Try.prog 14 #[.pointer (some ⟨tb, 0, none⟩), .int .u8 op] w (TabPost w tb (.bool (hasB (knownF op) 115))) := by
  have hO := Lib.hid (of_c tb op w h h0 h1)
  have hH := Lib.hid fun w => has_c (knownF op) (known_len op h0 h1) 115 w (by decide) (by decide)
  clear h
  go_enter Try.func14, Try.ntmps14
  go_wp2_with fail
  refine hO.out.mono ?_
  rintro e w1 ⟨rfl, hF, hG⟩
  have HF := Lib.hid hF
  have HG := Lib.hid hG
  clear hF hG
  go_wp2_with fail
  refine (hH.out _).mono ?_
  rintro e w2 ⟨rfl, hb⟩
  have HF2 := Lib.hid (tab_below (.inr HF.out) hb)
  have HG2 := Lib.hid (grown_below HG.out hb)
  clear hb
  go_wp2_with fail
  go_ret
  exact ⟨rfl, HF2.out, HG2.out⟩

/-- A new table. -/
theorem new_c (w : World) : Calls Try.prog 12 #[] w fun e w' => e = .returned (.pointer (some ⟨w.heap.size, 0, none⟩)) ∧ TabIs w' w.heap.size ∧ w.heap.size < w'.heap.size ∧ Below w.heap.size w w' := by
  go_enter Try.func12, Try.ntmps12
  go_wp2_with fail
  go_ret
  refine ⟨rfl, .inl ⟨by go_simp, by go_simp, by go_simp, by go_simp, fun j => by go_simp⟩, by simp, kbelow_alloc1 _ _⟩
end Go.Proofs.Ytlgnhjalhfednaa
