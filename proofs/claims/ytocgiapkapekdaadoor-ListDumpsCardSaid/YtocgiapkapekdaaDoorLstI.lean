/- The walk of ListDumps. -/
import Derived.Test.YtocgiapkapekdaaDoorLstH
import Derived.Test.YtocgiapkapekdaaDoorLstB
namespace Go.Proofs.YtocgiapkapekdaaDoor
open Go.RowKit
set_option linter.unusedSimpArgs false
set_option linter.unusedVariables false
set_option maxRecDepth 100000

def fewL (L : List Int) : List Int := L.take 400
theorem few_c (ao : Option Addr) (la ca : Nat) (L : List Int) (w : World) (hA : ByteArg w ao la ca L) :
    Calls Tryd.prog 9 #[.slice ao la ca] w fun e w' => (∃ ca', e = .returned (.slice ao (fewL L).length ca') ∧ ByteArg w ao (fewL L).length ca' (fewL L)) ∧ w' = w := by
  obtain ⟨a1, a2, a3, a4, a5⟩ := hA
  subst a1
  by_cases c : 400 < L.length
  · have i1 : (400 : Int) < (L.length : Int) := by omega
    have hl : (fewL L).length = 400 := by unfold fewL; simp; omega
    obtain ⟨blk, off, rfl, hc⟩ : ∃ blk off, ao = some ⟨blk, off, none⟩ ∧ ∀ i, i < L.length → w.cell? ⟨blk, off + i, none⟩ = some (.int .u8 (L.getD i 0)) := by
      rcases a5 with h | h
      · rw [h] at c; simp at c
      · exact h
    have hA' : ByteArg w (some ⟨blk, off, none⟩) 400 ca (fewL L) := by
      refine ⟨hl, by omega, a3, fun x hx => a4 x (List.mem_of_mem_take hx), .inr ⟨blk, off, rfl, fun i hi => ?_⟩⟩
      rw [hl] at hi
      rw [hc i (by omega)]
      unfold fewL
      rw [List.getD_eq_getElem?_getD, List.getD_eq_getElem?_getD, List.getElem?_take, if_pos hi]
    rw [hl]
    have HA := Lib.hid hA'
    have j1 : (400 : Int) ≤ (ca : Int) := by omega
    clear hA' hc a4 a5 hl
    go_enter Tryd.func9, Tryd.ntmps9
    go_wp2_with fail
    go_ret
    exact ⟨⟨_, rfl, HA.out⟩, rfl⟩
  · have i1 : ¬ (400 : Int) < (L.length : Int) := by omega
    have hl : fewL L = L := List.take_of_length_le (by omega)
    have hA' : ByteArg w ao L.length ca (fewL L) := by rw [hl]; exact ⟨rfl, a2, a3, a4, a5⟩
    have hl2 : (fewL L).length = L.length := by rw [hl]
    rw [hl2]
    have HA := Lib.hid hA'
    clear hA' a4 a5 hl hl2
    go_enter Tryd.func9, Tryd.ntmps9
    go_wp2_with fail
    go_ret
    exact ⟨⟨_, rfl, HA.out⟩, rfl⟩
theorem few_len (L : List Int) : (fewL L).length ≤ 400 := by unfold fewL; simp; omega

set_option maxHeartbeats 4000000 in
theorem dump_nil (ca : Nat) (ao : Option Addr) (from' : Nat) (w : World) :
    Calls Tryd.prog 12 #[.slice ao 0 ca, .int .u32 (from' : Int)] w fun e w' => e = .returned (.string ⟨#[]⟩) ∧ Below w.heap.size w w' := by
  have HSt := Lib.hid fun (W : World) (h : Lib.IsBuilderF tB 5 w.heap.size w.heap.size (Lib.byteCells []) W) (hBw : w.heap.size ≤ W.heap.size) => Tryd.Builder_String_any_f w.heap.size w.heap.size [] W h hBw
  have hHB := Lib.hid (show Lib.IsBuilderF tB 5 w.heap.size w.heap.size (Lib.byteCells []) (w.alloc (.cells #[.pointer none, .slice none 0 0] tB)) from Lib.IsBuilderF.of (Lib.fresh_isBuilder tB 5 w))
  have hB : Below w.heap.size w (w.alloc (.cells #[.pointer none, .slice none 0 0] tB)) := (Below.refl _ _).alloc (Nat.le_refl _) _
  go_enter Tryd.func12, Tryd.ntmps12
  go_wp2_with fail
  go_loopg [6] 0 (fun gk vk wr => gk = 0 ∧ vk = .int .i64 0 ∧ wr = (w.alloc (.cells #[.pointer none, .slice none 0 0] tB)))
  case atStart => exact ⟨rfl, rfl, rfl⟩
  case round =>
    obtain ⟨rfl, rfl, rfl⟩ := hrel
    go_wp2_with fail
    refine (HSt.out _ hHB.out hB.size).mono ?_
    rintro e w1 ⟨rfl, -, hb1⟩
    go_wp2_with fail
    go_ret
    exact ⟨rfl, hB.trans hb1⟩
set_option maxHeartbeats 4000000 in
theorem refDump_nil (ca : Nat) (ao : Option Addr) (from' : Nat) (w : World) :
    Calls Tryd.prog 13 #[.slice ao 0 ca, .int .u32 (from' : Int)] w fun e w' => e = .returned (.string ⟨#[]⟩) ∧ w' = w := by
  go_enter Tryd.func13, Tryd.ntmps13
  go_wp2_with fail
  go_loopg [5, 6] 0 (fun gk v5 vk wr => gk = 0 ∧ v5 = .string ⟨#[]⟩ ∧ vk = .int .i64 0 ∧ wr = w)
  case atStart => exact ⟨rfl, rfl, rfl, rfl⟩
  case round =>
    obtain ⟨rfl, rfl, rfl, rfl⟩ := hrel
    go_wp2_with fail
    go_ret
    exact ⟨rfl, rfl⟩

theorem both_dumps (ao : Option Addr) (la ca : Nat) (L : List Int) (from' : Nat) (hf : from' < 4294967296) (hL : L.length ≤ 400) : ∃ s : ByteArray, (∀ W, ByteArg W ao la ca L → Calls Tryd.prog 12 #[.slice ao la ca, .int .u32 (from' : Int)] W fun e w' => e = .returned (.string s) ∧ Below W.heap.size W w') ∧
    (∀ W, ByteArg W ao la ca L → Calls Tryd.prog 13 #[.slice ao la ca, .int .u32 (from' : Int)] W fun e w' => e = .returned (.string s) ∧ w' = W) := by
  by_cases c : L = []
  · refine ⟨⟨#[]⟩, fun W h => ?_, fun W h => ?_⟩
    · have e : la = 0 := by rw [← h.1, c]; rfl
      subst e; exact dump_nil ca ao from' W
    · have e : la = 0 := by rw [← h.1, c]; rfl
      subst e; exact refDump_nil ca ao from' W
  · have key : ∀ W, ByteArg W ao la ca L → ∃ blk off, ao = some ⟨blk, off, none⟩ := fun W h => by
      rcases h.2.2.2.2 with h | ⟨b, o, e, -⟩
      · exact absurd h c
      · exact ⟨b, o, e⟩
    refine ⟨sH (dumpL L from' ((L.length + 15) / 16)), fun W h => ?_, fun W h => ?_⟩
    · obtain ⟨b, o, rfl⟩ := key W h
      exact dump_c b o la ca L from' hf hL W h c
    · obtain ⟨b, o, rfl⟩ := key W h
      exact refDump_c b o la ca L from' hf hL W h c

set_option maxHeartbeats 4000000 in
theorem dumps_in (ao : Option Addr) (la ca : Nat) (L : List Int) (from' : Nat) (hf : from' < 4294967296) (w : World) (hA : ByteArg w ao la ca L) (HT : Hid (pTab w)) :
    Calls Tryd.prog 5 #[.slice ao la ca, .int .u32 (from' : Int)] w fun e w' => e = .returned (.bool true) ∧ Below w.heap.size w w' := by
  have HF := Lib.hid (few_c ao la ca L w hA)
  have HB := Lib.hid fun (ca' : Nat) => both_dumps ao (fewL L).length ca' (fewL L) from' hf (few_len L)
  have HW := Lib.hid fun (W : World) (hb : Below w.heap.size w W) => works_c W (Lib.hid (fun w' h => HT.out w' (hb.trans (h.mono hb.size))))
  clear hA
  go_enter Tryd.func5, Tryd.ntmps5
  go_wp2_with fail
  refine (HF.out).mono ?_
  rintro e w1 ⟨⟨ca', rfl, hA1⟩, rfl⟩
  obtain ⟨s, h1, h2⟩ := HB.out ca'
  have H1 := Lib.hid h1
  have H2 := Lib.hid h2
  have HA1 := Lib.hid hA1
  have hq : (s.toList == s.toList) = true := by simp
  clear h1 h2 hA1 HF HB
  go_wp2_with fail
  refine (H1.out _ HA1.out).mono ?_
  rintro e w2 ⟨rfl, hb2⟩
  go_wp2_with fail
  refine (H2.out _ (HA1.out.belowH hb2)).mono ?_
  rintro e w3 ⟨rfl, rfl⟩
  go_wp2_with fail
  refine (HW.out _ hb2).mono ?_
  rintro e w4 ⟨rfl, hb4⟩
  go_wp2_with fail
  go_ret
  exact ⟨rfl, hb2.trans (hb4.mono hb2.size)⟩
theorem dumps_walk (ao : Option Addr) (len cap : Nat) (L : List Int) (fr : Int) (wf : (Lit.int .u32 fr).wf = true) (w : World) (HT : Hid (pTab w)) (hy : ByteArg w ao len cap L) :
    Calls Tryd.prog 5 #[.slice ao len cap, .int .u32 fr] w fun e w' => e = .returned (.bool true) ∧ Below w.heap.size w w' := by
  have hb : 0 ≤ fr ∧ fr < 4294967296 := bd_u32 wf
  obtain ⟨n, rfl⟩ : ∃ n : Nat, fr = (n : Int) := ⟨fr.toNat, by omega⟩
  exact dumps_in ao len cap L n (by omega) w hy HT
end Go.Proofs.YtocgiapkapekdaaDoor
