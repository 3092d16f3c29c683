/- The walks of TextBack and TextOnce. -/
import Derived.Test.YtenbjnogeanglaaDoorRdG
import Derived.Test.YtenbjnogeanglaaDoorTxtW
import Derived.Test.YtenbjnogeanglaaDoorFlatEq
namespace Go.Proofs.YtenbjnogeanglaaDoor
open Go.RowKit
set_option linter.unusedSimpArgs false
set_option linter.unusedVariables false
set_option maxRecDepth 100000

theorem of_bounds {n : Nm} {ws : List (List UInt8)} {a b i : Int} (h : ofF n ws = .ok (a, b, i)) : (0 ≤ a ∧ a < 8) ∧ (0 ≤ b ∧ b < 8) ∧ -2147483648 ≤ i ∧ i < 2147483648 := by
  unfold ofF at h
  split at h
  case isFalse => cases h
  cases hA : oA n ws with
  | none => rw [hA] at h; cases h
  | some va =>
    cases hB : oB n ws with
    | none => rw [hA, hB] at h; cases h
    | some vb =>
      rw [hA, hB] at h
      simp only at h
      have hvA : 0 ≤ va ∧ va < 8 := by
        unfold oA at hA
        split at hA
        · have := Option.some.inj hA; omega
        · exact regF_bd hA
      have hvB : 0 ≤ vb ∧ vb < 8 := by
        unfold oB at hB
        split at hB
        · have := Option.some.inj hB; omega
        · exact regF_bd hB
      split at h
      · cases hr : numF (ws.getD (pI n) []) with
        | none => rw [hr] at h; cases h
        | some j =>
          rw [hr] at h
          simp only at h
          split at h
          · cases h; exact ⟨hvA, hvB, numF_bd hr⟩
          · cases h
      · cases h; exact ⟨hvA, hvB, by omega, by omega⟩
theorem read_bounds {L : List UInt8} {op a b i : Int} (h : readF L = .ok (op, a, b, i)) : (0 ≤ op ∧ op < 256) ∧ (0 ≤ a ∧ a < 8) ∧ (0 ≤ b ∧ b < 8) ∧ -2147483648 ≤ i ∧ i < 2147483648 := by
  unfold readF at h
  split at h
  · cases h
  · split at h
    · cases h
    · rename_i n hf
      have hn := List.mem_of_find?_eq_some hf
      obtain ⟨k, hk⟩ := List.getElem?_of_mem hn
      obtain ⟨o0, o1, -⟩ := nm_is hk
      cases ho : ofF n (splitF L) with
      | error e => rw [ho] at h; cases h
      | ok t =>
        obtain ⟨a', b', i'⟩ := t
        rw [ho] at h
        cases h
        exact ⟨⟨o0, o1⟩, of_bounds ho⟩

theorem read_c (L : List UInt8) (hL : L.length ≤ 9223372036854775807) (w : World) : Calls Tryd.prog 10 #[.string ⟨L.toArray⟩] w fun e w' => e = .returned (readV (readF L)) ∧ Below w.heap.size w w' :=
  (callsIn_wide (n := 3)).1 (read_in 3 (by omega) L hL w)

def insK : List CK := [.i .u8, .i .u8, .i .u8, .i .i32]
theorem ins_same (op a b imm : Int) (h0 : 0 ≤ op ∧ op < 256) (h1 : 0 ≤ a ∧ a < 256) (h2 : 0 ≤ b ∧ b < 256) (h3 : -2147483648 ≤ imm ∧ imm < 2147483648) (W : World) :
    (binOp .eql 23 (.agg #[.int .u8 op, .int .u8 a, .int .u8 b, .int .i32 imm]) (.agg #[.int .u8 op, .int .u8 a, .int .u8 b, .int .i32 imm])).run Tryd.prog W = .ok (.bool true) W := by
  have m8 : IntKind.min .u8 = 0 := by decide
  have x8 : IntKind.max .u8 = 255 := by decide
  have m32 : IntKind.min .i32 = -2147483648 := by decide
  have x32 : IntKind.max .i32 = 2147483647 := by decide
  have k8 : ∀ x : Int, (0 ≤ x ∧ x < 256) → CK.ok (.i .u8) (.int .u8 x) := fun x h => ⟨x, rfl, by simp only [Lit.wf, Bool.and_eq_true, decide_eq_true_eq]; omega⟩
  have k32 : CK.ok (.i .i32) (.int .i32 imm) := ⟨imm, rfl, by simp only [Lit.wf, Bool.and_eq_true, decide_eq_true_eq]; omega⟩
  have hok : okAll insK [.int .u8 op, .int .u8 a, .int .u8 b, .int .i32 imm] := ⟨k8 _ h0, k8 _ h1, k8 _ h2, k32, trivial⟩
  obtain ⟨r, heq, -, hiff⟩ := run_eql_flat (P := Tryd.prog) (n := 3) (t := 23) (ks := insK) (by decide) (by kernel_rfl) (by kernel_rfl) (by kernel_rfl) (by kernel_rfl) hok hok
  obtain rfl : r = true := hiff.2 rfl
  exact heq W

theorem show_len {op a b imm : Int} (h6 : -2147483648 ≤ imm) (h7 : imm < 2147483648) : (showL op a b imm).length ≤ 9223372036854775807 := by
  unfold showL
  split
  · split
    · rename_i n hf
      obtain ⟨k, hk⟩ := List.getElem?_of_mem (List.mem_of_find?_eq_some hf)
      obtain ⟨_, _, _, _, hw⟩ := nm_is hk
      have hi := itoa_len imm h6 h7
      unfold Nm.show regL numL
      simp only [List.length_append]
      split <;> split <;> split <;> simp <;> omega
    · simp
  · simp

set_option maxHeartbeats 8000000 in
theorem back_in (op a b imm : Int) (w : World) (h0 : 0 ≤ op) (h1 : op < 256) (h2 : 0 ≤ a) (h3 : a < 256) (h4 : 0 ≤ b) (h5 : b < 256) (h6 : -2147483648 ≤ imm) (h7 : imm < 2147483648) (HT : Hid (pTab w)) :
    Calls Tryd.prog 5 #[Isa.insV op a b imm] w fun e w' => e = .returned (.bool true) ∧ Below w.heap.size w w' := by
  have HS := Lib.hid fun (W : World) (hb : Below w.heap.size w W) => show_c op a b imm W h0 h1 h2 h3 h4 h5 h6 h7 (Lib.hid (fun w' h => HT.out w' (hb.trans (h.mono hb.size))))
  have HW := Lib.hid fun (W : World) (hb : Below w.heap.size w W) => works_c W (Lib.hid (fun w' h => HT.out w' (hb.trans (h.mono hb.size))))
  have hsz : (showL op a b imm).length ≤ 9223372036854775807 := show_len h6 h7
  have HR := Lib.hid fun (W : World) => read_c (showL op a b imm) hsz W
  have HE := ins_same op a b imm ⟨h0, h1⟩ ⟨h2, h3⟩ ⟨h4, h5⟩ ⟨h6, h7⟩
  unfold Isa.insV at HS ⊢
  by_cases c : showL op a b imm = []
  · have hr : readV (readF (showL op a b imm)) = .tuple #[.agg #[.int .u8 0, .int .u8 0, .int .u8 0, .int .i32 0], .int .i64 40] := by rw [c, read_nil]; rfl
    rw [hr] at HR
    have hz : (⟨(showL op a b imm).toArray⟩ : ByteArray).toList.isEmpty = true := by rw [c, empty_toList]; rfl
    generalize (⟨(showL op a b imm).toArray⟩ : ByteArray) = s at HS HR hz
    clear hr c hsz
    have B0 : Below w.heap.size w (w.alloc (.cells #[.int .u8 op, .int .u8 a, .int .u8 b, .int .i32 imm] 23)) := (Below.refl _ _).alloc (Nat.le_refl _) _
    go_enter Tryd.func5, Tryd.ntmps5
    go_wp2_with fail
    refine (HS.out _ B0).mono ?_
    rintro e w1 ⟨rfl, hb1⟩
    have B1 := B0.trans (hb1.mono B0.size)
    go_wp2_with fail
    refine (HR.out _).mono ?_
    rintro e w2 ⟨rfl, hb2⟩
    have B2 := B1.trans (hb2.mono B1.size)
    go_wp2_with fail
    have B3 := B2.alloc B2.size (.cells #[.int .u8 0, .int .u8 0, .int .u8 0, .int .i32 0] 23)
    refine (HW.out _ B3).mono ?_
    rintro e w3 ⟨rfl, hb3⟩
    have B4 := B3.trans (hb3.mono B3.size)
    go_wp2_with fail
    go_ret
    exact ⟨rfl, B4⟩
  · have hr : readV (readF (showL op a b imm)) = .tuple #[.agg #[.int .u8 op, .int .u8 a, .int .u8 b, .int .i32 imm], .int .i64 0] := by rw [read_show h2 h4 h6 h7 c]; rfl
    rw [hr] at HR
    have hz : (⟨(showL op a b imm).toArray⟩ : ByteArray).toList.isEmpty = false := by
      rw [empty_toList]
      cases e : showL op a b imm
      · exact absurd e c
      · rfl
    generalize (⟨(showL op a b imm).toArray⟩ : ByteArray) = s at HS HR hz
    clear hr c hsz
    have B0 : Below w.heap.size w (w.alloc (.cells #[.int .u8 op, .int .u8 a, .int .u8 b, .int .i32 imm] 23)) := (Below.refl _ _).alloc (Nat.le_refl _) _
    have HI : Hid ((w.alloc (.cells #[.int .u8 op, .int .u8 a, .int .u8 b, .int .i32 imm] 23)).heap[w.heap.size]? = some (.cells #[.int .u8 op, .int .u8 a, .int .u8 b, .int .i32 imm] 23 (0, 0))) := Lib.hid (heap_newT rfl)
    go_enter Tryd.func5, Tryd.ntmps5
    go_wp2_with fail
    refine (HS.out _ B0).mono ?_
    rintro e w1 ⟨rfl, hb1⟩
    have B1 := B0.trans (hb1.mono B0.size)
    have r1 := (hb1.block w.heap.size (by simp)).trans HI.out
    go_wp2_with fail
    refine (HR.out _).mono ?_
    rintro e w2 ⟨rfl, hb2⟩
    have B2 := B1.trans (hb2.mono B1.size)
    have r2 := (hb2.block w.heap.size (Array.getElem?_eq_some_iff.1 r1).1).trans r1
    have hlt := (Array.getElem?_eq_some_iff.1 r2).1
    have k0 := (cell_of_row _ _ 0 _ _ _ r2).trans rfl
    have k1 := (cell_of_row _ _ 1 _ _ _ r2).trans rfl
    have k2 := (cell_of_row _ _ 2 _ _ _ r2).trans rfl
    have k3 := (cell_of_row _ _ 3 _ _ _ r2).trans rfl
    clear r1 r2
    go_wp2_with fail
    have B3 := B2.alloc B2.size (.cells #[.int .u8 op, .int .u8 a, .int .u8 b, .int .i32 imm] 23)
    refine (HW.out _ B3).mono ?_
    rintro e w3 ⟨rfl, hb3⟩
    have B4 := B3.trans (hb3.mono B3.size)
    go_wp2_with fail
    go_ret
    exact ⟨rfl, B4⟩

theorem back_walk (op : Int) (wo : (Lit.int .u8 op).wf = true) (a : Int) (wa : (Lit.int .u8 a).wf = true) (b : Int) (wb : (Lit.int .u8 b).wf = true) (imm : Int) (wi : (Lit.int .i32 imm).wf = true) (w : World) (HT : Hid (pTab w)) :
    Calls Tryd.prog 5 #[.agg #[.int .u8 op, .int .u8 a, .int .u8 b, .int .i32 imm]] w fun e w' => e = .returned (.bool true) ∧ Below w.heap.size w w' := by
  obtain ⟨h0, h1⟩ := bd_u8 wo
  obtain ⟨h2, h3⟩ := bd_u8 wa
  obtain ⟨h4, h5⟩ := bd_u8 wb
  obtain ⟨h6, h7⟩ := bd_i32 wi
  exact back_in op a b imm w h0 h1 h2 h3 h4 h5 h6 h7 HT

set_option maxHeartbeats 8000000 in
theorem once_in (L : List UInt8) (hL : L.length ≤ 9223372036854775807) (w : World) (HT : Hid (pTab w)) :
    Calls Tryd.prog 6 #[.string ⟨L.toArray⟩] w fun e w' => e = .returned (.bool true) ∧ Below w.heap.size w w' := by
  have HW := Lib.hid fun (W : World) (hb : Below w.heap.size w W) => works_c W (Lib.hid (fun w' h => HT.out w' (hb.trans (h.mono hb.size))))
  have HR := Lib.hid fun (W : World) => read_c L hL W
  cases hr : readF L with
  | error e =>
    rw [hr] at HR
    have he := read_bad hr
    have hne : (e != 0) = true := by simp; omega
    have HR' : Hid (∀ W, Calls Tryd.prog 10 #[.string ⟨L.toArray⟩] W fun x w' => x = .returned (.tuple #[.agg #[.int .u8 0, .int .u8 0, .int .u8 0, .int .i32 0], .int .i64 e]) ∧ Below W.heap.size W w') := HR
    have HE := ins_same 0 0 0 0 (by decide) (by decide) (by decide) (by decide)
    clear HR hr he
    generalize (⟨L.toArray⟩ : ByteArray) = s at HR'
    go_enter Tryd.func6, Tryd.ntmps6
    go_wp2_with fail
    refine (HR'.out _).mono ?_
    rintro x w1 ⟨rfl, hb1⟩
    go_wp2_with fail
    have B3 := hb1.alloc hb1.size (.cells #[.int .u8 0, .int .u8 0, .int .u8 0, .int .i32 0] 23)
    refine (HW.out _ B3).mono ?_
    rintro x w3 ⟨rfl, hb3⟩
    have B4 := B3.trans (hb3.mono B3.size)
    go_wp2_with fail
    go_ret
    exact ⟨rfl, B4⟩
  | ok t =>
    obtain ⟨op, a, b, i⟩ := t
    rw [hr] at HR
    obtain ⟨ho, ha, hb, hi0, hi1⟩ := read_bounds hr
    have hs := show_read hr
    have HS := Lib.hid fun (W : World) (hb' : Below w.heap.size w W) => show_c op a b i W ho.1 ho.2 ha.1 (by omega) hb.1 (by omega) hi0 hi1 (Lib.hid (fun w' h => HT.out w' (hb'.trans (h.mono hb'.size))))
    rw [hs] at HS
    have HR' : Hid (∀ W, Calls Tryd.prog 10 #[.string ⟨L.toArray⟩] W fun x w' => x = .returned (.tuple #[.agg #[.int .u8 op, .int .u8 a, .int .u8 b, .int .i32 i], .int .i64 0]) ∧ Below W.heap.size W w') := HR
    unfold Isa.insV at HS
    have hq : ((⟨L.toArray⟩ : ByteArray).toList == (⟨L.toArray⟩ : ByteArray).toList) = true := by simp
    clear HR hr hs ho ha hb hi0 hi1
    generalize (⟨L.toArray⟩ : ByteArray) = s at HR' HS hq
    go_enter Tryd.func6, Tryd.ntmps6
    go_wp2_with fail
    refine (HR'.out _).mono ?_
    rintro x w1 ⟨rfl, hb1⟩
    have B3 := hb1.alloc hb1.size (.cells #[.int .u8 op, .int .u8 a, .int .u8 b, .int .i32 i] 23)
    go_wp2_with fail
    refine (HS.out _ B3).mono ?_
    rintro x w2 ⟨rfl, hb2⟩
    have B4 := B3.trans (hb2.mono B3.size)
    go_wp2_with fail
    refine (HW.out _ B4).mono ?_
    rintro x w3 ⟨rfl, hb3⟩
    have B5 := B4.trans (hb3.mono B4.size)
    go_wp2_with fail
    go_ret
    exact ⟨rfl, B5⟩
theorem once_walk (s : ByteArray) (hs : s.size ≤ Go.maxLen) (w : World) (HT : Hid (pTab w)) :
    Calls Tryd.prog 6 #[.string s] w fun e w' => e = .returned (.bool true) ∧ Below w.heap.size w w' := by
  have e : s = ⟨s.data.toList.toArray⟩ := by cases s; simp
  rw [e]
  exact once_in s.data.toList (by have : s.data.toList.length = s.size := by rw [Array.length_toList]; rfl
                                  rw [this]; unfold Go.maxLen at hs; omega) w HT
end Go.Proofs.YtenbjnogeanglaaDoor
