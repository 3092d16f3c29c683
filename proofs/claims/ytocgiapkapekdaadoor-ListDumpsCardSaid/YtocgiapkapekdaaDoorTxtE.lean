/- The document's Show (mummerref04). (Written by mkTXE.py.) -/
import Derived.Test.YtocgiapkapekdaaDoorTxtB
import Derived.Test.YtocgiapkapekdaaDoorTxtC
import Derived.Test.YtocgiapkapekdaaDoorTxtD
import Derived.Test.YtocgiapkapekdaaDoorRefB
import Derived.BigQuiet
import Derived.Deep.QuietTactic
namespace Go.Proofs.YtocgiapkapekdaaDoor
open Go.RowKit
set_option linter.unusedSimpArgs false
set_option linter.unusedVariables false
set_option maxRecDepth 100000

/-- What a row of the table and the form have in common. -/
def Nm.fits (n : Nm) : Bool :=
  (decide ((Isa.fm n.op true).a = 1) == !decide (n.a = 0)) && (decide ((Isa.fm n.op true).b = 1) == !decide (n.b = 0)) && (decide (0 < (Isa.fm n.op true).k) == n.imm) && decide (nmTab.find? (fun m => decide (m.op = n.op)) = some n) &&
  (decide (n.b = 0) || decide (n.b = if n.op = 98 ∨ n.op = 99 then 99 else if n.op = 100 ∨ n.op = 101 then 112 else 114)) && (decide (0 ≤ (Isa.fm n.op true).k) && decide ((Isa.fm n.op true).k ≤ 8))
theorem nm_fits : nmTab.all Nm.fits = true := by decide +kernel
theorem nm_all (op : Int) (h0 : 0 ≤ op) (h1 : op < 256) (h : (Isa.fm op true).n ≠ 0) : ∃ n ∈ nmTab, n.op = op := by
  have hh : ∀ i : Fin 256, (Isa.fm (i.val : Int) true).n ≠ 0 → nmTab.any (fun n => decide (n.op = (i.val : Int))) = true := by decide +kernel
  obtain ⟨k, rfl⟩ : ∃ k : Nat, op = (k : Int) := ⟨op.toNat, by omega⟩
  have := hh ⟨k, by omega⟩ h
  rw [List.any_eq_true] at this
  obtain ⟨n, hn, hc⟩ := this
  exact ⟨n, hn, by simpa using hc⟩
theorem may_n {op a b imm : Int} (h : Isa.mayB (Isa.fm op true) a b imm = true) : (Isa.fm op true).n ≠ 0 := by
  simp only [Isa.mayB, Bool.and_eq_true, decide_eq_true_eq] at h
  exact h.1

def secB (op : Int) : ByteArray := if op = 98 ∨ op = 99 then ⟨#[99]⟩ else if op = 100 ∨ op = 101 then ⟨#[112]⟩ else ⟨#[114]⟩
theorem secB_size (op : Int) : (secB op).size = 1 := by unfold secB; split; rfl; split <;> rfl

set_option maxHeartbeats 4000000 in
theorem refShow_c (op a b imm : Int) (w : World) (h0 : 0 ≤ op) (h1 : op < 256) (h2 : 0 ≤ a) (h3 : a < 256) (h4 : 0 ≤ b) (h5 : b < 256) (h6 : -2147483648 ≤ imm) (h7 : imm < 2147483648) :
    Calls Tryd.prog 18 #[Isa.insV op a b imm] w fun e w' => e = .returned (.string ⟨(showL op a b imm).toArray⟩) ∧ Below w.heap.size w w' := by
  have hM := fun w => Isa.refMay_c op a b imm true w h0 h1 h2 h3 h4 h5 h6 h7
  unfold showL
  unfold Isa.insV at hM ⊢
  cases hm : Isa.mayB (Isa.fm op true) a b imm
  · rw [hm] at hM
    have HM := Lib.hid hM
    clear hM hm
    rw [if_neg (by decide)]
    go_enter Tryd.func18, Tryd.ntmps18
    go_wp2_with fail
    refine (HM.out _).mono ?_
    rintro e w1 ⟨rfl, hb⟩
    go_wp2_with fail
    go_ret
    exact ⟨rfl, (Isa.below_alloc1 w _).trans (hb.mono (by simp))⟩
  · rw [hm] at hM
    have HM := Lib.hid hM
    obtain ⟨a8, b8⟩ := may_lt8 hm
    obtain ⟨n, hn, rfl⟩ := nm_all op h0 h1 (may_n hm)
    have hf := List.all_eq_true.1 nm_fits n hn
    simp only [Nm.fits, Bool.and_eq_true, Bool.or_eq_true, decide_eq_true_eq, beq_iff_eq] at hf
    obtain ⟨⟨⟨⟨⟨f1, f2⟩, f3⟩, f4⟩, f5⟩, f6, f7⟩ := hf
    have hO := fun w => Isa.refOf_c n.op true w h0 h1
    unfold Isa.Fm.rval at hO
    rw [f1, f2] at hO
    have hN := fun w => name_c n hn w
    obtain ⟨k, hk⟩ := List.getElem?_of_mem hn
    obtain ⟨-, -, oa, ob, ow⟩ := nm_is hk
    clear hM hm
    rw [if_pos rfl, f4]
    simp only
    have hS2 := fun w => second_c n.op h0 h1 w
    have hS2 : ∀ w, Calls Tryd.prog 35 #[.int .u8 n.op] w fun e w' => e = .returned (.string (secB n.op)) ∧ w = w' := hS2
    have hsec : n.b ≠ 0 → (secB n.op).data.toList = [UInt8.ofNat n.b.toNat] := fun hb => by
      have := f5.resolve_left hb
      unfold secB
      rw [this]
      split
      · rfl
      · split <;> rfl
    have zsec := secB_size n.op
    generalize secB n.op = sb at hS2 hsec zsec
    generalize (Isa.fm n.op true).n = fn at hO
    generalize (Isa.fm n.op true).k = kk at hO f3 f6 f7
    generalize decide ((Isa.fm n.op true).s = 1) = xs at hO
    clear f1 f2 f4 f5 hn hk
    have HD := Lib.hid digit_c
    have HSec := Lib.hid hsec
    have HDec := Lib.hid (decimal_c imm (by omega) (by omega))
    obtain ⟨word, nop, na, nbb, nimm⟩ := n
    simp only at hO hN f3 oa ob ow h0 h1 hS2 HM HSec
    obtain ⟨s, hs⟩ : ∃ s : ByteArray, s = ⟨word.toArray⟩ := ⟨_, rfl⟩
    have hsz : s.size ≤ 5 := by rw [hs]; simpa [ByteArray.size] using ow
    rw [← hs] at hN
    have HSt := Lib.hid hs
    have HO := Lib.hid hO
    have HN := Lib.hid hN
    have HS2 := Lib.hid hS2
    obtain ⟨t, ht⟩ : ∃ t : ByteArray, t = ⟨(Lib.itoa imm).toArray⟩ := ⟨_, rfl⟩
    have hts : t.size ≤ 20 := by rw [ht]; simpa [ByteArray.size] using itoa_len imm h6 h7
    rw [← ht] at HDec
    have HTt := Lib.hid ht
    have za : (⟨#[dig8 a]⟩ : ByteArray).size = 1 := rfl
    have zb : (⟨#[dig8 b]⟩ : ByteArray).size = 1 := rfl
    have zr : (⟨#[32, 114]⟩ : ByteArray).size = 2 := rfl
    have z3 : (⟨#[32]⟩ : ByteArray).size = 1 := rfl
    have a10 : a < 10 := by omega
    have b10 : b < 10 := by omega
    clear hO hN hs ht hS2 hsec ow
    obtain ⟨res, hres⟩ : ∃ res, res = (⟨word, nop, na, nbb, nimm⟩ : Nm).show a b imm := ⟨_, rfl⟩
    rw [← hres]
    have HRes := Lib.hid hres
    clear hres
    rcases oa with rfl | rfl
    · by_cases c3 : nbb = 0
      · subst c3
        cases nimm
        · have k0 : ¬ 0 < kk := by simpa using f3
          clear f3
          simp only [decide_true, decide_false, Bool.not_true, Bool.not_false, Int.reduceEq] at HO
          go_enter Tryd.func18, Tryd.ntmps18
          go_wp2_with fail
          refine (HM.out _).mono ?_
          rintro e w1 ⟨rfl, hb1⟩
          have hl1 : w.heap.size < w1.heap.size := by have := hb1.size; simp at this; omega
          have hB1 : Below w.heap.size w w1 := (Isa.below_alloc1 w _).trans (hb1.mono (by simp))
          have j0 : w1.cell? ⟨w.heap.size, 0, none⟩ = some (.int .u8 nop) := (cell_of_row w1 _ _ #[.int .u8 nop, .int .u8 a, .int .u8 b, .int .i32 imm] _ (0, 0) ((hb1.block _ (by simp)).trans (heap_newT rfl))).trans rfl
          have R1 := Lib.hid ((hb1.block _ (by simp)).trans (heap_newT rfl) : w1.heap[w.heap.size]? = some (.cells #[.int .u8 nop, .int .u8 a, .int .u8 b, .int .i32 imm] 34 (0, 0)))
          clear hb1
          go_wp2_with fail
          refine (HO.out _).mono ?_
          rintro e w2 ⟨rfl, hb2⟩
          have hl2 : w.heap.size < w2.heap.size := Nat.lt_of_lt_of_le hl1 hb2.size
          have hB2 : Below w.heap.size w w2 := hB1.trans (hb2.mono (by omega))
          have R2 := Lib.hid ((hb2.block _ hl1).trans R1.out)
          have j0 : w2.cell? ⟨w.heap.size, 0, none⟩ = some (.int .u8 nop) := (cell_of_row w2 _ _ _ _ _ R2.out).trans rfl
          clear hb2 R1 hl1 hB1
          go_wp2_with fail
          refine (HN.out _).mono ?_
          rintro e w3 ⟨rfl, hb3⟩
          have hl3 : w2.heap.size < w3.heap.size := by have := hb3.size; simp at this; omega
          have hl4 : w.heap.size < w3.heap.size := by omega
          have hB3 : Below w.heap.size w w3 := (hB2.alloc (by omega) _).trans (hb3.mono (by simp; omega))
          have R3 := (hb3.block _ (by simp; omega)).trans (heap_oldT R2.out)
          have F3 : w3.heap[w2.heap.size]? = some (.cells #[.int .i64 fn, .bool false, .bool false, .int .i64 kk, .bool xs] 66 (0, 0)) := (hb3.block _ (by simp)).trans (heap_newT rfl)
          clear j0
          have j0 : w3.cell? ⟨w.heap.size, 0, none⟩ = some (.int .u8 nop) := (cell_of_row w3 _ _ _ _ _ R3).trans rfl
          have j1 : w3.cell? ⟨w.heap.size, 1, none⟩ = some (.int .u8 a) := (cell_of_row w3 _ _ _ _ _ R3).trans rfl
          have j2 : w3.cell? ⟨w.heap.size, 2, none⟩ = some (.int .u8 b) := (cell_of_row w3 _ _ _ _ _ R3).trans rfl
          have j3 : w3.cell? ⟨w.heap.size, 3, none⟩ = some (.int .i32 imm) := (cell_of_row w3 _ _ _ _ _ R3).trans rfl
          have g1 : w3.cell? ⟨w2.heap.size, 1, none⟩ = some (.bool false) := (cell_of_row w3 _ _ _ _ _ F3).trans rfl
          have g2 : w3.cell? ⟨w2.heap.size, 2, none⟩ = some (.bool false) := (cell_of_row w3 _ _ _ _ _ F3).trans rfl
          have g3 : w3.cell? ⟨w2.heap.size, 3, none⟩ = some (.int .i64 kk) := (cell_of_row w3 _ _ _ _ _ F3).trans rfl
          clear hb3 R2 R3 F3 hB2
          go_wp2_with fail
          go_ret
          refine ⟨ret_strT ?_, hB3⟩
          rw [HRes.out]
          apply ba_ext
          simp [Nm.show, regL, numL, dig8]
          rw [HSt.out]
        · have k0 : 0 < kk := by simpa using f3
          clear f3
          simp only [decide_true, decide_false, Bool.not_true, Bool.not_false, Int.reduceEq] at HO
          go_enter Tryd.func18, Tryd.ntmps18
          go_wp2_with fail
          refine (HM.out _).mono ?_
          rintro e w1 ⟨rfl, hb1⟩
          have hl1 : w.heap.size < w1.heap.size := by have := hb1.size; simp at this; omega
          have hB1 : Below w.heap.size w w1 := (Isa.below_alloc1 w _).trans (hb1.mono (by simp))
          have j0 : w1.cell? ⟨w.heap.size, 0, none⟩ = some (.int .u8 nop) := (cell_of_row w1 _ _ #[.int .u8 nop, .int .u8 a, .int .u8 b, .int .i32 imm] _ (0, 0) ((hb1.block _ (by simp)).trans (heap_newT rfl))).trans rfl
          have R1 := Lib.hid ((hb1.block _ (by simp)).trans (heap_newT rfl) : w1.heap[w.heap.size]? = some (.cells #[.int .u8 nop, .int .u8 a, .int .u8 b, .int .i32 imm] 34 (0, 0)))
          clear hb1
          go_wp2_with fail
          refine (HO.out _).mono ?_
          rintro e w2 ⟨rfl, hb2⟩
          have hl2 : w.heap.size < w2.heap.size := Nat.lt_of_lt_of_le hl1 hb2.size
          have hB2 : Below w.heap.size w w2 := hB1.trans (hb2.mono (by omega))
          have R2 := Lib.hid ((hb2.block _ hl1).trans R1.out)
          have j0 : w2.cell? ⟨w.heap.size, 0, none⟩ = some (.int .u8 nop) := (cell_of_row w2 _ _ _ _ _ R2.out).trans rfl
          clear hb2 R1 hl1 hB1
          go_wp2_with fail
          refine (HN.out _).mono ?_
          rintro e w3 ⟨rfl, hb3⟩
          have hl3 : w2.heap.size < w3.heap.size := by have := hb3.size; simp at this; omega
          have hl4 : w.heap.size < w3.heap.size := by omega
          have hB3 : Below w.heap.size w w3 := (hB2.alloc (by omega) _).trans (hb3.mono (by simp; omega))
          have R3 := (hb3.block _ (by simp; omega)).trans (heap_oldT R2.out)
          have F3 : w3.heap[w2.heap.size]? = some (.cells #[.int .i64 fn, .bool false, .bool false, .int .i64 kk, .bool xs] 66 (0, 0)) := (hb3.block _ (by simp)).trans (heap_newT rfl)
          clear j0
          have j0 : w3.cell? ⟨w.heap.size, 0, none⟩ = some (.int .u8 nop) := (cell_of_row w3 _ _ _ _ _ R3).trans rfl
          have j1 : w3.cell? ⟨w.heap.size, 1, none⟩ = some (.int .u8 a) := (cell_of_row w3 _ _ _ _ _ R3).trans rfl
          have j2 : w3.cell? ⟨w.heap.size, 2, none⟩ = some (.int .u8 b) := (cell_of_row w3 _ _ _ _ _ R3).trans rfl
          have j3 : w3.cell? ⟨w.heap.size, 3, none⟩ = some (.int .i32 imm) := (cell_of_row w3 _ _ _ _ _ R3).trans rfl
          have g1 : w3.cell? ⟨w2.heap.size, 1, none⟩ = some (.bool false) := (cell_of_row w3 _ _ _ _ _ F3).trans rfl
          have g2 : w3.cell? ⟨w2.heap.size, 2, none⟩ = some (.bool false) := (cell_of_row w3 _ _ _ _ _ F3).trans rfl
          have g3 : w3.cell? ⟨w2.heap.size, 3, none⟩ = some (.int .i64 kk) := (cell_of_row w3 _ _ _ _ _ F3).trans rfl
          clear hb3 R2 R3 F3 hB2
          go_wp2_with fail
          refine (HDec.out _).mono ?_
          rintro e w5 ⟨rfl, rfl⟩
          go_wp2_with fail
          go_ret
          refine ⟨ret_strT ?_, hB3⟩
          rw [HRes.out]
          apply ba_ext
          simp [Nm.show, regL, numL, dig8]
          rw [HSt.out, HTt.out]
      · have d3' := Lib.hid c3
        have hnb : (!decide (nbb = 0)) = true := by simp [c3]
        rw [hnb] at HO
        clear c3 hnb
        cases nimm
        · have k0 : ¬ 0 < kk := by simpa using f3
          clear f3
          simp only [decide_true, decide_false, Bool.not_true, Bool.not_false, Int.reduceEq] at HO
          go_enter Tryd.func18, Tryd.ntmps18
          go_wp2_with fail
          refine (HM.out _).mono ?_
          rintro e w1 ⟨rfl, hb1⟩
          have hl1 : w.heap.size < w1.heap.size := by have := hb1.size; simp at this; omega
          have hB1 : Below w.heap.size w w1 := (Isa.below_alloc1 w _).trans (hb1.mono (by simp))
          have j0 : w1.cell? ⟨w.heap.size, 0, none⟩ = some (.int .u8 nop) := (cell_of_row w1 _ _ #[.int .u8 nop, .int .u8 a, .int .u8 b, .int .i32 imm] _ (0, 0) ((hb1.block _ (by simp)).trans (heap_newT rfl))).trans rfl
          have R1 := Lib.hid ((hb1.block _ (by simp)).trans (heap_newT rfl) : w1.heap[w.heap.size]? = some (.cells #[.int .u8 nop, .int .u8 a, .int .u8 b, .int .i32 imm] 34 (0, 0)))
          clear hb1
          go_wp2_with fail
          refine (HO.out _).mono ?_
          rintro e w2 ⟨rfl, hb2⟩
          have hl2 : w.heap.size < w2.heap.size := Nat.lt_of_lt_of_le hl1 hb2.size
          have hB2 : Below w.heap.size w w2 := hB1.trans (hb2.mono (by omega))
          have R2 := Lib.hid ((hb2.block _ hl1).trans R1.out)
          have j0 : w2.cell? ⟨w.heap.size, 0, none⟩ = some (.int .u8 nop) := (cell_of_row w2 _ _ _ _ _ R2.out).trans rfl
          clear hb2 R1 hl1 hB1
          go_wp2_with fail
          refine (HN.out _).mono ?_
          rintro e w3 ⟨rfl, hb3⟩
          have hl3 : w2.heap.size < w3.heap.size := by have := hb3.size; simp at this; omega
          have hl4 : w.heap.size < w3.heap.size := by omega
          have hB3 : Below w.heap.size w w3 := (hB2.alloc (by omega) _).trans (hb3.mono (by simp; omega))
          have R3 := (hb3.block _ (by simp; omega)).trans (heap_oldT R2.out)
          have F3 : w3.heap[w2.heap.size]? = some (.cells #[.int .i64 fn, .bool false, .bool true, .int .i64 kk, .bool xs] 66 (0, 0)) := (hb3.block _ (by simp)).trans (heap_newT rfl)
          clear j0
          have j0 : w3.cell? ⟨w.heap.size, 0, none⟩ = some (.int .u8 nop) := (cell_of_row w3 _ _ _ _ _ R3).trans rfl
          have j1 : w3.cell? ⟨w.heap.size, 1, none⟩ = some (.int .u8 a) := (cell_of_row w3 _ _ _ _ _ R3).trans rfl
          have j2 : w3.cell? ⟨w.heap.size, 2, none⟩ = some (.int .u8 b) := (cell_of_row w3 _ _ _ _ _ R3).trans rfl
          have j3 : w3.cell? ⟨w.heap.size, 3, none⟩ = some (.int .i32 imm) := (cell_of_row w3 _ _ _ _ _ R3).trans rfl
          have g1 : w3.cell? ⟨w2.heap.size, 1, none⟩ = some (.bool false) := (cell_of_row w3 _ _ _ _ _ F3).trans rfl
          have g2 : w3.cell? ⟨w2.heap.size, 2, none⟩ = some (.bool true) := (cell_of_row w3 _ _ _ _ _ F3).trans rfl
          have g3 : w3.cell? ⟨w2.heap.size, 3, none⟩ = some (.int .i64 kk) := (cell_of_row w3 _ _ _ _ _ F3).trans rfl
          clear hb3 R2 R3 F3 hB2
          go_wp2_with fail
          have q1 : ∀ w, (Op.stringOp .add s ⟨#[32]⟩).run Tryd.prog w = .ok (.string (s ++ ⟨#[32]⟩)) w := fun w => run_string_add_sum w _ _ (by (try simp only [ByteArray.size_append]); omega)
          have q2 : ∀ w, (Op.stringOp .add (s ++ ⟨#[32]⟩) sb).run Tryd.prog w = .ok (.string (s ++ ⟨#[32]⟩ ++ sb)) w := fun w => run_string_add_sum w _ _ (by (try simp only [ByteArray.size_append]); omega)
          have q3 : ∀ w, (Op.stringOp .add (s ++ ⟨#[32]⟩ ++ sb) ⟨#[dig8 b]⟩).run Tryd.prog w = .ok (.string (s ++ ⟨#[32]⟩ ++ sb ++ ⟨#[dig8 b]⟩)) w := fun w => run_string_add_sum w _ _ (by (try simp only [ByteArray.size_append]); omega)
          go_quiet ((first | (go_at_call 35; exact Calls.quiet_of_same ((HS2.out _).mono fun _ _ ⟨he, hw⟩ => ⟨he, hw.symm⟩)) | (go_at_call 34; exact Calls.quiet_of_same ((HD.out b h4 b10 _).mono fun _ _ ⟨he, hw⟩ => ⟨he, hw.symm⟩))))
          go_wp2_with fail
          go_ret
          refine ⟨ret_strT ?_, hB3.trans ⟨rfl, rfl, rfl, Nat.le_refl _, fun _ _ => rfl⟩⟩
          rw [HRes.out]
          apply ba_ext
          simp [Nm.show, regL, numL, dig8, HSec.out d3'.out, d3'.out]
          rw [HSt.out]
        · have k0 : 0 < kk := by simpa using f3
          clear f3
          simp only [decide_true, decide_false, Bool.not_true, Bool.not_false, Int.reduceEq] at HO
          go_enter Tryd.func18, Tryd.ntmps18
          go_wp2_with fail
          refine (HM.out _).mono ?_
          rintro e w1 ⟨rfl, hb1⟩
          have hl1 : w.heap.size < w1.heap.size := by have := hb1.size; simp at this; omega
          have hB1 : Below w.heap.size w w1 := (Isa.below_alloc1 w _).trans (hb1.mono (by simp))
          have j0 : w1.cell? ⟨w.heap.size, 0, none⟩ = some (.int .u8 nop) := (cell_of_row w1 _ _ #[.int .u8 nop, .int .u8 a, .int .u8 b, .int .i32 imm] _ (0, 0) ((hb1.block _ (by simp)).trans (heap_newT rfl))).trans rfl
          have R1 := Lib.hid ((hb1.block _ (by simp)).trans (heap_newT rfl) : w1.heap[w.heap.size]? = some (.cells #[.int .u8 nop, .int .u8 a, .int .u8 b, .int .i32 imm] 34 (0, 0)))
          clear hb1
          go_wp2_with fail
          refine (HO.out _).mono ?_
          rintro e w2 ⟨rfl, hb2⟩
          have hl2 : w.heap.size < w2.heap.size := Nat.lt_of_lt_of_le hl1 hb2.size
          have hB2 : Below w.heap.size w w2 := hB1.trans (hb2.mono (by omega))
          have R2 := Lib.hid ((hb2.block _ hl1).trans R1.out)
          have j0 : w2.cell? ⟨w.heap.size, 0, none⟩ = some (.int .u8 nop) := (cell_of_row w2 _ _ _ _ _ R2.out).trans rfl
          clear hb2 R1 hl1 hB1
          go_wp2_with fail
          refine (HN.out _).mono ?_
          rintro e w3 ⟨rfl, hb3⟩
          have hl3 : w2.heap.size < w3.heap.size := by have := hb3.size; simp at this; omega
          have hl4 : w.heap.size < w3.heap.size := by omega
          have hB3 : Below w.heap.size w w3 := (hB2.alloc (by omega) _).trans (hb3.mono (by simp; omega))
          have R3 := (hb3.block _ (by simp; omega)).trans (heap_oldT R2.out)
          have F3 : w3.heap[w2.heap.size]? = some (.cells #[.int .i64 fn, .bool false, .bool true, .int .i64 kk, .bool xs] 66 (0, 0)) := (hb3.block _ (by simp)).trans (heap_newT rfl)
          clear j0
          have j0 : w3.cell? ⟨w.heap.size, 0, none⟩ = some (.int .u8 nop) := (cell_of_row w3 _ _ _ _ _ R3).trans rfl
          have j1 : w3.cell? ⟨w.heap.size, 1, none⟩ = some (.int .u8 a) := (cell_of_row w3 _ _ _ _ _ R3).trans rfl
          have j2 : w3.cell? ⟨w.heap.size, 2, none⟩ = some (.int .u8 b) := (cell_of_row w3 _ _ _ _ _ R3).trans rfl
          have j3 : w3.cell? ⟨w.heap.size, 3, none⟩ = some (.int .i32 imm) := (cell_of_row w3 _ _ _ _ _ R3).trans rfl
          have g1 : w3.cell? ⟨w2.heap.size, 1, none⟩ = some (.bool false) := (cell_of_row w3 _ _ _ _ _ F3).trans rfl
          have g2 : w3.cell? ⟨w2.heap.size, 2, none⟩ = some (.bool true) := (cell_of_row w3 _ _ _ _ _ F3).trans rfl
          have g3 : w3.cell? ⟨w2.heap.size, 3, none⟩ = some (.int .i64 kk) := (cell_of_row w3 _ _ _ _ _ F3).trans rfl
          clear hb3 R2 R3 F3 hB2
          go_wp2_with fail
          have q1 : ∀ w, (Op.stringOp .add s ⟨#[32]⟩).run Tryd.prog w = .ok (.string (s ++ ⟨#[32]⟩)) w := fun w => run_string_add_sum w _ _ (by (try simp only [ByteArray.size_append]); omega)
          have q2 : ∀ w, (Op.stringOp .add (s ++ ⟨#[32]⟩) sb).run Tryd.prog w = .ok (.string (s ++ ⟨#[32]⟩ ++ sb)) w := fun w => run_string_add_sum w _ _ (by (try simp only [ByteArray.size_append]); omega)
          have q3 : ∀ w, (Op.stringOp .add (s ++ ⟨#[32]⟩ ++ sb) ⟨#[dig8 b]⟩).run Tryd.prog w = .ok (.string (s ++ ⟨#[32]⟩ ++ sb ++ ⟨#[dig8 b]⟩)) w := fun w => run_string_add_sum w _ _ (by (try simp only [ByteArray.size_append]); omega)
          go_quiet ((first | (go_at_call 35; exact Calls.quiet_of_same ((HS2.out _).mono fun _ _ ⟨he, hw⟩ => ⟨he, hw.symm⟩)) | (go_at_call 34; exact Calls.quiet_of_same ((HD.out b h4 b10 _).mono fun _ _ ⟨he, hw⟩ => ⟨he, hw.symm⟩))))
          go_wp2_with fail
          refine (HDec.out _).mono ?_
          rintro e w5 ⟨rfl, rfl⟩
          go_wp2_with fail
          go_ret
          refine ⟨ret_strT ?_, hB3.trans ⟨rfl, rfl, rfl, Nat.le_refl _, fun _ _ => rfl⟩⟩
          rw [HRes.out]
          apply ba_ext
          simp [Nm.show, regL, numL, dig8, HSec.out d3'.out, d3'.out]
          rw [HSt.out, HTt.out]
    · by_cases c3 : nbb = 0
      · subst c3
        cases nimm
        · have k0 : ¬ 0 < kk := by simpa using f3
          clear f3
          simp only [decide_true, decide_false, Bool.not_true, Bool.not_false, Int.reduceEq] at HO
          go_enter Tryd.func18, Tryd.ntmps18
          go_wp2_with fail
          refine (HM.out _).mono ?_
          rintro e w1 ⟨rfl, hb1⟩
          have hl1 : w.heap.size < w1.heap.size := by have := hb1.size; simp at this; omega
          have hB1 : Below w.heap.size w w1 := (Isa.below_alloc1 w _).trans (hb1.mono (by simp))
          have j0 : w1.cell? ⟨w.heap.size, 0, none⟩ = some (.int .u8 nop) := (cell_of_row w1 _ _ #[.int .u8 nop, .int .u8 a, .int .u8 b, .int .i32 imm] _ (0, 0) ((hb1.block _ (by simp)).trans (heap_newT rfl))).trans rfl
          have R1 := Lib.hid ((hb1.block _ (by simp)).trans (heap_newT rfl) : w1.heap[w.heap.size]? = some (.cells #[.int .u8 nop, .int .u8 a, .int .u8 b, .int .i32 imm] 34 (0, 0)))
          clear hb1
          go_wp2_with fail
          refine (HO.out _).mono ?_
          rintro e w2 ⟨rfl, hb2⟩
          have hl2 : w.heap.size < w2.heap.size := Nat.lt_of_lt_of_le hl1 hb2.size
          have hB2 : Below w.heap.size w w2 := hB1.trans (hb2.mono (by omega))
          have R2 := Lib.hid ((hb2.block _ hl1).trans R1.out)
          have j0 : w2.cell? ⟨w.heap.size, 0, none⟩ = some (.int .u8 nop) := (cell_of_row w2 _ _ _ _ _ R2.out).trans rfl
          clear hb2 R1 hl1 hB1
          go_wp2_with fail
          refine (HN.out _).mono ?_
          rintro e w3 ⟨rfl, hb3⟩
          have hl3 : w2.heap.size < w3.heap.size := by have := hb3.size; simp at this; omega
          have hl4 : w.heap.size < w3.heap.size := by omega
          have hB3 : Below w.heap.size w w3 := (hB2.alloc (by omega) _).trans (hb3.mono (by simp; omega))
          have R3 := (hb3.block _ (by simp; omega)).trans (heap_oldT R2.out)
          have F3 : w3.heap[w2.heap.size]? = some (.cells #[.int .i64 fn, .bool true, .bool false, .int .i64 kk, .bool xs] 66 (0, 0)) := (hb3.block _ (by simp)).trans (heap_newT rfl)
          clear j0
          have j0 : w3.cell? ⟨w.heap.size, 0, none⟩ = some (.int .u8 nop) := (cell_of_row w3 _ _ _ _ _ R3).trans rfl
          have j1 : w3.cell? ⟨w.heap.size, 1, none⟩ = some (.int .u8 a) := (cell_of_row w3 _ _ _ _ _ R3).trans rfl
          have j2 : w3.cell? ⟨w.heap.size, 2, none⟩ = some (.int .u8 b) := (cell_of_row w3 _ _ _ _ _ R3).trans rfl
          have j3 : w3.cell? ⟨w.heap.size, 3, none⟩ = some (.int .i32 imm) := (cell_of_row w3 _ _ _ _ _ R3).trans rfl
          have g1 : w3.cell? ⟨w2.heap.size, 1, none⟩ = some (.bool true) := (cell_of_row w3 _ _ _ _ _ F3).trans rfl
          have g2 : w3.cell? ⟨w2.heap.size, 2, none⟩ = some (.bool false) := (cell_of_row w3 _ _ _ _ _ F3).trans rfl
          have g3 : w3.cell? ⟨w2.heap.size, 3, none⟩ = some (.int .i64 kk) := (cell_of_row w3 _ _ _ _ _ F3).trans rfl
          clear hb3 R2 R3 F3 hB2
          go_wp2_with fail
          refine (HD.out a h2 a10 _).mono ?_
          rintro e w4 ⟨rfl, rfl⟩
          go_wp2_with fail
          go_ret
          refine ⟨ret_strT ?_, hB3⟩
          rw [HRes.out]
          apply ba_ext
          simp [Nm.show, regL, numL, dig8]
          rw [HSt.out]
        · have k0 : 0 < kk := by simpa using f3
          clear f3
          simp only [decide_true, decide_false, Bool.not_true, Bool.not_false, Int.reduceEq] at HO
          go_enter Tryd.func18, Tryd.ntmps18
          go_wp2_with fail
          refine (HM.out _).mono ?_
          rintro e w1 ⟨rfl, hb1⟩
          have hl1 : w.heap.size < w1.heap.size := by have := hb1.size; simp at this; omega
          have hB1 : Below w.heap.size w w1 := (Isa.below_alloc1 w _).trans (hb1.mono (by simp))
          have j0 : w1.cell? ⟨w.heap.size, 0, none⟩ = some (.int .u8 nop) := (cell_of_row w1 _ _ #[.int .u8 nop, .int .u8 a, .int .u8 b, .int .i32 imm] _ (0, 0) ((hb1.block _ (by simp)).trans (heap_newT rfl))).trans rfl
          have R1 := Lib.hid ((hb1.block _ (by simp)).trans (heap_newT rfl) : w1.heap[w.heap.size]? = some (.cells #[.int .u8 nop, .int .u8 a, .int .u8 b, .int .i32 imm] 34 (0, 0)))
          clear hb1
          go_wp2_with fail
          refine (HO.out _).mono ?_
          rintro e w2 ⟨rfl, hb2⟩
          have hl2 : w.heap.size < w2.heap.size := Nat.lt_of_lt_of_le hl1 hb2.size
          have hB2 : Below w.heap.size w w2 := hB1.trans (hb2.mono (by omega))
          have R2 := Lib.hid ((hb2.block _ hl1).trans R1.out)
          have j0 : w2.cell? ⟨w.heap.size, 0, none⟩ = some (.int .u8 nop) := (cell_of_row w2 _ _ _ _ _ R2.out).trans rfl
          clear hb2 R1 hl1 hB1
          go_wp2_with fail
          refine (HN.out _).mono ?_
          rintro e w3 ⟨rfl, hb3⟩
          have hl3 : w2.heap.size < w3.heap.size := by have := hb3.size; simp at this; omega
          have hl4 : w.heap.size < w3.heap.size := by omega
          have hB3 : Below w.heap.size w w3 := (hB2.alloc (by omega) _).trans (hb3.mono (by simp; omega))
          have R3 := (hb3.block _ (by simp; omega)).trans (heap_oldT R2.out)
          have F3 : w3.heap[w2.heap.size]? = some (.cells #[.int .i64 fn, .bool true, .bool false, .int .i64 kk, .bool xs] 66 (0, 0)) := (hb3.block _ (by simp)).trans (heap_newT rfl)
          clear j0
          have j0 : w3.cell? ⟨w.heap.size, 0, none⟩ = some (.int .u8 nop) := (cell_of_row w3 _ _ _ _ _ R3).trans rfl
          have j1 : w3.cell? ⟨w.heap.size, 1, none⟩ = some (.int .u8 a) := (cell_of_row w3 _ _ _ _ _ R3).trans rfl
          have j2 : w3.cell? ⟨w.heap.size, 2, none⟩ = some (.int .u8 b) := (cell_of_row w3 _ _ _ _ _ R3).trans rfl
          have j3 : w3.cell? ⟨w.heap.size, 3, none⟩ = some (.int .i32 imm) := (cell_of_row w3 _ _ _ _ _ R3).trans rfl
          have g1 : w3.cell? ⟨w2.heap.size, 1, none⟩ = some (.bool true) := (cell_of_row w3 _ _ _ _ _ F3).trans rfl
          have g2 : w3.cell? ⟨w2.heap.size, 2, none⟩ = some (.bool false) := (cell_of_row w3 _ _ _ _ _ F3).trans rfl
          have g3 : w3.cell? ⟨w2.heap.size, 3, none⟩ = some (.int .i64 kk) := (cell_of_row w3 _ _ _ _ _ F3).trans rfl
          clear hb3 R2 R3 F3 hB2
          go_wp2_with fail
          refine (HD.out a h2 a10 _).mono ?_
          rintro e w4 ⟨rfl, rfl⟩
          go_wp2_with fail
          refine (HDec.out _).mono ?_
          rintro e w5 ⟨rfl, rfl⟩
          go_wp2_with fail
          go_ret
          refine ⟨ret_strT ?_, hB3⟩
          rw [HRes.out]
          apply ba_ext
          simp [Nm.show, regL, numL, dig8]
          rw [HSt.out, HTt.out]
      · have d3' := Lib.hid c3
        have hnb : (!decide (nbb = 0)) = true := by simp [c3]
        rw [hnb] at HO
        clear c3 hnb
        cases nimm
        · have k0 : ¬ 0 < kk := by simpa using f3
          clear f3
          simp only [decide_true, decide_false, Bool.not_true, Bool.not_false, Int.reduceEq] at HO
          go_enter Tryd.func18, Tryd.ntmps18
          go_wp2_with fail
          refine (HM.out _).mono ?_
          rintro e w1 ⟨rfl, hb1⟩
          have hl1 : w.heap.size < w1.heap.size := by have := hb1.size; simp at this; omega
          have hB1 : Below w.heap.size w w1 := (Isa.below_alloc1 w _).trans (hb1.mono (by simp))
          have j0 : w1.cell? ⟨w.heap.size, 0, none⟩ = some (.int .u8 nop) := (cell_of_row w1 _ _ #[.int .u8 nop, .int .u8 a, .int .u8 b, .int .i32 imm] _ (0, 0) ((hb1.block _ (by simp)).trans (heap_newT rfl))).trans rfl
          have R1 := Lib.hid ((hb1.block _ (by simp)).trans (heap_newT rfl) : w1.heap[w.heap.size]? = some (.cells #[.int .u8 nop, .int .u8 a, .int .u8 b, .int .i32 imm] 34 (0, 0)))
          clear hb1
          go_wp2_with fail
          refine (HO.out _).mono ?_
          rintro e w2 ⟨rfl, hb2⟩
          have hl2 : w.heap.size < w2.heap.size := Nat.lt_of_lt_of_le hl1 hb2.size
          have hB2 : Below w.heap.size w w2 := hB1.trans (hb2.mono (by omega))
          have R2 := Lib.hid ((hb2.block _ hl1).trans R1.out)
          have j0 : w2.cell? ⟨w.heap.size, 0, none⟩ = some (.int .u8 nop) := (cell_of_row w2 _ _ _ _ _ R2.out).trans rfl
          clear hb2 R1 hl1 hB1
          go_wp2_with fail
          refine (HN.out _).mono ?_
          rintro e w3 ⟨rfl, hb3⟩
          have hl3 : w2.heap.size < w3.heap.size := by have := hb3.size; simp at this; omega
          have hl4 : w.heap.size < w3.heap.size := by omega
          have hB3 : Below w.heap.size w w3 := (hB2.alloc (by omega) _).trans (hb3.mono (by simp; omega))
          have R3 := (hb3.block _ (by simp; omega)).trans (heap_oldT R2.out)
          have F3 : w3.heap[w2.heap.size]? = some (.cells #[.int .i64 fn, .bool true, .bool true, .int .i64 kk, .bool xs] 66 (0, 0)) := (hb3.block _ (by simp)).trans (heap_newT rfl)
          clear j0
          have j0 : w3.cell? ⟨w.heap.size, 0, none⟩ = some (.int .u8 nop) := (cell_of_row w3 _ _ _ _ _ R3).trans rfl
          have j1 : w3.cell? ⟨w.heap.size, 1, none⟩ = some (.int .u8 a) := (cell_of_row w3 _ _ _ _ _ R3).trans rfl
          have j2 : w3.cell? ⟨w.heap.size, 2, none⟩ = some (.int .u8 b) := (cell_of_row w3 _ _ _ _ _ R3).trans rfl
          have j3 : w3.cell? ⟨w.heap.size, 3, none⟩ = some (.int .i32 imm) := (cell_of_row w3 _ _ _ _ _ R3).trans rfl
          have g1 : w3.cell? ⟨w2.heap.size, 1, none⟩ = some (.bool true) := (cell_of_row w3 _ _ _ _ _ F3).trans rfl
          have g2 : w3.cell? ⟨w2.heap.size, 2, none⟩ = some (.bool true) := (cell_of_row w3 _ _ _ _ _ F3).trans rfl
          have g3 : w3.cell? ⟨w2.heap.size, 3, none⟩ = some (.int .i64 kk) := (cell_of_row w3 _ _ _ _ _ F3).trans rfl
          clear hb3 R2 R3 F3 hB2
          go_wp2_with fail
          refine (HD.out a h2 a10 _).mono ?_
          rintro e w4 ⟨rfl, rfl⟩
          go_wp2_with fail
          have q1 : ∀ w, (Op.stringOp .add (s ++ ⟨#[32, 114]⟩ ++ ⟨#[dig8 a]⟩) ⟨#[32]⟩).run Tryd.prog w = .ok (.string ((s ++ ⟨#[32, 114]⟩ ++ ⟨#[dig8 a]⟩) ++ ⟨#[32]⟩)) w := fun w => run_string_add_sum w _ _ (by (try simp only [ByteArray.size_append]); omega)
          have q2 : ∀ w, (Op.stringOp .add ((s ++ ⟨#[32, 114]⟩ ++ ⟨#[dig8 a]⟩) ++ ⟨#[32]⟩) sb).run Tryd.prog w = .ok (.string ((s ++ ⟨#[32, 114]⟩ ++ ⟨#[dig8 a]⟩) ++ ⟨#[32]⟩ ++ sb)) w := fun w => run_string_add_sum w _ _ (by (try simp only [ByteArray.size_append]); omega)
          have q3 : ∀ w, (Op.stringOp .add ((s ++ ⟨#[32, 114]⟩ ++ ⟨#[dig8 a]⟩) ++ ⟨#[32]⟩ ++ sb) ⟨#[dig8 b]⟩).run Tryd.prog w = .ok (.string ((s ++ ⟨#[32, 114]⟩ ++ ⟨#[dig8 a]⟩) ++ ⟨#[32]⟩ ++ sb ++ ⟨#[dig8 b]⟩)) w := fun w => run_string_add_sum w _ _ (by (try simp only [ByteArray.size_append]); omega)
          go_quiet ((first | (go_at_call 35; exact Calls.quiet_of_same ((HS2.out _).mono fun _ _ ⟨he, hw⟩ => ⟨he, hw.symm⟩)) | (go_at_call 34; exact Calls.quiet_of_same ((HD.out b h4 b10 _).mono fun _ _ ⟨he, hw⟩ => ⟨he, hw.symm⟩))))
          go_wp2_with fail
          go_ret
          refine ⟨ret_strT ?_, hB3.trans ⟨rfl, rfl, rfl, Nat.le_refl _, fun _ _ => rfl⟩⟩
          rw [HRes.out]
          apply ba_ext
          simp [Nm.show, regL, numL, dig8, HSec.out d3'.out, d3'.out]
          rw [HSt.out]
        · have k0 : 0 < kk := by simpa using f3
          clear f3
          simp only [decide_true, decide_false, Bool.not_true, Bool.not_false, Int.reduceEq] at HO
          go_enter Tryd.func18, Tryd.ntmps18
          go_wp2_with fail
          refine (HM.out _).mono ?_
          rintro e w1 ⟨rfl, hb1⟩
          have hl1 : w.heap.size < w1.heap.size := by have := hb1.size; simp at this; omega
          have hB1 : Below w.heap.size w w1 := (Isa.below_alloc1 w _).trans (hb1.mono (by simp))
          have j0 : w1.cell? ⟨w.heap.size, 0, none⟩ = some (.int .u8 nop) := (cell_of_row w1 _ _ #[.int .u8 nop, .int .u8 a, .int .u8 b, .int .i32 imm] _ (0, 0) ((hb1.block _ (by simp)).trans (heap_newT rfl))).trans rfl
          have R1 := Lib.hid ((hb1.block _ (by simp)).trans (heap_newT rfl) : w1.heap[w.heap.size]? = some (.cells #[.int .u8 nop, .int .u8 a, .int .u8 b, .int .i32 imm] 34 (0, 0)))
          clear hb1
          go_wp2_with fail
          refine (HO.out _).mono ?_
          rintro e w2 ⟨rfl, hb2⟩
          have hl2 : w.heap.size < w2.heap.size := Nat.lt_of_lt_of_le hl1 hb2.size
          have hB2 : Below w.heap.size w w2 := hB1.trans (hb2.mono (by omega))
          have R2 := Lib.hid ((hb2.block _ hl1).trans R1.out)
          have j0 : w2.cell? ⟨w.heap.size, 0, none⟩ = some (.int .u8 nop) := (cell_of_row w2 _ _ _ _ _ R2.out).trans rfl
          clear hb2 R1 hl1 hB1
          go_wp2_with fail
          refine (HN.out _).mono ?_
          rintro e w3 ⟨rfl, hb3⟩
          have hl3 : w2.heap.size < w3.heap.size := by have := hb3.size; simp at this; omega
          have hl4 : w.heap.size < w3.heap.size := by omega
          have hB3 : Below w.heap.size w w3 := (hB2.alloc (by omega) _).trans (hb3.mono (by simp; omega))
          have R3 := (hb3.block _ (by simp; omega)).trans (heap_oldT R2.out)
          have F3 : w3.heap[w2.heap.size]? = some (.cells #[.int .i64 fn, .bool true, .bool true, .int .i64 kk, .bool xs] 66 (0, 0)) := (hb3.block _ (by simp)).trans (heap_newT rfl)
          clear j0
          have j0 : w3.cell? ⟨w.heap.size, 0, none⟩ = some (.int .u8 nop) := (cell_of_row w3 _ _ _ _ _ R3).trans rfl
          have j1 : w3.cell? ⟨w.heap.size, 1, none⟩ = some (.int .u8 a) := (cell_of_row w3 _ _ _ _ _ R3).trans rfl
          have j2 : w3.cell? ⟨w.heap.size, 2, none⟩ = some (.int .u8 b) := (cell_of_row w3 _ _ _ _ _ R3).trans rfl
          have j3 : w3.cell? ⟨w.heap.size, 3, none⟩ = some (.int .i32 imm) := (cell_of_row w3 _ _ _ _ _ R3).trans rfl
          have g1 : w3.cell? ⟨w2.heap.size, 1, none⟩ = some (.bool true) := (cell_of_row w3 _ _ _ _ _ F3).trans rfl
          have g2 : w3.cell? ⟨w2.heap.size, 2, none⟩ = some (.bool true) := (cell_of_row w3 _ _ _ _ _ F3).trans rfl
          have g3 : w3.cell? ⟨w2.heap.size, 3, none⟩ = some (.int .i64 kk) := (cell_of_row w3 _ _ _ _ _ F3).trans rfl
          clear hb3 R2 R3 F3 hB2
          go_wp2_with fail
          refine (HD.out a h2 a10 _).mono ?_
          rintro e w4 ⟨rfl, rfl⟩
          go_wp2_with fail
          have q1 : ∀ w, (Op.stringOp .add (s ++ ⟨#[32, 114]⟩ ++ ⟨#[dig8 a]⟩) ⟨#[32]⟩).run Tryd.prog w = .ok (.string ((s ++ ⟨#[32, 114]⟩ ++ ⟨#[dig8 a]⟩) ++ ⟨#[32]⟩)) w := fun w => run_string_add_sum w _ _ (by (try simp only [ByteArray.size_append]); omega)
          have q2 : ∀ w, (Op.stringOp .add ((s ++ ⟨#[32, 114]⟩ ++ ⟨#[dig8 a]⟩) ++ ⟨#[32]⟩) sb).run Tryd.prog w = .ok (.string ((s ++ ⟨#[32, 114]⟩ ++ ⟨#[dig8 a]⟩) ++ ⟨#[32]⟩ ++ sb)) w := fun w => run_string_add_sum w _ _ (by (try simp only [ByteArray.size_append]); omega)
          have q3 : ∀ w, (Op.stringOp .add ((s ++ ⟨#[32, 114]⟩ ++ ⟨#[dig8 a]⟩) ++ ⟨#[32]⟩ ++ sb) ⟨#[dig8 b]⟩).run Tryd.prog w = .ok (.string ((s ++ ⟨#[32, 114]⟩ ++ ⟨#[dig8 a]⟩) ++ ⟨#[32]⟩ ++ sb ++ ⟨#[dig8 b]⟩)) w := fun w => run_string_add_sum w _ _ (by (try simp only [ByteArray.size_append]); omega)
          go_quiet ((first | (go_at_call 35; exact Calls.quiet_of_same ((HS2.out _).mono fun _ _ ⟨he, hw⟩ => ⟨he, hw.symm⟩)) | (go_at_call 34; exact Calls.quiet_of_same ((HD.out b h4 b10 _).mono fun _ _ ⟨he, hw⟩ => ⟨he, hw.symm⟩))))
          go_wp2_with fail
          refine (HDec.out _).mono ?_
          rintro e w5 ⟨rfl, rfl⟩
          go_wp2_with fail
          go_ret
          refine ⟨ret_strT ?_, hB3.trans ⟨rfl, rfl, rfl, Nat.le_refl _, fun _ _ => rfl⟩⟩
          rw [HRes.out]
          apply ba_ext
          simp [Nm.show, regL, numL, dig8, HSec.out d3'.out, d3'.out]
          rw [HSt.out, HTt.out]
end Go.Proofs.YtocgiapkapekdaaDoor
