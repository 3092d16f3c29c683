/- The walk of text.Show. -/
import Derived.Test.YtgfljokamgbcaaaGreatDoorTxtA
import Derived.Test.YtgfljokamgbcaaaGreatDoorIsaM
import Derived.Test.YtgfljokamgbcaaaGreatDoorShelf
import Derived.Lib.AppendIntMem
import Derived.Deep.LoopGhost
import Derived.WalkSmall
import Derived.Laws.BytesArg
namespace Go.Proofs.YtgfljokamgbcaaaGreatDoor
open Go.RowKit
set_option linter.unusedSimpArgs false
set_option linter.unusedVariables false
set_option maxRecDepth 100000

theorem flat_at : ∀ (l : List Nm) (k : Nat) (h : k < l.length) (j : Nat) (hj : j < 5), (l.flatMap Nm.cells)[k * 5 + j]? = (l[k]).cells[j]?
  | n :: l, 0, _, j, hj => by
    rw [List.flatMap_cons, List.getElem?_append_left (by simp [Nm.cells]; omega)]
    simp
  | n :: l, k + 1, h, j, hj => by
    rw [List.flatMap_cons, List.getElem?_append_right (by simp [Nm.cells]; omega)]
    have := flat_at l k (by simpa using h) j hj
    rw [show (k + 1) * 5 + j - n.cells.length = k * 5 + j by simp [Nm.cells]; omega, this]
    simp

theorem nm_at (k : Nat) (h : k < 53) : ∃ n : Nm, nmTab[k]? = some n ∧ nmCells[k * 5]? = some (.string ⟨n.word.toArray⟩) ∧ nmCells[k * 5 + 1]? = some (.int .u8 n.op) ∧ nmCells[k * 5 + 2]? = some (.int .u8 n.a) ∧ nmCells[k * 5 + 3]? = some (.int .u8 n.b) ∧ nmCells[k * 5 + 4]? = some (.bool n.imm) := by
  have hl : k < nmTab.length := h
  refine ⟨nmTab[k], List.getElem?_eq_getElem hl, ?_, ?_, ?_, ?_, ?_⟩
  all_goals
    unfold nmCells
    rw [List.getElem?_toArray]
  · exact (flat_at nmTab k hl 0 (by decide)).trans rfl
  · exact (flat_at nmTab k hl 1 (by decide)).trans rfl
  · exact (flat_at nmTab k hl 2 (by decide)).trans rfl
  · exact (flat_at nmTab k hl 3 (by decide)).trans rfl
  · exact (flat_at nmTab k hl 4 (by decide)).trans rfl

/-- The table's rows are of these kinds. -/
def Nm.ok (n : Nm) : Bool := decide (0 ≤ n.op) && decide (n.op < 256) && (decide (n.a = 0) || decide (n.a = 114)) && (decide (n.b = 0) || decide (n.b = 114) || decide (n.b = 99) || decide (n.b = 112)) && decide (n.word.length ≤ 5)
theorem nm_ok : nmTab.all Nm.ok = true := by decide +kernel
theorem nm_is {k : Nat} {n : Nm} (h : nmTab[k]? = some n) : 0 ≤ n.op ∧ n.op < 256 ∧ (n.a = 0 ∨ n.a = 114) ∧ (n.b = 0 ∨ n.b = 114 ∨ n.b = 99 ∨ n.b = 112) ∧ n.word.length ≤ 5 := by
  have := List.all_eq_true.1 nm_ok n (List.mem_of_getElem? h)
  simp only [Nm.ok, Bool.and_eq_true, Bool.or_eq_true, decide_eq_true_eq] at this
  omega

theorem heap_newT {w : World} {o : Obj} {k : Nat} (hk : k = w.heap.size) : (w.alloc o).heap[k]? = some o := by subst hk; exact heap_alloc_new w o
theorem heap_oldT {w : World} {o x : Obj} {k : Nat} (h : w.heap[k]? = some x) : (w.alloc o).heap[k]? = some x := by
  have hk : k < w.heap.size := (Array.getElem?_eq_some_iff.1 h).1
  rw [heap_alloc_old w o hk]; exact h
/-- The blocks that the loop reads. -/
structure TxS (w : World) (I : Array Value) (nb : Nat) (w' : World) : Prop where
  i : w'.heap[w.heap.size]? = some (.cells I 67 (0, 0))
  n : w'.heap[nb]? = some (.cells nmCells 104 (0, 0))
  below : Below w.heap.size w w'
  size : nb < w'.heap.size
  lt : w.heap.size < nb
theorem TxS.next {w w1 w2 : World} {I : Array Value} {nb : Nat} (h : TxS w I nb w1) (hb : Below w1.heap.size w1 w2) : TxS w I nb w2 :=
  have hs := h.size
  have hl := h.lt
  ⟨(hb.block _ (by omega)).trans h.i, (hb.block _ hs).trans h.n, h.below.trans (hb.mono (by omega)), Nat.lt_of_lt_of_le h.size hb.size, h.lt⟩
theorem find_first {α : Type} {p : α → Bool} : ∀ {l : List α} {k : Nat} {n : α}, l[k]? = some n → p n = true → (∀ (j : Nat) (m : α), j < k → l[j]? = some m → p m = false) → l.find? p = some n
  | x :: l, 0, n, h, hp, _ => by
    simp at h; subst h
    simp [List.find?_cons, hp]
  | x :: l, k + 1, n, h, hp, hn => by
    have hx := hn 0 x (by omega) rfl
    rw [List.find?_cons, hx]
    exact find_first (l := l) (k := k) (by simpa using h) hp (fun j m hj hm => hn (j + 1) m (by omega) (by simpa using hm))
theorem find_none {α : Type} {p : α → Bool} {l : List α} (hn : ∀ (j : Nat) (m : α), l[j]? = some m → p m = false) : l.find? p = none := by
  rw [List.find?_eq_none]
  intro x hx
  obtain ⟨j, hj, rfl⟩ := List.getElem_of_mem hx
  rw [hn j _ (List.getElem?_eq_getElem hj)]; decide

theorem cv2 (W : World) (N : Nat) (hN : N = W.heap.size) (x y : Int) : (convert 23 9 (.slice (some ⟨N, 0, none⟩) 2 2)).run Tryz.prog (W.alloc (.cells #[.int .u8 x, .int .u8 y] 5)) = .ok (.string (strOfNums [x, y])) (W.alloc (.cells #[.int .u8 x, .int .u8 y] 5)) := by
  subst hN
  refine run_convert_bytes_arg _ 23 5 Tryz.underlying23 Tryz.underlying5 W.heap.size 0 2 2 [x, y] rfl (fun i hi => ?_) 9 Tryz.underlying9
  have h := cell_of_row (W.alloc (.cells #[.int .u8 x, .int .u8 y] 5)) W.heap.size (0 + i) _ _ _ (heap_newT rfl)
  rw [h]
  have : i = 0 ∨ i = 1 := by omega
  rcases this with rfl | rfl <;> rfl
theorem may_lt8 {op a b imm : Int} (h : Isa.mayB (Isa.fm op true) a b imm = true) : a < 8 ∧ b < 8 := by
  have hF := Isa.fm_is op true
  simp only [Isa.mayB, Bool.and_eq_true, decide_eq_true_eq] at h
  obtain ⟨-, ha, hb, -⟩ := h
  rcases hF with e | e | e | e | e | e | e | e | e | e <;> rw [e] at ha hb <;> simp only at ha hb <;> omega

theorem ba_ext {x y : ByteArray} (h : x.data.toList = y.data.toList) : x = y := by
  cases x; cases y
  simp only [ByteArray.mk.injEq]
  exact Array.toList_inj.1 h
theorem ret_strT {a b : ByteArray} (h : a = b) : Ending.returned (.string a) = .returned (.string b) := by rw [h]
theorem dec_len : ∀ (k u : Nat), u < 10 ^ (k + 1) → (Lib.decDigits u).length ≤ k + 1
  | 0, u, h => by
    unfold Lib.decDigits
    rw [dif_pos (by simpa using h)]; simp
  | k + 1, u, h => by
    unfold Lib.decDigits
    split
    · simp
    · have := dec_len k (u / 10) (by rw [Nat.pow_succ] at h; omega)
      simp; omega
theorem itoa_len (n : Int) (h0 : -2147483648 ≤ n) (h1 : n < 2147483648) : (Lib.itoa n).length ≤ 20 := by
  unfold Lib.itoa
  split
  · have := dec_len 9 n.natAbs (by omega)
    simp; omega
  · have := dec_len 9 n.toNat (by omega)
    omega

abbrev pTab (w : World) : Prop := Lib.TabBelow Tryz.prog w.heap.size w "internal/strconv.uint64pow10" .u64 Lib.pow10Tab

theorem below_growT (w : World) (q : Nat) (os : Array Obj) : Below w.heap.size w (Sort.grow (w.drewN q) os) :=
  ⟨rfl, rfl, rfl, by simp [Sort.grow], fun i hi => by
    show ((w.drewN q).heap ++ os)[i]? = _
    rw [Array.getElem?_append_left (by show i < w.heap.size; omega)]
    rfl⟩
theorem itoa_c (n : Int) (h0 : -9223372036854775808 ≤ n) (h1 : n ≤ 9223372036854775807) (w : World) (ht : Lib.TabIs Tryz.prog w "internal/strconv.uint64pow10" .u64 Lib.pow10Tab) :
    Calls Tryz.prog 42 #[.int .i64 n] w fun e w' => e = .returned (.string ⟨(Lib.itoa n).toArray⟩) ∧ Below w.heap.size w w' :=
  (Tryz.strconv_Itoa n h0 h1 w ht).mono fun e w' ⟨he, k, os, hw⟩ => ⟨he, by rw [hw]; exact below_growT _ _ _⟩

/-- A register's word, with a blank ahead. -/
def regL (c r : Int) : List UInt8 := if c = 0 then [] else [32, UInt8.ofNat c.toNat, UInt8.ofNat (48 + r).toNat]
/-- A number, with a blank ahead. -/
def numL (is : Bool) (imm : Int) : List UInt8 := if is = true then 32 :: Lib.itoa imm else []
def Nm.show (n : Nm) (a b imm : Int) : List UInt8 := n.word ++ regL n.a a ++ regL n.b b ++ numL n.imm imm
/-- An instruction's text. -/
def showL (op a b imm : Int) : List UInt8 :=
  if Isa.mayB (Isa.fm op true) a b imm = true then (match nmTab.find? fun n => decide (n.op = op) with | some n => n.show a b imm | none => []) else []

set_option maxHeartbeats 4000000 in
theorem show_c (op a b imm : Int) (w : World) (h0 : 0 ≤ op) (h1 : op < 256) (h2 : 0 ≤ a) (h3 : a < 256) (h4 : 0 ≤ b) (h5 : b < 256) (h6 : -2147483648 ≤ imm) (h7 : imm < 2147483648) (HT : Hid (pTab w)) :
    Calls Tryz.prog 20 #[Isa.insV op a b imm] w fun e w' => e = .returned (.string ⟨(showL op a b imm).toArray⟩) ∧ Below w.heap.size w w' := by
  have hM := fun w => Isa.may_c op a b imm true w h0 h1 h2 h3 h4 h5 h6 h7
  unfold showL
  unfold Isa.insV at hM ⊢
  cases hm : Isa.mayB (Isa.fm op true) a b imm
  · rw [hm] at hM
    have HM := Lib.hid hM
    clear hM hm
    rw [if_neg (by decide)]
    go_enter Tryz.func20, Tryz.ntmps20
    go_wp2_with fail
    refine (HM.out _).mono ?_
    rintro e w1 ⟨rfl, hb⟩
    go_wp2_with fail
    go_ret
    exact ⟨rfl, (Isa.below_alloc1 w _).trans (hb.mono (by simp))⟩
  · rw [hm] at hM
    have HM := Lib.hid hM
    obtain ⟨a8, b8⟩ := may_lt8 hm
    clear hM hm
    rw [if_pos rfl]
    obtain ⟨res, hres⟩ : ∃ res, res = (match nmTab.find? fun n => decide (n.op = op) with | some n => n.show a b imm | none => []) := ⟨_, rfl⟩
    rw [← hres]
    have HRes := Lib.hid hres
    clear hres
    have HN := Lib.hid names_c
    go_enter Tryz.func20, Tryz.ntmps20
    go_wp2_with fail
    refine (HM.out _).mono ?_
    rintro e w1 ⟨rfl, hb⟩
    go_wp2_with fail
    refine (HN.out _).mono ?_
    rintro e w2 ⟨rfl, rfl⟩
    have hs1 : w.heap.size < w1.heap.size := by have := hb.size; simp at this; omega
    have HS : Hid (TxS w #[.int .u8 op, .int .u8 a, .int .u8 b, .int .i32 imm] w1.heap.size (w1.alloc (.cells nmCells 104))) :=
      Lib.hid ⟨heap_oldT ((hb.block _ (by simp)).trans (heap_newT rfl)), heap_newT rfl, ((Isa.below_alloc1 w _).trans (hb.mono (by simp))).alloc (by omega) _, by simp, hs1⟩
    clear hb
    go_wp2_with fail
    generalize w1.alloc (.cells nmCells 104) = w2 at HS ⊢
    generalize w1.heap.size = nb at HS ⊢
    clear hs1 HM HN
    go_loopg [11] 53 (fun gk vk wr => ∃ k : Nat, gk + k = 53 ∧ vk = .int .i64 (k : Int) ∧ Hid (TxS w #[.int .u8 op, .int .u8 a, .int .u8 b, .int .i32 imm] nb wr) ∧ Hid (∀ j n, j < k → nmTab[j]? = some n → n.op ≠ op))
    case atStart => exact ⟨0, rfl, rfl, HS, Lib.hid (fun j n h => absurd h (Nat.not_lt_zero _))⟩
    case round =>
      obtain ⟨k, hk, rfl, HSr, HNo⟩ := hrel
      clear HS
      by_cases c1 : k < 53
      · have i1 : (k : Int) < 53 := by omega
        obtain ⟨n, hn, r0, r1, r2, r3, r4⟩ := nm_at k c1
        obtain ⟨o0, o1, oa, ob, ow⟩ := nm_is hn
        have n0 := (cell_of_row wr _ _ _ _ _ HSr.out.n).trans r0
        have n1 := (cell_of_row wr _ _ _ _ _ HSr.out.n).trans r1
        have n2 := (cell_of_row wr _ _ _ _ _ HSr.out.n).trans r2
        have n3 := (cell_of_row wr _ _ _ _ _ HSr.out.n).trans r3
        have n4 := (cell_of_row wr _ _ _ _ _ HSr.out.n).trans r4
        have j0 : wr.cell? ⟨w.heap.size, 0, none⟩ = some (.int .u8 op) := (cell_of_row wr _ _ _ _ _ HSr.out.i).trans rfl
        have j1 : wr.cell? ⟨w.heap.size, 1, none⟩ = some (.int .u8 a) := (cell_of_row wr _ _ _ _ _ HSr.out.i).trans rfl
        have j2 : wr.cell? ⟨w.heap.size, 2, none⟩ = some (.int .u8 b) := (cell_of_row wr _ _ _ _ _ HSr.out.i).trans rfl
        have j3 : wr.cell? ⟨w.heap.size, 3, none⟩ = some (.int .i32 imm) := (cell_of_row wr _ _ _ _ _ HSr.out.i).trans rfl
        have hl1 : w.heap.size < wr.heap.size := by have := HSr.out.size; have := HSr.out.lt; omega
        have hl2 : nb < wr.heap.size := HSr.out.size
        have hl3 : w.heap.size < wr.heap.size + 1 := by omega
        have hl4 : w.heap.size < wr.heap.size + 1 + 1 := by omega
        have hl5 : w.heap.size < wr.heap.size + 1 + 1 + 1 := by omega
        have hl6 : wr.heap.size < wr.heap.size + 1 + 1 := by omega
        have hl7 : wr.heap.size < wr.heap.size + 1 + 1 + 1 := by omega
        have HN := Lib.hid hn
        obtain ⟨word, nop, na, nbb, nimm⟩ := n
        simp only at n0 n1 n2 n3 n4 o0 o1 oa ob ow
        obtain ⟨s, hs⟩ : ∃ s : ByteArray, s = ⟨word.toArray⟩ := ⟨_, rfl⟩
        have hsz : s.size ≤ 5 := by rw [hs]; simpa [ByteArray.size] using ow
        rw [← hs] at n0
        have HSt := Lib.hid hs
        clear hs
        clear r0 r1 r2 r3 r4 hn
        by_cases c2 : nop = op
        · subst c2
          have hcv := cv2
          have z1 : (strOfNums [114, 48 + a]).size = 2 := by simp [strOfNums_size]
          have z2 : (strOfNums [nbb, 48 + b]).size = 2 := by simp [strOfNums_size]
          have z3 : (⟨#[32]⟩ : ByteArray).size = 1 := rfl
          have ht := Lib.hid (HT.out.on (HSr.out.below))
          have nb0 : 0 ≤ nbb ∧ nbb < 256 := by omega
          have w48a : IntKind.u8.wrap (48 + a) = 48 + a := by rw [IntKind.wrap_u8]; omega
          have w48b : IntKind.u8.wrap (48 + b) = 48 + b := by rw [IntKind.wrap_u8]; omega
          rcases oa with rfl | rfl
          · by_cases c3 : nbb = 0
            · subst c3
              cases nimm
              · go_wp2_with fail
                go_ret
                refine ⟨ret_strT ?_, HSr.out.below.alloc (by omega) _⟩
                rw [HRes.out, find_first HN.out (by simp) (fun j m hj hm => by simpa using HNo.out j m hj hm)]
                apply ba_ext
                rw [HSt.out]
                simp [Nm.show, regL, numL, strOfNums]
              · go_wp2_with fail
                refine (itoa_c imm (by omega) (by omega) _ ((HT.out.on (HSr.out.below.alloc (by omega) _)).here)).mono ?_
                rintro e w5 ⟨rfl, hb5⟩
                obtain ⟨t, ht⟩ : ∃ t : ByteArray, t = ⟨(Lib.itoa imm).toArray⟩ := ⟨_, rfl⟩
                have hts : t.size ≤ 20 := by rw [ht]; simpa [ByteArray.size] using itoa_len imm h6 h7
                rw [← ht]
                have HTt := Lib.hid ht
                clear ht
                go_wp2_with fail
                go_ret
                refine ⟨ret_strT ?_, (HSr.out.below.alloc (by omega) _).trans (hb5.mono (by simp; omega))⟩
                rw [HRes.out, find_first HN.out (by simp) (fun j m hj hm => by simpa using HNo.out j m hj hm)]
                apply ba_ext
                rw [HSt.out, HTt.out]
                simp [Nm.show, regL, numL, strOfNums]
            · have d3 : (nbb != 0) = true := by simpa using c3
              have d3' := Lib.hid c3
              clear c3
              cases nimm
              · go_wp2_with fail
                go_ret
                refine ⟨ret_strT ?_, (HSr.out.below.alloc (by omega) _).alloc (by simp; omega) _⟩
                rw [HRes.out, find_first HN.out (by simp) (fun j m hj hm => by simpa using HNo.out j m hj hm)]
                apply ba_ext
                rw [HSt.out]
                simp [Nm.show, regL, numL, strOfNums, d3'.out]
              · go_wp2_with fail
                refine (itoa_c imm (by omega) (by omega) _ ((HT.out.on ((HSr.out.below.alloc (by omega) _).alloc (by simp; omega) _)).here)).mono ?_
                rintro e w5 ⟨rfl, hb5⟩
                obtain ⟨t, ht⟩ : ∃ t : ByteArray, t = ⟨(Lib.itoa imm).toArray⟩ := ⟨_, rfl⟩
                have hts : t.size ≤ 20 := by rw [ht]; simpa [ByteArray.size] using itoa_len imm h6 h7
                rw [← ht]
                have HTt := Lib.hid ht
                clear ht
                go_wp2_with fail
                go_ret
                refine ⟨ret_strT ?_, ((HSr.out.below.alloc (by omega) _).alloc (by simp; omega) _).trans (hb5.mono (by simp; omega))⟩
                rw [HRes.out, find_first HN.out (by simp) (fun j m hj hm => by simpa using HNo.out j m hj hm)]
                apply ba_ext
                rw [HSt.out, HTt.out]
                simp [Nm.show, regL, numL, strOfNums, d3'.out]
          · by_cases c3 : nbb = 0
            · subst c3
              cases nimm
              · go_wp2_with fail
                go_ret
                refine ⟨ret_strT ?_, (HSr.out.below.alloc (by omega) _).alloc (by simp; omega) _⟩
                rw [HRes.out, find_first HN.out (by simp) (fun j m hj hm => by simpa using HNo.out j m hj hm)]
                apply ba_ext
                rw [HSt.out]
                simp [Nm.show, regL, numL, strOfNums]
              · go_wp2_with fail
                refine (itoa_c imm (by omega) (by omega) _ ((HT.out.on ((HSr.out.below.alloc (by omega) _).alloc (by simp; omega) _)).here)).mono ?_
                rintro e w5 ⟨rfl, hb5⟩
                obtain ⟨t, ht⟩ : ∃ t : ByteArray, t = ⟨(Lib.itoa imm).toArray⟩ := ⟨_, rfl⟩
                have hts : t.size ≤ 20 := by rw [ht]; simpa [ByteArray.size] using itoa_len imm h6 h7
                rw [← ht]
                have HTt := Lib.hid ht
                clear ht
                go_wp2_with fail
                go_ret
                refine ⟨ret_strT ?_, ((HSr.out.below.alloc (by omega) _).alloc (by simp; omega) _).trans (hb5.mono (by simp; omega))⟩
                rw [HRes.out, find_first HN.out (by simp) (fun j m hj hm => by simpa using HNo.out j m hj hm)]
                apply ba_ext
                rw [HSt.out, HTt.out]
                simp [Nm.show, regL, numL, strOfNums]
            · have d3 : (nbb != 0) = true := by simpa using c3
              have d3' := Lib.hid c3
              clear c3
              cases nimm
              · go_wp2_with fail
                go_ret
                refine ⟨ret_strT ?_, ((HSr.out.below.alloc (by omega) _).alloc (by simp; omega) _).alloc (by simp; omega) _⟩
                rw [HRes.out, find_first HN.out (by simp) (fun j m hj hm => by simpa using HNo.out j m hj hm)]
                apply ba_ext
                rw [HSt.out]
                simp [Nm.show, regL, numL, strOfNums, d3'.out]
              · go_wp2_with fail
                refine (itoa_c imm (by omega) (by omega) _ ((HT.out.on (((HSr.out.below.alloc (by omega) _).alloc (by simp; omega) _).alloc (by simp; omega) _)).here)).mono ?_
                rintro e w5 ⟨rfl, hb5⟩
                obtain ⟨t, ht⟩ : ∃ t : ByteArray, t = ⟨(Lib.itoa imm).toArray⟩ := ⟨_, rfl⟩
                have hts : t.size ≤ 20 := by rw [ht]; simpa [ByteArray.size] using itoa_len imm h6 h7
                rw [← ht]
                have HTt := Lib.hid ht
                clear ht
                go_wp2_with fail
                go_ret
                refine ⟨ret_strT ?_, (((HSr.out.below.alloc (by omega) _).alloc (by simp; omega) _).alloc (by simp; omega) _).trans (hb5.mono (by simp; omega))⟩
                rw [HRes.out, find_first HN.out (by simp) (fun j m hj hm => by simpa using HNo.out j m hj hm)]
                apply ba_ext
                rw [HSt.out, HTt.out]
                simp [Nm.show, regL, numL, strOfNums, d3'.out]
        · have d2 : (nop != op) = true := by simpa using c2
          have C2 := Lib.hid c2
          clear c2
          go_wp2_with fail
          go_roundg (gk - 1)
          case measure => omega
          case rel =>
            refine ⟨k + 1, by omega, rfl, Lib.hid (HSr.out.next (Isa.below_alloc1 _ _)), Lib.hid (fun j n hj hm => ?_)⟩
            by_cases hjk : j = k
            · subst hjk
              rw [HN.out] at hm
              simp only [Option.some.injEq] at hm
              rw [← hm]; exact C2.out
            · exact HNo.out j n (by omega) hm
      · have i1 : ¬ (k : Int) < 53 := by omega
        go_wp2_with fail
        go_ret
        refine ⟨?_, HSr.out.below⟩
        have hl : nmTab.length = 53 := by decide +kernel
        have e : res = [] := by
          rw [HRes.out, find_none (fun j n h => by
            have hj : j < nmTab.length := (List.getElem?_eq_some_iff.1 h).1
            simpa using HNo.out j n (by omega) h)]
        rw [e]
        rfl
end Go.Proofs.YtgfljokamgbcaaaGreatDoor
