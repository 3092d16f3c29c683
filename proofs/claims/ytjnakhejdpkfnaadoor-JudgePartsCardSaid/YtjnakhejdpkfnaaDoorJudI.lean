/- judge.Tell: the first difference of two guests. -/
import Derived.Test.YtjnakhejdpkfnaaDoorJudH
namespace Go.Proofs.YtjnakhejdpkfnaaDoor
open Go.RowKit
set_option linter.unusedSimpArgs false
set_option linter.unusedVariables false
set_option maxRecDepth 100000

theorem ret_strJ {a b : ByteArray} (h : a = b) : Ending.returned (.string a) = .returned (.string b) := by rw [h]

/-- A part, as it is told. -/
structure PEnt where
  nm : ByteArray
  d : Bool
  fn : Nat
  caps : Array Value
  X : ByteArray → ByteArray
def PEnt.cells (p : PEnt) : List Value := [.string p.nm, .bool p.d, .func (.func p.fn) #[] p.caps]
/-- The part's closure tells what the part tells. -/
structure Tells (p : PEnt) (w : World) : Prop where
  enter : ∀ (args : Array Value) (w : World), (callFunc p.fn args).run Tryd.prog w = .ok (.enter p.fn args) w
  tell : ∀ (w' : World) (bt : Nat) (s : ByteArray), Below w.heap.size w w' → s.size ≤ 100 → w.heap.size ≤ bt → TBox w' bt s →
    Calls Tryd.prog p.fn (#[sayV bt] ++ p.caps) w' fun e w'' => (∃ v, e = .returned v) ∧ TBox w'' bt (p.X s) ∧ w'.grownBy w'' (some bt)
theorem Tells.next {p : PEnt} {w w' : World} (h : Tells p w) (hb : Below w.heap.size w w') : Tells p w' :=
  ⟨h.enter, fun w2 bt s h1 h2 h3 h4 => h.tell w2 bt s (below_nextJ hb h1) h2 (Nat.le_trans hb.size h3) h4⟩

/-- What the first part tells that differs. -/
def tellM : List PEnt → ByteArray
  | [] => ⟨#[]⟩
  | p :: l => if p.d = true then p.X p.nm else tellM l

theorem flat3 : ∀ (E : List PEnt) (k : Nat) (p : PEnt), E[k]? = some p → ∀ j, j < 3 → (E.flatMap PEnt.cells)[k * 3 + j]? = p.cells[j]?
  | [], _, _, h, _, _ => by simp at h
  | x :: E, 0, p, h, j, hj => by
    simp at h; subst h
    simp only [List.flatMap_cons, Nat.zero_mul, Nat.zero_add]
    rw [List.getElem?_append_left (by simpa [PEnt.cells] using hj)]
  | x :: E, k + 1, p, h, j, hj => by
    simp only [List.getElem?_cons_succ] at h
    simp only [List.flatMap_cons]
    rw [List.getElem?_append_right (by simp [PEnt.cells]; omega), show (k + 1) * 3 + j - x.cells.length = k * 3 + j from by simp [PEnt.cells]; omega]
    exact flat3 E k p h j hj

set_option maxHeartbeats 8000000 in
theorem tell_c (A B : Array Value) (hzA : A.size = 35) (hzB : B.size = 35) (w : World) (M : List PEnt → Prop) (t : ByteArray) (hM : ∀ E, M E → tellM E = t)
    (HP : ∀ W, Below w.heap.size w W → Calls Tryd.prog 30 #[.agg A, .agg B] W fun e w' => ∃ g E, e = .returned (.slice (some ⟨g, 0, none⟩) 10 10) ∧ M E ∧ E.length = 10 ∧ W.heap.size ≤ g ∧
      w'.heap[g]? = some (.cells (E.flatMap PEnt.cells).toArray 63 (0, 0)) ∧ (∀ p ∈ E, p.nm.size ≤ 100) ∧ (∀ p ∈ E, p.d = true → Tells p w') ∧ Below W.heap.size W w') :
    Calls Tryd.prog 22 #[.agg A, .agg B] w fun e w' => e = .returned (.string t) ∧ Below w.heap.size w w' := by
  have HPP := Lib.hid HP
  have HM := Lib.hid hM
  have Z1 := Lib.hid hzA
  have Z2 := Lib.hid hzB
  clear HP hM
  go_enter Tryd.func22, Tryd.ntmps22
  go_wp2_with (first
    | ((with_reducible show wpList _ _ _ (Oper.mk _ (.load 30 _) _ _ _ _ :: _) _ _); refine wpList_load_row rfl 30 _ rfl _ rfl 30 _ (0, 0) _ (by first | (refine heap_new' ?_; simp; done) | (refine heap_old' (heap_new' ?_); simp; done)) Tryd.underlying30 rfl (by first | (rw [Z1.out]; kernel_rfl) | (rw [Z2.out]; kernel_rfl)) ?_))
  refine (HPP.out _ ((below_alloc1 _ _).alloc (by simp) _)).mono ?_
  rintro e w1 ⟨g, E, rfl, hME, hlen, hg, hrow, hnm, hT, hb1⟩
  have ht := HM.out E hME
  subst ht
  clear HM hME HPP
  have B1 : Below w.heap.size w w1 := below_nextJ ((below_alloc1 _ _).alloc (by simp) _) hb1
  have HR := Lib.hid hrow
  have HNM := Lib.hid hnm
  have HT := Lib.hid hT
  have HL := Lib.hid hlen
  clear hrow hnm hT hlen hb1 hg
  go_wp2_with fail
  go_loopg [12] 10 (fun gk vk wr => ∃ k : Nat, gk + k = 10 ∧ vk = .int .i64 (k : Int) ∧ Hid (tellM (E.drop k) = tellM E) ∧ Below w1.heap.size w1 wr)
  case atStart => exact ⟨0, rfl, rfl, Lib.hid rfl, Below.refl _ _⟩
  case round =>
    obtain ⟨k, hk, rfl, HI, hB⟩ := hrel
    have hB' : Below w.heap.size w wr := below_nextJ B1 hB
    by_cases c1 : k < 10
    · have i1 : (k : Int) < 10 := by omega
      obtain ⟨p, hp⟩ : ∃ p, E[k]? = some p := ⟨_, List.getElem?_eq_getElem (by rw [HL.out]; exact c1)⟩
      have hpm := List.mem_of_getElem? hp
      have hrow := (hB.block g (lt_of_rowJ HR.out)).trans HR.out
      have x0 := (cell_of_row wr g (k * 3 + 0) _ _ _ hrow).trans (by simpa using flat3 E k p hp 0 (by decide))
      have x1 := (cell_of_row wr g (k * 3 + 1) _ _ _ hrow).trans (by simpa using flat3 E k p hp 1 (by decide))
      have x2 := (cell_of_row wr g (k * 3 + 2) _ _ _ hrow).trans (by simpa using flat3 E k p hp 2 (by decide))
      have hgr := lt_of_rowJ hrow
      have hdrop : E.drop k = p :: E.drop (k + 1) := by
        obtain ⟨hlt, rfl⟩ := List.getElem?_eq_some_iff.1 hp
        exact List.drop_eq_getElem_cons hlt
      have HI2 := Lib.hid (hdrop ▸ HI.out)
      have hns := HNM.out p hpm
      have HTp := Lib.hid (HT.out p hpm)
      clear hrow hdrop hp hpm
      obtain ⟨nm, d, fn, caps, X⟩ := p
      simp [PEnt.cells] at x0 x1 x2
      simp only at hns
      cases d
      · go_wp2_with fail
        go_roundg (gk - 1)
        case measure => omega
        case rel => exact ⟨k + 1, by omega, by go_num, Lib.hid (by have := HI2.out; simpa [tellM] using this), hB.alloc hB.size _⟩
      · have hcf := (HTp.out rfl).enter
        simp only at hcf
        go_wp2_with fail
        have hsz := hB'.size
        have hBB := (hB.alloc hB.size (.cells #[.string nm, .bool true, .func (.func fn) #[] caps] 63)).alloc (by have := hB.size; simp; omega) (.cells #[.string nm] 64)
        refine ((HTp.out trivial).tell _ (wr.heap.size + 1) nm hBB hns (by have := hB.size; omega) ⟨heap_new' (by simp)⟩).mono ?_
        rintro e w2 ⟨⟨v, rfl⟩, hT2, hg2⟩
        have hC := (hB'.alloc hB'.size (.cells #[.string nm, .bool true, .func (.func fn) #[] caps] 63)).alloc (by simp; omega) (.cells #[.string nm] 64)
        have hD := hC.grown hg2 hC.size (fun j hj => by cases hj; omega)
        have k0 : w2.cell? ⟨wr.heap.size + 1, 0, none⟩ = some (.string (X nm)) := (cell_of_row w2 _ _ _ _ _ hT2.t).trans rfl
        have HE := Lib.hid (show X nm = tellM E from by have := HI2.out; simpa [tellM] using this)
        clear hC hBB hg2 hT2
        go_wp2_with fail
        go_ret
        exact ⟨ret_strJ HE.out, hD⟩
    · have i1 : ¬ (k : Int) < 10 := by omega
      go_wp2_with fail
      go_ret
      refine ⟨ret_strJ ?_, hB'⟩
      have := HI.out
      rw [List.drop_eq_nil_of_le (by rw [HL.out]; omega)] at this
      rw [← this]; rfl
end Go.Proofs.YtjnakhejdpkfnaaDoor
