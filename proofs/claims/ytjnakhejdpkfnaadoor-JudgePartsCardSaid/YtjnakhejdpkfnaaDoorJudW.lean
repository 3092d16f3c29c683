/- judge: the maker of the part that is the state; what each part tells. -/
import Derived.Test.YtjnakhejdpkfnaaDoorJudV
namespace Go.Proofs.YtjnakhejdpkfnaaDoor
open Go.RowKit
set_option linter.unusedSimpArgs false
set_option linter.unusedVariables false
set_option maxRecDepth 100000

/-- A state's numbers out of its cells. -/
theorem st_form (S : Array Value) (hz : S.size = 19) (hok : okAll stKJ S.toList) : ∃ (x : Nat → Int) (h : Bool), S = stJ x h ∧ ∀ k, 0 ≤ x k ∧ x k < 4294967296 := by
  obtain ⟨l⟩ := S
  have hl : l.length = 19 := by simpa using hz
  match l, hl, hok with
  | [v0, v1, v2, v3, v4, v5, v6, v7, v8, v9, v10, v11, v12, v13, v14, v15, v16, v17, v18], _, hok =>
    obtain ⟨⟨a0, rfl, q0⟩, ⟨a1, rfl, q1⟩, ⟨a2, rfl, q2⟩, ⟨a3, rfl, q3⟩, ⟨a4, rfl, q4⟩, ⟨a5, rfl, q5⟩, ⟨a6, rfl, q6⟩, ⟨a7, rfl, q7⟩, ⟨a8, rfl, q8⟩, ⟨a9, rfl, q9⟩, ⟨a10, rfl, q10⟩, ⟨a11, rfl, q11⟩, ⟨a12, rfl, q12⟩, ⟨a13, rfl, q13⟩, ⟨a14, rfl, q14⟩, ⟨a15, rfl, q15⟩, ⟨a16, rfl, q16⟩, ⟨a17, rfl, q17⟩, ⟨h, rfl⟩, -⟩ := hok
    exact ⟨fun k => match k with | 0 => a0 | 1 => a1 | 2 => a2 | 3 => a3 | 4 => a4 | 5 => a5 | 6 => a6 | 7 => a7 | 8 => a8 | 9 => a9 | 10 => a10 | 11 => a11 | 12 => a12 | 13 => a13 | 14 => a14 | 15 => a15 | 16 => a16 | 17 => a17 | _ => 0, h, rfl,
      fun k => match k with | 0 => bd_u32 q0 | 1 => bd_u32 q1 | 2 => bd_u32 q2 | 3 => bd_u32 q3 | 4 => bd_u32 q4 | 5 => bd_u32 q5 | 6 => bd_u32 q6 | 7 => bd_u32 q7 | 8 => bd_u32 q8 | 9 => bd_u32 q9 | 10 => bd_u32 q10 | 11 => bd_u32 q11 | 12 => bd_u32 q12 | 13 => bd_u32 q13 | 14 => bd_u32 q14 | 15 => bd_u32 q15 | 16 => bd_u32 q16 | 17 => bd_u32 q17 | _ + 18 => ⟨Int.le_refl _, by show (0 : Int) < _; omega⟩⟩

/-- What the state's closure has taken: of the first part that differs the name and both numbers. -/
def Qst (x : Nat → Int) (h : Bool) (y : Nat → Int) (g : Bool) (fn : Nat) (caps : Array Value) (w : World) : Prop :=
  fn = 51 ∧ ∃ p q, caps = #[ptrV p, ptrV q] ∧ ∀ d, (diffJ x h y g 19)[0]? = some d → SBox p q ⟨(nameJ d).toArray⟩ (valJ x h d) (valJ y g d) w
theorem Qst.next {x : Nat → Int} {h : Bool} {y : Nat → Int} {g : Bool} {fn : Nat} {caps : Array Value} {w w' : World} (H : Qst x h y g fn caps w) (hb : Below w.heap.size w w') : Qst x h y g fn caps w' := by
  obtain ⟨h1, p, q, h2, h3⟩ := H
  exact ⟨h1, p, q, h2, fun d hd => (h3 d hd).next hb⟩

set_option maxHeartbeats 8000000 in
theorem statesP_c (x : Nat → Int) (h : Bool) (y : Nat → Int) (g : Bool) (hx : ∀ k, 0 ≤ x k ∧ x k < 4294967296) (hy : ∀ k, 0 ≤ y k ∧ y k < 4294967296) (w : World) (HT : Hid (pTab w)) :
    Calls Tryd.prog 39 #[.agg (stJ x h), .agg (stJ y g)] w fun e w' => (∃ fn caps, e = .returned (.agg #[.string ⟨#[115, 116, 97, 116, 101]⟩, .bool (decide (0 < (diffJ x h y g 19).length)), .func (.func fn) #[] caps]) ∧ Qst x h y g fn caps w') ∧ Below w.heap.size w w' := by
  have HA := Lib.hid fun (W : World) (hb : Below w.heap.size w W) => apart_c x h y g hx hy W (pTab_on HT hb)
  obtain ⟨A, hA⟩ : ∃ A, A = stJ x h := ⟨_, rfl⟩
  obtain ⟨B, hB⟩ : ∃ B, B = stJ y g := ⟨_, rfl⟩
  have hzA : A.size = 19 := by rw [hA]; rfl
  have hzB : B.size = 19 := by rw [hB]; rfl
  rw [← hA, ← hB] at HA ⊢
  have Z1 := Lib.hid hzA
  have Z2 := Lib.hid hzB
  have HE := Lib.hid fun (d : Nat) (hd : (diffJ x h y g 19)[0]? = some d) => And.intro (ents_at x h (diffJ x h y g 19) hd) (ents_at y g (diffJ x h y g 19) hd)
  unfold Qst
  generalize diffJ x h y g 19 = D at HA HE ⊢
  clear hA hB hx hy
  have B0 : ∀ o1 o2 o3, Below w.heap.size w (((w.alloc o1).alloc o2).alloc o3) := fun o1 o2 o3 => (((Below.refl _ _).alloc (Nat.le_refl _) _).alloc (by simp) _).alloc (by simp; omega) _
  go_enter Tryd.func39, Tryd.ntmps39
  go_wp2_with (first
    | ((with_reducible show wpList _ _ _ (Oper.mk _ (.load 26 _) _ _ _ _ :: _) _ _); refine wpList_load_row rfl 26 _ rfl _ rfl 26 _ (0, 0) _ (by first | (refine heap_new' ?_; simp; done) | (refine heap_old' (heap_new' ?_); simp; done) | (refine heap_old' (heap_old' (heap_new' ?_)); simp; done)) Tryd.underlying26 rfl (by first | (rw [Z1.out]; kernel_rfl) | (rw [Z2.out]; kernel_rfl)) ?_))
  refine (HA.out _ (B0 _ _ _)).mono ?_
  rintro e w1 ⟨v, u, rfl, ov, ou, hb1⟩
  have gv := own_geJ ov
  have gu := own_geJ ou
  obtain ⟨ao, ca, rfl, hca⟩ := own_slice ov
  obtain ⟨bo, cb, rfl, hcb⟩ := own_slice ou
  have s1 : w.heap.size + 1 + 1 < w1.heap.size := by have := hb1.size; simp at this; omega
  have s2 : w.heap.size + 1 + 1 < w1.heap.size + 1 := by omega
  have B1 : Below w.heap.size w w1 := below_nextJ (B0 _ _ _) hb1
  obtain ⟨hcl, hfz⟩ := bcellJ hb1
  have HCA := Lib.hid hca
  have HCB := Lib.hid hcb
  have HGV := Lib.hid gv
  have HGU := Lib.hid gu
  clear ov ou hca hcb gv gu
  go_wp2_with fail
  refine bodyPost_ret (v := .agg #[.string ⟨#[115, 116, 97, 116, 101]⟩, .bool (decide (0 < D.length)), .func (.func 51) #[] #[ptrV w1.heap.size, ptrV (w1.heap.size + 1)]]) ?_ rfl ⟨⟨_, _, rfl, rfl, _, _, rfl, fun d hd => ?_⟩, ?_⟩
  · simp [results, Tryd.results39, go_sem, hcl, s1, s2]
  · obtain ⟨⟨a0, a1⟩, b0, b1⟩ := HE.out d hd
    have hlen : 0 < D.length := (List.getElem?_eq_some_iff.1 hd).1
    obtain ⟨gx, rfl, hgx, hcx⟩ : ∃ gx, ao = some ⟨gx, 0, none⟩ ∧ gx < w1.heap.size ∧ ∀ j, j < D.length * 2 → w1.cell? ⟨gx, j, none⟩ = (D.flatMap (entJ x h))[j]? := by
      rcases HCA.out with h | h
      · omega
      · exact h
    obtain ⟨gy, rfl, hgy, hcy⟩ : ∃ gx, bo = some ⟨gx, 0, none⟩ ∧ gx < w1.heap.size ∧ ∀ j, j < D.length * 2 → w1.cell? ⟨gx, j, none⟩ = (D.flatMap (entJ y g))[j]? := by
      rcases HCB.out with h | h
      · omega
      · exact h
    have ne1 : gx ≠ w.heap.size + 1 + 1 := by have := HGV.out gx rfl; simp at this; omega
    have ne2 : gy ≠ w.heap.size + 1 + 1 := by have := HGU.out gy rfl; simp at this; omega
    have keep : ∀ (v1 v2 v3 : Value) (o1 o2 : Obj) (k j : Nat) (v : Value), k < w1.heap.size → k ≠ w.heap.size + 1 + 1 → w1.cell? ⟨k, j, none⟩ = some v → (((((w1.setCell ⟨w.heap.size + 1 + 1, 0, none⟩ v1).setCell ⟨w.heap.size + 1 + 1, 1, none⟩ v2).setCell ⟨w.heap.size + 1 + 1, 2, none⟩ v3).alloc o1).alloc o2).cell? ⟨k, j, none⟩ = some v := fun v1 v2 v3 o1 o2 k j v hk hne hv => by
      obtain ⟨o, ho⟩ : ∃ o, w1.heap[k]? = some o := ⟨_, Array.getElem?_eq_getElem hk⟩
      exact (World.cell?_of_block (a := ⟨k, j, none⟩) (w := w1) ((heap_oldJ (heap_oldJ (row_setOJ (row_setOJ (row_setOJ ho hne _ _) hne _ _) hne _ _))).trans ho.symm)).trans hv
    refine ⟨gx, gy, D.length, ca, D.length, cb, heap_oldJ (heap_newJ (by simp)), heap_newJ (by simp), hlen, hlen, keep _ _ _ _ _ _ _ _ hgx ne1 ((hcx 0 (by omega)).trans a0), keep _ _ _ _ _ _ _ _ hgx ne1 ((hcx 1 (by omega)).trans a1), keep _ _ _ _ _ _ _ _ hgy ne2 ((hcy 1 (by omega)).trans b1)⟩
  · refine Below.alloc (Below.alloc (Below.setCell (Below.setCell (Below.setCell B1 ?_ _) ?_ _) ?_ _) ?_ _) ?_ _
    iterate 3 (show w.heap.size ≤ w.heap.size + 1 + 1; omega)
    all_goals (simp; omega)

theorem tells_bytes {va vb : BSl} {n : Nat} {fn : Nat} {caps : Array Value} {w : World} (nm : ByteArray) (d : Bool) (hn : n < 9223372036854775808) (h : Qbytes va.v vb.v (n : Int) fn caps w) (ha : va.ok w) (hb : vb.ok w) (HT : Hid (pTab w)) :
    Tells ⟨nm, d, fn, caps, fun s => sayS (sayS (sayS s ⟨#[97, 116]⟩) (numS (n : Int))) (bothS (atS va.L n) (atS vb.L n))⟩ w := by
  obtain ⟨rfl, k, p, q, rfl, hB⟩ := h
  refine ⟨fun args w => by go_simp, fun w' bt s hb' hs hbt hT => ?_⟩
  exact bytes1_c p q k bt n hn va.a vb.a va.len va.cap vb.len vb.cap va.L vb.L s (by omega) w hB ha hb HT hbt w' hb' hT
theorem tells_list {n : Nat} {fn : Nat} {caps : Array Value} {w : World} (nm : ByteArray) (d : Bool) (hn : n < 9223372036854775808) (h : Qlist (n : Int) fn caps w) (HT : Hid (pTab w)) :
    Tells ⟨nm, d, fn, caps, fun s => sayS (sayS s ⟨#[97, 116]⟩) (numS (n : Int))⟩ w := by
  obtain ⟨rfl, p, rfl, hB⟩ := h
  refine ⟨fun args w => by go_simp, fun w' bt s hb' hs hbt hT => ?_⟩
  exact list1_c p bt n hn s (by omega) w hB HT hbt w' hb' hT
theorem nameJ_size (k : Nat) (hk : k < 19) : (nameJ k).length ≤ 22 := by
  unfold nameJ
  have h1 := itoa_lenJ (k : Int) (by omega) (by omega)
  have h2 := itoa_lenJ ((k : Int) - 10) (by omega) (by omega)
  repeat' split
  all_goals (simp; try omega)
theorem tells_state {x y : Nat → Int} {h g : Bool} {fn : Nat} {caps : Array Value} {w : World} (nm : ByteArray) (d : Bool) (hx : ∀ k, 0 ≤ x k ∧ x k < 4294967296) (hy : ∀ k, 0 ≤ y k ∧ y k < 4294967296) (k : Nat) (hk : (diffJ x h y g 19)[0]? = some k) (H : Qst x h y g fn caps w) (HT : Hid (pTab w)) :
    Tells ⟨nm, d, fn, caps, fun s => sayS (sayS s ⟨(nameJ k).toArray⟩) (bothS (numS (valJ x h k)) (numS (valJ y g k)))⟩ w := by
  obtain ⟨rfl, p, q, rfl, hB⟩ := H
  have k19 : k < 19 := by
    have := List.mem_of_getElem? hk
    unfold diffJ at this
    simpa using (List.mem_filter.1 this).1
  have hv : ∀ (x : Nat → Int) (h : Bool), (∀ k, 0 ≤ x k ∧ x k < 4294967296) → 0 ≤ valJ x h k ∧ valJ x h k < 4294967296 := fun x h hx => by
    unfold valJ
    split
    · exact hx k
    · split <;> omega
  refine ⟨fun args w => by go_simp, fun w' bt s hb' hs hbt hT => ?_⟩
  exact states1_c p q bt _ _ _ (hv x h hx) (hv y g hy) s (by omega) (by have := nameJ_size k k19; show ((nameJ k).toArray).size ≤ 100; simp; omega) w (hB k hk) HT hbt w' hb' hT
theorem tells_dev {fn : Nat} {caps : Array Value} {w : World} (nm : ByteArray) (d : Bool) (H : Qdev fn caps w) : Tells ⟨nm, d, fn, caps, id⟩ w := by
  obtain ⟨rfl, rfl⟩ := H
  refine ⟨fun args w => by go_simp, fun w' bt s hb' hs hbt hT => ?_⟩
  have HTB := Lib.hid hT
  clear hT
  show Calls Tryd.prog 43 #[sayV bt] w' _
  go_enter Tryd.func43, Tryd.ntmps43
  go_wp2_with fail
  go_end0
  exact ⟨⟨_, rfl⟩, HTB.out, grown_belowJ (Below.refl _ _) _⟩
end Go.Proofs.YtjnakhejdpkfnaaDoor
