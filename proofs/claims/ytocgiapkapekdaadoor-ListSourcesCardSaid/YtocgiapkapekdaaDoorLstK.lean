/- list.Source -/
import Derived.Test.YtocgiapkapekdaaDoorLstJ
import Derived.RangeFuncWrites
namespace Go.Proofs.YtocgiapkapekdaaDoor
open Go.RowKit Go.Shelf
set_option linter.unusedSimpArgs false
set_option linter.unusedVariables false
set_option maxRecDepth 100000
attribute [local go_sem] Oper.semAt_some

/-- What is no row of bytes, and is not the builder, stands. -/
def KeptB (b : Nat) (w w' : World) : Prop := ∀ k o, k ≠ b → w.heap[k]? = some o → (∀ cs f, o ≠ .cells cs 5 f) → w'.heap[k]? = some o
theorem keptB_t {b : Nat} {x y z : World} (h : KeptB b x y) (g : KeptB b y z) : KeptB b x z := fun k o a c d => g k o a (h k o a c d) d
theorem keptB_below {b : Nat} {x y : World} (h : Below x.heap.size x y) : KeptB b x y := fun k o _ hk _ => (h.block k (Array.getElem?_eq_some_iff.1 hk).1).trans hk
theorem keptB_set {b j : Nat} {x : World} {v : Value} : KeptB b x (x.setCell ⟨b, j, none⟩ v) := fun k o hne hk _ => (Below.heap_setCell x ⟨b, j, none⟩ v k hne).trans hk

set_option maxHeartbeats 2000000 in
theorem copyCheck_k (B b : Nat) (bs : List Value) (w : World) (h : Lib.IsBuilderF tB 5 B b bs w) :
    Calls Tryd.prog 37 #[.pointer (some ⟨b, 0, none⟩)] w fun e w' => e = .returned (.tuple #[]) ∧ (Lib.BuilderAtF tB 5 B b (.pointer (some ⟨b, 0, none⟩)) bs w' ∧ Below B w w') ∧ KeptB b w w' := by
  obtain ⟨j, hj, hjs⟩ := Tryd.infoBuilder
  rcases h with h | h
  · have h0 := h.cell0
    have hsh := h.shape
    have hfz := h.frozen0
    have hB := h.1
    have hU := h.used (.pointer (some ⟨b, 0, none⟩))
    have HU := Lib.hid hU
    clear h hU
    have k1 : (w.setCell ⟨b, 0, none⟩ (.pointer (some ⟨b, 0, none⟩))).cell? ⟨b, 0, none⟩ = some (.pointer (some ⟨b, 0, none⟩)) := World.cell?_setCell_same' _ _ _ (by rw [h0]; rfl)
    go_enter Tryd.func37, Tryd.ntmps37
    go_wp2_with fail
    rw [Lib.run_to_unsafe w ⟨b, 0, none⟩ Tryd.underlying42 Tryd.underlying84 hj (by rw [hjs]; decide) hsh (Nat.zero_lt_succ 1)]
    simp only [Result.andThen]
    rw [Oper.upon_value]
    go_wp2_with fail
    rw [run_callFunc_extern Tryd.func45 (by kernel_rfl) (by kernel_rfl) (by kernel_rfl) (e := Extern.AbiNoEscape.same) (by kernel_rfl)]
    rw [Lib.run_noEscape]
    simp only [Result.andThen]
    rw [Oper.upon_value]
    go_wp2_with fail
    rw [Lib.run_from_unsafe w ⟨b, 0, none⟩ Tryd.underlying84 Tryd.underlying42 hj hsh Tryd.liesBuilder]
    simp only [Result.andThen]
    rw [Oper.upon_value]
    go_wp2_with fail
    go_end0
    exact ⟨rfl, ⟨HU.out, (Below.refl B w).setCell (p := ⟨b, 0, none⟩) hB _⟩, keptB_set⟩
  · have h0 := h.cell0
    have HU := Lib.hid h
    clear h
    go_enter Tryd.func37, Tryd.ntmps37
    go_wp2_with fail
    rw [Lib.run_neq_ptr_same w _ Tryd.underlying42 hj]
    go_wp2_with fail
    go_end0
    exact ⟨rfl, ⟨HU.out, Below.refl _ _⟩, fun k o _ hk _ => hk⟩

set_option maxHeartbeats 4000000 in
theorem write_k (B b : Nat) (bs : List Value) (s : ByteArray) (w : World) (h : Lib.IsBuilderF tB 5 B b bs w) (hlen : bs.length + s.size ≤ 140737488355328) (hBw : B ≤ w.heap.size) :
    Calls Tryd.prog 21 #[.pointer (some ⟨b, 0, none⟩), .string s] w fun e w' => e = .returned (.tuple #[.int .i64 s.size, .nilIface]) ∧ (Lib.IsBuilderF tB 5 B b (bs ++ Lib.strCells s) w' ∧ Below B w w') ∧ KeptB b w w' := by
  obtain ⟨i0, hi, hz0, hz1, hz2⟩ := info_parts Tryd.infoByteB
  have HC := Lib.hid (copyCheck_k B b bs w h)
  clear h
  go_enter Tryd.func21, Tryd.ntmps21
  go_wp2_with fail
  refine (HC.out).mono ?_
  rintro e w1 ⟨rfl, ⟨⟨hB, v, hbk, hown, hne⟩, hb1⟩, hk1⟩
  have c1 : w1.cell? ⟨b, 1, none⟩ = some v := by rw [Lib.cell_of_heap hbk]; rfl
  have hs1 := hb1.size
  have HK1 := Lib.hid hk1
  clear HC hk1
  go_wp2_with (first | (at_builtin; refine Lib.wpList_append_own_stringF _ rfl _ _ 22 9 rfl B 5 i0 Tryd.underlying22 Tryd.underlying9 hi hz0 hz1 hz2 _ _ _ rfl hown s rfl (by unfold maxLen; omega) (by omega) (by omega) ?_))
  intro v' w2 hown' hgrow _
  have hlt : b < w1.heap.size := (Array.getElem?_eq_some_iff.1 hbk).1
  have hb2 : w2.heap[b]? = some (.cells #[.pointer (some ⟨b, 0, none⟩), v] tB (0, 0)) := by
    rw [hgrow.block b hlt (fun e => hne e.symm)]
    exact hbk
  have d1 : w2.cell? ⟨b, 1, none⟩ = some v := by rw [Lib.cell_of_heap hb2]; rfl
  have f1 : w2.frozen? ⟨b, 1, none⟩ = false := Lib.frozen_of_heap hb2 1
  have hk2 : KeptB b w1 w2 := fun k o hkb hk ho => by
    refine (hgrow.block k (Array.getElem?_eq_some_iff.1 hk).1 (fun e => ?_)).trans hk
    rcases hown.2 with ⟨h, _⟩ | ⟨g, cap, cur, fz, h, _, h3, _⟩
    · rw [h] at e; simp [Value.ownBlock] at e
    · rw [h] at e
      have : k = g := by simpa [Value.ownBlock] using e
      subst this
      rw [hk] at h3
      exact ho _ _ (Option.some.inj h3)
  have HK2 := Lib.hid (keptB_t HK1.out hk2)
  clear hk2
  obtain ⟨ao, n', cap, rfl⟩ : ∃ ao n' cap, v' = .slice ao n' cap := by
    rcases hown'.2 with ⟨hv, _⟩ | ⟨g, cap, cur, fz, hv, _⟩
    · exact ⟨_, _, _, hv⟩
    · exact ⟨_, _, _, hv⟩
  go_wp2_with fail
  refine bodyPost_ret (v := .tuple #[.int .i64 s.size, .nilIface]) (by simp [results, Tryd.results21, go_sem]) rfl ⟨rfl, ⟨.inr ?_, ?_⟩, keptB_t HK2.out keptB_set⟩
  · exact Lib.BuilderAtF.put hB hb2 (bs' := bs ++ Lib.strCells s) (by simpa [Lib.strCells_length] using hown') (by decide)
  · exact (hb1.grown hgrow (by omega) (fun k hk => (hown.lt k hk).1)).setCell (p := ⟨b, 1, none⟩) hB _

theorem row_keptK {A B : World} {row : Option Nat} {b : Nat} {cs : Array Value} {t : TypeId} {f : Nat × Nat} (h : A.heap[b]? = some (.cells cs t f)) (hg : A.grownBy B row) (hr : ∀ r, row = some r → ∃ o, A.heap[r]? = some o ∧ o.isCells = false) : B.heap[b]? = some (.cells cs t f) :=
  (hg.block b (Array.getElem?_eq_some_iff.1 h).1 (fun e => by
    obtain ⟨o, ho, hc⟩ := hr b e.symm
    rw [h] at ho; cases ho; cases hc)).trans h
theorem isB_own {T e : TypeId} {B b : Nat} {bs : List Value} {w w' : World} {row : Option Nat} (h : Lib.IsBuilderF T e B b bs w) (hg : w.grownBy w' row) (hr : ∀ r, row = some r → ∃ o, w.heap[r]? = some o ∧ o.isCells = false) : Lib.IsBuilderF T e B b bs w' := by
  have key : ∀ p, Lib.BuilderAtF T e B b p bs w → Lib.BuilderAtF T e B b p bs w' := fun p h => by
    obtain ⟨h1, v, h2, h3, h4⟩ := h
    refine ⟨h1, v, row_keptK h2 hg hr, ?_, h4⟩
    refine ⟨h3.1, ?_⟩
    rcases h3.2 with h | ⟨g, cap, cur, fz, q1, q2, q3, q4⟩
    · exact .inl h
    · exact .inr ⟨g, cap, cur, fz, q1, q2, row_keptK q3 hg hr, q4⟩
  rcases h with h | h
  · exact .inl (key _ h)
  · exact .inr (key _ h)

/-- The text of the lines that have come. -/
def srcT (pre : List (Nat × PlT)) : List UInt8 := pre.flatMap fun x => x.2.1 ++ [10]
theorem srcT_snoc (pre : List (Nat × PlT)) (x : Nat × PlT) : srcT (pre ++ [x]) = srcT pre ++ (x.2.1 ++ [10]) := by simp [srcT]
theorem srcT_len (pre : List (Nat × PlT)) : (srcT pre).length ≤ pre.length * 101 := by
  induction pre with
  | nil => simp [srcT]
  | cons x r ih =>
    have := x.2.2
    simp only [srcT, List.flatMap_cons, List.length_append, List.length_cons, List.length_nil] at *
    omega
theorem srcL_len (L : List Int) : ∀ f a, (srcL L f a).length ≤ f
  | 0, a => by simp [srcL]
  | f + 1, a => by
    rw [srcL]
    split
    · have := srcL_len L f (a + (oneN L a).toNat)
      simp; omega
    · simp

set_option maxHeartbeats 16000000 in
theorem source_in (n : Nat) (hn : 4 ≤ n) (ao : Option Addr) (la ca : Nat) (L : List Int) (hL : L.length ≤ 400) (w : World) (hA : ByteArg w ao la ca L) (HT : Hid (pTab w)) :
    CallsIn Fence.wide n Tryd.prog 10 #[.slice ao la ca] w fun e W' => e = .returned (.string (sH (srcT (srcL L L.length 0)))) ∧ Below w.heap.size w W' := by
  have h1 : 1 ≤ n := by omega
  refine callsIn_of_wp_marks Tryd.func10 rfl trivial ?_ rfl
  simp only [Tryd.ntmps10, List.size_toArray, List.length_cons, List.length_nil, Nat.reduceAdd, Nat.reduceSub, Array.replicate_succ, Array.replicate_zero, List.push_toArray, List.append_toArray, List.nil_append, List.cons_append]
  gi_wp2_with (refine ⟨trivial, ?_⟩; gi_at_call 20; refine (places_in (n - 1) _ ⟨_, _, _, rfl⟩ _).mono ?_; rintro e w' ⟨rfl, rfl⟩)
  obtain ⟨W0, hW0⟩ : ∃ W0, W0 = w.alloc (.cells #[.pointer none, .slice none 0 0] tB) := ⟨_, rfl⟩
  have hsz : W0.heap.size = w.heap.size + 1 := by rw [hW0]; simp
  have hB0 : Below w.heap.size w (W0.alloc (.cells #[.slice ao la ca] 22)) := by rw [hW0]; exact ((Below.refl _ w).alloc (Nat.le_refl _) _).alloc (by simp) _
  have hI0 : Lib.IsBuilderF tB 5 w.heap.size w.heap.size (Lib.byteCells (srcT [])) (W0.alloc (.cells #[.slice ao la ca] 22)) := by
    rw [hW0]
    exact isB_keepH (Lib.IsBuilderF.of (Lib.fresh_isBuilder tB 5 w)) ((Below.refl _ _).alloc (Nat.le_refl _) _)
  have hbx0 : (W0.alloc (.cells #[.slice ao la ca] 22)).heap[w.heap.size + 1]? = some (.cells #[.slice ao la ca] 22 (0, 0)) := heap_newH (by rw [hsz])
  have hSt : SeqStopsK Fence.wide (n - 1) Tryd.prog 36 #[.pointer (some ⟨w.heap.size + 1, 0, none⟩)] plE (KpP w.heap.size (w.heap.size + 1)) (fun ys => ys = srcL L L.length 0) (fun pre => pre <+: srcL L L.length 0) (srcL L L.length 0).length (W0.alloc (.cells #[.slice ao la ca] 22)) :=
    fun l J Jx W hW hJ hJx hY h0 => places1_in (n - 1) (by omega) l (w.heap.size + 1) w ao la ca L hA HT W.heap.size J Jx hJ hY W (hB0.trans (hW.mono hB0.size)) ((cell_of_row _ _ 0 _ _ _ ((hW.block _ (by simp; omega)).trans hbx0)).trans rfl) h0
  have hlen := srcL_len L L.length 0
  obtain ⟨XS, hXS⟩ : ∃ XS, XS = srcL L L.length 0 := ⟨_, rfl⟩
  rw [← hXS] at hSt hlen
  clear hA HT
  rw [← hW0]
  clear hW0
  refine wpIn_rangeFunc_ownG (F := Fence.wide) rfl h1 (gf := 36) (lb := #[.pointer (some ⟨w.heap.size + 1, 0, none⟩)]) rfl trivial (enters_of Tryd.func36 (by kernel_rfl) rfl)
    hSt kpp_t (kpp_b (by simp; omega) (by simp; omega)) (Below.refl _ _) (fun _ => rfl)
    (fun pre W => (Lib.IsBuilderF tB 5 w.heap.size w.heap.size (Lib.byteCells (srcT pre)) W ∧ W.heap[w.heap.size + 1]? = some (.cells #[.slice ao la ca] 22 (0, 0))) ∧ Below w.heap.size w W)
    (fun _ _ _ => False)
    (OwnFrom.and (Own.from (fun s A B row hs hg hr => ⟨isB_own hs.1 hg hr, row_keptK hs.2 hg hr⟩) _) (ownFrom_below (Nat.le_refl _) (by simp; omega)))
    (fun _ _ _ _ _ hs _ _ => hs)
    ⟨⟨hI0, hbx0⟩, hB0⟩
    (fun x => { tmps := #[.slice ao la ca, undef, .string ⟨#[]⟩, .pointer (some ⟨w.heap.size, 0, none⟩), undef, .string ⟨x.2.1.toArray⟩, .slice ao la ca, .func (.func 36) #[] #[.pointer (some ⟨w.heap.size + 1, 0, none⟩)], .int .i64 (x.1 : Int), .string ⟨x.2.1.toArray⟩, undef, undef, undef, undef, undef], defers := [] }) ?assign ?body ?done ?stop
  case assign =>
    intro l x W K hK
    gi_wp2
    exact hK
  case body =>
    rintro l pre x W ⟨⟨hI, hbx⟩, hB⟩ hlt
    have hx := x.2.2
    have h3 : 1 ≤ n - 1 - 1 := by omega
    have HL := Lib.hid (line_c W.heap.size 1 [x.2.1] (by simp; omega) (by simp) (by simp) (W.alloc (.cells #[.string ⟨x.2.1.toArray⟩] 9)) (fun j y hj => (cell_of_row _ _ j _ _ _ (heap_newH rfl)).trans (by
      cases j with
      | zero => simp at hj; subst hj; rfl
      | succ j => simp at hj)) (by simp))
    have hll : lineL [x.2.1] = x.2.1 ++ [10] := by simp [lineL]
    rw [hll] at HL
    have HWk := Lib.hid fun (V : World) (h : Lib.IsBuilderF tB 5 w.heap.size w.heap.size (Lib.byteCells (srcT pre)) V) (hV : w.heap.size ≤ V.heap.size) => write_k w.heap.size w.heap.size _ (sH (x.2.1 ++ [10])) V h (by
      rw [Lib.byteCells_length, sH_size, List.length_append]
      have := srcT_len pre
      simp; omega) hV
    have HI := Lib.hid hI
    have hBsz := hB.size
    have hlw := (Array.getElem?_eq_some_iff.1 hbx).1
    clear hll hI
    gi_wp2_with (first
      | (refine ⟨trivial, ?_⟩; gi_at_call 22; refine (CallsIn.inRound l (callsIn_wide.2 HL.out)).mono ?_; rintro e w1 ⟨rfl, hb1⟩; have hbW : Below W.heap.size W w1 := ((Below.refl W.heap.size W).alloc (Nat.le_refl _) _).trans (hb1.mono (by simp)))
      | (refine ⟨trivial, ?_⟩; gi_at_call 21; refine (CallsIn.inRound l (callsIn_wide.2 (HWk.out _ (isB_keepH HI.out hbW) (Nat.le_trans hBsz hbW.size)))).mono ?_; rintro e w2 ⟨rfl, ⟨hI2, hb2⟩, hk2⟩))
    have hkk : KeptB w.heap.size W w2 := keptB_t (keptB_below hbW) hk2
    have hbx2 := hkk (w.heap.size + 1) _ (by omega) hbx (fun cs f e => by cases e)
    have hBW2 : Below w.heap.size W w2 := (hbW.mono hBsz).trans hb2
    rw [cells_app, ← srcT_snoc] at hI2
    refine ⟨⟨hBW2.size, fun k o hk ho hc => hkk k o (by simp at hk; omega) ho (fun cs f e => by rw [e] at hc; cases hc)⟩, ⟨hBW2, fun v hv => ?_⟩, ⟨hI2, hbx2⟩, hB.trans hBW2⟩
    have e1 := (cell_of_row _ _ 0 _ _ _ hbx).trans rfl
    have e2 := (cell_of_row _ _ 0 _ _ _ hbx2).trans rfl
    rw [e1] at hv
    rw [e2]; exact hv
  case done =>
    rintro D ys W hD rfl ⟨⟨hI, hbx⟩, hB⟩ hK
    have HSt := Lib.hid (Tryd.Builder_String_any_k w.heap.size w.heap.size (srcT ys) W hI hB.size)
    clear hI
    gi_wp2_with (refine ⟨trivial, ?_⟩; gi_at_call 23; refine (callsIn_wide.2 HSt.out).mono ?_; rintro e w1 ⟨rfl, -, hb1, hk1⟩)
    have hK1 := hk1 D _ hK (fun e => by cases e; simp at hD; omega) (fun c fz e => by cases e)
    refine ⟨by simp, .inl ⟨_, _, rfl, run_takeDeferred hK1, ?_⟩⟩
    exact ⟨_, results_tmp rfl _ _ _, by rw [← hXS]; rfl, (hB.trans hb1).trans (belowK_b (w := w) (Nat.le_refl _) w1 D _ _ (by simp at hD; omega) hK1 rfl rfl)⟩
  case stop =>
    rintro D c pre W _ _ h _
    exact h.elim
end Go.Proofs.YtocgiapkapekdaaDoor
