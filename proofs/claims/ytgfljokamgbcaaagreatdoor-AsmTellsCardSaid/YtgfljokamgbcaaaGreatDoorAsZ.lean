/- What of asm's work abides its loop over the lines. -/
import Derived.Test.YtgfljokamgbcaaaGreatDoorAsY
namespace Go.Proofs.YtgfljokamgbcaaaGreatDoor
open Go.RowKit Go.Shelf
set_option linter.unusedSimpArgs false
set_option linter.unusedVariables false

theorem AsFix.setAgain {base wk pb ob : Nat} {again : Bool} {S : St} {pl : List (Wd × Int)} {vB vL vM : Value} {w : World} (h : AsFix base wk pb ob again S pl vB vL vM w) (b : Bool) : AsFix base wk pb ob b S pl vB vL vM (w.setCell ⟨wk, 1, none⟩ (.bool b)) := by
  have hne : ∀ {g : Nat} {o : Obj}, w.heap[g]? = some o → (∀ cur, o ≠ .cells cur 44 (0, 0)) → g ≠ wk := fun hc he hgk => by
    subst hgk
    rw [h.h] at hc
    exact he _ (Option.some.inj hc).symm
  obtain ⟨es, cl, hp⟩ := h.pm.heap
  obtain ⟨es2, cl2, ho⟩ := h.om.heap
  refine ⟨by rw [heap_setA h.h _ (by simp [wkA])]; simp [wkA], h.le, h.lp, h.lo, h.ne, own_keepA h.bs (fun g cur hc => Below.heap_setCell _ _ _ _ (hne hc (fun _ => cells_ne (by decide)))), own_keepA h.ls (fun g cur hc => Below.heap_setCell _ _ _ _ (hne hc (fun _ => cells_ne (by decide)))), own_keepA h.ms (fun g cur hc => Below.heap_setCell _ _ _ _ (hne hc (fun _ => cells_ne (by decide)))),
    h.pm.same (Below.heap_setCell _ _ _ _ (hne hp (fun _ e => by cases e))), h.om.same (Below.heap_setCell _ _ _ _ (hne ho (fun _ e => by cases e)))⟩

theorem outO_not {o : Obj} (h : ¬ OutO o) : o.isCells = true := by
  cases o <;> first | rfl | exact absurd trivial h
theorem AsOk.grownX {base wk pb ob again S} {w w' : World} {row : Option Nat} (h : AsOk base wk pb ob again S w) (hg : w.grownBy w' row) (hr : ∀ r, row = some r → base ≤ r ∧ r ≠ pb ∧ r ≠ ob ∧ ∃ o, w.heap[r]? = some o ∧ o.isCells = false) : AsOk base wk pb ob again S w' := by
  obtain ⟨vB, vL, vM, hF⟩ := h.is
  refine ⟨⟨vB, vL, vM, hF.same (fun g o hg' hx => (hg.block g (heap_ltA hg') (fun e => ?_)).trans hg')⟩, Nat.le_trans h.hs hg.size, h.a0, h.a1, h.bl, h.ml, h.lb, h.tab.on ((Below.refl _ _).grown hg h.hs (fun k hk => (hr k hk).1))⟩
  obtain ⟨-, h1, h2, o', h3, h4⟩ := hr g e.symm
  rcases hx with hx | hx | hx
  · rw [hg'] at h3
    cases h3
    rw [outO_not hx] at h4
    cases h4
  · exact h1 hx
  · exact h2 hx
theorem Fr.grownX {base pb : Nat} {w W W' : World} {row : Option Nat} (h : Fr base pb w W) (hg : W.grownBy W' row) (hr : ∀ r, row = some r → w.heap.size ≤ r) (hs : base ≤ w.heap.size) : Fr base pb w W' :=
  ⟨h.below.grown hg (Nat.le_trans hs h.size) (fun k hk => Nat.le_trans hs (hr k hk)), fun g o ho hO hne => (hg.block g (Nat.lt_of_lt_of_le (heap_ltA ho) h.size) (fun e => by have := hr g e.symm; have := heap_ltA ho; omega)).trans (h.out g o ho hO hne)⟩
theorem Fr.istep {Ts : List TypeId} {base pb : Nat} {w W W' : World} (h : Fr base pb w W) (hi : IStep Ts w.heap.size W W') (hs : base ≤ w.heap.size) : Fr base pb w W' := by
  rcases hi with hb | ⟨b, cur, T, v, h1, h2, h3, rfl⟩
  · exact h.trans (Fr.of_below hb (Nat.le_trans hs h.size))
  · exact h.setNew b 0 v h1 hs
theorem outO_ts {T : TypeId} {cs : Array Value} (h : T ∈ TsS) : OutO (.cells cs T (0, 0)) := by
  simp only [TsS, List.mem_cons, List.not_mem_nil, or_false] at h
  rcases h with rfl | rfl | rfl <;> simp [OutO]
theorem AsOk.istep {base wk pb ob again S B} {w w' : World} (h : AsOk base wk pb ob again S w) (hi : IStep TsS B w w') (hB : base ≤ B) : AsOk base wk pb ob again S w' := by
  rcases hi with hb | ⟨b, cur, T, v, h1, h2, h3, rfl⟩
  · exact h.below hb
  · exact h.setBox h3 (outO_ts h2) (Nat.le_trans hB h1) 0 v
theorem KpT.of_fr {base pb B : Nat} {W W' : World} {es cl} (h : Fr base pb W W') (hp : W.heap[pb]? = some (.map es cl)) : KpT TsS B W W' :=
  ⟨h.size, fun g cur T _ hT hg => h.out g _ hg (outO_ts hT) (fun e => by subst e; rw [hp] at hg; cases hg)⟩
theorem KeepsFrom.of_fr {base pb D : Nat} {W W' : World} (h : Fr base pb W W') (hp : pb < D) : KeepsFrom D W W' :=
  ⟨h.size, fun k o hk ho hc => h.out k o ho (by cases o <;> first | trivial | cases hc) (by omega)⟩
theorem AsOk.pm_heap {base wk pb ob again S w} (h : AsOk base wk pb ob again S w) : (∃ es cl, w.heap[pb]? = some (.map es cl)) ∧ pb < w.heap.size ∧ ob < w.heap.size := by
  obtain ⟨vB, vL, vM, hF⟩ := h.is
  exact ⟨hF.pm.heap, hF.pm.lt, hF.om.lt⟩
theorem AsOk.of {base wk pb ob again T k} {W : World} (h : AsIs base wk pb ob again T W) (hs : base ≤ W.heap.size) (ok : StOk T k) (hk : k ≤ 100000) (ht : Lib.TabBelow Tryz.prog base W "internal/strconv.uint64pow10" .u64 Lib.pow10Tab) : AsOk base wk pb ob again T W :=
  ⟨h, hs, ok.a0, ok.a1, ok.bl, Nat.le_trans ok.ml hk, ok.lb, ht⟩

/-- What a pass keeps. -/
def PassI (base wk pb ob : Nat) (again : Bool) (S0 : St) (K0 : Nat) (Wl : World) (pre : List LnE) (W : World) : Prop :=
  ∃ T, passF again S0 0 (pre.map LnE.ws) = .ok T ∧ StOk T (K0 + 2 * pre.length) ∧ AsOk base wk pb ob again T W ∧ Fr base pb Wl W
abbrev zPr : Array Value := #[.slice none 0 0, .slice none 0 0, .slice none 0 0]
structure PassE (base R bb yb : Nat) (again : Bool) (S0 : St) (Wl : World) (ln er : Int) (W : World) : Prop where
  bad : W.heap[bb]? = some (.cells #[.int .i64 ln] 3 (0, 0))
  why : W.heap[yb]? = some (.cells #[.int .i64 er] 28 (0, 0))
  res : W.heap[R]? = some (.cells zPr 27 (0, 0))
  below : Below base Wl W
  defs : ∀ D : Nat, Wl.heap[D]? = some (Obj.deferred (some [])) → W.heap[D]? = some (Obj.deferred (some []))
/-- .. and where a line is wrong. -/
def PassX (base R bb yb : Nat) (again : Bool) (S0 : St) (Wl : World) (c : Code) (pre : List LnE) (W : World) : Prop :=
  c = .exit 2 ∧ ∃ ln er, (∀ r, passF again S0 0 (pre.map LnE.ws ++ r) = .error (ln, er)) ∧ er ≠ 0 ∧ PassE base R bb yb again S0 Wl ln er W

theorem passI_own {base wk pb ob : Nat} {again : Bool} {S0 : St} {K0 : Nat} {Wl : World} (hs : base ≤ Wl.heap.size) (hpb : pb < Wl.heap.size) (hob : ob < Wl.heap.size) : OwnFrom Wl.heap.size (PassI base wk pb ob again S0 K0 Wl) := by
  rintro pre W W' row ⟨T, h1, h2, h3, h4⟩ hg hr
  exact ⟨T, h1, h2, h3.grownX hg (fun r e => by
    obtain ⟨q1, q2⟩ := hr r e
    exact ⟨by omega, by omega, by omega, q2⟩), h4.grownX hg (fun r e => (hr r e).1) hs⟩
theorem passI_stb {base wk pb ob : Nat} {again : Bool} {S0 : St} {K0 : Nat} {Wl : World} (hs : base ≤ Wl.heap.size) : Stb TsS Wl.heap.size (PassI base wk pb ob again S0 K0 Wl) := by
  rintro pre W W' ⟨T, h1, h2, h3, h4⟩ hi
  exact ⟨T, h1, h2, h3.istep hi hs, h4.istep hi hs⟩
theorem passX_own {base R bb yb : Nat} {again : Bool} {S0 : St} {Wl : World} (hs : base ≤ Wl.heap.size) (c : Code) : OwnFrom Wl.heap.size (PassX base R bb yb again S0 Wl c) := by
  rintro pre W W' row ⟨rfl, ln, er, h1, h2, h3⟩ hg hr
  refine ⟨rfl, ln, er, h1, h2, row_keptX h3.bad hg hr, row_keptX h3.why hg hr, row_keptX h3.res hg hr, h3.below.grown hg (Nat.le_trans hs h3.below.size) (fun k hk => Nat.le_trans hs (hr k hk).1), fun D hD => ?_⟩
  have hDl := heap_ltA hD
  exact (hg.block D (Nat.lt_of_lt_of_le hDl h3.below.size) (fun e => by have := (hr D e.symm).1; omega)).trans (h3.defs D hD)

/-- What Assemble hands back. -/
def AsmP (r : Except (Int × Int) St) (w : World) (e : Ending) (w' : World) : Prop := Below w.heap.size w w' ∧ match r with
  | .ok S => ∃ vB vL vM, e = .returned (.tuple #[.agg #[vB, vL, vM], .int .i64 0, .int .i64 0]) ∧ w'.ownsRow w.heap.size 5 1 vB S.bytes.length (S.bytes.map (Value.int .u8)) ∧ w'.ownsRow w.heap.size 61 2 vL S.labels.length (S.labels.flatMap labA) ∧ w'.ownsRow w.heap.size 63 2 vM S.marks.length (S.marks.flatMap mrkA)
  | .error (ln, er) => e = .returned (.tuple #[.agg zPr, .int .i64 ln, .int .i64 er])

/-- One line of a pass. -/
theorem pass_line {base wk pb ob : Nat} {again : Bool} {S0 T : St} {K0 : Nat} {Wl W : World} {pre : List LnE} {x : LnE} (h1 : passF again S0 0 (pre.map LnE.ws) = .ok T) (hn : x.n = (pre.length : Int) + 1) :
    (∀ U, doF again T x.n x.ws = .ok U → passF again S0 0 ((pre ++ [x]).map LnE.ws) = .ok U) ∧ ∀ er, doF again T x.n x.ws = .error er → ∀ r, passF again S0 0 ((pre ++ [x]).map LnE.ws ++ r) = .error (x.n, er) := by
  have hl : (0 : Int) + ((pre.map LnE.ws).length : Int) + 1 = x.n := by rw [hn]; simp
  constructor
  · intro U hU
    rw [List.map_append, List.map_cons, List.map_nil, passF_snoc, h1]
    simp only
    rw [hl, hU]
    rfl
  · intro er he r
    rw [List.map_append, List.map_cons, List.map_nil, List.append_assoc, List.singleton_append, passF_snoc, h1]
    simp only
    rw [hl, he]
end Go.Proofs.YtgfljokamgbcaaaGreatDoor
