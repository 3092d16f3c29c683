/- The walk of JudgeSelf. (Written by mkJSelf.py.) -/
import Derived.Test.YtjnakhejdpkfnaaDoorJudX
namespace Go.Proofs.YtjnakhejdpkfnaaDoor
open Go.RowKit
set_option linter.unusedSimpArgs false
set_option linter.unusedVariables false
set_option maxRecDepth 100000

theorem firstL_self {α : Type} [DecidableEq α] (l : List α) : firstL l l = -1 := firstL_none fun _ => rfl
theorem firstL_symm {α : Type} [DecidableEq α] (l m : List α) : firstL l m = firstL m l := by
  by_cases c : ∀ j : Nat, l[j]? = m[j]?
  · rw [firstL_none c, firstL_none fun j => (c j).symm]
  · obtain ⟨k, hk, hmin⟩ : ∃ k : Nat, l[k]? ≠ m[k]? ∧ ∀ j, j < k → l[j]? = m[j]? := by
      have hex : ∃ k : Nat, l[k]? ≠ m[k]? := Classical.not_forall.1 c
      obtain ⟨b, hb⟩ := hex
      have key : ∀ n : Nat, (∃ k : Nat, k < n ∧ l[k]? ≠ m[k]?) → ∃ k : Nat, l[k]? ≠ m[k]? ∧ ∀ j, j < k → l[j]? = m[j]? := by
        intro n
        induction n with
        | zero => rintro ⟨k, h, _⟩; omega
        | succ n ih =>
          rintro ⟨k, h1, h2⟩
          by_cases c2 : ∃ k : Nat, k < n ∧ l[k]? ≠ m[k]?
          · exact ih c2
          · refine ⟨k, h2, fun j hj => Classical.not_not.1 fun hne => c2 ⟨j, by omega, hne⟩⟩
      exact key (b + 1) ⟨b, by omega, hb⟩
    rw [firstL_at hmin hk, firstL_at (fun j hj => (hmin j hj).symm) (fun h => hk h.symm)]
theorem firstE_self (l : List (List Value)) : firstE l l = -1 := @firstL_self _ (Classical.typeDecidableEq _) l
theorem firstE_symm (l m : List (List Value)) : firstE l m = firstE m l := @firstL_symm _ (Classical.typeDecidableEq _) l m
theorem diffJ_self (x : Nat → Int) (h : Bool) (n : Nat) : diffJ x h x h n = [] := by
  unfold diffJ
  rw [List.filter_eq_nil_iff]
  intro k hk; simp
theorem diffJ_symm (x : Nat → Int) (h : Bool) (y : Nat → Int) (g : Bool) (n : Nat) : diffJ x h y g n = diffJ y g x h n := by
  unfold diffJ
  congr 1
  funext k
  exact bne_comm
theorem devNe_self (s : SvR) : devNe s s = false := by unfold devNe; simp
theorem devNe_symm (s r : SvR) : devNe s r = devNe r s := by
  unfold devNe
  simp only [eq_comm]
theorem dlJ_self (s : SvR) (x : Nat → Int) (h : Bool) : dlJ s s x h x h = [false, false, false, false, false, false, false, false, false, false] := by
  unfold dlJ
  rw [diffJ_self, firstL_self, firstL_self, firstL_self, firstL_self, firstE_self, firstE_self, devNe_self]
  simp
theorem dlJ_symm (s r : SvR) (x : Nat → Int) (h : Bool) (y : Nat → Int) (g : Bool) : dlJ s r x h y g = dlJ r s y g x h := by
  unfold dlJ
  rw [diffJ_symm, firstL_symm s.mem.L, firstL_symm s.out.L, firstL_symm s.disk.L, firstL_symm s.queue.L, firstE_symm s.notes.L, firstE_symm s.script.L, devNe_symm, bne_comm (a := s.fr), bne_comm (a := s.st)]

theorem sayS_ge (s x : ByteArray) : s.size ≤ (sayS s x).size := by
  unfold sayS
  split
  · rw [ByteArray.size_append]; omega
  · rw [ByteArray.size_append, ByteArray.size_append]; omega
theorem telling_none : ∀ (ns : List ByteArray) (ds : List Bool) (Xs : List (ByteArray → ByteArray)), selJ ns ds = [] → telling ns ds Xs = ⟨#[]⟩
  | n :: ns, d :: ds, X :: Xs, h => by
    simp only [selJ] at h
    cases d
    · simp only [telling]
      exact telling_none ns ds Xs (by simpa using h)
    · simp at h
  | [], _, _, _ => by simp [telling]
  | _ :: _, [], _, _ => by simp [telling]
  | _ :: _, _ :: _, [], _ => by simp [telling]
theorem telling_some : ∀ (ns : List ByteArray) (ds : List Bool) (Xs : List (ByteArray → ByteArray)), ns.length = Xs.length → (∀ n ∈ ns, 0 < n.size) → (∀ X ∈ Xs, ∀ t : ByteArray, t.size ≤ (X t).size) → selJ ns ds ≠ [] → 0 < (telling ns ds Xs).size
  | n :: ns, d :: ds, X :: Xs, hl, hn, hX, h => by
    simp only [selJ] at h
    cases d
    · simp only [telling]
      exact telling_some ns ds Xs (by simpa using hl) (fun m hm => hn m (List.mem_cons_of_mem _ hm)) (fun Y hY => hX Y (List.mem_cons_of_mem _ hY)) (by simpa using h)
    · simp only [telling]
      have h1 := hn n List.mem_cons_self
      have h2 := hX X List.mem_cons_self n
      simp only [if_true]
      omega
  | [], _, _, _, _, _, h => by simp [selJ] at h
  | _ :: _, [], _, _, _, _, h => by simp [selJ] at h
  | _ :: _, _ :: _, [], hl, _, _, _ => by simp at hl
theorem tlsJ_ge (s r : SvR) (x : Nat → Int) (h : Bool) (y : Nat → Int) (g : Bool) : ∀ X ∈ tlsJ s r x h y g, ∀ t : ByteArray, t.size ≤ (X t).size := by
  intro X hX t
  have tn : ∀ a b, t.size ≤ (tnJ a b t).size := fun a b => sayS_ge _ _
  have tl : ∀ n, t.size ≤ (tlJ n t).size := fun n => Nat.le_trans (sayS_ge _ _) (sayS_ge _ _)
  have tb : ∀ n L M, t.size ≤ (tbJ n L M t).size := fun n L M => Nat.le_trans (Nat.le_trans (sayS_ge _ _) (sayS_ge _ _)) (sayS_ge _ _)
  simp only [tlsJ, List.mem_cons, List.not_mem_nil, or_false] at hX
  rcases hX with rfl | rfl | rfl | rfl | rfl | rfl | rfl | rfl | rfl | rfl
  · exact tn _ _
  · exact tn _ _
  · exact Nat.le_trans (sayS_ge _ _) (sayS_ge _ _)
  · exact tb _ _ _
  · exact tl _
  · exact tb _ _ _
  · exact tb _ _ _
  · exact tb _ _ _
  · exact tl _
  · exact Nat.le_refl _
theorem nmJ_pos : ∀ n ∈ nmJ, 0 < n.size := by
  intro n hn
  simp only [nmJ, List.mem_cons, List.not_mem_nil, or_false] at hn
  rcases hn with rfl | rfl | rfl | rfl | rfl | rfl | rfl | rfl | rfl | rfl <;> decide
theorem empty_of_size {T : ByteArray} (h : 0 < T.size) : T.toList.isEmpty = false := by
  rw [ByteArray.toList_eq]
  cases e : T.data.toList
  · have := congrArg List.length e
    simp at this
    have h' : 0 < T.data.size := h
    rw [this] at h'; simp at h'
  · rfl

theorem row_at {w w1 : World} {v : Value} {B n : Nat} {e : TypeId} {L : List ByteArray} (h : w1.ownsRow B e 1 v n (L.map Value.string)) (hn : n = L.length) :
    ∃ ao cap, v = .slice ao n cap ∧ ∀ k nm, L[k]? = some nm → ∃ g, ao = some ⟨g, 0, none⟩ ∧ ∀ W, Below w1.heap.size w1 W → W.cell? ⟨g, k, none⟩ = some (.string nm) := by
  obtain ⟨ao, cap, hv, hc⟩ := own_slice h
  refine ⟨ao, cap, hv, fun k nm hk => ?_⟩
  have hlt : k < L.length := (List.getElem?_eq_some_iff.1 hk).1
  rcases hc with h0 | ⟨g, hg, hgl, hc⟩
  · omega
  · refine ⟨g, hg, fun W hW => (hW.cell (p := ⟨g, k, none⟩) hgl).trans ((hc k (by omega)).trans ?_)⟩
    rw [List.getElem?_map, hk]; rfl

theorem load_rowGJ {P : Program} {ops : Array Oper} {rest : List Oper} {o : Oper} {a : Act} {w : World} {Q : Exit → Act → World → Prop} (hw : Region.wanted o (yielded ops a.tmps) = true) (ty : TypeId) (x : Operand) (ho : o.op = .load ty x)
    (g : Nat) (hx : a.eval x = .pointer (some ⟨g, 0, none⟩)) (t : TypeId) (cs : Array Value) (fr : Nat × Nat) (d : TypeDesc) (hg : w.heap[g]? = some (.cells cs t fr))
    (hu : P.underlying ty = some d) (hd : (match d with | .struct _ | .array _ _ => true | _ => false) = true) (hi : (P.info? ty).map (·.size) = some cs.size)
    (h : wpList P ops Q rest (a.put o.dst (.agg cs)) w) : wpList P ops Q (o :: rest) a w := by
  unfold wpList
  rw [if_pos hw]
  exact .inl (wp_load_row ty x ho g hx t cs fr d hg hu hd hi h)

set_option maxHeartbeats 16000000 in
theorem self_in (A B : Array Value) (s r : SvR) (hA : SvAt A s) (hB : SvAt B r) (x : Nat → Int) (h : Bool) (y : Nat → Int) (g : Bool) (w : World) (hs : GsOk s x h w) (hr : GsOk r y g w) (HT : Hid (pTab w)) :
    Calls Tryd.prog 8 #[.agg A, .agg B] w fun e w' => e = .returned (.bool true) ∧ Below w.heap.size w w' := by
  have hzA : A.size = 35 := hA.size
  have hzB : B.size = 35 := hB.size
  have Z1 := Lib.hid hzA
  have Z2 := Lib.hid hzB
  have HTaa := Lib.hid fun (W : World) (hb : Below w.heap.size w W) => tellG_c A A s s hA hA x h x h W (hs.below hb) (hs.below hb) (pTab_on HT hb)
  have HPaa := Lib.hid fun (W : World) (hb : Below w.heap.size w W) => Parts_c A A s s hA hA x h x h W (hs.below hb) (hs.below hb) (pTab_on HT hb)
  have HPab := Lib.hid fun (W : World) (hb : Below w.heap.size w W) => Parts_c A B s r hA hB x h y g W (hs.below hb) (hr.below hb) (pTab_on HT hb)
  have HPba := Lib.hid fun (W : World) (hb : Below w.heap.size w W) => Parts_c B A r s hB hA y g x h W (hr.below hb) (hs.below hb) (pTab_on HT hb)
  have HTab := Lib.hid fun (W : World) (hb : Below w.heap.size w W) => tellG_c A B s r hA hB x h y g W (hs.below hb) (hr.below hb) (pTab_on HT hb)
  have HW := Lib.hid fun (W : World) (hb : Below w.heap.size w W) => works_c W (pTab_on HT hb)
  rw [dlJ_self, telling_none _ _ _ (by rfl)] at HTaa
  rw [dlJ_self, show selJ nmJ [false, false, false, false, false, false, false, false, false, false] = [] from rfl] at HPaa
  rw [← dlJ_symm] at HPba
  have hE : selJ nmJ (dlJ s r x h y g) = [] → telling nmJ (dlJ s r x h y g) (tlsJ s r x h y g) = ⟨#[]⟩ := telling_none _ _ _
  have hNE : selJ nmJ (dlJ s r x h y g) ≠ [] → 0 < (telling nmJ (dlJ s r x h y g) (tlsJ s r x h y g)).size := telling_some _ _ _ rfl nmJ_pos (tlsJ_ge s r x h y g)
  have hl10 : (selJ nmJ (dlJ s r x h y g)).length ≤ 10 := selJ_len nmJ _
  generalize telling nmJ (dlJ s r x h y g) (tlsJ s r x h y g) = T at HTab hE hNE
  generalize selJ nmJ (dlJ s r x h y g) = L at HPab HPba hE hNE hl10
  have hE' := Lib.hid hE
  have hNE' := Lib.hid hNE
  clear hs hr hA hB hE hNE HT
  have HI : Hid (PrS w A B ((w.alloc (.cells A 30)).alloc (.cells B 30))) :=
    Lib.hid ⟨heap_old' (heap_new' rfl), heap_new' (by simp), (below_alloc1 w _).alloc (by simp) _, by simp⟩
  go_enter Tryd.func8, Tryd.ntmps8
  go_wp2_with (first
    | ((with_reducible show wpList _ _ _ (Oper.mk _ (.load 30 _) _ _ _ _ :: _) _ _); refine load_rowGJ (by rfl) 30 _ rfl _ rfl 30 _ (0, 0) _ (by first | exact HI.out.a | exact HI.out.b) Tryd.underlying30 rfl (by first | (rw [Z1.out]; kernel_rfl) | (rw [Z2.out]; kernel_rfl)) ?_))
  refine (HTaa.out _ HI.out.below).mono ?_
  rintro e w1 ⟨rfl, hb1⟩
  replace HI := Lib.hid (HI.out.next hb1)
  go_wp2_with (first
    | ((with_reducible show wpList _ _ _ (Oper.mk _ (.load 30 _) _ _ _ _ :: _) _ _); refine load_rowGJ (by rfl) 30 _ rfl _ rfl 30 _ (0, 0) _ (by first | exact HI.out.a | exact HI.out.b) Tryd.underlying30 rfl (by first | (rw [Z1.out]; kernel_rfl) | (rw [Z2.out]; kernel_rfl)) ?_))
  refine (HPaa.out _ HI.out.below).mono ?_
  rintro e w2 ⟨v2, rfl, ov2, hb2⟩
  obtain ⟨ao2, cap2, rfl, -⟩ := own_slice ov2
  replace HI := Lib.hid (HI.out.next hb2)
  clear ov2 HTaa HPaa
  go_wp2_with (first
    | ((with_reducible show wpList _ _ _ (Oper.mk _ (.load 30 _) _ _ _ _ :: _) _ _); refine load_rowGJ (by rfl) 30 _ rfl _ rfl 30 _ (0, 0) _ (by first | exact HI.out.a | exact HI.out.b) Tryd.underlying30 rfl (by first | (rw [Z1.out]; kernel_rfl) | (rw [Z2.out]; kernel_rfl)) ?_))
  refine wp_region_held_drew (S := fun w' => PrS w A B w') (by kernel_rfl) (HI.out.next (Below.refl _ _).drew) (fun hHeld => ?_)
  clear HI
  refine wpAnyH_take (i := 0) (oi := { dst := some 19, op := Op.load _ (Operand.tmp 2), type := _, pos := "law.go:58", after := #[], guard := none }) (v := .agg A) rfl (by kernel_rfl) (by kernel_rfl) (by kernel_rfl) (fun _ _ _ h => h) (yieldsIf_load_mid (by rfl) _ _ rfl _ 0 rfl A.toList _ (fun w' hSw => range_of_row hSw.a _ (fun j v hv => by simpa using hv)) Tryd.underlying30 rfl (by rw [Array.length_toList, hzA]; kernel_rfl)) hHeld ?_
  try simp only [Act.put, List.setIfInBounds_toArray, List.set_cons_zero, List.set_cons_succ]
  refine wpAnyH_take (i := 1) (oi := { dst := some 20, op := Op.load _ (Operand.tmp 3), type := _, pos := "law.go:58", after := #[], guard := none }) (v := .agg B) rfl (by kernel_rfl) (by kernel_rfl) (by kernel_rfl) (fun _ _ _ h => h) (yieldsIf_load_mid (by rfl) _ _ rfl _ 0 rfl B.toList _ (fun w' hSw => range_of_row hSw.b _ (fun j v hv => by simpa using hv)) Tryd.underlying30 rfl (by rw [Array.length_toList, hzB]; kernel_rfl)) hHeld ?_
  try simp only [Act.put, List.setIfInBounds_toArray, List.set_cons_zero, List.set_cons_succ]
  refine wpAnyH_take (i := 3) (oi := { dst := some 22, op := Op.load _ (Operand.tmp 3), type := _, pos := "law.go:58", after := #[], guard := none }) (v := .agg B) rfl (by kernel_rfl) (by kernel_rfl) (by kernel_rfl) (fun _ _ _ h => h) (yieldsIf_load_mid (by rfl) _ _ rfl _ 0 rfl B.toList _ (fun w' hSw => range_of_row hSw.b _ (fun j v hv => by simpa using hv)) Tryd.underlying30 rfl (by rw [Array.length_toList, hzB]; kernel_rfl)) hHeld ?_
  try simp only [Act.put, List.setIfInBounds_toArray, List.set_cons_zero, List.set_cons_succ]
  refine wpAnyH_take (i := 4) (oi := { dst := some 23, op := Op.load _ (Operand.tmp 2), type := _, pos := "law.go:58", after := #[], guard := none }) (v := .agg A) rfl (by kernel_rfl) (by kernel_rfl) (by kernel_rfl) (fun _ _ _ h => h) (yieldsIf_load_mid (by rfl) _ _ rfl _ 0 rfl A.toList _ (fun w' hSw => range_of_row hSw.a _ (fun j v hv => by simpa using hv)) Tryd.underlying30 rfl (by rw [Array.length_toList, hzA]; kernel_rfl)) hHeld ?_
  try simp only [Act.put, List.setIfInBounds_toArray, List.set_cons_zero, List.set_cons_succ]
  refine wpAnyH_ready (rs := [2]) (by kernel_rfl) (by simp) ?_
  refine AllReadyH.cons (o := { dst := some 21, op := Op.call { callee := Callee.value (Operand.func _), args := #[Operand.tmp 19, Operand.tmp 20], argTypes := _ }, type := _, pos := "law.go:58", after := #[{ on := 0, ground := Ground.data }, { on := 1, ground := Ground.data }], guard := none }) rfl (fun K hK => ?_) AllReadyH.nil
  go_simp
  go_at_call 19
  refine (HPab.out _ hHeld.below).mono ?_
  rintro e w3 ⟨v5, rfl, ov5, hb3⟩
  refine hK.out _ _ (hHeld.next hb3) (fun hHeld => ?_)
  clear hK K
  try simp only [Act.put, List.setIfInBounds_toArray, List.set_cons_zero, List.set_cons_succ]
  refine wpAnyH_ready (rs := [5]) (by kernel_rfl) (by simp) ?_
  refine AllReadyH.cons (o := { dst := some 24, op := Op.call { callee := Callee.value (Operand.func _), args := #[Operand.tmp 22, Operand.tmp 23], argTypes := _ }, type := _, pos := "law.go:58", after := #[{ on := 3, ground := Ground.data }, { on := 4, ground := Ground.data }, { on := 2, ground := Ground.chain }], guard := none }) rfl (fun K hK => ?_) AllReadyH.nil
  go_simp
  go_at_call 19
  refine (HPba.out _ hHeld.below).mono ?_
  rintro e w4 ⟨v6, rfl, ov6, hb4⟩
  refine hK.out _ _ (hHeld.next hb4) (fun hHeld => ?_)
  clear hK K
  try simp only [Act.put, List.setIfInBounds_toArray, List.set_cons_zero, List.set_cons_succ]
  refine wpAnyH_take (i := 6) (oi := { dst := some 5, op := Op.assign (Operand.tmp 21), type := _, pos := "law.go:58", after := #[{ on := 2, ground := Ground.data }, { on := 5, ground := Ground.chain }, { on := 0, ground := Ground.phase }, { on := 1, ground := Ground.phase }, { on := 2, ground := Ground.phase }, { on := 3, ground := Ground.textOnly Departure.lateStores }, { on := 4, ground := Ground.textOnly Departure.lateStores }, { on := 5, ground := Ground.textOnly Departure.lateStoresUnsure }], guard := none }) (v := v5) rfl (by kernel_rfl) (by kernel_rfl) (by kernel_rfl) (fun _ _ _ h => h) (Or.inl ⟨by rfl, ?_⟩) hHeld ?_
  · intro w' hSw
    skip
    go_simp
  try simp only [Act.put, List.setIfInBounds_toArray, List.set_cons_zero, List.set_cons_succ]
  refine wpAnyH_take (i := 7) (oi := { dst := some 6, op := Op.assign (Operand.tmp 24), type := _, pos := "law.go:58", after := #[{ on := 5, ground := Ground.data }, { on := 6, ground := Ground.chain }, { on := 0, ground := Ground.phase }, { on := 1, ground := Ground.phase }, { on := 2, ground := Ground.phase }, { on := 3, ground := Ground.phase }, { on := 4, ground := Ground.phase }, { on := 5, ground := Ground.phase }, { on := 6, ground := Ground.phase }], guard := none }) (v := v6) rfl (by kernel_rfl) (by kernel_rfl) (by kernel_rfl) (fun _ _ _ h => h) (Or.inl ⟨by rfl, ?_⟩) hHeld ?_
  · intro w' hSw
    skip
    go_simp
  try simp only [Act.put, List.setIfInBounds_toArray, List.set_cons_zero, List.set_cons_succ]
  refine wpAnyH_done (by kernel_rfl) ?_ _
  have HI := Lib.hid hHeld
  clear hHeld HPab HPba
  obtain ⟨ao5, cap5, rfl, hc5⟩ := row_at (w := w) ov5 rfl
  obtain ⟨ao6, cap6, rfl, hc6⟩ := row_at (w := w) ov6 rfl
  clear ov5 ov6
  have HC5 := Lib.hid hc5
  have HC6 := Lib.hid hc6
  have HB4 := Lib.hid hb4
  clear hc5 hc6
  have fin : ∀ W4, PrS w A B W4 → Below w4.heap.size w4 W4 → True := fun _ _ _ => trivial
  by_cases c0 : L = []
  · have eT := hE'.out c0
    subst eT
    have hL0 : L.length = 0 := by rw [c0]; rfl
    go_wp2_with (first
    | ((with_reducible show wpList _ _ _ (Oper.mk _ (.load 30 _) _ _ _ _ :: _) _ _); refine load_rowGJ (by rfl) 30 _ rfl _ rfl 30 _ (0, 0) _ (by first | exact HI.out.a | exact HI.out.b) Tryd.underlying30 rfl (by first | (rw [Z1.out]; kernel_rfl) | (rw [Z2.out]; kernel_rfl)) ?_))
    refine (HTab.out _ HI.out.below).mono ?_
    rintro e w5 ⟨rfl, hb5⟩
    have HI := Lib.hid (HI.out.next hb5)
    go_wp2_with fail
    go_loopg [7] 0 (fun gk vk wr => gk = 0 ∧ vk = .int .i64 0 ∧ wr = w5)
    case atStart => exact ⟨rfl, rfl, rfl⟩
    case round =>
      obtain ⟨rfl, rfl, rfl⟩ := hrel
      go_wp2_with fail
      refine (HW.out _ HI.out.below).mono ?_
      rintro e w6 ⟨rfl, hb6⟩
      go_wp2_with fail
      go_ret
      exact ⟨rfl, below_nextJ HI.out.below hb6⟩
  · have hT := empty_of_size (hNE'.out c0)
    have hL0 : 0 < L.length := List.length_pos_iff.2 c0
    have i0 : ((L.length : Int) == 0) = false := by simp; omega
    go_wp2_with (first
    | ((with_reducible show wpList _ _ _ (Oper.mk _ (.load 30 _) _ _ _ _ :: _) _ _); refine load_rowGJ (by rfl) 30 _ rfl _ rfl 30 _ (0, 0) _ (by first | exact HI.out.a | exact HI.out.b) Tryd.underlying30 rfl (by first | (rw [Z1.out]; kernel_rfl) | (rw [Z2.out]; kernel_rfl)) ?_))
    refine (HTab.out _ HI.out.below).mono ?_
    rintro e w5 ⟨rfl, hb5⟩
    have HI := Lib.hid (HI.out.next hb5)
    have HB5 := Lib.hid (HB4.out.trans (hb5.mono HB4.out.size))
    go_wp2_with fail
    go_loopg [7] L.length (fun gk vk wr => ∃ k : Nat, gk + k = L.length ∧ vk = .int .i64 (k : Int) ∧ Below w5.heap.size w5 wr)
    case atStart => exact ⟨0, by omega, rfl, Below.refl _ _⟩
    case round =>
      obtain ⟨k, hk, rfl, hB⟩ := hrel
      by_cases c1 : k < L.length
      · have i1 : (k : Int) < (L.length : Int) := by omega
        have hnm : L[k]? = some L[k] := List.getElem?_eq_getElem c1
        obtain ⟨g5, rfl, x5⟩ := HC5.out k _ hnm
        obtain ⟨g6, rfl, x6⟩ := HC6.out k _ hnm
        have hB5 : Below w3.heap.size w3 wr := HB5.out.trans (hB.mono (Nat.le_trans HB4.out.size hb5.size))
        have k5 := x5 wr hB5
        have k6 := x6 wr (hb5.trans (hB.mono hb5.size))
        clear hnm x5 x6
        generalize L[k] = nm at k5 k6
        go_wp2_with fail
        go_quiet (fail)
        go_wp2_with fail
        go_roundg (gk - 1)
        case measure => omega
        case rel => exact ⟨k + 1, by omega, by go_num, below_drewN hB _⟩
      · have i1 : ¬ (k : Int) < (L.length : Int) := by omega
        have hBw := below_nextJ HI.out.below hB
        go_wp2_with fail
        refine (HW.out _ hBw).mono ?_
        rintro e w6 ⟨rfl, hb6⟩
        go_wp2_with fail
        go_ret
        exact ⟨rfl, below_nextJ hBw hb6⟩

theorem self_walk (A : Array Value) (s : SvR) (hA : SvAt A s) (B : Array Value) (r : SvR) (hB : SvAt B r) (w : World) (HT : Hid (pTab w)) (hs : SvOk s w) (hr : SvOk r w) :
    Calls Tryd.prog 8 #[.agg A, .agg B] w fun e w' => e = .returned (.bool true) ∧ Below w.heap.size w w' := by
  obtain ⟨x, h, hS, hx⟩ := st_form s.S hs.S hs.Sok
  obtain ⟨y, g, hR, hy⟩ := st_form r.S hr.S hr.Sok
  exact self_in A B s r hA hB x h y g w ⟨hs, hS, hx⟩ ⟨hr, hR, hy⟩ HT
end Go.Proofs.YtjnakhejdpkfnaaDoor
