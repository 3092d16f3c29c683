/- The document's Tell, and the walk of JudgeParts. (Written by mkJZB.py.) -/
import Derived.Test.YtjnakhejdpkfnaaDoorJudZ
namespace Go.Proofs.YtjnakhejdpkfnaaDoor
open Go.RowKit
set_option linter.unusedSimpArgs false
set_option linter.unusedVariables false
set_option maxRecDepth 100000

def rtellJ : List ByteArray → List Bool → List ByteArray → ByteArray
  | n :: ns, d :: ds, t :: ts => if d = true then n ++ t else rtellJ ns ds ts
  | _, _, _ => ⟨#[]⟩
theorem rtell_step {ns : List ByteArray} {ds : List Bool} {ts : List ByteArray} {k : Nat} {n t : ByteArray} {d : Bool} (h1 : ns[k]? = some n) (h2 : ds[k]? = some d) (h3 : ts[k]? = some t) :
    rtellJ (ns.drop k) (ds.drop k) (ts.drop k) = if d = true then n ++ t else rtellJ (ns.drop (k + 1)) (ds.drop (k + 1)) (ts.drop (k + 1)) := by
  obtain ⟨a1, rfl⟩ := List.getElem?_eq_some_iff.1 h1
  obtain ⟨a2, rfl⟩ := List.getElem?_eq_some_iff.1 h2
  obtain ⟨a3, rfl⟩ := List.getElem?_eq_some_iff.1 h3
  rw [List.drop_eq_getElem_cons a1, List.drop_eq_getElem_cons a2, List.drop_eq_getElem_cons a3]
  rfl
theorem telling_eq : ∀ (ns : List ByteArray) (ds : List Bool) (Xs : List (ByteArray → ByteArray)) (ts : List ByteArray),
    (∀ (k : Nat) (n : ByteArray) (X : ByteArray → ByteArray) (t : ByteArray), ns[k]? = some n → ds[k]? = some true → Xs[k]? = some X → ts[k]? = some t → X n = n ++ t) → ns.length = Xs.length → ns.length = ts.length → telling ns ds Xs = rtellJ ns ds ts
  | n :: ns, d :: ds, X :: Xs, t :: ts, H, h1, h2 => by
    simp only [telling, rtellJ]
    cases d
    · simp only [Bool.false_eq_true, if_false]
      exact telling_eq ns ds Xs ts (fun k n X t a b c e => H (k + 1) n X t (by simpa using a) (by simpa using b) (by simpa using c) (by simpa using e)) (by simpa using h1) (by simpa using h2)
    · simp only [if_true]
      exact H 0 n X t rfl rfl rfl rfl
  | [], _, _, _, _, _, _ => by simp [telling, rtellJ]
  | _ :: _, [], _, _, _, _, _ => by simp [telling, rtellJ]
  | _ :: _, _ :: _, [], _, _, h1, _ => by simp at h1
  | _ :: _, _ :: _, _ :: _, [], _, _, h2 => by simp at h2
theorem sel_at {ns : List ByteArray} {ds : List Bool} {k : Nat} {n : ByteArray} (hl : ns.length = ds.length) (h1 : ns[k]? = some n) (h2 : ds[k]? = some true) : (selJ ns ds)[(selJ (ns.take k) (ds.take k)).length]? = some n := by
  obtain ⟨a1, rfl⟩ := List.getElem?_eq_some_iff.1 h1
  obtain ⟨a2, e2⟩ := List.getElem?_eq_some_iff.1 h2
  have e : selJ ns ds = selJ (ns.take k) (ds.take k) ++ selJ (ns.drop k) (ds.drop k) := by
    rw [← selJ_app _ _ _ _ (by simp; omega), List.take_append_drop, List.take_append_drop]
  rw [e, List.getElem?_append_right (Nat.le_refl _), Nat.sub_self, List.drop_eq_getElem_cons a1, List.drop_eq_getElem_cons a2, e2]
  rfl
theorem sel_step {ns : List ByteArray} {ds : List Bool} {k : Nat} {n : ByteArray} {d : Bool} (hl : ns.length = ds.length) (h1 : ns[k]? = some n) (h2 : ds[k]? = some d) : (selJ (ns.take (k + 1)) (ds.take (k + 1))).length = (selJ (ns.take k) (ds.take k)).length + if d = true then 1 else 0 := by
  obtain ⟨a1, rfl⟩ := List.getElem?_eq_some_iff.1 h1
  obtain ⟨a2, rfl⟩ := List.getElem?_eq_some_iff.1 h2
  rw [List.take_succ_eq_append_getElem a1, List.take_succ_eq_append_getElem a2, selJ_app _ _ _ _ (by simp; omega), List.length_append]
  generalize ds[k] = d
  cases d <;> rfl

theorem sayS_ne {s x : ByteArray} (h : 0 < s.size) : sayS s x = s ++ ⟨#[32]⟩ ++ x := by
  unfold sayS
  rw [if_neg]
  intro h0
  have := empty_of_size h
  rw [h0] at this
  simp at this
theorem ba_ext {x y : ByteArray} (h : x.data.toList = y.data.toList) : x = y := by
  cases x; cases y
  simp only [ByteArray.mk.injEq]
  exact Array.toList_inj.1 h
theorem tn_eq {n : ByteArray} (h : 0 < n.size) (a b : Int) : tnJ a b n = n ++ rnS a b := by
  unfold tnJ rnS bothS
  rw [sayS_ne h]
  exact ba_ext (by simp)
theorem tl_eq {n : ByteArray} (h : 0 < n.size) (a : Int) : tlJ a n = n ++ rlS a := by
  unfold tlJ rlS
  rw [sayS_ne (Nat.lt_of_lt_of_le h (sayS_ge _ _)), sayS_ne h]
  exact ba_ext (by simp)
theorem tb_eq {n : ByteArray} (h : 0 < n.size) {a : Int} (ha : 0 ≤ a) (L M : List Int) : tbJ a L M n = n ++ rbS a.toNat L M := by
  obtain ⟨m, rfl⟩ : ∃ m : Nat, a = (m : Int) := ⟨a.toNat, by omega⟩
  unfold tbJ rbS bothS
  rw [sayS_ne (Nat.lt_of_lt_of_le h (Nat.le_trans (sayS_ge _ _) (sayS_ge _ _))), sayS_ne (Nat.lt_of_lt_of_le h (sayS_ge _ _)), sayS_ne h]
  exact ba_ext (by simp)
theorem ts_eq {n : ByteArray} (h : 0 < n.size) (x : Nat → Int) (f : Bool) (y : Nat → Int) (g : Bool) (k : Nat) : tsJ x f y g k n = n ++ rsS x f y g k := by
  unfold tsJ rsS
  rw [sayS_ne (Nat.lt_of_lt_of_le h (sayS_ge _ _)), sayS_ne h]
  exact ba_ext (by simp)
theorem tell_same (s r : SvR) (x : Nat → Int) (h : Bool) (y : Nat → Int) (g : Bool) : telling nmJ (dlJ s r x h y g) (tlsJ s r x h y g) = rtellJ nmJ (dlJ s r x h y g) (restsJ s r x h y g) := by
  refine telling_eq _ _ _ _ ?_ rfl rfl
  intro k n X t h1 h2 h3 h4
  have hk : k < 10 := (List.getElem?_eq_some_iff.1 h2).1
  have hn := nmJ_pos n (List.mem_of_getElem? h1)
  rcases (by omega : k = 0 ∨ k = 1 ∨ k = 2 ∨ k = 3 ∨ k = 4 ∨ k = 5 ∨ k = 6 ∨ k = 7 ∨ k = 8 ∨ k = 9) with rfl | rfl | rfl | rfl | rfl | rfl | rfl | rfl | rfl | rfl <;> simp only [tlsJ, restsJ, dlJ, List.getElem?_cons_zero, List.getElem?_cons_succ, Option.some.injEq] at h2 h3 h4 <;> subst h3 h4
  · exact tn_eq hn _ _
  · exact tn_eq hn _ _
  · exact ts_eq hn _ _ _ _ _
  · exact tb_eq hn (by simpa using h2) _ _
  · exact tl_eq hn _
  · exact tb_eq hn (by simpa using h2) _ _
  · exact tb_eq hn (by simpa using h2) _ _
  · exact tb_eq hn (by simpa using h2) _ _
  · exact tl_eq hn _
  · exact ba_ext (by simp)

theorem rests_size {s r : SvR} {x : Nat → Int} {h : Bool} {y : Nat → Int} {g : Bool} {w : World} (hs : GsOk s x h w) (hr : GsOk r y g w) : ∀ t ∈ restsJ s r x h y g, t.size ≤ 100 := by
  intro t ht
  have nz : ∀ n : Int, -9223372036854775808 ≤ n → n ≤ 9223372036854775807 → (numS n).size ≤ 20 := fun n a b => numS_size n a b
  have rn : ∀ a b : Int, (numS a).size ≤ 20 → (numS b).size ≤ 20 → (rnS a b).size ≤ 100 := fun a b ha hb => Nat.le_trans (sz_add (sz_add (sz_add (m := 1) (n := 20) (Nat.le_refl _) ha) (n := 2) (Nat.le_refl _)) hb) (by omega)
  have rl : ∀ a : Int, (numS a).size ≤ 20 → (rlS a).size ≤ 100 := fun a ha => Nat.le_trans (sz_add (m := 4) (n := 20) (Nat.le_refl _) ha) (by omega)
  have rb : ∀ (a b : BSl), a.ok w → b.ok w → (rbS (firstL a.L b.L).toNat a.L b.L).size ≤ 100 := fun a b ha hb => by
    have h1 := (firstL_bd a.L b.L).2
    have e1 : a.L.length = a.len := ha.1
    have e2 : b.L.length = b.len := hb.1
    have := ha.2.1; have := ha.2.2.1; have := hb.2.1; have := hb.2.2.1
    exact Nat.le_trans (sz_add (sz_add (sz_add (sz_add (sz_add (m := 4) (n := 20) (Nat.le_refl _) (nz _ (by omega) (by omega))) (n := 1) (Nat.le_refl _)) (atS_size a.L _ ha.2.2.2.1)) (n := 2) (Nat.le_refl _)) (atS_size b.L _ hb.2.2.2.1)) (by omega)
  have re : ∀ (a b : ESl) (k1 k2 : List CK), a.ok k1 w → b.ok k2 w → (rlS (firstE a.L b.L)).size ≤ 100 := fun a b k1 k2 ha hb => by
    have h1 := (firstE_bd a.L b.L)
    have e1 : a.L.length = a.len := ha.1
    have e2 : b.L.length = b.len := hb.1
    have := ha.2.1; have := ha.2.2.1; have := hb.2.1; have := hb.2.2.1
    exact rl _ (nz _ (by omega) (by omega))
  have rs : (rsS x h y g ((diffJ x h y g 19).headD 0)).size ≤ 100 := by
    have hk : (diffJ x h y g 19).headD 0 < 19 := by
      have hm : ∀ k ∈ diffJ x h y g 19, k < 19 := fun k hk => by
        unfold diffJ at hk
        simpa using (List.mem_filter.1 hk).1
      generalize diffJ x h y g 19 = D at hm
      cases D
      · simp
      · simpa using hm _ List.mem_cons_self
    generalize (diffJ x h y g 19).headD 0 = k at hk
    have hv : ∀ (x : Nat → Int) (h : Bool), (∀ k, 0 ≤ x k ∧ x k < 4294967296) → (numS (valJ x h k)).size ≤ 20 := fun x h hx => by
      have : 0 ≤ valJ x h k ∧ valJ x h k < 4294967296 := by
        unfold valJ
        split
        · exact hx k
        · split <;> omega
      exact nz _ (by omega) (by omega)
    have zn : (⟨(nameJ k).toArray⟩ : ByteArray).size ≤ 22 := by have := nameJ_size k hk; show ((nameJ k).toArray).size ≤ 22; simpa using this
    exact Nat.le_trans (sz_add (sz_add (sz_add (m := 1) (Nat.le_refl _) zn) (n := 1) (Nat.le_refl _)) (bothS_size (hv x h hs.x) (hv y g hr.x))) (by omega)
  have os := hs.ok
  have or' := hr.ok
  simp only [restsJ, List.mem_cons, List.not_mem_nil, or_false] at ht
  rcases ht with rfl | rfl | rfl | rfl | rfl | rfl | rfl | rfl | rfl | rfl
  · exact rn _ _ (nz _ os.fr0 os.fr1) (nz _ or'.fr0 or'.fr1)
  · exact rn _ _ (nz _ os.st0 os.st1) (nz _ or'.st0 or'.st1)
  · exact rs
  · exact rb _ _ os.mem or'.mem
  · exact re _ _ _ _ os.notes or'.notes
  · exact rb _ _ os.out or'.out
  · exact rb _ _ os.disk or'.disk
  · exact rb _ _ os.queue or'.queue
  · exact re _ _ _ _ os.script or'.script
  · show (0 : Nat) ≤ 100; omega
theorem nmJ_size : ∀ n ∈ nmJ, n.size ≤ 100 := by
  intro n hn
  simp only [nmJ, List.mem_cons, List.not_mem_nil, or_false] at hn
  rcases hn with rfl | rfl | rfl | rfl | rfl | rfl | rfl | rfl | rfl | rfl <;> decide

set_option maxHeartbeats 16000000 in
theorem refTell_c (A B : Array Value) (s r : SvR) (hA : SvAt A s) (hB : SvAt B r) (x : Nat → Int) (h : Bool) (y : Nat → Int) (g : Bool) (w : World) (hs : GsOk s x h w) (hr : GsOk r y g w) :
    Calls Tryd.prog 23 #[.agg A, .agg B] w fun e w' => e = .returned (.string (rtellJ nmJ (dlJ s r x h y g) (restsJ s r x h y g))) ∧ Below w.heap.size w w' := by
  have hzA : A.size = 35 := hA.size
  have hzB : B.size = 35 := hB.size
  have Z1 := Lib.hid hzA
  have Z2 := Lib.hid hzB
  have HPP := Lib.hid fun (W : World) (hb : Below w.heap.size w W) => rParts_c A B s r hA hB x h y g W (hs.below hb) (hr.below hb)
  have HR := Lib.hid fun (W : World) (hb : Below w.heap.size w W) (k : Nat) (hd : (dlJ s r x h y g)[k]? = some true) => rest_c A B s r hA hB x h y g W (hs.below hb) (hr.below hb) k hd
  have HRS := Lib.hid (rests_size hs hr)
  have HPt := Lib.hid fun (k : Nat) (hk : k < 10) (W : World) => Part_c k hk W
  have lD : (dlJ s r x h y g).length = 10 := rfl
  have lR : (restsJ s r x h y g).length = 10 := rfl
  have lN : nmJ.length = 10 := rfl
  generalize dlJ s r x h y g = dl at HPP HR lD ⊢
  generalize restsJ s r x h y g = rs at HR HRS lR ⊢
  have HLD := Lib.hid lD
  have HLR := Lib.hid lR
  obtain ⟨T, hT⟩ : ∃ T, T = rtellJ nmJ dl rs := ⟨_, rfl⟩
  rw [← hT]
  have HTT := Lib.hid hT
  clear hs hr hA hB lD lR lN hT
  have HI : Hid (PrS w A B ((w.alloc (.cells A 30)).alloc (.cells B 30))) :=
    Lib.hid ⟨heap_old' (heap_new' rfl), heap_new' (by simp), (below_alloc1 w _).alloc (by simp) _, by simp⟩
  go_enter Tryd.func23, Tryd.ntmps23
  go_wp2_with (first
    | ((with_reducible show wpList _ _ _ (Oper.mk _ (.load 30 _) _ _ _ _ :: _) _ _); refine load_rowGJ (by rfl) 30 _ rfl _ rfl 30 _ (0, 0) _ (by first | exact HI.out.a | exact HI.out.b) Tryd.underlying30 rfl (by first | (rw [Z1.out]; kernel_rfl) | (rw [Z2.out]; kernel_rfl)) ?_))
  refine (HPP.out _ HI.out.below).mono ?_
  rintro e w1 ⟨g0, rfl, hg, hrow, hb1⟩
  replace HI := Lib.hid (HI.out.next hb1)
  have HRow := Lib.hid hrow
  clear HPP hg hrow hb1
  go_wp2_with fail
  go_loopg [6] 10 (fun gk vk wr => ∃ k : Nat, gk + k = 10 ∧ vk = .int .i64 (k : Int) ∧ Hid (rtellJ (nmJ.drop k) (dl.drop k) (rs.drop k) = T) ∧ wr = w1)
  case atStart => exact ⟨0, rfl, rfl, Lib.hid HTT.out.symm, rfl⟩
  case round =>
    obtain ⟨k, hk, rfl, HE, rfl⟩ := hrel
    by_cases c1 : k < 10
    · have i1 : (k : Int) < 10 := by omega
      obtain ⟨d, hd⟩ : ∃ d, dl[k]? = some d := ⟨_, List.getElem?_eq_getElem (by rw [HLD.out]; exact c1)⟩
      obtain ⟨t, ht⟩ : ∃ t, rs[k]? = some t := ⟨_, List.getElem?_eq_getElem (by rw [HLR.out]; exact c1)⟩
      obtain ⟨nm, hn⟩ : ∃ n, nmJ[k]? = some n := ⟨_, List.getElem?_eq_getElem c1⟩
      have x0 := (cell_of_row _ g0 k _ _ _ HRow.out).trans (by rw [List.getElem?_toArray, List.getElem?_map, hd])
      have hgr := lt_of_rowJ HRow.out
      have HS := Lib.hid (rtell_step hn hd ht ▸ HE.out)
      have zt := HRS.out t (List.mem_of_getElem? ht)
      have zn := nmJ_size nm (List.mem_of_getElem? hn)
      have zz : (nm ++ t).size ≤ 100 + 100 := sz_add zn zt
      have HPk := Lib.hid fun W => HPt.out k c1 W
      have HN := Lib.hid hn
      have HTk := Lib.hid ht
      cases d
      · clear hd hn ht
        go_wp2_with fail
        go_roundg (gk - 1)
        case measure => omega
        case rel => exact ⟨k + 1, by omega, by go_num, Lib.hid (by simpa using HS.out), rfl⟩
      · have HRk := Lib.hid fun (W : World) (hb : Below w.heap.size w W) => HR.out W hb k hd
        clear hd hn ht
        go_wp2_with fail
        refine wp_region_held_drew (S := fun w' => PrS w A B w') (by kernel_rfl) (HI.out.next (Below.refl _ _).drew) (fun hHeld => ?_)
        refine wpAnyH_take (i := 0) (oi := { dst := some 20, op := Op.move (Operand.tmp 6), type := _, pos := "ref.go:127", after := #[], guard := none }) (v := .int .i64 (k : Int)) rfl (by kernel_rfl) (by kernel_rfl) (by kernel_rfl) (fun _ _ _ h => h) (Or.inl ⟨by rfl, ?_⟩) hHeld ?_
        · intro w' hSw
          skip
          go_simp
        try simp only [Act.put, List.setIfInBounds_toArray, List.set_cons_zero, List.set_cons_succ]
        refine wpAnyH_take (i := 2) (oi := { dst := some 22, op := Op.move (Operand.tmp 6), type := _, pos := "ref.go:127", after := #[], guard := none }) (v := .int .i64 (k : Int)) rfl (by kernel_rfl) (by kernel_rfl) (by kernel_rfl) (fun _ _ _ h => h) (Or.inl ⟨by rfl, ?_⟩) hHeld ?_
        · intro w' hSw
          skip
          go_simp
        try simp only [Act.put, List.setIfInBounds_toArray, List.set_cons_zero, List.set_cons_succ]
        refine wpAnyH_take (i := 3) (oi := { dst := some 23, op := Op.load _ (Operand.tmp 2), type := _, pos := "ref.go:127", after := #[], guard := none }) (v := .agg A) rfl (by kernel_rfl) (by kernel_rfl) (by kernel_rfl) (fun _ _ _ h => h) (yieldsIf_load_mid (by rfl) _ _ rfl _ 0 rfl A.toList _ (fun w' hSw => range_of_row hSw.a _ (fun j v hv => by simpa using hv)) Tryd.underlying30 rfl (by rw [Array.length_toList, hzA]; kernel_rfl)) hHeld ?_
        try simp only [Act.put, List.setIfInBounds_toArray, List.set_cons_zero, List.set_cons_succ]
        refine wpAnyH_take (i := 4) (oi := { dst := some 24, op := Op.load _ (Operand.tmp 3), type := _, pos := "ref.go:127", after := #[], guard := none }) (v := .agg B) rfl (by kernel_rfl) (by kernel_rfl) (by kernel_rfl) (fun _ _ _ h => h) (yieldsIf_load_mid (by rfl) _ _ rfl _ 0 rfl B.toList _ (fun w' hSw => range_of_row hSw.b _ (fun j v hv => by simpa using hv)) Tryd.underlying30 rfl (by rw [Array.length_toList, hzB]; kernel_rfl)) hHeld ?_
        try simp only [Act.put, List.setIfInBounds_toArray, List.set_cons_zero, List.set_cons_succ]
        refine wpAnyH_ready (rs := [1]) (by kernel_rfl) (by simp) ?_
        refine AllReadyH.cons (o := { dst := some 21, op := Op.call { callee := Callee.value (Operand.func _), args := #[Operand.tmp 20], argTypes := _ }, type := _, pos := "ref.go:127", after := #[{ on := 0, ground := Ground.data }], guard := none }) rfl (fun K hK => ?_) AllReadyH.nil
        go_simp
        go_at_call 21
        refine (HPk.out _).mono ?_
        rintro e w2 ⟨⟨nm', hn', rfl⟩, hb2⟩
        obtain rfl : nm' = nm := by rw [HN.out] at hn'; exact (Option.some.inj hn').symm
        refine hK.out _ _ (hHeld.next hb2) (fun hHeld => ?_)
        clear hK K hn'
        try simp only [Act.put, List.setIfInBounds_toArray, List.set_cons_zero, List.set_cons_succ]
        refine wpAnyH_ready (rs := [5]) (by kernel_rfl) (by simp) ?_
        refine AllReadyH.cons (o := { dst := some 25, op := Op.call { callee := Callee.value (Operand.func _), args := #[Operand.tmp 22, Operand.tmp 23, Operand.tmp 24], argTypes := _ }, type := _, pos := "ref.go:127", after := #[{ on := 2, ground := Ground.data }, { on := 3, ground := Ground.data }, { on := 4, ground := Ground.data }, { on := 1, ground := Ground.chain }], guard := none }) rfl (fun K hK => ?_) AllReadyH.nil
        go_simp
        go_at_call 32
        refine (HRk.out _ hHeld.below).mono ?_
        rintro e w3 ⟨⟨t', ht', rfl⟩, hb3⟩
        obtain rfl : t' = t := by rw [HTk.out] at ht'; exact (Option.some.inj ht').symm
        refine hK.out _ _ (hHeld.next hb3) (fun hHeld => ?_)
        clear hK K ht'
        try simp only [Act.put, List.setIfInBounds_toArray, List.set_cons_zero, List.set_cons_succ]
        refine wpAnyH_take (i := 6) (oi := { dst := some 26, op := Op.binOp BinOp.add _ (Operand.tmp 21) (Operand.tmp 25) _, type := _, pos := "ref.go:127", after := #[{ on := 1, ground := Ground.data }, { on := 5, ground := Ground.data }], guard := none }) (v := .string (nm' ++ t')) rfl (by kernel_rfl) (by kernel_rfl) (by kernel_rfl) (fun _ _ _ h => h) (Or.inl ⟨by rfl, ?_⟩) hHeld ?_
        · intro w' hSw
          skip
          go_simp
          all_goals omega
        try simp only [Act.put, List.setIfInBounds_toArray, List.set_cons_zero, List.set_cons_succ]
        refine wpAnyH_take (i := 7) (oi := { dst := some 4, op := Op.assign (Operand.tmp 26), type := _, pos := "ref.go:127", after := #[{ on := 6, ground := Ground.data }, { on := 5, ground := Ground.chain }, { on := 0, ground := Ground.phase }, { on := 1, ground := Ground.phase }, { on := 2, ground := Ground.phase }, { on := 3, ground := Ground.phase }, { on := 4, ground := Ground.phase }, { on := 5, ground := Ground.phase }, { on := 6, ground := Ground.phase }], guard := none }) (v := .string (nm' ++ t')) rfl (by kernel_rfl) (by kernel_rfl) (by kernel_rfl) (fun _ _ _ h => h) (Or.inl ⟨by rfl, ?_⟩) hHeld ?_
        · intro w' hSw
          skip
          go_simp
        try simp only [Act.put, List.setIfInBounds_toArray, List.set_cons_zero, List.set_cons_succ]
        refine wpAnyH_done (by kernel_rfl) ?_ _
        go_wp2_with fail
        go_ret
        exact ⟨ret_strJ (by simpa using HS.out), hHeld.below⟩
    · have i1 : ¬ (k : Int) < 10 := by omega
      obtain rfl : k = 10 := by omega
      go_wp2_with fail
      go_ret
      refine ⟨ret_strJ ?_, HI.out.below⟩
      have h1 := HE.out
      rw [List.drop_eq_nil_of_le (show nmJ.length ≤ 10 from Nat.le_refl _)] at h1
      rw [← h1]; rfl

set_option maxHeartbeats 16000000 in
theorem parts_in (A B : Array Value) (s r : SvR) (hA : SvAt A s) (hB : SvAt B r) (x : Nat → Int) (h : Bool) (y : Nat → Int) (g : Bool) (w : World) (hs : GsOk s x h w) (hr : GsOk r y g w) (HT : Hid (pTab w)) :
    Calls Tryd.prog 7 #[.agg A, .agg B] w fun e w' => e = .returned (.bool true) ∧ Below w.heap.size w w' := by
  have hzA : A.size = 35 := hA.size
  have hzB : B.size = 35 := hB.size
  have HP := Lib.hid fun (W : World) (hb : Below w.heap.size w W) => Parts_c A B s r hA hB x h y g W (hs.below hb) (hr.below hb) (pTab_on HT hb)
  have HRP := Lib.hid fun (W : World) (hb : Below w.heap.size w W) => rParts_c A B s r hA hB x h y g W (hs.below hb) (hr.below hb)
  have HTe := Lib.hid fun (W : World) (hb : Below w.heap.size w W) => tellG_c A B s r hA hB x h y g W (hs.below hb) (hr.below hb) (pTab_on HT hb)
  have HRT := Lib.hid fun (W : World) (hb : Below w.heap.size w W) => refTell_c A B s r hA hB x h y g W (hs.below hb) (hr.below hb)
  have HW := Lib.hid fun (W : World) (hb : Below w.heap.size w W) => works_c W (pTab_on HT hb)
  have HPt := Lib.hid fun (k : Nat) (hk : k < 10) (W : World) => Part_c k hk W
  rw [← tell_same] at HRT
  generalize telling nmJ (dlJ s r x h y g) (tlsJ s r x h y g) = T at HTe HRT
  have lD : (dlJ s r x h y g).length = 10 := rfl
  generalize dlJ s r x h y g = dl at HP HRP lD
  have HLD := Lib.hid lD
  have hsl := selJ_len nmJ dl
  have hsl : (selJ nmJ dl).length ≤ 10 := hsl
  obtain ⟨Ls, hLs⟩ : ∃ Ls, Ls = selJ nmJ dl := ⟨_, rfl⟩
  have HAt : Hid ((selJ (nmJ.take 10) (dl.take 10)) = Ls) := Lib.hid (by rw [hLs, show nmJ.take 10 = nmJ from rfl, List.take_of_length_le (by rw [lD]; exact Nat.le_refl _)])
  rw [← hLs] at HP hsl
  have HLs := Lib.hid hLs
  clear hLs
  clear hs hr hA hB HT lD
  go_enter Tryd.func7, Tryd.ntmps7
  go_wp2_with fail
  have HI : Hid (PrS w A B ((w.alloc (.cells A 30)).alloc (.cells B 30)).drew) :=
    Lib.hid ⟨heap_drew' (heap_old' (heap_new' rfl)), heap_drew' (heap_new' (by simp)), ((below_alloc1 w _).alloc (by simp) _).drew, by simp⟩
  refine wp_region_held_drew (S := fun w' => PrS w A B w') (by kernel_rfl) (HI.out) (fun hHeld => ?_)
  clear HI
  refine wpAnyH_take (i := 0) (oi := { dst := some 9, op := Op.load _ (Operand.tmp 2), type := _, pos := "law.go:39", after := #[], guard := none }) (v := .agg A) rfl (by kernel_rfl) (by kernel_rfl) (by kernel_rfl) (fun _ _ _ h => h) (yieldsIf_load_mid (by rfl) _ _ rfl _ 0 rfl A.toList _ (fun w' hSw => range_of_row hSw.a _ (fun j v hv => by simpa using hv)) Tryd.underlying30 rfl (by rw [Array.length_toList, hzA]; kernel_rfl)) hHeld ?_
  try simp only [Act.put, List.setIfInBounds_toArray, List.set_cons_zero, List.set_cons_succ]
  refine wpAnyH_take (i := 1) (oi := { dst := some 10, op := Op.load _ (Operand.tmp 3), type := _, pos := "law.go:39", after := #[], guard := none }) (v := .agg B) rfl (by kernel_rfl) (by kernel_rfl) (by kernel_rfl) (fun _ _ _ h => h) (yieldsIf_load_mid (by rfl) _ _ rfl _ 0 rfl B.toList _ (fun w' hSw => range_of_row hSw.b _ (fun j v hv => by simpa using hv)) Tryd.underlying30 rfl (by rw [Array.length_toList, hzB]; kernel_rfl)) hHeld ?_
  try simp only [Act.put, List.setIfInBounds_toArray, List.set_cons_zero, List.set_cons_succ]
  refine wpAnyH_take (i := 3) (oi := { dst := some 12, op := Op.load _ (Operand.tmp 2), type := _, pos := "law.go:39", after := #[], guard := none }) (v := .agg A) rfl (by kernel_rfl) (by kernel_rfl) (by kernel_rfl) (fun _ _ _ h => h) (yieldsIf_load_mid (by rfl) _ _ rfl _ 0 rfl A.toList _ (fun w' hSw => range_of_row hSw.a _ (fun j v hv => by simpa using hv)) Tryd.underlying30 rfl (by rw [Array.length_toList, hzA]; kernel_rfl)) hHeld ?_
  try simp only [Act.put, List.setIfInBounds_toArray, List.set_cons_zero, List.set_cons_succ]
  refine wpAnyH_take (i := 4) (oi := { dst := some 13, op := Op.load _ (Operand.tmp 3), type := _, pos := "law.go:39", after := #[], guard := none }) (v := .agg B) rfl (by kernel_rfl) (by kernel_rfl) (by kernel_rfl) (fun _ _ _ h => h) (yieldsIf_load_mid (by rfl) _ _ rfl _ 0 rfl B.toList _ (fun w' hSw => range_of_row hSw.b _ (fun j v hv => by simpa using hv)) Tryd.underlying30 rfl (by rw [Array.length_toList, hzB]; kernel_rfl)) hHeld ?_
  try simp only [Act.put, List.setIfInBounds_toArray, List.set_cons_zero, List.set_cons_succ]
  refine wpAnyH_ready (rs := [2]) (by kernel_rfl) (by simp) ?_
  refine AllReadyH.cons (o := { dst := some 11, op := Op.call { callee := Callee.value (Operand.func _), args := #[Operand.tmp 9, Operand.tmp 10], argTypes := _ }, type := _, pos := "law.go:39", after := #[{ on := 0, ground := Ground.data }, { on := 1, ground := Ground.data }], guard := none }) rfl (fun K hK => ?_) AllReadyH.nil
  go_simp
  go_at_call 19
  refine (HP.out _ hHeld.below).mono ?_
  rintro e w3 ⟨v5, rfl, ov5, hb3⟩
  refine hK.out _ _ (hHeld.next hb3) (fun hHeld => ?_)
  clear hK K
  try simp only [Act.put, List.setIfInBounds_toArray, List.set_cons_zero, List.set_cons_succ]
  refine wpAnyH_ready (rs := [5]) (by kernel_rfl) (by simp) ?_
  refine AllReadyH.cons (o := { dst := some 14, op := Op.call { callee := Callee.value (Operand.func _), args := #[Operand.tmp 12, Operand.tmp 13], argTypes := _ }, type := _, pos := "law.go:39", after := #[{ on := 3, ground := Ground.data }, { on := 4, ground := Ground.data }, { on := 2, ground := Ground.chain }], guard := none }) rfl (fun K hK => ?_) AllReadyH.nil
  go_simp
  go_at_call 20
  refine (HRP.out _ hHeld.below).mono ?_
  rintro e w4 ⟨g0, rfl, hg, hrow, hb4⟩
  refine hK.out _ _ (hHeld.next hb4) (fun hHeld => ?_)
  clear hK K
  try simp only [Act.put, List.setIfInBounds_toArray, List.set_cons_zero, List.set_cons_succ]
  refine wpAnyH_take (i := 6) (oi := { dst := some 5, op := Op.assign (Operand.tmp 11), type := _, pos := "law.go:39", after := #[{ on := 2, ground := Ground.data }, { on := 5, ground := Ground.chain }, { on := 0, ground := Ground.phase }, { on := 1, ground := Ground.phase }, { on := 2, ground := Ground.phase }, { on := 3, ground := Ground.textOnly Departure.lateStores }, { on := 4, ground := Ground.textOnly Departure.lateStores }, { on := 5, ground := Ground.textOnly Departure.lateStoresUnsure }], guard := none }) (v := v5) rfl (by kernel_rfl) (by kernel_rfl) (by kernel_rfl) (fun _ _ _ h => h) (Or.inl ⟨by rfl, ?_⟩) hHeld ?_
  · intro w' hSw
    skip
    go_simp
  try simp only [Act.put, List.setIfInBounds_toArray, List.set_cons_zero, List.set_cons_succ]
  refine wpAnyH_take (i := 7) (oi := { dst := some 6, op := Op.assign (Operand.tmp 14), type := _, pos := "law.go:39", after := #[{ on := 5, ground := Ground.data }, { on := 6, ground := Ground.chain }, { on := 0, ground := Ground.phase }, { on := 1, ground := Ground.phase }, { on := 2, ground := Ground.phase }, { on := 3, ground := Ground.phase }, { on := 4, ground := Ground.phase }, { on := 5, ground := Ground.phase }, { on := 6, ground := Ground.phase }], guard := none }) (v := .slice (some ⟨g0, 0, none⟩) 10 10) rfl (by kernel_rfl) (by kernel_rfl) (by kernel_rfl) (fun _ _ _ h => h) (Or.inl ⟨by rfl, ?_⟩) hHeld ?_
  · intro w' hSw
    skip
    go_simp
  try simp only [Act.put, List.setIfInBounds_toArray, List.set_cons_zero, List.set_cons_succ]
  refine wpAnyH_done (by kernel_rfl) ?_ _
  have HI := Lib.hid hHeld
  obtain ⟨ao5, cap5, rfl, hc5⟩ := row_at (w := w) ov5 rfl
  have hb43 := hb4
  have HC5 := Lib.hid hc5
  have HRow := Lib.hid hrow
  have HB4 := Lib.hid hb4
  clear ov5 hHeld HP HRP hc5 hrow hb43
  go_wp2_with fail
  go_loopg [7, 8] 10 (fun gk vn vk wr => ∃ k : Nat, gk + k = 10 ∧ vk = .int .i64 (k : Int) ∧ vn = .int .i64 ((selJ (nmJ.take k) (dl.take k)).length : Int) ∧ Below w4.heap.size w4 wr)
  case atStart => exact ⟨0, rfl, rfl, rfl, Below.refl _ _⟩
  case round =>
    obtain ⟨k, hk, rfl, rfl, hB⟩ := hrel
    by_cases c1 : k < 10
    · have i1 : (k : Int) < 10 := by omega
      obtain ⟨d, hd⟩ : ∃ d, dl[k]? = some d := ⟨_, List.getElem?_eq_getElem (by rw [HLD.out]; exact c1)⟩
      obtain ⟨nm, hn⟩ : ∃ n, nmJ[k]? = some n := ⟨_, List.getElem?_eq_getElem c1⟩
      have hrow := (hB.block g0 (lt_of_rowJ HRow.out)).trans HRow.out
      have x0 := (cell_of_row wr g0 k _ _ _ hrow).trans (by rw [List.getElem?_toArray, List.getElem?_map, hd])
      have hgr := lt_of_rowJ hrow
      have HS := Lib.hid (sel_step (by rw [HLD.out]; rfl) hn hd)
      have HPk := Lib.hid fun W => HPt.out k c1 W
      have HN := Lib.hid hn
      clear hrow
      cases d
      · clear hd hn
        go_wp2_with fail
        go_roundg (gk - 1)
        case measure => omega
        case rel => exact ⟨k + 1, by omega, by go_num, by rw [HS.out]; rfl, hB⟩
      · have hat := sel_at (by rw [HLD.out]; rfl) hn hd
        rw [← HLs.out] at hat
        obtain ⟨g5, rfl, x5⟩ := HC5.out _ _ hat
        have hlt : (selJ (nmJ.take k) (dl.take k)).length < Ls.length := (List.getElem?_eq_some_iff.1 hat).1
        have X5 : Hid (∀ W, Below w4.heap.size w4 W → W.cell? ⟨g5, (selJ (nmJ.take k) (dl.take k)).length, none⟩ = some (.string nm)) := Lib.hid fun W hW => x5 W (HB4.out.trans (hW.mono HB4.out.size))
        have zn := nmJ_size nm (List.mem_of_getElem? hn)
        clear hd hn hat x5 HC5
        generalize (selJ (nmJ.take k) (dl.take k)).length = n at hlt X5 HS ⊢
        have j1 : (n : Int) < (Ls.length : Int) := by omega
        have j2 : ¬ (Ls.length : Int) ≤ (n : Int) := by omega
        have e1 : decide (Ls.length ≤ n) = false := by simp; omega
        go_wp2_with fail
        refine wp_region_held_drew (S := fun w' => Below w4.heap.size w4 w') (by kernel_rfl) (hB.drew) (fun hHeld => ?_)
        refine wpAnyH_take (i := 0) (oi := { dst := some 26, op := Op.move (Operand.tmp 7), type := _, pos := "law.go:45", after := #[], guard := none }) (v := .int .i64 (n : Int)) rfl (by kernel_rfl) (by kernel_rfl) (by kernel_rfl) (fun _ _ _ h => h) (Or.inl ⟨by rfl, ?_⟩) hHeld ?_
        · intro w' hSw
          have k0 := X5.out _ hSw
          go_simp
        try simp only [Act.put, List.setIfInBounds_toArray, List.set_cons_zero, List.set_cons_succ]
        refine wpAnyH_take (i := 1) (oi := { dst := some 27, op := Op.move (Operand.tmp 5), type := _, pos := "law.go:45", after := #[], guard := none }) (v := .slice (some ⟨g5, 0, none⟩) Ls.length cap5) rfl (by kernel_rfl) (by kernel_rfl) (by kernel_rfl) (fun _ _ _ h => h) (Or.inl ⟨by rfl, ?_⟩) hHeld ?_
        · intro w' hSw
          have k0 := X5.out _ hSw
          go_simp
        try simp only [Act.put, List.setIfInBounds_toArray, List.set_cons_zero, List.set_cons_succ]
        refine wpAnyH_take (i := 2) (oi := { dst := some 28, op := Op.call { callee := Callee.builtin Builtin.len, args := #[Operand.tmp 27], argTypes := _ }, type := _, pos := "law.go:45", after := #[{ on := 1, ground := Ground.data }], guard := none }) (v := .int .i64 (Ls.length : Int)) rfl (by kernel_rfl) (by kernel_rfl) (by kernel_rfl) (fun _ _ _ h => h) (Or.inl ⟨by rfl, ?_⟩) hHeld ?_
        · intro w' hSw
          have k0 := X5.out _ hSw
          go_simp
        try simp only [Act.put, List.setIfInBounds_toArray, List.set_cons_zero, List.set_cons_succ]
        refine wpAnyH_take (i := 3) (oi := { dst := some 29, op := Op.binOp BinOp.geq _ (Operand.tmp 26) (Operand.tmp 28) _, type := _, pos := "law.go:45", after := #[{ on := 0, ground := Ground.data }, { on := 2, ground := Ground.data }], guard := none }) (v := .bool false) rfl (by kernel_rfl) (by kernel_rfl) (by kernel_rfl) (fun _ _ _ h => h) (Or.inl ⟨by rfl, ?_⟩) hHeld ?_
        · intro w' hSw
          have k0 := X5.out _ hSw
          go_simp
        try simp only [Act.put, List.setIfInBounds_toArray, List.set_cons_zero, List.set_cons_succ]
        refine wpAnyH_take (i := 4) (oi := { dst := some 30, op := Op.move (Operand.tmp 29), type := _, pos := "law.go:45", after := #[{ on := 3, ground := Ground.data }], guard := none }) (v := .bool false) rfl (by kernel_rfl) (by kernel_rfl) (by kernel_rfl) (fun _ _ _ h => h) (Or.inl ⟨by rfl, ?_⟩) hHeld ?_
        · intro w' hSw
          have k0 := X5.out _ hSw
          go_simp
        try simp only [Act.put, List.setIfInBounds_toArray, List.set_cons_zero, List.set_cons_succ]
        refine wpAnyH_take (i := 5) (oi := { dst := some 31, op := Op.move (Operand.tmp 5), type := _, pos := "law.go:45", after := #[{ on := 4, ground := Ground.guard }], guard := some (4, false) }) (v := .slice (some ⟨g5, 0, none⟩) Ls.length cap5) rfl (by kernel_rfl) (by kernel_rfl) (by kernel_rfl) (fun _ _ _ h => h) (Or.inl ⟨by rfl, ?_⟩) hHeld ?_
        · intro w' hSw
          have k0 := X5.out _ hSw
          go_simp
        try simp only [Act.put, List.setIfInBounds_toArray, List.set_cons_zero, List.set_cons_succ]
        refine wpAnyH_take (i := 6) (oi := { dst := some 32, op := Op.move (Operand.tmp 7), type := _, pos := "law.go:45", after := #[{ on := 4, ground := Ground.guard }], guard := some (4, false) }) (v := .int .i64 (n : Int)) rfl (by kernel_rfl) (by kernel_rfl) (by kernel_rfl) (fun _ _ _ h => h) (Or.inl ⟨by rfl, ?_⟩) hHeld ?_
        · intro w' hSw
          have k0 := X5.out _ hSw
          go_simp
        try simp only [Act.put, List.setIfInBounds_toArray, List.set_cons_zero, List.set_cons_succ]
        refine wpAnyH_take (i := 7) (oi := { dst := some 33, op := Op.indexAddr _ (Operand.tmp 31) (Operand.tmp 32), type := _, pos := "law.go:45", after := #[{ on := 5, ground := Ground.data }, { on := 6, ground := Ground.data }, { on := 4, ground := Ground.guard }], guard := some (4, false) }) (v := .pointer (some ⟨g5, n, none⟩)) rfl (by kernel_rfl) (by kernel_rfl) (by kernel_rfl) (fun _ _ _ h => h) (Or.inl ⟨by rfl, ?_⟩) hHeld ?_
        · intro w' hSw
          have k0 := X5.out _ hSw
          go_simp
        try simp only [Act.put, List.setIfInBounds_toArray, List.set_cons_zero, List.set_cons_succ]
        refine wpAnyH_take (i := 8) (oi := { dst := some 34, op := Op.load _ (Operand.tmp 33), type := _, pos := "law.go:45", after := #[{ on := 7, ground := Ground.data }, { on := 4, ground := Ground.guard }], guard := some (4, false) }) (v := .string nm) rfl (by kernel_rfl) (by kernel_rfl) (by kernel_rfl) (fun _ _ _ h => h) (Or.inl ⟨by rfl, ?_⟩) hHeld ?_
        · intro w' hSw
          have k0 := X5.out _ hSw
          go_simp
        try simp only [Act.put, List.setIfInBounds_toArray, List.set_cons_zero, List.set_cons_succ]
        refine wpAnyH_take (i := 9) (oi := { dst := some 35, op := Op.move (Operand.tmp 8), type := _, pos := "law.go:45", after := #[{ on := 4, ground := Ground.guard }], guard := some (4, false) }) (v := .int .i64 (k : Int)) rfl (by kernel_rfl) (by kernel_rfl) (by kernel_rfl) (fun _ _ _ h => h) (Or.inl ⟨by rfl, ?_⟩) hHeld ?_
        · intro w' hSw
          have k0 := X5.out _ hSw
          go_simp
        try simp only [Act.put, List.setIfInBounds_toArray, List.set_cons_zero, List.set_cons_succ]
        refine wpAnyH_ready (rs := [10]) (by kernel_rfl) (by simp) ?_
        refine AllReadyH.cons (o := { dst := some 36, op := Op.call { callee := Callee.value (Operand.func _), args := #[Operand.tmp 35], argTypes := _ }, type := _, pos := "law.go:45", after := #[{ on := 9, ground := Ground.data }, { on := 4, ground := Ground.chain }, { on := 4, ground := Ground.guard }], guard := some (4, false) }) rfl (fun K hK => ?_) AllReadyH.nil
        go_simp
        go_at_call 21
        refine (HPk.out _).mono ?_
        rintro e w6 ⟨⟨nm', hn', rfl⟩, hb6⟩
        obtain rfl : nm' = nm := by rw [HN.out] at hn'; exact (Option.some.inj hn').symm
        refine hK.out _ _ (below_nextJ hHeld hb6) (fun hHeld => ?_)
        clear hK K hn'
        try simp only [Act.put, List.setIfInBounds_toArray, List.set_cons_zero, List.set_cons_succ]
        refine wpAnyH_take (i := 11) (oi := { dst := some 37, op := Op.binOp BinOp.neq _ (Operand.tmp 34) (Operand.tmp 36) _, type := _, pos := "law.go:45", after := #[{ on := 8, ground := Ground.data }, { on := 10, ground := Ground.data }, { on := 4, ground := Ground.guard }], guard := some (4, false) }) (v := .bool false) rfl (by kernel_rfl) (by kernel_rfl) (by kernel_rfl) (fun _ _ _ h => h) (Or.inl ⟨by rfl, ?_⟩) hHeld ?_
        · intro w' hSw
          skip
          go_simp
        try simp only [Act.put, List.setIfInBounds_toArray, List.set_cons_zero, List.set_cons_succ]
        refine wpAnyH_take (i := 12) (oi := { dst := some 38, op := Op.pick (Operand.tmp 30) (Operand.const (Value.bool true)) (Operand.tmp 37), type := _, pos := "law.go:45", after := #[{ on := 4, ground := Ground.data }, { on := 11, ground := Ground.data }], guard := none }) (v := .bool false) rfl (by kernel_rfl) (by kernel_rfl) (by kernel_rfl) (fun _ _ _ h => h) (Or.inl ⟨by rfl, ?_⟩) hHeld ?_
        · intro w' hSw
          skip
          go_simp
        try simp only [Act.put, List.setIfInBounds_toArray, List.set_cons_zero, List.set_cons_succ]
        refine wpAnyH_done (by kernel_rfl) ?_ _
        go_wp2_with fail
        go_roundg (gk - 1)
        case measure => omega
        case rel => exact ⟨k + 1, by omega, by go_num, by rw [HS.out]; go_num, hHeld⟩
    · have i1 : ¬ (k : Int) < 10 := by omega
      obtain rfl : k = 10 := by omega
      rw [HAt.out]
      replace HI := Lib.hid (HI.out.next hB)
      go_wp2_with fail
      refine wp_region_held_drew (S := fun w' => PrS w A B w') (by kernel_rfl) (HI.out.next (Below.refl _ _).drew) (fun hHeld => ?_)
      clear HI
      refine wpAnyH_take (i := 0) (oi := { dst := some 41, op := Op.move (Operand.tmp 7), type := _, pos := "law.go:50", after := #[], guard := none }) (v := .int .i64 (Ls.length : Int)) rfl (by kernel_rfl) (by kernel_rfl) (by kernel_rfl) (fun _ _ _ h => h) (Or.inl ⟨by rfl, ?_⟩) hHeld ?_
      · intro w' hSw
        skip
        go_simp
      try simp only [Act.put, List.setIfInBounds_toArray, List.set_cons_zero, List.set_cons_succ]
      refine wpAnyH_take (i := 1) (oi := { dst := some 42, op := Op.move (Operand.tmp 5), type := _, pos := "law.go:50", after := #[], guard := none }) (v := .slice ao5 Ls.length cap5) rfl (by kernel_rfl) (by kernel_rfl) (by kernel_rfl) (fun _ _ _ h => h) (Or.inl ⟨by rfl, ?_⟩) hHeld ?_
      · intro w' hSw
        skip
        go_simp
      try simp only [Act.put, List.setIfInBounds_toArray, List.set_cons_zero, List.set_cons_succ]
      refine wpAnyH_take (i := 2) (oi := { dst := some 43, op := Op.call { callee := Callee.builtin Builtin.len, args := #[Operand.tmp 42], argTypes := _ }, type := _, pos := "law.go:50", after := #[{ on := 1, ground := Ground.data }], guard := none }) (v := .int .i64 (Ls.length : Int)) rfl (by kernel_rfl) (by kernel_rfl) (by kernel_rfl) (fun _ _ _ h => h) (Or.inl ⟨by rfl, ?_⟩) hHeld ?_
      · intro w' hSw
        skip
        go_simp
      try simp only [Act.put, List.setIfInBounds_toArray, List.set_cons_zero, List.set_cons_succ]
      refine wpAnyH_take (i := 3) (oi := { dst := some 44, op := Op.binOp BinOp.eql _ (Operand.tmp 41) (Operand.tmp 43) _, type := _, pos := "law.go:50", after := #[{ on := 0, ground := Ground.data }, { on := 2, ground := Ground.data }], guard := none }) (v := .bool true) rfl (by kernel_rfl) (by kernel_rfl) (by kernel_rfl) (fun _ _ _ h => h) (Or.inl ⟨by rfl, ?_⟩) hHeld ?_
      · intro w' hSw
        skip
        go_simp
      try simp only [Act.put, List.setIfInBounds_toArray, List.set_cons_zero, List.set_cons_succ]
      refine wpAnyH_take (i := 4) (oi := { dst := some 45, op := Op.move (Operand.tmp 44), type := _, pos := "law.go:50", after := #[{ on := 3, ground := Ground.data }], guard := none }) (v := .bool true) rfl (by kernel_rfl) (by kernel_rfl) (by kernel_rfl) (fun _ _ _ h => h) (Or.inl ⟨by rfl, ?_⟩) hHeld ?_
      · intro w' hSw
        skip
        go_simp
      try simp only [Act.put, List.setIfInBounds_toArray, List.set_cons_zero, List.set_cons_succ]
      refine wpAnyH_take (i := 5) (oi := { dst := some 46, op := Op.load _ (Operand.tmp 2), type := _, pos := "law.go:50", after := #[{ on := 4, ground := Ground.guard }], guard := some (4, true) }) (v := .agg A) rfl (by kernel_rfl) (by kernel_rfl) (by kernel_rfl) (fun _ _ _ h => h) (yieldsIf_load_mid (by rfl) _ _ rfl _ 0 rfl A.toList _ (fun w' hSw => range_of_row hSw.a _ (fun j v hv => by simpa using hv)) Tryd.underlying30 rfl (by rw [Array.length_toList, hzA]; kernel_rfl)) hHeld ?_
      try simp only [Act.put, List.setIfInBounds_toArray, List.set_cons_zero, List.set_cons_succ]
      refine wpAnyH_take (i := 6) (oi := { dst := some 47, op := Op.load _ (Operand.tmp 3), type := _, pos := "law.go:50", after := #[{ on := 4, ground := Ground.guard }], guard := some (4, true) }) (v := .agg B) rfl (by kernel_rfl) (by kernel_rfl) (by kernel_rfl) (fun _ _ _ h => h) (yieldsIf_load_mid (by rfl) _ _ rfl _ 0 rfl B.toList _ (fun w' hSw => range_of_row hSw.b _ (fun j v hv => by simpa using hv)) Tryd.underlying30 rfl (by rw [Array.length_toList, hzB]; kernel_rfl)) hHeld ?_
      try simp only [Act.put, List.setIfInBounds_toArray, List.set_cons_zero, List.set_cons_succ]
      refine wpAnyH_take (i := 8) (oi := { dst := some 49, op := Op.load _ (Operand.tmp 2), type := _, pos := "law.go:50", after := #[{ on := 4, ground := Ground.guard }], guard := some (4, true) }) (v := .agg A) rfl (by kernel_rfl) (by kernel_rfl) (by kernel_rfl) (fun _ _ _ h => h) (yieldsIf_load_mid (by rfl) _ _ rfl _ 0 rfl A.toList _ (fun w' hSw => range_of_row hSw.a _ (fun j v hv => by simpa using hv)) Tryd.underlying30 rfl (by rw [Array.length_toList, hzA]; kernel_rfl)) hHeld ?_
      try simp only [Act.put, List.setIfInBounds_toArray, List.set_cons_zero, List.set_cons_succ]
      refine wpAnyH_take (i := 9) (oi := { dst := some 50, op := Op.load _ (Operand.tmp 3), type := _, pos := "law.go:50", after := #[{ on := 4, ground := Ground.guard }], guard := some (4, true) }) (v := .agg B) rfl (by kernel_rfl) (by kernel_rfl) (by kernel_rfl) (fun _ _ _ h => h) (yieldsIf_load_mid (by rfl) _ _ rfl _ 0 rfl B.toList _ (fun w' hSw => range_of_row hSw.b _ (fun j v hv => by simpa using hv)) Tryd.underlying30 rfl (by rw [Array.length_toList, hzB]; kernel_rfl)) hHeld ?_
      try simp only [Act.put, List.setIfInBounds_toArray, List.set_cons_zero, List.set_cons_succ]
      refine wpAnyH_ready (rs := [7]) (by kernel_rfl) (by simp) ?_
      refine AllReadyH.cons (o := { dst := some 48, op := Op.call { callee := Callee.value (Operand.func _), args := #[Operand.tmp 46, Operand.tmp 47], argTypes := _ }, type := _, pos := "law.go:50", after := #[{ on := 5, ground := Ground.data }, { on := 6, ground := Ground.data }, { on := 4, ground := Ground.chain }, { on := 4, ground := Ground.guard }], guard := some (4, true) }) rfl (fun K hK => ?_) AllReadyH.nil
      go_simp
      go_at_call 22
      refine (HTe.out _ hHeld.below).mono ?_
      rintro e w7 ⟨rfl, hb7⟩
      refine hK.out _ _ (hHeld.next hb7) (fun hHeld => ?_)
      clear hK K
      try simp only [Act.put, List.setIfInBounds_toArray, List.set_cons_zero, List.set_cons_succ]
      refine wpAnyH_ready (rs := [10]) (by kernel_rfl) (by simp) ?_
      refine AllReadyH.cons (o := { dst := some 51, op := Op.call { callee := Callee.value (Operand.func _), args := #[Operand.tmp 49, Operand.tmp 50], argTypes := _ }, type := _, pos := "law.go:50", after := #[{ on := 8, ground := Ground.data }, { on := 9, ground := Ground.data }, { on := 7, ground := Ground.chain }, { on := 4, ground := Ground.guard }], guard := some (4, true) }) rfl (fun K hK => ?_) AllReadyH.nil
      go_simp
      go_at_call 23
      refine (HRT.out _ hHeld.below).mono ?_
      rintro e w8 ⟨rfl, hb8⟩
      refine hK.out _ _ (hHeld.next hb8) (fun hHeld => ?_)
      clear hK K
      try simp only [Act.put, List.setIfInBounds_toArray, List.set_cons_zero, List.set_cons_succ]
      refine wpAnyH_take (i := 11) (oi := { dst := some 52, op := Op.binOp BinOp.eql _ (Operand.tmp 48) (Operand.tmp 51) _, type := _, pos := "law.go:50", after := #[{ on := 7, ground := Ground.data }, { on := 10, ground := Ground.data }, { on := 4, ground := Ground.guard }], guard := some (4, true) }) (v := .bool true) rfl (by kernel_rfl) (by kernel_rfl) (by kernel_rfl) (fun _ _ _ h => h) (Or.inl ⟨by rfl, ?_⟩) hHeld ?_
      · intro w' hSw
        skip
        go_simp
      try simp only [Act.put, List.setIfInBounds_toArray, List.set_cons_zero, List.set_cons_succ]
      refine wpAnyH_take (i := 12) (oi := { dst := some 53, op := Op.pick (Operand.tmp 45) (Operand.tmp 52) (Operand.const (Value.bool false)), type := _, pos := "law.go:50", after := #[{ on := 4, ground := Ground.data }, { on := 11, ground := Ground.data }], guard := none }) (v := .bool true) rfl (by kernel_rfl) (by kernel_rfl) (by kernel_rfl) (fun _ _ _ h => h) (Or.inl ⟨by rfl, ?_⟩) hHeld ?_
      · intro w' hSw
        skip
        go_simp
      try simp only [Act.put, List.setIfInBounds_toArray, List.set_cons_zero, List.set_cons_succ]
      refine wpAnyH_take (i := 13) (oi := { dst := some 54, op := Op.move (Operand.tmp 53), type := _, pos := "law.go:50", after := #[{ on := 12, ground := Ground.data }, { on := 10, ground := Ground.chain }], guard := none }) (v := .bool true) rfl (by kernel_rfl) (by kernel_rfl) (by kernel_rfl) (fun _ _ _ h => h) (Or.inl ⟨by rfl, ?_⟩) hHeld ?_
      · intro w' hSw
        skip
        go_simp
      try simp only [Act.put, List.setIfInBounds_toArray, List.set_cons_zero, List.set_cons_succ]
      refine wpAnyH_ready (rs := [14]) (by kernel_rfl) (by simp) ?_
      refine AllReadyH.cons (o := { dst := some 55, op := Op.call { callee := Callee.value (Operand.func _), args := #[], argTypes := _ }, type := _, pos := "law.go:50", after := #[{ on := 13, ground := Ground.chain }, { on := 13, ground := Ground.guard }], guard := some (13, true) }) rfl (fun K hK => ?_) AllReadyH.nil
      go_simp
      go_at_call 13
      refine (HW.out _ hHeld.below).mono ?_
      rintro e w9 ⟨rfl, hb9⟩
      refine hK.out _ _ (hHeld.next hb9) (fun hHeld => ?_)
      clear hK K
      try simp only [Act.put, List.setIfInBounds_toArray, List.set_cons_zero, List.set_cons_succ]
      refine wpAnyH_take (i := 15) (oi := { dst := some 56, op := Op.pick (Operand.tmp 54) (Operand.tmp 55) (Operand.const (Value.bool false)), type := _, pos := "law.go:50", after := #[{ on := 13, ground := Ground.data }, { on := 14, ground := Ground.data }], guard := none }) (v := .bool true) rfl (by kernel_rfl) (by kernel_rfl) (by kernel_rfl) (fun _ _ _ h => h) (Or.inl ⟨by rfl, ?_⟩) hHeld ?_
      · intro w' hSw
        skip
        go_simp
      try simp only [Act.put, List.setIfInBounds_toArray, List.set_cons_zero, List.set_cons_succ]
      refine wpAnyH_take (i := 16) (oi := { dst := some 4, op := Op.assign (Operand.tmp 56), type := _, pos := "law.go:50", after := #[{ on := 15, ground := Ground.data }, { on := 14, ground := Ground.chain }, { on := 0, ground := Ground.phase }, { on := 1, ground := Ground.phase }, { on := 2, ground := Ground.phase }, { on := 3, ground := Ground.phase }, { on := 4, ground := Ground.phase }, { on := 5, ground := Ground.phase }, { on := 6, ground := Ground.phase }, { on := 7, ground := Ground.phase }, { on := 8, ground := Ground.phase }, { on := 9, ground := Ground.phase }, { on := 10, ground := Ground.phase }, { on := 11, ground := Ground.phase }, { on := 12, ground := Ground.phase }, { on := 13, ground := Ground.phase }, { on := 14, ground := Ground.phase }, { on := 15, ground := Ground.phase }], guard := none }) (v := .bool true) rfl (by kernel_rfl) (by kernel_rfl) (by kernel_rfl) (fun _ _ _ h => h) (Or.inl ⟨by rfl, ?_⟩) hHeld ?_
      · intro w' hSw
        skip
        go_simp
      try simp only [Act.put, List.setIfInBounds_toArray, List.set_cons_zero, List.set_cons_succ]
      refine wpAnyH_done (by kernel_rfl) ?_ _
      go_wp2_with fail
      go_ret
      exact ⟨rfl, hHeld.below⟩

theorem parts_walk (A : Array Value) (s : SvR) (hA : SvAt A s) (B : Array Value) (r : SvR) (hB : SvAt B r) (w : World) (HT : Hid (pTab w)) (hs : SvOk s w) (hr : SvOk r w) :
    Calls Tryd.prog 7 #[.agg A, .agg B] w fun e w' => e = .returned (.bool true) ∧ Below w.heap.size w w' := by
  obtain ⟨x, h, hS, hx⟩ := st_form s.S hs.S hs.Sok
  obtain ⟨y, g, hR, hy⟩ := st_form r.S hr.S hr.Sok
  exact parts_in A B s r hA hB x h y g w ⟨hs, hS, hx⟩ ⟨hr, hR, hy⟩ HT
end Go.Proofs.YtjnakhejdpkfnaaDoor
