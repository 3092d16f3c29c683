/- The walk of JudgeJoins. -/
import Derived.Test.YtjnakhejdpkfnaaDoorJudJ
import Derived.Laws.AppendOwnNone
import Derived.Maps.AppendAt
namespace Go.Proofs.YtjnakhejdpkfnaaDoor
open Go.RowKit
set_option linter.unusedSimpArgs false
set_option linter.unusedVariables false
set_option maxRecDepth 100000

/-- Behind two rows that are the same: nothing, or what is behind one alone. -/
theorem firstL_same {α : Type} [DecidableEq α] (L N : List α) : firstL (L ++ N) (L ++ N) = -1 := firstL_none (fun _ => rfl)
theorem firstL_more {α : Type} [DecidableEq α] (L N : List α) (x : α) : firstL (L ++ N) (L ++ N ++ [x]) = ((L ++ N).length : Int) := by
  refine firstL_at (fun j hj => ?_) ?_
  · exact (List.getElem?_append_left hj).symm
  · rw [List.getElem?_eq_none (Nat.le_refl _), List.getElem?_append_right (Nat.le_refl _)]; simp
theorem firstL_eq {α : Type} [DecidableEq α] : ∀ {L M : List α}, firstL L M = -1 → L = M
  | [], [], _ => rfl
  | x :: l, y :: m, h => by
    unfold firstL at h
    split at h
    · rename_i e
      split at h
      · rename_i e2; rw [e, firstL_eq e2]
      · have := (firstL_bd l m).1; omega
    · omega
  | [], y :: m, h => by simp [firstL] at h
  | x :: l, [], h => by simp [firstL] at h
theorem firstL_in {α : Type} [DecidableEq α] : ∀ {L M : List α} (N : List α) {k : Nat}, firstL L M = (k : Int) → k < L.length → k < M.length → firstL (L ++ N) (M ++ N) = (k : Int)
  | x :: l, y :: m, N, k, h, h1, h2 => by
    unfold firstL at h
    simp only [List.cons_append]
    unfold firstL
    split at h
    · rename_i e
      rw [if_pos e]
      split at h
      · omega
      · rename_i e2
        have hb := (firstL_bd l m).1
        obtain ⟨j, rfl⟩ : ∃ j, k = j + 1 := ⟨k - 1, by omega⟩
        rw [firstL_in N (k := j) (by omega) (by simpa using h1) (by simpa using h2)]
        rw [if_neg (by omega)]; omega
    · rename_i e
      rw [if_neg e]; exact h
  | [], _, _, _, _, h1, _ => by simp at h1
  | _ :: _, [], _, _, _, _, h2 => by simp at h2

theorem Tryd.infoB : (Tryd.prog.info? 5).map (fun i => (i.zero, i.size, i.bytes)) = some (some (.int .u8 0), 1, 1) := by kernel_rfl

/-- 'append(s, x...)', s the call's own, x bytes that came in. -/
theorem append_bytes {ops : Array Oper} {rest : List Oper} {o : Oper} {a : Act} {w : World} {Q : Exit → Act → World → Prop} (hgd : o.guard = none) (s x : Operand)
    (ho : o.op = .call { callee := .builtin .append, args := #[s, x], argTypes := #[22, 22] }) (base : Nat) (v : Value) (n : Nat) (X : List Int) (hs : a.eval s = v) (hown : w.ownsRow base 5 1 v n (X.map (Value.int .u8)))
    (ao : Option Addr) (len cap : Nat) (L : List Int) (hx : a.eval x = .slice ao len cap) (hy : ByteArg w ao len cap L) (hnone : ao = none → len = 0 ∧ cap = 0) (hb : n + len ≤ 140737488355328) (hbase : base ≤ w.heap.size)
    (h : ∀ v' w', w'.ownsRow base 5 1 v' (n + len) ((X ++ L).map (Value.int .u8)) → w.grownBy w' v.ownBlock → wpList Tryd.prog ops Q rest (a.put o.dst v') w') : wpList Tryd.prog ops Q (o :: rest) a w := by
  obtain ⟨hL, hlc, hcm, hbt, hB⟩ := hy
  obtain ⟨i0, hi, hz0, hz1, hz2⟩ := info_parts Tryd.infoB
  cases ao with
  | none =>
    obtain ⟨h1, h2⟩ := hnone rfl
    subst h1 h2
    obtain rfl : L = [] := List.eq_nil_of_length_eq_zero hL
    refine wpList_append_own_none hgd s x 22 ho base 5 i0 1 Tryd.underlying22 hi v n _ hs hown hx (h v w ?_ ?_)
    · simpa using hown
    · exact ⟨rfl, rfl, rfl, Nat.le_refl _, fun _ _ _ => rfl⟩
  | some ad =>
    refine wpList_append_own _ hgd s x 22 ho base 5 i0 (.int .u8 0) 1 1 Tryd.underlying22 hi hz0 hz1 hz2 rfl (by decide) v n _ hs hown ad len cap (L.map (Value.int .u8)) hx (by simp [hL]) ?_ ?_ (by unfold maxLen; omega) (by omega) hbase ?_
    · intro j u hu
      rcases hB with hB | ⟨blk, off, he, hc⟩
      · subst hB; simp at hu
      · cases he
        have hj : j < L.length := by simpa using (List.getElem?_eq_some_iff.1 hu).1
        have := hc j hj
        rw [show (⟨blk, off, none⟩ : Addr).add j = ⟨blk, off + j, none⟩ from by unfold Addr.add; split <;> simp_all, this]
        simp only [List.getElem?_map, List.getElem?_eq_getElem hj, Option.map_some, Option.some.injEq] at hu
        rw [← hu]; simp [List.getD, hj]
    · intro u hu
      simp only [List.mem_map] at hu
      obtain ⟨_, _, rfl⟩ := hu
      rfl
    · intro v' w' h1 h2 _
      exact h v' w' (by simpa using h1) h2

theorem owned_arg {w : World} {base n : Nat} {v : Value} {X : List Int} (h : w.ownsRow base 5 1 v n (X.map (Value.int .u8))) (hb : ∀ x ∈ X, 0 ≤ x ∧ x < 256) : ∃ ao cap, v = .slice ao n cap ∧ ByteArg w ao n cap X ∧ (ao = none → n = 0 ∧ cap = 0) ∧ ∀ g o, ao = some ⟨g, o, none⟩ → base ≤ g := by
  have hl : X.length = n := by simpa using h.1
  rcases h.2 with ⟨h1, h2⟩ | ⟨g, cap, cur, h1, h2, h3, h4, h5, h6, h7⟩
  · subst h2
    exact ⟨none, 0, h1, ⟨hl, Nat.le_refl _, by decide, hb, .inl (List.eq_nil_of_length_eq_zero hl)⟩, fun _ => ⟨rfl, rfl⟩, fun g o h => by cases h⟩
  · refine ⟨_, cap, h1, ⟨hl, h4, h5, hb, .inr ⟨g, 0, rfl, fun i hi => ?_⟩⟩, fun h => (by cases h), fun g' o h => by cases h; exact h2⟩
    rw [cell_of_row w g (0 + i) _ _ _ h3]
    have : (cur.toList.take (n * 1))[i]? = (X.map (Value.int .u8))[i]? := by rw [h7]
    rw [List.getElem?_take, if_pos (by omega)] at this
    simp only [Nat.zero_add, ← Array.getElem?_toList, this, List.getElem?_map, List.getElem?_eq_getElem hi, Option.map_some]
    simp [List.getD, hi]

theorem own_empty (w : World) : (w.alloc (.cells #[] 5)).ownsRow w.heap.size 5 1 (.slice (some ⟨w.heap.size, 0, none⟩) 0 0) 0 (([] : List Int).map (Value.int .u8)) :=
  ⟨rfl, .inr ⟨w.heap.size, 0, #[], rfl, Nat.le_refl _, heap_newJ rfl, Nat.le_refl _, by decide, rfl, rfl⟩⟩
theorem own_ge {w : World} {base n size : Nat} {e : TypeId} {v : Value} {xs : List Value} (h : w.ownsRow base e size v n xs) : ∀ k, v.ownBlock = some k → base ≤ k := by
  intro k hk
  rcases h.2 with ⟨h1, _⟩ | ⟨g, cap, cur, h1, h2, _⟩
  · rw [h1] at hk; cases hk
  · rw [h1] at hk; cases hk; exact h2
/-- What two appends behind an empty row leave. -/
theorem two_below {w1 w2 w3 : World} {v2 : Value} {n : Nat} {xs : List Value} (g2 : (w1.alloc (.cells #[] 5)).grownBy w2 (some w1.heap.size)) (o2 : w2.ownsRow w1.heap.size 5 1 v2 n xs) (g3 : w2.grownBy w3 v2.ownBlock) : Below w1.heap.size w1 w2 ∧ Below w1.heap.size w1 w3 := by
  have h2 : Below w1.heap.size w1 w2 := ((Below.refl _ _).alloc (Nat.le_refl _) _).grown g2 (by simp) (fun k hk => by cases hk; exact Nat.le_refl _)
  exact ⟨h2, h2.grown g3 h2.size (own_ge o2)⟩
theorem one_below {w1 w2 : World} (g2 : (w1.alloc (.cells #[] 5)).grownBy w2 (some w1.heap.size)) : Below w1.heap.size w1 w2 :=
  ((Below.refl _ _).alloc (Nat.le_refl _) _).grown g2 (by simp) (fun k hk => by cases hk; exact Nat.le_refl _)

theorem own_keepJ {w w' : World} {base n size : Nat} {e : TypeId} {v : Value} {xs : List Value} (h : w.ownsRow base e size v n xs) (hb : Below w.heap.size w w') : w'.ownsRow base e size v n xs := by
  refine ⟨h.1, ?_⟩
  rcases h.2 with h | ⟨g, cap, cur, h1, h2, h3, h4⟩
  · exact .inl h
  · exact .inr ⟨g, cap, cur, h1, h2, (hb.block _ (lt_of_rowJ h3)).trans h3, h4⟩
/-- 'append(s, 1)', in a guarded operation. -/
theorem append_oneG {ops : Array Oper} {rest : List Oper} {o : Oper} {a : Act} {w : World} {Q : Exit → Act → World → Prop} (hw : Region.wanted o (yielded ops a.tmps) = true) (s x : Operand)
    (ho : o.op = .call { callee := .builtin .append, args := #[s, x], argTypes := #[22, 22] }) (base : Nat) (v : Value) (n : Nat) (X : List Int) (hs : a.eval s = v) (hown : w.ownsRow base 5 1 v n (X.map (Value.int .u8)))
    (k : Nat) (y : Int) (hx : a.eval x = .slice (some ⟨k, 0, none⟩) 1 1) (hc : w.cell? ⟨k, 0, none⟩ = some (.int .u8 y)) (hb : n + 1 ≤ 140737488355328) (hbase : base ≤ w.heap.size)
    (h : ∀ v' w', w'.ownsRow base 5 1 v' (n + 1) ((X ++ [y]).map (Value.int .u8)) → w.grownBy w' v.ownBlock → wpList Tryd.prog ops Q rest (a.put o.dst v') w') : wpList Tryd.prog ops Q (o :: rest) a w := by
  obtain ⟨i0, hi, hz0, hz1, hz2⟩ := info_parts Tryd.infoB
  unfold wpList
  rw [if_pos hw]
  refine .inl (wp_append_own _ s x 22 ho base 5 i0 (.int .u8 0) 1 1 Tryd.underlying22 hi hz0 hz1 hz2 rfl (by decide) v n _ hs hown ⟨k, 0, none⟩ 1 1 [.int .u8 y] hx rfl ?_ ?_ (by unfold maxLen; omega) (by omega) hbase ?_)
  · intro j u hu
    match j, hu with
    | 0, hu =>
      simp at hu; subst hu
      rw [show (⟨k, 0, none⟩ : Addr).add 0 = ⟨k, 0, none⟩ from by unfold Addr.add; split <;> simp_all]
      exact hc
  · intro u hu
    simp at hu; subst hu; rfl
  · intro v' w' h1 h2 _
    exact h v' w' (by simpa using h1) h2

set_option maxHeartbeats 8000000 in
theorem joins_walk (ao : Option Addr) (la ca : Nat) (L : List Int) (bo : Option Addr) (lb cb : Nat) (M : List Int) (co : Option Addr) (lc cc : Nat) (N : List Int) (w : World) (HT : Hid (pTab w)) (hA : ByteArg w ao la ca L) (na : ao = none → la = 0 ∧ ca = 0) (sa : la ≤ 140737488351232) (hB : ByteArg w bo lb cb M) (nb : bo = none → lb = 0 ∧ cb = 0) (sb : lb ≤ 140737488351232) (hN : ByteArg w co lc cc N) (nn : co = none → lc = 0 ∧ cc = 0) (sn : lc ≤ 140737488351232) :
    Calls Tryd.prog 5 #[.slice ao la ca, .slice bo lb cb, .slice co lc cc] w fun e w' => e = .returned (.bool true) ∧ Below w.heap.size w w' := by
  have H1 := Lib.hid (bytes_c ao bo la ca lb cb L M w hA hB)
  have HW := Lib.hid fun (W : World) (hb : Below w.heap.size w W) => works_c W (pTab_on HT hb)
  have HAx := Lib.hid fun (W : World) (hb : Below w.heap.size w W) => hA.below hb
  have HBx := Lib.hid fun (W : World) (hb : Below w.heap.size w W) => hB.below hb
  have HNx := Lib.hid fun (W : World) (hb : Below w.heap.size w W) => hN.below hb
  have eL : L.length = la := hA.1
  have eM : M.length = lb := hB.1
  have eN : N.length = lc := hN.1
  have HEL := Lib.hid eL
  have HEM := Lib.hid eM
  have HEN := Lib.hid eN
  have HbL := Lib.hid hA.2.2.2.1
  have HbM := Lib.hid hB.2.2.2.1
  have HbN := Lib.hid hN.2.2.2.1
  have hbd := firstL_bd L M
  rw [eL, eM] at hbd
  obtain ⟨K, hK⟩ : ∃ K, K = firstL L M := ⟨_, rfl⟩
  rw [← hK] at H1 hbd
  have HK := Lib.hid hK
  have Hna := Lib.hid na
  have Hnb := Lib.hid nb
  have Hnn := Lib.hid nn
  clear hA hB hN eL eM eN hK na nb nn
  by_cases c1 : 200 < lc
  · have i1 : (200 : Int) < (lc : Int) := by omega
    have e1 : decide (200 < lc) = true := by simpa using c1
    go_enter Tryd.func5, Tryd.ntmps5
    go_wp2_with fail
    refine H1.out.mono ?_
    rintro e w1 ⟨rfl, hb1⟩
    go_wp2_with fail
    refine (HW.out _ hb1).mono ?_
    rintro e w3 ⟨rfl, hb3⟩
    go_wp2_with fail
    go_ret
    exact ⟨rfl, below_nextJ hb1 hb3⟩
  have i1 : ¬ (200 : Int) < (lc : Int) := by omega
  have e1 : decide (200 < lc) = false := by simpa using c1
  by_cases c2 : (la : Int) ≤ K
  · go_enter Tryd.func5, Tryd.ntmps5
    go_wp2_with fail
    refine H1.out.mono ?_
    rintro e w1 ⟨rfl, hb1⟩
    go_wp2_with fail
    refine (HW.out _ hb1).mono ?_
    rintro e w3 ⟨rfl, hb3⟩
    go_wp2_with fail
    go_ret
    exact ⟨rfl, below_nextJ hb1 hb3⟩
  by_cases c3 : (lb : Int) ≤ K
  · go_enter Tryd.func5, Tryd.ntmps5
    go_wp2_with fail
    refine H1.out.mono ?_
    rintro e w1 ⟨rfl, hb1⟩
    go_wp2_with fail
    refine (HW.out _ hb1).mono ?_
    rintro e w3 ⟨rfl, hb3⟩
    go_wp2_with fail
    go_ret
    exact ⟨rfl, below_nextJ hb1 hb3⟩
  have hsp : lc ≤ 200 := by omega
  by_cases c5 : 0 ≤ K
  · go_enter Tryd.func5, Tryd.ntmps5
    go_wp2_with fail
    refine H1.out.mono ?_
    rintro e w1 ⟨rfl, hb1⟩
    go_wp2_with (first
      | (at_builtin; refine append_bytes rfl _ _ rfl w1.heap.size _ 0 [] rfl (own_empty w1) ao la ca L rfl (HAx.out _ (hb1.alloc hb1.size _)) Hna.out (by omega) (by simp) ?_; intro v2 w2 own2 gr2; have S2 := one_below gr2; have B2 := below_nextJ hb1 S2; have Z2 := S2.size)
      | (at_builtin; refine append_bytes rfl _ _ rfl w1.heap.size v2 (0 + la) ([] ++ L) rfl own2 co lc cc N rfl (HNx.out _ B2) Hnn.out (by omega) Z2 ?_; intro v3 w3 own3 gr3; have S3 := (two_below gr2 own2 gr3).2; have B3 := below_nextJ hb1 S3)
      | (at_builtin; refine append_bytes rfl _ _ rfl w3.heap.size _ 0 [] rfl (own_empty w3) bo lb cb M rfl (HBx.out _ (B3.alloc B3.size _)) Hnb.out (by omega) (by simp) ?_; intro v4 w4 own4 gr4; have S4 := one_below gr4; have B4 := below_nextJ B3 S4; have Z4 := S4.size)
      | (at_builtin; refine append_bytes rfl _ _ rfl w3.heap.size v4 (0 + lb) ([] ++ M) rfl own4 co lc cc N rfl (HNx.out _ B4) Hnn.out (by omega) Z4 ?_; intro v5 w5 own5 gr5; have S5 := (two_below gr4 own4 gr5).2; have B5 := below_nextJ B3 S5))
    simp only [Nat.zero_add, List.nil_append] at own3 own5
    have bX : ∀ x ∈ L ++ N, 0 ≤ x ∧ x < 256 := fun x hx => by
      simp only [List.mem_append] at hx
      rcases hx with h | h
      · exact HbL.out x h
      · exact HbN.out x h
    have bY : ∀ x ∈ M ++ N, 0 ≤ x ∧ x < 256 := fun x hx => by
      simp only [List.mem_append] at hx
      rcases hx with h | h
      · exact HbM.out x h
      · exact HbN.out x h
    obtain ⟨xo, xc, hv3, hX, -, -⟩ := owned_arg own3 bX
    obtain ⟨yo, yc, hv5, hY, -, -⟩ := owned_arg own5 bY
    subst hv3
    have G5 := own_ge own5
    have O5 := own5
    subst hv5
    have hF : firstL (L ++ N) (M ++ N) = K := by
      obtain ⟨k, rfl⟩ : ∃ k : Nat, K = (k : Int) := ⟨K.toNat, by omega⟩
      exact firstL_in N HK.out.symm (by have := HEL.out; simp; omega) (by have := HEM.out; simp; omega)
    have hC := bytes_c xo yo _ xc _ yc _ _ w5 (hX.below S5) hY
    rw [hF] at hC
    refine hC.mono ?_
    rintro e w6 ⟨rfl, hb6⟩
    have B6 := below_nextJ B5 hb6
    go_wp2_with fail
    refine (HW.out _ B6).mono ?_
    rintro e w7 ⟨rfl, hb7⟩
    go_wp2_with fail
    go_ret
    exact ⟨rfl, below_nextJ B6 hb7⟩
  · go_enter Tryd.func5, Tryd.ntmps5
    go_wp2_with fail
    refine H1.out.mono ?_
    rintro e w1 ⟨rfl, hb1⟩
    go_wp2_with (first
      | (at_builtin; refine append_bytes rfl _ _ rfl w1.heap.size _ 0 [] rfl (own_empty w1) ao la ca L rfl (HAx.out _ (hb1.alloc hb1.size _)) Hna.out (by omega) (by simp) ?_; intro v2 w2 own2 gr2; have S2 := one_below gr2; have B2 := below_nextJ hb1 S2; have Z2 := S2.size)
      | (at_builtin; refine append_bytes rfl _ _ rfl w1.heap.size v2 (0 + la) ([] ++ L) rfl own2 co lc cc N rfl (HNx.out _ B2) Hnn.out (by omega) Z2 ?_; intro v3 w3 own3 gr3; have S3 := (two_below gr2 own2 gr3).2; have B3 := below_nextJ hb1 S3)
      | (at_builtin; refine append_bytes rfl _ _ rfl w3.heap.size _ 0 [] rfl (own_empty w3) bo lb cb M rfl (HBx.out _ (B3.alloc B3.size _)) Hnb.out (by omega) (by simp) ?_; intro v4 w4 own4 gr4; have S4 := one_below gr4; have B4 := below_nextJ B3 S4; have Z4 := S4.size)
      | (at_builtin; refine append_bytes rfl _ _ rfl w3.heap.size v4 (0 + lb) ([] ++ M) rfl own4 co lc cc N rfl (HNx.out _ B4) Hnn.out (by omega) Z4 ?_; intro v5 w5 own5 gr5; have S5 := (two_below gr4 own4 gr5).2; have B5 := below_nextJ B3 S5))
    simp only [Nat.zero_add, List.nil_append] at own3 own5
    have bX : ∀ x ∈ L ++ N, 0 ≤ x ∧ x < 256 := fun x hx => by
      simp only [List.mem_append] at hx
      rcases hx with h | h
      · exact HbL.out x h
      · exact HbN.out x h
    have bY : ∀ x ∈ M ++ N, 0 ≤ x ∧ x < 256 := fun x hx => by
      simp only [List.mem_append] at hx
      rcases hx with h | h
      · exact HbM.out x h
      · exact HbN.out x h
    obtain ⟨xo, xc, hv3, hX, -, -⟩ := owned_arg own3 bX
    obtain ⟨yo, yc, hv5, hY, -, -⟩ := owned_arg own5 bY
    subst hv3
    have G5 := own_ge own5
    have O5 := own5
    subst hv5
    have hk1 : K = -1 := by omega
    have hLM : L = M := firstL_eq (by rw [← HK.out]; exact hk1)
    have hF : firstL (L ++ N) (M ++ N) = -1 := by rw [hLM]; exact firstL_same _ _
    have hF2 : firstL (L ++ N) (M ++ N ++ [1]) = ((la + lc : Nat) : Int) := by
      rw [← hLM]
      rw [firstL_more]
      simp [HEL.out, HEN.out]
    have hC := bytes_c xo yo _ xc _ yc _ _ w5 (hX.below S5) hY
    rw [hF] at hC
    have HF2 := Lib.hid hF2
    have BY := Lib.hid bY
    clear hF2 hF hLM bX bY
    refine hC.mono ?_
    rintro e w6 ⟨rfl, hb6⟩
    have B6 := below_nextJ B5 hb6
    have O6 := (own_keepJ O5 hb6).alloc (.cells #[.int .u8 1] 5)
    have B36 := below_nextJ S5 hb6
    go_wp2_with (first
      | (at_builtin; refine append_oneG (by rfl) _ _ rfl w3.heap.size _ _ _ rfl O6 w6.heap.size 1 rfl (by go_simp) (by omega) (by have := B36.size; simp; omega) ?_; intro v7 w7 own7 gr7; have S7 := (B36.alloc B36.size (.cells #[.int .u8 1] 5)).grown gr7 (by have := B36.size; simp; omega) G5; have B7 := below_nextJ B3 S7))
    have bZ : ∀ x ∈ M ++ N ++ [1], 0 ≤ x ∧ x < 256 := fun x hx => by
      rcases List.mem_append.1 hx with h | h
      · exact BY.out x h
      · simp at h; omega
    obtain ⟨zo, zc, hv7, hZ, -, -⟩ := owned_arg own7 bZ
    subst hv7
    have hC2 := bytes_c xo zo _ xc _ zc _ _ w7 (hX.below S7) hZ
    rw [HF2.out] at hC2
    refine hC2.mono ?_
    rintro e w8 ⟨rfl, hb8⟩
    have B8 := below_nextJ B7 hb8
    go_wp2_with fail
    refine (HW.out _ B8).mono ?_
    rintro e w9 ⟨rfl, hb9⟩
    go_wp2_with fail
    go_ret
    exact ⟨rfl, below_nextJ B8 hb9⟩
end Go.Proofs.YtjnakhejdpkfnaaDoor
