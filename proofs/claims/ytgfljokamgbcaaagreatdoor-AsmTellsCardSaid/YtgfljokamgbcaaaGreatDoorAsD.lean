/- The walk of (*work).lay of asm. (Written by mkAD.py.) -/
import Derived.Test.YtgfljokamgbcaaaGreatDoorAsB
import Derived.Deep.RegionHeld
namespace Go.Proofs.YtgfljokamgbcaaaGreatDoor
open Go.RowKit
set_option linter.unusedSimpArgs false
set_option linter.unusedVariables false
set_option maxRecDepth 100000

theorem Tryz.infoMk : (Tryz.prog.info? 63).map (fun i => (i.zero, i.size, i.bytes)) = some (some (.agg #[.int .i64 0, .int .i64 0]), 2, 16) := by kernel_rfl
theorem cells_newA (w : World) (xs : List Value) (t : TypeId) (k : Nat) (hk : k = w.heap.size) : ∀ j u, xs[j]? = some u → (w.alloc (.cells xs.toArray t)).cell? ((⟨k, 0, none⟩ : Addr).add j) = some u := by
  intro j u hu
  subst hk
  have hadd : (⟨w.heap.size, 0, none⟩ : Addr).add j = ⟨w.heap.size, j, none⟩ := by unfold Addr.add; split <;> simp_all
  rw [hadd, cell_of_row (w.alloc (.cells xs.toArray t)) w.heap.size j xs.toArray t (0, 0) (heap_alloc_new w _)]
  simpa using hu
theorem addr0A (g j : Nat) : (⟨g, 0, none⟩ : Addr).add j = ⟨g, j, none⟩ := by unfold Addr.add; split <;> simp_all
theorem own_some1A {w : World} {base e n : Nat} {v : Value} {xs : List Value} (h : w.ownsRow base e 1 v n xs) (hp : 0 < n) : ∃ g cap, v = .slice (some ⟨g, 0, none⟩) n cap ∧ n ≤ cap ∧ g < w.heap.size ∧ (∀ j u, xs[j]? = some u → w.cell? ⟨g, j, none⟩ = some u) ∧ base ≤ g ∧ cap ≤ maxLen ∧ ∃ cur : Array Value, w.heap[g]? = some (.cells cur e (0, 0)) ∧ cur.size = cap ∧ cur.toList.take n = xs := by
  rcases h.2 with ⟨-, h1⟩ | ⟨g, cap, cur, rfl, h2, h3, h4, h5, h6, h7⟩
  · omega
  · refine ⟨g, cap, rfl, h4, (Array.getElem?_eq_some_iff.1 h3).1, fun j u hu => ?_, h2, h5, cur, h3, by omega, by simpa using h7⟩
    have hj : j < n * 1 := by have := (List.getElem?_eq_some_iff.1 hu).1; rw [h.1] at this; exact this
    rw [h.cellAt j hj]
    exact hu
theorem over_len {l b : List Int} {a : Nat} (h : a + b.length ≤ l.length) : (over l a b).length = l.length := by
  unfold over
  simp
  omega
/-- A row that is written over from a place on. -/
theorem over_row {l b : List Int} {a : Nat} {cur : List Value} (h : a + b.length ≤ l.length) (hc : cur.take l.length = l.map (Value.int .u8)) : (cur.take a ++ (b.map (Value.int .u8) ++ cur.drop (a + b.length))).take l.length = (over l a b).map (Value.int .u8) := by
  have hl : l.length ≤ cur.length := by have := congrArg List.length hc; simp at this; omega
  have e1 : cur.take a = (l.map (Value.int .u8)).take a := by rw [← hc, List.take_take, Nat.min_eq_left (by omega)]
  have e2 : (cur.drop (a + b.length)).take (l.length - (a + b.length)) = (l.map (Value.int .u8)).drop (a + b.length) := by rw [← hc, List.drop_take]
  have hX : (cur.take a ++ b.map (Value.int .u8)).length = a + b.length := by simp; omega
  rw [← List.append_assoc, List.take_append, hX, List.take_of_length_le (by rw [hX]; exact h), e2, e1]
  unfold over
  simp
theorem grown_setRow {w : World} {g : Nat} {cs : Array Value} : w.grownBy (w.setRow g cs) (some g) :=
  ⟨rfl, rfl, rfl, by simp [World.setRow], fun k _ hk => setRow_other w g k cs (fun e => hk (by rw [e]))⟩

set_option maxHeartbeats 8000000 in
theorem layA_c (base wk pb ob : Nat) (again : Bool) (S : St) (pl : List (Wd × Int)) (vB vL vM : Value) (n : Int) (ao : Option Addr) (len cap gb cb : Nat) (bs : List Int) (w : World) (hF : AsFix base wk pb ob again S pl vB vL vM w) (hs : base ≤ w.heap.size)
    (hcb : bs.length ≤ cb) (hgb : gb < w.heap.size) (hcells : ∀ j u, (bs.map (Value.int .u8))[j]? = some u → w.cell? ⟨gb, j, none⟩ = some u) (hbk1 : some gb ≠ vB.ownBlock) (hbw : gb ≠ wk) (b1 : 1 ≤ bs.length) (b2 : bs.length ≤ 100000) (a0 : 0 ≤ S.at') (a1 : S.at' ≤ 4096) (hbl : S.bytes.length ≤ 4096) (hml : S.marks.length ≤ 100000) (hpl : pl = S.labels) :
    Calls Tryz.prog 59 #[.pointer (some ⟨wk, 0, none⟩), lnV n ao len cap, .slice (some ⟨gb, 0, none⟩) bs.length cb] w (MetP base wk pb ob again (layF again S n bs) w) := by
  obtain ⟨r0, hr, hy0, hy1, hy2⟩ := info_parts Tryz.infoMk
  unfold lnV
  obtain ⟨a, ha⟩ : ∃ a : Nat, S.at' = (a : Int) := ⟨S.at'.toNat, by omega⟩
  have k0 : w.cell? ⟨wk, 0, none⟩ = some (.int .i64 (a : Int)) := by rw [← ha]; exact hF.cell 0
  have hlt := hF.lt
  have hwb := hF.le
  have hplt := hF.pm.lt
  have HT := Lib.hid fun (w1 : World) (h : Below w.heap.size w w1) => to_c base wk pb ob again S pl vB vL vM (S.at' + (bs.length : Int)) w1 (hF.below h) (Nat.le_trans hs h.size) (by omega) (by omega) hbl
  rw [ha] at HT
  have hwr : IntKind.i64.wrap ((a : Int) + (bs.length : Int)) = (a : Int) + (bs.length : Int) := IntWalk.i64_in _ ⟨by omega, by omega⟩
  obtain ⟨R, hR⟩ : ∃ R, toF again S ((a : Int) + (bs.length : Int)) = R := ⟨_, rfl⟩
  have hLR : layF again S n bs = (match (generalizing := false) R with | .error e => .error e | .ok T => .ok (if again then { T with bytes := over T.bytes a bs, marks := T.marks ++ [((a : Int), n)] } else T)) := by
    unfold layF
    rw [ha, hR]
    cases R <;> simp
  rw [hLR]
  rw [hR] at HT
  have hTl : ∀ T, R = .ok T → again = true → a + bs.length ≤ T.bytes.length ∧ T.marks = S.marks ∧ T.labels = S.labels := fun T hT hag => by
    rw [← hR] at hT
    unfold toF at hT
    split at hT
    · cases hT
    · cases hT
      exact ⟨by simp [hag]; omega, rfl, rfl⟩
  have hTl2 : ∀ T, R = .ok T → T.labels = S.labels := fun T hT => by
    rw [← hR] at hT
    unfold toF at hT
    split at hT
    · cases hT
    · cases hT; rfl
  have HC := Lib.hid hcells
  have HTl := Lib.hid hTl
  have HTl2 := Lib.hid hTl2
  clear hcells hTl hTl2 hLR hF hR
  go_enter Tryz.func59, Tryz.ntmps59
  go_wp2_with fail
  refine (HT.out _ ((Below.refl _ _).alloc (Nat.le_refl _) _)).mono ?_
  rintro e w2 ⟨hfr, hkept, hres⟩
  have hfr0 : Fr base pb w w2 := (Fr.of_below ((Below.refl _ _).alloc (Nat.le_refl _) _) hs).trans hfr
  have hsz2 : w.heap.size < w2.heap.size := by have := hfr.size; simp at this; omega
  cases R with
  | error er =>
    obtain rfl := hres
    exact ⟨rfl, hfr0, rfl⟩
  | ok T =>
    obtain ⟨rfl, vB', hO', hF2⟩ := hres
    have hT := HTl.out T rfl
    have hTlab := HTl2.out T rfl
    cases again
    · have a1 : w2.cell? ⟨wk, 1, none⟩ = some (.bool false) := hF2.cell 1
      go_wp2_with fail
      go_end0
      refine ⟨hfr0, rfl, vB', vL, vM, ?_⟩
      rw [hpl, ← hTlab] at hF2
      simpa using hF2
    · obtain ⟨t1, t2, t3⟩ := hT rfl
      obtain ⟨g, cB, rfl, hcB, hgB, -, hbg, hcm, cur, hcur, hcsz, hctk⟩ := own_some1A hF2.bs (by omega)
      have a1 : w2.cell? ⟨wk, 1, none⟩ = some (.bool true) := hF2.cell 1
      have a4 : w2.cell? ⟨wk, 4, none⟩ = some (.slice (some ⟨g, 0, none⟩) T.bytes.length cB) := hF2.cell 4
      have hgw : g ≠ gb := fun e => by
        rcases hO' g rfl with h | h
        · rw [e] at h; exact hbk1 h
        · simp at h; omega
      have hbx : w2.heap[w.heap.size]? = some (.cells #[.int .i64 n, .slice ao len cap] 51 (0, 0)) := hfr.out _ _ (heap_alloc_new w _) (by simp [OutO]) (fun e => by omega)
      have HB2 : Hid (∀ j u, (bs.map (Value.int .u8))[j]? = some u → w2.cell? ⟨gb, j, none⟩ = some u) := Lib.hid fun j u hu => (World.cell?_of_block (a := ⟨gb, j, none⟩) ((hkept gb (by simp; omega) hbw hbk1).trans (heap_alloc_old w _ hgb))).trans (HC.out j u hu)
      have i1 : (0 : Int) ≤ (a : Int) ∧ (a : Int) ≤ (T.bytes.length : Int) := by omega
      have i2 : (T.bytes.length : Int) ≤ (cB : Int) := by omega
      have i3 : (a : Int) < (cB : Int) := by omega
      have hmt : maxLen = 9223372036854775807 := rfl
      have hown3 : (w2.setRow g (cur.toList.take a ++ (bs.map (Value.int .u8) ++ cur.toList.drop (a + (bs.map (Value.int .u8)).length))).toArray).ownsRow base 5 1 (.slice (some ⟨g, 0, none⟩) T.bytes.length cB) (over T.bytes a bs).length ((over T.bytes a bs).map (Value.int .u8)) := by
        refine ⟨by simp, .inr ⟨g, cB, _, by rw [over_len t1], hbg, setRow_heap _ _ _ _ _ _ hcur, by rw [over_len t1]; exact hcB, hcm, ?_, ?_⟩⟩
        · have : cur.toList.length = cB := by simpa using hcsz
          simp
          omega
        · rw [over_len t1, Nat.mul_one, List.length_map]
          exact over_row t1 hctk
      have hF3 := hF2.rowBytes (L' := over T.bytes a bs) grown_setRow hown3
      have hfr3 : Fr base pb w2 (w2.setRow g (cur.toList.take a ++ (bs.map (Value.int .u8) ++ cur.toList.drop (a + (bs.map (Value.int .u8)).length))).toArray) := Fr.grown hF2.bs (.inl rfl) grown_setRow (by omega)
      have hlb : (bs.map (Value.int .u8)).length = Nat.min bs.length (T.bytes.length - a) := by rw [List.length_map]; exact (Nat.min_eq_left (by omega)).symm
      go_wp2_with (first | (refine wpList_copy_own rfl _ _ 23 23 rfl 5 Tryz.underlying23 (by kernel_rfl) g a (T.bytes.length - a) (cB - a) ⟨gb, 0, none⟩ bs.length cb rfl rfl cur 5 hcur (bs.map (Value.int .u8)) hlb (fun j v hv => by rw [addr0A]; exact HB2.out j v hv) (by simp; omega) (fun u hu => by (obtain ⟨x, -, rfl⟩ := List.mem_map.1 hu; rfl)) ?_))
      obtain ⟨w3, hw3⟩ : ∃ x, x = (w2.setRow g (cur.toList.take a ++ (bs.map (Value.int .u8) ++ cur.toList.drop (a + (bs.map (Value.int .u8)).length))).toArray) := ⟨_, rfl⟩
      rw [← hw3] at hF3 hfr3 ⊢
      obtain ⟨aM, cM, rfl⟩ := own_sliceA hF3.ms
      have k6 : w3.drew.cell? ⟨wk, 6, none⟩ = some (.slice aM T.marks.length cM) := hF3.cell 6
      have k6' : w3.cell? ⟨wk, 6, none⟩ = some (.slice aM T.marks.length cM) := hF3.cell 6
      have hbx3 := hfr3.out _ _ hbx (by simp [OutO]) (by omega)
      have q0 : w3.drew.cell? ⟨w.heap.size, 0, none⟩ = some (.int .i64 n) := cell_of_row w3.drew _ 0 _ _ _ hbx3
      have q0' : w3.cell? ⟨w.heap.size, 0, none⟩ = some (.int .i64 n) := cell_of_row w3 _ 0 _ _ _ hbx3
      have lt3 : wk < w3.heap.size := hF3.lt
      have lt4 : w.heap.size < w3.heap.size := heap_ltA hbx3
      have HR3 := Lib.hid ((hF3.alloc (.cells #[.int .i64 (a : Int), .int .i64 n] 63)).drew)
      have hR0 : maxLen = 9223372036854775807 := rfl
      have HFr3 := Lib.hid (hfr0.trans hfr3)
      have hmlT : T.marks.length ≤ 100000 := by rw [t2]; exact hml
      have HTlab := Lib.hid hTlab
      have HT3 := Lib.hid t3
      clear hF2 hF3 hfr3 hw3 hown3 hcur hbx hbx3 a1 a4 t2 t3 hTlab hT
      refine wp_region_held_drew (S := fun _ => True) (by kernel_rfl) trivial (fun hHeld => ?_)
      refine wpAnyH_take (i := 0) (oi := ⟨some 30, Op.move (Operand.tmp 0), _, _, _, none⟩) (v := .pointer (some ⟨wk, 0, none⟩)) rfl (by kernel_rfl) (by kernel_rfl) (by kernel_rfl) (fun _ _ _ h => h) (Or.inl ⟨by rfl, ?_⟩) hHeld ?_
      · intro w' hSw
        skip
        go_simp
      try simp only [Act.put, List.setIfInBounds_toArray, List.set_cons_zero, List.set_cons_succ]
      refine wpAnyH_take (i := 1) (oi := ⟨some 31, Op.move (Operand.tmp 0), _, _, _, none⟩) (v := .pointer (some ⟨wk, 0, none⟩)) rfl (by kernel_rfl) (by kernel_rfl) (by kernel_rfl) (fun _ _ _ h => h) (Or.inl ⟨by rfl, ?_⟩) hHeld ?_
      · intro w' hSw
        skip
        go_simp
      try simp only [Act.put, List.setIfInBounds_toArray, List.set_cons_zero, List.set_cons_succ]
      refine wpAnyH_take (i := 2) (oi := ⟨some 32, Op.nilCheck (Operand.tmp 31), _, _, _, none⟩) (v := .pointer (some ⟨wk, 0, none⟩)) rfl (by kernel_rfl) (by kernel_rfl) (by kernel_rfl) (fun _ _ _ h => h) (Or.inl ⟨by rfl, ?_⟩) hHeld ?_
      · intro w' hSw
        skip
        go_simp
      try simp only [Act.put, List.setIfInBounds_toArray, List.set_cons_zero, List.set_cons_succ]
      refine wpAnyH_take (i := 3) (oi := ⟨some 33, Op.fieldAddr _ (Operand.tmp 32) 4, _, _, _, none⟩) (v := .pointer (some ⟨wk, 4, none⟩)) rfl (by kernel_rfl) (by kernel_rfl) (by kernel_rfl) (fun _ _ _ h => h) (Or.inl ⟨by rfl, ?_⟩) hHeld ?_
      · intro w' hSw
        skip
        go_simp
      try simp only [Act.put, List.setIfInBounds_toArray, List.set_cons_zero, List.set_cons_succ]
      refine wpAnyH_take (i := 4) (oi := ⟨some 34, Op.fieldAddr _ (Operand.tmp 33) 2, _, _, _, none⟩) (v := .pointer (some ⟨wk, 6, none⟩)) rfl (by kernel_rfl) (by kernel_rfl) (by kernel_rfl) (fun _ _ _ h => h) (Or.inl ⟨by rfl, ?_⟩) hHeld ?_
      · intro w' hSw
        skip
        go_simp
      try simp only [Act.put, List.setIfInBounds_toArray, List.set_cons_zero, List.set_cons_succ]
      refine wpAnyH_take (i := 6) (oi := ⟨some 36, Op.move (Operand.tmp 6), _, _, _, none⟩) (v := .int .i64 (a : Int)) rfl (by kernel_rfl) (by kernel_rfl) (by kernel_rfl) (fun _ _ _ h => h) (Or.inl ⟨by rfl, ?_⟩) hHeld ?_
      · intro w' hSw
        skip
        go_simp
      try simp only [Act.put, List.setIfInBounds_toArray, List.set_cons_zero, List.set_cons_succ]
      refine wpAnyH_take (i := 7) (oi := ⟨some 37, Op.fieldAddr _ (Operand.tmp 4) 0, _, _, _, none⟩) (v := .pointer (some ⟨w.heap.size, 0, none⟩)) rfl (by kernel_rfl) (by kernel_rfl) (by kernel_rfl) (fun _ _ _ h => h) (Or.inl ⟨by rfl, ?_⟩) hHeld ?_
      · intro w' hSw
        skip
        go_simp
      try simp only [Act.put, List.setIfInBounds_toArray, List.set_cons_zero, List.set_cons_succ]
      refine wpAnyH_ready (rs := [5, 8]) (by kernel_rfl) (by simp) ?_
      refine (AllReadyH.cons (o := ⟨some 35, Op.load _ (Operand.tmp 34), _, _, _, none⟩) rfl (fun K hK => ?_) (AllReadyH.cons (o := ⟨some 38, Op.load _ (Operand.tmp 37), _, _, _, none⟩) rfl (fun K hK => ?_) AllReadyH.nil))
      · go_simp
        refine hK.out _ _ trivial (fun _ => ?_)
        clear hK K
        try simp only [Act.put, List.setIfInBounds_toArray, List.set_cons_zero, List.set_cons_succ]
        refine wpAnyH_ready (rs := [8]) (by kernel_rfl) (by simp) ?_
        refine (AllReadyH.cons (o := ⟨some 38, Op.load _ (Operand.tmp 37), _, _, _, none⟩) rfl (fun K hK => ?_) AllReadyH.nil)
        · go_simp
          refine hK.out _ _ trivial (fun _ => ?_)
          clear hK K
          try simp only [Act.put, List.setIfInBounds_toArray, List.set_cons_zero, List.set_cons_succ]
          refine wpAnyH_take (i := 9) (oi := ⟨some 39, Op.build _ #[(0, Operand.tmp 36), (1, Operand.tmp 38)], _, _, _, none⟩) (v := .agg #[.int .i64 (a : Int), .int .i64 n]) rfl (by kernel_rfl) (by kernel_rfl) (by kernel_rfl) (fun _ _ _ h => h) (Or.inl ⟨by rfl, ?_⟩) hHeld ?_
          · intro w' hSw
            skip
            go_simp
          try simp only [Act.put, List.setIfInBounds_toArray, List.set_cons_zero, List.set_cons_succ]
          refine wpAnyH_ready (rs := [10]) (by kernel_rfl) (by simp) ?_
          refine (AllReadyH.cons (o := ⟨some 40, Op.buildSlice _ 1 #[(0, Operand.tmp 39)], _, _, _, none⟩) rfl (fun K hK => ?_) AllReadyH.nil)
          · go_simp
            refine hK.out _ _ trivial (fun _ => ?_)
            clear hK K
            try simp only [Act.put, List.setIfInBounds_toArray, List.set_cons_zero, List.set_cons_succ]
            refine wpAnyH_ready (rs := [11]) (by kernel_rfl) (by simp) ?_
            refine (AllReadyH.cons (o := ⟨some 41, Op.call { callee := Callee.builtin Builtin.append, args := #[Operand.tmp 35, Operand.tmp 40], argTypes := _ }, _, _, _, none⟩) rfl (fun K hK => ?_) AllReadyH.nil)
            · refine (if_pos (by rfl)).mpr ?_
              refine wp_append_own _ _ _ 25 rfl base 63 r0 _ 2 16 Tryz.underlying25 hr hy0 hy1 hy2 rfl (by decide) (.slice aM T.marks.length cM) T.marks.length (T.marks.flatMap mrkA) rfl HR3.out.ms ⟨w3.heap.size, 0, none⟩ 1 1 (mrkA ((a : Int), n)) rfl rfl (cells_newA _ _ _ _ rfl) (by simp [mrkA, Value.oneCell']) (by unfold maxLen; omega) (by omega) (by simp; omega) ?_
              intro v4 w4 hown4 hgrow4 _
              obtain ⟨a4, q4, rfl⟩ := own_sliceA hown4
              refine hK.out _ _ trivial (fun _ => ?_)
              clear hK K
              have h4 := blk_grownA HR3.out.ms HR3.out.h (fun _ => cells_ne (by decide)) hgrow4
              have c4 : w4.cell? ⟨wk, 6, none⟩ = some (.slice aM T.marks.length cM) := (World.cell?_of_block h4).trans (HR3.out.cell 6)
              have f4 : w4.frozen? ⟨wk, 6, none⟩ = false := (World.frozen?_of_block h4).trans (HR3.out.frozen 6)
              have HG4 := Lib.hid hgrow4
              have HO4 := Lib.hid hown4
              clear h4 hown4 hgrow4
              try simp only [Act.put, List.setIfInBounds_toArray, List.set_cons_zero, List.set_cons_succ]
              refine wpAnyH_take (i := 12) (oi := ⟨some 42, Op.nilCheck (Operand.tmp 30), _, _, _, none⟩) (v := .pointer (some ⟨wk, 0, none⟩)) rfl (by kernel_rfl) (by kernel_rfl) (by kernel_rfl) (fun _ _ _ h => h) (Or.inl ⟨by rfl, ?_⟩) hHeld ?_
              · intro w' hSw
                skip
                go_simp
              try simp only [Act.put, List.setIfInBounds_toArray, List.set_cons_zero, List.set_cons_succ]
              refine wpAnyH_take (i := 13) (oi := ⟨some 43, Op.fieldAddr _ (Operand.tmp 42) 4, _, _, _, none⟩) (v := .pointer (some ⟨wk, 4, none⟩)) rfl (by kernel_rfl) (by kernel_rfl) (by kernel_rfl) (fun _ _ _ h => h) (Or.inl ⟨by rfl, ?_⟩) hHeld ?_
              · intro w' hSw
                skip
                go_simp
              try simp only [Act.put, List.setIfInBounds_toArray, List.set_cons_zero, List.set_cons_succ]
              refine wpAnyH_take (i := 14) (oi := ⟨some 44, Op.fieldAddr _ (Operand.tmp 43) 2, _, _, _, none⟩) (v := .pointer (some ⟨wk, 6, none⟩)) rfl (by kernel_rfl) (by kernel_rfl) (by kernel_rfl) (fun _ _ _ h => h) (Or.inl ⟨by rfl, ?_⟩) hHeld ?_
              · intro w' hSw
                skip
                go_simp
              try simp only [Act.put, List.setIfInBounds_toArray, List.set_cons_zero, List.set_cons_succ]
              refine wpAnyH_ready (rs := [15]) (by kernel_rfl) (by simp) ?_
              refine (AllReadyH.cons (o := ⟨none, Op.store _ (Operand.tmp 44) (Operand.tmp 41), _, _, _, none⟩) rfl (fun K hK => ?_) AllReadyH.nil)
              · go_simp
                refine hK.out _ _ trivial (fun _ => ?_)
                clear hK K
                try simp only [Act.put, List.setIfInBounds_toArray, List.set_cons_zero, List.set_cons_succ]
                refine wpAnyH_done (by kernel_rfl) ?_ _
                go_end0
                have hF5 := HR3.out.setMarks (M' := T.marks ++ [((a : Int), n)]) HG4.out (by rw [List.length_append, List.flatMap_append]; exact HO4.out)
                have h4 := blk_grownA HR3.out.ms HR3.out.h (fun _ => cells_ne (by decide)) HG4.out
                refine ⟨HFr3.out.trans ((Fr.of_below ((Below.refl _ _).alloc (Nat.le_refl _) _).drew (by omega)).trans ((Fr.grown HR3.out.ms (.inr (.inr rfl)) HG4.out (by simp; omega)).trans (Fr.setWk _ (h4.trans HR3.out.h) hwb))), rfl, ?_⟩
                rw [hpl, ← HTlab.out] at hF5
                exact ⟨_, _, _, hF5⟩
      · go_simp
        refine hK.out _ _ trivial (fun _ => ?_)
        clear hK K
        try simp only [Act.put, List.setIfInBounds_toArray, List.set_cons_zero, List.set_cons_succ]
        refine wpAnyH_take (i := 9) (oi := ⟨some 39, Op.build _ #[(0, Operand.tmp 36), (1, Operand.tmp 38)], _, _, _, none⟩) (v := .agg #[.int .i64 (a : Int), .int .i64 n]) rfl (by kernel_rfl) (by kernel_rfl) (by kernel_rfl) (fun _ _ _ h => h) (Or.inl ⟨by rfl, ?_⟩) hHeld ?_
        · intro w' hSw
          skip
          go_simp
        try simp only [Act.put, List.setIfInBounds_toArray, List.set_cons_zero, List.set_cons_succ]
        refine wpAnyH_ready (rs := [5, 10]) (by kernel_rfl) (by simp) ?_
        refine (AllReadyH.cons (o := ⟨some 35, Op.load _ (Operand.tmp 34), _, _, _, none⟩) rfl (fun K hK => ?_) (AllReadyH.cons (o := ⟨some 40, Op.buildSlice _ 1 #[(0, Operand.tmp 39)], _, _, _, none⟩) rfl (fun K hK => ?_) AllReadyH.nil))
        · go_simp
          refine hK.out _ _ trivial (fun _ => ?_)
          clear hK K
          try simp only [Act.put, List.setIfInBounds_toArray, List.set_cons_zero, List.set_cons_succ]
          refine wpAnyH_ready (rs := [10]) (by kernel_rfl) (by simp) ?_
          refine (AllReadyH.cons (o := ⟨some 40, Op.buildSlice _ 1 #[(0, Operand.tmp 39)], _, _, _, none⟩) rfl (fun K hK => ?_) AllReadyH.nil)
          · go_simp
            refine hK.out _ _ trivial (fun _ => ?_)
            clear hK K
            try simp only [Act.put, List.setIfInBounds_toArray, List.set_cons_zero, List.set_cons_succ]
            refine wpAnyH_ready (rs := [11]) (by kernel_rfl) (by simp) ?_
            refine (AllReadyH.cons (o := ⟨some 41, Op.call { callee := Callee.builtin Builtin.append, args := #[Operand.tmp 35, Operand.tmp 40], argTypes := _ }, _, _, _, none⟩) rfl (fun K hK => ?_) AllReadyH.nil)
            · refine (if_pos (by rfl)).mpr ?_
              refine wp_append_own _ _ _ 25 rfl base 63 r0 _ 2 16 Tryz.underlying25 hr hy0 hy1 hy2 rfl (by decide) (.slice aM T.marks.length cM) T.marks.length (T.marks.flatMap mrkA) rfl HR3.out.ms ⟨w3.heap.size, 0, none⟩ 1 1 (mrkA ((a : Int), n)) rfl rfl (cells_newA _ _ _ _ rfl) (by simp [mrkA, Value.oneCell']) (by unfold maxLen; omega) (by omega) (by simp; omega) ?_
              intro v4 w4 hown4 hgrow4 _
              obtain ⟨a4, q4, rfl⟩ := own_sliceA hown4
              refine hK.out _ _ trivial (fun _ => ?_)
              clear hK K
              have h4 := blk_grownA HR3.out.ms HR3.out.h (fun _ => cells_ne (by decide)) hgrow4
              have c4 : w4.cell? ⟨wk, 6, none⟩ = some (.slice aM T.marks.length cM) := (World.cell?_of_block h4).trans (HR3.out.cell 6)
              have f4 : w4.frozen? ⟨wk, 6, none⟩ = false := (World.frozen?_of_block h4).trans (HR3.out.frozen 6)
              have HG4 := Lib.hid hgrow4
              have HO4 := Lib.hid hown4
              clear h4 hown4 hgrow4
              try simp only [Act.put, List.setIfInBounds_toArray, List.set_cons_zero, List.set_cons_succ]
              refine wpAnyH_take (i := 12) (oi := ⟨some 42, Op.nilCheck (Operand.tmp 30), _, _, _, none⟩) (v := .pointer (some ⟨wk, 0, none⟩)) rfl (by kernel_rfl) (by kernel_rfl) (by kernel_rfl) (fun _ _ _ h => h) (Or.inl ⟨by rfl, ?_⟩) hHeld ?_
              · intro w' hSw
                skip
                go_simp
              try simp only [Act.put, List.setIfInBounds_toArray, List.set_cons_zero, List.set_cons_succ]
              refine wpAnyH_take (i := 13) (oi := ⟨some 43, Op.fieldAddr _ (Operand.tmp 42) 4, _, _, _, none⟩) (v := .pointer (some ⟨wk, 4, none⟩)) rfl (by kernel_rfl) (by kernel_rfl) (by kernel_rfl) (fun _ _ _ h => h) (Or.inl ⟨by rfl, ?_⟩) hHeld ?_
              · intro w' hSw
                skip
                go_simp
              try simp only [Act.put, List.setIfInBounds_toArray, List.set_cons_zero, List.set_cons_succ]
              refine wpAnyH_take (i := 14) (oi := ⟨some 44, Op.fieldAddr _ (Operand.tmp 43) 2, _, _, _, none⟩) (v := .pointer (some ⟨wk, 6, none⟩)) rfl (by kernel_rfl) (by kernel_rfl) (by kernel_rfl) (fun _ _ _ h => h) (Or.inl ⟨by rfl, ?_⟩) hHeld ?_
              · intro w' hSw
                skip
                go_simp
              try simp only [Act.put, List.setIfInBounds_toArray, List.set_cons_zero, List.set_cons_succ]
              refine wpAnyH_ready (rs := [15]) (by kernel_rfl) (by simp) ?_
              refine (AllReadyH.cons (o := ⟨none, Op.store _ (Operand.tmp 44) (Operand.tmp 41), _, _, _, none⟩) rfl (fun K hK => ?_) AllReadyH.nil)
              · go_simp
                refine hK.out _ _ trivial (fun _ => ?_)
                clear hK K
                try simp only [Act.put, List.setIfInBounds_toArray, List.set_cons_zero, List.set_cons_succ]
                refine wpAnyH_done (by kernel_rfl) ?_ _
                go_end0
                have hF5 := HR3.out.setMarks (M' := T.marks ++ [((a : Int), n)]) HG4.out (by rw [List.length_append, List.flatMap_append]; exact HO4.out)
                have h4 := blk_grownA HR3.out.ms HR3.out.h (fun _ => cells_ne (by decide)) HG4.out
                refine ⟨HFr3.out.trans ((Fr.of_below ((Below.refl _ _).alloc (Nat.le_refl _) _).drew (by omega)).trans ((Fr.grown HR3.out.ms (.inr (.inr rfl)) HG4.out (by simp; omega)).trans (Fr.setWk _ (h4.trans HR3.out.h) hwb))), rfl, ?_⟩
                rw [hpl, ← HTlab.out] at hF5
                exact ⟨_, _, _, hF5⟩
        · go_simp
          refine hK.out _ _ trivial (fun _ => ?_)
          clear hK K
          try simp only [Act.put, List.setIfInBounds_toArray, List.set_cons_zero, List.set_cons_succ]
          refine wpAnyH_ready (rs := [5]) (by kernel_rfl) (by simp) ?_
          refine (AllReadyH.cons (o := ⟨some 35, Op.load _ (Operand.tmp 34), _, _, _, none⟩) rfl (fun K hK => ?_) AllReadyH.nil)
          · go_simp
            refine hK.out _ _ trivial (fun _ => ?_)
            clear hK K
            try simp only [Act.put, List.setIfInBounds_toArray, List.set_cons_zero, List.set_cons_succ]
            refine wpAnyH_ready (rs := [11]) (by kernel_rfl) (by simp) ?_
            refine (AllReadyH.cons (o := ⟨some 41, Op.call { callee := Callee.builtin Builtin.append, args := #[Operand.tmp 35, Operand.tmp 40], argTypes := _ }, _, _, _, none⟩) rfl (fun K hK => ?_) AllReadyH.nil)
            · refine (if_pos (by rfl)).mpr ?_
              refine wp_append_own _ _ _ 25 rfl base 63 r0 _ 2 16 Tryz.underlying25 hr hy0 hy1 hy2 rfl (by decide) (.slice aM T.marks.length cM) T.marks.length (T.marks.flatMap mrkA) rfl HR3.out.ms ⟨w3.heap.size, 0, none⟩ 1 1 (mrkA ((a : Int), n)) rfl rfl (cells_newA _ _ _ _ rfl) (by simp [mrkA, Value.oneCell']) (by unfold maxLen; omega) (by omega) (by simp; omega) ?_
              intro v4 w4 hown4 hgrow4 _
              obtain ⟨a4, q4, rfl⟩ := own_sliceA hown4
              refine hK.out _ _ trivial (fun _ => ?_)
              clear hK K
              have h4 := blk_grownA HR3.out.ms HR3.out.h (fun _ => cells_ne (by decide)) hgrow4
              have c4 : w4.cell? ⟨wk, 6, none⟩ = some (.slice aM T.marks.length cM) := (World.cell?_of_block h4).trans (HR3.out.cell 6)
              have f4 : w4.frozen? ⟨wk, 6, none⟩ = false := (World.frozen?_of_block h4).trans (HR3.out.frozen 6)
              have HG4 := Lib.hid hgrow4
              have HO4 := Lib.hid hown4
              clear h4 hown4 hgrow4
              try simp only [Act.put, List.setIfInBounds_toArray, List.set_cons_zero, List.set_cons_succ]
              refine wpAnyH_take (i := 12) (oi := ⟨some 42, Op.nilCheck (Operand.tmp 30), _, _, _, none⟩) (v := .pointer (some ⟨wk, 0, none⟩)) rfl (by kernel_rfl) (by kernel_rfl) (by kernel_rfl) (fun _ _ _ h => h) (Or.inl ⟨by rfl, ?_⟩) hHeld ?_
              · intro w' hSw
                skip
                go_simp
              try simp only [Act.put, List.setIfInBounds_toArray, List.set_cons_zero, List.set_cons_succ]
              refine wpAnyH_take (i := 13) (oi := ⟨some 43, Op.fieldAddr _ (Operand.tmp 42) 4, _, _, _, none⟩) (v := .pointer (some ⟨wk, 4, none⟩)) rfl (by kernel_rfl) (by kernel_rfl) (by kernel_rfl) (fun _ _ _ h => h) (Or.inl ⟨by rfl, ?_⟩) hHeld ?_
              · intro w' hSw
                skip
                go_simp
              try simp only [Act.put, List.setIfInBounds_toArray, List.set_cons_zero, List.set_cons_succ]
              refine wpAnyH_take (i := 14) (oi := ⟨some 44, Op.fieldAddr _ (Operand.tmp 43) 2, _, _, _, none⟩) (v := .pointer (some ⟨wk, 6, none⟩)) rfl (by kernel_rfl) (by kernel_rfl) (by kernel_rfl) (fun _ _ _ h => h) (Or.inl ⟨by rfl, ?_⟩) hHeld ?_
              · intro w' hSw
                skip
                go_simp
              try simp only [Act.put, List.setIfInBounds_toArray, List.set_cons_zero, List.set_cons_succ]
              refine wpAnyH_ready (rs := [15]) (by kernel_rfl) (by simp) ?_
              refine (AllReadyH.cons (o := ⟨none, Op.store _ (Operand.tmp 44) (Operand.tmp 41), _, _, _, none⟩) rfl (fun K hK => ?_) AllReadyH.nil)
              · go_simp
                refine hK.out _ _ trivial (fun _ => ?_)
                clear hK K
                try simp only [Act.put, List.setIfInBounds_toArray, List.set_cons_zero, List.set_cons_succ]
                refine wpAnyH_done (by kernel_rfl) ?_ _
                go_end0
                have hF5 := HR3.out.setMarks (M' := T.marks ++ [((a : Int), n)]) HG4.out (by rw [List.length_append, List.flatMap_append]; exact HO4.out)
                have h4 := blk_grownA HR3.out.ms HR3.out.h (fun _ => cells_ne (by decide)) HG4.out
                refine ⟨HFr3.out.trans ((Fr.of_below ((Below.refl _ _).alloc (Nat.le_refl _) _).drew (by omega)).trans ((Fr.grown HR3.out.ms (.inr (.inr rfl)) HG4.out (by simp; omega)).trans (Fr.setWk _ (h4.trans HR3.out.h) hwb))), rfl, ?_⟩
                rw [hpl, ← HTlab.out] at hF5
                exact ⟨_, _, _, hF5⟩
end Go.Proofs.YtgfljokamgbcaaaGreatDoor
