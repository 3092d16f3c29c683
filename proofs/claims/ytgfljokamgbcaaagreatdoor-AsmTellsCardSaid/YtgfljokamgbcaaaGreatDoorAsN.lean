/- The walks of asm's labelled and named. (Written by mkAN.py.) -/
import Derived.Test.YtgfljokamgbcaaaGreatDoorAsK
namespace Go.Proofs.YtgfljokamgbcaaaGreatDoor
open Go.RowKit
set_option linter.unusedSimpArgs false
set_option linter.unusedVariables false
set_option maxRecDepth 100000

theorem labelled_c (op : Int) (w : World) (h0 : 0 ≤ op) (h1 : op < 256) : Calls Tryz.prog 80 #[.int .u8 op] w fun e w' => e = .returned (.int .i64 (labelled op : Int)) ∧ w' = w := by
  have hR : (labelled op : Int) = if (64 ≤ op ∧ op ≤ 71) ∨ op = 72 then 2 else if op = 32 then 3 else 0 := by
    unfold labelled
    split <;> (try split) <;> rfl
  rw [hR]
  go_enter Tryz.func80, Tryz.ntmps80
  by_cases c1 : 64 ≤ op <;> by_cases c2 : op ≤ 71 <;> by_cases c3 : op = 72 <;> by_cases c4 : op = 32
  all_goals
    first
      | (exfalso; omega)
      | (try have d3 : (op == 72) = false := by simpa using c3
         try have d4 : (op == 32) = false := by simpa using c4
         go_wp2_with fail
         go_ret
         exact ⟨Isa.ret_int (by first | rfl | (simp [c1, c2, c3, c4]; done) | (rw [if_pos (by omega)]) | (rw [if_neg (by omega), if_pos (by omega)]) | (rw [if_neg (by omega), if_neg (by omega)])), rfl⟩)

/-- What 'named' hands back. -/
def NamP (r : Except Int (List Wd)) (w : World) (e : Ending) (w' : World) : Prop := Below w.heap.size w w' ∧ match r with
  | .ok vs => ∃ ao' cap', e = .returned (.slice ao' vs.length cap') ∧ WdIn w' ao' vs ∧ vs.length ≤ cap'
  | .error er => e = .panicked (wrongP er)

set_option maxHeartbeats 8000000 in
theorem named_same (wk : Nat) (op n : Int) (ao : Option Addr) (cap : Nat) (ws : List Wd) (w : World) (hl : LnOk w ao ws cap) (o0 : 0 ≤ op) (o1 : op < 256) (hc : labelled op = 0 ∨ ws.length ≠ labelled op ∨ letterB ((ws.getD (labelled op - 1) []).headD 0) = false) :
    Calls Tryz.prog 57 #[.pointer (some ⟨wk, 0, none⟩), lnV n ao ws.length cap, .int .u8 op] w (NamP (.ok ws) w) := by
  have HLb := Lib.hid fun w => labelled_c op w o0 o1
  have hlb : labelled op = 0 ∨ labelled op = 2 ∨ labelled op = 3 := by unfold labelled; split <;> (try split) <;> simp
  have hle := hl.le
  have hcap := hl.cap
  have HL := Lib.hid hl
  have hB : Below w.heap.size w (w.alloc (.cells #[.int .i64 n, .slice ao ws.length cap] 51)) := (Below.refl _ _).alloc (Nat.le_refl _) _
  unfold lnV
  generalize labelled op = k at HLb hlb hc
  by_cases c0 : k = 0
  · subst c0
    clear hc hlb hl
    go_enter Tryz.func57, Tryz.ntmps57
    go_wp2_with fail
    refine (HLb.out _).mono ?_
    rintro e w1 ⟨rfl, rfl⟩
    go_wp2_with fail
    go_ret
    exact ⟨hB, ao, cap, rfl, wd_below hB HL.out.inn, hle⟩
  · have d0 : ((k : Int) == 0) = false := by simp; omega
    by_cases c1 : ws.length = k
    · have d1 : ((ws.length : Int) != (k : Int)) = false := by simp; omega
      have d1' : ((k : Int) != (k : Int)) = false := by simp
      have hlt : letterB ((ws.getD (k - 1) []).headD 0) = false := by
        rcases hc with h | h | h
        · exact absurd h c0
        · exact absurd c1 h
        · exact h
      obtain ⟨x, hx⟩ : ∃ x, ws[k - 1]? = some x := ⟨_, List.getElem?_eq_getElem (by omega)⟩
      obtain ⟨blk, off, rfl, hb, y1⟩ := wd_at hl.inn hx
      obtain ⟨hxn, hxl⟩ := hl.each x (List.mem_of_getElem? hx)
      rw [show ws.getD (k - 1) [] = x by rw [List.getD, hx]; rfl] at hlt
      obtain ⟨ch, h0⟩ : ∃ c, x[0]? = some c := ⟨_, List.getElem?_eq_getElem (List.length_pos_iff.2 hxn)⟩
      have hhd : x.headD 0 = ch := by cases x with
        | nil => simp at h0
        | cons a l => simpa using h0
      rw [hhd] at hlt
      have HLt := Lib.hid (letter_c ch)
      rw [hlt] at HLt
      have e0 := ba_get x 0 ch h0
      have sz := ba_size x
      have hp : 0 < x.length := List.length_pos_iff.2 hxn
      have hkw : IntKind.i64.wrap ((k : Int) - 1) = ((k - 1 : Nat) : Int) := by rw [show (k : Int) - 1 = ((k - 1 : Nat) : Int) by omega]; exact IntWalk.i64_in _ ⟨by omega, by omega⟩
      have hki : ((k - 1 : Nat) : Int) < (k : Int) := by omega
      obtain ⟨j, hj⟩ : ∃ j, k - 1 = j := ⟨_, rfl⟩
      have hkj : k = j + 1 := by omega
      generalize (⟨x.toArray⟩ : ByteArray) = sb at y1 e0 sz
      rw [hj] at y1 hkw hki
      rw [c1]
      clear hc hlb hl hx hhd h0 hlt hj
      subst hkj
      go_enter Tryz.func57, Tryz.ntmps57
      go_wp2_with fail
      refine (HLb.out _).mono ?_
      rintro e w1 ⟨rfl, rfl⟩
      go_wp2_with fail
      refine (HLt.out _).mono ?_
      rintro e w1 ⟨rfl, rfl⟩
      go_wp2_with fail
      go_ret
      rw [c1] at hB
      exact ⟨hB, _, cap, by rw [c1]; rfl, wd_below hB HL.out.inn, hle⟩
    · have d1 : ((ws.length : Int) != (k : Int)) = true := by simp; omega
      clear hc hlb hl
      go_enter Tryz.func57, Tryz.ntmps57
      go_wp2_with fail
      refine (HLb.out _).mono ?_
      rintro e w1 ⟨rfl, rfl⟩
      go_wp2_with fail
      go_ret
      exact ⟨hB, ao, cap, rfl, wd_below hB HL.out.inn, hle⟩

theorem find_mem {l : List (Wd × Int)} {s : Wd} {a : Int} (h : findL l s = some a) : ∃ p ∈ l, p.2 = a := by
  unfold findL at h
  cases hf : l.find? (fun p => p.1 == s) with
  | none => rw [hf] at h; cases h
  | some p =>
    rw [hf] at h
    exact ⟨p, List.mem_of_find?_eq_some hf, by simpa using h⟩
theorem belowA_alloc {w w1 : World} (h : Below w.heap.size w w1) (o : Obj) : Below w.heap.size w (w1.alloc o) := h.alloc h.size o
theorem addrA (g o j : Nat) : (⟨g, o, none⟩ : Addr).add j = ⟨g, o + j, none⟩ := by unfold Addr.add; split <;> simp_all
theorem wd_cells {w : World} {blk off : Nat} {ws : List Wd} (h : WdIn w (some ⟨blk, off, none⟩) ws) (j : Nat) : ∀ i u, ((ws.take j).map stV)[i]? = some u → w.cell? ((⟨blk, off, none⟩ : Addr).add i) = some u := by
  intro i u hu
  rw [addrA]
  rw [List.getElem?_map, Option.map_eq_some_iff] at hu
  obtain ⟨s, hs, rfl⟩ := hu
  have hs2 : ws[i]? = some s := by
    rw [List.getElem?_take] at hs
    split at hs
    · exact hs
    · cases hs
  rcases h with h | ⟨b, o, he, h⟩
  · rw [h] at hs2; cases hs2
  · cases he
    exact h i s hs2
theorem own_emptyA (w : World) (t : TypeId) (k : Nat) (hk : k = w.heap.size) : (w.alloc (.cells #[] t)).ownsRow k t 1 (.slice (some ⟨k, 0, none⟩) 0 0) 0 [] := by
  subst hk
  exact ⟨rfl, .inr ⟨w.heap.size, 0, #[], rfl, Nat.le_refl _, heap_alloc_new w _, Nat.le_refl _, by unfold maxLen; omega, rfl, rfl⟩⟩
theorem own_wd {w : World} {base n : Nat} {v : Value} {vs : List Wd} (h : w.ownsRow base 9 1 v n (vs.map stV)) : n = vs.length ∧ ∃ ao cap, v = .slice ao n cap ∧ WdIn w ao vs ∧ n ≤ cap ∧ cap ≤ maxLen ∧ (∀ blk off, ao = some ⟨blk, off, none⟩ → ∃ cur, w.heap[blk]? = some (.cells cur 9 (0, 0))) := by
  obtain ⟨h1, ⟨rfl, rfl⟩ | ⟨g, cap, cur, rfl, h4, h5, h6, h7, h8, h9⟩⟩ := h
  · have : vs = [] := by cases vs with
      | nil => rfl
      | cons a l => simp at h1
    subst this
    exact ⟨rfl, none, 0, rfl, .inl rfl, Nat.le_refl _, Nat.zero_le _, fun blk off e => by cases e⟩
  · refine ⟨by simpa using h1.symm, some ⟨g, 0, none⟩, cap, rfl, .inr ⟨g, 0, rfl, fun i s hs => ?_⟩, h6, h7, fun blk off e => by cases e; exact ⟨cur, h5⟩⟩
    rw [cell_of_row w g (0 + i) _ _ _ h5]
    have hlt := (List.getElem?_eq_some_iff.1 hs).1
    have hn : vs.length = n := by simpa using h1
    have : (cur.toList.take (n * 1))[i]? = some (stV s) := by rw [h9, List.getElem?_map, hs]; rfl
    rw [List.getElem?_take, if_pos (by omega)] at this
    simpa using this
theorem wrap32_in {v : Int} (h0 : -100000 ≤ v) (h1 : v ≤ 100000) : wrap32F v = v := by unfold wrap32F; omega

set_option maxHeartbeats 8000000 in
theorem named_lab (base wk pb ob : Nat) (S : St) (op n : Int) (ao : Option Addr) (cap : Nat) (ws : List Wd) (w : World) (h : AsOk base wk pb ob true S w) (hl : LnOk w ao ws cap) (o0 : 0 ≤ op) (o1 : op < 256) (hk0 : labelled op ≠ 0) (hlen : ws.length = labelled op) (hlt : letterB ((ws.getD (labelled op - 1) []).headD 0) = true) :
    Calls Tryz.prog 57 #[.pointer (some ⟨wk, 0, none⟩), lnV n ao ws.length cap, .int .u8 op] w (NamP (namedF S ws op) w) := by
  obtain ⟨i0, hi, hz0, hz1, hz2⟩ := info_parts Tryz.infoStrT
  have HLb := Lib.hid fun w => labelled_c op w o0 o1
  have hlb : labelled op = 2 ∨ labelled op = 3 := by revert hk0; unfold labelled; split <;> (try split) <;> simp
  have hG0 := give_c
  have HG := Lib.hid hG0
  clear hG0
  have hle := hl.le
  have hcap := hl.cap
  have HL := Lib.hid hl
  have HA := Lib.hid h
  obtain ⟨RR, hRR⟩ : ∃ RR, namedF S ws op = RR := ⟨_, rfl⟩
  rw [hRR]
  have hB : Below w.heap.size w (w.alloc (.cells #[.int .i64 n, .slice ao ws.length cap] 51)) := (Below.refl _ _).alloc (Nat.le_refl _) _
  obtain ⟨x, hx⟩ : ∃ x, ws[labelled op - 1]? = some x := ⟨_, List.getElem?_eq_getElem (by omega)⟩
  obtain ⟨blk, off, rfl, hb, y1⟩ := wd_at hl.inn hx
  obtain ⟨hxn, hxl⟩ := hl.each x (List.mem_of_getElem? hx)
  have hgx : ws.getD (labelled op - 1) [] = x := by rw [List.getD, hx]; rfl
  unfold namedF at hRR
  rw [if_neg (by rw [hlt]; simp; exact ⟨hk0, hlen⟩), hgx] at hRR
  rw [hgx] at hlt
  obtain ⟨ch, h0⟩ : ∃ c, x[0]? = some c := ⟨_, List.getElem?_eq_getElem (List.length_pos_iff.2 hxn)⟩
  have hhd : x.headD 0 = ch := by cases x with
    | nil => simp at h0
    | cons a l => simpa using h0
  rw [hhd] at hlt
  have HLt := Lib.hid (letter_c ch)
  rw [hlt] at HLt
  have HV := Lib.hid (value_m base wk pb ob true S x _ (h.below hB) hxn (by omega))
  have hvf : valueF true S.labels x = (match findL S.labels x with | some a => .ok a | none => .error 310) := by unfold valueF; rw [if_neg (by decide), hhd, if_pos hlt]; rfl
  have hbd : ∀ a, findL S.labels x = some a → 0 ≤ a ∧ a ≤ 4096 := fun a ha => by
    obtain ⟨p, hp, rfl⟩ := find_mem ha
    exact h.lb p hp
  rw [hvf] at HV hRR
  have e0 := ba_get x 0 ch h0
  have sz := ba_size x
  have hp : 0 < x.length := List.length_pos_iff.2 hxn
  obtain ⟨j, hj⟩ : ∃ j, labelled op = j + 1 := ⟨labelled op - 1, by omega⟩
  have hkw : IntKind.i64.wrap ((j : Int) + 1 - 1) = (j : Int) := by rw [Int.add_sub_cancel]; exact IntWalk.i64_in _ ⟨by omega, by omega⟩
  have hki : (j : Int) < (j : Int) + 1 := by omega
  have hj12 : j = 1 ∨ j = 2 := by omega
  have d0 : ((j : Int) + 1 == 0) = false := by simp; omega
  have d1 : ((j : Int) + 1 != (j : Int) + 1) = false := by simp
  rw [hj] at hRR HLb hlen
  rw [hj, Nat.add_sub_cancel] at y1
  rw [Nat.add_sub_cancel] at hRR
  have HRR := Lib.hid hRR
  have HLN := Lib.hid hlen
  unfold lnV
  rw [hlen] at hB HV hle ⊢
  clear hlt hhd hvf hRR hl h hx hgx h0 hlb hk0 hj
  generalize (⟨x.toArray⟩ : ByteArray) = sb at y1 e0 sz HV
  generalize findL S.labels x = fl at HV HRR hbd
  go_enter Tryz.func57, Tryz.ntmps57
  go_wp2_with fail
  refine (HLb.out _).mono ?_
  rintro e w1 ⟨rfl, rfl⟩
  go_wp2_with fail
  refine (HLt.out _).mono ?_
  rintro e w1 ⟨rfl, rfl⟩
  go_wp2_with fail
  refine HV.out.mono ?_
  rintro e w1 ⟨hb1, hv⟩
  have hB1 : Below w.heap.size w w1 := hB.trans (hb1.mono hB.size)
  have hbx1 : w1.heap[w.heap.size]? = some (.cells #[.int .i64 n, .slice (some ⟨blk, off, none⟩) (j + 1) cap] 51 (0, 0)) := (hb1.block _ (by simp)).trans (heap_alloc_new w _)
  have q1 : w1.cell? ⟨w.heap.size, 1, none⟩ = some (.slice (some ⟨blk, off, none⟩) (j + 1) cap) := cell_of_row w1 _ 1 _ _ _ hbx1
  have HBX1 := Lib.hid hbx1
  have HB1 := Lib.hid hB1
  have hs1 : w.heap.size < w1.heap.size := heap_ltA hbx1
  clear hb1 hbx1 hB1 hB
  rcases fl with _ | a
  · obtain rfl := hv
    obtain rfl : RR = .error 310 := HRR.out.symm
    exact ⟨rfl, HB1.out, rfl⟩
  obtain rfl := hv
  obtain ⟨a0, a1⟩ := hbd a rfl
  have HLc := Lib.hid (show ∀ W, Below w1.heap.size w1 W → ∀ i u, ((ws.take j).map stV)[i]? = some u → W.cell? ((⟨blk, off, none⟩ : Addr).add i) = some u from fun W hW => wd_cells (wd_below ((HB1.out).trans (hW.mono HB1.out.size)) HL.out.inn) j)
  have hjl : ((ws.take j).map stV).length = j * 1 := by simp; have := HLN.out; omega
  have hoc : ∀ u ∈ (ws.take j).map stV, u.oneCell' = true := by
    intro u hu
    obtain ⟨s, -, rfl⟩ := List.mem_map.1 hu
    rfl
  obtain ⟨news, hnews⟩ : ∃ l, l = (ws.take j).map stV := ⟨_, rfl⟩
  rw [← hnews] at hjl hoc HLc
  have HNw := Lib.hid hnews
  have HJL := Lib.hid hjl
  have hjm : (j : Int) ≤ (cap : Int) := by omega
  clear hnews hjl
  by_cases c32 : op = 32
  · subst c32
    have d32 : ((32 : Int) != 32) = false := rfl
    have HQ := Lib.hid (show Except.ok (ws.take j ++ [Lib.itoa a]) = RR from by rw [← HRR.out]; rfl)
    clear HRR
    have HI := Lib.hid fun W hW => itoa_c a (by omega) (by omega) W hW
    go_wp2_with (first | (at_builtin; refine wpList_append_own _ rfl _ _ 49 rfl w1.heap.size 9 i0 _ 1 16 Tryz.underlying49 hi hz0 hz1 hz2 rfl (by decide) (.slice (some ⟨w1.heap.size, 0, none⟩) 0 0) 0 [] rfl (own_emptyA _ _ _ rfl) ⟨blk, off, none⟩ j cap news rfl HJL.out (HLc.out _ (belowA_alloc (Below.refl _ _) _)) hoc (by unfold maxLen; omega) (by omega) (by simp) ?_; intro v4 w4 hown4 hgrow4 _; simp only [Nat.zero_add, List.nil_append] at hown4; obtain ⟨ao4, cap4, rfl⟩ := own_sliceA hown4; have hB4 := (HB1.out.alloc (by have := HB1.out.size; omega) (.cells #[] 9)).grown hgrow4 (by have := HB1.out.size; simp; omega) (fun k hk => by cases hk; exact HB1.out.size); clear hgrow4))
    refine (HI.out _ (HA.out.tab.on (hB4.mono HA.out.hs)).here).mono ?_
    rintro e w5 ⟨rfl, hb5⟩
    have hB5 : Below w.heap.size w w5 := hB4.trans (hb5.mono hB4.size)
    have hown5 := own_keepA hown4 (fun g cur hg => hb5.block g (heap_ltA hg))
    have hs5 : w1.heap.size ≤ w5.heap.size := by
      have h1 := hb5.size
      obtain ⟨-, h2 | ⟨g, c, cur, h2, h3, h4, -⟩⟩ := hown4
      · have := h2.2; omega
      · have := heap_ltA h4; omega
    clear hb5 hB4 hown4
    go_wp2_with (first | (at_builtin; refine wpList_append_own _ rfl _ _ 49 rfl w1.heap.size 9 i0 _ 1 16 Tryz.underlying49 hi hz0 hz1 hz2 rfl (by decide) (.slice ao4 j cap4) j news rfl (hown5.alloc _) ⟨w5.heap.size, 0, none⟩ 1 1 [stV (Lib.itoa a)] rfl rfl (cell_one_new _ _ _) (by simp [Value.oneCell']) (by unfold maxLen; omega) (by omega) (by simp; omega) ?_; intro v6 w6 hown6 hgrow6 _; have hB6 := (hB5.alloc (by have := hB5.size; omega) (.cells #[stV (Lib.itoa a)] 9)).grown hgrow6 (by have := hB5.size; simp; omega) (fun k hk => Nat.le_trans HB1.out.size (hown5.lt k hk).1); clear hgrow6))
    go_ret
    obtain rfl := HQ.out
    have hmp : news ++ [stV (Lib.itoa a)] = (ws.take j ++ [Lib.itoa a]).map stV := by rw [HNw.out]; simp
    rw [hmp] at hown6
    obtain ⟨g1, ao6, cap6, rfl, g2, g3, -⟩ := own_wd hown6
    rw [g1] at g3 ⊢
    exact ⟨hB6, ao6, cap6, rfl, g2, g3⟩
  · have d32 : (op != 32) = true := by simpa using c32
    have HQ0 := Lib.hid (show (if Isa.mayB (Isa.fm op false) 0 0 (wrap32F (a - (S.at' + (Isa.fm op false).n))) = false then Except.error 311 else .ok (ws.take j ++ [Lib.itoa (a - (S.at' + (Isa.fm op false).n))])) = RR from by rw [← HRR.out]; exact (if_neg c32).symm)
    clear HRR
    have hs6 : 0 ≤ (Isa.fm op false).n ∧ (Isa.fm op false).n ≤ 6 := by rcases Isa.fm_is op false with h | h | h | h | h | h | h | h | h | h <;> rw [h] <;> decide
    have hA0 := HA.out.a0
    have hA1 := HA.out.a1
    have HSz := Lib.hid fun W => Isa.size_c op false W o0 o1
    have HMy := Lib.hid fun W imm h6 h7 => Isa.may_c op 0 0 imm false W o0 o1 (by omega) (by omega) (by omega) (by omega) h6 h7
    unfold Isa.insV at HMy
    generalize (Isa.fm op false).n = sz2 at HSz hs6 HQ0
    obtain ⟨v, hv⟩ : ∃ v, a - (S.at' + sz2) = v := ⟨_, rfl⟩
    rw [hv] at HQ0
    have hv0 : -5000 ≤ v ∧ v ≤ 5000 := by omega
    rw [wrap32_in (by omega) (by omega)] at HQ0
    have hw1 : IntKind.i64.wrap (S.at' + sz2) = S.at' + sz2 := IntWalk.i64_in _ ⟨by omega, by omega⟩
    have hw2 : IntKind.i64.wrap (a - (S.at' + sz2)) = v := by rw [hv]; exact IntWalk.i64_in _ ⟨by omega, by omega⟩
    have hw3 : IntKind.i32.wrap v = v := IntWalk.i32_in _ ⟨by omega, by omega⟩
    have HMy1 := Lib.hid fun W => HMy.out W v (by omega) (by omega)
    clear HMy
    generalize Isa.mayB (Isa.fm op false) 0 0 v = my at HQ0 HMy1
    have HI := Lib.hid fun W hW => itoa_c v (by omega) (by omega) W hW
    obtain ⟨k0, -, -, -, hlt⟩ := (HA.out.below HB1.out).cell
    have k0d : w1.drew.cell? ⟨wk, 0, none⟩ = some (.int .i64 S.at') := k0
    clear hv
    go_wp2_with fail
    refine wp_region_held_drew (S := fun _ => True) (by kernel_rfl) trivial (fun hHeld => ?_)
    refine wpAnyH_take (i := 0) (oi := ⟨some 43, Op.move (Operand.tmp 8), _, _, _, none⟩) (v := .int .i64 a) rfl (by kernel_rfl) (by kernel_rfl) (by kernel_rfl) (fun _ _ _ h => h) (Or.inl ⟨by rfl, ?_⟩) hHeld ?_
    · intro w' hSw
      skip
      go_simp
    try simp only [Act.put, List.setIfInBounds_toArray, List.set_cons_zero, List.set_cons_succ]
    refine wpAnyH_take (i := 1) (oi := ⟨some 44, Op.move (Operand.tmp 0), _, _, _, none⟩) (v := .pointer (some ⟨wk, 0, none⟩)) rfl (by kernel_rfl) (by kernel_rfl) (by kernel_rfl) (fun _ _ _ h => h) (Or.inl ⟨by rfl, ?_⟩) hHeld ?_
    · intro w' hSw
      skip
      go_simp
    try simp only [Act.put, List.setIfInBounds_toArray, List.set_cons_zero, List.set_cons_succ]
    refine wpAnyH_take (i := 2) (oi := ⟨some 45, Op.nilCheck (Operand.tmp 44), _, _, _, none⟩) (v := .pointer (some ⟨wk, 0, none⟩)) rfl (by kernel_rfl) (by kernel_rfl) (by kernel_rfl) (fun _ _ _ h => h) (Or.inl ⟨by rfl, ?_⟩) hHeld ?_
    · intro w' hSw
      skip
      go_simp
    try simp only [Act.put, List.setIfInBounds_toArray, List.set_cons_zero, List.set_cons_succ]
    refine wpAnyH_take (i := 3) (oi := ⟨some 46, Op.fieldAddr _ (Operand.tmp 45) 0, _, _, _, none⟩) (v := .pointer (some ⟨wk, 0, none⟩)) rfl (by kernel_rfl) (by kernel_rfl) (by kernel_rfl) (fun _ _ _ h => h) (Or.inl ⟨by rfl, ?_⟩) hHeld ?_
    · intro w' hSw
      skip
      go_simp
    try simp only [Act.put, List.setIfInBounds_toArray, List.set_cons_zero, List.set_cons_succ]
    refine wpAnyH_take (i := 5) (oi := ⟨some 48, Op.move (Operand.tmp 2), _, _, _, none⟩) (v := .int .u8 op) rfl (by kernel_rfl) (by kernel_rfl) (by kernel_rfl) (fun _ _ _ h => h) (Or.inl ⟨by rfl, ?_⟩) hHeld ?_
    · intro w' hSw
      skip
      go_simp
    try simp only [Act.put, List.setIfInBounds_toArray, List.set_cons_zero, List.set_cons_succ]
    refine wpAnyH_ready (rs := [4, 6]) (by kernel_rfl) (by simp) ?_
    refine (AllReadyH.cons (o := ⟨some 47, Op.load _ (Operand.tmp 46), _, _, _, none⟩) rfl (fun K hK => ?_) (AllReadyH.cons (o := ⟨some 49, Op.call { callee := Callee.value (Operand.func _), args := #[Operand.tmp 48, Operand.const (Value.bool false)], argTypes := _ }, _, _, _, none⟩) rfl (fun K hK => ?_) AllReadyH.nil))
    · go_simp
      refine hK.out _ _ trivial (fun _ => ?_)
      clear hK K
      try simp only [Act.put, List.setIfInBounds_toArray, List.set_cons_zero, List.set_cons_succ]
      refine wpAnyH_ready (rs := [6]) (by kernel_rfl) (by simp) ?_
      refine (AllReadyH.cons (o := ⟨some 49, Op.call { callee := Callee.value (Operand.func _), args := #[Operand.tmp 48, Operand.const (Value.bool false)], argTypes := _ }, _, _, _, none⟩) rfl (fun K hK => ?_) AllReadyH.nil)
      · go_simp
        go_at_call 54
        refine (HSz.out _).mono ?_
        rintro e w2 ⟨rfl, hb2⟩
        have k0e : w2.cell? ⟨wk, 0, none⟩ = some (.int .i64 S.at') := (hb2.cell (p := ⟨wk, 0, none⟩) (by exact hlt)).trans k0d
        refine hK.out _ _ trivial (fun _ => ?_)
        clear hK K
        try simp only [Act.put, List.setIfInBounds_toArray, List.set_cons_zero, List.set_cons_succ]
        refine wpAnyH_take (i := 7) (oi := ⟨some 50, Op.binOp BinOp.add _ (Operand.tmp 47) (Operand.tmp 49) _, _, _, _, none⟩) (v := .int .i64 (S.at' + sz2)) rfl (by kernel_rfl) (by kernel_rfl) (by kernel_rfl) (fun _ _ _ h => h) (Or.inl ⟨by rfl, ?_⟩) hHeld ?_
        · intro w' hSw
          skip
          go_simp
        try simp only [Act.put, List.setIfInBounds_toArray, List.set_cons_zero, List.set_cons_succ]
        refine wpAnyH_take (i := 8) (oi := ⟨some 51, Op.binOp BinOp.sub _ (Operand.tmp 43) (Operand.tmp 50) _, _, _, _, none⟩) (v := .int .i64 v) rfl (by kernel_rfl) (by kernel_rfl) (by kernel_rfl) (fun _ _ _ h => h) (Or.inl ⟨by rfl, ?_⟩) hHeld ?_
        · intro w' hSw
          skip
          go_simp
        try simp only [Act.put, List.setIfInBounds_toArray, List.set_cons_zero, List.set_cons_succ]
        refine wpAnyH_take (i := 9) (oi := ⟨some 8, Op.assign (Operand.tmp 51), _, _, _, none⟩) (v := .int .i64 v) rfl (by kernel_rfl) (by kernel_rfl) (by kernel_rfl) (fun _ _ _ h => h) (Or.inl ⟨by rfl, ?_⟩) hHeld ?_
        · intro w' hSw
          skip
          go_simp
        try simp only [Act.put, List.setIfInBounds_toArray, List.set_cons_zero, List.set_cons_succ]
        refine wpAnyH_done (by kernel_rfl) ?_ _
        have hb2' : Below w1.heap.size w1 w2 := (Below.refl w1.heap.size w1).drew.trans hb2
        have hbx2 : w2.heap[w.heap.size]? = some (.cells #[.int .i64 n, .slice (some ⟨blk, off, none⟩) (j + 1) cap] 51 (0, 0)) := (hb2'.block _ hs1).trans HBX1.out
        have q2 : w2.cell? ⟨w.heap.size, 1, none⟩ = some (.slice (some ⟨blk, off, none⟩) (j + 1) cap) := cell_of_row w2 _ 1 _ _ _ hbx2
        have HB2 := Lib.hid (HB1.out.trans (hb2'.mono HB1.out.size))
        have HW2 := Lib.hid hb2'
        have HBX2 := Lib.hid hbx2
        have hs2 : w.heap.size < w2.heap.size := heap_ltA hbx2
        clear hb2 hb2' hbx2 q1 k0d
        go_wp2_with fail
        refine (HMy1.out _).mono ?_
        rintro e w3 ⟨rfl, hb3⟩
        have hbx3 : w3.heap[w.heap.size]? = some (.cells #[.int .i64 n, .slice (some ⟨blk, off, none⟩) (j + 1) cap] 51 (0, 0)) := (hb3.block _ hs2).trans HBX2.out
        have q3 : w3.cell? ⟨w.heap.size, 1, none⟩ = some (.slice (some ⟨blk, off, none⟩) (j + 1) cap) := cell_of_row w3 _ 1 _ _ _ hbx3
        have HB3 := Lib.hid (HB2.out.trans (hb3.mono HB2.out.size))
        have HW3 := Lib.hid (HW2.out.trans (hb3.mono HW2.out.size))
        have hs3 : w.heap.size < w3.heap.size := heap_ltA hbx3
        clear hb3 hbx3 q2
        cases my
        · go_wp2_with fail
          refine (HG.out _ _).mono ?_
          rintro e w4 ⟨rfl, rfl⟩
          obtain rfl : RR = .error 311 := HQ0.out.symm
          exact ⟨rfl, HB3.out, rfl⟩
        have HQ := Lib.hid (show Except.ok (ws.take j ++ [Lib.itoa v]) = RR from HQ0.out)
        go_wp2_with (first | (at_builtin; refine wpList_append_own _ rfl _ _ 49 rfl w3.heap.size 9 i0 _ 1 16 Tryz.underlying49 hi hz0 hz1 hz2 rfl (by decide) (.slice (some ⟨w3.heap.size, 0, none⟩) 0 0) 0 [] rfl (own_emptyA _ _ _ rfl) ⟨blk, off, none⟩ j cap news rfl HJL.out (HLc.out _ (belowA_alloc HW3.out _)) hoc (by unfold maxLen; omega) (by omega) (by simp) ?_; intro v4 w4 hown4 hgrow4 _; simp only [Nat.zero_add, List.nil_append] at hown4; obtain ⟨ao4, cap4, rfl⟩ := own_sliceA hown4; have hB4 := (HB3.out.alloc (by have := HB3.out.size; omega) (.cells #[] 9)).grown hgrow4 (by have := HB3.out.size; simp; omega) (fun k hk => by cases hk; exact HB3.out.size); clear hgrow4))
        refine (HI.out _ (HA.out.tab.on (hB4.mono HA.out.hs)).here).mono ?_
        rintro e w5 ⟨rfl, hb5⟩
        have hB5 : Below w.heap.size w w5 := hB4.trans (hb5.mono hB4.size)
        have hown5 := own_keepA hown4 (fun g cur hg => hb5.block g (heap_ltA hg))
        have hs5 : w3.heap.size ≤ w5.heap.size := by
          have h1 := hb5.size
          obtain ⟨-, h2 | ⟨g, c, cur, h2, h3, h4, -⟩⟩ := hown4
          · have := h2.2; omega
          · have := heap_ltA h4; omega
        clear hb5 hB4 hown4
        go_wp2_with (first | (at_builtin; refine wpList_append_own _ rfl _ _ 49 rfl w3.heap.size 9 i0 _ 1 16 Tryz.underlying49 hi hz0 hz1 hz2 rfl (by decide) (.slice ao4 j cap4) j news rfl (hown5.alloc _) ⟨w5.heap.size, 0, none⟩ 1 1 [stV (Lib.itoa v)] rfl rfl (cell_one_new _ _ _) (by simp [Value.oneCell']) (by unfold maxLen; omega) (by omega) (by simp; omega) ?_; intro v6 w6 hown6 hgrow6 _; have hB6 := (hB5.alloc (by have := hB5.size; omega) (.cells #[stV (Lib.itoa v)] 9)).grown hgrow6 (by have := hB5.size; simp; omega) (fun k hk => Nat.le_trans HB3.out.size (hown5.lt k hk).1); clear hgrow6))
        go_ret
        obtain rfl := HQ.out
        have hmp : news ++ [stV (Lib.itoa v)] = (ws.take j ++ [Lib.itoa v]).map stV := by rw [HNw.out]; simp
        rw [hmp] at hown6
        obtain ⟨g1, ao6, cap6, rfl, g2, g3, -⟩ := own_wd hown6
        rw [g1] at g3 ⊢
        exact ⟨hB6, ao6, cap6, rfl, g2, g3⟩
    · go_simp
      go_at_call 54
      refine (HSz.out _).mono ?_
      rintro e w2 ⟨rfl, hb2⟩
      have k0e : w2.cell? ⟨wk, 0, none⟩ = some (.int .i64 S.at') := (hb2.cell (p := ⟨wk, 0, none⟩) (by exact hlt)).trans k0d
      refine hK.out _ _ trivial (fun _ => ?_)
      clear hK K
      try simp only [Act.put, List.setIfInBounds_toArray, List.set_cons_zero, List.set_cons_succ]
      refine wpAnyH_ready (rs := [4]) (by kernel_rfl) (by simp) ?_
      refine (AllReadyH.cons (o := ⟨some 47, Op.load _ (Operand.tmp 46), _, _, _, none⟩) rfl (fun K hK => ?_) AllReadyH.nil)
      · go_simp
        refine hK.out _ _ trivial (fun _ => ?_)
        clear hK K
        try simp only [Act.put, List.setIfInBounds_toArray, List.set_cons_zero, List.set_cons_succ]
        refine wpAnyH_take (i := 7) (oi := ⟨some 50, Op.binOp BinOp.add _ (Operand.tmp 47) (Operand.tmp 49) _, _, _, _, none⟩) (v := .int .i64 (S.at' + sz2)) rfl (by kernel_rfl) (by kernel_rfl) (by kernel_rfl) (fun _ _ _ h => h) (Or.inl ⟨by rfl, ?_⟩) hHeld ?_
        · intro w' hSw
          skip
          go_simp
        try simp only [Act.put, List.setIfInBounds_toArray, List.set_cons_zero, List.set_cons_succ]
        refine wpAnyH_take (i := 8) (oi := ⟨some 51, Op.binOp BinOp.sub _ (Operand.tmp 43) (Operand.tmp 50) _, _, _, _, none⟩) (v := .int .i64 v) rfl (by kernel_rfl) (by kernel_rfl) (by kernel_rfl) (fun _ _ _ h => h) (Or.inl ⟨by rfl, ?_⟩) hHeld ?_
        · intro w' hSw
          skip
          go_simp
        try simp only [Act.put, List.setIfInBounds_toArray, List.set_cons_zero, List.set_cons_succ]
        refine wpAnyH_take (i := 9) (oi := ⟨some 8, Op.assign (Operand.tmp 51), _, _, _, none⟩) (v := .int .i64 v) rfl (by kernel_rfl) (by kernel_rfl) (by kernel_rfl) (fun _ _ _ h => h) (Or.inl ⟨by rfl, ?_⟩) hHeld ?_
        · intro w' hSw
          skip
          go_simp
        try simp only [Act.put, List.setIfInBounds_toArray, List.set_cons_zero, List.set_cons_succ]
        refine wpAnyH_done (by kernel_rfl) ?_ _
        have hb2' : Below w1.heap.size w1 w2 := (Below.refl w1.heap.size w1).drew.trans hb2
        have hbx2 : w2.heap[w.heap.size]? = some (.cells #[.int .i64 n, .slice (some ⟨blk, off, none⟩) (j + 1) cap] 51 (0, 0)) := (hb2'.block _ hs1).trans HBX1.out
        have q2 : w2.cell? ⟨w.heap.size, 1, none⟩ = some (.slice (some ⟨blk, off, none⟩) (j + 1) cap) := cell_of_row w2 _ 1 _ _ _ hbx2
        have HB2 := Lib.hid (HB1.out.trans (hb2'.mono HB1.out.size))
        have HW2 := Lib.hid hb2'
        have HBX2 := Lib.hid hbx2
        have hs2 : w.heap.size < w2.heap.size := heap_ltA hbx2
        clear hb2 hb2' hbx2 q1 k0d
        go_wp2_with fail
        refine (HMy1.out _).mono ?_
        rintro e w3 ⟨rfl, hb3⟩
        have hbx3 : w3.heap[w.heap.size]? = some (.cells #[.int .i64 n, .slice (some ⟨blk, off, none⟩) (j + 1) cap] 51 (0, 0)) := (hb3.block _ hs2).trans HBX2.out
        have q3 : w3.cell? ⟨w.heap.size, 1, none⟩ = some (.slice (some ⟨blk, off, none⟩) (j + 1) cap) := cell_of_row w3 _ 1 _ _ _ hbx3
        have HB3 := Lib.hid (HB2.out.trans (hb3.mono HB2.out.size))
        have HW3 := Lib.hid (HW2.out.trans (hb3.mono HW2.out.size))
        have hs3 : w.heap.size < w3.heap.size := heap_ltA hbx3
        clear hb3 hbx3 q2
        cases my
        · go_wp2_with fail
          refine (HG.out _ _).mono ?_
          rintro e w4 ⟨rfl, rfl⟩
          obtain rfl : RR = .error 311 := HQ0.out.symm
          exact ⟨rfl, HB3.out, rfl⟩
        have HQ := Lib.hid (show Except.ok (ws.take j ++ [Lib.itoa v]) = RR from HQ0.out)
        go_wp2_with (first | (at_builtin; refine wpList_append_own _ rfl _ _ 49 rfl w3.heap.size 9 i0 _ 1 16 Tryz.underlying49 hi hz0 hz1 hz2 rfl (by decide) (.slice (some ⟨w3.heap.size, 0, none⟩) 0 0) 0 [] rfl (own_emptyA _ _ _ rfl) ⟨blk, off, none⟩ j cap news rfl HJL.out (HLc.out _ (belowA_alloc HW3.out _)) hoc (by unfold maxLen; omega) (by omega) (by simp) ?_; intro v4 w4 hown4 hgrow4 _; simp only [Nat.zero_add, List.nil_append] at hown4; obtain ⟨ao4, cap4, rfl⟩ := own_sliceA hown4; have hB4 := (HB3.out.alloc (by have := HB3.out.size; omega) (.cells #[] 9)).grown hgrow4 (by have := HB3.out.size; simp; omega) (fun k hk => by cases hk; exact HB3.out.size); clear hgrow4))
        refine (HI.out _ (HA.out.tab.on (hB4.mono HA.out.hs)).here).mono ?_
        rintro e w5 ⟨rfl, hb5⟩
        have hB5 : Below w.heap.size w w5 := hB4.trans (hb5.mono hB4.size)
        have hown5 := own_keepA hown4 (fun g cur hg => hb5.block g (heap_ltA hg))
        have hs5 : w3.heap.size ≤ w5.heap.size := by
          have h1 := hb5.size
          obtain ⟨-, h2 | ⟨g, c, cur, h2, h3, h4, -⟩⟩ := hown4
          · have := h2.2; omega
          · have := heap_ltA h4; omega
        clear hb5 hB4 hown4
        go_wp2_with (first | (at_builtin; refine wpList_append_own _ rfl _ _ 49 rfl w3.heap.size 9 i0 _ 1 16 Tryz.underlying49 hi hz0 hz1 hz2 rfl (by decide) (.slice ao4 j cap4) j news rfl (hown5.alloc _) ⟨w5.heap.size, 0, none⟩ 1 1 [stV (Lib.itoa v)] rfl rfl (cell_one_new _ _ _) (by simp [Value.oneCell']) (by unfold maxLen; omega) (by omega) (by simp; omega) ?_; intro v6 w6 hown6 hgrow6 _; have hB6 := (hB5.alloc (by have := hB5.size; omega) (.cells #[stV (Lib.itoa v)] 9)).grown hgrow6 (by have := hB5.size; simp; omega) (fun k hk => Nat.le_trans HB3.out.size (hown5.lt k hk).1); clear hgrow6))
        go_ret
        obtain rfl := HQ.out
        have hmp : news ++ [stV (Lib.itoa v)] = (ws.take j ++ [Lib.itoa v]).map stV := by rw [HNw.out]; simp
        rw [hmp] at hown6
        obtain ⟨g1, ao6, cap6, rfl, g2, g3, -⟩ := own_wd hown6
        rw [g1] at g3 ⊢
        exact ⟨hB6, ao6, cap6, rfl, g2, g3⟩
end Go.Proofs.YtgfljokamgbcaaaGreatDoor
