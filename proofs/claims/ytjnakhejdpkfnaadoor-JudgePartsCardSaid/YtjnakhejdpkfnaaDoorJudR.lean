/- judge: a state's parts, in order (values). -/
import Derived.Test.YtjnakhejdpkfnaaDoorJudJ
import Derived.Maps.AppendAt
namespace Go.Proofs.YtjnakhejdpkfnaaDoor
open Go.RowKit
set_option linter.unusedSimpArgs false
set_option linter.unusedVariables false
set_option maxRecDepth 100000

/-- The name of a part. -/
def nameJ (k : Nat) : List UInt8 := if k < 8 then 114 :: Lib.itoa k else if k = 8 then [112, 99] else if k = 9 then [112, 115] else if k < 18 then 99 :: 114 :: Lib.itoa ((k : Int) - 10) else [104, 97, 108, 116, 101, 100]
def valJ (x : Nat → Int) (h : Bool) (k : Nat) : Int := if k < 18 then x k else if h then 1 else 0
def entJ (x : Nat → Int) (h : Bool) (k : Nat) : List Value := [.string ⟨(nameJ k).toArray⟩, .int .u32 (valJ x h k)]
def valsJ (x : Nat → Int) (h : Bool) (n : Nat) : List Value := (List.range n).flatMap (entJ x h)
theorem valsJ_succ (x : Nat → Int) (h : Bool) (n : Nat) : valsJ x h (n + 1) = valsJ x h n ++ entJ x h n := by
  unfold valsJ; rw [List.range_succ, List.flatMap_append]; simp
def stJ (x : Nat → Int) (h : Bool) : Array Value := #[.int .u32 (x 0), .int .u32 (x 1), .int .u32 (x 2), .int .u32 (x 3), .int .u32 (x 4), .int .u32 (x 5), .int .u32 (x 6), .int .u32 (x 7), .int .u32 (x 8), .int .u32 (x 9), .int .u32 (x 10), .int .u32 (x 11), .int .u32 (x 12), .int .u32 (x 13), .int .u32 (x 14), .int .u32 (x 15), .int .u32 (x 16), .int .u32 (x 17), .bool h]
def arrJ (x : Nat → Int) (o : Nat) : List Value := [.int .u32 (x o), .int .u32 (x (o + 1)), .int .u32 (x (o + 2)), .int .u32 (x (o + 3)), .int .u32 (x (o + 4)), .int .u32 (x (o + 5)), .int .u32 (x (o + 6)), .int .u32 (x (o + 7))]
theorem arrJ_at (x : Nat → Int) (o : Nat) {k : Nat} (hk : k < 8) : (arrJ x o)[k]? = some (.int .u32 (x (o + k))) := by
  rcases (by omega : k = 0 ∨ k = 1 ∨ k = 2 ∨ k = 3 ∨ k = 4 ∨ k = 5 ∨ k = 6 ∨ k = 7) with rfl | rfl | rfl | rfl | rfl | rfl | rfl | rfl <;> rfl

theorem idxJ (x : Nat → Int) (o : Nat) {k : Nat} (hk : k < 8) (W : World) : (Instr.index 24 (.agg (arrJ x o).toArray) (.int .i64 (k : Int))).run Tryd.prog W = .ok (.int .u32 (x (o + k))) W := by
  rcases (by omega : k = 0 ∨ k = 1 ∨ k = 2 ∨ k = 3 ∨ k = 4 ∨ k = 5 ∨ k = 6 ∨ k = 7) with rfl | rfl | rfl | rfl | rfl | rfl | rfl | rfl <;> (unfold arrJ; first | rfl | go_simp)

theorem Tryd.infoV : (Tryd.prog.info? 56).map (fun i => (i.zero, i.size, i.bytes)) = some (some (.agg #[.string ⟨#[]⟩, .int .u32 0]), 2, 24) := by kernel_rfl
theorem cells_newJ (w : World) (xs : List Value) (t : TypeId) (k : Nat) (hk : k = w.heap.size) : ∀ j u, xs[j]? = some u → (w.alloc (.cells xs.toArray t)).cell? ((⟨k, 0, none⟩ : Addr).add j) = some u := by
  intro j u hu
  subst hk
  have hadd : (⟨w.heap.size, 0, none⟩ : Addr).add j = ⟨w.heap.size, j, none⟩ := by unfold Addr.add; split <;> simp_all
  rw [hadd, cell_of_row (w.alloc (.cells xs.toArray t)) w.heap.size j xs.toArray t (0, 0) (heap_alloc_new w _)]
  simpa using hu
theorem own_nextJ {W w w' : World} {base n size : Nat} {v : Value} {xs : List Value} {e : TypeId} {o : Obj} (hB : Below base W w) (hs : base ≤ w.heap.size) (hown : w.ownsRow base e size v n xs) (hg : (w.alloc o).grownBy w' v.ownBlock) :
    Below base W w' ∧ base ≤ w'.heap.size := by
  refine ⟨(hB.alloc hs o).grown hg (by simp; omega) (fun k hk => ?_), by have := hg.size; simp at this; omega⟩
  rcases hown.2 with ⟨rfl, _⟩ | ⟨g, cap, cur, rfl, h, _⟩
  · cases hk
  · cases hk; exact h

theorem own_keepR {w w' : World} {base n size : Nat} {e : TypeId} {v : Value} {xs : List Value} (h : w.ownsRow base e size v n xs) (hb : Below w.heap.size w w') : w'.ownsRow base e size v n xs := by
  refine ⟨h.1, ?_⟩
  rcases h.2 with h | ⟨g, cap, cur, h1, h2, h3, h4⟩
  · exact .inl h
  · exact .inr ⟨g, cap, cur, h1, h2, (hb.block _ (lt_of_rowJ h3)).trans h3, h4⟩

theorem own_low {w : World} {base base' n size : Nat} {e : TypeId} {v : Value} {xs : List Value} (hb : base' ≤ base) (h : w.ownsRow base e size v n xs) : w.ownsRow base' e size v n xs := by
  refine ⟨h.1, ?_⟩
  rcases h.2 with h | ⟨g, cap, cur, h1, h2, h3⟩
  · exact .inl h
  · exact .inr ⟨g, cap, cur, h1, Nat.le_trans hb h2, h3⟩

set_option maxHeartbeats 8000000 in
theorem values_c (x : Nat → Int) (h : Bool) (w : World) (HT : Hid (pTab w)) :
    Calls Tryd.prog 36 #[.agg (stJ x h)] w fun e w' => ∃ v, e = .returned v ∧ w'.ownsRow w.heap.size 56 2 v 19 (valsJ x h 19) ∧ Below w.heap.size w w' := by
  obtain ⟨i0, hi, hz0, hz1, hz2⟩ := info_parts Tryd.infoV
  obtain ⟨S, hS⟩ : ∃ S, S = stJ x h := ⟨_, rfl⟩
  rw [← hS]
  have hz : S.size = 19 := by rw [hS]; rfl
  have R1 : (w.alloc (.cells S 26)).rangeAt w.heap.size 0 (arrJ x 0) := range_of_row (heap_new' rfl) _ (fun j v hv => by
    have hj : j < 8 := by simpa [arrJ] using (List.getElem?_eq_some_iff.1 hv).1
    rw [hS]
    rcases (by omega : j = 0 ∨ j = 1 ∨ j = 2 ∨ j = 3 ∨ j = 4 ∨ j = 5 ∨ j = 6 ∨ j = 7) with rfl | rfl | rfl | rfl | rfl | rfl | rfl | rfl <;> exact hv)
  have HS := Lib.hid hS
  clear hS
  go_enter Tryd.func36, Tryd.ntmps36
  go_wp2_with (first
    | ((with_reducible show wpList _ _ _ (Oper.mk _ (.load 24 _) _ _ _ _ :: _) _ _); refine wpList_load_mid rfl 24 _ rfl w.heap.size 0 rfl (arrJ x 0) _ R1 Tryd.underlying24 rfl (by kernel_rfl) ?_))
  obtain ⟨P8, hP8⟩ : ∃ P : Array Value, P = (arrJ x 0).toArray := ⟨_, rfl⟩
  rw [← hP8]
  have HP := Lib.hid hP8
  clear hP8
  go_loopg [3, 11] 8 (fun gk vm vk wr => ∃ k : Nat, gk + k = 8 ∧ vk = .int .i64 (k : Int) ∧ wr.ownsRow (w.heap.size + 1) 56 2 vm k (valsJ x h k) ∧ Below (w.heap.size + 1) (w.alloc (.cells S 26)) wr ∧ w.heap.size + 1 ≤ wr.heap.size)
  case atStart => exact ⟨0, rfl, rfl, ⟨rfl, .inl ⟨rfl, rfl⟩⟩, Below.refl _ _, by simp⟩
  case round =>
    obtain ⟨k, hk, rfl, hown, hB, hs⟩ := hrel
    have hBw : Below w.heap.size w wr := (below_alloc1 w _).trans (hB.mono (by omega))
    by_cases c1 : k < 8
    · have i1 : (k : Int) < 8 := by omega
      have hix : ∀ W, (Instr.index 24 (.agg P8) (.int .i64 (k : Int))).run Tryd.prog W = .ok (.int .u32 (x k)) W := fun W => by rw [HP.out]; simpa using idxJ x 0 c1 W
      go_wp2_with fail
      refine (itoa_c (k : Int) (by omega) (by omega) wr (tab_at HT hBw)).mono ?_
      rintro e w2 ⟨rfl, hb2⟩
      have hts0 := itoa_lenJ (k : Int) (by omega) (by omega)
      obtain ⟨t, ht⟩ : ∃ t : ByteArray, t = ⟨(Lib.itoa (k : Int)).toArray⟩ := ⟨_, rfl⟩
      have hts : t.size ≤ 20 := by rw [ht]; simpa [ByteArray.size] using hts0
      rw [← ht]
      have hown2 := own_keepR hown hb2
      have hB2 := hB.trans (hb2.mono hs)
      have hs2 : w.heap.size + 1 ≤ w2.heap.size := Nat.le_trans hs hb2.size
      have HE := Lib.hid (show valsJ x h (k + 1) = valsJ x h k ++ [.string (⟨#[114]⟩ ++ t), .int .u32 (x k)] from by
        rw [valsJ_succ, ht]
        unfold entJ valJ nameJ
        rw [if_pos c1, if_pos (by omega)]
        congr 2)
      clear ht hts0
      go_wp2_with (first | (at_builtin; refine wpList_append_own _ rfl _ _ 52 rfl (w.heap.size + 1) 56 i0 _ 2 24 Tryd.underlying52 hi hz0 hz1 hz2 rfl (by decide) _ _ _ rfl (hown2.alloc _) _ 1 1 [.string (⟨#[114]⟩ ++ t), .int .u32 (x k)] rfl rfl (cells_newJ _ _ _ _ (by simp)) (by simp [Value.oneCell']) (by unfold maxLen; omega) (by omega) (by first | (simp; done) | (simp; omega)) ?_; intro v4 w4 hown4 hgrow4 _; obtain ⟨hB4, hs4⟩ := own_nextJ hB2 hs2 hown2 hgrow4; clear hgrow4))
      go_roundg (gk - 1)
      case measure => omega
      case rel => exact ⟨k + 1, by omega, by go_num, by rw [HE.out]; exact hown4, hB4, hs4⟩
    · have i1 : ¬ (k : Int) < 8 := by omega
      obtain rfl : k = 8 := by omega
      have cl : ∀ j v, S[j]? = some v → wr.cell? ⟨w.heap.size, j, none⟩ = some v := fun j v hv =>
        (hB.cell (p := ⟨w.heap.size, j, none⟩) (Nat.lt_succ_self _)).trans ((cell_of_row _ _ j S 26 (0, 0) (heap_new' rfl)).trans hv)
      have q8 := cl 8 (.int .u32 (x 8)) (by rw [HS.out]; rfl)
      have q9 := cl 9 (.int .u32 (x 9)) (by rw [HS.out]; rfl)
      have R2 : wr.rangeAt w.heap.size 10 (arrJ x 10) := fun j v hv => cl (10 + j) v (by
        have hj : j < 8 := by simpa [arrJ] using (List.getElem?_eq_some_iff.1 hv).1
        rw [HS.out]
        rcases (by omega : j = 0 ∨ j = 1 ∨ j = 2 ∨ j = 3 ∨ j = 4 ∨ j = 5 ∨ j = 6 ∨ j = 7) with rfl | rfl | rfl | rfl | rfl | rfl | rfl | rfl <;> exact hv)
      have HR2 := Lib.hid R2
      clear cl R2
      have hn : w.heap.size < wr.heap.size := by omega
      go_wp2_with (first
        | (at_builtin; refine wpList_append_own _ rfl _ _ 52 rfl (w.heap.size + 1) 56 i0 _ 2 24 Tryd.underlying52 hi hz0 hz1 hz2 rfl (by decide) _ _ _ rfl (hown.alloc _) _ 2 2 [.string ⟨#[112, 99]⟩, .int .u32 (x 8), .string ⟨#[112, 115]⟩, .int .u32 (x 9)] rfl rfl (cells_newJ _ _ _ _ (by simp)) (by simp [Value.oneCell']) (by unfold maxLen; omega) (by omega) (by first | (simp; done) | (simp; omega)) ?_; intro v4 w4 hown4 hgrow4 _; obtain ⟨hB4, hs4⟩ := own_nextJ hB hs hown hgrow4; have R4 : w4.rangeAt w.heap.size 10 (arrJ x 10) := fun j v hv => (hB4.cell (p := ⟨w.heap.size, 10 + j, none⟩) (Nat.lt_succ_self _)).trans ((hB.cell (p := ⟨w.heap.size, 10 + j, none⟩) (Nat.lt_succ_self _)).symm.trans (HR2.out j v hv)))
        | ((with_reducible show wpList _ _ _ (Oper.mk _ (.load 24 _) _ _ _ _ :: _) _ _); refine wpList_load_mid rfl 24 _ rfl w.heap.size 10 rfl (arrJ x 10) _ R4 Tryd.underlying24 rfl (by kernel_rfl) ?_))
      obtain ⟨PA, hPA⟩ : ∃ P : Array Value, P = (arrJ x 10).toArray := ⟨_, rfl⟩
      rw [← hPA]
      have HPA := Lib.hid hPA
      have HV := Lib.hid (show valsJ x h 10 = valsJ x h 8 ++ [.string ⟨#[112, 99]⟩, .int .u32 (x 8), .string ⟨#[112, 115]⟩, .int .u32 (x 9)] from by
        rw [valsJ_succ x h 9, valsJ_succ x h 8, List.append_assoc]; rfl)
      rw [← HV.out] at hown4
      clear hPA q8 q9 hgrow4 HR2 R4 hB hs hown
      go_loopg [3, 35] 8 (fun gk vm vk wr => ∃ k : Nat, gk + k = 8 ∧ vk = .int .i64 (k : Int) ∧ wr.ownsRow (w.heap.size + 1) 56 2 vm (10 + k) (valsJ x h (10 + k)) ∧ Below (w.heap.size + 1) (w.alloc (.cells S 26)) wr ∧ w.heap.size + 1 ≤ wr.heap.size)
      case atStart => exact ⟨0, rfl, rfl, hown4, hB4, hs4⟩
      case round =>
        clear hBw hB4 hs4 hown4
        obtain ⟨k, hk, rfl, hown, hB, hs⟩ := hrel
        have hBw : Below w.heap.size w wr := (below_alloc1 w _).trans (hB.mono (by omega))
        by_cases c2 : k < 8
        · have i2 : (k : Int) < 8 := by omega
          have hix : ∀ W, (Instr.index 24 (.agg PA) (.int .i64 (k : Int))).run Tryd.prog W = .ok (.int .u32 (x (10 + k))) W := fun W => by rw [HPA.out]; exact idxJ x 10 c2 W
          go_wp2_with fail
          refine (itoa_c (k : Int) (by omega) (by omega) wr (tab_at HT hBw)).mono ?_
          rintro e w2 ⟨rfl, hb2⟩
          have hts0 := itoa_lenJ (k : Int) (by omega) (by omega)
          obtain ⟨t, ht⟩ : ∃ t : ByteArray, t = ⟨(Lib.itoa (k : Int)).toArray⟩ := ⟨_, rfl⟩
          have hts : t.size ≤ 20 := by rw [ht]; simpa [ByteArray.size] using hts0
          rw [← ht]
          have hown2 := own_keepR hown hb2
          have hB2 := hB.trans (hb2.mono hs)
          have hs2 : w.heap.size + 1 ≤ w2.heap.size := Nat.le_trans hs hb2.size
          have HE := Lib.hid (show valsJ x h (10 + k + 1) = valsJ x h (10 + k) ++ [.string (⟨#[99, 114]⟩ ++ t), .int .u32 (x (10 + k))] from by
            rw [valsJ_succ, ht]
            unfold entJ valJ nameJ
            rw [if_neg (by omega), if_neg (by omega), if_neg (by omega), if_pos (by omega), if_pos (by omega), show (((10 + k : Nat) : Int) - 10) = (k : Int) from by omega]
            congr 2)
          clear ht hts0
          go_wp2_with (first | (at_builtin; refine wpList_append_own _ rfl _ _ 52 rfl (w.heap.size + 1) 56 i0 _ 2 24 Tryd.underlying52 hi hz0 hz1 hz2 rfl (by decide) _ _ _ rfl (hown2.alloc _) _ 1 1 [.string (⟨#[99, 114]⟩ ++ t), .int .u32 (x (10 + k))] rfl rfl (cells_newJ _ _ _ _ (by simp)) (by simp [Value.oneCell']) (by unfold maxLen; omega) (by omega) (by first | (simp; done) | (simp; omega)) ?_; intro v5 w5 hown5 hgrow5 _; obtain ⟨hB5, hs5⟩ := own_nextJ hB2 hs2 hown2 hgrow5; clear hgrow5))
          go_roundg (gk - 1)
          case measure => omega
          case rel => exact ⟨k + 1, by omega, by go_num, by rw [← Nat.add_assoc, HE.out]; exact hown5, hB5, hs5⟩
        · have i2 : ¬ (k : Int) < 8 := by omega
          obtain rfl : k = 8 := by omega
          have q18 : wr.cell? ⟨w.heap.size, 18, none⟩ = some (.bool h) := (hB.cell (p := ⟨w.heap.size, 18, none⟩) (Nat.lt_succ_self _)).trans ((cell_of_row _ _ 18 S 26 (0, 0) (heap_new' rfl)).trans (by rw [HS.out]; rfl))
          have hn : w.heap.size < wr.heap.size := by omega
          have hnn : ¬ w.heap.size = wr.heap.size := by omega
          cases h
          all_goals
            try (have hownF := hown.alloc (.cells #[.string ⟨#[104, 97, 108, 116, 101, 100]⟩, .int .u32 0] 56)
                 have hBF := hB.alloc hs (.cells #[.string ⟨#[104, 97, 108, 116, 101, 100]⟩, .int .u32 0] 56))
          · have hsF : w.heap.size + 1 ≤ (wr.alloc (.cells #[.string ⟨#[104, 97, 108, 116, 101, 100]⟩, .int .u32 0] 56)).heap.size := by simp; omega
            go_wp2_with (first | (at_builtin; refine wpList_append_own _ rfl _ _ 52 rfl (w.heap.size + 1) 56 i0 _ 2 24 Tryd.underlying52 hi hz0 hz1 hz2 rfl (by decide) _ _ _ rfl (hownF.alloc _) _ 1 1 [.string ⟨#[104, 97, 108, 116, 101, 100]⟩, .int .u32 0] rfl rfl (cells_newJ _ _ _ _ (by simp)) (by simp [Value.oneCell']) (by unfold maxLen; omega) (by omega) (by first | (simp; done) | (simp; omega)) ?_; intro v6 w6 hown6 hgrow6 _; obtain ⟨hB6, hs6⟩ := own_nextJ hBF hsF hownF hgrow6; clear hgrow6))
            go_ret
            exact ⟨_, rfl, own_low (base := w.heap.size + 1) (Nat.le_succ _) (by rw [valsJ_succ x false 18]; exact hown6), (below_alloc1 w _).trans (hB6.mono (by omega))⟩
          · clear hownF hBF
            have hownF := hown.alloc (.cells #[.string ⟨#[104, 97, 108, 116, 101, 100]⟩, .int .u32 1] 56)
            have hBF := hB.alloc hs (.cells #[.string ⟨#[104, 97, 108, 116, 101, 100]⟩, .int .u32 1] 56)
            have hsF : w.heap.size + 1 ≤ (wr.alloc (.cells #[.string ⟨#[104, 97, 108, 116, 101, 100]⟩, .int .u32 1] 56)).heap.size := by simp; omega
            go_wp2_with (first | (at_builtin; refine wpList_append_own _ rfl _ _ 52 rfl (w.heap.size + 1) 56 i0 _ 2 24 Tryd.underlying52 hi hz0 hz1 hz2 rfl (by decide) _ _ _ rfl (hownF.alloc _) _ 1 1 [.string ⟨#[104, 97, 108, 116, 101, 100]⟩, .int .u32 1] rfl rfl (cells_newJ _ _ _ _ (by simp)) (by simp [Value.oneCell']) (by unfold maxLen; omega) (by omega) (by first | (simp; done) | (simp; omega)) ?_; intro v6 w6 hown6 hgrow6 _; obtain ⟨hB6, hs6⟩ := own_nextJ hBF hsF hownF hgrow6; clear hgrow6))
            go_ret
            exact ⟨_, rfl, own_low (base := w.heap.size + 1) (Nat.le_succ _) (by rw [valsJ_succ x true 18]; exact hown6), (below_alloc1 w _).trans (hB6.mono (by omega))⟩
end Go.Proofs.YtjnakhejdpkfnaaDoor
