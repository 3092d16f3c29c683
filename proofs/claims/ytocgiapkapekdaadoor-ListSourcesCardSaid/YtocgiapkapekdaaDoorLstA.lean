/- What stands at a place of some bytes: list.One and the document's. -/
import Derived.Test.YtocgiapkapekdaaDoorRefH
import Derived.Test.YtocgiapkapekdaaDoorTxtE
import Derived.Test.YtocgiapkapekdaaDoorBytes
namespace Go.Proofs.YtocgiapkapekdaaDoor
open Go.RowKit
set_option linter.unusedSimpArgs false
set_option linter.unusedVariables false
set_option maxRecDepth 100000

theorem decR_bd (L : List Int) (hb : ∀ x ∈ L, 0 ≤ x ∧ x < 256) : 0 ≤ (Isa.decR false L).op ∧ (Isa.decR false L).op < 256 ∧ 0 ≤ (Isa.decR false L).a ∧ (Isa.decR false L).a < 256 ∧ 0 ≤ (Isa.decR false L).b ∧ (Isa.decR false L).b < 256 ∧
    -2147483648 ≤ (Isa.decR false L).imm ∧ (Isa.decR false L).imm < 2147483648 := by
  cases L with
  | nil => simp [Isa.decR]
  | cons x T =>
    have hbt : ∀ i, 0 ≤ T.getD i 0 ∧ T.getD i 0 < 256 := fun i => by
      rcases Nat.lt_or_ge i T.length with h | h
      · have : T.getD i 0 = T[i] := by simp [List.getD, List.getElem?_eq_getElem h]
        rw [this]; exact hb _ (List.mem_cons_of_mem _ (List.getElem_mem h))
      · have : T.getD i 0 = 0 := by simp [List.getD, List.getElem?_eq_none h]
        rw [this]; omega
    have b0 := hb x (List.mem_cons_self ..)
    have n1 := Isa.numF_bd (Isa.fm_is x false) (hbt 0) (hbt 1) (hbt 2) (hbt 3)
    have n2 := Isa.numF_bd (Isa.fm_is x false) (hbt 1) (hbt 2) (hbt 3) (hbt 4)
    have ra : 0 ≤ Isa.regA (Isa.fm x false) (T.getD 0 0) ∧ Isa.regA (Isa.fm x false) (T.getD 0 0) < 256 := by
      have := hbt 0; unfold Isa.regA; split <;> omega
    have rb : 0 ≤ Isa.regB (Isa.fm x false) (T.getD 0 0) ∧ Isa.regB (Isa.fm x false) (T.getD 0 0) < 256 := by
      have := hbt 0; unfold Isa.regB; split <;> omega
    unfold Isa.decR
    simp only
    by_cases c1 : (Isa.fm x false).n = 0
    · rw [if_pos c1]; simp
    · rw [if_neg c1]
      by_cases c2 : ((x :: T).length : Int) < (Isa.fm x false).n
      · rw [if_pos c2]; simp
      · rw [if_neg c2]
        split
        · refine ⟨b0.1, b0.2, ra.1, ra.2, rb.1, rb.2, ?_⟩
          simp only [Isa.numL]
          split
          · exact ⟨n2.1, n2.2⟩
          · exact ⟨n1.1, n1.2⟩
        · simp

theorem decR_n (L : List Int) (h : (Isa.decR false L).err = 0) : 1 ≤ (Isa.decR false L).n ∧ (Isa.decR false L).n ≤ L.length := by
  cases L with
  | nil => simp [Isa.decR] at h
  | cons x T =>
    have hF := Isa.fm_is x false
    have h0 : 0 ≤ (Isa.fm x false).n := by rcases hF with h | h | h | h | h | h | h | h | h | h <;> rw [h] <;> simp
    unfold Isa.decR at h ⊢
    simp only at h ⊢
    by_cases c1 : (Isa.fm x false).n = 0
    · rw [if_pos c1] at h; simp at h
    · rw [if_neg c1] at h ⊢
      by_cases c2 : ((x :: T).length : Int) < (Isa.fm x false).n
      · rw [if_pos c2] at h; simp at h
      · rw [if_neg c2] at h ⊢
        split at h
        · rename_i c3
          rw [if_pos c3]
          exact ⟨by simp only; omega, by simpa using c2⟩
        · simp at h

/-- What stands at a place, and how many bytes it takes. -/
def oneT (L : List Int) (n : Nat) : List UInt8 :=
  if (Isa.decR false (L.drop n)).err = 0 then showL (Isa.decR false (L.drop n)).op (Isa.decR false (L.drop n)).a (Isa.decR false (L.drop n)).b (Isa.decR false (L.drop n)).imm else [46, 98, 121, 116, 101, 32] ++ Lib.itoa (L.getD n 0)
def oneN (L : List Int) (n : Nat) : Int := if (Isa.decR false (L.drop n)).err = 0 then (Isa.decR false (L.drop n)).n else 1
theorem oneN_bd {L : List Int} {n : Nat} (h : n < L.length) : 1 ≤ oneN L n ∧ (n : Int) + oneN L n ≤ L.length := by
  unfold oneN
  split
  · rename_i h
    have := decR_n _ h
    simp at this
    omega
  · omega

theorem bytes_dropL {w : World} {blk off : Nat} {B : List Int} (a : Nat) (h : ∀ i, i < B.length → w.cell? ⟨blk, off + i, none⟩ = some (.int .u8 (B.getD i 0))) : BytesIn w (some ⟨blk, off + a, none⟩) (B.drop a) := by
  refine .inr ⟨blk, off + a, rfl, fun i hi => ?_⟩
  simp only [List.length_drop] at hi
  rw [Nat.add_assoc, h (a + i) (by omega)]
  simp [List.getD]
theorem BytesIn.belowL {w w' : World} {ao : Option Addr} {L : List Int} (h : BytesIn w ao L) (hb : Below w.heap.size w w') : BytesIn w' ao L := by
  rcases h with h | ⟨blk, off, e, h⟩
  · exact .inl h
  · exact .inr ⟨blk, off, e, fun i hi => by
      have := h i hi
      exact (hb.cell (World.block_lt_of_cell? w _ this)).trans this⟩
theorem ByteArg.belowL {w w' : World} {ao : Option Addr} {len cap : Nat} {L : List Int} (h : ByteArg w ao len cap L) (hb : Below w.heap.size w w') : ByteArg w' ao len cap L :=
  ⟨h.1, h.2.1, h.2.2.1, h.2.2.2.1, h.2.2.2.2.belowL hb⟩

set_option maxHeartbeats 4000000 in
theorem stands_c (ao : Option Addr) (len cap : Nat) (L : List Int) (n : Nat) (hn : n < len) (w : World) (hy : ByteArg w ao len cap L) :
    Calls Tryd.prog 14 #[.slice ao len cap, .int .i64 (n : Int)] w fun e w' =>
      e = .returned (.tuple #[Isa.insV (Isa.decR false (L.drop n)).op (Isa.decR false (L.drop n)).a (Isa.decR false (L.drop n)).b (Isa.decR false (L.drop n)).imm, .int .i64 (Isa.decR false (L.drop n)).n, .bool (decide ((Isa.decR false (L.drop n)).err = 0))]) ∧ Below w.heap.size w w' := by
  obtain ⟨hL, hlc, hcm, hbt, hB⟩ := hy
  obtain ⟨blk, off, rfl, hc⟩ : ∃ blk off, ao = some ⟨blk, off, none⟩ ∧ ∀ i, i < L.length → w.cell? ⟨blk, off + i, none⟩ = some (.int .u8 (L.getD i 0)) := by
    rcases hB with h | h
    · rw [h] at hL; simp at hL; omega
    · exact h
  have HD := Lib.hid fun (w1 : World) (hb : Below w.heap.size w w1) (cap1 : Nat) => Isa.dec_c false (some ⟨blk, off + n, none⟩) (len - n) cap1 (L.drop n) w1 (by simp [hL]) (by omega) (fun x hx => hbt x (List.mem_of_mem_drop hx)) ((bytes_dropL n hc).belowL hb)
  generalize Isa.decR false (L.drop n) = r at HD ⊢
  obtain ⟨op, a, b, imm, m, err⟩ := r
  unfold Isa.DR.post Isa.DecPost Isa.insV at HD
  simp only at HD ⊢
  unfold Isa.insV
  have i3 : (n : Int) < (len : Int) := by omega
  have i4 : (n : Int) < (cap : Int) := by omega
  have i5 : (len : Int) ≤ (cap : Int) := by omega
  have i6 : (cap : Int) ≤ 9223372036854775807 := by omega
  clear hL hbt hc hB
  go_enter Tryd.func14, Tryd.ntmps14
  go_wp2_with fail
  refine (HD.out _ (Isa.below_alloc1 _ _) _).mono ?_
  rintro e w1 ⟨rfl, hb1⟩
  have B1 := Isa.below_box hb1
  have s1 : w.heap.size < w1.heap.size := by have := hb1.size; simp at this; omega
  obtain ⟨hcl, hfz⟩ := Isa.bcell hb1
  go_wp2_with fail
  refine bodyPost_ret (v := .tuple #[Isa.insV op a b imm, .int .i64 m, .bool (decide (err = 0))]) ?_ rfl ⟨rfl, ?_⟩
  · unfold Isa.insV
    simp [results, Tryd.results14, go_sem, hcl, s1]
    by_cases he : err = 0 <;> simp [he]
  · exact ((((B1.setCell (Nat.le_refl _) _).setCell (Nat.le_refl _) _).setCell (Nat.le_refl _) _).setCell (Nat.le_refl _) _).alloc (by simp; omega) _

theorem one_no_A (ao : Option Addr) (len cap : Nat) (at_ : Int) (h : at_ < 0 ∨ (len : Int) ≤ at_) (w : World) :
    Calls Tryd.prog 6 #[.slice ao len cap, .int .i64 at_] w fun e w' => e = .returned (.tuple #[.string ⟨#[]⟩, .int .i64 0]) ∧ w' = w := by
  by_cases c1 : at_ < 0
  · go_enter Tryd.func6, Tryd.ntmps6
    go_wp2_with fail
    exact bodyPost_ret (v := .tuple #[.string ⟨#[]⟩, .int .i64 0]) (by simp [results, Tryd.results6, go_sem]) rfl ⟨rfl, rfl⟩
  · have c2 : (len : Int) ≤ at_ := by omega
    clear h
    go_enter Tryd.func6, Tryd.ntmps6
    go_wp2_with fail
    exact bodyPost_ret (v := .tuple #[.string ⟨#[]⟩, .int .i64 0]) (by simp [results, Tryd.results6, go_sem]) rfl ⟨rfl, rfl⟩

theorem one_no_B (ao : Option Addr) (len cap : Nat) (at_ : Int) (h : at_ < 0 ∨ (len : Int) ≤ at_) (w : World) :
    Calls Tryd.prog 7 #[.slice ao len cap, .int .i64 at_] w fun e w' => e = .returned (.tuple #[.string ⟨#[]⟩, .int .i64 0]) ∧ w' = w := by
  by_cases c1 : at_ < 0
  · go_enter Tryd.func7, Tryd.ntmps7
    go_wp2_with fail
    exact bodyPost_ret (v := .tuple #[.string ⟨#[]⟩, .int .i64 0]) (by simp [results, Tryd.results7, go_sem]) rfl ⟨rfl, rfl⟩
  · have c2 : (len : Int) ≤ at_ := by omega
    clear h
    go_enter Tryd.func7, Tryd.ntmps7
    go_wp2_with fail
    exact bodyPost_ret (v := .tuple #[.string ⟨#[]⟩, .int .i64 0]) (by simp [results, Tryd.results7, go_sem]) rfl ⟨rfl, rfl⟩

theorem ret_tup {a b : ByteArray} {x y : Value} (h : a = b) (h' : x = y) : Ending.returned (.tuple #[.string a, x]) = .returned (.tuple #[.string b, y]) := by rw [h, h']
theorem ba_extL {x y : ByteArray} (h : x.data.toList = y.data.toList) : x = y := by
  cases x; cases y
  simp only [ByteArray.mk.injEq]
  exact Array.toList_inj.1 h

set_option maxHeartbeats 4000000 in
theorem one_in (ao : Option Addr) (len cap : Nat) (L : List Int) (n : Nat) (hn : n < len) (w : World) (hy : ByteArg w ao len cap L) (HT : Hid (pTab w)) :
    Calls Tryd.prog 6 #[.slice ao len cap, .int .i64 (n : Int)] w fun e w' => e = .returned (.tuple #[.string ⟨(oneT L n).toArray⟩, .int .i64 (oneN L n)]) ∧ Below w.heap.size w w' := by
  have HS := Lib.hid (stands_c ao len cap L n hn w hy)
  obtain ⟨hL, hlc, hcm, hbt, hB⟩ := hy
  have HBD := decR_bd (L.drop n) (fun x hx => hbt x (List.mem_of_mem_drop hx))
  obtain ⟨h0, h1, h2, h3, h4, h5, h6, h7⟩ := HBD
  have HSh := Lib.hid fun (W : World) (hb : Below w.heap.size w W) => show_c _ _ _ _ W h0 h1 h2 h3 h4 h5 h6 h7 (Lib.hid (fun w' h => HT.out w' (hb.trans (h.mono hb.size))))
  unfold oneT oneN
  have hxb : 0 ≤ L.getD n 0 ∧ L.getD n 0 < 256 := by
    have hk : n < L.length := by omega
    have : L.getD n 0 = L[n] := by simp [List.getD, List.getElem?_eq_getElem hk]
    rw [this]; exact hbt _ (List.getElem_mem hk)
  obtain ⟨blk, off, rfl, x1⟩ : ∃ blk off, ao = some ⟨blk, off, none⟩ ∧ w.cell? ⟨blk, off + n, none⟩ = some (.int .u8 (L.getD n 0)) := by
    rcases hB with h | ⟨b, o, h, hc⟩
    · rw [h] at hL; simp at hL; omega
    · exact ⟨b, o, h, hc n (by omega)⟩
  clear h0 h1 h2 h3 h4 h5 h6 h7 hbt hB hL
  generalize Isa.decR false (L.drop n) = r at HS HSh ⊢
  generalize L.getD n 0 = x at hxb x1 ⊢
  obtain ⟨op, a, b, imm, m, err⟩ := r
  simp only at HS HSh ⊢
  unfold Isa.insV at HS HSh
  have i1 : (n : Int) < (len : Int) := by omega
  have i2 : ¬ (len : Int) ≤ (n : Int) := by omega
  have i3 : ¬ (n : Int) < 0 := by omega
  by_cases he : err = 0
  · rw [if_pos he, if_pos he]
    rw [decide_eq_true he] at HS
    generalize hs : (⟨(showL op a b imm).toArray⟩ : ByteArray) = s at HSh
    clear he hxb x1
    go_enter Tryd.func6, Tryd.ntmps6
    go_wp2_with fail
    refine HS.out.mono ?_
    rintro e w1 ⟨rfl, hb1⟩
    go_wp2_with fail
    refine (HSh.out _ (hb1.alloc hb1.size _)).mono ?_
    rintro e w2 ⟨rfl, hb2⟩
    go_wp2_with fail
    exact bodyPost_ret (v := .tuple #[.string s, .int .i64 m]) (by simp [results, Tryd.results6, go_sem]) rfl ⟨rfl, Isa.below_box2 hb1 hb2⟩
  · rw [if_neg he, if_neg he]
    rw [decide_eq_false he] at HS
    have HI := Lib.hid fun (W : World) (hb : Below w.heap.size w W) => itoa_c x (by omega) (by omega) W (HT.out.on hb).here
    have hwr : IntKind.i64.wrap x = x := IntWalk.i64_in _ (by omega)
    have hlen : (Lib.itoa x).length ≤ 20 := itoa_len x (by omega) (by omega)
    obtain ⟨t, ht⟩ : ∃ t : ByteArray, t = ⟨(Lib.itoa x).toArray⟩ := ⟨_, rfl⟩
    have hts : t.size ≤ 20 := by rw [ht]; simpa [ByteArray.size] using hlen
    rw [← ht] at HI
    have HTt := Lib.hid ht
    have hbk : blk < w.heap.size := World.block_lt_of_cell? w _ x1
    have HX := Lib.hid x1
    clear he hxb ht hlen x1
    go_enter Tryd.func6, Tryd.ntmps6
    go_wp2_with fail
    refine HS.out.mono ?_
    rintro e w1 ⟨rfl, hb1⟩
    have x2 : w1.cell? ⟨blk, off + n, none⟩ = some (.int .u8 x) := (hb1.cell (p := ⟨blk, off + n, none⟩) hbk).trans HX.out
    have hb2 : blk < w1.heap.size := Nat.lt_of_lt_of_le hbk hb1.size
    go_wp2_with fail
    refine (HI.out _ (hb1.alloc hb1.size _)).mono ?_
    rintro e w2 ⟨rfl, hb3⟩
    go_wp2_with fail
    refine bodyPost_ret (v := .tuple #[.string (⟨#[46, 98, 121, 116, 101, 32]⟩ ++ t), .int .i64 1]) (by simp [results, Tryd.results6, go_sem]) rfl ⟨ret_tup (ba_extL ?_) rfl, Isa.below_box2 hb1 hb3⟩
    rw [HTt.out]; simp

set_option maxHeartbeats 4000000 in
theorem refOne_in (ao : Option Addr) (len cap : Nat) (L : List Int) (n : Nat) (hn : n < len) (w : World) (hy : ByteArg w ao len cap L) :
    Calls Tryd.prog 7 #[.slice ao len cap, .int .i64 (n : Int)] w fun e w' => e = .returned (.tuple #[.string ⟨(oneT L n).toArray⟩, .int .i64 (oneN L n)]) ∧ Below w.heap.size w w' := by
  obtain ⟨hL, hlc, hcm, hbt, hB⟩ := hy
  obtain ⟨blk, off, rfl, hc⟩ : ∃ blk off, ao = some ⟨blk, off, none⟩ ∧ ∀ i, i < L.length → w.cell? ⟨blk, off + i, none⟩ = some (.int .u8 (L.getD i 0)) := by
    rcases hB with h | h
    · rw [h] at hL; simp at hL; omega
    · exact h
  have HS := Lib.hid (Isa.rdec_c false (some ⟨blk, off + n, none⟩) (len - n) (cap - n) (L.drop n) w (by simp [hL]) (by omega) (fun x hx => hbt x (List.mem_of_mem_drop hx)) (bytes_dropL n hc))
  have HBD := decR_bd (L.drop n) (fun x hx => hbt x (List.mem_of_mem_drop hx))
  obtain ⟨h0, h1, h2, h3, h4, h5, h6, h7⟩ := HBD
  have HSh := Lib.hid fun (W : World) => refShow_c _ _ _ _ W h0 h1 h2 h3 h4 h5 h6 h7
  unfold oneT oneN
  have hxb : 0 ≤ L.getD n 0 ∧ L.getD n 0 < 256 := by
    have hk : n < L.length := by omega
    have : L.getD n 0 = L[n] := by simp [List.getD, List.getElem?_eq_getElem hk]
    rw [this]; exact hbt _ (List.getElem_mem hk)
  have x1 := hc n (by omega)
  clear h0 h1 h2 h3 h4 h5 h6 h7 hbt hB hL hc
  generalize Isa.decR false (L.drop n) = r at HS HSh ⊢
  generalize L.getD n 0 = x at hxb x1 ⊢
  obtain ⟨op, a, b, imm, m, err⟩ := r
  unfold Isa.DR.post Isa.DecPost at HS
  simp only at HS HSh ⊢
  unfold Isa.insV at HS HSh
  have i1 : (n : Int) < (len : Int) := by omega
  have i2 : ¬ (len : Int) ≤ (n : Int) := by omega
  have i3 : ¬ (n : Int) < 0 := by omega
  have i4 : (n : Int) < (cap : Int) := by omega
  have i5 : (len : Int) ≤ (cap : Int) := by omega
  have i6 : (cap : Int) ≤ 9223372036854775807 := by omega
  by_cases he : err = 0
  · rw [if_pos he, if_pos he]
    subst he
    generalize hs : (⟨(showL op a b imm).toArray⟩ : ByteArray) = s at HSh
    clear hxb x1
    go_enter Tryd.func7, Tryd.ntmps7
    go_wp2_with fail
    refine HS.out.mono ?_
    rintro e w1 ⟨rfl, hb1⟩
    go_wp2_with fail
    refine (HSh.out _).mono ?_
    rintro e w2 ⟨rfl, hb2⟩
    go_wp2_with fail
    exact bodyPost_ret (v := .tuple #[.string s, .int .i64 m]) (by simp [results, Tryd.results7, go_sem]) rfl ⟨rfl, Isa.below_box2 hb1 hb2⟩
  · rw [if_neg he, if_neg he]
    have hz : (err == 0) = false := by simpa using he
    have HI := Lib.hid fun (W : World) => decimal_c x (by omega) (by omega) W
    have hwr : IntKind.i64.wrap x = x := IntWalk.i64_in _ (by omega)
    have hlen : (Lib.itoa x).length ≤ 20 := itoa_len x (by omega) (by omega)
    obtain ⟨t, ht⟩ : ∃ t : ByteArray, t = ⟨(Lib.itoa x).toArray⟩ := ⟨_, rfl⟩
    have hts : t.size ≤ 20 := by rw [ht]; simpa [ByteArray.size] using hlen
    rw [← ht] at HI
    have HTt := Lib.hid ht
    have hbk : blk < w.heap.size := World.block_lt_of_cell? w _ x1
    have HX := Lib.hid x1
    clear he hxb ht hlen x1
    go_enter Tryd.func7, Tryd.ntmps7
    go_wp2_with fail
    refine HS.out.mono ?_
    rintro e w1 ⟨rfl, hb1⟩
    have x2 : w1.cell? ⟨blk, off + n, none⟩ = some (.int .u8 x) := (hb1.cell (p := ⟨blk, off + n, none⟩) hbk).trans HX.out
    have hb2 : blk < w1.heap.size := Nat.lt_of_lt_of_le hbk hb1.size
    go_wp2_with fail
    refine (HI.out _).mono ?_
    rintro e w2 ⟨rfl, rfl⟩
    go_wp2_with fail
    refine bodyPost_ret (v := .tuple #[.string (⟨#[46, 98, 121, 116, 101, 32]⟩ ++ t), .int .i64 1]) (by simp [results, Tryd.results7, go_sem]) rfl ⟨ret_tup (ba_extL ?_) rfl, hb1.alloc hb1.size _⟩
    rw [HTt.out]; simp
end Go.Proofs.YtocgiapkapekdaaDoor
