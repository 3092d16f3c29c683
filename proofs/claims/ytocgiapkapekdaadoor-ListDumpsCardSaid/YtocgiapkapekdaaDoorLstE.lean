/- list.line, list.row. (Written by mkLE.py.) -/
import Derived.Test.YtocgiapkapekdaaDoorLstD
import Derived.Lib.AppendIntMem
import Derived.Deep.RegionHeld3
import Derived.Lib.Join
namespace Go.Proofs.YtocgiapkapekdaaDoor
open Go.RowKit
set_option linter.unusedSimpArgs false
set_option linter.unusedVariables false
set_option maxRecDepth 100000

theorem Tryd.infoStrH : (Tryd.prog.info? 9).map (fun i => (i.zero, i.size, i.bytes)) = some (some (.string ⟨#[]⟩), 1, 16) := by kernel_rfl
theorem join_empty : ∀ xs : List (List UInt8), Lib.join xs [] = xs.flatten
  | [] => rfl
  | [x] => by simp [Lib.join, List.intercalate]
  | x :: y :: r => by
    have ih := join_empty (y :: r)
    unfold Lib.join List.intercalate at *
    simp only [List.intersperse_cons_cons, List.flatten_cons, List.nil_append] at *
    rw [ih]
theorem flat_le (xs : List (List UInt8)) (m : Nat) (h : ∀ x ∈ xs, x.length ≤ m) : xs.flatten.length ≤ xs.length * m := by
  induction xs with
  | nil => simp
  | cons x r ih =>
    have h1 := h x List.mem_cons_self
    have h2 := ih (fun y hy => h y (List.mem_cons_of_mem _ hy))
    simp only [List.flatten_cons, List.length_append, List.length_cons]
    rw [Nat.add_mul]; omega
/-- Pieces, and the end of a line. -/
def lineL (xs : List (List UInt8)) : List UInt8 := xs.flatten ++ [10]
abbrev sH (x : List UInt8) : ByteArray := ⟨x.toArray⟩

set_option maxHeartbeats 2000000 in
theorem line_c (bk c : Nat) (xs : List (List UInt8)) (hx : ∀ x ∈ xs, x.length ≤ 1000) (hn : xs.length ≤ 100) (hc : xs.length ≤ c) (w : World) (hcells : ∀ j x, xs[j]? = some x → w.cell? ⟨bk, j, none⟩ = some (.string (sH x))) (hbk : bk < w.heap.size) :
    Calls Tryd.prog 22 #[.slice (some ⟨bk, 0, none⟩) xs.length c] w fun e w' => e = .returned (.string (sH (lineL xs))) ∧ Below w.heap.size w w' := by
  have hfl := flat_le xs 1000 hx
  have hmap : (xs.map sH).map (·.data.toList) = xs := by
    rw [List.map_map]
    conv => rhs; rw [← List.map_id xs]
    apply List.map_congr_left
    intro x _
    simp
  have HJ := Lib.hid (Tryd.strings_Join bk 0 c (xs.map sH) ⟨#[]⟩ w (fun j x hj => by
    rw [List.getElem?_map] at hj
    cases h : xs[j]? with
    | none => rw [h] at hj; cases hj
    | some y =>
      rw [h] at hj
      cases hj
      rw [Nat.zero_add]; exact hcells j y h) hbk (by simp; omega) (by simpa using hc) (by rw [hmap]; show (Lib.join xs []).length ≤ _; rw [join_empty]; omega))
  rw [hmap, List.length_map] at HJ
  have ej : Lib.join xs (⟨#[]⟩ : ByteArray).data.toList = xs.flatten := join_empty xs
  rw [ej] at HJ
  have hz : (⟨xs.flatten.toArray⟩ : ByteArray).size ≤ 100000 := by show xs.flatten.toArray.size ≤ _; rw [List.size_toArray]; omega
  have he : sH (lineL xs) = (⟨xs.flatten.toArray⟩ : ByteArray) ++ ⟨#[10]⟩ := by apply ba_extH; simp [lineL]
  rw [he]
  generalize (⟨xs.flatten.toArray⟩ : ByteArray) = s at HJ hz
  clear hfl hmap ej he hcells hx
  go_enter Tryd.func22, Tryd.ntmps22
  go_wp2_with fail
  refine (HJ.out).mono ?_
  rintro e w1 ⟨rfl, hb⟩
  go_wp2_with fail
  go_ret
  exact ⟨rfl, hb⟩

/-- A byte as it is shown. -/
def dotD (x : Int) : UInt8 := if x < 32 ∨ 126 < x then 46 else UInt8.ofNat x.toNat
/-- A line of a dump. -/
def rowL (L : List Int) (at' : Nat) : List UInt8 := lineL [hexL at' 8, [32, 32], Lib.join (L.map fun x => hexL x.toNat 2) [32], [32, 32], L.map dotD]
def rowP (L : List Int) (k : Nat) : Array Value := (Lib.byteCells ((List.range L.length).map fun j => if j < k then dotD (L.getD j 0) else 0)).toArray
def hxV (x : Int) : Value := .string (sH (hexL x.toNat 2))
theorem own_keepH {w w' : World} {base n size : Nat} {e : TypeId} {v : Value} {xs : List Value} (h : w.ownsRow base e size v n xs) (hb : Below w.heap.size w w') : w'.ownsRow base e size v n xs := by
  refine ⟨h.1, ?_⟩
  rcases h.2 with h | ⟨g, cap, cur, h1, h2, h3, h4⟩
  · exact .inl h
  · exact .inr ⟨g, cap, cur, h1, h2, (hb.block _ (Array.getElem?_eq_some_iff.1 h3).1).trans h3, h4⟩
theorem own_setH {w : World} {base n size b j : Nat} {e : TypeId} {v u : Value} {xs : List Value} (h : w.ownsRow base e size v n xs) (hb : b < base) : (w.setCell ⟨b, j, none⟩ u).ownsRow base e size v n xs := by
  refine ⟨h.1, ?_⟩
  rcases h.2 with h | ⟨g, cap, cur, h1, h2, h3, h4⟩
  · exact .inl h
  · exact .inr ⟨g, cap, cur, h1, h2, (Below.heap_setCell w ⟨b, j, none⟩ u g (by show g ≠ b; omega)).trans h3, h4⟩
theorem cells_newH (w : World) (xs : List Value) (t : TypeId) (k : Nat) (hk : k = w.heap.size) : ∀ j u, xs[j]? = some u → (w.alloc (.cells xs.toArray t)).cell? ((⟨k, 0, none⟩ : Addr).add j) = some u := by
  intro j u hu
  have ha : (⟨k, 0, none⟩ : Addr).add j = ⟨k, j, none⟩ := by unfold Addr.add; split <;> simp_all
  rw [ha]
  refine (cell_of_row _ k j xs.toArray t (0, 0) (heap_newH hk)).trans ?_
  rw [List.getElem?_toArray]; exact hu
theorem own_nextH {W w w' : World} {base n size : Nat} {v : Value} {xs : List Value} {e : TypeId} {o : Obj} (hB : Below base W w) (hs : base ≤ w.heap.size) (hown : w.ownsRow base e size v n xs) (hg : (w.alloc o).grownBy w' v.ownBlock) :
    Below base W w' ∧ base ≤ w'.heap.size := by
  have h1 := hg.size
  simp at h1
  refine ⟨(hB.alloc hs o).grown hg (by simp; omega) (fun k hk => ?_), by omega⟩
  rcases hown.2 with ⟨rfl, _⟩ | ⟨g, cap, cur, rfl, h2, _⟩
  · simp [Value.ownBlock] at hk
  · have : g = k := by simpa [Value.ownBlock] using hk
    omega
theorem dig_len (n d : Nat) : (hexL n d).length = d := by simp [hexL]
theorem rowP_set1 (L : List Int) (k : Nat) (hk : k < L.length) (u : UInt8) : True := trivial
theorem rowP_get (L : List Int) (k j : Nat) (hj : j < L.length) : ∃ v, (rowP L k)[j]? = some (.int .u8 v) := by
  unfold rowP Lib.byteCells
  rw [List.getElem?_toArray, List.getElem?_map, List.getElem?_map, List.getElem?_range hj]
  exact ⟨_, rfl⟩
theorem rowP_step (L : List Int) (k : Nat) (hk : k < L.length) (v : Value) (hv : v = .int .u8 ((dotD (L.getD k 0)).toNat : Int)) : (rowP L k).setIfInBounds k v = rowP L (k + 1) := by
  subst hv
  unfold rowP Lib.byteCells
  apply Array.toList_inj.1
  rw [Array.toList_setIfInBounds]
  simp only [List.map_map]
  apply List.ext_getElem?
  intro i
  rw [List.getElem?_set, List.getElem?_map, List.getElem?_map]
  by_cases hi : i < L.length
  · rw [List.getElem?_range hi]
    by_cases c : k = i
    · subst c
      rw [if_pos rfl, if_pos (by simp; omega)]
      simp
    · rw [if_neg c]
      simp only [Option.map_some, Function.comp]
      by_cases c2 : i < k
      · rw [if_pos c2, if_pos (by omega)]
      · rw [if_neg c2, if_neg (by omega)]
  · rw [if_neg (by omega), List.getElem?_eq_none (by simpa using hi)]
    rfl
theorem rowP_zero (L : List Int) : rowP L 0 = Array.replicate L.length (.int .u8 0) := by
  unfold rowP Lib.byteCells
  apply Array.toList_inj.1
  simp only [List.map_map, Array.toList_replicate]
  apply List.ext_getElem?
  intro i
  rw [List.getElem?_map, List.getElem?_replicate]
  by_cases hi : i < L.length
  · rw [List.getElem?_range hi, if_pos hi]; rfl
  · rw [if_neg hi, List.getElem?_eq_none (by simpa using hi)]; rfl
theorem rowP_full (L : List Int) : rowP L L.length = (Lib.byteCells (L.map dotD)).toArray := by
  unfold rowP
  congr 2
  apply List.ext_getElem?
  intro i
  rw [List.getElem?_map, List.getElem?_map]
  by_cases hi : i < L.length
  · rw [List.getElem?_range hi, List.getElem?_eq_getElem hi]
    simp [hi, List.getD, List.getElem?_eq_getElem hi]
  · rw [List.getElem?_eq_none (by simpa using hi), List.getElem?_eq_none (by simpa using hi)]; rfl
theorem dot_toNat {x : Int} (h : 0 ≤ x ∧ x < 256) (h1 : ¬ x < 32) (h2 : ¬ 126 < x) : ((dotD x).toNat : Int) = x := by
  unfold dotD
  rw [if_neg (by omega)]
  simp; omega
theorem dot_46 {x : Int} (h : x < 32 ∨ 126 < x) : ((dotD x).toNat : Int) = 46 := by
  unfold dotD
  rw [if_pos h]; rfl
theorem set_set (A : Array Value) (k : Nat) (u v : Value) : (A.setIfInBounds k u).setIfInBounds k v = A.setIfInBounds k v := by
  apply Array.toList_inj.1
  simp [Array.toList_setIfInBounds, List.set_set]

/-- What row's last step reads. -/
structure RwS (w : World) (pb g : Nat) (L : List Int) (w' : World) : Prop where
  below : Below w.heap.size w w'
  p : w'.heap[pb]? = some (.cells (Lib.byteCells (L.map dotD)).toArray 5 (0, 0))
  d : ∀ j x, (L.map fun x => sH (hexL x.toNat 2))[j]? = some x → w'.cell? ⟨g, j, none⟩ = some (.string x)
  g : g < w'.heap.size
theorem RwS.next {w : World} {pb g : Nat} {L : List Int} {w1 w2 : World} (h : RwS w pb g L w1) (hb : Below w1.heap.size w1 w2) : RwS w pb g L w2 :=
  ⟨h.below.trans (hb.mono h.below.size), (hb.block _ (Array.getElem?_eq_some_iff.1 h.p).1).trans h.p, fun j x hj => (hb.cell (p := ⟨g, j, none⟩) h.g).trans (h.d j x hj), Nat.lt_of_lt_of_le h.g hb.size⟩
theorem join_le (xs : List (List UInt8)) (m : Nat) (h : ∀ x ∈ xs, x.length ≤ m) : (Lib.join xs [32]).length ≤ xs.length * (m + 1) := by
  induction xs with
  | nil => simp [Lib.join, List.intercalate]
  | cons x r ih =>
    have h1 := h x List.mem_cons_self
    have h2 := ih (fun y hy => h y (List.mem_cons_of_mem _ hy))
    cases r with
    | nil => simp [Lib.join, List.intercalate]; omega
    | cons y r =>
      unfold Lib.join List.intercalate at *
      simp only [List.intersperse_cons_cons, List.flatten_cons, List.length_append, List.length_cons, List.length_nil] at *
      have e : (r.length + 1 + 1) * (m + 1) = (r.length + 1) * (m + 1) + (m + 1) := by rw [Nat.add_mul]; omega
      omega

theorem five_at {a b c d e x : List UInt8} {j : Nat} (h : ([a, b, c, d, e] : List (List UInt8))[j]? = some x) : (#[Value.string (sH a), .string (sH b), .string (sH c), .string (sH d), .string (sH e)])[j]? = some (.string (sH x)) := by
  have e1 : #[Value.string (sH a), .string (sH b), .string (sH c), .string (sH d), .string (sH e)] = (([a, b, c, d, e] : List (List UInt8)).map fun x => Value.string (sH x)).toArray := rfl
  rw [e1, List.getElem?_toArray, List.getElem?_map, h]; rfl
theorem own_someH {w : World} {base n : Nat} {e : TypeId} {v : Value} {xs : List Value} (h : w.ownsRow base e 1 v n xs) (hp : 0 < n) : ∃ g cap, v = .slice (some ⟨g, 0, none⟩) n cap ∧ n ≤ cap ∧ g < w.heap.size := by
  rcases h.2 with ⟨-, h1⟩ | ⟨g, cap, cur, h1, h2, h3, h4⟩
  · omega
  · exact ⟨g, cap, h1, by omega, (Array.getElem?_eq_some_iff.1 h3).1⟩
theorem row_pieces (at' : Nat) (L : List Int) (hL : L.length ≤ 16) : ∀ x ∈ [hexL at' 8, [32, 32], Lib.join (L.map fun x => hexL x.toNat 2) [32], [32, 32], L.map dotD], x.length ≤ 1000 := by
  have h1 := join_le (L.map fun x => hexL x.toNat 2) 2 (fun x hx => by
    obtain ⟨y, -, rfl⟩ := List.mem_map.1 hx
    rw [dig_len]; omega)
  rw [List.length_map] at h1
  intro x hx
  simp only [List.mem_cons, List.not_mem_nil, or_false] at hx
  rcases hx with rfl | rfl | rfl | rfl | rfl
  · rw [dig_len]; omega
  · decide
  · omega
  · decide
  · rw [List.length_map]; omega
theorem joinRow (g cap : Nat) (L : List Int) (hL : L.length ≤ 16) (hcap : L.length ≤ cap) (W : World) (hd : ∀ j x, (L.map fun x => sH (hexL x.toNat 2))[j]? = some x → W.cell? ⟨g, j, none⟩ = some (.string x)) (hg : g < W.heap.size) :
    Calls Tryd.prog 38 #[.slice (some ⟨g, 0, none⟩) L.length cap, .string ⟨#[32]⟩] W fun e w' => e = .returned (.string (sH (Lib.join (L.map fun x => hexL x.toNat 2) [32]))) ∧ Below W.heap.size W w' := by
  have hmap : (L.map fun x => sH (hexL x.toNat 2)).map (·.data.toList) = L.map fun x => hexL x.toNat 2 := by
    rw [List.map_map]
    apply List.map_congr_left
    intro x _
    simp
  have h1 := join_le (L.map fun x => hexL x.toNat 2) 2 (fun x hx => by
    obtain ⟨y, -, rfl⟩ := List.mem_map.1 hx
    rw [dig_len]; omega)
  rw [List.length_map] at h1
  have h := Tryd.strings_Join g 0 cap (L.map fun x => sH (hexL x.toNat 2)) ⟨#[32]⟩ W (fun j x hj => by rw [Nat.zero_add]; exact hd j x hj) hg (by simp; omega) (by simpa using hcap) (by rw [hmap]; show (Lib.join _ [32]).length ≤ _; omega)
  rw [hmap, List.length_map] at h
  exact h

set_option maxHeartbeats 8000000 in
theorem row_c (ao : Option Addr) (la ca : Nat) (L : List Int) (at' : Nat) (ha : at' < 4294967296) (hL : L.length ≤ 16) (hne : L ≠ []) (w : World) (hA : ByteArg w ao la ca L) :
    Calls Tryd.prog 25 #[.slice ao la ca, .int .u32 (at' : Int)] w fun e w' => e = .returned (.string (sH (rowL L at'))) ∧ Below w.heap.size w w' := by
  obtain ⟨i0, hi, hz0, hz1, hz2⟩ := info_parts Tryd.infoStrH
  obtain ⟨a1, a2, a3, a4, a5⟩ := hA
  subst a1
  obtain ⟨blk, off, rfl, hc⟩ : ∃ blk off, ao = some ⟨blk, off, none⟩ ∧ ∀ i, i < L.length → w.cell? ⟨blk, off + i, none⟩ = some (.int .u8 (L.getD i 0)) := by
    rcases a5 with h | h
    · exact absurd h hne
    · exact h
  have hpos : 0 < L.length := List.length_pos_iff.2 hne
  have hblk : blk < w.heap.size := World.block_lt_of_cell? w _ (hc 0 hpos)
  have hbd : ∀ i, i < L.length → 0 ≤ L.getD i 0 ∧ L.getD i 0 < 256 := fun i hi => by
    have : L.getD i 0 = L[i] := by simp [List.getD, List.getElem?_eq_getElem hi]
    rw [this]; exact a4 _ (List.getElem_mem hi)
  have hmk := mk_bytes L.length (by omega) w
  have HX := Lib.hid fun (n d : Nat) (hn : n < 4294967296) (hd : d ≤ 100) (W : World) => hex_c n d hn hd W
  have HC := Lib.hid hc
  have HBD := Lib.hid hbd
  obtain ⟨RES, hres⟩ : ∃ RES, RES = sH (rowL L at') := ⟨_, rfl⟩
  rw [← hres]
  have HRES := Lib.hid hres
  clear hc a5 a4 hbd hres
  go_enter Tryd.func25, Tryd.ntmps25
  go_wp2_with fail
  obtain ⟨W1, hW1⟩ : ∃ W1, W1 = w.alloc (.cells (Array.replicate L.length (.int .u8 0)) 5) := ⟨_, rfl⟩
  rw [← hW1]
  have hp1 : W1.heap[w.heap.size]? = some (.cells (rowP L 0) 5 (0, 0)) := by rw [hW1, rowP_zero]; exact heap_newH rfl
  have hb1 : Below w.heap.size w W1 := by rw [hW1]; exact (Below.refl _ _).alloc (Nat.le_refl _) _
  have hs1 : W1.heap.size = w.heap.size + 1 := by rw [hW1]; simp
  have HP1 := Lib.hid hp1
  clear hW1 hmk hp1
  go_loopg [5, 14] L.length (fun gk v5 vk wr => ∃ k : Nat, gk + k = L.length ∧ vk = .int .i64 (k : Int) ∧ wr.ownsRow W1.heap.size 9 1 v5 k ((L.take k).map hxV) ∧ W1.heap.size ≤ wr.heap.size ∧ Below w.heap.size w wr ∧ Hid (wr.heap[w.heap.size]? = some (.cells (rowP L k) 5 (0, 0))))
  case atStart => exact ⟨0, by omega, rfl, ⟨rfl, .inl ⟨rfl, rfl⟩⟩, Nat.le_refl _, hb1, HP1⟩
  case round =>
    obtain ⟨k, hk, rfl, own5, hsz, hB, HP⟩ := hrel
    by_cases c : k < L.length
    · have i1 : (k : Int) < (L.length : Int) := by omega
      have x0 := (hB.cell (p := ⟨blk, off + k, none⟩) hblk).trans (HC.out k c)
      have hx := HBD.out k c
      have htk : (L.take (k + 1)).map hxV = (L.take k).map hxV ++ [hxV (L.getD k 0)] := by
        rw [List.take_succ_eq_append_getElem c, List.map_append]
        congr 1
        simp [List.getD, List.getElem?_eq_getElem c]
      have HTK := Lib.hid htk
      have hstep := Lib.hid (rowP_step L k c)
      obtain ⟨v0, hv0⟩ := rowP_get L k k c
      clear htk
      generalize L.getD k 0 = x at x0 hx HTK hstep
      obtain ⟨y, rfl⟩ : ∃ y : Nat, x = (y : Int) := ⟨x.toNat, by omega⟩
      have hy : y < 256 := by omega
      have HH := HX.out y 2 (by omega) (by omega)
      have hw32 : IntKind.u32.wrap (y : Int) = (y : Int) := IntWalk.u32_in _ (by omega)
      have hxv : hxV (y : Int) = .string ⟨(hexL y 2).toArray⟩ := rfl
      have HHx := Lib.hid hx
      clear hx hxv
      go_wp2_with fail
      refine (HH _).mono ?_
      rintro e w2 ⟨rfl, hb2⟩
      have own6 := own_keepH own5 hb2
      have hB2 : Below w.heap.size w w2 := hB.trans (hb2.mono hB.size)
      have hsz2 : W1.heap.size ≤ w2.heap.size := Nat.le_trans hsz hb2.size
      have HP2 := Lib.hid ((hb2.block _ (Array.getElem?_eq_some_iff.1 HP.out).1).trans HP.out)
      clear own5 hb2 HP
      by_cases d1 : (y : Int) < 32
      · go_wp2_with (first | (at_builtin; refine wpList_append_own _ rfl _ _ 70 rfl W1.heap.size 9 i0 _ 1 16 Tryd.underlying70 hi hz0 hz1 hz2 rfl (by decide) _ _ _ rfl (own6.alloc _) _ 1 1 [hxV (y : Int)] rfl rfl (cells_newH _ _ _ _ (by simp)) (by simp [Value.oneCell', hxV]) (by unfold maxLen; omega) (by omega) (by first | (simp; done) | (simp; omega)) ?_; intro v4 w4 own4 gr4 _; obtain ⟨hB4, hs4⟩ := own_nextH (Below.refl W1.heap.size w2) hsz2 own6 gr4; have hP4 := (hB4.block w.heap.size (by omega)).trans HP2.out; have hB4w : Below w.heap.size w w4 := hB2.trans (hB4.mono (by omega)); have k4 := (cell_of_row w4 w.heap.size k _ _ _ hP4).trans hv0; have f4 := frozen_of_row w4 w.heap.size k _ _ hP4; have HP4 := Lib.hid hP4; clear gr4 hP4 HP2))
        go_roundg (gk - 1)
        case measure => omega
        case rel => exact ⟨k + 1, by omega, by go_num, by rw [HTK.out]; exact own_setH (own_setH own4 (by omega)) (by omega), by simp [World.setCell]; omega, (hB4w.setCell (p := ⟨w.heap.size, k, none⟩) (Nat.le_refl _) _).setCell (p := ⟨w.heap.size, k, none⟩) (Nat.le_refl _) _, Lib.hid (by have := row_setH (row_setH HP4.out k (.int .u8 (y : Int))) k (.int .u8 46); rw [set_set, hstep.out (.int .u8 46) (by rw [dot_46 (.inl d1)])] at this; exact this)⟩
      · by_cases d2 : (126 : Int) < (y : Int)
        · go_wp2_with (first | (at_builtin; refine wpList_append_own _ rfl _ _ 70 rfl W1.heap.size 9 i0 _ 1 16 Tryd.underlying70 hi hz0 hz1 hz2 rfl (by decide) _ _ _ rfl (own6.alloc _) _ 1 1 [hxV (y : Int)] rfl rfl (cells_newH _ _ _ _ (by simp)) (by simp [Value.oneCell', hxV]) (by unfold maxLen; omega) (by omega) (by first | (simp; done) | (simp; omega)) ?_; intro v4 w4 own4 gr4 _; obtain ⟨hB4, hs4⟩ := own_nextH (Below.refl W1.heap.size w2) hsz2 own6 gr4; have hP4 := (hB4.block w.heap.size (by omega)).trans HP2.out; have hB4w : Below w.heap.size w w4 := hB2.trans (hB4.mono (by omega)); have k4 := (cell_of_row w4 w.heap.size k _ _ _ hP4).trans hv0; have f4 := frozen_of_row w4 w.heap.size k _ _ hP4; have HP4 := Lib.hid hP4; clear gr4 hP4 HP2))
          go_roundg (gk - 1)
          case measure => omega
          case rel => exact ⟨k + 1, by omega, by go_num, by rw [HTK.out]; exact own_setH (own_setH own4 (by omega)) (by omega), by simp [World.setCell]; omega, (hB4w.setCell (p := ⟨w.heap.size, k, none⟩) (Nat.le_refl _) _).setCell (p := ⟨w.heap.size, k, none⟩) (Nat.le_refl _) _, Lib.hid (by have := row_setH (row_setH HP4.out k (.int .u8 (y : Int))) k (.int .u8 46); rw [set_set, hstep.out (.int .u8 46) (by rw [dot_46 (.inr d2)])] at this; exact this)⟩
        · go_wp2_with (first | (at_builtin; refine wpList_append_own _ rfl _ _ 70 rfl W1.heap.size 9 i0 _ 1 16 Tryd.underlying70 hi hz0 hz1 hz2 rfl (by decide) _ _ _ rfl (own6.alloc _) _ 1 1 [hxV (y : Int)] rfl rfl (cells_newH _ _ _ _ (by simp)) (by simp [Value.oneCell', hxV]) (by unfold maxLen; omega) (by omega) (by first | (simp; done) | (simp; omega)) ?_; intro v4 w4 own4 gr4 _; obtain ⟨hB4, hs4⟩ := own_nextH (Below.refl W1.heap.size w2) hsz2 own6 gr4; have hP4 := (hB4.block w.heap.size (by omega)).trans HP2.out; have hB4w : Below w.heap.size w w4 := hB2.trans (hB4.mono (by omega)); have k4 := (cell_of_row w4 w.heap.size k _ _ _ hP4).trans hv0; have f4 := frozen_of_row w4 w.heap.size k _ _ hP4; have HP4 := Lib.hid hP4; clear gr4 hP4 HP2))
          go_roundg (gk - 1)
          case measure => omega
          case rel => exact ⟨k + 1, by omega, by go_num, by rw [HTK.out]; exact own_setH own4 (by omega), by simp [World.setCell]; omega, hB4w.setCell (p := ⟨w.heap.size, k, none⟩) (Nat.le_refl _) _, Lib.hid (by have := row_setH HP4.out k (.int .u8 (y : Int)); rw [hstep.out (.int .u8 (y : Int)) (by rw [dot_toNat HHx.out (by omega) (by omega)])] at this; exact this)⟩
    · have i1 : ¬ (k : Int) < (L.length : Int) := by omega
      obtain rfl : k = L.length := by omega
      have hpf := HP.out
      rw [rowP_full] at hpf
      rw [List.take_length] at own5
      obtain ⟨g, cap, rfl, hg⟩ := own_someH own5 hpos
      have hcd : ∀ j x, (L.map fun x => sH (hexL x.toNat 2))[j]? = some x → wr.cell? ⟨g, j, none⟩ = some (.string x) := fun j x hj => by
        have hlt : j < L.length := by have := (List.getElem?_eq_some_iff.1 hj).1; simpa using this
        refine (own5.cellAt (j := j) (by simpa using hlt)).trans ?_
        rw [List.getElem?_map] at hj ⊢
        cases h : L[j]? with
        | none => rw [h] at hj; cases hj
        | some y => rw [h] at hj; cases hj; rfl
      have HRw : Hid (RwS w w.heap.size g L wr) := Lib.hid ⟨hB, hpf, hcd, hg.2⟩
      have HJ := Lib.hid fun (W : World) (h : RwS w w.heap.size g L W) => joinRow g cap L hL hg.1 W h.d h.g
      have HA8 := HX.out at' 8 ha (by omega)
      have HLn := Lib.hid fun (bk : Nat) (W : World) (hw : ∀ j x, ([hexL at' 8, [32, 32], Lib.join (L.map fun x => hexL x.toNat 2) [32], [32, 32], L.map dotD] : List (List UInt8))[j]? = some x → W.cell? ⟨bk, j, none⟩ = some (.string (sH x))) (hb : bk < W.heap.size) => line_c bk 5 [hexL at' 8, [32, 32], Lib.join (L.map fun x => hexL x.toNat 2) [32], [32, 32], L.map dotD] (row_pieces at' L hL) (by simp) (by simp) W hw hb
      clear own5 HP hpf hcd HC HBD hi hz0 hz1 hz2
      go_wp2_with fail
      refine wp_region_held_drew (S := fun w' => RwS w w.heap.size g L w') (by kernel_rfl) (HRw.out.next (Below.refl _ _).drew) (fun hHeld => ?_)
      clear HRw
      refine wpAnyH_take (i := 0) (oi := { dst := some 39, op := Op.move (Operand.tmp 1), type := _, pos := "list.go:144", after := #[], guard := none }) (v := .int .u32 (at' : Int)) rfl (by kernel_rfl) (by kernel_rfl) (by kernel_rfl) (fun _ _ _ h => h) (Or.inl ⟨by rfl, ?_⟩) hHeld ?_
      · intro w' hSw
        skip
        go_simp
      try simp only [Act.put, List.setIfInBounds_toArray, List.set_cons_zero, List.set_cons_succ]
      refine wpAnyH_take (i := 2) (oi := { dst := some 41, op := Op.move (Operand.tmp 5), type := _, pos := "list.go:144", after := #[], guard := none }) (v := .slice (some ⟨g, 0, none⟩) L.length cap) rfl (by kernel_rfl) (by kernel_rfl) (by kernel_rfl) (fun _ _ _ h => h) (Or.inl ⟨by rfl, ?_⟩) hHeld ?_
      · intro w' hSw
        skip
        go_simp
      try simp only [Act.put, List.setIfInBounds_toArray, List.set_cons_zero, List.set_cons_succ]
      refine wpAnyH_take (i := 4) (oi := { dst := some 43, op := Op.move (Operand.tmp 6), type := _, pos := "list.go:144", after := #[], guard := none }) (v := .slice (some ⟨w.heap.size, 0, none⟩) L.length L.length) rfl (by kernel_rfl) (by kernel_rfl) (by kernel_rfl) (fun _ _ _ h => h) (Or.inl ⟨by rfl, ?_⟩) hHeld ?_
      · intro w' hSw
        skip
        go_simp
      try simp only [Act.put, List.setIfInBounds_toArray, List.set_cons_zero, List.set_cons_succ]
      refine wpAnyH_take (i := 5) (oi := { dst := some 44, op := Op.convert _ _ (Operand.tmp 43), type := _, pos := "list.go:144", after := #[{ on := 4, ground := Ground.data }], guard := none }) (v := .string (sH (L.map dotD))) rfl (by kernel_rfl) (by kernel_rfl) (by kernel_rfl) (fun _ _ _ h => h) (Or.inl ⟨by rfl, ?_⟩) hHeld ?_
      · intro w' hSw
        have hcv := cv_row w' w.heap.size L.length L.length (L.map dotD) (by simp) _ _ hSw.p
        go_simp
      try simp only [Act.put, List.setIfInBounds_toArray, List.set_cons_zero, List.set_cons_succ]
      refine wpAnyH_ready (rs := [1]) (by kernel_rfl) (by simp) ?_
      refine AllReadyH.cons (o := { dst := some 40, op := Op.call { callee := Callee.value (Operand.func _), args := #[Operand.tmp 39, Operand.const (Value.int IntKind.i64 8)], argTypes := _ }, type := _, pos := "list.go:144", after := #[{ on := 0, ground := Ground.data }], guard := none }) rfl (fun K hK => ?_) AllReadyH.nil
      go_simp
      go_at_call 39
      refine (HA8 _).mono ?_
      rintro e w5 ⟨rfl, hb5⟩
      refine hK.out _ _ (hHeld.next hb5) (fun hHeld => ?_)
      clear hK K
      try simp only [Act.put, List.setIfInBounds_toArray, List.set_cons_zero, List.set_cons_succ]
      refine wpAnyH_ready (rs := [3]) (by kernel_rfl) (by simp) ?_
      refine AllReadyH.cons (o := { dst := some 42, op := Op.call { callee := Callee.value (Operand.func _), args := #[Operand.tmp 41, Operand.const (Value.string { data := #[32] })], argTypes := _ }, type := _, pos := "list.go:144", after := #[{ on := 2, ground := Ground.data }, { on := 1, ground := Ground.chain }], guard := none }) rfl (fun K hK => ?_) AllReadyH.nil
      go_simp
      go_at_call 38
      refine (HJ.out _ hHeld).mono ?_
      rintro e w6 ⟨rfl, hb6⟩
      refine hK.out _ _ (hHeld.next hb6) (fun hHeld => ?_)
      clear hK K
      try simp only [Act.put, List.setIfInBounds_toArray, List.set_cons_zero, List.set_cons_succ]
      refine wpAnyH_ready (rs := [6]) (by kernel_rfl) (by simp) ?_
      refine AllReadyH.cons (o := { dst := some 45, op := Op.buildSlice 70 5 #[(0, Operand.tmp 40), (1, Operand.const (Value.string { data := #[32, 32] })), (2, Operand.tmp 42), (3, Operand.const (Value.string { data := #[32, 32] })), (4, Operand.tmp 44)], type := _, pos := "list.go:144", after := #[{ on := 1, ground := Ground.data }, { on := 3, ground := Ground.data }, { on := 5, ground := Ground.data }], guard := none }) rfl (fun K hK => ?_) AllReadyH.nil
      go_simp
      refine hK.out _ _ (hHeld.next ((Below.refl _ _).alloc (Nat.le_refl _) _)) (fun hHeld => ?_)
      clear hK K
      try simp only [Act.put, List.setIfInBounds_toArray, List.set_cons_zero, List.set_cons_succ]
      refine wpAnyH_ready (rs := [7]) (by kernel_rfl) (by simp) ?_
      refine AllReadyH.cons (o := { dst := some 46, op := Op.call { callee := Callee.value (Operand.func _), args := #[Operand.tmp 45], argTypes := _ }, type := _, pos := "list.go:144", after := #[{ on := 6, ground := Ground.data }, { on := 3, ground := Ground.chain }], guard := none }) rfl (fun K hK => ?_) AllReadyH.nil
      go_simp
      go_at_call 22
      refine (HLn.out w6.heap.size _ (fun j x hj => (cell_of_row _ _ j _ _ _ (heap_newH rfl)).trans (five_at hj)) (by simp)).mono ?_
      rintro e w7 ⟨rfl, hb7⟩
      refine hK.out _ _ (hHeld.next hb7) (fun hHeld => ?_)
      clear hK K
      try simp only [Act.put, List.setIfInBounds_toArray, List.set_cons_zero, List.set_cons_succ]
      refine wpAnyH_take (i := 8) (oi := { dst := some 4, op := Op.assign (Operand.tmp 46), type := _, pos := "list.go:144", after := #[{ on := 7, ground := Ground.data }, { on := 7, ground := Ground.chain }, { on := 0, ground := Ground.phase }, { on := 1, ground := Ground.phase }, { on := 2, ground := Ground.phase }, { on := 3, ground := Ground.phase }, { on := 4, ground := Ground.phase }, { on := 5, ground := Ground.phase }, { on := 6, ground := Ground.phase }, { on := 7, ground := Ground.phase }], guard := none }) (v := .string (sH (lineL [hexL at' 8, [32, 32], Lib.join (L.map fun x => hexL x.toNat 2) [32], [32, 32], L.map dotD]))) rfl (by kernel_rfl) (by kernel_rfl) (by kernel_rfl) (fun _ _ _ h => h) (Or.inl ⟨by rfl, ?_⟩) hHeld ?_
      · intro w' hSw
        skip
        go_simp
      try simp only [Act.put, List.setIfInBounds_toArray, List.set_cons_zero, List.set_cons_succ]
      refine wpAnyH_done (by kernel_rfl) ?_ _
      go_wp2_with fail
      go_ret
      exact ⟨by rw [HRES.out]; rfl, hHeld.below⟩
end Go.Proofs.YtocgiapkapekdaaDoor
