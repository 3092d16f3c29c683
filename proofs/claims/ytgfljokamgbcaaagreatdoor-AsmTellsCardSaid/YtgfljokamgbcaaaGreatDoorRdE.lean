/- text.words: the words of a text, as they come one by one. -/
import Derived.RangeFuncNested
import Derived.RangeFuncBound
import Derived.RangeFuncCalls
import Derived.RangeFuncLeaves
import Derived.Shelf.Abstract
import Derived.Shelf.RegionOpen
import Derived.WalkKit
import Derived.OwnWalkIn
import Derived.TacticsInMore
import Derived.LoopNIn
import Derived.LoopIn
import Derived.Test.YtgfljokamgbcaaaGreatDoorRdB
namespace Go.Proofs.YtgfljokamgbcaaaGreatDoor
open Go.RowKit Go.Shelf
set_option linter.unusedSimpArgs false
set_option linter.unusedVariables false
set_option maxRecDepth 100000
attribute [local go_sem] Oper.semAt_some

/-- A text cut at each blank. -/
def splitF : List UInt8 → List (List UInt8)
  | [] => [[]]
  | c :: r => if c = 32 then [] :: splitF r else match splitF r with
    | w :: ws => (c :: w) :: ws
    | [] => [[c]]
theorem split_ne : ∀ l, splitF l ≠ []
  | [] => by simp [splitF]
  | c :: r => by
    unfold splitF
    split
    · simp
    · split <;> simp
theorem split_none : ∀ {l : List UInt8}, (∀ c ∈ l, c ≠ 32) → splitF l = [l]
  | [], _ => rfl
  | c :: r, h => by
    unfold splitF
    rw [if_neg (h c List.mem_cons_self), split_none (fun d hd => h d (List.mem_cons_of_mem _ hd))]
theorem split_blank : ∀ {l : List UInt8} {n : Nat}, (∀ j, j < n → l[j]? ≠ some 32) → l[n]? = some 32 → splitF l = l.take n :: splitF (l.drop (n + 1))
  | [], n, _, h => by simp at h
  | c :: r, 0, _, h => by
    simp at h
    rw [splitF, if_pos h]; rfl
  | c :: r, n + 1, hj, h => by
    have h0 := hj 0 (by omega)
    simp at h0
    have ih := split_blank (l := r) (n := n) (fun j hjn => by simpa using hj (j + 1) (by omega)) (by simpa using h)
    rw [splitF, if_neg h0, ih]; rfl
theorem ba_extract (l : List UInt8) (i j : Nat) : (⟨l.toArray⟩ : ByteArray).extract i j = ⟨((l.drop i).take (j - i)).toArray⟩ := by
  apply ba_ext
  rw [ByteArray.data_extract]
  simp [List.extract_eq_take_drop]

/-- What a round keeps: the text that is gone through. -/
def KpC (Bs : Nat) (W W' : World) : Prop := ∀ v, W.cell? ⟨Bs, 0, none⟩ = some v → W'.cell? ⟨Bs, 0, none⟩ = some v
theorem kpc_t {Bs : Nat} {A B C : World} (h : KpC Bs A B) (k : KpC Bs B C) : KpC Bs A C := fun v hv => k v (h v hv)
theorem kpc_b {Bs : Nat} {w : World} (hn : Bs < w.heap.size) (W : World) (l : Nat) (o o' : Obj) (hl : w.heap.size ≤ l) (h : W.heap[l]? = some o) (_ : o.isCells = false) (_ : o.isWalk = false) : KpC Bs W (W.putObj l o') := fun v hv => by
  have hlt : Bs < W.heap.size := by have := (Array.getElem?_eq_some_iff.1 h).1; omega
  exact (World.cell?_of_block (a := ⟨Bs, 0, none⟩) ((grownBy_putObj' W l o').block Bs hlt (fun e => by cases e; omega))).trans hv

abbrev wdE (x : List UInt8) : Array Value := #[.string ⟨x.toArray⟩]

set_option maxHeartbeats 4000000 in
theorem words1_in (F : Fence) (n : Nat) (hf : F.fn 90) (hro : F.round = none) (hn : 1 ≤ n) (l Bs : Nat) (L : List UInt8) (J Jx : List (List UInt8) → World → Prop)
    (hY : ∀ pre x W, J pre W → pre.length < (splitF L).length → YieldAt F (n - 1) Tryz.prog l (wdE x) W fun e W' =>
      (e = .returned (.bool true) ∧ J (pre ++ [x]) W' ∧ KpC Bs W W') ∨ (e = .returned (.bool false) ∧ Jx (pre ++ [x]) W'))
    (W : World) (hBs : W.cell? ⟨Bs, 0, none⟩ = some (.string ⟨L.toArray⟩)) (hL : L.length ≤ 9223372036854775807) (h0 : J [] W) :
    CallsIn F n Tryz.prog 90 #[.func (.yield l) #[] #[], .pointer (some ⟨Bs, 0, none⟩)] W fun e W' => (∃ v, e = .returned v) ∧
      ((∃ ys, ys = splitF L ∧ J ys W') ∨ (∃ pre, pre <+: splitF L ∧ Jx pre W')) := by
  have HY := Lib.hid hY
  have sz := ba_size L
  have eX := Lib.hid fun (i j : Nat) => ba_extract L i j
  have eK := Lib.hid fun (k : Nat) (x : UInt8) (h : L[k]? = some x) => ba_get L k x h
  obtain ⟨s, hs⟩ : ∃ s : ByteArray, s = ⟨L.toArray⟩ := ⟨_, rfl⟩
  rw [← hs] at hBs sz eX eK
  have HBs := Lib.hid hBs
  clear hs hY
  refine callsIn_of_wp Tryz.func90 rfl hf ?_ hro
  simp only [Tryz.ntmps90, List.size_toArray, List.length_cons, List.length_nil, Nat.reduceAdd, Nat.reduceSub, Array.replicate_succ, Array.replicate_zero, List.push_toArray, List.append_toArray, List.nil_append, List.cons_append]
  gi_wp2
  gi_loopw [3, 7] (fun v3 v7 wr => ∃ (from' k : Nat) (pre : List (List UInt8)), v3 = .int .i64 (from' : Int) ∧ v7 = .int .i64 (k : Int) ∧ from' ≤ k ∧ k ≤ L.length ∧ J pre wr ∧ wr.cell? ⟨Bs, 0, none⟩ = some (.string s) ∧ Hid (pre ++ splitF (L.drop from') = splitF L) ∧ Hid (∀ j, from' ≤ j → j < k → L[j]? ≠ some 32))
    (fun v3 v7 _ => L.length - (intOf v7).toNat)
  case atStart => exact ⟨0, 0, [], rfl, rfl, Nat.le_refl _, Nat.zero_le _, h0, HBs.out, Lib.hid rfl, Lib.hid fun j _ h => absurd h (Nat.not_lt_zero _)⟩
  case round =>
    obtain ⟨from', k, pre, rfl, rfl, hfk, hkL, hJs, hcx, HP, HN⟩ := hrel
    have hlt : pre.length < (splitF L).length := by
      rw [← HP.out, List.length_append]
      have := List.length_pos_iff.2 (split_ne (L.drop from'))
      omega
    by_cases ck : k < L.length
    · have ik : (k : Int) < (L.length : Int) := by omega
      obtain ⟨c, hc⟩ : ∃ c, L[k]? = some c := ⟨_, List.getElem?_eq_getElem ck⟩
      have ec := eK.out k c hc
      by_cases cb : c = 32
      · have e32 : ((c.toNat : Int) == 32) = true := by rw [cb]; rfl
        have hsp : splitF (L.drop from') = (L.drop from').take (k - from') :: splitF (L.drop (k + 1)) := by
          have := split_blank (l := L.drop from') (n := k - from') (fun j hj => by rw [List.getElem?_drop]; exact HN.out _ (by omega) (by omega)) (by rw [List.getElem?_drop, show from' + (k - from') = k by omega, hc, cb])
          rw [this, List.drop_drop, show from' + (k - from' + 1) = k + 1 by omega]
        obtain ⟨fn, tmps, assign, body, hy, hR⟩ := HY.out pre ((L.drop from').take (k - from')) wr hJs hlt
        have ex := eX.out from' k
        dsimp only [wdE] at hy
        have i1 : (0 : Int) ≤ (k : Int) ∧ (k : Int) ≤ (s.size : Int) := by omega
        have i2 : (0 : Int) ≤ (from' : Int) ∧ (from' : Int) ≤ (k : Int) := by omega
        gi_wp2
        refine hR.mono ?_
        rintro e W3 (⟨rfl, hJ3, hk3⟩ | ⟨rfl, hJx3⟩)
        · gi_wp2
          go_roundw
          case rel => exact ⟨k + 1, k + 1, _, by go_num, by go_num, Nat.le_refl _, by omega, hJ3, hk3 _ hcx, Lib.hid (by rw [List.append_assoc, ← HP.out, hsp]; rfl), Lib.hid fun j h1 h2 => by omega⟩
          case measure => simp [intOf]; omega
        · gi_wp2
          refine bodyPost_ret (results_none rfl _ _ _) rfl ?_
          exact ⟨⟨_, rfl⟩, .inr ⟨_, ⟨splitF (L.drop (k + 1)), by rw [List.append_assoc, ← HP.out, hsp]; rfl⟩, hJx3⟩⟩
      · have e32 : ((c.toNat : Int) == 32) = false := by
          have : c.toNat ≠ 32 := fun e => cb (UInt8.toNat_inj.1 e)
          simp; omega
        gi_wp2
        go_roundw
        case rel => exact ⟨from', k + 1, pre, rfl, by go_num, by omega, by omega, hJs, hcx, HP, Lib.hid fun j h1 h2 => by
            rcases Nat.lt_or_ge j k with h | h
            · exact HN.out j h1 h
            · obtain rfl : j = k := by omega
              rw [hc]; simpa using cb⟩
        case measure => simp [intOf]; omega
    · obtain rfl : k = L.length := by omega
      have hsp : splitF (L.drop from') = [L.drop from'] := split_none fun c hc => by
        obtain ⟨j, hj⟩ := List.getElem?_of_mem hc
        rw [List.getElem?_drop] at hj
        intro e
        have hlt2 := (List.getElem?_eq_some_iff.1 hj).1
        exact HN.out (from' + j) (by omega) hlt2 (by rw [hj, e])
      obtain ⟨fn, tmps, assign, body, hy, hR⟩ := HY.out pre (L.drop from') wr hJs hlt
      have ex := eX.out from' L.length
      rw [List.take_of_length_le (by simp)] at ex
      dsimp only [wdE] at hy
      have i1 : (0 : Int) ≤ (from' : Int) ∧ (from' : Int) ≤ (s.size : Int) := by omega
      gi_wp2
      refine hR.mono ?_
      rintro e W3 (⟨rfl, hJ3, hk3⟩ | ⟨rfl, hJx3⟩)
      · gi_wp2
        go_end0
        exact ⟨⟨_, rfl⟩, .inl ⟨_, by rw [← HP.out, hsp], hJ3⟩⟩
      · gi_wp2
        go_end0
        exact ⟨⟨_, rfl⟩, .inr ⟨_, by rw [← HP.out, hsp]; exact List.prefix_refl _, hJx3⟩⟩

theorem words_in (F : Fence) (n : Nat) (hf : F.fn 75) (hro : F.round = none) (s : ByteArray) (w : World) :
    CallsIn F n Tryz.prog 75 #[.string s] w fun e w' => e = .returned (.func (.func 90) #[] #[.pointer (some ⟨w.heap.size, 0, none⟩)]) ∧ w' = w.alloc (.cells #[.string s] 9) := by
  refine callsIn_of_wp Tryz.func75 rfl hf ?_ hro
  simp only [Tryz.ntmps75, List.size_toArray, List.length_cons, List.length_nil, Nat.reduceAdd, Nat.reduceSub, Array.replicate_succ, Array.replicate_zero, List.push_toArray, List.append_toArray, List.nil_append, List.cons_append]
  gi_wp2
  go_ret
  exact ⟨rfl, rfl⟩

theorem words_stops (F : Fence) (n : Nat) (hf : F.fn 90) (hro : F.round = none) (hn : 1 ≤ n) (Bs : Nat) (L : List UInt8) (hL : L.length ≤ 9223372036854775807) (w : World) (hBs : Bs < w.heap.size) (hc : w.cell? ⟨Bs, 0, none⟩ = some (.string ⟨L.toArray⟩)) :
    SeqStopsK F n Tryz.prog 90 #[.pointer (some ⟨Bs, 0, none⟩)] wdE (KpC Bs) (fun ys => ys = splitF L) (fun pre => pre <+: splitF L) (splitF L).length w := fun l J Jx W hW _ _ hY h0 =>
  words1_in F n hf hro hn l Bs L J Jx hY W ((hW.cell (p := ⟨Bs, 0, none⟩) hBs).trans hc) hL h0
end Go.Proofs.YtgfljokamgbcaaaGreatDoor
