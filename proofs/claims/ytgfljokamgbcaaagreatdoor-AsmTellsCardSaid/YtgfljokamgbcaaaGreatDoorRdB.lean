/- text.number: the number of a word. -/
import Derived.Test.YtgfljokamgbcaaaGreatDoorRdA
namespace Go.Proofs.YtgfljokamgbcaaaGreatDoor
open Go.RowKit
set_option linter.unusedSimpArgs false
set_option linter.unusedVariables false
set_option maxRecDepth 100000

/-- The number that digits tell, from a number on. -/
def digF : List UInt8 → Int → Option Int
  | [], n => some n
  | c :: r, n => if digOk n (c.toNat : Int) = true then digF r (10 * n + (c.toNat : Int) - 48) else none
/-- The number of a word. -/
def numB (below : Bool) (l : List UInt8) : Option Int :=
  if l = [] ∨ (l.head? = some 48 ∧ (1 < l.length ∨ below = true)) then none
  else (digF l 0).bind fun n => if below = true then some (-n) else if n < 2147483648 then some n else none
def numF (l : List UInt8) : Option Int := if l.head? = some 45 then numB true l.tail else numB false l

theorem digF_bd : ∀ (l : List UInt8) (n m : Int), 0 ≤ n → n ≤ 2147483648 → digF l n = some m → 0 ≤ m ∧ m ≤ 2147483648
  | [], n, m, h0, h1, h => by simp [digF] at h; omega
  | c :: r, n, m, h0, h1, h => by
    unfold digF at h
    by_cases d : digOk n (c.toNat : Int) = true
    · rw [if_pos d] at h
      simp [digOk] at d
      exact digF_bd r _ m (by omega) (by omega) h
    · rw [if_neg d] at h; cases h

theorem ba_get (l : List UInt8) (k : Nat) (x : UInt8) (hx : l[k]? = some x) : ∀ h, (⟨l.toArray⟩ : ByteArray)[k]'h = x := by
  intro h
  obtain ⟨h1, h2⟩ := List.getElem?_eq_some_iff.1 hx
  show l.toArray[k]'_ = x
  simpa using h2
theorem ba_size (l : List UInt8) : (⟨l.toArray⟩ : ByteArray).size = l.length := by show l.toArray.size = _; simp
theorem ba_tail (l : List UInt8) : (⟨l.toArray⟩ : ByteArray).extract 1 (⟨l.toArray⟩ : ByteArray).size = ⟨l.tail.toArray⟩ := by
  apply ba_ext
  rw [ByteArray.data_extract, ba_size]
  cases l <;> simp

theorem row_setR {w : World} {b : Nat} {A : Array Value} {t : TypeId} {f : Nat × Nat} (h : w.heap[b]? = some (.cells A t f)) (j : Nat) (v : Value) : (w.setCell ⟨b, j, none⟩ v).heap[b]? = some (.cells (A.setIfInBounds j v) t f) := by
  show (w.heap.modify b _)[b]? = _
  rw [Array.getElem?_modify, if_pos rfl, h]
  rfl
theorem empty_toList (l : List UInt8) : (⟨l.toArray⟩ : ByteArray).toList = l := by rw [ByteArray.toList_eq]
theorem digF_step {l : List UInt8} {k : Nat} {c : UInt8} {n : Int} (h : l[k]? = some c) : digF (l.drop k) n = if digOk n (c.toNat : Int) = true then digF (l.drop (k + 1)) (10 * n + (c.toNat : Int) - 48) else none := by
  obtain ⟨h1, rfl⟩ := List.getElem?_eq_some_iff.1 h
  rw [List.drop_eq_getElem_cons h1]; rfl
theorem digOk_bd {n c : Int} (h0 : 0 ≤ n) (h : digOk n c = true) : 0 ≤ 10 * n + c - 48 ∧ 10 * n + c - 48 ≤ 2147483648 := by
  simp [digOk] at h; omega

/-- What a number's word comes to. -/
def NumRes (r : Option Int) (e : Ending) : Prop := ∃ (v : Int) (b : Bool), e = .returned (.tuple #[.int .i64 v, .bool b]) ∧ r = (if b = true then some v else none) ∧ -2147483648 ≤ v ∧ v ≤ 2147483648

set_option maxHeartbeats 16000000 in
theorem number_c (L : List UInt8) (hL : L.length ≤ 9223372036854775807) (w : World) :
    Calls Tryz.prog 93 #[.string ⟨L.toArray⟩] w fun e w' => NumRes (numF L) e ∧ Below w.heap.size w w' := by
  have H1 := Lib.hid fun (b : Nat) (n c : Int) (h0 : 0 ≤ n) (h1 : n ≤ 2147483648) (c0 : 0 ≤ c) (c1 : c < 256) (W : World) (hb : W.heap[b]? = some (.cells #[.int .i64 n] 2 (0, 0))) => dig1_c b n c h0 h1 c0 c1 W hb
  have H2 := Lib.hid fun (b : Nat) (n : Int) (W : World) (hb : W.heap[b]? = some (.cells #[.int .i64 n] 2 (0, 0))) => dig2_c b n W hb
  have HD := Lib.hid fun (W : World) => digits_c W
  by_cases cB : L.head? = some 45
  · obtain ⟨l, rfl⟩ : ∃ l, L = 45 :: l := by
      cases L
      · simp at cB
      · rename_i x l
        simp at cB
        exact ⟨l, by rw [cB]⟩
    have hN : numF (45 :: l) = numB true l := rfl
    rw [hN]
    have sL : (⟨(45 :: l).toArray⟩ : ByteArray).size = l.length + 1 := ba_size _
    have eL : ∀ h, (⟨(45 :: l).toArray⟩ : ByteArray)[0]'h = 45 := ba_get _ 0 45 rfl
    have xL : (⟨(45 :: l).toArray⟩ : ByteArray).extract 1 (l.length + 1) = ⟨l.toArray⟩ := by have := ba_tail (45 :: l); rwa [sL] at this
    have u45 : (45 : UInt8).toNat = 45 := rfl
    have iL : (0 : Int) < ((l.length + 1 : Nat) : Int) := by omega
    have jL : (1 : Int) ≤ ((l.length + 1 : Nat) : Int) := by omega
    simp at hL
    generalize (⟨(45 :: l).toArray⟩ : ByteArray) = S at sL eL xL
    have hl : l.length ≤ 9223372036854775807 := by omega
    clear hN cB
    rcases l with _ | ⟨c, r⟩
    · have hz : (⟨([] : List UInt8).toArray⟩ : ByteArray).toList.isEmpty = true := by rw [empty_toList]; rfl
      have sz : (⟨([] : List UInt8).toArray⟩ : ByteArray).size = 0 := rfl
      generalize (⟨([] : List UInt8).toArray⟩ : ByteArray) = s at hz xL sz
      clear H1 H2 HD
      go_enter Tryz.func93, Tryz.ntmps93
      go_wp2_with fail
      refine bodyPost_ret (v := .tuple #[.int .i64 0, .bool false]) (by first | (simp [results, Tryz.results93, go_sem]; done) | (simp [results, Tryz.results93, go_sem]; omega)) rfl ⟨⟨_, _, rfl, ?_, by omega, by omega⟩, ?_⟩
      · rfl
      · exact Below.refl _ _
    · have hz : (⟨(c :: r).toArray⟩ : ByteArray).toList.isEmpty = false := by rw [empty_toList]; rfl
      have sz : (⟨(c :: r).toArray⟩ : ByteArray).size = (c :: r).length := ba_size _
      have e0 : ∀ h, (⟨(c :: r).toArray⟩ : ByteArray)[0]'h = c := ba_get _ 0 c rfl
      have ek : Hid (∀ (k : Nat) (x : UInt8), (c :: r)[k]? = some x → ∀ h, (⟨(c :: r).toArray⟩ : ByteArray)[k]'h = x) := Lib.hid (ba_get _)
      have iz : (0 : Int) < ((c :: r).length : Int) := by simp only [List.length_cons]; omega
      have hc := u8_lt c
      generalize hcr : c :: r = l at *
      generalize (⟨l.toArray⟩ : ByteArray) = s at hz sz e0 ek xL
      by_cases c48 : c.toNat = 48
      · have i48 : ((c.toNat : Int) == 48) = true := by simp [c48]
        have hNone : Hid (numB true l = none) := Lib.hid (by
          subst hcr
          unfold numB
          rw [if_pos]
          refine .inr ⟨?_, .inr rfl⟩
          simp; exact UInt8.toNat_inj.1 c48)
        clear ek H1 H2 HD
        by_cases c1 : 1 < l.length
        all_goals
          first | (have i1 : (1 : Int) < (l.length : Int) := by omega) | (have i1 : ¬ (1 : Int) < (l.length : Int) := by omega)
          go_enter Tryz.func93, Tryz.ntmps93
          go_wp2_with fail
          refine bodyPost_ret (v := .tuple #[.int .i64 0, .bool false]) (by first | (simp [results, Tryz.results93, go_sem]; done) | (simp [results, Tryz.results93, go_sem]; omega)) rfl ⟨⟨_, _, rfl, ?_, by omega, by omega⟩, ?_⟩
          · exact hNone.out
          · exact Below.refl _ _
      · have i48 : ((c.toNat : Int) == 48) = false := by simp; omega
        have HS : Hid (numB true l = (digF l 0).bind fun n => some (-n)) := Lib.hid (by
          subst hcr
          unfold numB
          rw [if_neg]
          · rfl
          · rintro (h | ⟨h, -⟩)
            · cases h
            · simp at h; exact c48 (by rw [h]; rfl))
        clear hcr c48
        go_enter Tryz.func93, Tryz.ntmps93
        go_wp2_with fail
        refine (HD.out _).mono ?_
        rintro e w1 ⟨rfl, rfl⟩
        go_wp2_with fail
        go_loopg [40] l.length (fun gk vk wr => ∃ (k : Nat) (n : Int), gk + k = l.length ∧ vk = .int .i64 (k : Int) ∧ 0 ≤ n ∧ n ≤ 2147483648 ∧ wr.heap[w.heap.size]? = some (.cells #[.int .i64 n] 2 (0, 0)) ∧ Hid (digF (l.drop k) n = digF l 0) ∧ Below w.heap.size w wr)
        case atStart => exact ⟨0, 0, by omega, rfl, by omega, by omega, heap_newT rfl, Lib.hid rfl, (Below.refl _ _).alloc (Nat.le_refl _) _⟩
        case round =>
          obtain ⟨k, n, hk, rfl, n0, n1, hb, HI, hB⟩ := hrel
          have HBx := Lib.hid hb
          clear hb
          by_cases ck : k < l.length
          · have ik : (k : Int) < (l.length : Int) := by omega
            obtain ⟨x, hx⟩ : ∃ x, l[k]? = some x := ⟨_, List.getElem?_eq_getElem ck⟩
            have ex := ek.out k x hx
            have hx2 := u8_lt x
            have HSt := Lib.hid (digF_step (n := n) hx)
            clear hx
            go_wp2_with fail
            refine (H1.out w.heap.size n (x.toNat : Int) n0 n1 (by omega) (by omega) wr HBx.out).mono ?_
            rintro e w2 ⟨rfl, rfl⟩
            by_cases cd : digOk n (x.toNat : Int) = true
            · obtain ⟨m0, m1⟩ := digOk_bd n0 cd
              have hr := row_setR HBx.out 0 (.int .i64 (10 * n + (x.toNat : Int) - 48))
              rw [cd]
              go_wp2_with fail
              go_roundg (gk - 1)
              case measure => omega
              case rel => exact ⟨k + 1, 10 * n + (x.toNat : Int) - 48, by omega, by go_num, m0, m1, hr, Lib.hid (by rw [← HI.out, HSt.out, if_pos cd]), hB.setCell (p := ⟨w.heap.size, 0, none⟩) (Nat.le_refl _) _⟩
            · have cd' : digOk n (x.toNat : Int) = false := by simpa using cd
              rw [cd']
              go_wp2_with fail
              refine bodyPost_ret (v := .tuple #[.int .i64 0, .bool false]) (by first | (simp [results, Tryz.results93, go_sem]; done) | (simp [results, Tryz.results93, go_sem]; omega)) rfl ⟨⟨_, _, rfl, ?_, by omega, by omega⟩, ?_⟩
              · rw [HS.out, ← HI.out, HSt.out, if_neg cd]; rfl
              · exact hB.setCell (p := ⟨w.heap.size, 0, none⟩) (Nat.le_refl _) _
          · have ik : ¬ (k : Int) < (l.length : Int) := by omega
            have HE : Hid (digF l 0 = some n) := Lib.hid (by rw [← HI.out, List.drop_eq_nil_of_le (by omega)]; rfl)
            have wn : IntKind.i64.wrap (-n) = -n := IntWalk.i64_in _ (by omega)
            go_wp2_with fail
            refine (H2.out w.heap.size n wr HBx.out).mono ?_
            rintro e w2 ⟨rfl, rfl⟩
            go_wp2_with fail
            refine bodyPost_ret (v := .tuple #[.int .i64 (-n), .bool true]) (by first | (simp [results, Tryz.results93, go_sem]; done) | (simp [results, Tryz.results93, go_sem]; omega)) rfl ⟨⟨_, _, rfl, ?_, by omega, by omega⟩, ?_⟩
            · rw [HS.out, HE.out]; rfl
            · exact hB
  · have hN : numF L = numB false L := by unfold numF; rw [if_neg cB]
    rw [hN]
    obtain ⟨l, rfl⟩ : ∃ l, l = L := ⟨_, rfl⟩
    have hl : l.length ≤ 9223372036854775807 := hL
    clear hN hL
    rcases l with _ | ⟨c, r⟩
    · have hz : (⟨([] : List UInt8).toArray⟩ : ByteArray).toList.isEmpty = true := by rw [empty_toList]; rfl
      have sz : (⟨([] : List UInt8).toArray⟩ : ByteArray).size = 0 := rfl
      generalize (⟨([] : List UInt8).toArray⟩ : ByteArray) = s at hz sz
      clear H1 H2 HD
      go_enter Tryz.func93, Tryz.ntmps93
      go_wp2_with fail
      refine bodyPost_ret (v := .tuple #[.int .i64 0, .bool false]) (by first | (simp [results, Tryz.results93, go_sem]; done) | (simp [results, Tryz.results93, go_sem]; omega)) rfl ⟨⟨_, _, rfl, ?_, by omega, by omega⟩, ?_⟩
      · rfl
      · exact Below.refl _ _
    · have hz : (⟨(c :: r).toArray⟩ : ByteArray).toList.isEmpty = false := by rw [empty_toList]; rfl
      have sz : (⟨(c :: r).toArray⟩ : ByteArray).size = (c :: r).length := ba_size _
      have e0 : ∀ h, (⟨(c :: r).toArray⟩ : ByteArray)[0]'h = c := ba_get _ 0 c rfl
      have ek : Hid (∀ (k : Nat) (x : UInt8), (c :: r)[k]? = some x → ∀ h, (⟨(c :: r).toArray⟩ : ByteArray)[k]'h = x) := Lib.hid (ba_get _)
      have iz : (0 : Int) < ((c :: r).length : Int) := by simp only [List.length_cons]; omega
      have b45 : ((c.toNat : Int) == 45) = false := by
        have : c.toNat ≠ 45 := fun e => cB (by simp; exact UInt8.toNat_inj.1 e)
        simp; omega
      have hc := u8_lt c
      generalize hcr : c :: r = l at *
      generalize (⟨l.toArray⟩ : ByteArray) = s at hz sz e0 ek
      by_cases c48 : c.toNat = 48
      · have i48 : ((c.toNat : Int) == 48) = true := by simp [c48]
        by_cases c1 : 1 < l.length
        · have i1 : (1 : Int) < (l.length : Int) := by omega
          have hNone : Hid (numB false l = none) := Lib.hid (by
            subst hcr
            unfold numB
            rw [if_pos]
            refine .inr ⟨?_, .inl (by simpa using c1)⟩
            simp; exact UInt8.toNat_inj.1 c48)
          clear ek H1 H2 HD
          go_enter Tryz.func93, Tryz.ntmps93
          go_wp2_with fail
          refine bodyPost_ret (v := .tuple #[.int .i64 0, .bool false]) (by first | (simp [results, Tryz.results93, go_sem]; done) | (simp [results, Tryz.results93, go_sem]; omega)) rfl ⟨⟨_, _, rfl, ?_, by omega, by omega⟩, ?_⟩
          · exact hNone.out
          · exact Below.refl _ _
        · have i1 : ¬ (1 : Int) < (l.length : Int) := by omega
          have HS : Hid (numB false l = (digF l 0).bind fun n => if n < 2147483648 then some n else none) := Lib.hid (by
            subst hcr
            unfold numB
            rw [if_neg]
            · rfl
            · rintro (h | ⟨-, h | h⟩)
              · cases h
              · exact c1 h
              · cases h)
          clear hcr c48
          go_enter Tryz.func93, Tryz.ntmps93
          go_wp2_with fail
          refine (HD.out _).mono ?_
          rintro e w1 ⟨rfl, rfl⟩
          go_wp2_with fail
          go_loopg [40] l.length (fun gk vk wr => ∃ (k : Nat) (n : Int), gk + k = l.length ∧ vk = .int .i64 (k : Int) ∧ 0 ≤ n ∧ n ≤ 2147483648 ∧ wr.heap[w.heap.size]? = some (.cells #[.int .i64 n] 2 (0, 0)) ∧ Hid (digF (l.drop k) n = digF l 0) ∧ Below w.heap.size w wr)
          case atStart => exact ⟨0, 0, by omega, rfl, by omega, by omega, heap_newT rfl, Lib.hid rfl, (Below.refl _ _).alloc (Nat.le_refl _) _⟩
          case round =>
            obtain ⟨k, n, hk, rfl, n0, n1, hb, HI, hB⟩ := hrel
            have HBx := Lib.hid hb
            clear hb
            by_cases ck : k < l.length
            · have ik : (k : Int) < (l.length : Int) := by omega
              obtain ⟨x, hx⟩ : ∃ x, l[k]? = some x := ⟨_, List.getElem?_eq_getElem ck⟩
              have ex := ek.out k x hx
              have hx2 := u8_lt x
              have HSt := Lib.hid (digF_step (n := n) hx)
              clear hx
              go_wp2_with fail
              refine (H1.out w.heap.size n (x.toNat : Int) n0 n1 (by omega) (by omega) wr HBx.out).mono ?_
              rintro e w2 ⟨rfl, rfl⟩
              by_cases cd : digOk n (x.toNat : Int) = true
              · obtain ⟨m0, m1⟩ := digOk_bd n0 cd
                have hr := row_setR HBx.out 0 (.int .i64 (10 * n + (x.toNat : Int) - 48))
                rw [cd]
                go_wp2_with fail
                go_roundg (gk - 1)
                case measure => omega
                case rel => exact ⟨k + 1, 10 * n + (x.toNat : Int) - 48, by omega, by go_num, m0, m1, hr, Lib.hid (by rw [← HI.out, HSt.out, if_pos cd]), hB.setCell (p := ⟨w.heap.size, 0, none⟩) (Nat.le_refl _) _⟩
              · have cd' : digOk n (x.toNat : Int) = false := by simpa using cd
                rw [cd']
                go_wp2_with fail
                refine bodyPost_ret (v := .tuple #[.int .i64 0, .bool false]) (by first | (simp [results, Tryz.results93, go_sem]; done) | (simp [results, Tryz.results93, go_sem]; omega)) rfl ⟨⟨_, _, rfl, ?_, by omega, by omega⟩, ?_⟩
                · rw [HS.out, ← HI.out, HSt.out, if_neg cd]; rfl
                · exact hB.setCell (p := ⟨w.heap.size, 0, none⟩) (Nat.le_refl _) _
            · have ik : ¬ (k : Int) < (l.length : Int) := by omega
              have HE : Hid (digF l 0 = some n) := Lib.hid (by rw [← HI.out, List.drop_eq_nil_of_le (by omega)]; rfl)
              by_cases cn : n < 2147483648
              · go_wp2_with fail
                refine (H2.out w.heap.size n wr HBx.out).mono ?_
                rintro e w2 ⟨rfl, rfl⟩
                go_wp2_with fail
                refine (H2.out w.heap.size n _ HBx.out).mono ?_
                rintro e w2 ⟨rfl, rfl⟩
                go_wp2_with fail
                refine bodyPost_ret (v := .tuple #[.int .i64 n, .bool true]) (by first | (simp [results, Tryz.results93, go_sem]; done) | (simp [results, Tryz.results93, go_sem]; omega)) rfl ⟨⟨_, _, rfl, ?_, by omega, by omega⟩, ?_⟩
                · rw [HS.out, HE.out]; first | (simp [cn]; done) | (simp [cn]; omega)
                · exact hB
              · go_wp2_with fail
                refine (H2.out w.heap.size n wr HBx.out).mono ?_
                rintro e w2 ⟨rfl, rfl⟩
                go_wp2_with fail
                refine (H2.out w.heap.size n _ HBx.out).mono ?_
                rintro e w2 ⟨rfl, rfl⟩
                go_wp2_with fail
                refine bodyPost_ret (v := .tuple #[.int .i64 n, .bool false]) (by first | (simp [results, Tryz.results93, go_sem]; done) | (simp [results, Tryz.results93, go_sem]; omega)) rfl ⟨⟨_, _, rfl, ?_, by omega, by omega⟩, ?_⟩
                · rw [HS.out, HE.out]; first | (simp [cn]; done) | (simp [cn]; omega)
                · exact hB
      · have i48 : ((c.toNat : Int) == 48) = false := by simp; omega
        have HS : Hid (numB false l = (digF l 0).bind fun n => if n < 2147483648 then some n else none) := Lib.hid (by
          subst hcr
          unfold numB
          rw [if_neg]
          · rfl
          · rintro (h | ⟨h, -⟩)
            · cases h
            · simp at h; exact c48 (by rw [h]; rfl))
        clear hcr c48
        go_enter Tryz.func93, Tryz.ntmps93
        go_wp2_with fail
        refine (HD.out _).mono ?_
        rintro e w1 ⟨rfl, rfl⟩
        go_wp2_with fail
        go_loopg [40] l.length (fun gk vk wr => ∃ (k : Nat) (n : Int), gk + k = l.length ∧ vk = .int .i64 (k : Int) ∧ 0 ≤ n ∧ n ≤ 2147483648 ∧ wr.heap[w.heap.size]? = some (.cells #[.int .i64 n] 2 (0, 0)) ∧ Hid (digF (l.drop k) n = digF l 0) ∧ Below w.heap.size w wr)
        case atStart => exact ⟨0, 0, by omega, rfl, by omega, by omega, heap_newT rfl, Lib.hid rfl, (Below.refl _ _).alloc (Nat.le_refl _) _⟩
        case round =>
          obtain ⟨k, n, hk, rfl, n0, n1, hb, HI, hB⟩ := hrel
          have HBx := Lib.hid hb
          clear hb
          by_cases ck : k < l.length
          · have ik : (k : Int) < (l.length : Int) := by omega
            obtain ⟨x, hx⟩ : ∃ x, l[k]? = some x := ⟨_, List.getElem?_eq_getElem ck⟩
            have ex := ek.out k x hx
            have hx2 := u8_lt x
            have HSt := Lib.hid (digF_step (n := n) hx)
            clear hx
            go_wp2_with fail
            refine (H1.out w.heap.size n (x.toNat : Int) n0 n1 (by omega) (by omega) wr HBx.out).mono ?_
            rintro e w2 ⟨rfl, rfl⟩
            by_cases cd : digOk n (x.toNat : Int) = true
            · obtain ⟨m0, m1⟩ := digOk_bd n0 cd
              have hr := row_setR HBx.out 0 (.int .i64 (10 * n + (x.toNat : Int) - 48))
              rw [cd]
              go_wp2_with fail
              go_roundg (gk - 1)
              case measure => omega
              case rel => exact ⟨k + 1, 10 * n + (x.toNat : Int) - 48, by omega, by go_num, m0, m1, hr, Lib.hid (by rw [← HI.out, HSt.out, if_pos cd]), hB.setCell (p := ⟨w.heap.size, 0, none⟩) (Nat.le_refl _) _⟩
            · have cd' : digOk n (x.toNat : Int) = false := by simpa using cd
              rw [cd']
              go_wp2_with fail
              refine bodyPost_ret (v := .tuple #[.int .i64 0, .bool false]) (by first | (simp [results, Tryz.results93, go_sem]; done) | (simp [results, Tryz.results93, go_sem]; omega)) rfl ⟨⟨_, _, rfl, ?_, by omega, by omega⟩, ?_⟩
              · rw [HS.out, ← HI.out, HSt.out, if_neg cd]; rfl
              · exact hB.setCell (p := ⟨w.heap.size, 0, none⟩) (Nat.le_refl _) _
          · have ik : ¬ (k : Int) < (l.length : Int) := by omega
            have HE : Hid (digF l 0 = some n) := Lib.hid (by rw [← HI.out, List.drop_eq_nil_of_le (by omega)]; rfl)
            by_cases cn : n < 2147483648
            · go_wp2_with fail
              refine (H2.out w.heap.size n wr HBx.out).mono ?_
              rintro e w2 ⟨rfl, rfl⟩
              go_wp2_with fail
              refine (H2.out w.heap.size n _ HBx.out).mono ?_
              rintro e w2 ⟨rfl, rfl⟩
              go_wp2_with fail
              refine bodyPost_ret (v := .tuple #[.int .i64 n, .bool true]) (by first | (simp [results, Tryz.results93, go_sem]; done) | (simp [results, Tryz.results93, go_sem]; omega)) rfl ⟨⟨_, _, rfl, ?_, by omega, by omega⟩, ?_⟩
              · rw [HS.out, HE.out]; first | (simp [cn]; done) | (simp [cn]; omega)
              · exact hB
            · go_wp2_with fail
              refine (H2.out w.heap.size n wr HBx.out).mono ?_
              rintro e w2 ⟨rfl, rfl⟩
              go_wp2_with fail
              refine (H2.out w.heap.size n _ HBx.out).mono ?_
              rintro e w2 ⟨rfl, rfl⟩
              go_wp2_with fail
              refine bodyPost_ret (v := .tuple #[.int .i64 n, .bool false]) (by first | (simp [results, Tryz.results93, go_sem]; done) | (simp [results, Tryz.results93, go_sem]; omega)) rfl ⟨⟨_, _, rfl, ?_, by omega, by omega⟩, ?_⟩
              · rw [HS.out, HE.out]; first | (simp [cn]; done) | (simp [cn]; omega)
              · exact hB
end Go.Proofs.YtgfljokamgbcaaaGreatDoor
