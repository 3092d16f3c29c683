/- The walks of asm's small functions: give, letter, name, number, one, tooLong, first. The walk of (*work).to. -/
import Derived.Test.YtgfljokamgbcaaaGreatDoorAsW
import Derived.Test.YtgfljokamgbcaaaGreatDoorAsP
import Derived.Test.YtgfljokamgbcaaaGreatDoorRdG
import Derived.Test.YtgfljokamgbcaaaGreatDoorShelf
import Derived.Laws.CopyOwn
namespace Go.Proofs.YtgfljokamgbcaaaGreatDoor
open Go.RowKit
set_option linter.unusedSimpArgs false
set_option linter.unusedVariables false
set_option maxRecDepth 100000

def wrongP (e : Int) : List PanicEntry := [{ v := .iface 78 (.agg #[.int .i64 e]), recovered := false }]
theorem give_c (e : Int) (w : World) : Calls Tryz.prog 28 #[.int .i64 e] w fun en w' => en = .panicked (wrongP e) ∧ w' = w := by
  go_enter Tryz.func28, Tryz.ntmps28
  go_wp2_with fail
  exact ⟨rfl, rfl, rfl⟩

theorem u8_ltA (c : UInt8) : 0 ≤ (c.toNat : Int) ∧ (c.toNat : Int) < 256 := by
  have := UInt8.toNat_lt c
  omega
theorem u8_neA {c : UInt8} {k : Nat} (hk : k < 256) : (c = UInt8.ofNat k) = ((c.toNat : Int) = (k : Int)) := by
  apply propext
  constructor
  · rintro rfl
    rw [UInt8.toNat_ofNat']
    omega
  · intro h
    exact u8_eq (by omega)
theorem letter_c (c : UInt8) (w : World) : Calls Tryz.prog 71 #[.int .u8 (c.toNat : Int)] w fun e w' => e = .returned (.bool (letterB c)) ∧ w' = w := by
  have hc := u8_ltA c
  have h95 : (c == 95) = decide ((c.toNat : Int) = 95) := by
    rw [Bool.eq_iff_iff]
    simp only [beq_iff_eq, decide_eq_true_eq]
    exact iff_of_eq (u8_neA (c := c) (k := 95) (by decide))
  have hl : letterB c = ((decide (97 ≤ (c.toNat : Int)) && decide ((c.toNat : Int) ≤ 122)) || decide ((c.toNat : Int) = 95)) := by
    unfold letterB
    rw [h95, show decide (97 ≤ c.toNat) = decide (97 ≤ (c.toNat : Int)) from decide_eq_decide.2 (by omega), show decide (c.toNat ≤ 122) = decide ((c.toNat : Int) ≤ 122) from decide_eq_decide.2 (by omega)]
  rw [hl]
  generalize (c.toNat : Int) = x at hc ⊢
  go_enter Tryz.func71, Tryz.ntmps71
  by_cases c1 : 97 ≤ x <;> by_cases c2 : x ≤ 122 <;> by_cases c3 : x = 95
  all_goals
    first
      | (exfalso; omega)
      | (go_wp2_with fail
         go_ret
         exact ⟨Isa.ret_bool (by first | rfl | (simp [c1, c2, c3]; done) | (rw [Bool.eq_iff_iff]; simp only [beq_iff_eq, decide_eq_true_eq, Bool.or_eq_true, Bool.and_eq_true]; omega)), rfl⟩)

theorem ba_app (a b : List UInt8) : (⟨a.toArray⟩ : ByteArray) ++ ⟨b.toArray⟩ = ⟨(a ++ b).toArray⟩ := by
  apply ba_ext
  first
    | (rw [Lib.data_append]; done)
    | (rw [ByteArray.data_append]; simp)
    | simp

/-- A word's number. -/
theorem number_cA (s : Wd) (hs : s.length ≤ 100000) (w : World) : Calls Tryz.prog 73 #[.string ⟨s.toArray⟩] w fun e w' => e = .returned (.tuple #[.int .i64 (numberF s).1, .bool (numberF s).2]) ∧ Below w.heap.size w w' := by
  have happ : (⟨#[108, 100, 105, 32, 114, 48, 32]⟩ : ByteArray) ++ ⟨s.toArray⟩ = ⟨(ldiW ++ s).toArray⟩ := ba_app ldiW s
  have HR := Lib.hid (read_c (ldiW ++ s) (by simp [ldiW]; omega))
  have hb : ∀ o a b i, readF (ldiW ++ s) = .ok (o, a, b, i) → -2147483648 ≤ i ∧ i < 2147483648 := fun o a b i h => (read_bounds h).2.2.2
  have hn : ∀ er, readF (ldiW ++ s) = .error er → er ≠ 0 := fun er h => by rcases read_bad h with h | h <;> omega
  unfold numberF
  have hsz := ba_size s
  rw [← happ] at HR
  generalize (⟨s.toArray⟩ : ByteArray) = sb at HR happ hsz ⊢
  have hsz2 : sb.size ≤ 100000 := by omega
  clear happ hsz
  generalize readF (ldiW ++ s) = R at HR hb hn ⊢
  cases R with
  | error er =>
    have h0 : (er == 0) = false := by simpa using hn er rfl
    unfold readV insR at HR
    simp only at HR
    go_enter Tryz.func73, Tryz.ntmps73
    go_wp2_with fail
    refine (HR.out _).mono ?_
    rintro e w1 ⟨rfl, hb1⟩
    go_wp2_with fail
    go_ret2
    exact ⟨rfl, hb1.alloc hb1.size _⟩
  | ok t =>
    obtain ⟨o, a, b, i⟩ := t
    obtain ⟨i0, i1⟩ := hb o a b i rfl
    have hw : IntKind.i64.wrap i = i := IntWalk.i64_in _ ⟨by omega, by omega⟩
    unfold readV insR at HR
    simp only at HR
    go_enter Tryz.func73, Tryz.ntmps73
    go_wp2_with fail
    refine (HR.out _).mono ?_
    rintro e w1 ⟨rfl, hb1⟩
    go_wp2_with fail
    go_ret2
    exact ⟨rfl, hb1.alloc hb1.size _⟩

/-- The words that a slice leads to. -/
def WdIn (w : World) (ao : Option Addr) (ws : List Wd) : Prop := ws = [] ∨ ∃ blk off, ao = some ⟨blk, off, none⟩ ∧ ∀ i s, ws[i]? = some s → w.cell? ⟨blk, off + i, none⟩ = some (.string ⟨s.toArray⟩)
theorem wd_at {w : World} {ao : Option Addr} {ws : List Wd} (h : WdIn w ao ws) {i : Nat} {s : Wd} (hs : ws[i]? = some s) : ∃ blk off, ao = some ⟨blk, off, none⟩ ∧ blk < w.heap.size ∧ w.cell? ⟨blk, off + i, none⟩ = some (.string ⟨s.toArray⟩) := by
  rcases h with h | ⟨blk, off, h1, h2⟩
  · rw [h] at hs; cases hs
  · exact ⟨blk, off, h1, World.block_lt_of_cell? w _ (h2 i s hs), h2 i s hs⟩
theorem wd_below {w w1 : World} {ao : Option Addr} {ws : List Wd} (hb : Below w.heap.size w w1) (h : WdIn w ao ws) : WdIn w1 ao ws := by
  rcases h with h | ⟨blk, off, h1, h2⟩
  · exact .inl h
  · exact .inr ⟨blk, off, h1, fun i s hs => (hb.cell (p := ⟨blk, off + i, none⟩) (World.block_lt_of_cell? w _ (h2 i s hs))).trans (h2 i s hs)⟩
def lnV (n : Int) (ao : Option Addr) (len cap : Nat) : Value := .agg #[.int .i64 n, .slice ao len cap]

/-- What 'one' hands back. -/
def OneP (r : Except Int Int) (w : World) (e : Ending) (w' : World) : Prop := Below w.heap.size w w' ∧ match r with
  | .ok v => e = .returned (.int .i64 v)
  | .error er => e = .panicked (wrongP er)
set_option maxHeartbeats 4000000 in
theorem one_c (n : Int) (ao : Option Addr) (cap : Nat) (ws : List Wd) (low high : Int) (w : World) (hW : WdIn w ao ws) (hcap : ws.length ≤ cap) (hc2 : cap ≤ 9223372036854775807) (hl : ∀ s ∈ ws, s.length ≤ 10000) :
    Calls Tryz.prog 72 #[lnV n ao ws.length cap, .int .i64 low, .int .i64 high] w (OneP (oneF ws low high) w) := by
  have hg := give_c
  have HG := Lib.hid hg
  clear hg
  unfold lnV
  by_cases c1 : ws.length = 2
  · obtain ⟨a, s, rfl⟩ : ∃ a s, ws = [a, s] := by
      match ws, c1 with
      | [a, s], _ => exact ⟨a, s, rfl⟩
    obtain ⟨blk, off, rfl, hb, y1⟩ := wd_at hW (i := 1) rfl
    have HN := Lib.hid (number_cA s (by have := hl s (by simp); omega))
    have HF := Lib.hid (show oneF [a, s] low high = if (numberF s).2 = false ∨ (numberF s).1 < low ∨ high < (numberF s).1 then .error 41 else .ok (numberF s).1 from rfl)
    simp only [List.length_cons, List.length_nil] at hcap ⊢
    generalize numberF s = q at HN HF
    obtain ⟨v, is⟩ := q
    simp only at HN HF
    clear hW hl
    go_enter Tryz.func72, Tryz.ntmps72
    go_wp2_with fail
    refine (HN.out _).mono ?_
    rintro e w1 ⟨rfl, hb1⟩
    have hB := Isa.below_box hb1
    cases is
    · go_wp2_with fail
      refine (HG.out _ _).mono ?_
      rintro e w2 ⟨rfl, rfl⟩
      exact ⟨rfl, hB, by rw [HF.out]; simp⟩
    · by_cases c2 : v < low
      · go_wp2_with fail
        refine (HG.out _ _).mono ?_
        rintro e w2 ⟨rfl, rfl⟩
        exact ⟨rfl, hB, by rw [HF.out]; simp [c2]⟩
      · by_cases c3 : high < v
        · go_wp2_with fail
          refine (HG.out _ _).mono ?_
          rintro e w2 ⟨rfl, rfl⟩
          exact ⟨rfl, hB, by rw [HF.out]; simp [c3]⟩
        · go_wp2_with fail
          go_ret
          have hq : ¬ (true = false ∨ v < low ∨ high < v) := by simp; omega
          exact ⟨hB, by rw [HF.out, if_neg hq]; rfl⟩
  · have hF : oneF ws low high = .error 312 := by unfold oneF; rw [if_pos c1]
    rw [hF]
    have d1 : ((ws.length : Int) != 2) = true := by simp; omega
    clear hF hl hW
    go_enter Tryz.func72, Tryz.ntmps72
    go_wp2_with fail
    refine (HG.out _ _).mono ?_
    rintro e w2 ⟨rfl, rfl⟩
    exact ⟨rfl, (Below.refl _ _).alloc (Nat.le_refl _) _, rfl⟩

set_option maxHeartbeats 4000000 in
theorem name_cA (L : Wd) (hL : L.length ≤ 100000) (w : World) : Calls Tryz.prog 46 #[.string ⟨L.toArray⟩] w fun e w' => e = .returned (.bool (nameB L)) ∧ Below w.heap.size w w' := by
  have hlt := letter_c
  have HLt := Lib.hid hlt
  have sz := ba_size L
  have eK := Lib.hid fun (k : Nat) (x : UInt8) (h : L[k]? = some x) => ba_get L k x h
  obtain ⟨R, hR⟩ : ∃ R, nameB L = R := ⟨_, rfl⟩
  rw [hR]
  have HR := Lib.hid hR
  obtain ⟨s, hs⟩ : ∃ s : ByteArray, s = ⟨L.toArray⟩ := ⟨_, rfl⟩
  rw [← hs] at sz eK ⊢
  clear hs hlt hR
  go_enter Tryz.func46, Tryz.ntmps46
  by_cases c1 : 1 ≤ L.length
  · have d1 : ¬ (L.length : Int) < 1 := by omega
    by_cases c2 : L.length ≤ 16
    · have d2 : ¬ (16 : Int) < (L.length : Int) := by omega
      obtain ⟨c0, h0⟩ : ∃ c, L[0]? = some c := ⟨_, List.getElem?_eq_getElem (by omega)⟩
      have e0 := eK.out 0 c0 h0
      have hhd : L.headD 0 = c0 := by cases L with
        | nil => simp at h0
        | cons a l => simpa using h0
      have i0 : 0 < s.size := by omega
      have HR2 := Lib.hid (show (letterB c0 && L.all fun c => letterB c || digitB c) = R by have := HR.out; unfold nameB at this; rw [hhd] at this; simpa [c1, c2] using this)
      have j0 : (0 : Int) < (L.length : Int) := by omega
      clear HR hhd
      go_wp2_with fail
      refine (HLt.out c0 _).mono ?_
      rintro e w1 ⟨rfl, rfl⟩
      cases hl0 : letterB c0
      · have hRf : R = false := by have := HR2.out; rw [hl0] at this; simpa using this.symm
        subst hRf
        go_wp2_with fail
        go_ret
        exact ⟨rfl, Below.refl _ _⟩
      · have HR3 := Lib.hid (show (L.all fun c => letterB c || digitB c) = R by have := HR2.out; rwa [hl0, Bool.true_and] at this)
        clear HR2 e0 h0
        go_wp2_with fail
        go_loopg [20] L.length (fun gk vk wr => ∃ k : Nat, gk + k = L.length ∧ vk = .int .i64 (k : Int) ∧ Hid (((L.drop k).all fun c => letterB c || digitB c) = R) ∧ wr = w1)
        case atStart => exact ⟨0, rfl, rfl, Lib.hid (by simpa using HR3.out), rfl⟩
        case round =>
          obtain ⟨k, hk, rfl, HD, rfl⟩ := hrel
          by_cases e1 : k < L.length
          · obtain ⟨c, hc⟩ : ∃ c, L[k]? = some c := ⟨_, List.getElem?_eq_getElem e1⟩
            have i1 : (k : Int) < (L.length : Int) := by omega
            have ec := eK.out k c hc
            have hcb := u8_ltA c
            have hd : L.drop k = c :: L.drop (k + 1) := by
              obtain ⟨h1, rfl⟩ := List.getElem?_eq_some_iff.1 hc
              exact List.drop_eq_getElem_cons h1
            have HD2 := Lib.hid (show (((letterB c || digitB c) && (L.drop (k + 1)).all fun c => letterB c || digitB c) = R) by have := HD.out; rw [hd] at this; simpa using this)
            have hdg : digitB c = (decide (48 ≤ (c.toNat : Int)) && decide ((c.toNat : Int) ≤ 57)) := by
              unfold digitB
              rw [show decide (48 ≤ c.toNat) = decide (48 ≤ (c.toNat : Int)) from decide_eq_decide.2 (by omega), show decide (c.toNat ≤ 57) = decide ((c.toNat : Int) ≤ 57) from decide_eq_decide.2 (by omega)]
            rw [hdg] at HD2
            clear hc hd HD hdg
            go_wp2_with fail
            refine (HLt.out c _).mono ?_
            rintro e w2 ⟨rfl, rfl⟩
            cases hlc : letterB c
            · rw [hlc] at HD2
              by_cases f1 : (c.toNat : Int) < 48
              · have hRf : R = false := by have := HD2.out; simp [show ¬ (48 : Int) ≤ (c.toNat : Int) by omega] at this; first | exact this | exact this.symm
                subst hRf
                go_wp2_with fail
                go_ret
                exact ⟨rfl, Below.refl _ _⟩
              · by_cases f2 : (57 : Int) < (c.toNat : Int)
                · have hRf : R = false := by have := HD2.out; simp [show ¬ (c.toNat : Int) ≤ 57 by omega] at this; first | exact this | exact this.symm
                  subst hRf
                  go_wp2_with fail
                  go_ret
                  exact ⟨rfl, Below.refl _ _⟩
                · have HD3 := Lib.hid (show ((L.drop (k + 1)).all fun c => letterB c || digitB c) = R by have := HD2.out; simpa [show (48 : Int) ≤ (c.toNat : Int) by omega, show (c.toNat : Int) ≤ 57 by omega] using this)
                  go_wp2_with fail
                  go_roundg (gk - 1)
                  case measure => omega
                  case rel => exact ⟨k + 1, by omega, by go_num, HD3, rfl⟩
            · have HD3 := Lib.hid (show ((L.drop (k + 1)).all fun c => letterB c || digitB c) = R by have := HD2.out; rw [hlc] at this; simpa using this)
              go_wp2_with fail
              go_roundg (gk - 1)
              case measure => omega
              case rel => exact ⟨k + 1, by omega, by go_num, HD3, rfl⟩
          · have i1 : ¬ (k : Int) < (L.length : Int) := by omega
            have hRt : R = true := by have := HD.out; rw [List.drop_eq_nil_iff.2 (by omega)] at this; exact this.symm
            subst hRt
            go_wp2_with fail
            go_ret
            exact ⟨rfl, Below.refl _ _⟩
    · have d2 : (16 : Int) < (L.length : Int) := by omega
      have hRf : R = false := by have := HR.out; unfold nameB at this; simp [c2] at this; first | exact this | exact this.symm
      subst hRf
      go_wp2_with fail
      go_ret
      exact ⟨rfl, Below.refl _ _⟩
  · have d1 : (L.length : Int) < 1 := by omega
    have hRf : R = false := by have := HR.out; unfold nameB at this; simp [c1] at this; first | exact this | exact this.symm
    subst hRf
    go_wp2_with fail
    go_ret
    exact ⟨rfl, Below.refl _ _⟩
end Go.Proofs.YtgfljokamgbcaaaGreatDoor
namespace Go.Proofs.YtgfljokamgbcaaaGreatDoor
open Go.RowKit
set_option linter.unusedSimpArgs false
set_option linter.unusedVariables false
set_option maxRecDepth 100000

/-- What a method hands back: the work as told, or a panic with the error told. -/
def MetP (base wk pb ob : Nat) (again : Bool) (r : Except Int St) (w : World) (e : Ending) (w' : World) : Prop := Fr base pb w w' ∧ match r with
  | .ok T => e = .returned (.tuple #[]) ∧ AsIs base wk pb ob again T w'
  | .error er => e = .panicked (wrongP er)

/-- What 'to' hands back: of the blocks that were there, the work and its row of bytes alone have turned. -/
def ToP (base wk pb ob : Nat) (again : Bool) (r : Except Int St) (pl : List (Wd × Int)) (vB vL vM : Value) (w : World) (e : Ending) (w' : World) : Prop := Fr base pb w w' ∧ (∀ g, g < w.heap.size → g ≠ wk → some g ≠ vB.ownBlock → w'.heap[g]? = w.heap[g]?) ∧ match r with
  | .ok T => e = .returned (.tuple #[]) ∧ ∃ vB', (∀ g, some g = vB'.ownBlock → some g = vB.ownBlock ∨ w.heap.size ≤ g) ∧ AsFix base wk pb ob again T pl vB' vL vM w'
  | .error er => e = .panicked (wrongP er)

set_option maxHeartbeats 4000000 in
theorem to_c (base wk pb ob : Nat) (again : Bool) (S : St) (pl : List (Wd × Int)) (vB vL vM : Value) (t : Int) (w : World) (hF : AsFix base wk pb ob again S pl vB vL vM w) (hs : base ≤ w.heap.size) (t0 : 0 ≤ t) (t1 : t ≤ 4611686018427387904) (hb : S.bytes.length ≤ 4096) :
    Calls Tryz.prog 53 #[.pointer (some ⟨wk, 0, none⟩), .int .i64 t] w (ToP base wk pb ob again (toF again S t) pl vB vL vM w) := by
  obtain ⟨i0, hi, hz0, hz1, hz2⟩ := info_parts Isa.Tryz.infoB
  have hg := give_c
  have HG := Lib.hid hg
  clear hg
  have hwb := hF.le
  by_cases c1 : 4096 < t
  · have hR : toF again S t = .error 311 := by unfold toF; rw [if_pos c1]
    rw [hR]
    clear hF
    go_enter Tryz.func53, Tryz.ntmps53
    go_wp2_with fail
    refine (HG.out _ _).mono ?_
    rintro e w2 ⟨rfl, rfl⟩
    exact ⟨rfl, Fr.refl _ _ _, fun _ _ _ _ => rfl, rfl⟩
  · have hR : toF again S t = .ok { S with at' := t, bytes := if again then S.bytes ++ List.replicate (t.toNat - S.bytes.length) 0 else S.bytes } := by unfold toF; rw [if_neg c1]
    obtain ⟨T, hT⟩ : ∃ T : St, T = { S with at' := t, bytes := if again then S.bytes ++ List.replicate (t.toNat - S.bytes.length) 0 else S.bytes } := ⟨_, rfl⟩
    rw [hR, ← hT]
    have HTT := Lib.hid hT
    clear hT hR
    have k0 := hF.cell 0
    have f0 := hF.frozen 0
    simp only [wkA] at k0
    have hlt := hF.lt
    have hF1 := hF.setAt t
    have hfr : Fr base pb w (w.setCell ⟨wk, 0, none⟩ (.int .i64 t)) := Fr.setWk _ hF.h hF.le
    have hk1 : ∀ g, g < w.heap.size → g ≠ wk → some g ≠ vB.ownBlock → (w.setCell ⟨wk, 0, none⟩ (.int .i64 t)).heap[g]? = w.heap[g]? := fun g _ hg _ => Below.heap_setCell _ _ _ _ hg
    have hsz1 : (w.setCell ⟨wk, 0, none⟩ (.int .i64 t)).heap.size = w.heap.size := by simp
    go_enter Tryz.func53, Tryz.ntmps53
    go_wp2_with fail
    obtain ⟨w1, hw1⟩ : ∃ x, x = w.setCell ⟨wk, 0, none⟩ (.int .i64 t) := ⟨_, rfl⟩
    rw [← hw1] at hF1 hfr hk1 hsz1 ⊢
    cases again
    · clear hw1
      have a1 : w1.cell? ⟨wk, 1, none⟩ = some (.bool false) := hF1.cell 1
      refine wp_loop_rounds 2 ?_
      rw [rounds_succ]
      go_wp2_with fail
      go_end0
      exact ⟨hfr, hk1, rfl, vB, fun g hg => .inl hg, by rw [HTT.out]; exact hF1⟩
    · have HF1 := Lib.hid hF1
      have HFr := Lib.hid hfr
      have HK1 := Lib.hid hk1
      have HS1 := Lib.hid hsz1
      clear hF hF1 hfr hk1 hw1 k0 f0 hsz1
      go_loopg [] (t.toNat - S.bytes.length) (fun gk wr => ∃ (j : Nat) (vj : Value), gk + j = t.toNat - S.bytes.length ∧ Hid (AsFix base wk pb ob true { S with at' := t, bytes := S.bytes ++ List.replicate j 0 } pl vj vL vM wr) ∧ Hid (Fr base pb w wr) ∧ Hid (∀ g, some g = vj.ownBlock → some g = vB.ownBlock ∨ w.heap.size ≤ g) ∧
        Hid (∀ g, g < w.heap.size → g ≠ wk → some g ≠ vB.ownBlock → wr.heap[g]? = w.heap[g]?))
      case atStart => exact ⟨0, vB, rfl, Lib.hid (by simpa using HF1.out), HFr, Lib.hid (fun g hg => .inl hg), HK1⟩
      case round =>
        obtain ⟨j, vj, hj, HF, HFr2, HO, HK⟩ := hrel
        have hO := HF.out.bs
        have hjl : (S.bytes ++ List.replicate j 0).length = S.bytes.length + j := by simp
        rw [hjl] at hO
        obtain ⟨aj, cj, rfl⟩ := own_sliceA hO
        have a1 : wr.cell? ⟨wk, 1, none⟩ = some (.bool true) := HF.out.cell 1
        have a4 : wr.cell? ⟨wk, 4, none⟩ = some (.slice aj (S.bytes.length + j) cj) := (HF.out.cell 4).trans (by simp [wkA])
        have hltr := HF.out.lt
        have hbr : base ≤ wr.heap.size := Nat.le_trans hs HFr2.out.size
        by_cases c2 : S.bytes.length + j < t.toNat
        · have i1 : (S.bytes.length : Int) + (j : Int) < t := by omega
          have HOj := Lib.hid hO
          clear hO
          go_wp2_with (first | (at_builtin; refine wpList_append_own_at _ rfl _ _ 23 rfl base 5 i0 (.int .u8 0) 1 1 Tryz.underlying23 hi hz0 hz1 hz2 rfl (by decide) (.slice aj (S.bytes.length + j) cj) _ _ rfl (HOj.out.alloc _) _ 1 1 [.int .u8 0] rfl rfl (cell_one_new _ _ _) (by simp [Value.oneCell']) (by unfold maxLen; omega) (by omega) (by simp; omega) ?_; intro v4 w4 hown4 hgrow4 _ hblk; obtain ⟨a4', q4, rfl⟩ := own_sliceA hown4; have h4 := blk_grownA (HOj.out.alloc _) (HF.out.alloc _).h (fun _ => cells_ne (by decide)) hgrow4; have c4 : w4.cell? ⟨wk, 4, none⟩ = some (.slice aj (S.bytes.length + j) cj) := (World.cell?_of_block h4).trans (((HF.out.alloc _).cell 4).trans (by simp [wkA])); have f4 : w4.frozen? ⟨wk, 4, none⟩ = false := (World.frozen?_of_block h4).trans ((HF.out.alloc _).frozen 4); clear h4))
          go_roundg (gk - 1)
          case measure => omega
          case rel =>
            have hrep : (S.bytes ++ List.replicate (j + 1) 0).length = S.bytes.length + j + 1 := by simp; omega
            have hmap : (S.bytes ++ List.replicate (j + 1) 0).map (Value.int .u8) = (S.bytes ++ List.replicate j 0).map (Value.int .u8) ++ [.int .u8 0] := by rw [List.replicate_succ', ← List.append_assoc, List.map_append]; rfl
            have hFn := (HF.out.alloc (.cells #[.int .u8 0] 5)).setBytes (L' := S.bytes ++ List.replicate (j + 1) 0) hgrow4 (by rw [hrep, hmap]; exact hown4)
            have hwrs := HFr2.out.size
            refine ⟨j + 1, _, by omega, Lib.hid hFn, Lib.hid ?_, Lib.hid ?_, Lib.hid ?_⟩
            · refine HFr2.out.trans ((Fr.of_below ((Below.refl _ _).alloc (Nat.le_refl _) _) hbr).trans ((Fr.grown (HOj.out.alloc _) (.inl rfl) hgrow4 (by simp; omega)).trans ?_))
              have h4 := blk_grownA (HOj.out.alloc _) (HF.out.alloc _).h (fun _ => cells_ne (by decide)) hgrow4
              exact Fr.setWk _ (h4.trans (HF.out.alloc _).h) hwb
            · intro g hg
              rcases hblk with h | h
              · exact HO.out g (by rw [hg]; exact h)
              · rw [h] at hg
                simp at hg
                exact .inr (by omega)
            · intro g hg hgw hgb
              refine (Below.heap_setCell _ _ _ _ hgw).trans ((hgrow4.block g (by simp; omega) (fun h => ?_)).trans ((Below.heap_alloc _ _ _ (by omega)).trans (HK.out g hg hgw hgb)))
              rcases HO.out g h with h | h
              · exact hgb h
              · omega
        · have i1 : ¬ (S.bytes.length : Int) + (j : Int) < t := by omega
          have hjz : j = t.toNat - S.bytes.length := by omega
          go_wp2_with fail
          go_end0
          subst hjz
          exact ⟨HFr2.out, HK.out, rfl, _, HO.out, by rw [HTT.out]; simpa only [if_true] using HF.out⟩
end Go.Proofs.YtgfljokamgbcaaaGreatDoor
