/- (text.name).of: its contract. -/
import Derived.Test.YtgfljokamgbcaaaGreatDoorRdC
namespace Go.Proofs.YtgfljokamgbcaaaGreatDoor
open Go.RowKit
set_option linter.unusedSimpArgs false
set_option linter.unusedVariables false
set_option maxRecDepth 100000

def oA (n : Nm) (ws : List (List UInt8)) : Option Int := if n.a = 0 then some 0 else regF (ws.getD 1 []) n.a
def oB (n : Nm) (ws : List (List UInt8)) : Option Int := if n.b = 0 then some 0 else regF (ws.getD (if n.a = 0 then 1 else 2) []) n.b
def pI (n : Nm) : Nat := 1 + (if n.a = 0 then 0 else 1) + (if n.b = 0 then 0 else 1)
/-- The instruction of words: A, B and the number, or why there is none. -/
def ofF (n : Nm) (ws : List (List UInt8)) : Except Int (Int × Int × Int) :=
  if ws.length = n.want then
    match oA n ws with
    | none => .error 40
    | some a =>
      match oB n ws with
      | none => .error 40
      | some b =>
        if n.imm = true then
          match numF (ws.getD (pI n) []) with
          | none => .error 41
          | some i => if Isa.mayB (Isa.fm n.op true) a b i = true then .ok (a, b, i) else .error 41
        else .ok (a, b, 0)
  else .error 40
def ofV (op : Int) : Except Int (Int × Int × Int) → Value
  | .error e => .tuple #[insR 0 0 0 0, .int .i64 e]
  | .ok (a, b, i) => .tuple #[insR op a b i, .int .i64 0]

set_option maxHeartbeats 8000000 in
theorem of_len (s : ByteArray) (op a b : Int) (imm : Bool) (gw cap N want : Nat) (w : World) (hne : N ≠ want)
    (HW : Hid (∀ W, Calls Tryz.prog 91 #[.agg #[.string s, .int .u8 op, .int .u8 a, .int .u8 b, .bool imm]] W fun e w' => e = .returned (.int .i64 (want : Int)) ∧ Below W.heap.size W w')) :
    Calls Tryz.prog 76 #[.agg #[.string s, .int .u8 op, .int .u8 a, .int .u8 b, .bool imm], .slice (some ⟨gw, 0, none⟩) N cap] w fun e w' => e = .returned (.tuple #[insR 0 0 0 0, .int .i64 40]) ∧ Below w.heap.size w w' := by
  unfold insR
  have e1 : ((N : Int) != (want : Int)) = true := by simp; omega
  have hR : Hid ((((w.alloc (.cells #[.string s, .int .u8 op, .int .u8 a, .int .u8 b, .bool imm] 104)).alloc (.cells #[.int .u8 0, .int .u8 0, .int .u8 0, .int .i32 0] 67)).alloc (.cells #[.int .u8 op, .int .u8 0, .int .u8 0, .int .i32 0] 67)).heap[w.heap.size + 1]? = some (.cells #[.int .u8 0, .int .u8 0, .int .u8 0, .int .i32 0] 67 (0, 0))) := Lib.hid (heap_oldT (heap_newT (by simp)))
  go_enter Tryz.func76, Tryz.ntmps76
  go_wp2_with fail
  refine (HW.out _).mono ?_
  rintro e w1 ⟨rfl, hb1⟩
  have hr := (hb1.block (w.heap.size + 1) (by simp)).trans hR.out
  have hbl := ((((Below.refl w.heap.size w).alloc (Nat.le_refl _) (.cells #[.string s, .int .u8 op, .int .u8 a, .int .u8 b, .bool imm] 104)).alloc (by simp) (.cells #[.int .u8 0, .int .u8 0, .int .u8 0, .int .i32 0] 67)).alloc (by simp; omega) (.cells #[.int .u8 op, .int .u8 0, .int .u8 0, .int .i32 0] 67)).trans (hb1.mono (by simp; omega))
  have kr0 := (cell_of_row _ _ 0 _ _ _ hr).trans rfl
  have kr1 := (cell_of_row _ _ 1 _ _ _ hr).trans rfl
  have kr2 := (cell_of_row _ _ 2 _ _ _ hr).trans rfl
  have kr3 := (cell_of_row _ _ 3 _ _ _ hr).trans rfl
  have fr0 := frozen_of_row _ _ 0 _ _ hr
  have fr1 := frozen_of_row _ _ 1 _ _ hr
  have fr2 := frozen_of_row _ _ 2 _ _ hr
  have fr3 := frozen_of_row _ _ 3 _ _ hr
  clear hr hb1
  go_wp2_with fail
  refine bodyPost_ret (v := .tuple #[.agg #[.int .u8 0, .int .u8 0, .int .u8 0, .int .i32 0], .int .i64 40]) (by simp [results, Tryz.results76, go_sem, World.cell?_setCell_same', kr0, kr1, kr2, kr3]) rfl ⟨rfl, ?_⟩
  repeat (first | exact hbl | (refine Below.setCell ?_ (by show w.heap.size ≤ w.heap.size + 1; omega) _))

theorem getD_at {ws : List (List UInt8)} {k : Nat} (h : k < ws.length) : ws[k]? = some (ws.getD k []) := by
  rw [List.getElem?_eq_getElem h]; simp [List.getD, List.getElem?_eq_getElem h]
theorem nm_ab : nmTab.all (fun n => decide (n.a = 0 → n.b = 0)) = true := by decide +kernel

theorem of_c (n : Nm) (hn : n ∈ nmTab) (gw cap : Nat) (ws : List (List UInt8)) (w : World) (hw : ∀ j x, ws[j]? = some x → w.cell? ⟨gw, j, none⟩ = some (.string ⟨x.toArray⟩)) (hgw : gw < w.heap.size) (hl : ∀ x ∈ ws, x.length ≤ 9223372036854775807) :
    Calls Tryz.prog 76 #[.agg n.cells.toArray, .slice (some ⟨gw, 0, none⟩) ws.length cap] w fun e w' => e = .returned (ofV n.op (ofF n ws)) ∧ Below w.heap.size w w' := by
  obtain ⟨k, hk⟩ := List.getElem?_of_mem hn
  obtain ⟨p0, p1, pa, pb, -⟩ := nm_is hk
  have hab : n.a = 0 → n.b = 0 := by
    have := List.all_eq_true.1 nm_ab n hn
    exact of_decide_eq_true this
  have HW := Lib.hid fun W => want_c n W
  have hlen : ∀ k, (ws.getD k []).length ≤ 9223372036854775807 := fun k => by
    rcases Nat.lt_or_ge k ws.length with h | h
    · exact hl _ (List.mem_of_getElem? (getD_at h))
    · rw [List.getD_eq_getElem?_getD, List.getElem?_eq_none h]; simp
  by_cases c : ws.length = n.want
  case neg =>
    unfold ofF
    rw [if_neg c]
    exact of_len _ n.op n.a n.b n.imm gw cap ws.length n.want w c HW
  rw [← c] at HW
  have gW : ∀ j x, ws[j]? = some x → w.cell? ⟨gw, j, none⟩ = some (.string ⟨x.toArray⟩) := hw
  unfold ofF
  rw [if_pos c]
  have cw : n.want = 1 + (n.a != 0).toNat + (n.b != 0).toNat + n.imm.toNat := rfl
  unfold oA oB pI
  by_cases ca : n.a = 0
  · have cb := hab ca
    simp only [if_pos ca, if_pos cb]
    have ea : (n.a != 0) = false := by simp [ca]
    have eb : (n.b != 0) = false := by simp [cb]
    rw [ea, eb] at cw
    by_cases ci : n.imm = true
    · rw [if_pos ci]
      have h1 := getD_at (ws := ws) (k := 1) (by rw [c, cw, ci]; decide)
      cases hr : numF (ws.getD (1 + 0 + 0) []) with
      | none => exact of_no_no_none _ n.op n.a n.b n.imm gw cap ws.length ws w rfl gW hgw ⟨p0, p1⟩ HW ca cb ci _ h1 (hlen 1) hr
      | some i =>
        by_cases cm : Isa.mayB (Isa.fm n.op true) 0 0 i = true
        · simp only [if_pos cm]
          exact of_no_no_ok _ n.op n.a n.b n.imm gw cap ws.length ws w rfl gW hgw ⟨p0, p1⟩ HW i ca cb ci _ h1 (hlen 1) hr cm
        · simp only [if_neg cm]
          exact of_no_no_notmay _ n.op n.a n.b n.imm gw cap ws.length ws w rfl gW hgw ⟨p0, p1⟩ HW i ca cb ci _ h1 (hlen 1) hr (by simpa using cm)
    · rw [if_neg ci]
      exact of_no_no_no _ n.op n.a n.b n.imm gw cap ws.length ws w rfl gW hgw ⟨p0, p1⟩ HW ca cb (by simpa using ci)
  · simp only [if_neg ca]
    have ea : (n.a != 0) = true := by simp [ca]
    rw [ea] at cw
    have h1 := getD_at (ws := ws) (k := 1) (by rw [c, cw]; simp; omega)
    cases hra : regF (ws.getD 1 []) n.a with
    | none => exact of_fail_no_no _ n.op n.a n.b n.imm gw cap ws.length ws w rfl gW hgw ⟨p0, p1⟩ HW ca _ h1 hra
    | some va =>
      simp only
      by_cases cb : n.b = 0
      · simp only [if_pos cb]
        have eb : (n.b != 0) = false := by simp [cb]
        rw [eb] at cw
        by_cases ci : n.imm = true
        · rw [if_pos ci]
          have h2 := getD_at (ws := ws) (k := 2) (by rw [c, cw, ci]; decide)
          cases hr : numF (ws.getD (1 + 1 + 0) []) with
          | none => exact of_ok_no_none _ n.op n.a n.b n.imm gw cap ws.length ws w rfl gW hgw ⟨p0, p1⟩ HW va ca _ h1 hra cb ci _ h2 (hlen 2) hr
          | some i =>
            by_cases cm : Isa.mayB (Isa.fm n.op true) va 0 i = true
            · simp only [if_pos cm]
              exact of_ok_no_ok _ n.op n.a n.b n.imm gw cap ws.length ws w rfl gW hgw ⟨p0, p1⟩ HW i va ca _ h1 hra cb ci _ h2 (hlen 2) hr cm
            · simp only [if_neg cm]
              exact of_ok_no_notmay _ n.op n.a n.b n.imm gw cap ws.length ws w rfl gW hgw ⟨p0, p1⟩ HW i va ca _ h1 hra cb ci _ h2 (hlen 2) hr (by simpa using cm)
        · rw [if_neg ci]
          exact of_ok_no_no _ n.op n.a n.b n.imm gw cap ws.length ws w rfl gW hgw ⟨p0, p1⟩ HW va ca _ h1 hra cb (by simpa using ci)
      · simp only [if_neg cb]
        have eb : (n.b != 0) = true := by simp [cb]
        rw [eb] at cw
        have h2 := getD_at (ws := ws) (k := 2) (by rw [c, cw]; simp; omega)
        cases hrb : regF (ws.getD 2 []) n.b with
        | none => exact of_ok_fail_no _ n.op n.a n.b n.imm gw cap ws.length ws w rfl gW hgw ⟨p0, p1⟩ HW va ca _ h1 hra cb _ h2 hrb
        | some vb =>
          simp only
          by_cases ci : n.imm = true
          · rw [if_pos ci]
            have h3 := getD_at (ws := ws) (k := 3) (by rw [c, cw, ci]; decide)
            cases hr : numF (ws.getD (1 + 1 + 1) []) with
            | none => exact of_ok_ok_none _ n.op n.a n.b n.imm gw cap ws.length ws w rfl gW hgw ⟨p0, p1⟩ HW vb va ca _ h1 hra cb _ h2 hrb ci _ h3 (hlen 3) hr
            | some i =>
              by_cases cm : Isa.mayB (Isa.fm n.op true) va vb i = true
              · simp only [if_pos cm]
                exact of_ok_ok_ok _ n.op n.a n.b n.imm gw cap ws.length ws w rfl gW hgw ⟨p0, p1⟩ HW i vb va ca _ h1 hra cb _ h2 hrb ci _ h3 (hlen 3) hr cm
              · simp only [if_neg cm]
                exact of_ok_ok_notmay _ n.op n.a n.b n.imm gw cap ws.length ws w rfl gW hgw ⟨p0, p1⟩ HW i vb va ca _ h1 hra cb _ h2 hrb ci _ h3 (hlen 3) hr (by simpa using cm)
          · rw [if_neg ci]
            exact of_ok_ok_no _ n.op n.a n.b n.imm gw cap ws.length ws w rfl gW hgw ⟨p0, p1⟩ HW vb va ca _ h1 hra cb _ h2 hrb (by simpa using ci)
end Go.Proofs.YtgfljokamgbcaaaGreatDoor
