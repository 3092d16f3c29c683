/- The document's power and Sets (mummerref03). -/
import Derived.Test.YtcikcfjbnpnhkaaKindH
import Derived.Test.YtcikcfjbnpnhkaaKindK
import Derived.Test.YtcikcfjbnpnhkaaRefB
namespace Go.Proofs.Ytcikcfjbnpnhkaa
open Go.RowKit
set_option linter.unusedSimpArgs false
set_option linter.unusedVariables false

def pw (n : Int) : Int := 2 ^ n.toNat

set_option maxHeartbeats 4000000 in
theorem power_c (n : Int) (w : World) (h0 : 0 ≤ n) (h1 : n < 8) :
    Calls Try.prog 23 #[.int .u8 n] w fun e w' => e = .returned (.int .u8 (pw n)) ∧ w = w' := by
  have hc : n = 0 ∨ n = 1 ∨ n = 2 ∨ n = 3 ∨ n = 4 ∨ n = 5 ∨ n = 6 ∨ n = 7 := by omega
  rcases hc with rfl | rfl | rfl | rfl | rfl | rfl | rfl | rfl
  all_goals
    go_enter Try.func23, Try.ntmps23
    go_wp2
    refine wp_loop_rounds 9 ?_
    repeat (rw [rounds_succ]; go_wp2)
    go_ret
    exact ⟨rfl, rfl⟩

/-- What the document's Sets says is read, of the bits of both registers. -/
def refR (ra rb sd eq : Bool) (pa pb : Int) : Int :=
  let r0 := if ra = true then pa else 0
  let r1 := if rb = true ∧ (ra = false ∨ eq = false) then r0 + pb else r0
  if sd = true ∧ r1 < 128 then r1 + 128 else r1
def refW (wa ln st : Bool) (pa : Int) : Int :=
  let w0 := if wa = true then pa else 0
  let w1 := if ln = true then 64 else w0
  if st = true ∧ w1 < 128 then w1 + 128 else w1

def SetsPost (m : Bool) (r s : Int) (w : World) (e : Ending) (w' : World) : Prop := e = .returned (.tuple #[.int .u8 (if m = true then r else 0), .int .u8 (if m = true then s else 0)]) ∧ Below w.heap.size w w'

/-- The rows that there are, as far as registers go. -/
def rowCombos : List (Bool × Bool × Bool × Bool × Bool × Bool) := [(false, false, false, false, false, false), (false, true, true, false, false, false), (true, true, true, false, false, false), (true, true, false, false, false, false), (false, false, true, false, false, false), (true, false, true, false, false, false), (true, false, false, false, true, true), (false, false, true, false, true, true), (false, false, false, true, false, false), (true, false, false, false, false, false), (true, false, false, true, false, false)]

theorem row_combo (op : Int) (h0 : 0 ≤ op) (h1 : op < 256) : ((rowF op).ra, (rowF op).rb, (rowF op).wa, (rowF op).ln, (rowF op).sd, (rowF op).st) ∈ rowCombos := by
  have h : ∀ i : Fin 256, ((rowF (i.val : Int)).ra, (rowF (i.val : Int)).rb, (rowF (i.val : Int)).wa, (rowF (i.val : Int)).ln, (rowF (i.val : Int)).sd, (rowF (i.val : Int)).st) ∈ rowCombos := by decide +kernel
  obtain ⟨n, rfl⟩ : ∃ n : Nat, op = (n : Int) := ⟨op.toNat, by omega⟩
  exact h ⟨n, by omega⟩

theorem pw_bd (n : Int) (h0 : 0 ≤ n) (h1 : n < 8) : 1 ≤ pw n ∧ pw n ≤ 128 := by
  have hc : n = 0 ∨ n = 1 ∨ n = 2 ∨ n = 3 ∨ n = 4 ∨ n = 5 ∨ n = 6 ∨ n = 7 := by omega
  rcases hc with rfl | rfl | rfl | rfl | rfl | rfl | rfl | rfl <;> decide
theorem pw_add (a b : Int) (h0 : 0 ≤ a) (h1 : a < 8) (h2 : 0 ≤ b) (h3 : b < 8) (h : a ≠ b) : pw a + pw b < 256 := by
  have h' : ∀ i j : Fin 8, i ≠ j → pw (i.val : Int) + pw (j.val : Int) < 256 := by decide
  obtain ⟨n, rfl⟩ : ∃ n : Nat, a = (n : Int) := ⟨a.toNat, by omega⟩
  obtain ⟨m, rfl⟩ : ∃ m : Nat, b = (m : Int) := ⟨b.toNat, by omega⟩
  exact h' ⟨n, by omega⟩ ⟨m, by omega⟩ (fun e => h (by rw [Fin.ext_iff] at e; simp only at e; omega))

theorem ret2u {a b c d : Int} (h : a = c) (h' : b = d) : Ending.returned (.tuple #[.int .u8 a, .int .u8 b]) = .returned (.tuple #[.int .u8 (if true = true then c else 0), .int .u8 (if true = true then d else 0)]) := by rw [if_pos rfl, if_pos rfl, h, h']

set_option maxRecDepth 100000 in
set_option maxHeartbeats 16000000 in
theorem sets_c (op a b imm : Int) (w : World) (h0 : 0 ≤ op) (h1 : op < 256) (h2 : 0 ≤ a) (h3 : a < 256) (h4 : 0 ≤ b) (h5 : b < 256) (h6 : -2147483648 ≤ imm) (h7 : imm < 2147483648) :
    Calls Try.prog 16 #[Isa.insV op a b imm] w
      (SetsPost (Isa.mayB (Isa.fm op true) a b imm) (refR (rowF op).ra (rowF op).rb (rowF op).sd (decide (a = b)) (pw a) (pw b)) (refW (rowF op).wa (rowF op).ln (rowF op).st (pw a)) w) := by
  have hM := fun w => Isa.refMay_c op a b imm true w h0 h1 h2 h3 h4 h5 h6 h7
  have hlt := fun hm => may_lt (op := op) (a := a) (b := b) (imm := imm) hm
  cases hm : Isa.mayB (Isa.fm op true) a b imm
  · rw [hm] at hM
    have HM := Lib.hid hM
    clear hM hlt hm
    unfold Isa.insV at HM ⊢
    go_enter Try.func16, Try.ntmps16
    go_wp2_with fail
    refine (HM.out _).mono ?_
    rintro e w1 ⟨rfl, hb1⟩
    have hB1 := kbelow_box hb1
    go_wp2_with fail
    go_ret2
    exact ⟨rfl, hB1⟩
  · rw [hm] at hM
    obtain ⟨ha8, hb8⟩ := hlt hm
    have HM := Lib.hid hM
    clear hM hlt hm
    have hO := fun w => refOf3_c op h0 h1 w
    have hC := row_combo op h0 h1
    generalize rowF op = x at hO hC ⊢
    obtain ⟨c, x2, x3, x4, x5, x6, x7, x8, x9, x10⟩ := x
    simp only at hC ⊢
    generalize endB c = en at hO
    obtain ⟨p1, p2⟩ := pw_bd a h2 ha8
    obtain ⟨q1, q2⟩ := pw_bd b h4 hb8
    have PA := Lib.hid fun w => power_c a w h2 ha8
    have PB := Lib.hid fun w => power_c b w h4 hb8
    have hne := fun h => pw_add a b h2 ha8 h4 hb8 h
    generalize hpa : pw a = pa at *
    generalize hpb : pw b = pb at *
    unfold RK.val at hO
    have HO := Lib.hid hO
    clear hO hpa hpb
    unfold Isa.insV at HM ⊢
    simp only [rowCombos, List.mem_cons, Prod.mk.injEq, List.mem_nil_iff, or_false] at hC
    have hE : decide (a = b) = true ∧ a = b ∨ decide (a = b) = false ∧ a ≠ b := by
      by_cases h : a = b
      · exact .inl ⟨decide_eq_true h, h⟩
      · exact .inr ⟨decide_eq_false h, h⟩
    rcases hE with ⟨hd, hab⟩ | ⟨hd, hab⟩
    case' inr =>
      have hsum := hne hab
      have e1 : (a == b) = false := beq_eq_false_iff_ne.2 hab
      have e2 : (a != b) = true := bne_iff_ne.2 hab
    case' inl =>
      have hsum : a = b := hab
      have e1 : (a == b) = true := beq_iff_eq.2 hab
      have e2 : (a != b) = false := by simp [hab]
    all_goals
      rw [hd]
      have HAB := Lib.hid hab
      clear hab hd hne
    case' inl => clear hsum
    all_goals
      rcases hC with ⟨rfl, rfl, rfl, rfl, rfl, rfl⟩ | ⟨rfl, rfl, rfl, rfl, rfl, rfl⟩ | ⟨rfl, rfl, rfl, rfl, rfl, rfl⟩ | ⟨rfl, rfl, rfl, rfl, rfl, rfl⟩ | ⟨rfl, rfl, rfl, rfl, rfl, rfl⟩ | ⟨rfl, rfl, rfl, rfl, rfl, rfl⟩ | ⟨rfl, rfl, rfl, rfl, rfl, rfl⟩ | ⟨rfl, rfl, rfl, rfl, rfl, rfl⟩ | ⟨rfl, rfl, rfl, rfl, rfl, rfl⟩ | ⟨rfl, rfl, rfl, rfl, rfl, rfl⟩ | ⟨rfl, rfl, rfl, rfl, rfl, rfl⟩
      all_goals
        go_enter Try.func16, Try.ntmps16
        go_wp2_with fail
        refine (HM.out _).mono ?_
        rintro e w1 ⟨rfl, hb1⟩
        have c0 : w1.cell? ⟨w.heap.size, 0, none⟩ = some (.int .u8 op) := keepK hb1 (by go_simp)
        have hB1 := kbelow_box hb1
        have c1 : w1.cell? ⟨w.heap.size, 1, none⟩ = some (.int .u8 a) := keepK hb1 (by go_simp)
        have c2 : w1.cell? ⟨w.heap.size, 2, none⟩ = some (.int .u8 b) := keepK hb1 (by go_simp)
        have s1 : w.heap.size < w1.heap.size := by have := hb1.size; simp at this; omega
        clear hb1
        go_wp2_with fail
        refine (HO.out _).mono ?_
        rintro e w2 ⟨rfl, hb2⟩
        have d1 := keepK hb2 c1
        have d2 := keepK hb2 c2
        have hB2 := kbelow_next hB1 hb2
        have s2 : w.heap.size < w2.heap.size := by have := hb2.size; omega
        clear hb2 c0 c1 c2
        go_wp2_with (first | (go_at_call 23; ((with_reducible refine (PA.out _).mono ?_); rintro e w' ⟨rfl, rfl⟩)) | (go_at_call 23; ((with_reducible refine (PB.out _).mono ?_); rintro e w' ⟨rfl, rfl⟩)))
        all_goals
          go_ret2
          refine ⟨ret2u ?_ ?_, hB2.alloc hB2.size _⟩
          · simp [refR]; try omega
          · simp [refW]; try omega
end Go.Proofs.Ytcikcfjbnpnhkaa
