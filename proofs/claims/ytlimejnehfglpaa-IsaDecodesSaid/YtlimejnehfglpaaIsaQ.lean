/- The walk of IsaGuests. -/
import Derived.Test.YtlimejnehfglpaaIsaP
import Derived.Test.YtlimejnehfglpaaIsaK
namespace Go.Proofs.Ytlimejnehfglpaa
open Go.RowKit

theorem bytes_below {W w1 : World} {ao : Option Addr} {L : List Int} (hb : Below W.heap.size W w1) (h : BytesIn W ao L) : BytesIn w1 ao L := by
  rcases h with h | ⟨blk, off, h1, h2⟩
  · exact .inl h
  · exact .inr ⟨blk, off, h1, fun i hi => by
      rw [hb.cell (p := ⟨blk, off + i, none⟩) (World.block_lt_of_cell? W _ (h2 i hi))]; exact h2 i hi⟩

set_option maxHeartbeats 4000000 in
theorem guests_walk (ao : Option Addr) (len cap : Nat) (L : List Int) (w : World) (hy : ByteArg w ao len cap L) :
    Calls Try.prog 9 #[.slice ao len cap] w fun e w' => e = .returned (.bool true) ∧ Below w.heap.size w w' := by
  obtain ⟨hL, hlc, hcm, hbt, hB⟩ := hy
  have hlaw := guests_law L
  have HA := Lib.hid fun (w : World) (h : BytesIn w ao L) => dec_c false ao len cap L w hL (by omega) hbt h
  have HB := Lib.hid fun (w : World) (h : BytesIn w ao L) => dec_c true ao len cap L w hL (by omega) hbt h
  have HW := Lib.hid works_c
  have hx : ∀ x T, L = x :: T → ∃ blk off, ao = some ⟨blk, off, none⟩ ∧ w.cell? ⟨blk, off, none⟩ = some (.int .u8 x) := fun x T hx => by
    subst hx
    rcases hB with h | ⟨blk, off, h1, h2⟩
    · cases h
    · exact ⟨blk, off, h1, by simpa using h2 0 (by simp)⟩
  have hpos : ∀ x T, L = x :: T → 0 < len := fun x T h => by rw [← hL, h]; simp
  generalize decR false L = r at HA hlaw
  generalize decR true L = q at HB hlaw
  obtain ⟨op, a, b, imm, n, err⟩ := r
  obtain ⟨op', a', b', imm', n', err'⟩ := q
  unfold DR.post DecPost insV at HA HB
  simp only at HA HB hlaw
  have HH := Lib.hid hB
  have HX := Lib.hid hx
  have HL := Lib.hid hL
  clear hB hx hL hbt
  rcases hlaw with ⟨rfl, hq, ho1, ho2⟩ | ⟨he, rfl, ho⟩ | ⟨he, he', ho⟩
  · injection hq with e1 e2 e3 e4 e5 e6
    subst e1 e2 e3 e4 e5 e6
    have o1 : (op' != 112) = true := by simpa using ho1
    have o2 : (op' != 113) = true := by simpa using ho2
    clear ho1 ho2 hpos
    go_enter Try.func9, Try.ntmps9
    go_wp2_with fail
    refine (HA.out _ HH.out).mono ?_
    rintro e w1 ⟨rfl, hb1⟩
    go_wp2_with fail
    refine (HB.out _ (bytes_below (below_next hb1 (below_alloc1 _ _)) HH.out)).mono ?_
    rintro e w2 ⟨rfl, hb2⟩
    obtain ⟨hcl, hfz⟩ := bcell hb2
    have hz : w1.heap.size < w2.heap.size := by have := hb2.size; simp at this; omega
    go_wp2_with fail
    refine (HW.out _).mono ?_
    rintro e w3 ⟨rfl, hb3⟩
    go_wp2_with fail
    go_ret
    exact ⟨rfl, below_next ((below_box2 hb1 hb2).alloc (by have := hb1.size; omega) _) hb3⟩
  · have e0 : (err == 0) = false := by simpa using he
    clear he hpos
    rcases ho with rfl | rfl
    all_goals
      go_enter Try.func9, Try.ntmps9
      go_wp2_with fail
      refine (HA.out _ HH.out).mono ?_
      rintro e w1 ⟨rfl, hb1⟩
      go_wp2_with fail
      refine (HB.out _ (bytes_below (below_next hb1 (below_alloc1 _ _)) HH.out)).mono ?_
      rintro e w2 ⟨rfl, hb2⟩
      obtain ⟨hcl, hfz⟩ := bcell hb2
      have hz : w1.heap.size < w2.heap.size := by have := hb2.size; simp at this; omega
      go_wp2_with fail
      go_ret
      exact ⟨rfl, (below_box2 hb1 hb2).alloc (by have := hb1.size; omega) _⟩
  · have e0 : (err == 0) = false := by simpa using he
    have e0' : (err' == 0) = false := by simpa using he'
    clear he he'
    by_cases hee : err = err'
    · subst hee
      clear ho hpos
      go_enter Try.func9, Try.ntmps9
      go_wp2_with fail
      refine (HA.out _ HH.out).mono ?_
      rintro e w1 ⟨rfl, hb1⟩
      go_wp2_with fail
      refine (HB.out _ (bytes_below (below_next hb1 (below_alloc1 _ _)) HH.out)).mono ?_
      rintro e w2 ⟨rfl, hb2⟩
      go_wp2_with fail
      go_ret
      exact ⟨rfl, (below_box2 hb1 hb2).alloc (by have := hb1.size; have := hb2.size; simp at this; omega) _⟩
    · have ee : (err == err') = false := by simpa using hee
      rcases ho with ho | ⟨x, T, hxl, hx⟩
      · exact absurd ho hee
      obtain ⟨blk, off, rfl, hc⟩ := HX.out x T hxl
      have hp := hpos x T hxl
      clear hpos hxl hee
      have hp1 : (0 : Int) < (len : Int) := by omega
      have hbw : blk < w.heap.size := World.block_lt_of_cell? w _ hc
      rcases hx with rfl | rfl
      all_goals
        go_enter Try.func9, Try.ntmps9
        go_wp2_with fail
        refine (HA.out _ HH.out).mono ?_
        rintro e w1 ⟨rfl, hb1⟩
        go_wp2_with fail
        refine (HB.out _ (bytes_below (below_next hb1 (below_alloc1 _ _)) HH.out)).mono ?_
        rintro e w2 ⟨rfl, hb2⟩
        have hb12 := below_box2 hb1 hb2
        have hcx : w2.cell? ⟨blk, off, none⟩ = some (.int .u8 _) := (hb12.cell (p := ⟨blk, off, none⟩) hbw).trans hc
        have hbw2 : blk < w2.heap.size := Nat.lt_of_lt_of_le hbw hb12.size
        go_wp2_with fail
        go_ret
        exact ⟨rfl, hb12.alloc (hb12.size) _⟩
end Go.Proofs.Ytlimejnehfglpaa
