/- The document's Do (mummerref09): plain laws of its arithmetic. (Written by mkSR.py.) -/
import Derived.Test.YtlgnhjalhfednaaSenM
import Derived.Test.YtlgnhjalhfednaaRefB
import Derived.BigRegion
namespace Go.Proofs.Ytlgnhjalhfednaa
open Go.RowKit
set_option linter.unusedSimpArgs false
set_option linter.unusedVariables false

theorem nat_and_low (x m : Nat) (hm : m < 256) : x &&& m = (x % 256) &&& m := by
  have h1 : (x &&& m) % 256 = (x % 256) &&& (m % 256) := Nat.and_mod_two_pow (n := 8)
  rw [Nat.mod_eq_of_lt hm] at h1
  rw [← h1, Nat.mod_eq_of_lt]
  exact Nat.lt_of_le_of_lt Nat.and_le_right hm
theorem nat_247 (x : Nat) : x &&& 247 = x % 8 + x / 16 % 16 * 16 := by
  rw [nat_and_low x 247 (by decide)]
  have h : ∀ i : Fin 256, i.val &&& 247 = i.val % 8 + i.val / 16 % 16 * 16 := by decide +kernel
  have := h ⟨x % 256, by omega⟩
  simp only at this
  rw [this]; omega
theorem nat_240 (x : Nat) : x &&& 240 = x / 16 % 16 * 16 := by
  rw [nat_and_low x 240 (by decide)]
  have h : ∀ i : Fin 256, i.val &&& 240 = i.val / 16 % 16 * 16 := by decide +kernel
  have := h ⟨x % 256, by omega⟩
  simp only at this
  rw [this]; omega
theorem nat_not240 (x : Nat) (hx : x < 4294967296) : x &&& 4294967055 = x - x / 16 % 16 * 16 := by
  have h1 : (x &&& 4294967055) % 256 = (x % 256) &&& (4294967055 % 256) := Nat.and_mod_two_pow (n := 8)
  have h2 : (x &&& 4294967055) / 256 = (x / 256) &&& (4294967055 / 256) := Nat.and_div_two_pow (n := 8)
  have h3 : (x / 256) &&& (2 ^ 24 - 1) = (x / 256) % 2 ^ 24 := Nat.and_two_pow_sub_one_eq_mod _ _
  have h4 : (x % 256) &&& (2 ^ 4 - 1 : Nat) = (x % 256) % 2 ^ 4 := Nat.and_two_pow_sub_one_eq_mod _ _
  simp only [Nat.reducePow, Nat.reduceSub, Nat.reduceMod, Nat.reduceDiv] at h1 h2 h3 h4
  rw [h4] at h1
  rw [h3] at h2
  omega
theorem nat_or (h l m : Nat) (hl : l < 16) (hm : m < 16) : (256 * h + l) ||| (m * 16) = 256 * h + l + m * 16 := by
  have h1 : ((256 * h + l) ||| (m * 16)) % 256 = ((256 * h + l) % 256) ||| ((m * 16) % 256) := Nat.or_mod_two_pow (n := 8)
  have h2 : ((256 * h + l) ||| (m * 16)) / 256 = ((256 * h + l) / 256) ||| ((m * 16) / 256) := Nat.or_div_two_pow (n := 8)
  have e1 : (256 * h + l) % 256 = l := by omega
  have e2 : (m * 16) % 256 = m * 16 := by omega
  have e3 : (256 * h + l) / 256 = h := by omega
  have e4 : (m * 16) / 256 = 0 := by omega
  rw [e1, e2] at h1
  rw [e3, e4, Nat.or_zero] at h2
  have h5 : ∀ i j : Fin 16, i.val ||| (j.val * 16) = i.val + j.val * 16 := by decide +kernel
  have := h5 ⟨l, hl⟩ ⟨m, hm⟩
  simp only at this
  rw [this] at h1
  omega

theorem ref_247 {x : Int} (h0 : 0 ≤ x) (h1 : x < 4294967296) : x % 8 + x / 16 % 16 * 16 = bits .and .u32 x 247 := by
  obtain ⟨n, rfl⟩ := Int.eq_ofNat_of_zero_le h0
  rw [u32_and _ _ h0 h1 (by omega) (by omega)]
  simp only [Int.toNat_natCast, show (247 : Int).toNat = 247 from rfl]
  rw [nat_247]; omega
theorem ref_240 {x y : Int} (h0 : 0 ≤ x) (h1 : x < 4294967296) (h2 : 0 ≤ y) (h3 : y < 4294967296) : x - x / 16 % 16 * 16 + y / 16 % 16 * 16 = bits .or .u32 (bits .andNot .u32 x 240) (bits .and .u32 y 240) := by
  obtain ⟨n, rfl⟩ := Int.eq_ofNat_of_zero_le h0
  obtain ⟨m, rfl⟩ := Int.eq_ofNat_of_zero_le h2
  have e1 : bits .andNot .u32 (n : Int) 240 = ((n &&& 4294967055 : Nat) : Int) := by
    rw [u32_andNot _ _ h0 h1 (by omega) (by omega)]; rfl
  have e2 : bits .and .u32 (m : Int) 240 = ((m &&& 240 : Nat) : Int) := by
    rw [u32_and _ _ h2 h3 (by omega) (by omega)]; rfl
  have l1 : n &&& 4294967055 ≤ 4294967055 := Nat.and_le_right
  have l2 : m &&& 240 ≤ 240 := Nat.and_le_right
  rw [e1, e2, u32_or _ _ (by omega) (by omega) (by omega) (by omega)]
  simp only [Int.toNat_natCast]
  rw [nat_not240 n (by omega), nat_240]
  have e3 : n - n / 16 % 16 * 16 = 256 * (n / 256) + n % 16 := by omega
  rw [e3, nat_or _ _ _ (by omega) (by omega)]
  omega
theorem user_is {x : Int} (h0 : 0 ≤ x) (h1 : x < 4294967296) : (bits .and .u32 x 1 != 0) = (x % 2 == 1) := by
  obtain ⟨n, rfl⟩ := Int.eq_ofNat_of_zero_le h0
  rw [u32_and _ _ h0 h1 (by omega) (by omega)]
  simp only [Int.toNat_natCast, show (1 : Int).toNat = 1 from rfl]
  rw [Nat.and_one_is_mod]
  have h : n % 2 = 0 ∨ n % 2 = 1 := by omega
  rcases h with h | h <;> rw [h] <;> simp <;> omega

set_option maxHeartbeats 1000000 in
theorem masked_c (x : Int) (w : World) (h0 : 0 ≤ x) (h1 : x < 4294967296) : Calls Try.prog 23 #[.int .u32 x] w fun e w' => e = .returned (.int .u32 (bits .and .u32 x 247)) ∧ w = w' := by
  have HB := Lib.hid (ref_247 h0 h1)
  have b1 : x % 8 + x / 16 % 16 * 16 < 4294967296 := by omega
  go_enter Try.func23, Try.ntmps23
  go_wp2
  go_ret
  exact ⟨by show Ending.returned (.int .u32 (x % 8 + x / 16 % 16 * 16)) = _; rw [HB.out], rfl⟩

theorem is_yes (op : Int) (w : World) (h : senseOp op) : Calls Try.prog 21 #[.int .u8 op] w fun e w' => e = .returned (.bool true) ∧ w = w' := by
  rcases h with rfl | rfl | rfl | rfl | rfl | rfl | rfl | rfl | rfl
  all_goals
    go_enter Try.func21, Try.ntmps21
    go_wp2
    go_ret
    exact ⟨rfl, rfl⟩
theorem is_no (op : Int) (w : World) (h0 : 0 ≤ op) (h1 : op < 256) (h : ¬ senseOp op) : Calls Try.prog 21 #[.int .u8 op] w fun e w' => e = .returned (.bool false) ∧ w = w' := by
  have hc : op < 1 ∨ (4 ≤ op ∧ op < 96) ∨ 102 ≤ op := by unfold senseOp at h; omega
  clear h
  rcases hc with c | ⟨c, d⟩ | c
  · have d1 : ¬ 1 ≤ op := by omega
    have d2 : ¬ 96 ≤ op := by omega
    go_enter Try.func21, Try.ntmps21
    go_wp2
    go_ret
    exact ⟨rfl, rfl⟩
  · have d1 : 1 ≤ op := by omega
    have d2 : ¬ op ≤ 3 := by omega
    have d3 : ¬ 96 ≤ op := by omega
    go_enter Try.func21, Try.ntmps21
    go_wp2
    go_ret
    exact ⟨rfl, rfl⟩
  · have d1 : 1 ≤ op := by omega
    have d2 : ¬ op ≤ 3 := by omega
    have d3 : 96 ≤ op := by omega
    have d4 : ¬ op ≤ 101 := by omega
    go_enter Try.func21, Try.ntmps21
    go_wp2
    go_ret
    exact ⟨rfl, rfl⟩
end Go.Proofs.Ytlgnhjalhfednaa
