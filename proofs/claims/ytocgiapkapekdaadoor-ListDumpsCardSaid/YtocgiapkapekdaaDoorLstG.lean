/- The document's digits and Dump. -/
import Derived.Test.YtocgiapkapekdaaDoorLstF
namespace Go.Proofs.YtocgiapkapekdaaDoor
open Go.RowKit
set_option linter.unusedSimpArgs false
set_option linter.unusedVariables false
set_option maxRecDepth 100000

theorem hx_ext (x : Nat) (h : x < 16) : hxS.extract x (x + 1) = sH [hxD x] := by
  have key : ∀ i : Fin 16, (hxS.extract i.val (i.val + 1)).data.toList = [hxD i.val] := by decide +kernel
  apply ba_extH
  rw [key ⟨x, h⟩]
theorem hexL_succ (n k : Nat) : hexL n (k + 1) = hxD (n / 16 ^ k % 16) :: hexL n k := by
  unfold hexL
  rw [List.range_succ_eq_map, List.map_cons, List.map_map]
  congr 1
  apply List.map_congr_left
  intro j hj
  simp only [Function.comp]
  congr 4
  omega
theorem sH_app (a b : List UInt8) : sH a ++ sH b = sH (a ++ b) := by apply ba_extH; simp
theorem sH_size (a : List UInt8) : (sH a).size = a.length := by show a.toArray.size = _; simp

set_option maxHeartbeats 4000000 in
theorem digits_c (n d : Nat) (hn : n < 4294967296) (hd : d ≤ 100) (w : World) :
    Calls Tryd.prog 26 #[.int .u32 (n : Int), .int .i64 (d : Int)] w fun e w' => e = .returned (.string (sH (hexL n d))) ∧ w' = w := by
  go_enter Tryd.func26, Tryd.ntmps26
  go_wp2_with fail
  go_loopg [0, 5, 6] d (fun gk v0 v5 vk wr => ∃ (k : Nat), gk + k = d ∧ vk = .int .i64 (k : Int) ∧ v0 = .int .u32 ((n / 16 ^ k : Nat) : Int) ∧ (∃ s : ByteArray, v5 = .string s ∧ Hid (s = sH (hexL n k)) ∧ s.size = k) ∧ wr = w)
  case atStart => exact ⟨0, by omega, rfl, by simp, ⟨_, rfl, Lib.hid rfl, rfl⟩, rfl⟩
  case round =>
    obtain ⟨k, hk, rfl, rfl, ⟨s, rfl, HS, hsz⟩, rfl⟩ := hrel
    have hm : n / 16 ^ k < 4294967296 := Nat.lt_of_le_of_lt (Nat.div_le_self _ _) hn
    by_cases c : k < d
    · have i1 : (k : Int) < (d : Int) := by omega
      have hd2 : n / 16 ^ (k + 1) = n / 16 ^ k / 16 := by rw [Nat.pow_succ, Nat.div_div_eq_div_mul]
      have hsu := hexL_succ n k
      have HD2 := Lib.hid hd2
      have HSU := Lib.hid hsu
      clear hd2 hsu
      generalize n / 16 ^ k = m at hm HD2 HSU
      have hmod : m % 16 < 16 := Nat.mod_lt _ (by decide)
      have he := hx_ext (m % 16) hmod
      have z1 : (sH [hxD (m % 16)]).size = 1 := rfl
      have hw : ((m : Int) % 16 + 1) % 4294967296 = (m : Int) % 16 + 1 := by omega
      have e1 : (((m : Int) % 16).toNat) = m % 16 := by omega
      have e2 : (((m : Int) % 16 + 1).toNat) = m % 16 + 1 := by omega
      have j1 : (m : Int) % 16 + 1 ≤ 16 := by omega
      have j2 : 0 ≤ (m : Int) % 16 := by omega
      have j3 : (m : Int) % 16 ≤ (m : Int) % 16 + 1 := by omega
      have j4 : 0 ≤ (m : Int) % 16 + 1 := by omega
      go_wp2_with fail
      go_roundg (gk - 1)
      case measure => omega
      case rel => exact ⟨k + 1, by omega, by go_num, by rw [HD2.out]; simp, ⟨_, rfl, Lib.hid (by rw [HSU.out, HS.out, sH_app]; rfl), by rw [ByteArray.size_append, hsz, z1]; omega⟩, rfl⟩
    · have i1 : ¬ (k : Int) < (d : Int) := by omega
      obtain rfl : k = d := by omega
      have hs := Lib.hid HS.out
      go_wp2_with fail
      go_ret
      exact ⟨by rw [hs.out]; rfl, rfl⟩
end Go.Proofs.YtocgiapkapekdaaDoor
