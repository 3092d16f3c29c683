/- The plain law of IsaTorn and IsaBack: what Decode tells of an instruction's own bytes. No program in sight. -/
import Derived.Test.YtnoeeediicaooaaGreatDoorIsaH
import Derived.Test.YtnoeeediicaooaaGreatDoorIsaE
namespace Go.Proofs.YtnoeeediicaooaaGreatDoor.Isa
open Go.RowKit

theorem encL_n {op a b imm : Int} {host : Bool} (hm : mayB (fm op host) a b imm = true) : ((encL (fm op host) op a b imm).length : Int) = (fm op host).n := by
  rcases fm_is op host with h | h | h | h | h | h | h | h | h | h
  all_goals
    rw [h] at hm ⊢
    simp [encL, mayB] at hm ⊢

theorem encL_bytes {op a b imm : Int} {host : Bool} (h0 : 0 ≤ op) (h1 : op < 256) (h2 : 0 ≤ a) (h4 : 0 ≤ b) (hm : mayB (fm op host) a b imm = true) : ∀ x ∈ encL (fm op host) op a b imm, 0 ≤ x ∧ x < 256 := by
  rcases fm_is op host with h | h | h | h | h | h | h | h | h | h
  all_goals
    rw [h] at hm ⊢
    simp [encL, mayB, fitsB] at hm ⊢
    try omega

theorem torn_law {op a b imm : Int} {host : Bool} (hm : mayB (fm op host) a b imm = true) (n : Nat) (hn : n < (encL (fm op host) op a b imm).length) :
    decR host ((encL (fm op host) op a b imm).take n) = ⟨0, 0, 0, 0, 0, 20⟩ := by
  have hl := encL_n hm
  cases n with
  | zero => simp [decR]
  | succ m =>
    have ht : (encL (fm op host) op a b imm).take (m + 1) = op :: ((encL (fm op host) op a b imm).tail).take m := by simp [encL]
    have hlen : ((encL (fm op host) op a b imm).take (m + 1)).length = m + 1 := by simp; omega
    rw [ht] at hlen ⊢
    unfold decR
    simp only
    rw [if_neg (by omega), if_pos (by rw [hlen]; omega)]
end Go.Proofs.YtnoeeediicaooaaGreatDoor.Isa
