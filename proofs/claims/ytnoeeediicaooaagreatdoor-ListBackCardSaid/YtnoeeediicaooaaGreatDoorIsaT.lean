/- The plain laws of IsaOnce and IsaBack: what was decoded is encoded to just its bytes, and back. No program in sight. -/
import Derived.Test.YtnoeeediicaooaaGreatDoorIsaR
import Derived.Test.YtnoeeediicaooaaGreatDoorIsaE
namespace Go.Proofs.YtnoeeediicaooaaGreatDoor.Isa
open Go.RowKit
set_option linter.unusedSimpArgs false
set_option linter.unusedVariables false

/-- What was decoded may be, and its bytes are just those that it was read from. -/
theorem once_law {host : Bool} {L : List Int} (hb : ∀ x ∈ L, 0 ≤ x ∧ x < 256) (he : (decR host L).err = 0) :
    mayB (fm (decR host L).op host) (decR host L).a (decR host L).b (decR host L).imm = true ∧ encL (fm (decR host L).op host) (decR host L).op (decR host L).a (decR host L).b (decR host L).imm = L.take (decR host L).n.toNat ∧
      1 ≤ (decR host L).n ∧ (decR host L).n ≤ (L.length : Int) ∧ 0 ≤ (decR host L).op ∧ (decR host L).op < 256 ∧ 0 ≤ (decR host L).a ∧ (decR host L).a < 256 ∧ 0 ≤ (decR host L).b ∧ (decR host L).b < 256 ∧ -2147483648 ≤ (decR host L).imm ∧ (decR host L).imm < 2147483648 := by
  cases L with
  | nil => simp [decR] at he
  | cons x T =>
    have hx := hb x (by simp)
    have hT : ∀ y ∈ T, 0 ≤ y ∧ y < 256 := fun y hy => hb y (by simp [hy])
    clear hb
    have hF := fm_is x host
    by_cases c1 : (fm x host).n = 0
    · simp [decR, c1] at he
    by_cases c2 : ((x :: T).length : Int) < (fm x host).n
    · simp only [decR, if_neg c1, if_pos c2] at he; cases he
    by_cases c3 : mayB (fm x host) (regA (fm x host) (T.getD 0 0)) (regB (fm x host) (T.getD 0 0)) (numL (fm x host) (T.getD 0 0) (T.getD 1 0) (T.getD 2 0) (T.getD 3 0) (T.getD 4 0)) = true
    · have hd : decR host (x :: T) = ⟨x, regA (fm x host) (T.getD 0 0), regB (fm x host) (T.getD 0 0), numL (fm x host) (T.getD 0 0) (T.getD 1 0) (T.getD 2 0) (T.getD 3 0) (T.getD 4 0), (fm x host).n, 0⟩ := by
        simp only [decR, if_neg c1, if_neg c2, if_pos c3]
      rw [hd]
      refine ⟨c3, ?_⟩
      clear hd he c3
      simp only
      generalize fm x host = f at hF c1 c2 ⊢
      rcases hF with rfl | rfl | rfl | rfl | rfl | rfl | rfl | rfl | rfl | rfl
      · exact absurd rfl c1
      · simp [encL, regA, regB, numL, numF]; omega
      all_goals
        cases T with
        | nil => simp at c2
        | cons y1 T =>
          have h1 := hT y1 (by simp)
          first
            | (simp [encL, regA, regB, numL, numF]; omega)
            | (simp [encL, regA, regB, numL, numF]; split <;> omega)
            | (cases T with
               | nil => simp at c2
               | cons y2 T =>
                 have h2 := hT y2 (by simp)
                 first
                   | (simp [encL, regA, regB, numL, numF]; omega)
                   | (simp [encL, regA, regB, numL, numF]; split <;> omega)
                   | (cases T with
                      | nil => simp at c2
                      | cons y3 T =>
                        cases T with
                        | nil => simp at c2
                        | cons y4 T =>
                          cases T with
                          | nil => simp at c2
                          | cons y5 T =>
                            have h3 := hT y3 (by simp)
                            have h4 := hT y4 (by simp)
                            have h5 := hT y5 (by simp)
                            first
                              | (simp [encL, regA, regB, numL, numF]; omega)
                              | (simp [encL, regA, regB, numL, numF]; split <;> omega)))
    · simp only [decR, if_neg c1, if_neg c2, if_neg c3] at he; cases he

/-- What was encoded is decoded as it was, whatever stands behind it. -/
theorem back_law {op a b imm : Int} {host : Bool} (h2 : 0 ≤ a) (h4 : 0 ≤ b) (h6 : -2147483648 ≤ imm) (h7 : imm < 2147483648) (hm : mayB (fm op host) a b imm = true) (M : List Int) :
    decR host (encL (fm op host) op a b imm ++ M) = ⟨op, a, b, imm, (fm op host).n, 0⟩ := by
  have hF := fm_is op host
  obtain ⟨T, hT, hr⟩ : ∃ T, encL (fm op host) op a b imm ++ M = op :: T ∧ (fm op host).n ≤ ((op :: T).length : Int) ∧ regA (fm op host) (T.getD 0 0) = a ∧ regB (fm op host) (T.getD 0 0) = b ∧ numL (fm op host) (T.getD 0 0) (T.getD 1 0) (T.getD 2 0) (T.getD 3 0) (T.getD 4 0) = imm := by
    generalize fm op host = f at hF hm ⊢
    refine ⟨_, rfl, ?_⟩
    rcases hF with rfl | rfl | rfl | rfl | rfl | rfl | rfl | rfl | rfl | rfl
    all_goals
      simp [mayB, fitsB] at hm
      try simp [encL, regA, regB, numL, numF]
      try first
        | omega
        | (split <;> omega)
  have hn : (fm op host).n ≠ 0 := by
    intro h
    simp [mayB, h] at hm
  obtain ⟨hl, ha, hb, hi⟩ := hr
  rw [hT]
  unfold decR
  simp only
  rw [if_neg hn, if_neg (by omega), ha, hb, hi, if_pos hm]

/-- What was not decoded tells nothing but the error. -/
theorem none_law {host : Bool} {L : List Int} (he : (decR host L).err ≠ 0) : decR host L = ⟨0, 0, 0, 0, 0, (decR host L).err⟩ := by
  cases L with
  | nil => rfl
  | cons x T =>
    simp only [decR] at he ⊢
    split
    · rfl
    · rename_i c1
      rw [if_neg c1] at he
      split
      · rfl
      · rename_i c2
        rw [if_neg c2] at he
        split
        · rename_i c3
          rw [if_pos c3] at he
          exact absurd rfl he
        · rfl
end Go.Proofs.YtnoeeediicaooaaGreatDoor.Isa
