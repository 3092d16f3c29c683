/- Plain facts on what Decode hands back (no program in sight but isa's own names). -/
import Derived.Test.YtlimejnehfglpaaIsaH
namespace Go.Proofs.Ytlimejnehfglpaa

theorem fm_same {x : Int} (h1 : x ≠ 112) (h2 : x ≠ 113) : fm x false = fm x true := by
  simp [fm, h1, h2]

theorem decR_same {x : Int} {T : List Int} (h1 : x ≠ 112) (h2 : x ≠ 113) : decR false (x :: T) = decR true (x :: T) := by
  unfold decR
  simp only [fm_same h1 h2]

theorem decR_guest {x : Int} {T : List Int} (h : x = 112 ∨ x = 113) : decR false (x :: T) = ⟨0, 0, 0, 0, 0, 21⟩ := by
  have hf : (fm x false).n = 0 := by rcases h with rfl | rfl <;> decide
  unfold decR
  simp only [hf, if_true]

/-- What is decoded has the first byte for its operation. -/
theorem decR_op {host : Bool} {x : Int} {T : List Int} (h : (decR host (x :: T)).err = 0) : (decR host (x :: T)).op = x := by
  unfold decR at h ⊢
  simp only at h ⊢
  split at h
  · simp at h
  · split at h
    · simp at h
    · split at h
      · rename_i h1 h2 h3
        rw [if_neg h1, if_neg h2, if_pos h3]
      · simp at h

/-- The guests' law. -/
theorem guests_law (L : List Int) : ((decR false L).err = 0 ∧ decR true L = decR false L ∧ (decR false L).op ≠ 112 ∧ (decR false L).op ≠ 113) ∨
    ((decR false L).err ≠ 0 ∧ (decR true L).err = 0 ∧ ((decR true L).op = 112 ∨ (decR true L).op = 113)) ∨
    ((decR false L).err ≠ 0 ∧ (decR true L).err ≠ 0 ∧ ((decR false L).err = (decR true L).err ∨ ∃ x T, L = x :: T ∧ (x = 112 ∨ x = 113))) := by
  cases L with
  | nil => exact .inr (.inr ⟨by decide, by decide, .inl rfl⟩)
  | cons x T =>
    by_cases h : x = 112 ∨ x = 113
    · have hg := decR_guest (T := T) h
      by_cases he : (decR true (x :: T)).err = 0
      · refine .inr (.inl ⟨by rw [hg]; decide, he, ?_⟩)
        rw [decR_op he]; exact h
      · exact .inr (.inr ⟨by rw [hg]; decide, he, .inr ⟨x, T, rfl, h⟩⟩)
    · have hs := decR_same (T := T) (x := x) (fun e => h (.inl e)) (fun e => h (.inr e))
      by_cases he : (decR false (x :: T)).err = 0
      · refine .inl ⟨he, hs.symm, ?_, ?_⟩
        · rw [decR_op he]; exact fun e => h (.inl e)
        · rw [decR_op he]; exact fun e => h (.inr e)
      · exact .inr (.inr ⟨he, by rw [← hs]; exact he, .inl (by rw [hs])⟩)
end Go.Proofs.Ytlimejnehfglpaa
