/- Plain laws of texts: two instructions with one text are one. -/
import Derived.Test.YtgfljokamgbcaaaGreatDoorTxtB
namespace Go.Proofs.YtgfljokamgbcaaaGreatDoor
open Go.RowKit
set_option linter.unusedSimpArgs false
set_option linter.unusedVariables false
set_option maxRecDepth 100000

theorem u8_48 {k : Nat} (h : k < 10) : (UInt8.ofNat (48 + k)).toNat = 48 + k := by
  rw [UInt8.toNat_ofNat']
  exact Nat.mod_eq_of_lt (by omega)
theorem dec_digits (u : Nat) : (∀ c ∈ Lib.decDigits u, 48 ≤ c.toNat ∧ c.toNat ≤ 57) ∧ Lib.decDigits u ≠ [] := by
  induction u using Nat.strongRecOn with
  | _ u ih =>
    rw [Lib.decDigits.eq_def]
    split
    · rename_i h
      refine ⟨fun c hc => ?_, by simp⟩
      simp only [List.mem_cons, List.not_mem_nil, or_false] at hc
      subst hc; rw [u8_48 h]; omega
    · rename_i h
      refine ⟨fun c hc => ?_, by simp⟩
      rw [List.mem_append] at hc
      rcases hc with hc | hc
      · exact (ih (u / 10) (by omega)).1 c hc
      · simp only [List.mem_cons, List.not_mem_nil, or_false] at hc
        subst hc; rw [u8_48 (by omega)]; omega
/-- What the forms say of a row of the table. -/
def Nm.fit2 (n : Nm) : Bool := decide ((Isa.fm n.op true).a = if n.a = 0 then 0 else 1) && decide ((Isa.fm n.op true).b = if n.b = 0 then 0 else 1) && (n.imm || decide ((Isa.fm n.op true).k = 0)) && n.word.all (fun c => decide (c ≠ 32)) && nmTab.all (fun m => decide (m.word = n.word → m = n))
theorem nm_fit2 : nmTab.all Nm.fit2 = true := by decide +kernel
theorem nm_words {n : Nm} (h : n ∈ nmTab) : (Isa.fm n.op true).a = (if n.a = 0 then 0 else 1) ∧ (Isa.fm n.op true).b = (if n.b = 0 then 0 else 1) ∧ (n.imm = true ∨ (Isa.fm n.op true).k = 0) ∧ (∀ c ∈ n.word, c ≠ 32) ∧ ∀ m ∈ nmTab, m.word = n.word → m = n := by
  have := List.all_eq_true.1 nm_fit2 n h
  simp only [Nm.fit2, Bool.and_eq_true, Bool.or_eq_true, decide_eq_true_eq, List.all_eq_true] at this
  exact ⟨this.1.1.1.1, this.1.1.1.2, this.1.1.2, fun c hc => by simpa using this.1.2 c hc, fun m hm => by simpa using this.2 m hm⟩

/-- What stands behind the word. -/
def Nm.rest (n : Nm) (a b imm : Int) : List UInt8 := regL n.a a ++ regL n.b b ++ numL n.imm imm
end Go.Proofs.YtgfljokamgbcaaaGreatDoor
