/- Plain facts on the forms of instructions: what the program's form and the document's form of an operation both are, when an instruction may be, and its bytes. No program in sight. -/

namespace Go.Proofs.YtgfljokamgbcaaaGreatDoor.Isa

/-- What an operation's instructions have: bytes in all, whether A and B (1 or 0), bytes of Imm, whether Imm may be below 0 (1 or 0). -/
structure Fm where
  n : Int
  a : Int
  b : Int
  k : Int
  s : Int

/-- The form of an operation. -/
def fm (op : Int) (host : Bool) : Fm :=
  if op ≤ 3 then ⟨1, 0, 0, 0, 0⟩
  else if (16 ≤ op ∧ op ≤ 31) ∨ op = 58 ∨ (98 ≤ op ∧ op ≤ 101) then ⟨2, 1, 1, 0, 0⟩
  else if op = 73 ∨ op = 74 ∨ op = 56 ∨ op = 57 ∨ op = 96 ∨ op = 97 then ⟨2, 1, 0, 0, 0⟩
  else if op = 80 ∨ (op = 112 ∧ host = true) then ⟨2, 0, 0, 1, 0⟩
  else if op = 33 then ⟨3, 1, 0, 1, 1⟩
  else if 48 ≤ op ∧ op ≤ 55 then ⟨3, 1, 1, 1, 1⟩
  else if 64 ≤ op ∧ op ≤ 72 then ⟨3, 0, 0, 2, 1⟩
  else if op = 113 ∧ host = true then ⟨3, 0, 0, 2, 0⟩
  else if op = 32 then ⟨6, 1, 0, 4, 1⟩
  else ⟨0, 0, 0, 0, 0⟩

/-- The ten forms that there are. -/
def fmIs (f : Fm) : Prop :=
  f = ⟨0, 0, 0, 0, 0⟩ ∨ f = ⟨1, 0, 0, 0, 0⟩ ∨ f = ⟨2, 1, 1, 0, 0⟩ ∨ f = ⟨2, 1, 0, 0, 0⟩ ∨ f = ⟨2, 0, 0, 1, 0⟩ ∨ f = ⟨3, 1, 0, 1, 1⟩ ∨ f = ⟨3, 1, 1, 1, 1⟩ ∨ f = ⟨3, 0, 0, 2, 1⟩ ∨ f = ⟨3, 0, 0, 2, 0⟩ ∨ f = ⟨6, 1, 0, 4, 1⟩

theorem fm_is (op : Int) (host : Bool) : fmIs (fm op host) := by
  unfold fm fmIs
  repeat' (split; · simp)
  simp

/-- The classes of operations: in each all tests of the program and of the document are decided. -/
def OpIs (op : Int) (host : Bool) (f : Fm) : Prop :=
  (op ≤ 3 ∧ f = ⟨1, 0, 0, 0, 0⟩) ∨ (16 ≤ op ∧ op ≤ 31 ∧ f = ⟨2, 1, 1, 0, 0⟩) ∨ (op = 58 ∧ f = ⟨2, 1, 1, 0, 0⟩) ∨ (98 ≤ op ∧ op ≤ 101 ∧ f = ⟨2, 1, 1, 0, 0⟩) ∨
  (op = 73 ∧ f = ⟨2, 1, 0, 0, 0⟩) ∨ (op = 74 ∧ f = ⟨2, 1, 0, 0, 0⟩) ∨ (op = 56 ∧ f = ⟨2, 1, 0, 0, 0⟩) ∨ (op = 57 ∧ f = ⟨2, 1, 0, 0, 0⟩) ∨ (op = 96 ∧ f = ⟨2, 1, 0, 0, 0⟩) ∨ (op = 97 ∧ f = ⟨2, 1, 0, 0, 0⟩) ∨
  (op = 80 ∧ f = ⟨2, 0, 0, 1, 0⟩) ∨ (op = 112 ∧ host = true ∧ f = ⟨2, 0, 0, 1, 0⟩) ∨ (op = 33 ∧ f = ⟨3, 1, 0, 1, 1⟩) ∨ (48 ≤ op ∧ op ≤ 55 ∧ f = ⟨3, 1, 1, 1, 1⟩) ∨
  (64 ≤ op ∧ op ≤ 71 ∧ f = ⟨3, 0, 0, 2, 1⟩) ∨ (op = 72 ∧ f = ⟨3, 0, 0, 2, 1⟩) ∨ (op = 113 ∧ host = true ∧ f = ⟨3, 0, 0, 2, 0⟩) ∨ (op = 32 ∧ f = ⟨6, 1, 0, 4, 1⟩) ∨
  (op = 112 ∧ host = false ∧ f = ⟨0, 0, 0, 0, 0⟩) ∨ (op = 113 ∧ host = false ∧ f = ⟨0, 0, 0, 0, 0⟩) ∨
  (4 ≤ op ∧ op ≤ 15 ∧ f = ⟨0, 0, 0, 0, 0⟩) ∨ (34 ≤ op ∧ op ≤ 47 ∧ f = ⟨0, 0, 0, 0, 0⟩) ∨ (59 ≤ op ∧ op ≤ 63 ∧ f = ⟨0, 0, 0, 0, 0⟩) ∨ (75 ≤ op ∧ op ≤ 79 ∧ f = ⟨0, 0, 0, 0, 0⟩) ∨
  (81 ≤ op ∧ op ≤ 95 ∧ f = ⟨0, 0, 0, 0, 0⟩) ∨ (102 ≤ op ∧ op ≤ 111 ∧ f = ⟨0, 0, 0, 0, 0⟩) ∨ (114 ≤ op ∧ f = ⟨0, 0, 0, 0, 0⟩)

theorem op_is (op : Int) (host : Bool) : OpIs op host (fm op host) := by
  unfold OpIs fm
  by_cases c : op ≤ 3 ∨ (16 ≤ op ∧ op ≤ 31) ∨ op = 58 ∨ (98 ≤ op ∧ op ≤ 101) ∨ op = 73 ∨ op = 74 ∨ op = 56 ∨ op = 57 ∨ op = 96 ∨ op = 97 ∨ op = 80 ∨ op = 33 ∨ (48 ≤ op ∧ op ≤ 55) ∨ (64 ≤ op ∧ op ≤ 71) ∨ op = 72 ∨ op = 32
  · rcases c with c | c | c | c | c | c | c | c | c | c | c | c | c | c | c | c
    · rw [if_pos c]; simp [c]
    · rw [if_neg (by omega), if_pos (by omega)]; simp [c]
    · rw [if_neg (by omega), if_pos (by omega)]; simp [c]
    · rw [if_neg (by omega), if_pos (by omega)]; simp [c]
    · rw [if_neg (by omega), if_neg (by omega), if_pos (by omega)]; simp [c]
    · rw [if_neg (by omega), if_neg (by omega), if_pos (by omega)]; simp [c]
    · rw [if_neg (by omega), if_neg (by omega), if_pos (by omega)]; simp [c]
    · rw [if_neg (by omega), if_neg (by omega), if_pos (by omega)]; simp [c]
    · rw [if_neg (by omega), if_neg (by omega), if_pos (by omega)]; simp [c]
    · rw [if_neg (by omega), if_neg (by omega), if_pos (by omega)]; simp [c]
    · rw [if_neg (by omega), if_neg (by omega), if_neg (by omega), if_pos (.inl c)]; simp [c]
    · rw [if_neg (by omega), if_neg (by omega), if_neg (by omega), if_neg (by omega), if_pos (by omega)]; simp [c]
    · rw [if_neg (by omega), if_neg (by omega), if_neg (by omega), if_neg (by omega), if_neg (by omega), if_pos (by omega)]; simp [c]
    · rw [if_neg (by omega), if_neg (by omega), if_neg (by omega), if_neg (by omega), if_neg (by omega), if_neg (by omega), if_pos (by omega)]; simp [c]
    · rw [if_neg (by omega), if_neg (by omega), if_neg (by omega), if_neg (by omega), if_neg (by omega), if_neg (by omega), if_pos (by omega)]; simp [c]
    · rw [if_neg (by omega), if_neg (by omega), if_neg (by omega), if_neg (by omega), if_neg (by omega), if_neg (by omega), if_neg (by omega), if_neg (by omega), if_pos (by omega)]; simp [c]
  · rw [if_neg (by omega), if_neg (by omega), if_neg (by omega)]
    by_cases h12 : op = 112
    · cases host
      · rw [if_neg (by simp [h12]), if_neg (by omega), if_neg (by omega), if_neg (by omega), if_neg (by omega), if_neg (by omega)]; simp [h12]
      · rw [if_pos (.inr ⟨h12, rfl⟩)]; simp [h12]
    · rw [if_neg (by omega), if_neg (by omega), if_neg (by omega), if_neg (by omega)]
      by_cases h13 : op = 113
      · cases host
        · rw [if_neg (by simp), if_neg (by omega)]; simp [h13]
        · rw [if_pos ⟨h13, rfl⟩]; simp [h13]
      · rw [if_neg (by omega), if_neg (by omega)]
        simp only [and_true]
        simp
        omega

/-- May a number stand in a form's Imm? -/
def fitsB (f : Fm) (imm : Int) : Bool :=
  if f.k = 4 then true else if f.k = 0 then decide (imm = 0)
  else if f.s = 1 then (if f.k = 1 then decide (-128 ≤ imm ∧ imm < 128) else decide (-32768 ≤ imm ∧ imm < 32768))
  else (if f.k = 1 then decide (0 ≤ imm ∧ imm < 256) else decide (0 ≤ imm ∧ imm < 65536))

/-- May an instruction be, of this form? -/
def mayB (f : Fm) (a b imm : Int) : Bool := decide (f.n ≠ 0) && (decide (a ≤ 7 * f.a) && (decide (b ≤ 7 * f.b) && fitsB f imm))
end Go.Proofs.YtgfljokamgbcaaaGreatDoor.Isa
