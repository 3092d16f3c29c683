/- A block's code, plainly: which instructions it has, and that they may be. -/
import Derived.Test.YtnmgfckefofcpaaMadA
import Derived.Test.YtnmgfckefofcpaaMadO
import Derived.Test.YtnmgfckefofcpaaMadK
namespace Go.Proofs.Ytnmgfckefofcpaa
open Go.RowKit
set_option linter.unusedSimpArgs false
set_option linter.unusedVariables false

def zI : InsR := ⟨0, 0, 0, 0, by omega⟩
def endsB (op : Int) : Bool := decide (3 ≤ (knownF op).cls)
def jumpB (op : Int) : Bool := decide (op = 64) || decide (op = 72)
def branchB (op : Int) : Bool := decide (65 ≤ op) && decide (op ≤ 71)
/-- Is an operation one with which a block of that end ends? -/
def fitsEnd (op en : Int) (ends : Bool) : Bool := if en = 1 then !ends else if en = 2 then jumpB op else if en = 3 then branchB op else if en = 4 then ends && (!jumpB op && !branchB op) else false
def okIns (n : Nat) (en : Int) (k : Nat) (i : InsR) : Bool :=
  Isa.mayB (Isa.fm i.op false) i.a i.b i.imm && (!(decide (k + 1 < n) && endsB i.op) && !(decide (k + 1 = n) && !fitsEnd i.op en (endsB i.op)))
def mayFrom (n : Nat) (en : Int) : List InsR → Nat → Bool
  | [], _ => true
  | i :: l, k => okIns n en k i && mayFrom n en l (k + 1)
def mayBlk (b : BlkR) : Bool := decide (1 ≤ b.ins.length) && (decide (b.ins.length ≤ 32) && (decide (b.ats.length = b.ins.length) && mayFrom b.ins.length b.en b.ins 0))

def bodyIt (b : BlkR) (k : Nat) : It := ⟨(b.ins.getD k zI).op, (b.ins.getD k zI).a, (b.ins.getD k zI).b, (b.ins.getD k zI).imm, b.ats.getD k 0, (k : Int), -1⟩
/-- A way out. -/
def stubIt (n to x : Int) : List It := [⟨112, 0, 0, n, to, n, -1⟩, ⟨113, 0, 0, x, to, 0, x⟩]
def asI32 (n : Int) : Int := if n < 2147483648 then n else n - 4294967296
def endIt (b : BlkR) (n : Nat) (last : InsR) (at' : Int) (x : Int) : List It :=
  if b.en = 1 then stubIt (n : Int) b.nx x
  else if b.en = 2 then (if last.op = 72 then [⟨32, 6, 0, asI32 b.nx, at', (n : Int) - 1, -1⟩] else []) ++ stubIt (n : Int) b.to x
  else if b.en = 3 then [⟨last.op, 0, 0, 5, at', (n : Int) - 1, -1⟩] ++ stubIt (n : Int) b.nx x ++ stubIt (n : Int) b.to (x + 1)
  else stubIt ((n : Int) - 1) at' x
def bodyN (b : BlkR) : Nat := if b.en = 1 then b.ins.length else b.ins.length - 1
def bodyL (b : BlkR) (k : Nat) : List It := (List.range k).map (bodyIt b)
def itemsOf (b : BlkR) (x : Int) : List It := bodyL b (bodyN b) ++ endIt b b.ins.length (b.ins.getD (b.ins.length - 1) zI) (b.ats.getD (b.ins.length - 1) 0) x

theorem mayFrom_at {n : Nat} {en : Int} (l : List InsR) : ∀ (k j : Nat) (i : InsR), mayFrom n en l k = true → l[j]? = some i → okIns n en (k + j) i = true := by
  induction l with
  | nil => intro k j i _ hi; simp at hi
  | cons x l ih =>
    intro k j i h hi
    unfold mayFrom at h
    rw [Bool.and_eq_true] at h
    cases j with
    | zero =>
      simp at hi
      subst hi
      exact h.1
    | succ j =>
      have := ih (k + 1) j i h.2 (by simpa using hi)
      rwa [show k + 1 + j = k + (j + 1) by omega] at this
theorem bodyL_len (b : BlkR) (k : Nat) : (bodyL b k).length = k := by simp [bodyL]
theorem bodyL_snoc (b : BlkR) (k : Nat) : bodyL b (k + 1) = bodyL b k ++ [bodyIt b k] := by simp [bodyL, List.range_succ]

theorem mayBlk_n {b : BlkR} (h : mayBlk b = true) : 1 ≤ b.ins.length ∧ b.ins.length ≤ 32 ∧ b.ats.length = b.ins.length ∧ mayFrom b.ins.length b.en b.ins 0 = true := by
  simpa [mayBlk] using h
theorem mayBlk_at {b : BlkR} (h : mayBlk b = true) {k : Nat} (hk : k < b.ins.length) : okIns b.ins.length b.en k (b.ins.getD k zI) = true := by
  obtain ⟨-, -, -, h4⟩ := mayBlk_n h
  have := mayFrom_at _ 0 k (b.ins.getD k zI) h4 (by simp [List.getD, List.getElem?_eq_getElem hk])
  simpa using this
theorem okIns_may {n : Nat} {en : Int} {k : Nat} {i : InsR} (h : okIns n en k i = true) : Isa.mayB (Isa.fm i.op false) i.a i.b i.imm = true := by
  simp only [okIns, Bool.and_eq_true] at h
  exact h.1
theorem guest_ok {i : InsR} {pc d : Int} (h : Isa.mayB (Isa.fm i.op false) i.a i.b i.imm = true) : It.Ok ⟨i.op, i.a, i.b, i.imm, pc, d, -1⟩ := by
  obtain ⟨h1, h2, h3⟩ := fm_guest h
  obtain ⟨o0, o1, a0, a1, b0, b1, m0, m1⟩ := i.ok
  exact ⟨o0, o1, a0, b0, m0, m1, by simp only; rw [h1]; exact h, by simp [fitsR, h3]⟩
theorem stub_ok {n to x : Int} (h0 : 0 ≤ n) (h1 : n < 256) (h2 : 0 ≤ x) (h3 : x < 65536) : ∀ y ∈ stubIt n to x, y.Ok := by
  intro y hy
  rcases List.mem_cons.1 hy with rfl | hy
  · exact ⟨by simp, by simp, by simp, by simp, by simp only; omega, by simp only; omega, by simp [Isa.mayB, Isa.fm, Isa.fitsB]; omega, by simp [fitsR]⟩
  · rcases List.mem_cons.1 hy with rfl | hy
    · exact ⟨by simp, by simp, by simp, by simp, by simp only; omega, by simp only; omega, by simp [Isa.mayB, Isa.fm, Isa.fitsB]; omega, by simp [fitsR]⟩
    · cases hy
theorem ldi_ok {nx pc d : Int} (h0 : 0 ≤ nx) (h1 : nx < 4294967296) : It.Ok ⟨32, 6, 0, asI32 nx, pc, d, -1⟩ := by
  have : -2147483648 ≤ asI32 nx ∧ asI32 nx < 2147483648 := by unfold asI32; split <;> omega
  exact ⟨by simp, by simp, by simp, by simp, this.1, this.2, by simp [Isa.mayB, Isa.fm, Isa.fitsB], by simp [fitsR]⟩
theorem branch_ok {op pc d : Int} (h : branchB op = true) : It.Ok ⟨op, 0, 0, 5, pc, d, -1⟩ := by
  simp only [branchB, Bool.and_eq_true, decide_eq_true_eq] at h
  have hf : Isa.fm op true = ⟨3, 0, 0, 2, 1⟩ := by
    unfold Isa.fm
    rw [if_neg (by omega), if_neg (by omega), if_neg (by omega), if_neg (by omega), if_neg (by omega), if_neg (by omega), if_pos (by omega)]
  exact ⟨by simp only; omega, by simp only; omega, by simp, by simp, by simp, by simp, by simp only; rw [hf]; decide, by simp [fitsR]; omega⟩

theorem last_fits {b : BlkR} (h : mayBlk b = true) : fitsEnd (b.ins.getD (b.ins.length - 1) zI).op b.en (endsB (b.ins.getD (b.ins.length - 1) zI).op) = true := by
  obtain ⟨h1, -, -, -⟩ := mayBlk_n h
  have := mayBlk_at h (k := b.ins.length - 1) (by omega)
  simp only [okIns, Bool.and_eq_true] at this
  have h2 := this.2.2
  rw [show decide (b.ins.length - 1 + 1 = b.ins.length) = true by simp; omega] at h2
  simpa using h2
theorem items_ok {b : BlkR} (h : mayBlk b = true) (n0 : 0 ≤ b.nx) (n1 : b.nx < 4294967296) {x : Int} (x0 : 0 ≤ x) (x1 : x < 65535) : ∀ y ∈ itemsOf b x, y.Ok := by
  obtain ⟨h1, h2, -, -⟩ := mayBlk_n h
  have hl := last_fits h
  intro y hy
  unfold itemsOf at hy
  rcases List.mem_append.1 hy with hy | hy
  · simp only [bodyL, List.mem_map, List.mem_range] at hy
    obtain ⟨k, hk, rfl⟩ := hy
    refine guest_ok (okIns_may (mayBlk_at h ?_))
    unfold bodyN at hk
    split at hk <;> omega
  · unfold endIt at hy
    split at hy
    · exact stub_ok (by omega) (by omega) x0 (by omega) y hy
    · split at hy
      · rcases List.mem_append.1 hy with hy | hy
        · split at hy
          · simp at hy; subst hy; exact ldi_ok n0 n1
          · cases hy
        · exact stub_ok (by omega) (by omega) x0 (by omega) y hy
      · split at hy
        · rename_i c1 c2 c3
          rcases List.mem_append.1 hy with hy | hy
          · rcases List.mem_append.1 hy with hy | hy
            · simp at hy
              subst hy
              refine branch_ok ?_
              unfold fitsEnd at hl
              rw [if_neg c1, if_neg c2, if_pos c3] at hl
              exact hl
            · exact stub_ok (by omega) (by omega) x0 (by omega) y hy
          · exact stub_ok (by omega) (by omega) (by omega) (by omega) y hy
        · exact stub_ok (by omega) (by omega) x0 (by omega) y hy
theorem items_exit {b : BlkR} {x : Int} (x0 : 0 ≤ x) : ∃ y ∈ itemsOf b x, 0 ≤ y.exit := by
  have hs : ∀ n to : Int, ∃ y ∈ stubIt n to x, 0 ≤ y.exit := fun n to => ⟨⟨113, 0, 0, x, to, 0, x⟩, by simp [stubIt], x0⟩
  unfold itemsOf endIt
  split
  · obtain ⟨y, h1, h2⟩ := hs b.ins.length b.nx; exact ⟨y, List.mem_append_right _ h1, h2⟩
  · split
    · obtain ⟨y, h1, h2⟩ := hs b.ins.length b.to; exact ⟨y, List.mem_append_right _ (List.mem_append_right _ h1), h2⟩
    · split
      · obtain ⟨y, h1, h2⟩ := hs b.ins.length b.nx; exact ⟨y, List.mem_append_right _ (List.mem_append_left _ (List.mem_append_right _ h1)), h2⟩
      · obtain ⟨y, h1, h2⟩ := hs (b.ins.length - 1) (b.ats.getD (b.ins.length - 1) 0); exact ⟨y, List.mem_append_right _ h1, h2⟩
theorem items_len (b : BlkR) (x : Int) (h : b.ins.length ≤ 32) : (itemsOf b x).length ≤ 40 := by
  have hb : bodyN b ≤ 32 := by unfold bodyN; split <;> omega
  unfold itemsOf
  rw [List.length_append, bodyL_len]
  have : (endIt b b.ins.length (b.ins.getD (b.ins.length - 1) zI) (b.ats.getD (b.ins.length - 1) 0) x).length ≤ 5 := by
    unfold endIt stubIt
    split
    · simp
    · split
      · split <;> simp
      · split <;> simp
  omega
end Go.Proofs.Ytnmgfckefofcpaa
