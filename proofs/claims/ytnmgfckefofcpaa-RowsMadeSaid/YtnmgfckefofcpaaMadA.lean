/- Translated code, plainly: instructions behind one another, with their rows; they fit, and each row is found at its place. -/
import Derived.Test.YtnmgfckefofcpaaRowQ
import Derived.Test.YtnmgfckefofcpaaRowJ
import Derived.Test.YtnmgfckefofcpaaIsaE
namespace Go.Proofs.Ytnmgfckefofcpaa
open Go.RowKit
set_option linter.unusedSimpArgs false
set_option linter.unusedVariables false

/-- An instruction of translated code, with what its row tells. -/
structure It where
  op : Int
  a : Int
  b : Int
  imm : Int
  pc : Int
  done : Int
  exit : Int

def It.enc (x : It) : List Int := Isa.encL (Isa.fm x.op true) x.op x.a x.b x.imm
def It.row (x : It) (off : Nat) : RowR := ⟨(off : Int), x.pc, x.done, x.exit⟩
/-- May it be, and does its row fit it? -/
structure It.Ok (x : It) : Prop where
  o0 : 0 ≤ x.op
  o1 : x.op < 256
  a0 : 0 ≤ x.a
  b0 : 0 ≤ x.b
  i0 : -2147483648 ≤ x.imm
  i1 : x.imm < 2147483648
  may : Isa.mayB (Isa.fm x.op true) x.a x.b x.imm = true
  fit : fitsR x.exit x.op x.imm = true
def encAll (l : List It) : List Int := l.flatMap It.enc
def rowsAt : List It → Nat → List RowR
  | [], _ => []
  | x :: l, a => x.row a :: rowsAt l (a + x.enc.length)

theorem enc_n {op a b imm : Int} {host : Bool} (hm : Isa.mayB (Isa.fm op host) a b imm = true) : ((Isa.encL (Isa.fm op host) op a b imm).length : Int) = (Isa.fm op host).n := by
  rcases Isa.fm_is op host with h | h | h | h | h | h | h | h | h | h
  all_goals
    rw [h] at hm ⊢
    simp [Isa.encL, Isa.mayB] at hm ⊢

theorem enc_bytes {op a b imm : Int} {host : Bool} (h0 : 0 ≤ op) (h1 : op < 256) (h2 : 0 ≤ a) (h4 : 0 ≤ b) (hm : Isa.mayB (Isa.fm op host) a b imm = true) : ∀ x ∈ Isa.encL (Isa.fm op host) op a b imm, 0 ≤ x ∧ x < 256 := by
  rcases Isa.fm_is op host with h | h | h | h | h | h | h | h | h | h
  all_goals
    rw [h] at hm ⊢
    simp [Isa.encL, Isa.mayB, Isa.fitsB] at hm ⊢
    try omega

/-- What was encoded is decoded as it was, whatever stands behind it. -/
theorem dec_back {op a b imm : Int} {host : Bool} (h2 : 0 ≤ a) (h4 : 0 ≤ b) (h6 : -2147483648 ≤ imm) (h7 : imm < 2147483648) (hm : Isa.mayB (Isa.fm op host) a b imm = true) (M : List Int) :
    Isa.decR host (Isa.encL (Isa.fm op host) op a b imm ++ M) = ⟨op, a, b, imm, (Isa.fm op host).n, 0⟩ := by
  have hF := Isa.fm_is op host
  obtain ⟨T, hT, hr⟩ : ∃ T, Isa.encL (Isa.fm op host) op a b imm ++ M = op :: T ∧ (Isa.fm op host).n ≤ ((op :: T).length : Int) ∧ Isa.regA (Isa.fm op host) (T.getD 0 0) = a ∧ Isa.regB (Isa.fm op host) (T.getD 0 0) = b ∧ Isa.numL (Isa.fm op host) (T.getD 0 0) (T.getD 1 0) (T.getD 2 0) (T.getD 3 0) (T.getD 4 0) = imm := by
    generalize Isa.fm op host = f at hF hm ⊢
    refine ⟨_, rfl, ?_⟩
    rcases hF with rfl | rfl | rfl | rfl | rfl | rfl | rfl | rfl | rfl | rfl
    all_goals
      simp [Isa.mayB, Isa.fitsB] at hm
      try simp [Isa.encL, Isa.regA, Isa.regB, Isa.numL, Isa.numF]
      try first
        | omega
        | (split <;> omega)
  have hn : (Isa.fm op host).n ≠ 0 := by
    intro h
    simp [Isa.mayB, h] at hm
  obtain ⟨hl, ha, hb, hi⟩ := hr
  rw [hT]
  unfold Isa.decR
  simp only
  rw [if_neg hn, if_neg (by omega), ha, hb, hi, if_pos hm]

theorem fm_guest {op a b imm : Int} (hm : Isa.mayB (Isa.fm op false) a b imm = true) : Isa.fm op true = Isa.fm op false ∧ op ≠ 112 ∧ op ≠ 113 := by
  have h2 : op ≠ 112 := fun h => by subst h; simp [Isa.mayB, Isa.fm] at hm
  have h3 : op ≠ 113 := fun h => by subst h; simp [Isa.mayB, Isa.fm] at hm
  refine ⟨?_, h2, h3⟩
  unfold Isa.fm
  simp [h2, h3]

theorem It.Ok.n {x : It} (h : x.Ok) : (x.enc.length : Int) = (Isa.fm x.op true).n := enc_n h.may
theorem It.enc_pos (x : It) : 1 ≤ x.enc.length ∧ x.enc.length ≤ 6 := by
  unfold It.enc Isa.encL
  rw [List.length_cons, List.length_append]
  constructor
  · omega
  · split <;> split <;> (try split) <;> (try split) <;> simp
theorem encAll_cons (x : It) (l : List It) : encAll (x :: l) = x.enc ++ encAll l := by simp [encAll]
theorem encAll_app (l m : List It) : encAll (l ++ m) = encAll l ++ encAll m := by simp [encAll]
theorem encAll_bytes : ∀ {l : List It}, (∀ x ∈ l, x.Ok) → ∀ y ∈ encAll l, 0 ≤ y ∧ y < 256 := by
  intro l hl y hy
  obtain ⟨x, hx, hyx⟩ := List.mem_flatMap.1 hy
  have h := hl x hx
  exact enc_bytes h.o0 h.o1 h.a0 h.b0 h.may y hyx
theorem encAll_len : ∀ l : List It, (encAll l).length ≤ 6 * l.length
  | [] => Nat.le_refl _
  | x :: l => by
    have := encAll_len l
    have := x.enc_pos
    rw [encAll_cons, List.length_append, List.length_cons]
    omega
theorem rowsAt_app : ∀ (l m : List It) (a : Nat), rowsAt (l ++ m) a = rowsAt l a ++ rowsAt m (a + (encAll l).length)
  | [], m, a => by simp [rowsAt, encAll]
  | x :: l, m, a => by
    rw [List.cons_append, rowsAt, rowsAt, rowsAt_app l m, encAll_cons, List.length_append, List.cons_append, Nat.add_assoc]
theorem rowsAt_len : ∀ (l : List It) (a : Nat), (rowsAt l a).length = l.length
  | [], _ => rfl
  | x :: l, a => by rw [rowsAt, List.length_cons, rowsAt_len l, List.length_cons]

/-- The rows fit. -/
theorem right_made : ∀ (l : List It) (pre : List Int), (∀ x ∈ l, x.Ok) → rightF (pre ++ encAll l) (rowsAt l pre.length) pre.length = true
  | [], pre, _ => by simp [rightF, rowsAt, encAll]
  | x :: l, pre, h => by
    have hx := h x (List.mem_cons_self ..)
    have hd : Isa.decR true (x.enc ++ encAll l) = ⟨x.op, x.a, x.b, x.imm, (Isa.fm x.op true).n, 0⟩ := dec_back hx.a0 hx.b0 hx.i0 hx.i1 hx.may (encAll l)
    have hp := x.enc_pos
    have hn := hx.n
    have ih := right_made l (pre ++ x.enc) (fun y hy => h y (List.mem_cons_of_mem _ hy))
    rw [List.length_append, List.append_assoc] at ih
    rw [rowsAt, encAll_cons, rightF, List.drop_left, hd]
    simp only
    rw [if_neg (by simp only [It.row, List.length_append]; omega), if_neg (by simp), if_neg (by rw [It.row, hx.fit]; simp), ← hn, Int.toNat_natCast]
    exact ih

theorem rowsAt_off : ∀ (l : List It) (a k : Nat), k < l.length → ∃ o : Nat, offAt (rowsAt l a) k = (o : Int) ∧ a ≤ o ∧ o < a + (encAll l).length
  | [], _, k, h => by simp at h
  | x :: l, a, 0, _ => ⟨a, by simp [offAt, rowsAt, It.row], Nat.le_refl _, by rw [encAll_cons, List.length_append]; have := x.enc_pos; omega⟩
  | x :: l, a, k + 1, h => by
    obtain ⟨o, h1, h2, h3⟩ := rowsAt_off l (a + x.enc.length) k (by simpa using h)
    refine ⟨o, ?_, by omega, by rw [encAll_cons, List.length_append]; omega⟩
    rw [← h1]
    simp [offAt, rowsAt]
theorem rowsAt_rise : ∀ (l : List It) (a m n : Nat), m < n → n < l.length → offAt (rowsAt l a) m < offAt (rowsAt l a) n
  | [], _, m, n, _, h => by simp at h
  | x :: l, a, 0, n + 1, _, h => by
    obtain ⟨o, h1, h2, -⟩ := rowsAt_off l (a + x.enc.length) n (by simpa using h)
    have e1 : offAt (rowsAt (x :: l) a) (n + 1) = offAt (rowsAt l (a + x.enc.length)) n := by simp [offAt, rowsAt]
    have e0 : offAt (rowsAt (x :: l) a) 0 = (a : Int) := by simp [offAt, rowsAt, It.row]
    have := x.enc_pos
    rw [e0, e1, h1]
    omega
  | x :: l, a, m + 1, n + 1, hmn, h => by
    have := rowsAt_rise l (a + x.enc.length) m n (by omega) (by simpa using h)
    simpa [offAt, rowsAt] using this
theorem rows_mono (l : List It) (off : Int) : ∀ m n, m ≤ n → n < l.length → off < offAt (rowsAt l 0) m → off < offAt (rowsAt l 0) n := fun m n hmn hn h => by
  rcases Nat.lt_or_ge m n with h1 | h1
  · have := rowsAt_rise l 0 m n h1 hn; omega
  · obtain rfl : m = n := by omega
    exact h

/-- From one place to the next: the row at it is found, if there is one, and it is the next one. -/
theorem find_next (l : List It) (off : Int) (n k : Nat) (hn : Cut (rowsAt l 0) (off - 1) n) (hk : Cut (rowsAt l 0) off k) :
    (n < l.length ∧ k = n + 1 ∧ findR (lastR (rowsAt l 0) k) off = ((rowsAt l 0).getD n ⟨0, 0, 0, 0⟩, true)) ∨ (k = n ∧ findR (lastR (rowsAt l 0) k) off = (⟨0, 0, 0, 0⟩, false)) := by
  obtain ⟨n1, n2, n3⟩ := hn
  obtain ⟨k1, k2, k3⟩ := hk
  have hlen := rowsAt_len l 0
  rcases Nat.lt_or_ge n k with h | h
  · have a1 := k2 n h
    have a2 := n3 n (Nat.le_refl _) (by omega)
    have hk' : k = n + 1 := by
      rcases Nat.lt_or_ge (n + 1) k with h2 | h2
      · have := k2 (n + 1) h2
        have := rowsAt_rise l 0 n (n + 1) (by omega) (by omega)
        omega
      · omega
    subst hk'
    refine .inl ⟨by omega, rfl, ?_⟩
    have ho : ((rowsAt l 0).getD n ⟨0, 0, 0, 0⟩).off = off := by
      have : offAt (rowsAt l 0) n = off := by omega
      exact this
    have hl : lastR (rowsAt l 0) (n + 1) = ((rowsAt l 0).getD n ⟨0, 0, 0, 0⟩, true) := by
      unfold lastR
      rw [if_neg (Nat.succ_ne_zero n)]
      rfl
    rw [hl]
    unfold findR
    rw [if_pos ⟨rfl, ho⟩]
  · rcases Nat.lt_or_ge k n with h2 | h2
    · have := k3 k (Nat.le_refl _) (by omega)
      have := n2 k h2
      omega
    · obtain rfl : k = n := by omega
      refine .inr ⟨rfl, ?_⟩
      unfold findR lastR
      by_cases c : k = 0
      · rw [if_pos c]; simp
      · rw [if_neg c]
        have := n2 (k - 1) (by omega)
        rw [if_neg (fun h => ?_)]
        have h2 : offAt (rowsAt l 0) (k - 1) = off := h.2
        omega
theorem cut_start (l : List It) : Cut (rowsAt l 0) (-1 - 1) 0 := ⟨Nat.zero_le _, fun m h => absurd h (Nat.not_lt_zero _), fun m _ hm => by
  obtain ⟨o, h1, -, -⟩ := rowsAt_off l 0 m (by rwa [rowsAt_len] at hm)
  rw [h1]; omega⟩
theorem cut_end (l : List It) {n : Nat} (h : Cut (rowsAt l 0) ((encAll l).length : Int) n) : n = l.length := by
  obtain ⟨h1, -, h3⟩ := h
  rw [rowsAt_len] at h1 h3
  rcases Nat.lt_or_ge n l.length with c | c
  · have := h3 n (Nat.le_refl _) c
    obtain ⟨o, e1, -, e3⟩ := rowsAt_off l 0 n c
    rw [e1] at this
    omega
  · omega
theorem exits_some {L : List RowR} (h : ∃ r ∈ L, 0 ≤ r.exit) : 1 ≤ (exits L).length := by
  obtain ⟨r, h1, h2⟩ := h
  have : r ∈ exits L := List.mem_filter.2 ⟨h1, by simpa using h2⟩
  exact List.length_pos_iff.2 (fun e => by rw [e] at this; cases this)
theorem rowsAt_mem : ∀ (l : List It) (a : Nat) (x : It), x ∈ l → ∃ o, x.row o ∈ rowsAt l a
  | y :: l, a, x, h => by
    rcases List.mem_cons.1 h with rfl | h
    · exact ⟨a, List.mem_cons_self ..⟩
    · obtain ⟨o, ho⟩ := rowsAt_mem l (a + y.enc.length) x h
      exact ⟨o, List.mem_cons_of_mem _ ho⟩
end Go.Proofs.Ytnmgfckefofcpaa
