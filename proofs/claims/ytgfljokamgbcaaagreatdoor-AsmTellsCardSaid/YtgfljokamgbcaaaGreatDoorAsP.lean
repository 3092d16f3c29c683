/- Laws on asm's plain model: lines and words. Laws on asm's plain model: what a line of an instruction, or of a number, does. -/
import Derived.Test.YtgfljokamgbcaaaGreatDoorAsA
namespace Go.Proofs.YtgfljokamgbcaaaGreatDoor
open Go.RowKit
set_option linter.unusedSimpArgs false
set_option linter.unusedVariables false

theorem splitC_ne (x : UInt8) : ∀ l, splitC x l ≠ []
  | [] => by simp [splitC]
  | c :: r => by
    unfold splitC
    split
    · simp
    · split <;> simp
theorem splitC_none {x : UInt8} : ∀ {l : List UInt8}, (∀ c ∈ l, c ≠ x) → splitC x l = [l]
  | [], _ => rfl
  | c :: r, h => by
    unfold splitC
    rw [if_neg (h c List.mem_cons_self), splitC_none (fun d hd => h d (List.mem_cons_of_mem _ hd))]
theorem splitC_at {x : UInt8} : ∀ {l : List UInt8} {n : Nat}, (∀ j, j < n → l[j]? ≠ some x) → l[n]? = some x → splitC x l = l.take n :: splitC x (l.drop (n + 1))
  | [], n, _, h => by simp at h
  | c :: r, 0, _, h => by
    simp at h
    rw [splitC, if_pos h]; rfl
  | c :: r, n + 1, hj, h => by
    have h0 := hj 0 (by omega)
    simp at h0
    have ih := splitC_at (l := r) (n := n) (fun j hjn => by simpa using hj (j + 1) (by omega)) (by simpa using h)
    rw [splitC, if_neg h0, ih]; rfl
theorem splitC_len (x : UInt8) : ∀ l : List UInt8, (splitC x l).length = l.count x + 1
  | [] => rfl
  | c :: r => by
    have ih := splitC_len x r
    unfold splitC
    by_cases h : c = x
    · rw [if_pos h, List.length_cons, ih, h, List.count_cons_self]
    · rw [if_neg h, List.count_cons_of_ne (fun e => h e)]
      split
      · rename_i w ws e
        rw [e] at ih
        simpa using ih
      · rename_i e
        exact absurd e (splitC_ne x r)

theorem takeWhile_all {p : UInt8 → Bool} : ∀ {l : List UInt8}, (∀ c ∈ l, p c = true) → l.takeWhile p = l
  | [], _ => rfl
  | c :: l, h => by rw [List.takeWhile_cons, h c List.mem_cons_self, if_pos rfl, takeWhile_all (fun d hd => h d (List.mem_cons_of_mem _ hd))]
/-! The operations' names. -/
def Nm.plain (n : Nm) : Bool := decide (0 ≤ n.op) && (decide (n.op < 256) && (decide (n.word ≠ []) && (n.word.all fun c => decide (97 ≤ c.toNat) && decide (c.toNat ≤ 122)))) 
theorem nm_plain : nmTab.all Nm.plain = true := by decide +kernel
theorem nm_word_uniq : nmTab.all (fun n => nmTab.all fun m => decide (m.word = n.word → m = n)) = true := by decide +kernel
theorem op_first : (List.range 256).all (fun j => !guestB (j : Int) || (nmTab.any fun n => decide (n.op = (j : Int)) && decide (n.word = firstW (showL (j : Int) 0 0 0)))) = true := by decide +kernel
theorem nm_first : nmTab.all (fun n => !guestB n.op || decide (firstW (showL n.op 0 0 0) = n.word)) = true := by decide +kernel
theorem word_uniq {n m : Nm} (hn : n ∈ nmTab) (hm : m ∈ nmTab) (h : m.word = n.word) : m = n := by
  have := List.all_eq_true.1 (List.all_eq_true.1 nm_word_uniq n hn) m hm
  exact (of_decide_eq_true this) h
theorem nm_plain_of {n : Nm} (hn : n ∈ nmTab) : 0 ≤ n.op ∧ n.op < 256 ∧ n.word ≠ [] ∧ ∀ c ∈ n.word, 97 ≤ c.toNat ∧ c.toNat ≤ 122 := by
  have h := List.all_eq_true.1 nm_plain n hn
  simp only [Nm.plain, Bool.and_eq_true, decide_eq_true_eq, List.all_eq_true] at h
  exact ⟨h.1, h.2.1, h.2.2.1, h.2.2.2⟩
theorem opF_of {n : Nm} (hn : n ∈ nmTab) (hg : guestB n.op = true) : opF n.word = some n.op := by
  unfold opF
  cases h : nmTab.find? fun m => decide (m.word = n.word) && guestB m.op with
  | none =>
    have := List.find?_eq_none.1 h n hn
    simp [hg] at this
  | some m =>
    have h1 := List.find?_some h
    simp only [Bool.and_eq_true, decide_eq_true_eq] at h1
    rw [word_uniq hn (List.mem_of_find?_eq_some h) h1.1]
    rfl
theorem opF_is {w : Wd} {op : Int} (h : opF w = some op) : ∃ n ∈ nmTab, n.word = w ∧ n.op = op ∧ guestB op = true := by
  unfold opF at h
  cases h1 : nmTab.find? fun m => decide (m.word = w) && guestB m.op with
  | none => rw [h1] at h; cases h
  | some m =>
    rw [h1] at h
    have h2 := List.find?_some h1
    simp only [Bool.and_eq_true, decide_eq_true_eq] at h2
    simp at h
    subst h
    exact ⟨m, List.mem_of_find?_eq_some h1, h2.1, rfl, h2.2⟩
/-- When all have been entered, each name tells its operation. -/
theorem opK_all (w : Wd) : opK 256 w = opF w := by
  cases h : opF w with
  | none =>
    unfold opK
    rw [List.find?_eq_none.2]
    · rfl
    · intro j hj hb
      simp only [Bool.and_eq_true, decide_eq_true_eq] at hb
      have hj2 : j < 256 := by simpa using hj
      have h1 := List.all_eq_true.1 op_first j (List.mem_range.2 hj2)
      rw [hb.1] at h1
      simp only [Bool.not_true, Bool.false_or, List.any_eq_true, Bool.and_eq_true, decide_eq_true_eq] at h1
      obtain ⟨n, hn, h2, h3⟩ := h1
      have := opF_of hn (by rw [h2]; exact hb.1)
      rw [h3, hb.2, h] at this
      cases this
  | some op =>
    obtain ⟨n, hn, rfl, rfl, hg⟩ := opF_is h
    obtain ⟨p0, p1, -, -⟩ := nm_plain_of hn
    unfold opK
    have hnf := List.all_eq_true.1 nm_first n hn
    rw [hg] at hnf
    simp only [Bool.not_true, Bool.false_or, decide_eq_true_eq] at hnf
    cases hf : (List.range 256).reverse.find? fun (j : Nat) => guestB (j : Int) && decide (firstW (showL (j : Int) 0 0 0) = n.word) with
    | none =>
      have := List.find?_eq_none.1 hf n.op.toNat (by simp; omega)
      rw [Int.toNat_of_nonneg p0, hg, hnf] at this
      simp at this
    | some j =>
      have hj := List.mem_of_find?_eq_some hf
      have hj2 : j < 256 := by simpa using hj
      have h2 := List.find?_some hf
      simp only [Bool.and_eq_true, decide_eq_true_eq] at h2
      have h1 := List.all_eq_true.1 op_first j (List.mem_range.2 hj2)
      rw [h2.1] at h1
      simp only [Bool.not_true, Bool.false_or, List.any_eq_true, Bool.and_eq_true, decide_eq_true_eq] at h1
      obtain ⟨m, hm, e1, e2⟩ := h1
      have := word_uniq hn hm (e2.trans h2.2)
      subst this
      simp [e1]
theorem opK_succ (k : Nat) (w : Wd) : opK (k + 1) w = if guestB (k : Int) && decide (firstW (showL (k : Int) 0 0 0) = w) then some (k : Int) else opK k w := by
  unfold opK
  rw [List.range_succ, List.reverse_append, List.reverse_singleton, List.singleton_append, List.find?_cons]
  split
  · rename_i h; rw [h]; rfl
  · rename_i h; rw [h]; rfl
end Go.Proofs.YtgfljokamgbcaaaGreatDoor
namespace Go.Proofs.YtgfljokamgbcaaaGreatDoor
open Go.RowKit
set_option linter.unusedSimpArgs false
set_option linter.unusedVariables false

theorem fm_host {op : Int} (h : guestB op = true) : Isa.fm op true = Isa.fm op false := by
  have h2 : op ≠ 112 := fun h' => by subst h'; simp [guestB, Isa.mayB, Isa.fm] at h
  have h3 : op ≠ 113 := fun h' => by subst h'; simp [guestB, Isa.mayB, Isa.fm] at h
  unfold Isa.fm
  simp [h2, h3]
theorem encL_len {op a b imm : Int} {host : Bool} (hm : Isa.mayB (Isa.fm op host) a b imm = true) : ((Isa.encL (Isa.fm op host) op a b imm).length : Int) = (Isa.fm op host).n := by
  rcases Isa.fm_is op host with h | h | h | h | h | h | h | h | h | h
  all_goals
    rw [h] at hm ⊢
    simp [Isa.encL, Isa.mayB] at hm ⊢

def Nm.lab (n : Nm) : Bool := (!decide (64 ≤ n.op ∧ n.op ≤ 72) || (decide (n.a = 0) && (decide (n.b = 0) && n.imm))) && (!decide (n.op = 32) || (!decide (n.a = 0) && (decide (n.b = 0) && n.imm)))
theorem over_end (l b : List Int) (z : Nat) (hz : z = b.length) : over (l ++ List.replicate z 0) l.length b = l ++ b := by
  subst hz
  unfold over
  rw [List.take_left', List.drop_eq_nil_iff.2]
  · simp
  · simp
  · rfl
/-- Bytes are laid behind one another. -/
theorem lay_ok {S : St} (k : Int) (b : List Int) (h0 : (S.bytes.length : Int) = S.at') (h1 : S.at' + (b.length : Int) ≤ 4096) : layF true S k b = .ok { S with at' := S.at' + (b.length : Int), bytes := S.bytes ++ b, marks := S.marks ++ [(S.at', k)] } := by
  unfold layF toF
  rw [if_neg (by omega)]
  simp only [if_true]
  rw [show (S.at' + (b.length : Int)).toNat - S.bytes.length = b.length by omega, show S.at'.toNat = S.bytes.length by omega, over_end _ _ _ rfl]
end Go.Proofs.YtgfljokamgbcaaaGreatDoor
