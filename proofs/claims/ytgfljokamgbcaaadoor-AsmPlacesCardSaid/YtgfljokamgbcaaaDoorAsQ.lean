/- Laws on asm's plain model: what a line of an instruction, or of a number, does. -/
import Derived.Test.YtgfljokamgbcaaaDoorAsP
namespace Go.Proofs.YtgfljokamgbcaaaDoor
open Go.RowKit
set_option linter.unusedSimpArgs false
set_option linter.unusedVariables false

theorem guest_zero {op a b imm : Int} (h : Isa.mayB (Isa.fm op false) a b imm = true) : guestB op = true := by
  unfold guestB
  rcases Isa.fm_is op false with h' | h' | h' | h' | h' | h' | h' | h' | h' | h'
  all_goals
    rw [h'] at h ⊢
    simp [Isa.mayB, Isa.fitsB] at h ⊢
theorem fm_host {op : Int} (h : guestB op = true) : Isa.fm op true = Isa.fm op false := by
  have h2 : op ≠ 112 := fun h' => by subst h'; simp [guestB, Isa.mayB, Isa.fm] at h
  have h3 : op ≠ 113 := fun h' => by subst h'; simp [guestB, Isa.mayB, Isa.fm] at h
  unfold Isa.fm
  simp [h2, h3]
theorem encL_len {op a b imm : Int} {host : Bool} (hm : Isa.mayB (Isa.fm op host) a b imm = true) : ((Isa.encL (Isa.fm op host) op a b imm).length : Int) = (Isa.fm op host).n := by
  rcases Isa.fm_is op host with h | h | h | h | h | h | h | h | h | h
  all_goals
    rw [h] at hm ⊢
    simp [Isa.encL, Isa.mayB] at hm ⊢

/-- A number's text begins with no letter. -/
theorem itoa_head (v : Int) : letterB ((Lib.itoa v).headD 0) = false ∧ (Lib.itoa v) ≠ [] ∧ ∀ c ∈ Lib.itoa v, blankB c = false ∧ c ≠ 59 ∧ c ≠ 10 := by
  have hd : ∀ u : Nat, ∀ c ∈ Lib.decDigits u, 48 ≤ c.toNat ∧ c.toNat ≤ 57 := fun u => dec_isDig u
  have hc : ∀ c : UInt8, 45 ≤ c.toNat → c.toNat ≤ 57 → letterB c = false ∧ blankB c = false ∧ c ≠ 59 ∧ c ≠ 10 := by
    intro c h1 h2
    have hne : ∀ k : UInt8, (k.toNat < 45 ∨ 57 < k.toNat) → c ≠ k := fun k hk e => by subst e; omega
    refine ⟨?_, ?_, hne 59 (by decide), hne 10 (by decide)⟩
    · simp [letterB, hne 95 (by decide)]; omega
    · simp [blankB, hne 32 (by decide), hne 9 (by decide)]
  have hne : ∀ u : Nat, Lib.decDigits u ≠ [] := fun u e => by
    have := dvI_dec u
    rcases Nat.eq_zero_or_pos u with h | h
    · subst h; unfold Lib.decDigits at e; simp at e
    · obtain ⟨c, r, h1, -⟩ := dec_head u h; rw [e] at h1; cases h1
  unfold Lib.itoa
  split
  · refine ⟨(hc 45 (by decide) (by decide)).1, by simp, fun c h => ?_⟩
    rcases List.mem_cons.1 h with rfl | h
    · exact (hc 45 (by decide) (by decide)).2
    · have := hd _ c h; exact (hc c (by omega) this.2).2
  · refine ⟨?_, hne _, fun c h => ?_⟩
    · cases e : Lib.decDigits v.toNat with
      | nil => exact absurd e (hne _)
      | cons c r => have := hd _ c (by rw [e]; exact List.mem_cons_self); exact (hc c (by omega) this.2).1
    · have := hd _ c h; exact (hc c (by omega) this.2).2

def Nm.lab (n : Nm) : Bool := (!decide (64 ≤ n.op ∧ n.op ≤ 72) || (decide (n.a = 0) && (decide (n.b = 0) && n.imm))) && (!decide (n.op = 32) || (!decide (n.a = 0) && (decide (n.b = 0) && n.imm)))
theorem nm_lab : nmTab.all Nm.lab = true := by decide +kernel

theorem named_words {n : Nm} (hn : n ∈ nmTab) (S : St) (a b imm : Int) : namedF S (wordsOf n a b imm) n.op = .ok (wordsOf n a b imm) := by
  have hl := List.all_eq_true.1 nm_lab n hn
  obtain ⟨hi, -, -⟩ := itoa_head imm
  unfold namedF
  rw [if_pos]
  unfold labelled
  simp only [Nm.lab, Bool.and_eq_true, Bool.or_eq_true, Bool.not_eq_true', decide_eq_false_iff_not, decide_eq_true_eq] at hl
  obtain ⟨l1, l2⟩ := hl
  by_cases c1 : 64 ≤ n.op ∧ n.op ≤ 72
  · rcases l1 with h | ⟨ha, hb, him⟩
    · exact absurd c1 h
    · rw [if_pos (by omega)]
      right; right
      unfold wordsOf
      rw [if_pos ha, if_pos hb, if_pos him]
      exact hi
  · rw [if_neg (by omega)]
    by_cases c2 : n.op = 32
    · rcases l2 with h | ⟨ha, hb, him⟩
      · exact absurd c2 h
      · rw [if_pos c2]
        right; right
        unfold wordsOf
        rw [if_neg ha, if_pos hb, if_pos him]
        exact hi
    · rw [if_neg c2]
      left; rfl
theorem nm_op_uniq {n : Nm} (hn : n ∈ nmTab) : nmTab.find? (fun m => decide (m.op = n.op)) = some n := find_key hn _ (by simp) (fun m hm h => (nm_ops hn).1 m hm (of_decide_eq_true h))
theorem show_is {n : Nm} (hn : n ∈ nmTab) {a b imm : Int} (hm : Isa.mayB (Isa.fm n.op true) a b imm = true) : showL n.op a b imm = joinF (wordsOf n a b imm) := by
  unfold showL
  rw [if_pos hm, nm_op_uniq hn]
  exact show_words n a b imm
theorem head_plain {n : Nm} (hn : n ∈ nmTab) : (∀ w : Wd, w.head? = some 46 → n.word ≠ w) ∧ n.word.getLast? ≠ some 58 := by
  obtain ⟨-, -, h3, h4⟩ := nm_plain_of hn
  constructor
  · intro w hw e
    rw [← e] at hw
    have := h4 46 (List.mem_of_mem_head? (by simpa using hw))
    revert this; decide
  · intro h
    have := h4 58 (List.mem_of_getLast? h)
    revert this; decide
theorem words_head (n : Nm) (a b imm : Int) : (wordsOf n a b imm).headD [] = n.word ∧ wordsOf n a b imm ≠ [] := ⟨rfl, by simp [wordsOf]⟩
theorem label_plain {n : Nm} (hn : n ∈ nmTab) (again : Bool) (S : St) (a b imm : Int) : labelF again S (wordsOf n a b imm) = .ok (S, wordsOf n a b imm) := by
  unfold labelF
  simp only [(words_head n a b imm).1]
  rw [if_neg (head_plain hn).2]
theorem step_instr {n : Nm} (hn : n ∈ nmTab) (again : Bool) (S : St) (k : Int) (ws : List Wd) (hw : ws.headD [] = n.word) (hg : guestB n.op = true) : stepF again S k ws = instrF again S k ws n.op := by
  have h := (head_plain hn).1
  unfold stepF
  simp only [hw]
  rw [if_neg (h _ rfl), if_neg (h _ rfl), if_neg (h _ rfl), if_neg (h _ rfl), if_neg (h _ rfl), if_neg (h _ rfl), opF_of hn hg]

theorem over_end (l b : List Int) (z : Nat) (hz : z = b.length) : over (l ++ List.replicate z 0) l.length b = l ++ b := by
  subst hz
  unfold over
  rw [List.take_left', List.drop_eq_nil_iff.2]
  · simp
  · simp
  · rfl
/-- Bytes are laid behind one another. -/
theorem lay_ok {S : St} (k : Int) (b : List Int) (h0 : (S.bytes.length : Int) = S.at') (h1 : S.at' + (b.length : Int) ≤ 4096) : layF true S k b = .ok { S with at' := S.at' + (b.length : Int), bytes := S.bytes ++ b, marks := S.marks ++ [(S.at', k)] } := by
  unfold layF toF
  rw [if_neg (by omega)]
  simp only [if_true]
  rw [show (S.at' + (b.length : Int)).toNat - S.bytes.length = b.length by omega, show S.at'.toNat = S.bytes.length by omega, over_end _ _ _ rfl]
theorem lay_first {S : St} (k : Int) (b : List Int) (h1 : S.at' + (b.length : Int) ≤ 4096) : layF false S k b = .ok { S with at' := S.at' + (b.length : Int) } := by
  unfold layF toF
  rw [if_neg (by omega)]
  simp
/-- A line that shows an instruction. -/
theorem line_instr {n : Nm} (hn : n ∈ nmTab) {a b imm : Int} (hm : Isa.mayB (Isa.fm n.op false) a b imm = true) (a0 : 0 ≤ a) (b0 : 0 ≤ b) (i0 : -2147483648 ≤ imm) (i1 : imm < 2147483648) (S : St) (k : Int) (h1 : S.at' + (Isa.fm n.op false).n ≤ 4096) :
    doF false S k (wordsOf n a b imm) = .ok { S with at' := S.at' + (Isa.fm n.op false).n } ∧
      ((S.bytes.length : Int) = S.at' → doF true S k (wordsOf n a b imm) = .ok { S with at' := S.at' + (Isa.fm n.op false).n, bytes := S.bytes ++ Isa.encL (Isa.fm n.op false) n.op a b imm, marks := S.marks ++ [(S.at', k)] }) := by
  have hg := guest_zero hm
  have hfm := fm_host hg
  have hne := (words_head n a b imm).2
  have hlen := encL_len hm
  have hmt : Isa.mayB (Isa.fm n.op true) a b imm = true := by rw [hfm]; exact hm
  constructor
  · unfold doF
    rw [if_neg hne, label_plain hn]
    simp only
    rw [if_neg hne, step_instr hn _ _ _ _ (words_head n a b imm).1 hg]
    unfold instrF toF
    rw [if_pos rfl, if_neg (by omega)]
    simp
  · intro h0
    unfold doF
    rw [if_neg hne, label_plain hn]
    simp only
    rw [if_neg hne, step_instr hn _ _ _ _ (words_head n a b imm).1 hg]
    unfold instrF
    rw [if_neg (by decide), named_words hn]
    simp only
    have hsne : showL n.op a b imm ≠ [] := by
      rw [show_is hn hmt]
      obtain ⟨-, -, h3, -⟩ := nm_plain_of hn
      unfold joinF wordsOf
      intro e
      simp at e
      exact h3 e.1
    have hr := read_show (op := n.op) a0 b0 i0 i1 hsne
    rw [show_is hn hmt] at hr
    rw [hr]
    simp only
    rw [lay_ok k _ h0 (by omega), hlen]
end Go.Proofs.YtgfljokamgbcaaaDoor
