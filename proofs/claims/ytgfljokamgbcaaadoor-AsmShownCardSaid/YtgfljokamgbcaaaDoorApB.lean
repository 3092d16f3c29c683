/- asm, plainly: instructions that are shown, one a line. -/
import Derived.Test.YtgfljokamgbcaaaDoorApA
import Derived.Test.YtgfljokamgbcaaaDoorInsO
namespace Go.Proofs.YtgfljokamgbcaaaDoor
open Go.RowKit
set_option linter.unusedSimpArgs false
set_option linter.unusedVariables false

def insOk (r : InsR) : Bool := Isa.mayB (Isa.fm r.op false) r.a r.b r.imm
def insT (r : InsR) : List UInt8 := if insOk r then showL r.op r.a r.b r.imm ++ [10] else []
def insE (r : InsR) : List Int := if insOk r then Isa.encL (Isa.fm r.op false) r.op r.a r.b r.imm else []
theorem ins_nm {r : InsR} (h : insOk r = true) : ∃ n ∈ nmTab, n.op = r.op := by
  have hg := guest_zero h
  have ok := r.ok
  have h2 := List.all_eq_true.1 op_first r.op.toNat (List.mem_range.2 (by omega))
  rw [show ((r.op.toNat : Nat) : Int) = r.op by omega, hg] at h2
  simp only [Bool.not_true, Bool.false_or, List.any_eq_true, Bool.and_eq_true, decide_eq_true_eq] at h2
  obtain ⟨n, h3, h4, -⟩ := h2
  exact ⟨n, h3, h4⟩
theorem words_plainB {n : Nm} (h : n ∈ nmTab) {a b : Int} (ha : 0 ≤ a ∧ a < 8) (hb : 0 ≤ b ∧ b < 8) (imm : Int) : ∀ x ∈ wordsOf n a b imm, x ≠ [] ∧ ∀ c ∈ x, blankB c = false ∧ c ≠ 59 ∧ c ≠ 10 := by
  obtain ⟨k, hk⟩ := List.getElem?_of_mem h
  obtain ⟨_, _, pa, pb, _⟩ := nm_is hk
  obtain ⟨-, -, w1, w2⟩ := nm_plain_of h
  have hc : ∀ c : UInt8, (48 ≤ c.toNat ∧ c.toNat ≤ 57) ∨ 97 ≤ c.toNat → blankB c = false ∧ c ≠ 59 ∧ c ≠ 10 := by
    intro c h1
    have hne : ∀ k : UInt8, (k.toNat < 48 ∨ (57 < k.toNat ∧ k.toNat < 97)) → c ≠ k := fun k hk e => by subst e; omega
    refine ⟨?_, hne 59 (by decide), hne 10 (by decide)⟩
    simp [blankB, hne 32 (by decide), hne 9 (by decide)]
  have hl : ∀ c : Int, (c = 114 ∨ c = 99 ∨ c = 112) → ∀ r : Int, 0 ≤ r → r < 8 → ∀ d ∈ [UInt8.ofNat c.toNat, UInt8.ofNat (48 + r).toNat], blankB d = false ∧ d ≠ 59 ∧ d ≠ 10 := by
    intro c hc' r h0 h1 d hd
    refine hc d ?_
    simp at hd
    rcases hd with rfl | rfl
    · rw [u8_of (by omega)]; omega
    · rw [u8_of (by omega)]; omega
  intro x hx
  unfold wordsOf at hx
  simp only [List.mem_cons, List.mem_append] at hx
  rcases hx with rfl | (hx | hx) | hx
  · exact ⟨w1, fun c h => hc c (.inr (w2 c h).1)⟩
  · split at hx
    · cases hx
    · simp at hx; subst hx
      exact ⟨by simp, hl n.a (by omega) a ha.1 ha.2⟩
  · split at hx
    · cases hx
    · simp at hx; subst hx
      exact ⟨by simp, hl n.b (by omega) b hb.1 hb.2⟩
  · split at hx
    · simp at hx; subst hx
      exact ⟨(itoa_head imm).2.1, (itoa_head imm).2.2⟩
    · cases hx
theorem join_no10 : ∀ (l : List Wd), (∀ x ∈ l, ∀ c ∈ x, c ≠ 10) → ∀ c ∈ joinF l, c ≠ 10
  | [], _, c, hc => by cases hc
  | [x], h, c, hc => h x (by simp) c (by simpa [joinF] using hc)
  | x :: y :: l, h, c, hc => by
    have e : joinF (x :: y :: l) = x ++ 32 :: joinF (y :: l) := by simp [joinF]
    rw [e] at hc
    rcases List.mem_append.1 hc with hc | hc
    · exact h x (by simp) c hc
    · rcases List.mem_cons.1 hc with rfl | hc
      · decide
      · exact join_no10 (y :: l) (fun z hz => h z (List.mem_cons_of_mem _ hz)) c hc
/-- A shown instruction's line. -/
theorem ins_line {r : InsR} (h : insOk r = true) : ∃ n ∈ nmTab, n.op = r.op ∧ lineW (showL r.op r.a r.b r.imm) = wordsOf n r.a r.b r.imm ∧ ∀ c ∈ showL r.op r.a r.b r.imm, c ≠ 10 := by
  obtain ⟨n, hn, ho⟩ := ins_nm h
  have ok := r.ok
  have hmt : Isa.mayB (Isa.fm n.op true) r.a r.b r.imm = true := by rw [ho, fm_host (guest_zero h)]; exact h
  obtain ⟨a8, b8, -⟩ := may_parts hn hmt (by omega) (by omega)
  have hw := words_plainB hn (a := r.a) (b := r.b) ⟨by omega, a8⟩ ⟨by omega, b8⟩ r.imm
  have e := show_is hn hmt
  rw [ho] at e
  refine ⟨n, hn, ho, ?_, ?_⟩
  · rw [e]
    exact lineW_join (words_head n _ _ _).2 (fun x hx => ⟨(hw x hx).1, fun c hc => ⟨((hw x hx).2 c hc).1, ((hw x hx).2 c hc).2.1⟩⟩)
  · rw [e]
    exact join_no10 _ (fun x hx c hc => ((hw x hx).2 c hc).2.2)
theorem insE_len (r : InsR) : (insE r).length ≤ 6 ∧ (insOk r = true → ((insE r).length : Int) = (Isa.fm r.op false).n) := by
  unfold insE
  split
  · rename_i h
    have h1 := encL_len h
    have h2 := fmn6 r.op
    exact ⟨by omega, fun _ => h1⟩
  · rename_i h
    exact ⟨by simp, fun h' => absurd h' h⟩
theorem insT_len (r : InsR) : (insT r).length ≤ 40 := by
  unfold insT
  split
  · have ok := r.ok
    rename_i h
    unfold showL
    split
    · split
      · rename_i n hf
        obtain ⟨k, hk⟩ := List.getElem?_of_mem (List.mem_of_find?_eq_some hf)
        obtain ⟨_, _, _, _, hw⟩ := nm_is hk
        have hi := itoa_len r.imm (by omega) (by omega)
        unfold Nm.show regL numL
        simp only [List.length_append]
        split <;> split <;> split <;> simp <;> omega
      · simp
    · simp
  · simp
theorem flat_len {α : Type} {f : InsR → List α} {m : Nat} (h : ∀ r, (f r).length ≤ m) : ∀ l : List InsR, (l.flatMap f).length ≤ m * l.length
  | [] => by simp
  | r :: l => by
    rw [List.flatMap_cons, List.length_append, List.length_cons, Nat.mul_succ]
    have := h r
    have := flat_len h l
    omega
theorem shown_pass : ∀ (l : List InsR) (S : St) (k : Int), 0 ≤ S.at' → S.at' + ((l.flatMap insE).length : Int) ≤ 4096 →
    passF false S k (linesF (l.flatMap insT)) = .ok { S with at' := S.at' + ((l.flatMap insE).length : Int) } ∧
    ((S.bytes.length : Int) = S.at' → ∃ T, passF true S k (linesF (l.flatMap insT)) = .ok T ∧ T.bytes = S.bytes ++ l.flatMap insE)
  | [], S, k, h0, h => by
    simp only [List.flatMap_nil, linesF_nil, passF, doF, if_true, List.length_nil, List.append_nil]
    exact ⟨by simp, fun _ => ⟨S, rfl, rfl⟩⟩
  | r :: l, S, k, h0, h => by
    rw [List.flatMap_cons, List.flatMap_cons]
    rw [List.flatMap_cons, List.length_append] at h
    by_cases c : insOk r = true
    · have el := (insE_len r).2 c
      have ok := r.ok
      obtain ⟨n, hn, ho, hlw, h10⟩ := ins_line c
      have eT : insT r ++ l.flatMap insT = showL r.op r.a r.b r.imm ++ 10 :: l.flatMap insT := by unfold insT; rw [if_pos c]; simp
      have eE : insE r = Isa.encL (Isa.fm n.op false) n.op r.a r.b r.imm := by unfold insE; rw [if_pos c, ho]
      rw [eT, linesF_cons _ _ h10, hlw]
      have hm : Isa.mayB (Isa.fm n.op false) r.a r.b r.imm = true := by rw [ho]; exact c
      rw [← ho] at el
      obtain ⟨p1, p2⟩ := line_instr hn hm (by omega) (by omega) (by omega) (by omega) S (k + 1) (by omega)
      simp only [passF]
      constructor
      · rw [p1]
        simp only
        have := (shown_pass l { S with at' := S.at' + (Isa.fm n.op false).n } (k + 1) (by have := fmn6 n.op; simp only; omega) (by simp only; omega)).1
        rw [this]
        simp only
        rw [List.length_append]
        congr 2
        omega
      · intro hb
        rw [p2 hb]
        simp only
        obtain ⟨T, t1, t2⟩ := (shown_pass l { S with at' := S.at' + (Isa.fm n.op false).n, bytes := S.bytes ++ Isa.encL (Isa.fm n.op false) n.op r.a r.b r.imm, marks := S.marks ++ [(S.at', k + 1)] } (k + 1) (by have := fmn6 n.op; simp only; omega) (by simp only; omega)).2 (by simp only [List.length_append]; rw [← eE]; omega)
        refine ⟨T, t1, ?_⟩
        rw [t2]
        simp only
        rw [eE, List.append_assoc]
    · have eT : insT r = [] := by unfold insT; rw [if_neg c]
      have eE : insE r = [] := by unfold insE; rw [if_neg c]
      rw [eT, eE, List.nil_append, List.nil_append]
      rw [eE] at h
      exact shown_pass l S k h0 (by simpa using h)
theorem count_flat : ∀ l : List InsR, (l.flatMap insT).count 10 ≤ l.length ∧ ((l.flatMap insT) ≠ [] → (l.flatMap insT).getLast? = some 10)
  | [] => by simp
  | r :: l => by
    obtain ⟨h1, h2⟩ := count_flat l
    rw [List.flatMap_cons, List.count_append, List.length_cons]
    by_cases c : insOk r = true
    · obtain ⟨n, hn, ho, hlw, h10⟩ := ins_line c
      have eT : insT r = showL r.op r.a r.b r.imm ++ [10] := by unfold insT; rw [if_pos c]
      rw [eT, List.count_append, List.count_eq_zero.2 (fun hm => h10 10 hm rfl)]
      refine ⟨by simp; omega, fun _ => ?_⟩
      by_cases e : l.flatMap insT = []
      · rw [e]; simp
      · rw [List.getLast?_append, h2 e]; rfl
    · have eT : insT r = [] := by unfold insT; rw [if_neg c]
      rw [eT]
      refine ⟨by simp; omega, fun h => ?_⟩
      simp only [List.nil_append] at h ⊢
      exact h2 h
theorem shown_law (l : List InsR) (hl : l.length ≤ 200) : ∃ S, asmF (l.flatMap insT) = .ok S ∧ S.bytes = l.flatMap insE := by
  have h1 := flat_len insT_len l
  have h2 := flat_len (fun r => (insE_len r).1) l
  obtain ⟨h3, h4⟩ := count_flat l
  have hlong : longB (l.flatMap insT) = false := by
    unfold longB
    have : (if l.flatMap insT ≠ [] ∧ (l.flatMap insT).getLast? ≠ some 10 then 1 else 0) = 0 := if_neg (fun h => h.2 (h4 h.1))
    rw [this]
    simp only [Bool.or_eq_false_iff, decide_eq_false_iff_not]
    omega
  unfold asmF
  rw [hlong]
  simp only [Bool.false_eq_true, if_false]
  rw [(shown_pass l ⟨0, [], [], []⟩ 0 (Int.le_refl _) (by simp only; omega)).1]
  simp only
  obtain ⟨T, t1, t2⟩ := (shown_pass l ⟨0, [], [], []⟩ 0 (Int.le_refl _) (by simp only; omega)).2 rfl
  exact ⟨T, t1, by rw [t2]; rfl⟩
end Go.Proofs.YtgfljokamgbcaaaDoor
