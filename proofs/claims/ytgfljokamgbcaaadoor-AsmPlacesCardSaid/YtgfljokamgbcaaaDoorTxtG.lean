/- Plain laws of texts: two instructions with one text are one. -/
import Derived.Test.YtgfljokamgbcaaaDoorTxtB
namespace Go.Proofs.YtgfljokamgbcaaaDoor
open Go.RowKit
set_option linter.unusedSimpArgs false
set_option linter.unusedVariables false
set_option maxRecDepth 100000

/-- The number that digits tell. -/
def dval (l : List UInt8) : Nat := l.foldl (fun n c => 10 * n + (c.toNat - 48)) 0
theorem u8_48 {k : Nat} (h : k < 10) : (UInt8.ofNat (48 + k)).toNat = 48 + k := by
  rw [UInt8.toNat_ofNat']
  exact Nat.mod_eq_of_lt (by omega)
theorem dval_dec (u : Nat) : dval (Lib.decDigits u) = u := by
  induction u using Nat.strongRecOn with
  | _ u ih =>
    rw [Lib.decDigits.eq_def]
    split
    · rename_i h
      simp only [dval, List.foldl_cons, List.foldl_nil, u8_48 h]; omega
    · rename_i h
      have := ih (u / 10) (by omega)
      unfold dval at this ⊢
      rw [List.foldl_append, this]
      simp only [List.foldl_cons, List.foldl_nil, u8_48 (show u % 10 < 10 by omega)]; omega
theorem dec_digits (u : Nat) : (∀ c ∈ Lib.decDigits u, 48 ≤ c.toNat ∧ c.toNat ≤ 57) ∧ Lib.decDigits u ≠ [] := by
  induction u using Nat.strongRecOn with
  | _ u ih =>
    rw [Lib.decDigits.eq_def]
    split
    · rename_i h
      refine ⟨fun c hc => ?_, by simp⟩
      simp only [List.mem_cons, List.not_mem_nil, or_false] at hc
      subst hc; rw [u8_48 h]; omega
    · rename_i h
      refine ⟨fun c hc => ?_, by simp⟩
      rw [List.mem_append] at hc
      rcases hc with hc | hc
      · exact (ih (u / 10) (by omega)).1 c hc
      · simp only [List.mem_cons, List.not_mem_nil, or_false] at hc
        subst hc; rw [u8_48 (by omega)]; omega
theorem itoa_inj {x y : Int} (h : Lib.itoa x = Lib.itoa y) : x = y := by
  have hd : ∀ u v : Nat, Lib.decDigits u = Lib.decDigits v → u = v := fun u v e => by
    have := congrArg dval e
    rwa [dval_dec, dval_dec] at this
  have hh : ∀ (u : Nat) (l : List UInt8), (45 : UInt8) :: l ≠ Lib.decDigits u := fun u l e => by
    have := (dec_digits u).1 45 (by rw [← e]; exact List.mem_cons_self ..)
    exact absurd this.1 (by decide)
  unfold Lib.itoa at h
  split at h <;> split at h
  · have := hd _ _ (List.cons.inj h).2; omega
  · exact absurd h (hh _ _)
  · exact absurd h.symm (hh _ _)
  · have := hd _ _ h; omega

/-- What the forms say of a row of the table. -/
def Nm.fit2 (n : Nm) : Bool := decide ((Isa.fm n.op true).a = if n.a = 0 then 0 else 1) && decide ((Isa.fm n.op true).b = if n.b = 0 then 0 else 1) && (n.imm || decide ((Isa.fm n.op true).k = 0)) && n.word.all (fun c => decide (c ≠ 32)) && nmTab.all (fun m => decide (m.word = n.word → m = n))
theorem nm_fit2 : nmTab.all Nm.fit2 = true := by decide +kernel
theorem nm_words {n : Nm} (h : n ∈ nmTab) : (Isa.fm n.op true).a = (if n.a = 0 then 0 else 1) ∧ (Isa.fm n.op true).b = (if n.b = 0 then 0 else 1) ∧ (n.imm = true ∨ (Isa.fm n.op true).k = 0) ∧ (∀ c ∈ n.word, c ≠ 32) ∧ ∀ m ∈ nmTab, m.word = n.word → m = n := by
  have := List.all_eq_true.1 nm_fit2 n h
  simp only [Nm.fit2, Bool.and_eq_true, Bool.or_eq_true, decide_eq_true_eq, List.all_eq_true] at this
  exact ⟨this.1.1.1.1, this.1.1.1.2, this.1.1.2, fun c hc => by simpa using this.1.2 c hc, fun m hm => by simpa using this.2 m hm⟩

theorem cut_word {w w' X X' : List UInt8} (h : w ++ X = w' ++ X') (hw : ∀ c ∈ w, c ≠ 32) (hw' : ∀ c ∈ w', c ≠ 32) (hX : X = [] ∨ ∃ r, X = 32 :: r) (hX' : X' = [] ∨ ∃ r, X' = 32 :: r) : w = w' ∧ X = X' := by
  have key : ∀ {w X : List UInt8}, (∀ c ∈ w, c ≠ 32) → (X = [] ∨ ∃ r, X = 32 :: r) → (w ++ X).takeWhile (fun c => decide (c ≠ 32)) = w := fun {w X} hw hX => by
    rw [List.takeWhile_append_of_pos (fun c hc => by simpa using hw c hc)]
    rcases hX with rfl | ⟨r, rfl⟩
    · simp
    · rw [List.takeWhile_cons, if_neg (by decide)]; simp
  have e := congrArg (List.takeWhile (fun c => decide (c ≠ 32))) h
  rw [key hw hX, key hw' hX'] at e
  subst e
  exact ⟨rfl, List.append_cancel_left h⟩

/-- What stands behind the word. -/
def Nm.rest (n : Nm) (a b imm : Int) : List UInt8 := regL n.a a ++ regL n.b b ++ numL n.imm imm
theorem show_rest (n : Nm) (a b imm : Int) : n.show a b imm = n.word ++ n.rest a b imm := by simp [Nm.show, Nm.rest]
theorem rest_head (n : Nm) (a b imm : Int) : n.rest a b imm = [] ∨ ∃ r, n.rest a b imm = 32 :: r := by
  unfold Nm.rest regL numL
  split
  · split
    · split
      · exact .inr ⟨_, rfl⟩
      · exact .inl rfl
    · exact .inr ⟨_, rfl⟩
  · exact .inr ⟨_, rfl⟩

theorem reg_inj {a a' : Int} (h0 : 0 ≤ a) (h1 : a < 8) (h0' : 0 ≤ a') (h1' : a' < 8) (h : UInt8.ofNat (48 + a).toNat = UInt8.ofNat (48 + a').toNat) : a = a' := by
  have := congrArg UInt8.toNat h
  rw [show (48 + a).toNat = 48 + a.toNat by omega, show (48 + a').toNat = 48 + a'.toNat by omega, u8_48 (by omega), u8_48 (by omega)] at this
  omega

theorem may_parts {n : Nm} (h : n ∈ nmTab) {a b imm : Int} (hm : Isa.mayB (Isa.fm n.op true) a b imm = true) (h0 : 0 ≤ a) (h1 : 0 ≤ b) : a < 8 ∧ b < 8 ∧ (n.a = 0 → a = 0) ∧ (n.b = 0 → b = 0) ∧ (n.imm = false → imm = 0) := by
  obtain ⟨f1, f2, f3, -, -⟩ := nm_words h
  obtain ⟨a8, b8⟩ := may_lt8 hm
  simp only [Isa.mayB, Bool.and_eq_true, decide_eq_true_eq] at hm
  obtain ⟨-, ha, hb, hf⟩ := hm
  refine ⟨a8, b8, fun e => ?_, fun e => ?_, fun e => ?_⟩
  · rw [f1, if_pos e] at ha; omega
  · rw [f2, if_pos e] at hb; omega
  · have hk := f3.resolve_left (by rw [e]; decide)
    unfold Isa.fitsB at hf
    rw [hk] at hf
    simpa using hf

theorem rest_inj {n : Nm} (h : n ∈ nmTab) {a b imm a' b' imm' : Int} (hm : Isa.mayB (Isa.fm n.op true) a b imm = true) (hm' : Isa.mayB (Isa.fm n.op true) a' b' imm' = true)
    (h0 : 0 ≤ a) (h1 : 0 ≤ b) (h0' : 0 ≤ a') (h1' : 0 ≤ b') (e : n.rest a b imm = n.rest a' b' imm') : a = a' ∧ b = b' ∧ imm = imm' := by
  obtain ⟨a8, b8, za, zb, zi⟩ := may_parts h hm h0 h1
  obtain ⟨a8', b8', za', zb', zi'⟩ := may_parts h hm' h0' h1'
  have hnum : numL n.imm imm = numL n.imm imm' → imm = imm' := fun e => by
    unfold numL at e
    split at e
    · exact itoa_inj (List.cons.inj e).2
    · rename_i hi
      have hi : n.imm = false := by simpa using hi
      rw [zi hi, zi' hi]
  have hB : ∀ {Y Y' : List UInt8}, regL n.b b ++ Y = regL n.b b' ++ Y' → b = b' ∧ Y = Y' := fun {Y Y'} e => by
    unfold regL at e
    split at e
    · rename_i hz
      exact ⟨by rw [zb hz, zb' hz], by simpa using e⟩
    · simp only [List.cons_append, List.nil_append, List.cons.injEq] at e
      exact ⟨reg_inj h1 b8 h1' b8' e.2.2.1, e.2.2.2⟩
  unfold Nm.rest at e
  rw [List.append_assoc, List.append_assoc] at e
  have hA : a = a' ∧ regL n.b b ++ numL n.imm imm = regL n.b b' ++ numL n.imm imm' := by
    unfold regL at e
    split at e
    · rename_i hz
      exact ⟨by rw [za hz, za' hz], by simpa [regL] using e⟩
    · simp only [List.cons_append, List.nil_append, List.cons.injEq] at e
      exact ⟨reg_inj h0 a8 h0' a8' e.2.2.1, by simpa [regL] using e.2.2.2⟩
  obtain ⟨eb, en⟩ := hB hA.2
  exact ⟨hA.1, eb, hnum en⟩

theorem show_some {op a b imm : Int} (h : showL op a b imm ≠ []) : ∃ n ∈ nmTab, n.op = op ∧ Isa.mayB (Isa.fm n.op true) a b imm = true ∧ showL op a b imm = n.word ++ n.rest a b imm := by
  by_cases hm : Isa.mayB (Isa.fm op true) a b imm = true
  · cases hf : nmTab.find? fun n => decide (n.op = op) with
    | none => exact absurd (by unfold showL; rw [if_pos hm, hf]) h
    | some n =>
      have hop : n.op = op := by simpa using List.find?_some hf
      exact ⟨n, List.mem_of_find?_eq_some hf, hop, by rw [hop]; exact hm, by unfold showL; rw [if_pos hm, hf]; exact show_rest n a b imm⟩
  · exact absurd (by unfold showL; rw [if_neg hm]) h

theorem show_inj {op a b imm op' a' b' imm' : Int} (h0 : 0 ≤ a) (h1 : 0 ≤ b) (h0' : 0 ≤ a') (h1' : 0 ≤ b') (h : showL op a b imm = showL op' a' b' imm') (hne : showL op a b imm ≠ []) : op = op' ∧ a = a' ∧ b = b' ∧ imm = imm' := by
  obtain ⟨n, hn, rfl, hm, e⟩ := show_some hne
  obtain ⟨n', hn', rfl, hm', e'⟩ := show_some (show showL op' a' b' imm' ≠ [] from h ▸ hne)
  rw [e, e'] at h
  obtain ⟨ew, er⟩ := cut_word h (nm_words hn).2.2.2.1 (nm_words hn').2.2.2.1 (rest_head _ _ _ _) (rest_head _ _ _ _)
  obtain rfl := (nm_words hn).2.2.2.2 n' hn' ew.symm
  exact ⟨rfl, rest_inj hn hm hm' h0 h1 h0' h1' er⟩
end Go.Proofs.YtgfljokamgbcaaaDoor
