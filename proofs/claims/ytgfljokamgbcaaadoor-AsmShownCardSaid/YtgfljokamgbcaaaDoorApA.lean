/- asm, plainly: where its labels and marks stand. -/
import Derived.Test.YtgfljokamgbcaaaDoorAsY
namespace Go.Proofs.YtgfljokamgbcaaaDoor
open Go.RowKit
set_option linter.unusedSimpArgs false
set_option linter.unusedVariables false

/-- What one line's step does to a text's places. -/
structure Stp (again : Bool) (S T : St) (n : Int) : Prop where
  le : S.at' ≤ T.at'
  labels : T.labels = S.labels
  long : again = true → T.at'.toNat ≤ T.bytes.length
  first : again = false → T.bytes = S.bytes ∧ T.marks = S.marks
  marks : T.marks = S.marks ∨ T.marks = S.marks ++ [(S.at', n)]
theorem toF_stp {again : Bool} {S T : St} {n t : Int} (h : S.at' ≤ t) (hT : toF again S t = .ok T) : Stp again S T n ∧ T.at' = t := by
  unfold toF at hT
  split at hT
  · cases hT
  · cases hT
    refine ⟨⟨h, rfl, fun ha => ?_, fun ha => ⟨by simp [ha], rfl⟩, .inl rfl⟩, rfl⟩
    simp only [ha, if_true]
    simp
    omega
theorem layF_stp {again : Bool} {S T : St} {n : Int} {b : List Int} (h0 : 0 ≤ S.at') (hT : layF again S n b = .ok T) : Stp again S T n ∧ T.at' = S.at' + (b.length : Int) := by
  unfold layF at hT
  cases hq : toF again S (S.at' + (b.length : Int)) with
  | error e => rw [hq] at hT; cases hT
  | ok U =>
    rw [hq] at hT
    obtain ⟨hU, hat⟩ := toF_stp (n := n) (by omega) hq
    cases again
    · cases hT
      exact ⟨hU, hat⟩
    · cases hT
      have hl := hU.long rfl
      refine ⟨⟨hU.le, hU.labels, fun _ => ?_, (fun h => by cases h), .inr ?_⟩, hat⟩
      · show U.at'.toNat ≤ (over U.bytes S.at'.toNat b).length
        rw [over_lenY _ _ _ (by omega)]
        exact hl
      · show U.marks ++ [(S.at', n)] = S.marks ++ [(S.at', n)]
        unfold toF at hq
        split at hq
        · cases hq
        · cases hq; rfl
theorem fmn6 (op : Int) : 0 ≤ (Isa.fm op false).n ∧ (Isa.fm op false).n ≤ 6 := by rcases Isa.fm_is op false with h | h | h | h | h | h | h | h | h | h <;> rw [h] <;> decide
theorem instrF_stp {again : Bool} {S T : St} {n : Int} {ws : List Wd} {op : Int} {k : Nat} (h : StOk S k) (hT : instrF again S n ws op = .ok T) : Stp again S T n := by
  have hs6 := fmn6 op
  unfold instrF at hT
  split at hT
  · rename_i ha
    subst ha
    exact (toF_stp (by omega) hT).1
  · cases hn : namedF S ws op with
    | error e => rw [hn] at hT; cases hT
    | ok l =>
      rw [hn] at hT
      simp only at hT
      cases hr : readF (joinF l) with
      | error e => rw [hr] at hT; cases hT
      | ok t =>
        obtain ⟨o, a, b, i⟩ := t
        rw [hr] at hT
        cases again
        · contradiction
        · exact (layF_stp h.a0 hT).1
theorem align_le {a v : Int} (h0 : 0 ≤ a) (h1 : 1 ≤ v) : a ≤ (a + v - 1) / v * v := by
  have h2 := Int.emod_add_mul_ediv (a + v - 1) v
  have h3 := Int.emod_lt_of_pos (a + v - 1) (show 0 < v by omega)
  have h4 : (a + v - 1) / v * v = v * ((a + v - 1) / v) := Int.mul_comm _ _
  omega
theorem stepF_stp {again : Bool} {S T : St} {n : Int} {ws : List Wd} {k : Nat} (h : StOk S k) (hT : stepF again S n ws = .ok T) : Stp again S T n := by
  have ha := h.a0
  unfold stepF at hT
  simp only at hT
  split at hT
  · cases h1 : oneF ws 0 2147483647 with
    | error e => rw [h1] at hT; cases hT
    | ok v =>
      rw [h1] at hT
      simp only at hT
      split at hT
      · cases hT
      · exact (toF_stp (by omega) hT).1
  split at hT
  · cases h1 : oneF ws 0 2147483647 with
    | error e => rw [h1] at hT; cases hT
    | ok v =>
      have := oneF_bd h1
      rw [h1] at hT
      exact (toF_stp (by omega) hT).1
  split at hT
  · cases h1 : oneF ws 1 64 with
    | error e => rw [h1] at hT; cases hT
    | ok v =>
      have := oneF_bd h1
      rw [h1] at hT
      exact (toF_stp (align_le ha this.1) hT).1
  split at hT
  · split at hT
    · cases hT
    · cases h1 : bytesF again ws.tail with
      | error e => rw [h1] at hT; cases hT
      | ok b => rw [h1] at hT; exact (layF_stp ha hT).1
  split at hT
  · split at hT
    · cases hT
    · cases h1 : wordsL again S.labels ws.tail with
      | error e => rw [h1] at hT; cases hT
      | ok b => rw [h1] at hT; exact (layF_stp ha hT).1
  split at hT
  · split at hT
    · cases hT
    · exact (layF_stp ha hT).1
  · cases ho : opF (ws.headD []) with
    | none => rw [ho] at hT; cases hT
    | some op => rw [ho] at hT; exact instrF_stp h hT

/-- Both passes lay as many bytes. -/
theorem bytesF_len {again : Bool} : ∀ {ws : List Wd} {l : List Int}, bytesF again ws = .ok l → l.length = ws.length
  | [], l, h => by cases h; rfl
  | x :: r, l, h => by
    unfold bytesF at h
    split at h
    · cases h
    · cases hb : bytesF again r with
      | error e' => rw [hb] at h; cases h
      | ok l' => rw [hb] at h; cases h; simp [bytesF_len hb]
theorem wordsL_len {again : Bool} {lb : List (Wd × Int)} : ∀ {ws : List Wd} {l : List Int}, wordsL again lb ws = .ok l → l.length = 4 * ws.length
  | [], l, h => by cases h; rfl
  | x :: r, l, h => by
    unfold wordsL at h
    cases hv : valueF again lb x with
    | error e' => rw [hv] at h; cases h
    | ok v =>
      rw [hv] at h
      simp only at h
      cases hb : wordsL again lb r with
      | error e' => rw [hb] at h; cases h
      | ok l' => rw [hb] at h; cases h; simp [wordsL_len hb, le4]; omega
theorem named_head {S : St} {ws l : List Wd} {op : Int} (hne : ws ≠ []) (h : namedF S ws op = .ok l) : ∃ rest, l = ws.headD [] :: rest := by
  obtain ⟨x, r, rfl⟩ := List.exists_cons_of_ne_nil hne
  unfold namedF at h
  split at h
  · cases h; exact ⟨r, rfl⟩
  · rename_i hc
    simp only [not_or] at hc
    obtain ⟨c1, c2, c3⟩ := hc
    have hk : labelled op = 2 ∨ labelled op = 3 := by revert c1; unfold labelled; split <;> (try split) <;> simp
    obtain ⟨j, hj⟩ : ∃ j, labelled op - 1 = j + 1 := ⟨labelled op - 2, by omega⟩
    cases hv : valueF true S.labels ((x :: r).getD (labelled op - 1) []) with
    | error e => rw [hv] at h; cases h
    | ok v =>
      rw [hv] at h
      simp only at h
      rw [hj] at h
      split at h
      · cases h; exact ⟨r.take j ++ [Lib.itoa v], by simp⟩
      · split at h
        · cases h
        · cases h; exact ⟨r.take j ++ [Lib.itoa (v - (S.at' + (Isa.fm op false).n))], by simp⟩
theorem instrF_agree {S S' T T' : St} {n : Int} {ws : List Wd} {op : Int} {k k' : Nat} (h : StOk S k) (h' : StOk S' k') (ha : S.at' = S'.at') (hne : ws ≠ []) (hop : opF (ws.headD []) = some op) (h1 : instrF false S n ws op = .ok T) (h2 : instrF true S' n ws op = .ok T') : T.at' = T'.at' := by
  have hs6 := fmn6 op
  unfold instrF at h1 h2
  rw [if_pos rfl] at h1
  rw [if_neg (by decide)] at h2
  have e1 := (toF_stp (n := n) (by omega) h1).2
  cases hn : namedF S' ws op with
  | error e => rw [hn] at h2; cases h2
  | ok l =>
    rw [hn] at h2
    simp only at h2
    cases hr : readF (joinF l) with
    | error e => rw [hr] at h2; cases h2
    | ok t =>
      obtain ⟨o, a, b, i⟩ := t
      rw [hr] at h2
      obtain ⟨rest, rfl⟩ := named_head hne hn
      obtain ⟨rfl, hm⟩ := read_first hop hr
      have e2 := (layF_stp h'.a0 h2).2
      rw [encL_len hm] at e2
      omega
theorem stepF_agree {S S' T T' : St} {n : Int} {ws : List Wd} {k k' : Nat} (h : StOk S k) (h' : StOk S' k') (ha : S.at' = S'.at') (hne : ws ≠ []) (h1 : stepF false S n ws = .ok T) (h2 : stepF true S' n ws = .ok T') : T.at' = T'.at' := by
  have h0 := h.a0
  have h0' := h'.a0
  unfold stepF at h1 h2
  simp only at h1 h2
  split at h1
  · rename_i c
    rw [if_pos c] at h2
    cases hv : oneF ws 0 2147483647 with
    | error e => rw [hv] at h1; cases h1
    | ok v =>
      rw [hv] at h1 h2
      simp only at h1 h2
      split at h1
      · cases h1
      · rw [if_neg (by omega)] at h2
        rw [(toF_stp (n := n) (by omega) h1).2, (toF_stp (n := n) (by omega) h2).2]
  rename_i c
  rw [if_neg c] at h2
  split at h1
  · rename_i c
    rw [if_pos c] at h2
    cases hv : oneF ws 0 2147483647 with
    | error e => rw [hv] at h1; cases h1
    | ok v =>
      have := oneF_bd hv
      rw [hv] at h1 h2
      simp only at h1 h2
      rw [(toF_stp (n := n) (by omega) h1).2, (toF_stp (n := n) (by omega) h2).2, ha]
  rename_i c
  rw [if_neg c] at h2
  split at h1
  · rename_i c
    rw [if_pos c] at h2
    cases hv : oneF ws 1 64 with
    | error e => rw [hv] at h1; cases h1
    | ok v =>
      have := oneF_bd hv
      rw [hv] at h1 h2
      simp only at h1 h2
      rw [(toF_stp (n := n) (align_le h0 this.1) h1).2, (toF_stp (n := n) (align_le h0' this.1) h2).2, ha]
  rename_i c
  rw [if_neg c] at h2
  split at h1
  · rename_i c
    rw [if_pos c] at h2
    split at h1
    · cases h1
    · rename_i c
      rw [if_neg c] at h2
      cases hv : bytesF false ws.tail with
      | error e => rw [hv] at h1; cases h1
      | ok b =>
        cases hv2 : bytesF true ws.tail with
        | error e => rw [hv2] at h2; cases h2
        | ok b2 =>
          rw [hv] at h1
          rw [hv2] at h2
          rw [(layF_stp h0 h1).2, (layF_stp h0' h2).2, bytesF_len hv, bytesF_len hv2, ha]
  rename_i c
  rw [if_neg c] at h2
  split at h1
  · rename_i c
    rw [if_pos c] at h2
    split at h1
    · cases h1
    · rename_i c
      rw [if_neg c] at h2
      cases hv : wordsL false S.labels ws.tail with
      | error e => rw [hv] at h1; cases h1
      | ok b =>
        cases hv2 : wordsL true S'.labels ws.tail with
        | error e => rw [hv2] at h2; cases h2
        | ok b2 =>
          rw [hv] at h1
          rw [hv2] at h2
          rw [(layF_stp h0 h1).2, (layF_stp h0' h2).2, wordsL_len hv, wordsL_len hv2, ha]
  rename_i c
  rw [if_neg c] at h2
  split at h1
  · rename_i c
    rw [if_pos c] at h2
    split at h1
    · cases h1
    · rename_i c
      rw [if_neg c] at h2
      rw [(layF_stp h0 h1).2, (layF_stp h0' h2).2, ha]
  · rename_i c
    rw [if_neg c] at h2
    cases ho : opF (ws.headD []) with
    | none => rw [ho] at h1; cases h1
    | some op => rw [ho] at h1 h2; exact instrF_agree h h' ha hne ho h1 h2

/-- What the first pass keeps. -/
structure P1 (S : St) : Prop where
  names : ∀ p ∈ S.labels, nameB p.1 = true
  uniq : S.labels.Pairwise (fun p q => p.1 ≠ q.1)
  up : S.labels.Pairwise (fun p q => p.2 ≤ q.2)
  bd : ∀ p ∈ S.labels, 0 ≤ p.2 ∧ p.2 ≤ S.at'
  none : S.bytes = [] ∧ S.marks = []
/-- What the second keeps. -/
structure P2 (S : St) (n : Int) : Prop where
  lines : S.marks.Pairwise (fun p q => p.1 ≤ q.1 ∧ p.2 < q.2)
  bd : ∀ m ∈ S.marks, 0 ≤ m.1 ∧ m.1 ≤ S.at' ∧ 1 ≤ m.2 ∧ m.2 ≤ n
  long : S.at'.toNat ≤ S.bytes.length
theorem findL_noneP {l : List (Wd × Int)} {s : Wd} (h : findL l s = none) : ∀ p ∈ l, p.1 ≠ s := by
  unfold findL at h
  simp only [Option.map_eq_none_iff, List.find?_eq_none] at h
  intro p hp e
  exact h p hp (by simp [e])
theorem findL_uniq : ∀ {l : List (Wd × Int)}, l.Pairwise (fun p q => p.1 ≠ q.1) → ∀ p ∈ l, findL l p.1 = some p.2
  | [], _, p, hp => by cases hp
  | x :: r, h, p, hp => by
    rw [List.pairwise_cons] at h
    rcases List.mem_cons.1 hp with rfl | hp
    · simp [findL]
    · have hne := h.1 p hp
      have := findL_uniq h.2 p hp
      unfold findL at this ⊢
      rw [List.find?_cons]
      rw [show (x.1 == p.1) = false by simpa using hne]
      exact this
theorem P1.step {S T : St} {n : Int} (h : P1 S) (s : Stp false S T n) : P1 T := by
  have := s.first rfl
  exact ⟨by rw [s.labels]; exact h.names, by rw [s.labels]; exact h.uniq, by rw [s.labels]; exact h.up, by rw [s.labels]; exact fun p hp => ⟨(h.bd p hp).1, Int.le_trans (h.bd p hp).2 s.le⟩, by rw [this.1, this.2]; exact h.none⟩
theorem pairwise_snoc {α : Type} {R : α → α → Prop} {l : List α} {x : α} (h : l.Pairwise R) (hx : ∀ y ∈ l, R y x) : (l ++ [x]).Pairwise R := by
  rw [List.pairwise_append]
  refine ⟨h, by simp, fun a ha b hb => ?_⟩
  have : b = x := by simpa using hb
  rw [this]
  exact hx a ha
theorem P1.label {S : St} {s : Wd} (h : P1 S) (a0 : 0 ≤ S.at') (hf : findL S.labels s = .none) (hn : nameB s = true) : P1 { S with labels := S.labels ++ [(s, S.at')] } := by
  refine ⟨fun p hp => ?_, pairwise_snoc h.uniq (findL_noneP hf), pairwise_snoc h.up (fun p hp => (h.bd p hp).2), fun p hp => ?_, h.none⟩
  · rcases List.mem_append.1 hp with hp | hp
    · exact h.names p hp
    · have : p = (s, S.at') := by simpa using hp
      rw [this]; exact hn
  · rcases List.mem_append.1 hp with hp | hp
    · exact h.bd p hp
    · have : p = (s, S.at') := by simpa using hp
      rw [this]; exact ⟨a0, Int.le_refl _⟩
theorem P2.step {S T : St} {n : Int} (h : P2 S n) (a0 : 0 ≤ S.at') (n0 : 0 ≤ n) (s : Stp true S T (n + 1)) : P2 T (n + 1) := by
  refine ⟨?_, ?_, s.long rfl⟩
  · rcases s.marks with e | e
    · rw [e]; exact h.lines
    · rw [e]; exact pairwise_snoc h.lines (fun p hp => ⟨(h.bd p hp).2.1, by have := (h.bd p hp).2.2.2; simp only; omega⟩)
  · intro m hm
    have hle := s.le
    rcases s.marks with e | e
    · rw [e] at hm; have := h.bd m hm; omega
    · rw [e] at hm
      rcases List.mem_append.1 hm with hm | hm
      · have := h.bd m hm; omega
      · have : m = (S.at', n + 1) := by simpa using hm
        rw [this]
        simp only
        omega
theorem P2.more {S : St} {n : Int} (h : P2 S n) : P2 S (n + 1) := ⟨h.lines, fun m hm => by have := h.bd m hm; omega, h.long⟩

theorem label_first {S T : St} {ws vs : List Wd} {k : Nat} (hk : StOk S k) (h : P1 S) (hl : labelF false S ws = .ok (T, vs)) : P1 T ∧ T.at' = S.at' ∧ StOk T (k + 1) := by
  unfold labelF at hl
  simp only at hl
  split at hl
  · rw [if_neg (by decide)] at hl
    split at hl
    · cases hl
    · rename_i hc
      cases hl
      simp only [not_or] at hc
      obtain ⟨c1, c2⟩ := hc
      refine ⟨h.label hk.a0 (by simpa using c1) (by simpa using c2), rfl, hk.a0, hk.a1, hk.bl, Nat.le_succ_of_le hk.ml, by have := hk.ll; simp; omega, fun p hp => ?_⟩
      rcases List.mem_append.1 hp with hp | hp
      · exact hk.lb p hp
      · have : p = ((ws.headD []).dropLast, S.at') := by simpa using hp
        rw [this]
        exact ⟨hk.a0, hk.a1⟩
  · cases hl
    exact ⟨h, rfl, hk.more (by omega)⟩
theorem label_againP {S T : St} {ws vs : List Wd} (hl : labelF true S ws = .ok (T, vs)) : T = S := by
  unfold labelF at hl
  simp only [↓reduceIte] at hl
  split at hl <;> (cases hl; rfl)
theorem label_same {S S' T T' : St} {ws vs vs' : List Wd} (h1 : labelF false S ws = .ok (T, vs)) (h2 : labelF true S' ws = .ok (T', vs')) : vs = vs' := by
  unfold labelF at h1 h2
  simp only [↓reduceIte, Bool.false_eq_true] at h1 h2
  split at h1
  · rename_i c
    rw [if_pos c] at h2
    split at h1
    · cases h1
    · cases h1; cases h2; rfl
  · rename_i c
    rw [if_neg c] at h2
    cases h1; cases h2; rfl
theorem doF_first {S T : St} {n : Int} {ws : List Wd} {k : Nat} (hk : StOk S k) (h : P1 S) (hT : doF false S n ws = .ok T) : P1 T := by
  unfold doF at hT
  split at hT
  · cases hT; exact h
  · cases hl : labelF false S ws with
    | error e => rw [hl] at hT; cases hT
    | ok t =>
      obtain ⟨U, vs⟩ := t
      rw [hl] at hT
      simp only at hT
      obtain ⟨q1, q2, q3⟩ := label_first hk h hl
      split at hT
      · cases hT; exact q1
      · exact q1.step (stepF_stp q3 hT)
theorem doF_again {S T : St} {n : Int} {ws : List Wd} {k : Nat} (hk : StOk S k) (h : P2 S n) (n0 : 0 ≤ n) (hT : doF true S (n + 1) ws = .ok T) : P2 T (n + 1) ∧ T.labels = S.labels := by
  unfold doF at hT
  split at hT
  · cases hT; exact ⟨h.more, rfl⟩
  · cases hl : labelF true S ws with
    | error e => rw [hl] at hT; cases hT
    | ok t =>
      obtain ⟨U, vs⟩ := t
      rw [hl] at hT
      simp only at hT
      obtain rfl := label_againP hl
      split at hT
      · cases hT; exact ⟨h.more, rfl⟩
      · have s := stepF_stp hk hT
        exact ⟨h.step hk.a0 n0 s, s.labels⟩
theorem doF_agree {S S' T T' : St} {n : Int} {ws : List Wd} {k k' : Nat} (hk : StOk S k) (h : P1 S) (h' : StOk S' k') (ha : S.at' = S'.at') (h1 : doF false S n ws = .ok T) (h2 : doF true S' n ws = .ok T') : T.at' = T'.at' := by
  unfold doF at h1 h2
  split at h1
  · rename_i c
    rw [if_pos c] at h2
    cases h1; cases h2; exact ha
  · rename_i c
    rw [if_neg c] at h2
    cases hl : labelF false S ws with
    | error e => rw [hl] at h1; cases h1
    | ok t =>
      obtain ⟨U, vs⟩ := t
      rw [hl] at h1
      simp only at h1
      cases hl' : labelF true S' ws with
      | error e => rw [hl'] at h2; cases h2
      | ok t' =>
        obtain ⟨U', vs'⟩ := t'
        rw [hl'] at h2
        simp only at h2
        obtain rfl := label_same hl hl'
        obtain rfl := label_againP hl'
        obtain ⟨q1, q2, q3⟩ := label_first hk h hl
        split at h1
        · rename_i cv
          rw [if_pos cv] at h2
          cases h1; cases h2; rw [q2]; exact ha
        · rename_i cv
          rw [if_neg cv] at h2
          exact stepF_agree q3 h' (by rw [q2]; exact ha) cv h1 h2
theorem passF_both : ∀ (L : List (List Wd)) {S S' T T' : St} {n : Int} {k k' : Nat}, StOk S k → P1 S → StOk S' k' → P2 S' n → 0 ≤ n → S.at' = S'.at' → passF false S n L = .ok T → passF true S' n L = .ok T' →
    P1 T ∧ P2 T' (n + (L.length : Int)) ∧ T.at' = T'.at' ∧ T'.labels = S'.labels
  | [], S, S', T, T', n, k, k', hk, h, hk', h', n0, ha, h1, h2 => by
    cases h1; cases h2
    exact ⟨h, by simpa using h', ha, rfl⟩
  | ws :: r, S, S', T, T', n, k, k', hk, h, hk', h', n0, ha, h1, h2 => by
    simp only [passF] at h1 h2
    cases hd : doF false S (n + 1) ws with
    | error e => rw [hd] at h1; cases h1
    | ok U =>
      rw [hd] at h1
      cases hd' : doF true S' (n + 1) ws with
      | error e => rw [hd'] at h2; cases h2
      | ok U' =>
        rw [hd'] at h2
        obtain ⟨q1, q2⟩ := doF_again hk' h' n0 hd'
        obtain ⟨z1, z2, z3, z4⟩ := passF_both r ((doF_both hk).1 U hd) (doF_first hk h hd) ((doF_both hk').1 U' hd') q1 (by omega) (doF_agree hk h hk' ha hd hd') h1 h2
        refine ⟨z1, ?_, z3, z4.trans q2⟩
        have e : n + ((ws :: r).length : Int) = n + 1 + (r.length : Int) := by simp; omega
        rw [e]
        exact z2
theorem passF_first : ∀ (L : List (List Wd)) {S T : St} {n : Int} {k : Nat}, StOk S k → P1 S → passF false S n L = .ok T → P1 T
  | [], S, T, n, k, hk, h, h1 => by cases h1; exact h
  | ws :: r, S, T, n, k, hk, h, h1 => by
    simp only [passF] at h1
    cases hd : doF false S (n + 1) ws with
    | error e => rw [hd] at h1; cases h1
    | ok U =>
      rw [hd] at h1
      exact passF_first r ((doF_both hk).1 U hd) (doF_first hk h hd) h1
theorem passF_ok : ∀ (L : List (List Wd)) {again : Bool} {S T : St} {n : Int} {k : Nat}, StOk S k → passF again S n L = .ok T → StOk T (k + 2 * L.length)
  | [], again, S, T, n, k, hk, h => by cases h; simpa using hk
  | ws :: r, again, S, T, n, k, hk, h => by
    simp only [passF] at h
    cases hd : doF again S (n + 1) ws with
    | error e => rw [hd] at h; cases h
    | ok U =>
      rw [hd] at h
      exact (passF_ok r ((doF_both hk).1 U hd) h).more (by simp; omega)
theorem passF_bad : ∀ (L : List (List Wd)) {again : Bool} {S : St} {n : Int} {k : Nat} {ln er : Int}, StOk S k → passF again S n L = .error (ln, er) → n + 1 ≤ ln ∧ ln ≤ n + (L.length : Int) ∧ er ≠ 0
  | [], again, S, n, k, ln, er, hk, h => by cases h
  | ws :: r, again, S, n, k, ln, er, hk, h => by
    simp only [passF] at h
    cases hd : doF again S (n + 1) ws with
    | error e =>
      rw [hd] at h
      cases h
      exact ⟨Int.le_refl _, by simp; omega, (doF_both hk).2 _ hd⟩
    | ok U =>
      rw [hd] at h
      have := passF_bad r ((doF_both hk).1 U hd) h
      simp
      omega
theorem st0_ok : StOk ⟨0, [], [], []⟩ 0 := ⟨by decide, by decide, by simp, by simp, by simp, by simp⟩

/-- A program's places. -/
structure PlOk (S : St) : Prop where
  names : ∀ p ∈ S.labels, nameB p.1 = true
  find : ∀ p ∈ S.labels, findL S.labels p.1 = some p.2
  up : S.labels.Pairwise (fun p q => p.2 ≤ q.2)
  bd : ∀ p ∈ S.labels, 0 ≤ p.2 ∧ p.2 ≤ (S.bytes.length : Int)
  lines : S.marks.Pairwise (fun p q => p.1 ≤ q.1 ∧ p.2 < q.2)
  mks : ∀ m ∈ S.marks, 0 ≤ m.1 ∧ m.1 ≤ (S.bytes.length : Int) ∧ 1 ≤ m.2
theorem lines_len (L : List UInt8) (h : longB L = false) : (linesF L).length ≤ 513 := by
  unfold longB at h
  simp only [Bool.or_eq_false_iff, decide_eq_false_iff_not] at h
  unfold linesF
  rw [List.length_map, splitC_len]
  have := h.2
  omega
theorem asm_ok {L : List UInt8} {S : St} (h : asmF L = .ok S) : PlOk S ∧ StOk S 3000 := by
  unfold asmF at h
  split at h
  · cases h
  · rename_i hc
    have hl := lines_len L (by simpa using hc)
    cases h1 : passF false ⟨0, [], [], []⟩ 0 (linesF L) with
    | error e => rw [h1] at h; cases h
    | ok U =>
      rw [h1] at h
      simp only at h
      have q0 : P1 ⟨0, [], [], []⟩ := ⟨by simp, by simp, by simp, by simp, rfl, rfl⟩
      have q1 := passF_ok _ st0_ok h1
      have q2 := passF_first _ st0_ok q0 h1
      have q3 : StOk { U with at' := 0 } (0 + 2 * (linesF L).length) := ⟨Int.le_refl _, by simp, q1.bl, q1.ml, q1.ll, q1.lb⟩
      have q4 : P2 { U with at' := 0 } 0 := ⟨by rw [show ({ U with at' := 0 } : St).marks = U.marks from rfl, q2.none.2]; simp, by rw [show ({ U with at' := 0 } : St).marks = U.marks from rfl, q2.none.2]; simp, by simp⟩
      obtain ⟨z1, z2, z3, z4⟩ := passF_both _ st0_ok q0 q3 q4 (Int.le_refl _) rfl h1 h
      have z4 : S.labels = U.labels := z4
      have hlong := z2.long
      refine ⟨⟨by rw [z4]; exact q2.names, by rw [z4]; exact findL_uniq q2.uniq, by rw [z4]; exact q2.up, ?_, z2.lines, fun m hm => ?_⟩, (passF_ok _ q3 h).more (by omega)⟩
      · rw [z4]
        intro p hp
        have := q2.bd p hp
        omega
      · have := z2.bd m hm
        omega
theorem asm_bad {L : List UInt8} {ln er : Int} (h : asmF L = .error (ln, er)) : er ≠ 0 ∧ ((ln = 0 ∧ er = 3 ∧ longB L = true) ∨ (1 ≤ ln ∧ ln ≤ 513)) := by
  unfold asmF at h
  split at h
  · rename_i hc
    cases h
    exact ⟨by decide, .inl ⟨rfl, rfl, hc⟩⟩
  · rename_i hc
    have hl := lines_len L (by simpa using hc)
    cases h1 : passF false ⟨0, [], [], []⟩ 0 (linesF L) with
    | error e =>
      rw [h1] at h
      cases h
      have := passF_bad _ st0_ok h1
      exact ⟨this.2.2, .inr ⟨by omega, by omega⟩⟩
    | ok U =>
      rw [h1] at h
      simp only at h
      have q1 := passF_ok _ st0_ok h1
      have q3 : StOk { U with at' := 0 } (0 + 2 * (linesF L).length) := ⟨Int.le_refl _, by simp, q1.bl, q1.ml, q1.ll, q1.lb⟩
      have := passF_bad _ q3 h
      exact ⟨this.2.2, .inr ⟨by omega, by omega⟩⟩
/-- The line of a place, by the marks. -/
def lineM (ms : List (Int × Int)) (x : Int) : Int := ms.foldl (fun n m => if m.1 ≤ x then m.2 else n) 0
theorem lineM_snoc (ms : List (Int × Int)) (m : Int × Int) (x : Int) : lineM (ms ++ [m]) x = if m.1 ≤ x then m.2 else lineM ms x := by simp [lineM]
theorem line_after : ∀ (ms : List (Int × Int)) (x n : Int), (∀ m ∈ ms, x < m.1) → ms.foldl (fun n m => if m.1 ≤ x then m.2 else n) n = n
  | [], x, n, h => rfl
  | m :: r, x, n, h => by
    rw [List.foldl_cons, if_neg (by have := h m List.mem_cons_self; omega)]
    exact line_after r x n (fun q hq => h q (List.mem_cons_of_mem _ hq))
theorem line_none {ms : List (Int × Int)} {x : Int} (h : ∀ m ∈ ms, x < m.1) : lineM ms x = 0 := line_after ms x 0 h
theorem line_at {ms : List (Int × Int)} (hp : ms.Pairwise (fun p q => p.1 ≤ q.1 ∧ p.2 < q.2)) {k : Nat} {m : Int × Int} (hk : ms[k]? = some m) (hn : ∀ q, ms[k + 1]? = some q → m.1 < q.1) : lineM ms m.1 = m.2 := by
  have hkl := (List.getElem?_eq_some_iff.1 hk).1
  have hm := (List.getElem?_eq_some_iff.1 hk).2
  have e : ms = ms.take k ++ m :: ms.drop (k + 1) := by
    rw [← hm, List.getElem_cons_drop, List.take_append_drop]
  unfold lineM
  rw [e, List.foldl_append, List.foldl_cons, if_pos (Int.le_refl _)]
  refine line_after _ _ _ (fun q hq => ?_)
  cases hd : ms.drop (k + 1) with
  | nil => rw [hd] at hq; cases hq
  | cons y r =>
    have hy : ms[k + 1]? = some y := by rw [← List.head?_drop, hd]; rfl
    have h1 := hn y hy
    have hpd : (ms.drop (k + 1)).Pairwise (fun p q => p.1 ≤ q.1 ∧ p.2 < q.2) := hp.drop
    rw [hd] at hq hpd
    rw [List.pairwise_cons] at hpd
    rcases List.mem_cons.1 hq with rfl | hq
    · exact h1
    · have := (hpd.1 q hq).1
      omega
end Go.Proofs.YtgfljokamgbcaaaDoor
