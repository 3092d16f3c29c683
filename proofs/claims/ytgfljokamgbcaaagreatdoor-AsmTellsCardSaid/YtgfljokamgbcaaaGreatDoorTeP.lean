/- A slice of instructions that came in as an argument. asm, plainly: where its labels and marks stand. asm, plainly: a jump to a label, and where it leads. The document's Assemble, plainly, and that it tells what asm's text makes. The document's lines, as its loop makes them. The document's second pass, line by line. -/
import Derived.Test.YtgfljokamgbcaaaGreatDoorFlat
import Derived.Deep.Slices
import Derived.Test.YtgfljokamgbcaaaGreatDoorAsY
import Derived.Test.YtgfljokamgbcaaaGreatDoorIsaE
namespace Go.Proofs.YtgfljokamgbcaaaGreatDoor
open Go.ChangeShapes Go.WideShapes Go.RowKit Go.Deep
set_option linter.unusedSimpArgs false
set_option linter.unusedVariables false

/-- An instruction, its four numbers within their kinds. -/
structure InsR where
  op : Int
  a : Int
  b : Int
  imm : Int
  ok : 0 ≤ op ∧ op < 256 ∧ 0 ≤ a ∧ a < 256 ∧ 0 ≤ b ∧ b < 256 ∧ -2147483648 ≤ imm ∧ imm < 2147483648

def InsR.cells (r : InsR) : List Value := [.int .u8 r.op, .int .u8 r.a, .int .u8 r.b, .int .i32 r.imm]

end Go.Proofs.YtgfljokamgbcaaaGreatDoor
namespace Go.Proofs.YtgfljokamgbcaaaGreatDoor
open Go.RowKit
set_option linter.unusedSimpArgs false
set_option linter.unusedVariables false

/-- What one line's step does to a text's places. -/
structure Stp (again : Bool) (S T : St) (n : Int) : Prop where
  le : S.at' ≤ T.at'
  labels : T.labels = S.labels
  long : again = true → T.at'.toNat ≤ T.bytes.length
  first : again = false → T.bytes = S.bytes ∧ T.marks = S.marks
  marks : T.marks = S.marks ∨ T.marks = S.marks ++ [(S.at', n)]
theorem fmn6 (op : Int) : 0 ≤ (Isa.fm op false).n ∧ (Isa.fm op false).n ≤ 6 := by rcases Isa.fm_is op false with h | h | h | h | h | h | h | h | h | h <;> rw [h] <;> decide
theorem align_le {a v : Int} (h0 : 0 ≤ a) (h1 : 1 ≤ v) : a ≤ (a + v - 1) / v * v := by
  have h2 := Int.emod_add_mul_ediv (a + v - 1) v
  have h3 := Int.emod_lt_of_pos (a + v - 1) (show 0 < v by omega)
  have h4 : (a + v - 1) / v * v = v * ((a + v - 1) / v) := Int.mul_comm _ _
  omega
/-- Both passes lay as many bytes. -/
theorem bytesF_len {again : Bool} : ∀ {ws : List Wd} {l : List Int}, bytesF again ws = .ok l → l.length = ws.length
  | [], l, h => by cases h; rfl
  | x :: r, l, h => by
    unfold bytesF at h
    split at h
    · cases h
    · cases hb : bytesF again r with
      | error e' => rw [hb] at h; cases h
      | ok l' => rw [hb] at h; cases h; simp [bytesF_len hb]
theorem wordsL_len {again : Bool} {lb : List (Wd × Int)} : ∀ {ws : List Wd} {l : List Int}, wordsL again lb ws = .ok l → l.length = 4 * ws.length
  | [], l, h => by cases h; rfl
  | x :: r, l, h => by
    unfold wordsL at h
    cases hv : valueF again lb x with
    | error e' => rw [hv] at h; cases h
    | ok v =>
      rw [hv] at h
      simp only at h
      cases hb : wordsL again lb r with
      | error e' => rw [hb] at h; cases h
      | ok l' => rw [hb] at h; cases h; simp [wordsL_len hb, le4]; omega
theorem named_head {S : St} {ws l : List Wd} {op : Int} (hne : ws ≠ []) (h : namedF S ws op = .ok l) : ∃ rest, l = ws.headD [] :: rest := by
  obtain ⟨x, r, rfl⟩ := List.exists_cons_of_ne_nil hne
  unfold namedF at h
  split at h
  · cases h; exact ⟨r, rfl⟩
  · rename_i hc
    simp only [not_or] at hc
    obtain ⟨c1, c2, c3⟩ := hc
    have hk : labelled op = 2 ∨ labelled op = 3 := by revert c1; unfold labelled; split <;> (try split) <;> simp
    obtain ⟨j, hj⟩ : ∃ j, labelled op - 1 = j + 1 := ⟨labelled op - 2, by omega⟩
    cases hv : valueF true S.labels ((x :: r).getD (labelled op - 1) []) with
    | error e => rw [hv] at h; cases h
    | ok v =>
      rw [hv] at h
      simp only at h
      rw [hj] at h
      split at h
      · cases h; exact ⟨r.take j ++ [Lib.itoa v], by simp⟩
      · split at h
        · cases h
        · cases h; exact ⟨r.take j ++ [Lib.itoa (v - (S.at' + (Isa.fm op false).n))], by simp⟩
/-- What the first pass keeps. -/
structure P1 (S : St) : Prop where
  names : ∀ p ∈ S.labels, nameB p.1 = true
  uniq : S.labels.Pairwise (fun p q => p.1 ≠ q.1)
  up : S.labels.Pairwise (fun p q => p.2 ≤ q.2)
  bd : ∀ p ∈ S.labels, 0 ≤ p.2 ∧ p.2 ≤ S.at'
  none : S.bytes = [] ∧ S.marks = []
/-- What the second keeps. -/
structure P2 (S : St) (n : Int) : Prop where
  lines : S.marks.Pairwise (fun p q => p.1 ≤ q.1 ∧ p.2 < q.2)
  bd : ∀ m ∈ S.marks, 0 ≤ m.1 ∧ m.1 ≤ S.at' ∧ 1 ≤ m.2 ∧ m.2 ≤ n
  long : S.at'.toNat ≤ S.bytes.length
theorem findL_noneP {l : List (Wd × Int)} {s : Wd} (h : findL l s = none) : ∀ p ∈ l, p.1 ≠ s := by
  unfold findL at h
  simp only [Option.map_eq_none_iff, List.find?_eq_none] at h
  intro p hp e
  exact h p hp (by simp [e])
theorem P1.step {S T : St} {n : Int} (h : P1 S) (s : Stp false S T n) : P1 T := by
  have := s.first rfl
  exact ⟨by rw [s.labels]; exact h.names, by rw [s.labels]; exact h.uniq, by rw [s.labels]; exact h.up, by rw [s.labels]; exact fun p hp => ⟨(h.bd p hp).1, Int.le_trans (h.bd p hp).2 s.le⟩, by rw [this.1, this.2]; exact h.none⟩
theorem pairwise_snoc {α : Type} {R : α → α → Prop} {l : List α} {x : α} (h : l.Pairwise R) (hx : ∀ y ∈ l, R y x) : (l ++ [x]).Pairwise R := by
  rw [List.pairwise_append]
  refine ⟨h, by simp, fun a ha b hb => ?_⟩
  have : b = x := by simpa using hb
  rw [this]
  exact hx a ha
theorem P1.label {S : St} {s : Wd} (h : P1 S) (a0 : 0 ≤ S.at') (hf : findL S.labels s = .none) (hn : nameB s = true) : P1 { S with labels := S.labels ++ [(s, S.at')] } := by
  refine ⟨fun p hp => ?_, pairwise_snoc h.uniq (findL_noneP hf), pairwise_snoc h.up (fun p hp => (h.bd p hp).2), fun p hp => ?_, h.none⟩
  · rcases List.mem_append.1 hp with hp | hp
    · exact h.names p hp
    · have : p = (s, S.at') := by simpa using hp
      rw [this]; exact hn
  · rcases List.mem_append.1 hp with hp | hp
    · exact h.bd p hp
    · have : p = (s, S.at') := by simpa using hp
      rw [this]; exact ⟨a0, Int.le_refl _⟩
theorem P2.step {S T : St} {n : Int} (h : P2 S n) (a0 : 0 ≤ S.at') (n0 : 0 ≤ n) (s : Stp true S T (n + 1)) : P2 T (n + 1) := by
  refine ⟨?_, ?_, s.long rfl⟩
  · rcases s.marks with e | e
    · rw [e]; exact h.lines
    · rw [e]; exact pairwise_snoc h.lines (fun p hp => ⟨(h.bd p hp).2.1, by have := (h.bd p hp).2.2.2; simp only; omega⟩)
  · intro m hm
    have hle := s.le
    rcases s.marks with e | e
    · rw [e] at hm; have := h.bd m hm; omega
    · rw [e] at hm
      rcases List.mem_append.1 hm with hm | hm
      · have := h.bd m hm; omega
      · have : m = (S.at', n + 1) := by simpa using hm
        rw [this]
        simp only
        omega
theorem P2.more {S : St} {n : Int} (h : P2 S n) : P2 S (n + 1) := ⟨h.lines, fun m hm => by have := h.bd m hm; omega, h.long⟩

end Go.Proofs.YtgfljokamgbcaaaGreatDoor
namespace Go.Proofs.YtgfljokamgbcaaaGreatDoor
open Go.RowKit
set_option linter.unusedSimpArgs false
set_option linter.unusedVariables false

def ldiN : Nm := ⟨[108, 100, 105], 32, 114, 0, true⟩
theorem ldi_in : ldiN ∈ nmTab := by decide
theorem may_ldi (v : Int) : Isa.mayB (Isa.fm 32 true) 0 0 v = true := by simp [Isa.mayB, Isa.fitsB, Isa.fm]
theorem jump_fm {op : Int} (h0 : 64 ≤ op) (h1 : op ≤ 72) (host : Bool) : Isa.fm op host = ⟨3, 0, 0, 2, 1⟩ := by
  unfold Isa.fm
  rw [if_neg (by omega), if_neg (by omega), if_neg (by omega), if_neg (by omega), if_neg (by omega), if_neg (by omega), if_pos (by omega)]
end Go.Proofs.YtgfljokamgbcaaaGreatDoor
namespace Go.Proofs.YtgfljokamgbcaaaGreatDoor
open Go.RowKit
set_option linter.unusedSimpArgs false
set_option linter.unusedVariables false

/-- The document's lines: none behind the last line's end. -/
def linesD (L : List UInt8) : List (List Wd) := if L = [] ∨ L.getLast? = some 10 then (linesF L).dropLast else linesF L
def dirW (w : Wd) : Bool := decide (w = wOrg) || (decide (w = wSpace) || decide (w = wAlign))
/-- How a line without its label turns the place. -/
def stepD (l : List Wd) (at' : Int) : Except Int Int :=
  let w := l.headD []
  let cap (t : Int) : Except Int Int := if 4096 < t then .error 311 else .ok t
  if dirW w = true then
    (if l.length ≠ 2 then .error 312 else
      match numF (l.getD 1 []) with
      | none => .error 41
      | some v => if v < 0 ∨ w = wAlign ∧ (v < 1 ∨ 64 < v) then .error 41 else
        if w = wOrg then (if v < at' then .error 311 else cap v)
        else if w = wSpace then cap (at' + v)
        else cap ((at' + v - 1) / v * v))
  else if w = wByte ∨ w = wWord then (if l.length < 2 then .error 312 else cap (at' + (if w = wWord then 4 * ((l.length : Int) - 1) else (l.length : Int) - 1)))
  else if w = wText then (if l.length ≠ 2 then .error 312 else cap (at' + ((l.getD 1 []).length : Int)))
  else match opF w with
    | none => .error 40
    | some op => cap (at' + (Isa.fm op false).n)
theorem bytes_first : ∀ ws : List Wd, ∃ b, bytesF false ws = .ok b
  | [] => ⟨[], rfl⟩
  | x :: r => by
    obtain ⟨b, hb⟩ := bytes_first r
    unfold bytesF
    rw [if_neg (by simp), hb]
    exact ⟨_, rfl⟩
theorem words_first (lb : List (Wd × Int)) : ∀ ws : List Wd, ∃ b, wordsL false lb ws = .ok b
  | [] => ⟨[], rfl⟩
  | x :: r => by
    obtain ⟨b, hb⟩ := words_first lb r
    have hv : valueF false lb x = .ok 0 := by unfold valueF; rw [if_pos rfl]
    unfold wordsL
    rw [hv]
    simp only
    rw [hb]
    exact ⟨_, rfl⟩
def passD (lb : List (Wd × Int)) (at' : Int) (n : Int) : List (List Wd) → Except (Int × Int) (List (Wd × Int) × Int)
  | [] => .ok (lb, at')
  | ws :: r =>
    if (ws.headD []).getLast? = some 58 then
      (if nameB (ws.headD []).dropLast = false ∨ (findL lb (ws.headD []).dropLast).isSome then .error (n + 1, 310) else
        if ws.tail = [] then passD (lb ++ [((ws.headD []).dropLast, at')]) at' (n + 1) r else
          match stepD ws.tail at' with
          | .error e => .error (n + 1, e)
          | .ok t => passD (lb ++ [((ws.headD []).dropLast, at')]) t (n + 1) r)
    else if ws = [] then passD lb at' (n + 1) r else
      match stepD ws at' with
      | .error e => .error (n + 1, e)
      | .ok t => passD lb t (n + 1) r
theorem words_no32 : ∀ (l cur : List UInt8), (∀ c ∈ cur, c ≠ 32) → ∀ w ∈ cutGo l cur, ∀ c ∈ w, c ≠ 32
  | [], cur, h, w, hw => by
    unfold cutGo at hw
    split at hw
    · cases hw
    · have : w = cur := by simpa using hw
      rw [this]; exact h
  | c :: r, cur, h, w, hw => by
    unfold cutGo at hw
    split at hw
    · split at hw
      · exact words_no32 r [] (by simp) w hw
      · rcases List.mem_cons.1 hw with e | e
        · rw [e]; exact h
        · exact words_no32 r [] (by simp) w e
    · rename_i hb
      refine words_no32 r (cur ++ [c]) (fun d hd => ?_) w hw
      rcases List.mem_append.1 hd with hd | hd
      · exact h d hd
      · have : d = c := by simpa using hd
        rw [this]
        intro e
        subst e
        exact hb rfl
/-- A word is a number as the document reads it. -/
theorem number_numF {s : Wd} (h : ∀ c ∈ s, c ≠ 32) : numberF s = match numF s with | some n => (n, true) | none => (0, false) := by
  have hsp : splitF (ldiW ++ s) = [[108, 100, 105], [114, 48], s] := by
    have e : ldiW ++ s = [108, 100, 105] ++ 32 :: ([114, 48] ++ 32 :: s) := by simp [ldiW]
    have e3 : splitF s = [s] := by
      have := split_join [] s (by simpa using h)
      simpa [joinF] using this
    rw [e, split_word _ _ (by decide), split_word _ _ (by decide), e3]
  have hfd : nmTab.find? (fun n => decide (n.word = [108, 100, 105])) = some ldiN := find_key ldi_in _ (by decide) (fun m hm hh => word_uniq ldi_in hm (of_decide_eq_true hh))
  have hfd2 : nmTab.find? (fun n => decide (n.word = ([[108, 100, 105], [114, 48], s] : List (List UInt8)).headD [])) = some ldiN := hfd
  have hof : ofF ldiN [[108, 100, 105], [114, 48], s] = match numF s with | none => .error 41 | some i => .ok (0, 0, i) := by
    have hw : ldiN.want = 3 := by decide
    have ha : oA ldiN [[108, 100, 105], [114, 48], s] = some 0 := rfl
    have hb : oB ldiN [[108, 100, 105], [114, 48], s] = some 0 := rfl
    unfold ofF
    rw [hw, if_pos (show ([[108, 100, 105], [114, 48], s] : List (List UInt8)).length = 3 from rfl), ha]
    simp only
    rw [hb]
    simp only
    rw [if_pos (show ldiN.imm = true from rfl)]
    have hp : ([[108, 100, 105], [114, 48], s] : List (List UInt8)).getD (pI ldiN) [] = s := by
      have : pI ldiN = 2 := by decide
      rw [this]
      rfl
    rw [hp, show ldiN.op = 32 from rfl]
    cases numF s with
    | none => rfl
    | some i => simp only; rw [if_pos (may_ldi i)]
  unfold numberF readF
  rw [hsp]
  rw [if_neg (by simp), hfd2]
  simp only
  rw [hof]
  cases numF s <;> rfl
theorem numF_bds {s : Wd} {n : Int} (h : numF s = some n) : -2147483648 ≤ n ∧ n < 2147483648 := numF_bd h
/-- A word that is no blank. -/
abbrev WOk (l : List Wd) : Prop := ∀ w ∈ l, w ≠ [] ∧ ∀ c ∈ w, c ≠ 32
theorem one_numF {l : List Wd} (hw : WOk l) (lo hi : Int) : oneF l lo hi = if l.length ≠ 2 then .error 312 else match numF (l.getD 1 []) with
    | none => .error 41
    | some v => if v < lo ∨ hi < v then .error 41 else .ok v := by
  unfold oneF
  split
  · rfl
  · rename_i hl
    have hl2 : l.length = 2 := by omega
    have hm : l.getD 1 [] ∈ l := by
      rw [List.getD_eq_getElem?_getD, List.getElem?_eq_getElem (by omega)]
      exact List.getElem_mem _
    rw [number_numF (hw _ hm).2]
    cases numF (l.getD 1 []) with
    | none => simp
    | some v => simp
/-- The first pass' step is the document's. -/
theorem step_first {l : List Wd} (hw : WOk l) (S : St) (n : Int) (a0 : 0 ≤ S.at') : stepF false S n l = match stepD l S.at' with | .error e => .error e | .ok t => .ok { S with at' := t } := by
  have hto : ∀ t, toF false S t = if 4096 < t then .error 311 else .ok { S with at' := t } := fun t => by unfold toF; rfl
  have hcap : ∀ t : Int, (match (if 4096 < t then Except.error 311 else .ok t : Except Int Int) with | .error e => Except.error e | .ok t => .ok { S with at' := t }) = toF false S t := fun t => by
    rw [hto]
    split
    · rename_i h; split at h <;> simp_all
    · rename_i h; split at h <;> simp_all
  unfold stepF stepD
  simp only
  by_cases w1 : l.headD [] = wOrg
  · rw [if_pos w1, w1, if_pos (show dirW wOrg = true by decide), one_numF hw]
    by_cases hl : l.length ≠ 2
    · rw [if_pos hl, if_pos hl]
    · rw [if_neg hl, if_neg hl]
      cases hn : numF (l.getD 1 []) with
      | none => rfl
      | some v =>
        have := numF_bds hn
        simp only
        by_cases hv : v < 0
        · rw [if_pos (.inl hv), if_pos (.inl hv)]
        · rw [if_neg (by omega), if_neg (by simp [show wOrg ≠ wAlign by decide]; omega), if_pos trivial]
          simp only
          by_cases hf : v < S.at'
          · rw [if_pos hf, if_pos hf]
          · rw [if_neg hf, if_neg hf, ← hcap]
  rw [if_neg w1]
  by_cases w2 : l.headD [] = wSpace
  · rw [if_pos w2, w2, if_pos (show dirW wSpace = true by decide), one_numF hw]
    by_cases hl : l.length ≠ 2
    · rw [if_pos hl, if_pos hl]
    · rw [if_neg hl, if_neg hl]
      cases hn : numF (l.getD 1 []) with
      | none => rfl
      | some v =>
        have := numF_bds hn
        simp only
        by_cases hv : v < 0
        · rw [if_pos (.inl hv), if_pos (.inl hv)]
        · rw [if_neg (by omega), if_neg (by simp [show wSpace ≠ wAlign by decide]; omega), if_neg (show wSpace ≠ wOrg by decide), if_pos trivial]
          simp only
          rw [← hcap]
  rw [if_neg w2]
  by_cases w3 : l.headD [] = wAlign
  · rw [if_pos w3, w3, if_pos (show dirW wAlign = true by decide), one_numF hw]
    by_cases hl : l.length ≠ 2
    · rw [if_pos hl, if_pos hl]
    · rw [if_neg hl, if_neg hl]
      cases hn : numF (l.getD 1 []) with
      | none => rfl
      | some v =>
        simp only
        by_cases hv : v < 1 ∨ 64 < v
        · rw [if_pos hv, if_pos (.inr ⟨trivial, hv⟩)]
        · rw [if_neg hv, if_neg (by simp; omega), if_neg (show wAlign ≠ wOrg by decide), if_neg (show wAlign ≠ wSpace by decide)]
          simp only
          rw [← hcap]
  rw [if_neg w3]
  have hd : dirW (l.headD []) = false := by unfold dirW; rw [decide_eq_false w1, decide_eq_false w2, decide_eq_false w3]; rfl
  rw [hd, if_neg Bool.false_ne_true]
  by_cases w4 : l.headD [] = wByte
  · rw [if_pos w4, if_pos (show l.headD [] = wByte ∨ l.headD [] = wWord from .inl w4)]
    by_cases hl : l.length < 2
    · rw [if_pos hl, if_pos hl]
    · rw [if_neg hl, if_neg hl]
      obtain ⟨b, hb⟩ : ∃ b, bytesF false l.tail = .ok b := bytes_first _
      rw [hb]
      simp only
      have hlen := bytesF_len hb
      unfold layF
      rw [show ((b.length : Nat) : Int) = (l.length : Int) - 1 by rw [hlen, List.length_tail]; omega]
      rw [w4, if_neg (show wByte ≠ wWord by decide), hcap]
      cases toF false S (S.at' + ((l.length : Int) - 1)) <;> rfl
  rw [if_neg w4]
  by_cases w5 : l.headD [] = wWord
  · rw [if_pos w5, if_pos (show l.headD [] = wByte ∨ l.headD [] = wWord from .inr w5)]
    by_cases hl : l.length < 2
    · rw [if_pos hl, if_pos hl]
    · rw [if_neg hl, if_neg hl]
      obtain ⟨b, hb⟩ : ∃ b, wordsL false S.labels l.tail = .ok b := words_first _ _
      rw [hb]
      simp only
      have hlen := wordsL_len hb
      unfold layF
      rw [show ((b.length : Nat) : Int) = 4 * ((l.length : Int) - 1) by rw [hlen, List.length_tail]; omega]
      rw [w5, if_pos rfl, hcap]
      cases toF false S (S.at' + 4 * ((l.length : Int) - 1)) <;> rfl
  rw [if_neg w5, if_neg (show ¬ (l.headD [] = wByte ∨ l.headD [] = wWord) from fun h => h.elim w4 w5)]
  by_cases w6 : l.headD [] = wText
  · rw [if_pos w6, if_pos w6]
    by_cases hl : l.length ≠ 2
    · rw [if_pos hl, if_pos hl]
    · rw [if_neg hl, if_neg hl]
      unfold layF
      rw [show ((textL (l.getD 1 [])).length : Int) = ((l.getD 1 []).length : Int) by unfold textL; simp, hcap]
      cases toF false S (S.at' + ((l.getD 1 []).length : Int)) <;> rfl
  rw [if_neg w6, if_neg w6]
  cases opF (l.headD []) with
  | none => rfl
  | some op =>
    simp only
    unfold instrF
    rw [if_pos rfl, hcap]

theorem label_firstD {S : St} {ws : List Wd} : labelF false S ws = if (ws.headD []).getLast? = some 58 then
    (if nameB (ws.headD []).dropLast = false ∨ (findL S.labels (ws.headD []).dropLast).isSome then .error 310 else .ok ({ S with labels := S.labels ++ [((ws.headD []).dropLast, S.at')] }, ws.tail)) else .ok (S, ws) := by
  unfold labelF
  simp only [Bool.false_eq_true, ↓reduceIte]
  split
  · by_cases c : nameB (ws.headD []).dropLast = false ∨ (findL S.labels (ws.headD []).dropLast).isSome
    · rw [if_pos c, if_pos (Or.symm c)]
    · rw [if_neg c, if_neg (fun h => c (Or.symm h))]
  · rfl
theorem wok_tail {l : List Wd} (h : WOk l) : WOk l.tail := fun w hw => h w (List.mem_of_mem_tail hw)
theorem stepD_le {l : List Wd} {a t : Int} (a0 : 0 ≤ a) (h : stepD l a = .ok t) : a ≤ t ∧ t ≤ 4096 := by
  have hc : ∀ x : Int, (if 4096 < x then Except.error 311 else .ok x : Except Int Int) = .ok t → t = x ∧ x ≤ 4096 := fun x hx => by
    split at hx
    · cases hx
    · cases hx; exact ⟨rfl, by omega⟩
  unfold stepD at h
  simp only at h
  split at h
  · split at h
    · cases h
    · cases hn : numF (l.getD 1 []) with
      | none => rw [hn] at h; cases h
      | some v =>
        rw [hn] at h
        simp only at h
        split at h
        · cases h
        · rename_i hv
          split at h
          · split at h
            · cases h
            · have := hc _ h; omega
          · split at h
            · have := hc _ h; omega
            · rename_i w1 w2 w3
              have h1 := hc _ h
              by_cases hz : 1 ≤ v
              · have := align_le a0 hz; omega
              · exfalso
                have hd : dirW (l.headD []) = true := by assumption
                unfold dirW at hd
                simp only [Bool.or_eq_true, decide_eq_true_eq] at hd
                rcases hd with hd | hd | hd
                · exact w2 hd
                · exact w3 hd
                · exact hv (.inr ⟨hd, .inl (by omega)⟩)
  · split at h
    · split at h
      · cases h
      · rename_i hl
        have := hc _ h
        split at this <;> omega
    · split at h
      · split at h
        · cases h
        · have := hc _ h; omega
      · cases ho : opF (l.headD []) with
        | none => rw [ho] at h; cases h
        | some op =>
          rw [ho] at h
          have := hc _ h
          have := fmn6 op
          omega
/-- The first pass is the document's. -/
theorem pass_firstD : ∀ (ls : List (List Wd)) (S : St) (n : Int), 0 ≤ S.at' → (∀ l ∈ ls, WOk l) → passF false S n ls = match passD S.labels S.at' n ls with
    | .error e => .error e
    | .ok (lb, t) => .ok { S with labels := lb, at' := t }
  | [], S, n, a0, hw => by simp [passF, passD]
  | ws :: r, S, n, a0, hw => by
    have hws := hw ws List.mem_cons_self
    have hr : ∀ l ∈ r, WOk l := fun l hl => hw l (List.mem_cons_of_mem _ hl)
    have key : ∀ (T : St) (vs : List Wd), 0 ≤ T.at' → WOk vs → T.bytes = S.bytes → T.marks = S.marks → (match stepF false T (n + 1) vs with | .error e => Except.error (n + 1, e) | .ok U => passF false U (n + 1) r) = match (match stepD vs T.at' with | .error e => Except.error (n + 1, e) | .ok t => passD T.labels t (n + 1) r) with
        | .error e => .error e
        | .ok (lb, t) => .ok { S with labels := lb, at' := t } := by
      intro T vs t0 hv h1 h2
      rw [step_first hv T (n + 1) t0]
      cases hs : stepD vs T.at' with
      | error e => rfl
      | ok t =>
        simp only
        have ht : 0 ≤ t := by
          have := stepD_le t0 hs
          omega
        rw [pass_firstD r { T with at' := t } (n + 1) ht hr]
        simp only
        cases passD T.labels t (n + 1) r with
        | error e => rfl
        | ok p => simp only [h1, h2]
    simp only [passF, passD]
    unfold doF
    by_cases c0 : ws = []
    · subst c0
      rw [if_pos rfl]
      simp only [List.headD_nil, List.getLast?_nil]
      rw [if_neg (by simp), if_pos trivial]
      exact pass_firstD r S (n + 1) a0 hr
    rw [if_neg c0, label_firstD]
    by_cases c1 : (ws.headD []).getLast? = some 58
    · rw [if_pos c1, if_pos c1]
      by_cases c2 : nameB (ws.headD []).dropLast = false ∨ (findL S.labels (ws.headD []).dropLast).isSome
      · rw [if_pos c2, if_pos c2]
      · rw [if_neg c2, if_neg c2]
        simp only
        by_cases c3 : ws.tail = []
        · rw [if_pos c3, if_pos c3]
          simp only
          exact pass_firstD r { S with labels := S.labels ++ [((ws.headD []).dropLast, S.at')] } (n + 1) a0 hr
        · rw [if_neg c3, if_neg c3]
          exact key { S with labels := S.labels ++ [((ws.headD []).dropLast, S.at')] } ws.tail a0 (wok_tail hws) rfl rfl
    · rw [if_neg c1, if_neg c1]
      simp only
      rw [if_neg c0, if_neg c0]
      exact key S ws a0 hws rfl rfl

/-! The bytes of a line. -/
def bytesD : List Wd → Except Int (List Int)
  | [] => .ok []
  | x :: r => match numF x with
    | none => .error 41
    | some v => if v < 0 ∨ 255 < v then .error 41 else match bytesD r with
      | .error e => .error e
      | .ok l => .ok (v :: l)
def valueD (lb : List (Wd × Int)) (s : Wd) : Except Int Int :=
  if letterB (s.headD 0) then (match findL lb s with | some a => .ok a | none => .error 310) else match numF s with | some v => .ok v | none => .error 41
def wordsD (lb : List (Wd × Int)) : List Wd → Except Int (List Int)
  | [] => .ok []
  | x :: r => match valueD lb x with
    | .error e => .error e
    | .ok v => match wordsD lb r with
      | .error e => .error e
      | .ok l => .ok (le4 v ++ l)
def jumpB (op : Int) : Bool := decide (64 ≤ op ∧ op ≤ 72)
/-- A line's last word, if it is a label, as a number. -/
def lastD (lb : List (Wd × Int)) (l : List Wd) (op at' : Int) : Except Int (List Wd) :=
  if ((jumpB op = true ∧ l.length = 2) ∨ (op = 32 ∧ l.length = 3)) ∧ letterB ((l.getD (l.length - 1) []).headD 0) = true then
    match findL lb (l.getD (l.length - 1) []) with
    | none => .error 310
    | some v => if jumpB op = true then (if v - at' - 3 < -32768 ∨ 32767 < v - at' - 3 then .error 311 else .ok (l.take (l.length - 1) ++ [Lib.itoa (v - at' - 3)]))
      else .ok (l.take (l.length - 1) ++ [Lib.itoa v])
  else .ok l
def instrD (lb : List (Wd × Int)) (l : List Wd) (op at' : Int) : Except Int (List Int) :=
  match lastD lb l op at' with
  | .error e => .error e
  | .ok l' => match readF (joinF l') with
    | .error e => .error e
    | .ok (o, a, b, i) => .ok (Isa.encL (Isa.fm o false) o a b i)
def laidD (lb : List (Wd × Int)) (l : List Wd) (at' : Int) : Except Int (List Int) :=
  if l.headD [] = wByte then bytesD l.tail
  else if l.headD [] = wWord then wordsD lb l.tail
  else if l.headD [] = wText then .ok (textL (l.getD 1 []))
  else match opF (l.headD []) with
    | none => .error 40
    | some op => instrD lb l op at'
theorem bytes_againD : ∀ {l : List Wd}, WOk l → bytesF true l = bytesD l
  | [], _ => rfl
  | x :: r, h => by
    have hx := h x List.mem_cons_self
    unfold bytesF bytesD
    rw [number_numF hx.2, bytes_againD (fun w hw => h w (List.mem_cons_of_mem _ hw))]
    cases numF x with
    | none => simp
    | some v =>
      simp only [true_and]
      by_cases c : v < 0 ∨ 255 < v
      · rw [if_pos (.inr c), if_pos c]
      · rw [if_neg (by simpa using c), if_neg c, show v % 256 = v by omega]
        cases bytesD r <;> rfl
theorem value_againD {lb : List (Wd × Int)} {s : Wd} (h : ∀ c ∈ s, c ≠ 32) : valueF true lb s = valueD lb s := by
  unfold valueF valueD
  rw [if_neg (by decide)]
  split
  · rfl
  · rw [number_numF h]
    cases numF s <;> simp
theorem words_againD {lb : List (Wd × Int)} : ∀ {l : List Wd}, WOk l → wordsL true lb l = wordsD lb l
  | [], _ => rfl
  | x :: r, h => by
    unfold wordsL wordsD
    rw [value_againD (h x List.mem_cons_self).2, words_againD (fun w hw => h w (List.mem_cons_of_mem _ hw))]
    cases valueD lb x with
    | error e => rfl
    | ok v => cases wordsD lb r <;> rfl
theorem named_againD {S : St} {l : List Wd} {op : Int} (h : StOk S 100000) : namedF S l op = lastD S.labels l op S.at' := by
  have hlab : labelled op = if jumpB op = true then 2 else if op = 32 then 3 else 0 := by
    unfold labelled jumpB
    simp only [decide_eq_true_eq]
    by_cases c : 64 ≤ op ∧ op ≤ 72
    · rw [if_pos (show (64 ≤ op ∧ op ≤ 71) ∨ op = 72 by omega), if_pos c]
    · rw [if_neg (show ¬ ((64 ≤ op ∧ op ≤ 71) ∨ op = 72) by omega), if_neg c]
  have hbd : ∀ v, findL S.labels (l.getD (labelled op - 1) []) = some v → 0 ≤ v ∧ v ≤ 4096 := fun v hv => by
    obtain ⟨p, hp, rfl⟩ := find_mem hv
    exact h.lb p hp
  have ha := h.a0
  have ha1 := h.a1
  unfold namedF lastD
  by_cases cj : jumpB op = true
  · have hop : 64 ≤ op ∧ op ≤ 72 := by simpa [jumpB] using cj
    rw [hlab, if_pos cj] at hbd ⊢
    have hfm := jump_fm hop.1 hop.2 false
    by_cases cl : l.length = 2
    · rw [cl]
      have hneg : letterB ((l.getD (2 - 1) []).headD 0) = true → ¬ ((2 : Nat) = 0 ∨ (2 : Nat) ≠ 2 ∨ letterB ((l.getD (2 - 1) []).headD 0) = false) := by
        rintro cc (h | h | h)
        · omega
        · exact h rfl
        · rw [cc] at h; cases h
      by_cases cc : letterB ((l.getD (2 - 1) []).headD 0) = true
      · rw [if_neg (hneg cc), if_pos ⟨.inl ⟨cj, rfl⟩, cc⟩]
        unfold valueF
        rw [if_neg (by decide), if_pos cc]
        cases hf : findL S.labels (l.getD (2 - 1) []) with
        | none => rfl
        | some v =>
          have := hbd v hf
          simp only
          rw [if_neg (by omega), if_pos cj, hfm]
          simp only
          rw [show wrap32F (v - (S.at' + 3)) = v - S.at' - 3 by unfold wrap32F; omega, show v - (S.at' + 3) = v - S.at' - 3 by omega]
          by_cases cr : v - S.at' - 3 < -32768 ∨ 32767 < v - S.at' - 3
          · omega
          · rw [if_neg cr, if_neg]
            simp [Isa.mayB, Isa.fitsB]
            omega
      · rw [if_pos (.inr (.inr (Bool.eq_false_iff.2 cc))), if_neg (fun h => cc h.2)]
    · rw [if_pos (.inr (.inl cl)), if_neg]
      rintro ⟨⟨-, h2⟩ | ⟨h2, -⟩, -⟩
      · exact cl h2
      · omega
  · rw [hlab, if_neg cj] at hbd ⊢
    by_cases c32 : op = 32
    · rw [if_pos c32] at hbd ⊢
      by_cases cl : l.length = 3
      · rw [cl]
        have hneg : letterB ((l.getD (3 - 1) []).headD 0) = true → ¬ ((3 : Nat) = 0 ∨ (3 : Nat) ≠ 3 ∨ letterB ((l.getD (3 - 1) []).headD 0) = false) := by
          rintro cc (h | h | h)
          · omega
          · exact h rfl
          · rw [cc] at h; cases h
        by_cases cc : letterB ((l.getD (3 - 1) []).headD 0) = true
        · rw [if_neg (hneg cc), if_pos ⟨.inr ⟨c32, rfl⟩, cc⟩]
          unfold valueF
          rw [if_neg (by decide), if_pos cc]
          cases hf : findL S.labels (l.getD (3 - 1) []) with
          | none => rfl
          | some v =>
            simp only
            rw [if_pos c32, if_neg cj]
        · rw [if_pos (.inr (.inr (Bool.eq_false_iff.2 cc))), if_neg (fun h => cc h.2)]
      · rw [if_pos (.inr (.inl cl)), if_neg]
        rintro ⟨⟨h2, -⟩ | ⟨-, h2⟩, -⟩
        · exact cj h2
        · exact cl h2
    · rw [if_neg c32, if_pos (.inl rfl), if_neg]
      rintro ⟨⟨h2, -⟩ | ⟨h2, -⟩, -⟩
      · exact cj h2
      · exact c32 h2

theorem stepD_head {l : List Wd} {a t : Int} (h : stepD l a = .ok t) : (dirW (l.headD []) = true → ∃ v, numF (l.getD 1 []) = some v ∧ l.length = 2) ∧
    (l.headD [] = wByte → 2 ≤ l.length ∧ t = a + ((l.length : Int) - 1)) ∧ (l.headD [] = wWord → 2 ≤ l.length ∧ t = a + 4 * ((l.length : Int) - 1)) ∧ (l.headD [] = wText → l.length = 2 ∧ t = a + ((l.getD 1 []).length : Int)) ∧
    (dirW (l.headD []) = false → l.headD [] ≠ wByte → l.headD [] ≠ wWord → l.headD [] ≠ wText → ∃ op, opF (l.headD []) = some op ∧ t = a + (Isa.fm op false).n) := by
  have hc : ∀ x : Int, (if 4096 < x then Except.error 311 else .ok x : Except Int Int) = .ok t → t = x := fun x hx => by
    split at hx
    · cases hx
    · cases hx; rfl
  unfold stepD at h
  simp only at h
  refine ⟨fun hd => ?_, fun hb => ?_, fun hb => ?_, fun hb => ?_, fun hd h1 h2 h3 => ?_⟩
  · rw [if_pos hd] at h
    split at h
    · cases h
    · rename_i hl
      cases hn : numF (l.getD 1 []) with
      | none => rw [hn] at h; cases h
      | some v => exact ⟨v, rfl, by omega⟩
  · rw [hb, if_neg (show ¬ dirW wByte = true by decide), if_pos (show wByte = wByte ∨ wByte = wWord from .inl rfl)] at h
    split at h
    · cases h
    · have := hc _ h
      rw [if_neg (show ¬ wByte = wWord by decide)] at this
      exact ⟨by omega, this⟩
  · rw [hb, if_neg (show ¬ dirW wWord = true by decide), if_pos (show wWord = wByte ∨ wWord = wWord from .inr rfl)] at h
    split at h
    · cases h
    · have := hc _ h
      rw [if_pos rfl] at this
      exact ⟨by omega, this⟩
  · rw [hb, if_neg (show ¬ dirW wText = true by decide), if_neg (show ¬ (wText = wByte ∨ wText = wWord) by decide), if_pos rfl] at h
    split at h
    · cases h
    · have := hc _ h
      exact ⟨by omega, this⟩
  · rw [if_neg (by rw [hd]; decide), if_neg (fun h => h.elim h1 h2), if_neg h3] at h
    cases ho : opF (l.headD []) with
    | none => rw [ho] at h; cases h
    | some op => rw [ho] at h; exact ⟨op, rfl, hc _ h⟩
/-- The second pass' step, where the first went through. -/
theorem step_againD {l : List Wd} (hne : l ≠ []) (hw : WOk l) (S : St) (n : Int) (h : StOk S 100000) (hb : (S.bytes.length : Int) = S.at') {t : Int} (ht : stepD l S.at' = .ok t) :
    (dirW (l.headD []) = true → stepF true S n l = .ok { S with at' := t, bytes := S.bytes ++ List.replicate (t - S.at').toNat 0 }) ∧
    (dirW (l.headD []) = false → (∀ b, laidD S.labels l S.at' = .ok b → S.at' + (b.length : Int) = t) ∧ stepF true S n l = match laidD S.labels l S.at' with
      | .error e => .error e
      | .ok b => .ok { S with at' := t, bytes := S.bytes ++ b, marks := S.marks ++ [(S.at', n)] }) := by
  have a0 := h.a0
  obtain ⟨t0, t1⟩ := stepD_le a0 ht
  obtain ⟨p1, p2, p3, p4, p5⟩ := stepD_head ht
  have hto : toF true S t = .ok { S with at' := t, bytes := S.bytes ++ List.replicate (t - S.at').toNat 0 } := by
    unfold toF
    rw [if_neg (by omega)]
    simp only [if_true]
    rw [show t.toNat - S.bytes.length = (t - S.at').toNat by omega]
  constructor
  · intro hd
    obtain ⟨v, hv, hl2⟩ := p1 hd
    have hf := step_first hw S n a0
    rw [ht] at hf
    simp only at hf
    have hbd := numF_bds hv
    have hone : ∀ lo hi, oneF l lo hi = if v < lo ∨ hi < v then .error 41 else .ok v := fun lo hi => by
      rw [one_numF hw, if_neg (by omega), hv]
    have hft : ∀ x, toF false S x = .ok { S with at' := t } → toF true S x = .ok { S with at' := t, bytes := S.bytes ++ List.replicate (t - S.at').toNat 0 } := fun x hx => by
      have e : x = t := by
        unfold toF at hx
        split at hx
        · cases hx
        · have := Except.ok.inj hx
          have := congrArg St.at' this
          simpa using this
      rw [e]; exact hto
    unfold dirW at hd
    simp only [Bool.or_eq_true, decide_eq_true_eq] at hd
    unfold stepF at hf ⊢
    simp only at hf ⊢
    rcases hd with hd | hd | hd
    · rw [hd, if_pos rfl, hone] at hf ⊢
      split at hf
      · cases hf
      · split at hf
        · cases hf
        · rename_i hq2
          rw [if_neg hq2]
          exact hft _ hf
    · rw [hd, if_neg (show ¬ wSpace = wOrg by decide), if_pos rfl, hone] at hf ⊢
      split at hf
      · cases hf
      · exact hft _ hf
    · rw [hd, if_neg (show ¬ wAlign = wOrg by decide), if_neg (show ¬ wAlign = wSpace by decide), if_pos rfl, hone] at hf ⊢
      split at hf
      · cases hf
      · exact hft _ hf
  · intro hd
    have hd' := hd
    unfold dirW at hd'
    simp only [Bool.or_eq_false_iff, decide_eq_false_iff_not] at hd'
    have hlay : ∀ b : List Int, S.at' + (b.length : Int) = t → layF true S n b = .ok { S with at' := t, bytes := S.bytes ++ b, marks := S.marks ++ [(S.at', n)] } := fun b hb2 => by
      rw [lay_ok n b hb (by omega), hb2]
    unfold stepF laidD
    simp only
    rw [if_neg hd'.1, if_neg hd'.2.1, if_neg hd'.2.2]
    by_cases w4 : l.headD [] = wByte
    · obtain ⟨q1, q2⟩ := p2 w4
      rw [if_pos w4, if_pos w4, if_neg (by omega), bytes_againD (wok_tail hw)]
      cases hbt : bytesD l.tail with
      | error e => exact ⟨(fun b hh => by cases hh), rfl⟩
      | ok b =>
        have hlen : b.length = l.tail.length := bytesF_len (again := true) (by rw [bytes_againD (wok_tail hw)]; exact hbt)
        have hsum : S.at' + (b.length : Int) = t := by rw [hlen, List.length_tail]; omega
        exact ⟨(fun b' hh => by cases hh; exact hsum), hlay b hsum⟩
    rw [if_neg w4, if_neg w4]
    by_cases w5 : l.headD [] = wWord
    · obtain ⟨q1, q2⟩ := p3 w5
      rw [if_pos w5, if_pos w5, if_neg (by omega), words_againD (wok_tail hw)]
      cases hbt : wordsD S.labels l.tail with
      | error e => exact ⟨(fun b hh => by cases hh), rfl⟩
      | ok b =>
        have hlen : b.length = 4 * l.tail.length := wordsL_len (again := true) (lb := S.labels) (by rw [words_againD (wok_tail hw)]; exact hbt)
        have hsum : S.at' + (b.length : Int) = t := by rw [hlen, List.length_tail]; omega
        exact ⟨(fun b' hh => by cases hh; exact hsum), hlay b hsum⟩
    rw [if_neg w5, if_neg w5]
    by_cases w6 : l.headD [] = wText
    · obtain ⟨q1, q2⟩ := p4 w6
      rw [if_pos w6, if_pos w6, if_neg (by omega)]
      have hsum : S.at' + ((textL (l.getD 1 [])).length : Int) = t := by rw [q2]; unfold textL; simp
      exact ⟨(fun b' hh => by cases hh; exact hsum), hlay _ hsum⟩
    rw [if_neg w6, if_neg w6]
    obtain ⟨op, ho, q2⟩ := p5 hd w4 w5 w6
    rw [ho]
    simp only
    unfold instrF instrD
    rw [if_neg (by decide), named_againD h]
    cases hla : lastD S.labels l op S.at' with
    | error e => exact ⟨(fun b hh => by cases hh), rfl⟩
    | ok l' =>
      simp only
      cases hr : readF (joinF l') with
      | error e => exact ⟨(fun b hh => by cases hh), rfl⟩
      | ok x =>
        obtain ⟨o, a, b, i⟩ := x
        simp only
        obtain ⟨rest, rfl⟩ := named_head hne (by rw [named_againD h]; exact hla)
        obtain ⟨rfl, hm⟩ := read_first ho hr
        have hsum : S.at' + ((Isa.encL (Isa.fm o false) o a b i).length : Int) = t := by rw [encL_len hm, q2]
        exact ⟨(fun b' hh => by cases hh; exact hsum), hlay _ hsum⟩

theorem splitC_end (x : UInt8) : ∀ l : List UInt8, splitC x (l ++ [x]) = splitC x l ++ [[]]
  | [] => by simp [splitC]
  | c :: r => by
    have ih := splitC_end x r
    rw [List.cons_append, splitC, splitC, ih]
    by_cases c1 : c = x
    · rw [if_pos c1, if_pos c1]; rfl
    · rw [if_neg c1, if_neg c1]
      cases hs : splitC x r with
      | nil => exact absurd hs (splitC_ne x r)
      | cons w ws => rfl
theorem lines_split (L : List UInt8) : linesF L = linesD L ++ (if L = [] ∨ L.getLast? = some 10 then [[]] else []) := by
  unfold linesD
  by_cases c : L = [] ∨ L.getLast? = some 10
  · rw [if_pos c, if_pos c]
    rcases c with rfl | c
    · rfl
    · obtain ⟨l, rfl⟩ : ∃ l, L = l ++ [10] := by
        rcases last_split L with h | ⟨l, d, h⟩
        · rw [h] at c; cases c
        · rw [h] at c
          have hd : d = 10 := by simpa using c
          exact ⟨l, by rw [h, hd]⟩
      unfold linesF
      rw [splitC_end, List.map_append, List.map_cons, List.map_nil, List.dropLast_concat]
      rfl
  · rw [if_neg c, if_neg c, List.append_nil]
theorem linesD_long (L : List UInt8) : longB L = (decide (8192 < L.length) || decide (512 < (linesD L).length)) := by
  have h1 : (linesF L).length = L.count 10 + 1 := by unfold linesF; rw [List.length_map, splitC_len]
  have h2 := congrArg List.length (lines_split L)
  rw [h1, List.length_append] at h2
  unfold longB
  congr 1
  refine decide_eq_decide.2 ?_
  by_cases c : L = [] ∨ L.getLast? = some 10
  · rw [if_pos c] at h2
    rw [if_neg (fun h => c.elim h.1 h.2)]
    simp at h2
    omega
  · rw [if_neg c] at h2
    rw [if_pos ⟨fun e => c (.inl e), fun e => c (.inr e)⟩]
    simp at h2
    omega
theorem pass_end (again : Bool) (S : St) (n : Int) (l : List (List Wd)) : passF again S n (l ++ [[]]) = passF again S n l := by
  rw [passF_snoc]
  cases passF again S n l with
  | error e => rfl
  | ok T => simp only [doF, if_true, passF]
theorem pass_lines (again : Bool) (S : St) (n : Int) (L : List UInt8) : passF again S n (linesF L) = passF again S n (linesD L) := by
  rw [lines_split]
  split
  · exact pass_end again S n _
  · rw [List.append_nil]
theorem linesF_wok (L : List UInt8) : ∀ l ∈ linesF L, WOk l := by
  intro l hl w hw
  unfold linesF at hl
  obtain ⟨s, hs, rfl⟩ := List.mem_map.1 hl
  exact ⟨((lineW_ok s s.length (Nat.le_refl _)).2 w hw).1, words_no32 _ _ (by simp) w hw⟩
theorem linesD_wok (L : List UInt8) : ∀ l ∈ linesD L, WOk l := fun l hl => linesF_wok L l (by rw [lines_split]; exact List.mem_append_left _ hl)
/-- What the document's Assemble tells. -/
def docF (L : List UInt8) : Except (Int × Int) St :=
  if 8192 < L.length ∨ 512 < (linesD L).length then .error (0, 3) else
    match passD [] 0 0 (linesD L) with
    | .error e => .error e
    | .ok (lb, _) => passF true ⟨0, lb, [], []⟩ 0 (linesD L)
theorem asm_doc (L : List UInt8) : asmF L = docF L := by
  unfold asmF docF
  rw [linesD_long]
  by_cases c : 8192 < L.length ∨ 512 < (linesD L).length
  · rw [if_pos c, if_pos (by simpa using c)]
  · rw [if_neg c, if_neg (by simpa using c), pass_lines, pass_firstD _ _ _ (Int.le_refl _) (linesD_wok L)]
    cases passD [] 0 0 (linesD L) with
    | error e => rfl
    | ok p => simp only; rw [pass_lines]
end Go.Proofs.YtgfljokamgbcaaaGreatDoor
namespace Go.Proofs.YtgfljokamgbcaaaGreatDoor
open Go.RowKit
set_option linter.unusedSimpArgs false
set_option linter.unusedVariables false
set_option maxRecDepth 100000

/-- A word, if it is one. -/
def clW (w : Wd) : List Wd := if w = [] then [] else [w]
/-- The loop over a text's bytes: behind a semicolon, is anything there, the line's words, the word. -/
def goD (off any : Bool) (ws : List Wd) (w : Wd) : List UInt8 → List (List Wd)
  | [] => if any = true then [ws ++ clW w] else []
  | c :: r => if c = 10 then (ws ++ clW w) :: goD false false [] [] r else
    if off = true ∨ c = 59 then goD true true (ws ++ clW w) [] r else
      if c = 32 ∨ c = 9 then goD false true (ws ++ clW w) [] r else goD false true ws (w ++ [c]) r
def restW (off : Bool) (w : Wd) (h : List UInt8) : List Wd := if off = true then clW w else cutGo (h.takeWhile (· != 59)) w
def endC (any : Bool) (r : List UInt8) : Prop := (r = [] ∧ any = false) ∨ r.getLast? = some 10
instance (any : Bool) (r : List UInt8) : Decidable (endC any r) := inferInstanceAs (Decidable (_ ∨ _))
theorem cut_nil (w : Wd) : cutGo [] w = clW w := rfl
theorem clW_nil : clW [] = [] := rfl
theorem last_cons10 {c : UInt8} {r : List UInt8} (hr : r ≠ []) : (c :: r).getLast? = r.getLast? := by
  cases r with
  | nil => exact absurd rfl hr
  | cons d l => simp
theorem rest_char (off : Bool) (w : Wd) (c : UInt8) (h : List UInt8) (ws : List Wd) : ws ++ restW off w (c :: h) =
    if off = true ∨ c = 59 then (ws ++ clW w) ++ restW true [] h else if c = 32 ∨ c = 9 then (ws ++ clW w) ++ restW false [] h else ws ++ restW false (w ++ [c]) h := by
  unfold restW
  by_cases c1 : off = true
  · rw [if_pos c1, if_pos (.inl c1), if_pos rfl, clW_nil, List.append_nil]
  · rw [if_neg c1]
    by_cases c2 : c = 59
    · rw [if_pos (.inr c2), if_pos rfl, clW_nil, List.append_nil, List.takeWhile_cons, if_neg (by simp [c2]), cut_nil]
    · rw [if_neg (fun h => h.elim c1 c2), List.takeWhile_cons, if_pos (by simpa using c2), if_neg Bool.false_ne_true]
      by_cases c3 : c = 32 ∨ c = 9
      · rw [if_pos c3, cutGo, if_pos (by unfold blankB; rcases c3 with h | h <;> simp [h])]
        unfold clW
        split
        · simp
        · simp
      · rw [if_neg c3, cutGo, if_neg (by unfold blankB; simpa using c3), if_neg Bool.false_ne_true]
theorem goD_is : ∀ (r : List UInt8) (off any : Bool) (ws : List Wd) (w : Wd), (any = false → ws = [] ∧ w = [] ∧ off = false) →
    goD off any ws w r ++ (if endC any r then [[]] else []) = (ws ++ restW off w ((splitC 10 r).headD [])) :: (splitC 10 r).tail.map lineW
  | [], off, any, ws, w, ha => by
    cases any with
    | true =>
      rw [if_neg (by simp [endC])]
      simp [goD, splitC, restW, cut_nil]
    | false =>
      obtain ⟨rfl, rfl, rfl⟩ := ha rfl
      rw [if_pos (by simp [endC])]
      simp [goD, splitC, restW, cut_nil, clW]
  | c :: r, off, any, ws, w, ha => by
    by_cases c1 : c = 10
    · subst c1
      have ih := goD_is r false false [] [] (fun _ => ⟨rfl, rfl, rfl⟩)
      have hc : endC any (10 :: r) ↔ endC false r := by
        unfold endC
        by_cases hr : r = []
        · subst hr; simp
        · rw [last_cons10 hr]; simp [hr]
      rw [goD, if_pos rfl, splitC, if_pos rfl]
      have h2 : (if endC any (10 :: r) then ([[]] : List (List Wd)) else []) = if endC false r then [[]] else [] := by
        by_cases h : endC false r
        · rw [if_pos h, if_pos (hc.2 h)]
        · rw [if_neg h, if_neg (fun x => h (hc.1 x))]
      rw [h2, List.cons_append, ih]
      have hs := splitC_ne 10 r
      cases hsp : splitC 10 r with
      | nil => exact absurd hsp hs
      | cons h t =>
        simp only [List.headD_cons, List.tail_cons, List.map_cons]
        have e1 : restW off w [] = clW w := by unfold restW; split <;> rfl
        rw [e1]
        rfl
    · have h2 : endC any (c :: r) ↔ endC true r := by
        unfold endC
        by_cases hr : r = []
        · subst hr; simp [c1]
        · rw [last_cons10 hr]; simp
      have h3 : (if endC any (c :: r) then ([[]] : List (List Wd)) else []) = if endC true r then [[]] else [] := by
        by_cases h : endC true r
        · rw [if_pos h, if_pos (h2.2 h)]
        · rw [if_neg h, if_neg (fun x => h (h2.1 x))]
      have hs := splitC_ne 10 r
      rw [h3, goD, if_neg c1, splitC, if_neg c1]
      cases hsp : splitC 10 r with
      | nil => exact absurd hsp hs
      | cons h t =>
        simp only [List.headD_cons, List.tail_cons]
        rw [rest_char]
        by_cases c2 : off = true ∨ c = 59
        · rw [if_pos c2, if_pos c2]
          have ih := goD_is r true true (ws ++ clW w) [] (fun h => by cases h)
          rw [hsp] at ih
          exact ih
        · rw [if_neg c2, if_neg c2]
          by_cases c3 : c = 32 ∨ c = 9
          · rw [if_pos c3, if_pos c3]
            have ih := goD_is r false true (ws ++ clW w) [] (fun h => by cases h)
            rw [hsp] at ih
            exact ih
          · rw [if_neg c3, if_neg c3]
            have ih := goD_is r false true ws (w ++ [c]) (fun h => by cases h)
            rw [hsp] at ih
            exact ih
theorem goD_lines (L : List UInt8) : goD false false [] [] L = linesD L := by
  have h := goD_is L false false [] [] (fun _ => ⟨rfl, rfl, rfl⟩)
  have h2 := lines_split L
  have hs := splitC_ne 10 L
  have h3 : linesF L = ([] ++ restW false [] ((splitC 10 L).headD [])) :: (splitC 10 L).tail.map lineW := by
    unfold linesF
    cases hsp : splitC 10 L with
    | nil => exact absurd hsp hs
    | cons h t => rfl
  rw [← h3, h2] at h
  have h4 : (if endC false L then ([[]] : List (List Wd)) else []) = if L = [] ∨ L.getLast? = some 10 then [[]] else [] := by
    unfold endC
    simp
  rw [h4] at h
  exact List.append_cancel_right h
end Go.Proofs.YtgfljokamgbcaaaGreatDoor
namespace Go.Proofs.YtgfljokamgbcaaaGreatDoor
open Go.RowKit
set_option linter.unusedSimpArgs false
set_option linter.unusedVariables false
set_option maxRecDepth 100000

/-- A line without its label. -/
def remD (ws : List Wd) : List Wd := if (ws.headD []).getLast? = some 58 then ws.tail else ws
theorem remD_wok {ws : List Wd} (h : WOk ws) : WOk (remD ws) := by
  unfold remD
  split
  · exact wok_tail h
  · exact h
theorem passD_line {lb0 : List (Wd × Int)} {a n : Int} {ws : List Wd} {r : List (List Wd)} {R : List (Wd × Int) × Int} (h : passD lb0 a n (ws :: r) = .ok R) :
    ∃ lb1, (remD ws = [] → passD lb1 a (n + 1) r = .ok R) ∧ (remD ws ≠ [] → ∃ t, stepD (remD ws) a = .ok t ∧ passD lb1 t (n + 1) r = .ok R) := by
  unfold remD
  rw [passD] at h
  by_cases c1 : (ws.headD []).getLast? = some 58
  · rw [if_pos c1] at h ⊢
    by_cases c2 : nameB (ws.headD []).dropLast = false ∨ (findL lb0 (ws.headD []).dropLast).isSome
    · rw [if_pos c2] at h; cases h
    · rw [if_neg c2] at h
      refine ⟨lb0 ++ [((ws.headD []).dropLast, a)], fun e => by rw [if_pos e] at h; exact h, fun e => ?_⟩
      rw [if_neg e] at h
      cases hs : stepD ws.tail a with
      | error e => rw [hs] at h; cases h
      | ok t => rw [hs] at h; exact ⟨t, rfl, h⟩
  · rw [if_neg c1] at h ⊢
    refine ⟨lb0, fun e => by rw [if_pos e] at h; exact h, fun e => ?_⟩
    rw [if_neg e] at h
    cases hs : stepD ws a with
    | error e => rw [hs] at h; cases h
    | ok t => rw [hs] at h; exact ⟨t, rfl, h⟩
theorem passD_le : ∀ (ls : List (List Wd)) (lb0 : List (Wd × Int)) (a n : Int) (R : List (Wd × Int) × Int), 0 ≤ a → passD lb0 a n ls = .ok R → a ≤ R.2 ∧ (a ≤ 4096 → R.2 ≤ 4096)
  | [], lb0, a, n, R, a0, h => by
    rw [passD] at h
    cases h
    exact ⟨Int.le_refl _, fun h => h⟩
  | ws :: r, lb0, a, n, R, a0, h => by
    obtain ⟨lb1, h1, h2⟩ := passD_line h
    by_cases c : remD ws = []
    · exact passD_le r lb1 a (n + 1) R a0 (h1 c)
    · obtain ⟨t, ht, h3⟩ := h2 c
      obtain ⟨q1, q2⟩ := stepD_le a0 ht
      have := passD_le r lb1 t (n + 1) R (by omega) h3
      exact ⟨by omega, fun _ => this.2 q2⟩
theorem doF_remD {S : St} {n : Int} {ws : List Wd} : doF true S n ws = if remD ws = [] then .ok S else stepF true S n (remD ws) := by
  unfold doF
  by_cases c0 : ws = []
  · subst c0; simp [remD]
  · rw [if_neg c0]
    unfold labelF remD
    simp only [if_true]
    by_cases c1 : (ws.headD []).getLast? = some 58
    · rw [if_pos c1, if_pos c1]
    · rw [if_neg c1, if_neg c1]

/-- The second pass, ahead of line k: R is what it comes to. -/
structure AgI (lb : List (Wd × Int)) (size : Int) (ls : List (List Wd)) (R : Except (Int × Int) St) (k : Nat) (S : St) : Prop where
  ok : StOk S (2000 + 2 * k)
  lbs : S.labels = lb
  len : (S.bytes.length : Int) = S.at'
  fst : ∃ lb0, passD lb0 S.at' (k : Int) (ls.drop k) = .ok (lb, size)
  rest : passF true S (k : Int) (ls.drop k) = R
theorem AgI.size {lb size ls R k S} (h : AgI lb size ls R k S) : S.at' ≤ size ∧ size ≤ 4096 := by
  obtain ⟨lb0, h1⟩ := h.fst
  have := passD_le _ _ _ _ _ h.ok.a0 h1
  exact ⟨this.1, this.2 h.ok.a1⟩
theorem AgI.line {lb size ls R k S} (h : AgI lb size ls R k S) {ws : List Wd} (hk : ls[k]? = some ws) :
    (∃ lb1, (remD ws = [] → passD lb1 S.at' ((k : Int) + 1) (ls.drop (k + 1)) = .ok (lb, size)) ∧ (remD ws ≠ [] → ∃ t, stepD (remD ws) S.at' = .ok t ∧ passD lb1 t ((k : Int) + 1) (ls.drop (k + 1)) = .ok (lb, size))) ∧
    (match doF true S ((k : Int) + 1) ws with | .error e => .error ((k : Int) + 1, e) | .ok T => passF true T ((k : Int) + 1) (ls.drop (k + 1))) = R := by
  obtain ⟨hlt, rfl⟩ := List.getElem?_eq_some_iff.1 hk
  obtain ⟨lb0, h1⟩ := h.fst
  have h2 := h.rest
  rw [List.drop_eq_getElem_cons hlt] at h1 h2
  refine ⟨passD_line h1, ?_⟩
  rw [← h2, passF]
  rfl
theorem AgI.next {lb size ls R k S} (h : AgI lb size ls R k S) {ws : List Wd} (hk : ls[k]? = some ws) {T : St} (hT : doF true S ((k : Int) + 1) ws = .ok T) (hl : T.labels = lb) (hb : (T.bytes.length : Int) = T.at')
    (hf : ∃ lb1, passD lb1 T.at' ((k : Int) + 1) (ls.drop (k + 1)) = .ok (lb, size)) : AgI lb size ls R (k + 1) T := by
  have h2 := (h.line hk).2
  rw [hT] at h2
  exact ⟨((doF_both h.ok).1 T hT).more (by omega), hl, hb, by simpa using hf, by simpa using h2⟩
theorem AgI.skip {lb size ls R k S} (h : AgI lb size ls R k S) {ws : List Wd} (hk : ls[k]? = some ws) (hr : remD ws = []) : AgI lb size ls R (k + 1) S := by
  obtain ⟨⟨lb1, h1, -⟩, -⟩ := h.line hk
  exact h.next hk (by rw [doF_remD, if_pos hr]) h.lbs h.len ⟨lb1, h1 hr⟩
theorem AgI.dir {lb size ls R k S} (h : AgI lb size ls R k S) (hk2 : k ≤ 40000) {ws : List Wd} (hk : ls[k]? = some ws) (hw : WOk ws) (hr : remD ws ≠ []) (hd : dirW ((remD ws).headD []) = true) :
    ∃ t, stepD (remD ws) S.at' = .ok t ∧ S.at' ≤ t ∧ t ≤ size ∧ AgI lb size ls R (k + 1) { S with at' := t, bytes := S.bytes ++ List.replicate (t - S.at').toNat 0 } := by
  obtain ⟨⟨lb1, -, h1⟩, -⟩ := h.line hk
  obtain ⟨t, ht, hp⟩ := h1 hr
  obtain ⟨q1, q2⟩ := stepD_le h.ok.a0 ht
  have hs := (step_againD hr (remD_wok hw) S ((k : Int) + 1) (h.ok.more (by omega)) h.len ht).1 hd
  have a0 := h.ok.a0
  have hl := h.len
  refine ⟨t, ht, q1, (passD_le _ _ _ _ _ (by omega) hp).1, h.next hk (by rw [doF_remD, if_neg hr, hs]) h.lbs ?_ ⟨lb1, hp⟩⟩
  simp
  omega
theorem AgI.laid {lb size ls R k S} (h : AgI lb size ls R k S) (hk2 : k ≤ 40000) {ws : List Wd} (hk : ls[k]? = some ws) (hw : WOk ws) (hr : remD ws ≠ []) (hd : dirW ((remD ws).headD []) = false) :
    ∃ t, stepD (remD ws) S.at' = .ok t ∧ S.at' ≤ t ∧ t ≤ size ∧ (∀ e, laidD lb (remD ws) S.at' = .error e → R = .error ((k : Int) + 1, e) ∧ e ≠ 0) ∧
      ∀ b, laidD lb (remD ws) S.at' = .ok b → t = S.at' + (b.length : Int) ∧ AgI lb size ls R (k + 1) { S with at' := t, bytes := S.bytes ++ b, marks := S.marks ++ [(S.at', (k : Int) + 1)] } := by
  obtain ⟨⟨lb1, -, h1⟩, h2⟩ := h.line hk
  obtain ⟨t, ht, hp⟩ := h1 hr
  obtain ⟨q1, q2⟩ := stepD_le h.ok.a0 ht
  obtain ⟨h3, hs⟩ := (step_againD hr (remD_wok hw) S ((k : Int) + 1) (h.ok.more (by omega)) h.len ht).2 hd
  have a0 := h.ok.a0
  have hl := h.len
  rw [h.lbs] at h3 hs
  refine ⟨t, ht, q1, (passD_le _ _ _ _ _ (by omega) hp).1, fun e he => ?_, fun b hb => ?_⟩
  · have h5 : doF true S ((k : Int) + 1) ws = .error e := by rw [doF_remD, if_neg hr, hs, he]
    rw [h5] at h2
    exact ⟨h2.symm, (doF_both h.ok).2 e h5⟩
  · have h4 := h3 b hb
    refine ⟨h4.symm, h.next hk (by rw [doF_remD, if_neg hr, hs, hb, ← h.lbs]) h.lbs ?_ ⟨lb1, hp⟩⟩
    simp
    omega
theorem AgI.fin {lb size ls R k S} (h : AgI lb size ls R k S) (hk : ls.length ≤ k) : R = .ok S ∧ S.at' = size := by
  obtain ⟨lb0, h1⟩ := h.fst
  have h2 := h.rest
  rw [List.drop_eq_nil_iff.2 hk] at h1 h2
  rw [passD] at h1
  rw [passF] at h2
  cases h1
  exact ⟨h2.symm, rfl⟩
theorem pass_okD : ∀ (ls : List (List Wd)) (S T : St) (n : Int) (k : Nat), StOk S k → passF false S n ls = .ok T → StOk T (k + 2 * ls.length)
  | [], S, T, n, k, h, hT => by
    rw [passF] at hT
    cases hT
    exact h.more (by simp)
  | ws :: r, S, T, n, k, h, hT => by
    rw [passF] at hT
    cases hd : doF false S (n + 1) ws with
    | error e => rw [hd] at hT; cases hT
    | ok U =>
      rw [hd] at hT
      exact (pass_okD r U T (n + 1) (k + 2) ((doF_both h).1 U hd) hT).more (by simp; omega)
theorem AgI.start {lb : List (Wd × Int)} {size : Int} {ls : List (List Wd)} (h : passD [] 0 0 ls = .ok (lb, size)) (hl : ls.length ≤ 1000) (hw : ∀ l ∈ ls, WOk l) : AgI lb size ls (passF true ⟨0, lb, [], []⟩ 0 ls) 0 ⟨0, lb, [], []⟩ := by
  have h1 := pass_firstD ls ⟨0, [], [], []⟩ 0 (Int.le_refl _) hw
  rw [h] at h1
  have h2 := pass_okD ls _ _ 0 0 ⟨by decide, by decide, by simp, by simp, by simp, by simp⟩ h1
  exact ⟨⟨Int.le_refl _, by show (0 : Int) ≤ 4096; decide, by simp, by simp, by have := h2.ll; simp at this ⊢; omega, h2.lb⟩, rfl, rfl, ⟨[], h⟩, rfl⟩
end Go.Proofs.YtgfljokamgbcaaaGreatDoor
