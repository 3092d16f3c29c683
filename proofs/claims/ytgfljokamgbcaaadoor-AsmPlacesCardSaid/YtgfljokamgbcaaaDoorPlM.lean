/- A slice of instructions that came in as an argument. asm, plainly: where its labels and marks stand. asm, plainly: instructions that are shown, one a line. The walks of a program's Place and Line, and of the statement's digits. asm.Assemble as called; the statements' own call 'works'; the walk of AsmShown. The walk of AsmPlaces. (Written by mkAP.py.) -/
import Derived.Test.YtgfljokamgbcaaaDoorFlat
import Derived.Deep.Slices
import Derived.Test.YtgfljokamgbcaaaDoorAsY
import Derived.Test.YtgfljokamgbcaaaDoorAsZB
import Derived.Laws.BytesArg
import Derived.BigQuiet
namespace Go.Proofs.YtgfljokamgbcaaaDoor
open Go.ChangeShapes Go.WideShapes Go.RowKit Go.Deep
set_option linter.unusedSimpArgs false
set_option linter.unusedVariables false

/-- An instruction, its four numbers within their kinds. -/
structure InsR where
  op : Int
  a : Int
  b : Int
  imm : Int
  ok : 0 ≤ op ∧ op < 256 ∧ 0 ≤ a ∧ a < 256 ∧ 0 ≤ b ∧ b < 256 ∧ -2147483648 ≤ imm ∧ imm < 2147483648

def InsR.cells (r : InsR) : List Value := [.int .u8 r.op, .int .u8 r.a, .int .u8 r.b, .int .i32 r.imm]

/-- The instructions that a slice leads to. -/
def InssIn (w : World) (ao : Option Addr) (L : List InsR) : Prop :=
  L = [] ∨ ∃ blk off, ao = some ⟨blk, off, none⟩ ∧ ∀ i r, L[i]? = some r →
    w.cell? ⟨blk, off + i * 4, none⟩ = some (.int .u8 r.op) ∧ w.cell? ⟨blk, off + i * 4 + 1, none⟩ = some (.int .u8 r.a) ∧ w.cell? ⟨blk, off + i * 4 + 2, none⟩ = some (.int .u8 r.b) ∧ w.cell? ⟨blk, off + i * 4 + 3, none⟩ = some (.int .i32 r.imm)

theorem add_midI (b o j : Nat) : (⟨b, o, none⟩ : Addr).add j = ⟨b, o + j, none⟩ := by unfold Addr.add; split <;> simp_all

theorem open_inss {H : Type} {enc : TypeId × Value → H} {P : Program} {w : World} {base : Nat} {spare : Nat → Bool} {held : Bool} {n : Nat} {t e : TypeId} {ao : Option Addr} {len cap : Nat} {d : DataW H} {p : List MemPlace}
    (ht : P.underlying t = some (.slice e)) (he : flat P n e = some [.i .u8, .i .u8, .i .u8, .i .i32]) (hC : P.cellsOf e = 4) (h : DataW.Trod enc P w base spare held t (.slice ao len cap) d p) :
    ∃ L : List InsR, L.length = len ∧ len ≤ cap ∧ cap ≤ 9223372036854775807 ∧ InssIn w ao L := by
  obtain ⟨fuel, hf⟩ := h
  rcases open_slice ht hf with ⟨hcs, _⟩ | ⟨a, l, c, m, k, D, Pl, hcs, _, hl, hm, hmm, hx, hi⟩
  · simp [Value.cells] at hcs
    obtain ⟨rfl, rfl, rfl⟩ := hcs
    exact ⟨[], rfl, Nat.le_refl _, by omega, .inl rfl⟩
  · simp [Value.cells] at hcs
    obtain ⟨rfl, rfl, rfl⟩ := hcs
    have hmax : maxLen = 9223372036854775807 := rfl
    rw [hC] at hi
    have hlm : len ≤ m := by rw [hmm]; split <;> omega
    have hr : ∀ i, ∃ r : InsR, i < len → ∀ j, j < 4 → w.cell? ((a.add (i * 4)).add j) = r.cells[j]? := fun i => by
      by_cases c : i < len
      · obtain ⟨cs, h1, h2⟩ := hi i (by omega)
        have h3 := flat_sound n e _ _ cs _ he h2
        obtain ⟨x0, cs0, rfl, w0, o0⟩ := okAll_i h3
        obtain ⟨x1, cs1, rfl, w1, o1⟩ := okAll_i o0
        obtain ⟨x2, cs2, rfl, w2, o2⟩ := okAll_i o1
        obtain ⟨x3, cs3, rfl, w3, o3⟩ := okAll_i o2
        obtain rfl := okAll_nil o3
        obtain ⟨_, _, h5⟩ := World.cells?_some h1
        obtain ⟨p0, q0⟩ := bd_u8 w0
        obtain ⟨p1, q1⟩ := bd_u8 w1
        obtain ⟨p2, q2⟩ := bd_u8 w2
        obtain ⟨p3, q3⟩ := bd_i32 w3
        exact ⟨⟨x0, x1, x2, x3, ⟨p0, q0, p1, q1, p2, q2, p3, q3⟩⟩, fun _ j hj => h5 j hj⟩
      · exact ⟨⟨0, 0, 0, 0, by omega⟩, fun h => absurd h c⟩
    obtain ⟨f, hf⟩ := Classical.axiomOfChoice hr
    refine ⟨(List.range len).map f, by simp, hl, by omega, ?_⟩
    rcases Nat.eq_zero_or_pos len with h0 | h0
    · subst h0; exact .inl (by simp)
    · obtain ⟨b, off, spot⟩ := a
      have h1 := hf 0 h0 0 (by omega)
      have hs : spot = none := by
        have h1' : w.cell? ((⟨b, off, spot⟩ : Addr).add 0) = some (.int .u8 (f 0).op) := by
          have hz : ((⟨b, off, spot⟩ : Addr).add (0 * 4)).add 0 = (⟨b, off, spot⟩ : Addr).add 0 := by simp [Addr.add]; try split <;> simp_all
          rw [← hz]; exact h1
        simpa [Addr.add] using World.cell?_spot h1'
      subst hs
      refine .inr ⟨b, off, rfl, fun i r hr => ?_⟩
      simp only [List.getElem?_map, Option.map_eq_some_iff] at hr
      obtain ⟨i', hi', rfl⟩ := hr
      obtain ⟨hlt, rfl⟩ := List.getElem?_eq_some_iff.1 hi'
      simp only [List.length_range] at hlt
      simp only [List.getElem_range]
      have ha : ∀ j, ((⟨b, off, none⟩ : Addr).add (i * 4)).add j = ⟨b, off + i * 4 + j, none⟩ := fun j => by rw [add_midI, add_midI]
      have hc : ∀ j, j < 4 → w.cell? ⟨b, off + i * 4 + j, none⟩ = (f i).cells[j]? := fun j hj => by rw [← ha]; exact hf i hlt j hj
      exact ⟨hc 0 (by omega), hc 1 (by omega), hc 2 (by omega), hc 3 (by omega)⟩
end Go.Proofs.YtgfljokamgbcaaaDoor
namespace Go.Proofs.YtgfljokamgbcaaaDoor
open Go.RowKit
set_option linter.unusedSimpArgs false
set_option linter.unusedVariables false

/-- What one line's step does to a text's places. -/
structure Stp (again : Bool) (S T : St) (n : Int) : Prop where
  le : S.at' ≤ T.at'
  labels : T.labels = S.labels
  long : again = true → T.at'.toNat ≤ T.bytes.length
  first : again = false → T.bytes = S.bytes ∧ T.marks = S.marks
  marks : T.marks = S.marks ∨ T.marks = S.marks ++ [(S.at', n)]
theorem toF_stp {again : Bool} {S T : St} {n t : Int} (h : S.at' ≤ t) (hT : toF again S t = .ok T) : Stp again S T n ∧ T.at' = t := by
  unfold toF at hT
  split at hT
  · cases hT
  · cases hT
    refine ⟨⟨h, rfl, fun ha => ?_, fun ha => ⟨by simp [ha], rfl⟩, .inl rfl⟩, rfl⟩
    simp only [ha, if_true]
    simp
    omega
theorem layF_stp {again : Bool} {S T : St} {n : Int} {b : List Int} (h0 : 0 ≤ S.at') (hT : layF again S n b = .ok T) : Stp again S T n ∧ T.at' = S.at' + (b.length : Int) := by
  unfold layF at hT
  cases hq : toF again S (S.at' + (b.length : Int)) with
  | error e => rw [hq] at hT; cases hT
  | ok U =>
    rw [hq] at hT
    obtain ⟨hU, hat⟩ := toF_stp (n := n) (by omega) hq
    cases again
    · cases hT
      exact ⟨hU, hat⟩
    · cases hT
      have hl := hU.long rfl
      refine ⟨⟨hU.le, hU.labels, fun _ => ?_, (fun h => by cases h), .inr ?_⟩, hat⟩
      · show U.at'.toNat ≤ (over U.bytes S.at'.toNat b).length
        rw [over_lenY _ _ _ (by omega)]
        exact hl
      · show U.marks ++ [(S.at', n)] = S.marks ++ [(S.at', n)]
        unfold toF at hq
        split at hq
        · cases hq
        · cases hq; rfl
theorem fmn6 (op : Int) : 0 ≤ (Isa.fm op false).n ∧ (Isa.fm op false).n ≤ 6 := by rcases Isa.fm_is op false with h | h | h | h | h | h | h | h | h | h <;> rw [h] <;> decide
theorem instrF_stp {again : Bool} {S T : St} {n : Int} {ws : List Wd} {op : Int} {k : Nat} (h : StOk S k) (hT : instrF again S n ws op = .ok T) : Stp again S T n := by
  have hs6 := fmn6 op
  unfold instrF at hT
  split at hT
  · rename_i ha
    subst ha
    exact (toF_stp (by omega) hT).1
  · cases hn : namedF S ws op with
    | error e => rw [hn] at hT; cases hT
    | ok l =>
      rw [hn] at hT
      simp only at hT
      cases hr : readF (joinF l) with
      | error e => rw [hr] at hT; cases hT
      | ok t =>
        obtain ⟨o, a, b, i⟩ := t
        rw [hr] at hT
        cases again
        · contradiction
        · exact (layF_stp h.a0 hT).1
theorem align_le {a v : Int} (h0 : 0 ≤ a) (h1 : 1 ≤ v) : a ≤ (a + v - 1) / v * v := by
  have h2 := Int.emod_add_mul_ediv (a + v - 1) v
  have h3 := Int.emod_lt_of_pos (a + v - 1) (show 0 < v by omega)
  have h4 : (a + v - 1) / v * v = v * ((a + v - 1) / v) := Int.mul_comm _ _
  omega
theorem stepF_stp {again : Bool} {S T : St} {n : Int} {ws : List Wd} {k : Nat} (h : StOk S k) (hT : stepF again S n ws = .ok T) : Stp again S T n := by
  have ha := h.a0
  unfold stepF at hT
  simp only at hT
  split at hT
  · cases h1 : oneF ws 0 2147483647 with
    | error e => rw [h1] at hT; cases hT
    | ok v =>
      rw [h1] at hT
      simp only at hT
      split at hT
      · cases hT
      · exact (toF_stp (by omega) hT).1
  split at hT
  · cases h1 : oneF ws 0 2147483647 with
    | error e => rw [h1] at hT; cases hT
    | ok v =>
      have := oneF_bd h1
      rw [h1] at hT
      exact (toF_stp (by omega) hT).1
  split at hT
  · cases h1 : oneF ws 1 64 with
    | error e => rw [h1] at hT; cases hT
    | ok v =>
      have := oneF_bd h1
      rw [h1] at hT
      exact (toF_stp (align_le ha this.1) hT).1
  split at hT
  · split at hT
    · cases hT
    · cases h1 : bytesF again ws.tail with
      | error e => rw [h1] at hT; cases hT
      | ok b => rw [h1] at hT; exact (layF_stp ha hT).1
  split at hT
  · split at hT
    · cases hT
    · cases h1 : wordsL again S.labels ws.tail with
      | error e => rw [h1] at hT; cases hT
      | ok b => rw [h1] at hT; exact (layF_stp ha hT).1
  split at hT
  · split at hT
    · cases hT
    · exact (layF_stp ha hT).1
  · cases ho : opF (ws.headD []) with
    | none => rw [ho] at hT; cases hT
    | some op => rw [ho] at hT; exact instrF_stp h hT

/-- Both passes lay as many bytes. -/
theorem bytesF_len {again : Bool} : ∀ {ws : List Wd} {l : List Int}, bytesF again ws = .ok l → l.length = ws.length
  | [], l, h => by cases h; rfl
  | x :: r, l, h => by
    unfold bytesF at h
    split at h
    · cases h
    · cases hb : bytesF again r with
      | error e' => rw [hb] at h; cases h
      | ok l' => rw [hb] at h; cases h; simp [bytesF_len hb]
theorem wordsL_len {again : Bool} {lb : List (Wd × Int)} : ∀ {ws : List Wd} {l : List Int}, wordsL again lb ws = .ok l → l.length = 4 * ws.length
  | [], l, h => by cases h; rfl
  | x :: r, l, h => by
    unfold wordsL at h
    cases hv : valueF again lb x with
    | error e' => rw [hv] at h; cases h
    | ok v =>
      rw [hv] at h
      simp only at h
      cases hb : wordsL again lb r with
      | error e' => rw [hb] at h; cases h
      | ok l' => rw [hb] at h; cases h; simp [wordsL_len hb, le4]; omega
theorem named_head {S : St} {ws l : List Wd} {op : Int} (hne : ws ≠ []) (h : namedF S ws op = .ok l) : ∃ rest, l = ws.headD [] :: rest := by
  obtain ⟨x, r, rfl⟩ := List.exists_cons_of_ne_nil hne
  unfold namedF at h
  split at h
  · cases h; exact ⟨r, rfl⟩
  · rename_i hc
    simp only [not_or] at hc
    obtain ⟨c1, c2, c3⟩ := hc
    have hk : labelled op = 2 ∨ labelled op = 3 := by revert c1; unfold labelled; split <;> (try split) <;> simp
    obtain ⟨j, hj⟩ : ∃ j, labelled op - 1 = j + 1 := ⟨labelled op - 2, by omega⟩
    cases hv : valueF true S.labels ((x :: r).getD (labelled op - 1) []) with
    | error e => rw [hv] at h; cases h
    | ok v =>
      rw [hv] at h
      simp only at h
      rw [hj] at h
      split at h
      · cases h; exact ⟨r.take j ++ [Lib.itoa v], by simp⟩
      · split at h
        · cases h
        · cases h; exact ⟨r.take j ++ [Lib.itoa (v - (S.at' + (Isa.fm op false).n))], by simp⟩
theorem instrF_agree {S S' T T' : St} {n : Int} {ws : List Wd} {op : Int} {k k' : Nat} (h : StOk S k) (h' : StOk S' k') (ha : S.at' = S'.at') (hne : ws ≠ []) (hop : opF (ws.headD []) = some op) (h1 : instrF false S n ws op = .ok T) (h2 : instrF true S' n ws op = .ok T') : T.at' = T'.at' := by
  have hs6 := fmn6 op
  unfold instrF at h1 h2
  rw [if_pos rfl] at h1
  rw [if_neg (by decide)] at h2
  have e1 := (toF_stp (n := n) (by omega) h1).2
  cases hn : namedF S' ws op with
  | error e => rw [hn] at h2; cases h2
  | ok l =>
    rw [hn] at h2
    simp only at h2
    cases hr : readF (joinF l) with
    | error e => rw [hr] at h2; cases h2
    | ok t =>
      obtain ⟨o, a, b, i⟩ := t
      rw [hr] at h2
      obtain ⟨rest, rfl⟩ := named_head hne hn
      obtain ⟨rfl, hm⟩ := read_first hop hr
      have e2 := (layF_stp h'.a0 h2).2
      rw [encL_len hm] at e2
      omega
theorem stepF_agree {S S' T T' : St} {n : Int} {ws : List Wd} {k k' : Nat} (h : StOk S k) (h' : StOk S' k') (ha : S.at' = S'.at') (hne : ws ≠ []) (h1 : stepF false S n ws = .ok T) (h2 : stepF true S' n ws = .ok T') : T.at' = T'.at' := by
  have h0 := h.a0
  have h0' := h'.a0
  unfold stepF at h1 h2
  simp only at h1 h2
  split at h1
  · rename_i c
    rw [if_pos c] at h2
    cases hv : oneF ws 0 2147483647 with
    | error e => rw [hv] at h1; cases h1
    | ok v =>
      rw [hv] at h1 h2
      simp only at h1 h2
      split at h1
      · cases h1
      · rw [if_neg (by omega)] at h2
        rw [(toF_stp (n := n) (by omega) h1).2, (toF_stp (n := n) (by omega) h2).2]
  rename_i c
  rw [if_neg c] at h2
  split at h1
  · rename_i c
    rw [if_pos c] at h2
    cases hv : oneF ws 0 2147483647 with
    | error e => rw [hv] at h1; cases h1
    | ok v =>
      have := oneF_bd hv
      rw [hv] at h1 h2
      simp only at h1 h2
      rw [(toF_stp (n := n) (by omega) h1).2, (toF_stp (n := n) (by omega) h2).2, ha]
  rename_i c
  rw [if_neg c] at h2
  split at h1
  · rename_i c
    rw [if_pos c] at h2
    cases hv : oneF ws 1 64 with
    | error e => rw [hv] at h1; cases h1
    | ok v =>
      have := oneF_bd hv
      rw [hv] at h1 h2
      simp only at h1 h2
      rw [(toF_stp (n := n) (align_le h0 this.1) h1).2, (toF_stp (n := n) (align_le h0' this.1) h2).2, ha]
  rename_i c
  rw [if_neg c] at h2
  split at h1
  · rename_i c
    rw [if_pos c] at h2
    split at h1
    · cases h1
    · rename_i c
      rw [if_neg c] at h2
      cases hv : bytesF false ws.tail with
      | error e => rw [hv] at h1; cases h1
      | ok b =>
        cases hv2 : bytesF true ws.tail with
        | error e => rw [hv2] at h2; cases h2
        | ok b2 =>
          rw [hv] at h1
          rw [hv2] at h2
          rw [(layF_stp h0 h1).2, (layF_stp h0' h2).2, bytesF_len hv, bytesF_len hv2, ha]
  rename_i c
  rw [if_neg c] at h2
  split at h1
  · rename_i c
    rw [if_pos c] at h2
    split at h1
    · cases h1
    · rename_i c
      rw [if_neg c] at h2
      cases hv : wordsL false S.labels ws.tail with
      | error e => rw [hv] at h1; cases h1
      | ok b =>
        cases hv2 : wordsL true S'.labels ws.tail with
        | error e => rw [hv2] at h2; cases h2
        | ok b2 =>
          rw [hv] at h1
          rw [hv2] at h2
          rw [(layF_stp h0 h1).2, (layF_stp h0' h2).2, wordsL_len hv, wordsL_len hv2, ha]
  rename_i c
  rw [if_neg c] at h2
  split at h1
  · rename_i c
    rw [if_pos c] at h2
    split at h1
    · cases h1
    · rename_i c
      rw [if_neg c] at h2
      rw [(layF_stp h0 h1).2, (layF_stp h0' h2).2, ha]
  · rename_i c
    rw [if_neg c] at h2
    cases ho : opF (ws.headD []) with
    | none => rw [ho] at h1; cases h1
    | some op => rw [ho] at h1 h2; exact instrF_agree h h' ha hne ho h1 h2

/-- What the first pass keeps. -/
structure P1 (S : St) : Prop where
  names : ∀ p ∈ S.labels, nameB p.1 = true
  uniq : S.labels.Pairwise (fun p q => p.1 ≠ q.1)
  up : S.labels.Pairwise (fun p q => p.2 ≤ q.2)
  bd : ∀ p ∈ S.labels, 0 ≤ p.2 ∧ p.2 ≤ S.at'
  none : S.bytes = [] ∧ S.marks = []
/-- What the second keeps. -/
structure P2 (S : St) (n : Int) : Prop where
  lines : S.marks.Pairwise (fun p q => p.1 ≤ q.1 ∧ p.2 < q.2)
  bd : ∀ m ∈ S.marks, 0 ≤ m.1 ∧ m.1 ≤ S.at' ∧ 1 ≤ m.2 ∧ m.2 ≤ n
  long : S.at'.toNat ≤ S.bytes.length
theorem findL_noneP {l : List (Wd × Int)} {s : Wd} (h : findL l s = none) : ∀ p ∈ l, p.1 ≠ s := by
  unfold findL at h
  simp only [Option.map_eq_none_iff, List.find?_eq_none] at h
  intro p hp e
  exact h p hp (by simp [e])
theorem findL_uniq : ∀ {l : List (Wd × Int)}, l.Pairwise (fun p q => p.1 ≠ q.1) → ∀ p ∈ l, findL l p.1 = some p.2
  | [], _, p, hp => by cases hp
  | x :: r, h, p, hp => by
    rw [List.pairwise_cons] at h
    rcases List.mem_cons.1 hp with rfl | hp
    · simp [findL]
    · have hne := h.1 p hp
      have := findL_uniq h.2 p hp
      unfold findL at this ⊢
      rw [List.find?_cons]
      rw [show (x.1 == p.1) = false by simpa using hne]
      exact this
theorem P1.step {S T : St} {n : Int} (h : P1 S) (s : Stp false S T n) : P1 T := by
  have := s.first rfl
  exact ⟨by rw [s.labels]; exact h.names, by rw [s.labels]; exact h.uniq, by rw [s.labels]; exact h.up, by rw [s.labels]; exact fun p hp => ⟨(h.bd p hp).1, Int.le_trans (h.bd p hp).2 s.le⟩, by rw [this.1, this.2]; exact h.none⟩
theorem pairwise_snoc {α : Type} {R : α → α → Prop} {l : List α} {x : α} (h : l.Pairwise R) (hx : ∀ y ∈ l, R y x) : (l ++ [x]).Pairwise R := by
  rw [List.pairwise_append]
  refine ⟨h, by simp, fun a ha b hb => ?_⟩
  have : b = x := by simpa using hb
  rw [this]
  exact hx a ha
theorem P1.label {S : St} {s : Wd} (h : P1 S) (a0 : 0 ≤ S.at') (hf : findL S.labels s = .none) (hn : nameB s = true) : P1 { S with labels := S.labels ++ [(s, S.at')] } := by
  refine ⟨fun p hp => ?_, pairwise_snoc h.uniq (findL_noneP hf), pairwise_snoc h.up (fun p hp => (h.bd p hp).2), fun p hp => ?_, h.none⟩
  · rcases List.mem_append.1 hp with hp | hp
    · exact h.names p hp
    · have : p = (s, S.at') := by simpa using hp
      rw [this]; exact hn
  · rcases List.mem_append.1 hp with hp | hp
    · exact h.bd p hp
    · have : p = (s, S.at') := by simpa using hp
      rw [this]; exact ⟨a0, Int.le_refl _⟩
theorem P2.step {S T : St} {n : Int} (h : P2 S n) (a0 : 0 ≤ S.at') (n0 : 0 ≤ n) (s : Stp true S T (n + 1)) : P2 T (n + 1) := by
  refine ⟨?_, ?_, s.long rfl⟩
  · rcases s.marks with e | e
    · rw [e]; exact h.lines
    · rw [e]; exact pairwise_snoc h.lines (fun p hp => ⟨(h.bd p hp).2.1, by have := (h.bd p hp).2.2.2; simp only; omega⟩)
  · intro m hm
    have hle := s.le
    rcases s.marks with e | e
    · rw [e] at hm; have := h.bd m hm; omega
    · rw [e] at hm
      rcases List.mem_append.1 hm with hm | hm
      · have := h.bd m hm; omega
      · have : m = (S.at', n + 1) := by simpa using hm
        rw [this]
        simp only
        omega
theorem P2.more {S : St} {n : Int} (h : P2 S n) : P2 S (n + 1) := ⟨h.lines, fun m hm => by have := h.bd m hm; omega, h.long⟩

theorem label_first {S T : St} {ws vs : List Wd} {k : Nat} (hk : StOk S k) (h : P1 S) (hl : labelF false S ws = .ok (T, vs)) : P1 T ∧ T.at' = S.at' ∧ StOk T (k + 1) := by
  unfold labelF at hl
  simp only at hl
  split at hl
  · rw [if_neg (by decide)] at hl
    split at hl
    · cases hl
    · rename_i hc
      cases hl
      simp only [not_or] at hc
      obtain ⟨c1, c2⟩ := hc
      refine ⟨h.label hk.a0 (by simpa using c1) (by simpa using c2), rfl, hk.a0, hk.a1, hk.bl, Nat.le_succ_of_le hk.ml, by have := hk.ll; simp; omega, fun p hp => ?_⟩
      rcases List.mem_append.1 hp with hp | hp
      · exact hk.lb p hp
      · have : p = ((ws.headD []).dropLast, S.at') := by simpa using hp
        rw [this]
        exact ⟨hk.a0, hk.a1⟩
  · cases hl
    exact ⟨h, rfl, hk.more (by omega)⟩
theorem label_againP {S T : St} {ws vs : List Wd} (hl : labelF true S ws = .ok (T, vs)) : T = S := by
  unfold labelF at hl
  simp only [↓reduceIte] at hl
  split at hl <;> (cases hl; rfl)
theorem label_same {S S' T T' : St} {ws vs vs' : List Wd} (h1 : labelF false S ws = .ok (T, vs)) (h2 : labelF true S' ws = .ok (T', vs')) : vs = vs' := by
  unfold labelF at h1 h2
  simp only [↓reduceIte, Bool.false_eq_true] at h1 h2
  split at h1
  · rename_i c
    rw [if_pos c] at h2
    split at h1
    · cases h1
    · cases h1; cases h2; rfl
  · rename_i c
    rw [if_neg c] at h2
    cases h1; cases h2; rfl
theorem doF_first {S T : St} {n : Int} {ws : List Wd} {k : Nat} (hk : StOk S k) (h : P1 S) (hT : doF false S n ws = .ok T) : P1 T := by
  unfold doF at hT
  split at hT
  · cases hT; exact h
  · cases hl : labelF false S ws with
    | error e => rw [hl] at hT; cases hT
    | ok t =>
      obtain ⟨U, vs⟩ := t
      rw [hl] at hT
      simp only at hT
      obtain ⟨q1, q2, q3⟩ := label_first hk h hl
      split at hT
      · cases hT; exact q1
      · exact q1.step (stepF_stp q3 hT)
theorem doF_again {S T : St} {n : Int} {ws : List Wd} {k : Nat} (hk : StOk S k) (h : P2 S n) (n0 : 0 ≤ n) (hT : doF true S (n + 1) ws = .ok T) : P2 T (n + 1) ∧ T.labels = S.labels := by
  unfold doF at hT
  split at hT
  · cases hT; exact ⟨h.more, rfl⟩
  · cases hl : labelF true S ws with
    | error e => rw [hl] at hT; cases hT
    | ok t =>
      obtain ⟨U, vs⟩ := t
      rw [hl] at hT
      simp only at hT
      obtain rfl := label_againP hl
      split at hT
      · cases hT; exact ⟨h.more, rfl⟩
      · have s := stepF_stp hk hT
        exact ⟨h.step hk.a0 n0 s, s.labels⟩
theorem doF_agree {S S' T T' : St} {n : Int} {ws : List Wd} {k k' : Nat} (hk : StOk S k) (h : P1 S) (h' : StOk S' k') (ha : S.at' = S'.at') (h1 : doF false S n ws = .ok T) (h2 : doF true S' n ws = .ok T') : T.at' = T'.at' := by
  unfold doF at h1 h2
  split at h1
  · rename_i c
    rw [if_pos c] at h2
    cases h1; cases h2; exact ha
  · rename_i c
    rw [if_neg c] at h2
    cases hl : labelF false S ws with
    | error e => rw [hl] at h1; cases h1
    | ok t =>
      obtain ⟨U, vs⟩ := t
      rw [hl] at h1
      simp only at h1
      cases hl' : labelF true S' ws with
      | error e => rw [hl'] at h2; cases h2
      | ok t' =>
        obtain ⟨U', vs'⟩ := t'
        rw [hl'] at h2
        simp only at h2
        obtain rfl := label_same hl hl'
        obtain rfl := label_againP hl'
        obtain ⟨q1, q2, q3⟩ := label_first hk h hl
        split at h1
        · rename_i cv
          rw [if_pos cv] at h2
          cases h1; cases h2; rw [q2]; exact ha
        · rename_i cv
          rw [if_neg cv] at h2
          exact stepF_agree q3 h' (by rw [q2]; exact ha) cv h1 h2
theorem passF_both : ∀ (L : List (List Wd)) {S S' T T' : St} {n : Int} {k k' : Nat}, StOk S k → P1 S → StOk S' k' → P2 S' n → 0 ≤ n → S.at' = S'.at' → passF false S n L = .ok T → passF true S' n L = .ok T' →
    P1 T ∧ P2 T' (n + (L.length : Int)) ∧ T.at' = T'.at' ∧ T'.labels = S'.labels
  | [], S, S', T, T', n, k, k', hk, h, hk', h', n0, ha, h1, h2 => by
    cases h1; cases h2
    exact ⟨h, by simpa using h', ha, rfl⟩
  | ws :: r, S, S', T, T', n, k, k', hk, h, hk', h', n0, ha, h1, h2 => by
    simp only [passF] at h1 h2
    cases hd : doF false S (n + 1) ws with
    | error e => rw [hd] at h1; cases h1
    | ok U =>
      rw [hd] at h1
      cases hd' : doF true S' (n + 1) ws with
      | error e => rw [hd'] at h2; cases h2
      | ok U' =>
        rw [hd'] at h2
        obtain ⟨q1, q2⟩ := doF_again hk' h' n0 hd'
        obtain ⟨z1, z2, z3, z4⟩ := passF_both r ((doF_both hk).1 U hd) (doF_first hk h hd) ((doF_both hk').1 U' hd') q1 (by omega) (doF_agree hk h hk' ha hd hd') h1 h2
        refine ⟨z1, ?_, z3, z4.trans q2⟩
        have e : n + ((ws :: r).length : Int) = n + 1 + (r.length : Int) := by simp; omega
        rw [e]
        exact z2
theorem passF_first : ∀ (L : List (List Wd)) {S T : St} {n : Int} {k : Nat}, StOk S k → P1 S → passF false S n L = .ok T → P1 T
  | [], S, T, n, k, hk, h, h1 => by cases h1; exact h
  | ws :: r, S, T, n, k, hk, h, h1 => by
    simp only [passF] at h1
    cases hd : doF false S (n + 1) ws with
    | error e => rw [hd] at h1; cases h1
    | ok U =>
      rw [hd] at h1
      exact passF_first r ((doF_both hk).1 U hd) (doF_first hk h hd) h1
theorem passF_ok : ∀ (L : List (List Wd)) {again : Bool} {S T : St} {n : Int} {k : Nat}, StOk S k → passF again S n L = .ok T → StOk T (k + 2 * L.length)
  | [], again, S, T, n, k, hk, h => by cases h; simpa using hk
  | ws :: r, again, S, T, n, k, hk, h => by
    simp only [passF] at h
    cases hd : doF again S (n + 1) ws with
    | error e => rw [hd] at h; cases h
    | ok U =>
      rw [hd] at h
      exact (passF_ok r ((doF_both hk).1 U hd) h).more (by simp; omega)
theorem passF_bad : ∀ (L : List (List Wd)) {again : Bool} {S : St} {n : Int} {k : Nat} {ln er : Int}, StOk S k → passF again S n L = .error (ln, er) → n + 1 ≤ ln ∧ ln ≤ n + (L.length : Int) ∧ er ≠ 0
  | [], again, S, n, k, ln, er, hk, h => by cases h
  | ws :: r, again, S, n, k, ln, er, hk, h => by
    simp only [passF] at h
    cases hd : doF again S (n + 1) ws with
    | error e =>
      rw [hd] at h
      cases h
      exact ⟨Int.le_refl _, by simp; omega, (doF_both hk).2 _ hd⟩
    | ok U =>
      rw [hd] at h
      have := passF_bad r ((doF_both hk).1 U hd) h
      simp
      omega
theorem st0_ok : StOk ⟨0, [], [], []⟩ 0 := ⟨by decide, by decide, by simp, by simp, by simp, by simp⟩

/-- A program's places. -/
structure PlOk (S : St) : Prop where
  names : ∀ p ∈ S.labels, nameB p.1 = true
  find : ∀ p ∈ S.labels, findL S.labels p.1 = some p.2
  up : S.labels.Pairwise (fun p q => p.2 ≤ q.2)
  bd : ∀ p ∈ S.labels, 0 ≤ p.2 ∧ p.2 ≤ (S.bytes.length : Int)
  lines : S.marks.Pairwise (fun p q => p.1 ≤ q.1 ∧ p.2 < q.2)
  mks : ∀ m ∈ S.marks, 0 ≤ m.1 ∧ m.1 ≤ (S.bytes.length : Int) ∧ 1 ≤ m.2
theorem lines_len (L : List UInt8) (h : longB L = false) : (linesF L).length ≤ 513 := by
  unfold longB at h
  simp only [Bool.or_eq_false_iff, decide_eq_false_iff_not] at h
  unfold linesF
  rw [List.length_map, splitC_len]
  have := h.2
  omega
theorem asm_ok {L : List UInt8} {S : St} (h : asmF L = .ok S) : PlOk S ∧ StOk S 3000 := by
  unfold asmF at h
  split at h
  · cases h
  · rename_i hc
    have hl := lines_len L (by simpa using hc)
    cases h1 : passF false ⟨0, [], [], []⟩ 0 (linesF L) with
    | error e => rw [h1] at h; cases h
    | ok U =>
      rw [h1] at h
      simp only at h
      have q0 : P1 ⟨0, [], [], []⟩ := ⟨by simp, by simp, by simp, by simp, rfl, rfl⟩
      have q1 := passF_ok _ st0_ok h1
      have q2 := passF_first _ st0_ok q0 h1
      have q3 : StOk { U with at' := 0 } (0 + 2 * (linesF L).length) := ⟨Int.le_refl _, by simp, q1.bl, q1.ml, q1.ll, q1.lb⟩
      have q4 : P2 { U with at' := 0 } 0 := ⟨by rw [show ({ U with at' := 0 } : St).marks = U.marks from rfl, q2.none.2]; simp, by rw [show ({ U with at' := 0 } : St).marks = U.marks from rfl, q2.none.2]; simp, by simp⟩
      obtain ⟨z1, z2, z3, z4⟩ := passF_both _ st0_ok q0 q3 q4 (Int.le_refl _) rfl h1 h
      have z4 : S.labels = U.labels := z4
      have hlong := z2.long
      refine ⟨⟨by rw [z4]; exact q2.names, by rw [z4]; exact findL_uniq q2.uniq, by rw [z4]; exact q2.up, ?_, z2.lines, fun m hm => ?_⟩, (passF_ok _ q3 h).more (by omega)⟩
      · rw [z4]
        intro p hp
        have := q2.bd p hp
        omega
      · have := z2.bd m hm
        omega
theorem asm_bad {L : List UInt8} {ln er : Int} (h : asmF L = .error (ln, er)) : er ≠ 0 ∧ ((ln = 0 ∧ er = 3 ∧ longB L = true) ∨ (1 ≤ ln ∧ ln ≤ 513)) := by
  unfold asmF at h
  split at h
  · rename_i hc
    cases h
    exact ⟨by decide, .inl ⟨rfl, rfl, hc⟩⟩
  · rename_i hc
    have hl := lines_len L (by simpa using hc)
    cases h1 : passF false ⟨0, [], [], []⟩ 0 (linesF L) with
    | error e =>
      rw [h1] at h
      cases h
      have := passF_bad _ st0_ok h1
      exact ⟨this.2.2, .inr ⟨by omega, by omega⟩⟩
    | ok U =>
      rw [h1] at h
      simp only at h
      have q1 := passF_ok _ st0_ok h1
      have q3 : StOk { U with at' := 0 } (0 + 2 * (linesF L).length) := ⟨Int.le_refl _, by simp, q1.bl, q1.ml, q1.ll, q1.lb⟩
      have := passF_bad _ q3 h
      exact ⟨this.2.2, .inr ⟨by omega, by omega⟩⟩
/-- The line of a place, by the marks. -/
def lineM (ms : List (Int × Int)) (x : Int) : Int := ms.foldl (fun n m => if m.1 ≤ x then m.2 else n) 0
theorem lineM_snoc (ms : List (Int × Int)) (m : Int × Int) (x : Int) : lineM (ms ++ [m]) x = if m.1 ≤ x then m.2 else lineM ms x := by simp [lineM]
theorem line_after : ∀ (ms : List (Int × Int)) (x n : Int), (∀ m ∈ ms, x < m.1) → ms.foldl (fun n m => if m.1 ≤ x then m.2 else n) n = n
  | [], x, n, h => rfl
  | m :: r, x, n, h => by
    rw [List.foldl_cons, if_neg (by have := h m List.mem_cons_self; omega)]
    exact line_after r x n (fun q hq => h q (List.mem_cons_of_mem _ hq))
theorem line_none {ms : List (Int × Int)} {x : Int} (h : ∀ m ∈ ms, x < m.1) : lineM ms x = 0 := line_after ms x 0 h
theorem line_at {ms : List (Int × Int)} (hp : ms.Pairwise (fun p q => p.1 ≤ q.1 ∧ p.2 < q.2)) {k : Nat} {m : Int × Int} (hk : ms[k]? = some m) (hn : ∀ q, ms[k + 1]? = some q → m.1 < q.1) : lineM ms m.1 = m.2 := by
  have hkl := (List.getElem?_eq_some_iff.1 hk).1
  have hm := (List.getElem?_eq_some_iff.1 hk).2
  have e : ms = ms.take k ++ m :: ms.drop (k + 1) := by
    rw [← hm, List.getElem_cons_drop, List.take_append_drop]
  unfold lineM
  rw [e, List.foldl_append, List.foldl_cons, if_pos (Int.le_refl _)]
  refine line_after _ _ _ (fun q hq => ?_)
  cases hd : ms.drop (k + 1) with
  | nil => rw [hd] at hq; cases hq
  | cons y r =>
    have hy : ms[k + 1]? = some y := by rw [← List.head?_drop, hd]; rfl
    have h1 := hn y hy
    have hpd : (ms.drop (k + 1)).Pairwise (fun p q => p.1 ≤ q.1 ∧ p.2 < q.2) := hp.drop
    rw [hd] at hq hpd
    rw [List.pairwise_cons] at hpd
    rcases List.mem_cons.1 hq with rfl | hq
    · exact h1
    · have := (hpd.1 q hq).1
      omega
end Go.Proofs.YtgfljokamgbcaaaDoor
namespace Go.Proofs.YtgfljokamgbcaaaDoor
open Go.RowKit
set_option linter.unusedSimpArgs false
set_option linter.unusedVariables false

def insOk (r : InsR) : Bool := Isa.mayB (Isa.fm r.op false) r.a r.b r.imm
def insT (r : InsR) : List UInt8 := if insOk r then showL r.op r.a r.b r.imm ++ [10] else []
def insE (r : InsR) : List Int := if insOk r then Isa.encL (Isa.fm r.op false) r.op r.a r.b r.imm else []
theorem ins_nm {r : InsR} (h : insOk r = true) : ∃ n ∈ nmTab, n.op = r.op := by
  have hg := guest_zero h
  have ok := r.ok
  have h2 := List.all_eq_true.1 op_first r.op.toNat (List.mem_range.2 (by omega))
  rw [show ((r.op.toNat : Nat) : Int) = r.op by omega, hg] at h2
  simp only [Bool.not_true, Bool.false_or, List.any_eq_true, Bool.and_eq_true, decide_eq_true_eq] at h2
  obtain ⟨n, h3, h4, -⟩ := h2
  exact ⟨n, h3, h4⟩
theorem words_plainB {n : Nm} (h : n ∈ nmTab) {a b : Int} (ha : 0 ≤ a ∧ a < 8) (hb : 0 ≤ b ∧ b < 8) (imm : Int) : ∀ x ∈ wordsOf n a b imm, x ≠ [] ∧ ∀ c ∈ x, blankB c = false ∧ c ≠ 59 ∧ c ≠ 10 := by
  obtain ⟨k, hk⟩ := List.getElem?_of_mem h
  obtain ⟨_, _, pa, pb, _⟩ := nm_is hk
  obtain ⟨-, -, w1, w2⟩ := nm_plain_of h
  have hc : ∀ c : UInt8, (48 ≤ c.toNat ∧ c.toNat ≤ 57) ∨ 97 ≤ c.toNat → blankB c = false ∧ c ≠ 59 ∧ c ≠ 10 := by
    intro c h1
    have hne : ∀ k : UInt8, (k.toNat < 48 ∨ (57 < k.toNat ∧ k.toNat < 97)) → c ≠ k := fun k hk e => by subst e; omega
    refine ⟨?_, hne 59 (by decide), hne 10 (by decide)⟩
    simp [blankB, hne 32 (by decide), hne 9 (by decide)]
  have hl : ∀ c : Int, (c = 114 ∨ c = 99 ∨ c = 112) → ∀ r : Int, 0 ≤ r → r < 8 → ∀ d ∈ [UInt8.ofNat c.toNat, UInt8.ofNat (48 + r).toNat], blankB d = false ∧ d ≠ 59 ∧ d ≠ 10 := by
    intro c hc' r h0 h1 d hd
    refine hc d ?_
    simp at hd
    rcases hd with rfl | rfl
    · rw [u8_of (by omega)]; omega
    · rw [u8_of (by omega)]; omega
  intro x hx
  unfold wordsOf at hx
  simp only [List.mem_cons, List.mem_append] at hx
  rcases hx with rfl | (hx | hx) | hx
  · exact ⟨w1, fun c h => hc c (.inr (w2 c h).1)⟩
  · split at hx
    · cases hx
    · simp at hx; subst hx
      exact ⟨by simp, hl n.a (by omega) a ha.1 ha.2⟩
  · split at hx
    · cases hx
    · simp at hx; subst hx
      exact ⟨by simp, hl n.b (by omega) b hb.1 hb.2⟩
  · split at hx
    · simp at hx; subst hx
      exact ⟨(itoa_head imm).2.1, (itoa_head imm).2.2⟩
    · cases hx
theorem join_no10 : ∀ (l : List Wd), (∀ x ∈ l, ∀ c ∈ x, c ≠ 10) → ∀ c ∈ joinF l, c ≠ 10
  | [], _, c, hc => by cases hc
  | [x], h, c, hc => h x (by simp) c (by simpa [joinF] using hc)
  | x :: y :: l, h, c, hc => by
    have e : joinF (x :: y :: l) = x ++ 32 :: joinF (y :: l) := by simp [joinF]
    rw [e] at hc
    rcases List.mem_append.1 hc with hc | hc
    · exact h x (by simp) c hc
    · rcases List.mem_cons.1 hc with rfl | hc
      · decide
      · exact join_no10 (y :: l) (fun z hz => h z (List.mem_cons_of_mem _ hz)) c hc
/-- A shown instruction's line. -/
theorem ins_line {r : InsR} (h : insOk r = true) : ∃ n ∈ nmTab, n.op = r.op ∧ lineW (showL r.op r.a r.b r.imm) = wordsOf n r.a r.b r.imm ∧ ∀ c ∈ showL r.op r.a r.b r.imm, c ≠ 10 := by
  obtain ⟨n, hn, ho⟩ := ins_nm h
  have ok := r.ok
  have hmt : Isa.mayB (Isa.fm n.op true) r.a r.b r.imm = true := by rw [ho, fm_host (guest_zero h)]; exact h
  obtain ⟨a8, b8, -⟩ := may_parts hn hmt (by omega) (by omega)
  have hw := words_plainB hn (a := r.a) (b := r.b) ⟨by omega, a8⟩ ⟨by omega, b8⟩ r.imm
  have e := show_is hn hmt
  rw [ho] at e
  refine ⟨n, hn, ho, ?_, ?_⟩
  · rw [e]
    exact lineW_join (words_head n _ _ _).2 (fun x hx => ⟨(hw x hx).1, fun c hc => ⟨((hw x hx).2 c hc).1, ((hw x hx).2 c hc).2.1⟩⟩)
  · rw [e]
    exact join_no10 _ (fun x hx c hc => ((hw x hx).2 c hc).2.2)
theorem insE_len (r : InsR) : (insE r).length ≤ 6 ∧ (insOk r = true → ((insE r).length : Int) = (Isa.fm r.op false).n) := by
  unfold insE
  split
  · rename_i h
    have h1 := encL_len h
    have h2 := fmn6 r.op
    exact ⟨by omega, fun _ => h1⟩
  · rename_i h
    exact ⟨by simp, fun h' => absurd h' h⟩
theorem insT_len (r : InsR) : (insT r).length ≤ 40 := by
  unfold insT
  split
  · have ok := r.ok
    rename_i h
    unfold showL
    split
    · split
      · rename_i n hf
        obtain ⟨k, hk⟩ := List.getElem?_of_mem (List.mem_of_find?_eq_some hf)
        obtain ⟨_, _, _, _, hw⟩ := nm_is hk
        have hi := itoa_len r.imm (by omega) (by omega)
        unfold Nm.show regL numL
        simp only [List.length_append]
        split <;> split <;> split <;> simp <;> omega
      · simp
    · simp
  · simp
theorem flat_len {α : Type} {f : InsR → List α} {m : Nat} (h : ∀ r, (f r).length ≤ m) : ∀ l : List InsR, (l.flatMap f).length ≤ m * l.length
  | [] => by simp
  | r :: l => by
    rw [List.flatMap_cons, List.length_append, List.length_cons, Nat.mul_succ]
    have := h r
    have := flat_len h l
    omega
theorem shown_pass : ∀ (l : List InsR) (S : St) (k : Int), 0 ≤ S.at' → S.at' + ((l.flatMap insE).length : Int) ≤ 4096 →
    passF false S k (linesF (l.flatMap insT)) = .ok { S with at' := S.at' + ((l.flatMap insE).length : Int) } ∧
    ((S.bytes.length : Int) = S.at' → ∃ T, passF true S k (linesF (l.flatMap insT)) = .ok T ∧ T.bytes = S.bytes ++ l.flatMap insE)
  | [], S, k, h0, h => by
    simp only [List.flatMap_nil, linesF_nil, passF, doF, if_true, List.length_nil, List.append_nil]
    exact ⟨by simp, fun _ => ⟨S, rfl, rfl⟩⟩
  | r :: l, S, k, h0, h => by
    rw [List.flatMap_cons, List.flatMap_cons]
    rw [List.flatMap_cons, List.length_append] at h
    by_cases c : insOk r = true
    · have el := (insE_len r).2 c
      have ok := r.ok
      obtain ⟨n, hn, ho, hlw, h10⟩ := ins_line c
      have eT : insT r ++ l.flatMap insT = showL r.op r.a r.b r.imm ++ 10 :: l.flatMap insT := by unfold insT; rw [if_pos c]; simp
      have eE : insE r = Isa.encL (Isa.fm n.op false) n.op r.a r.b r.imm := by unfold insE; rw [if_pos c, ho]
      rw [eT, linesF_cons _ _ h10, hlw]
      have hm : Isa.mayB (Isa.fm n.op false) r.a r.b r.imm = true := by rw [ho]; exact c
      rw [← ho] at el
      obtain ⟨p1, p2⟩ := line_instr hn hm (by omega) (by omega) (by omega) (by omega) S (k + 1) (by omega)
      simp only [passF]
      constructor
      · rw [p1]
        simp only
        have := (shown_pass l { S with at' := S.at' + (Isa.fm n.op false).n } (k + 1) (by have := fmn6 n.op; simp only; omega) (by simp only; omega)).1
        rw [this]
        simp only
        rw [List.length_append]
        congr 2
        omega
      · intro hb
        rw [p2 hb]
        simp only
        obtain ⟨T, t1, t2⟩ := (shown_pass l { S with at' := S.at' + (Isa.fm n.op false).n, bytes := S.bytes ++ Isa.encL (Isa.fm n.op false) n.op r.a r.b r.imm, marks := S.marks ++ [(S.at', k + 1)] } (k + 1) (by have := fmn6 n.op; simp only; omega) (by simp only; omega)).2 (by simp only [List.length_append]; rw [← eE]; omega)
        refine ⟨T, t1, ?_⟩
        rw [t2]
        simp only
        rw [eE, List.append_assoc]
    · have eT : insT r = [] := by unfold insT; rw [if_neg c]
      have eE : insE r = [] := by unfold insE; rw [if_neg c]
      rw [eT, eE, List.nil_append, List.nil_append]
      rw [eE] at h
      exact shown_pass l S k h0 (by simpa using h)
theorem count_flat : ∀ l : List InsR, (l.flatMap insT).count 10 ≤ l.length ∧ ((l.flatMap insT) ≠ [] → (l.flatMap insT).getLast? = some 10)
  | [] => by simp
  | r :: l => by
    obtain ⟨h1, h2⟩ := count_flat l
    rw [List.flatMap_cons, List.count_append, List.length_cons]
    by_cases c : insOk r = true
    · obtain ⟨n, hn, ho, hlw, h10⟩ := ins_line c
      have eT : insT r = showL r.op r.a r.b r.imm ++ [10] := by unfold insT; rw [if_pos c]
      rw [eT, List.count_append, List.count_eq_zero.2 (fun hm => h10 10 hm rfl)]
      refine ⟨by simp; omega, fun _ => ?_⟩
      by_cases e : l.flatMap insT = []
      · rw [e]; simp
      · rw [List.getLast?_append, h2 e]; rfl
    · have eT : insT r = [] := by unfold insT; rw [if_neg c]
      rw [eT]
      refine ⟨by simp; omega, fun h => ?_⟩
      simp only [List.nil_append] at h ⊢
      exact h2 h
theorem shown_law (l : List InsR) (hl : l.length ≤ 200) : ∃ S, asmF (l.flatMap insT) = .ok S ∧ S.bytes = l.flatMap insE := by
  have h1 := flat_len insT_len l
  have h2 := flat_len (fun r => (insE_len r).1) l
  obtain ⟨h3, h4⟩ := count_flat l
  have hlong : longB (l.flatMap insT) = false := by
    unfold longB
    have : (if l.flatMap insT ≠ [] ∧ (l.flatMap insT).getLast? ≠ some 10 then 1 else 0) = 0 := if_neg (fun h => h.2 (h4 h.1))
    rw [this]
    simp only [Bool.or_eq_false_iff, decide_eq_false_iff_not]
    omega
  unfold asmF
  rw [hlong]
  simp only [Bool.false_eq_true, if_false]
  rw [(shown_pass l ⟨0, [], [], []⟩ 0 (Int.le_refl _) (by simp only; omega)).1]
  simp only
  obtain ⟨T, t1, t2⟩ := (shown_pass l ⟨0, [], [], []⟩ 0 (Int.le_refl _) (by simp only; omega)).2 rfl
  exact ⟨T, t1, by rw [t2]; rfl⟩
end Go.Proofs.YtgfljokamgbcaaaDoor
namespace Go.Proofs.YtgfljokamgbcaaaDoor
open Go.RowKit
set_option linter.unusedSimpArgs false
set_option linter.unusedVariables false
set_option maxRecDepth 100000

/-- Pairs that lie in a slice. -/
def PairsIn {α : Type} (enc : α → List Value) (w : World) (ao : Option Addr) (l : List α) : Prop :=
  l = [] ∨ ∃ g, ao = some ⟨g, 0, none⟩ ∧ g < w.heap.size ∧ ∀ i p u v, l[i]? = some p → enc p = [u, v] → w.cell? ⟨g, i * 2, none⟩ = some u ∧ w.cell? ⟨g, i * 2 + 1, none⟩ = some v
theorem flat2 {α : Type} (enc : α → List Value) (he : ∀ p, (enc p).length = 2) : ∀ (l : List α) (i : Nat) (p : α) (u v : Value), l[i]? = some p → enc p = [u, v] → (l.flatMap enc)[i * 2]? = some u ∧ (l.flatMap enc)[i * 2 + 1]? = some v
  | [], i, p, u, v, h, _ => by cases h
  | x :: l, 0, p, u, v, h, e => by
    simp only [List.getElem?_cons_zero, Option.some.injEq] at h
    subst h
    rw [List.flatMap_cons, e]
    exact ⟨rfl, rfl⟩
  | x :: l, i + 1, p, u, v, h, e => by
    rw [List.getElem?_cons_succ] at h
    have := flat2 enc he l i p u v h e
    rw [List.flatMap_cons, List.getElem?_append_right (by rw [he]; omega), List.getElem?_append_right (by rw [he]; omega), he]
    rw [show (i + 1) * 2 - 2 = i * 2 by omega, show (i + 1) * 2 + 1 - 2 = i * 2 + 1 by omega]
    exact this
theorem own_pairs {α : Type} {enc : α → List Value} (he : ∀ p, (enc p).length = 2) {w : World} {base : Nat} {e : TypeId} {v : Value} {l : List α} (h : w.ownsRow base e 2 v l.length (l.flatMap enc)) :
    ∃ ao cap, v = .slice ao l.length cap ∧ l.length ≤ cap ∧ cap ≤ maxLen ∧ PairsIn enc w ao l := by
  obtain ⟨h1, ⟨rfl, h2⟩ | ⟨g, cap, cur, rfl, h3, h4, h5⟩⟩ := h
  · exact ⟨none, 0, by rw [h2], by omega, by unfold maxLen; omega, .inl (List.eq_nil_of_length_eq_zero h2)⟩
  · obtain ⟨h5, h6, h7, h8⟩ := h5
    refine ⟨_, cap, rfl, h5, h6, .inr ⟨g, rfl, heap_ltA h4, fun i p u v' hp ep => ?_⟩⟩
    have hi := (List.getElem?_eq_some_iff.1 hp).1
    obtain ⟨q1, q2⟩ := flat2 enc he l i p u v' hp ep
    rw [← h8, List.getElem?_take, if_pos (by omega)] at q1 q2
    rw [cell_of_row w g (i * 2) _ _ _ h4, cell_of_row w g (i * 2 + 1) _ _ _ h4]
    exact ⟨by simpa using q1, by simpa using q2⟩
theorem PairsIn.below {α : Type} {enc : α → List Value} {w w' : World} {ao : Option Addr} {l : List α} (h : PairsIn enc w ao l) (hb : Below w.heap.size w w') : PairsIn enc w' ao l := by
  rcases h with h | ⟨g, h1, h2, h3⟩
  · exact .inl h
  · exact .inr ⟨g, h1, Nat.lt_of_lt_of_le h2 hb.size, fun i p u v hp ep => by
      obtain ⟨q1, q2⟩ := h3 i p u v hp ep
      exact ⟨(hb.cell (p := ⟨g, i * 2, none⟩) h2).trans q1, (hb.cell (p := ⟨g, i * 2 + 1, none⟩) h2).trans q2⟩⟩

theorem find_at {α : Type} {p : α → Bool} : ∀ (l : List α) (k : Nat) (x : α), l[k]? = some x → p x = true → (∀ j y, j < k → l[j]? = some y → p y = false) → l.find? p = some x
  | [], k, x, h, _, _ => by cases h
  | y :: l, 0, x, h, hp, _ => by
    simp only [List.getElem?_cons_zero, Option.some.injEq] at h
    subst h
    rw [List.find?_cons, hp]
  | y :: l, k + 1, x, h, hp, hn => by
    rw [List.find?_cons, hn 0 y (by omega) rfl]
    exact find_at l k x h hp (fun j z hj hz => hn (j + 1) z (by omega) hz)

set_option maxHeartbeats 4000000 in
theorem place_c (ao : Option Addr) (cap : Nat) (vB vM : Value) (l : List (Wd × Int)) (s : Wd) (w : World) (hI : PairsIn labA w ao l) (hl : l.length ≤ 100000) (hc : l.length ≤ cap) (hm : cap ≤ maxLen) :
    Calls Tryd.prog 10 #[.agg #[vB, .slice ao l.length cap, vM], .string ⟨s.toArray⟩] w fun e w' => e = .returned (.tuple #[.int .i64 ((findL l s).getD 0), .bool (findL l s).isSome]) ∧ Below w.heap.size w w' := by
  obtain ⟨R, hR⟩ : ∃ x : Value, x = .tuple #[.int .i64 ((findL l s).getD 0), .bool (findL l s).isSome] := ⟨_, rfl⟩
  rw [← hR]
  have HR := Lib.hid hR
  have HI := Lib.hid hI
  clear hR hI
  go_enter Tryd.func10, Tryd.ntmps10
  go_wp2_with fail
  go_loopg [11] l.length (fun gk v11 wr => ∃ k : Nat, gk + k = l.length ∧ v11 = .int .i64 (k : Int) ∧ Below w.heap.size w wr ∧ Hid (∀ j p, j < k → l[j]? = some p → p.1 ≠ s))
  case atStart => exact ⟨0, by omega, rfl, (Below.refl _ _).alloc (Nat.le_refl _) _, Lib.hid (fun j p h => absurd h (by omega))⟩
  case round =>
    obtain ⟨k, hk, rfl, hB, HF⟩ := hrel
    by_cases c1 : k < l.length
    · have i1 : (k : Int) < (l.length : Int) := by omega
      obtain ⟨p, hp⟩ : ∃ p, l[k]? = some p := ⟨_, List.getElem?_eq_getElem c1⟩
      obtain ⟨g, rfl, hg, x0, x1⟩ : ∃ g, ao = some ⟨g, 0, none⟩ ∧ g < w.heap.size ∧ w.cell? ⟨g, k * 2, none⟩ = some (.string ⟨p.1.toArray⟩) ∧ w.cell? ⟨g, k * 2 + 1, none⟩ = some (.int .i64 p.2) := by
        rcases HI.out with h | ⟨g, h1, h2, h3⟩
        · rw [h] at hp; cases hp
        · exact ⟨g, h1, h2, h3 k p _ _ hp rfl⟩
      have y0 := (hB.cell (p := ⟨g, k * 2, none⟩) hg).trans x0
      have y1 := (hB.cell (p := ⟨g, k * 2 + 1, none⟩) hg).trans x1
      have hsz := hB.size
      have HP := Lib.hid hp
      clear x0 x1 hp
      by_cases c2 : p.1 = s
      · have e1 : (p.1 == s) = true := by simp [c2]
        have HRR := Lib.hid (show R = .tuple #[.int .i64 p.2, .bool true] by
          rw [HR.out]
          have : findL l s = some p.2 := by
            unfold findL
            rw [find_at l k p HP.out (by simp [c2]) (fun j q hj hq => by simpa using HF.out j q hj hq)]
            rfl
          rw [this]; rfl)
        clear HR c2
        go_wp2_with fail
        go_ret2
        refine ⟨by rw [HRR.out]; rfl, ?_⟩
        exact hB.alloc hsz _
      · have e1 : (p.1 == s) = false := by simpa using c2
        go_wp2_with fail
        go_roundg (gk - 1)
        case measure => omega
        case rel =>
          refine ⟨k + 1, by omega, by go_num, ?_, Lib.hid fun j q hj hq => ?_⟩
          · exact hB.alloc hsz _
          · rcases Nat.lt_or_ge j k with h | h
            · exact HF.out j q h hq
            · obtain rfl : j = k := by omega
              rw [HP.out] at hq; cases hq
              exact c2
    · have i1 : ¬ (k : Int) < (l.length : Int) := by omega
      have HRR := Lib.hid (show R = .tuple #[.int .i64 0, .bool false] by
        rw [HR.out]
        have : findL l s = none := by
          unfold findL
          rw [Option.map_eq_none_iff, List.find?_eq_none]
          intro p hp
          obtain ⟨j, hj⟩ := List.getElem?_of_mem hp
          have hjl := (List.getElem?_eq_some_iff.1 hj).1
          simpa using HF.out j p (by omega) hj
        rw [this]; rfl)
      clear HR
      go_wp2_with fail
      go_ret2
      exact ⟨by rw [HRR.out]; rfl, hB⟩

theorem lineM_at (ms : List (Int × Int)) (x : Int) (k : Nat) (m : Int × Int) (h : ms[k]? = some m) : lineM (ms.take (k + 1)) x = if m.1 ≤ x then m.2 else lineM (ms.take k) x := by
  rw [List.take_add_one, h]
  exact lineM_snoc _ _ _
set_option maxHeartbeats 4000000 in
theorem where_c (ao : Option Addr) (cap : Nat) (vB vL : Value) (l : List (Int × Int)) (x : Int) (w : World) (hI : PairsIn mrkA w ao l) (hl : l.length ≤ 100000) (hc : l.length ≤ cap) (hm : cap ≤ maxLen) :
    Calls Tryd.prog 11 #[.agg #[vB, vL, .slice ao l.length cap], .int .i64 x] w fun e w' => e = .returned (.int .i64 (lineM l x)) ∧ Below w.heap.size w w' := by
  have HI := Lib.hid hI
  clear hI
  go_enter Tryd.func11, Tryd.ntmps11
  go_wp2_with fail
  go_loopg [5, 11] l.length (fun gk v5 v11 wr => ∃ k : Nat, gk + k = l.length ∧ (∃ y : Int, v5 = .int .i64 y ∧ Hid (y = lineM (l.take k) x)) ∧ v11 = .int .i64 (k : Int) ∧ Below w.heap.size w wr)
  case atStart => exact ⟨0, by omega, ⟨0, rfl, Lib.hid rfl⟩, rfl, (Below.refl _ _).alloc (Nat.le_refl _) _⟩
  case round =>
    obtain ⟨k, hk, ⟨y, rfl, HY⟩, rfl, hB⟩ := hrel
    by_cases c1 : k < l.length
    · have i1 : (k : Int) < (l.length : Int) := by omega
      obtain ⟨m, hp⟩ : ∃ p, l[k]? = some p := ⟨_, List.getElem?_eq_getElem c1⟩
      obtain ⟨g, rfl, hg, x0, x1⟩ : ∃ g, ao = some ⟨g, 0, none⟩ ∧ g < w.heap.size ∧ w.cell? ⟨g, k * 2, none⟩ = some (.int .i64 m.1) ∧ w.cell? ⟨g, k * 2 + 1, none⟩ = some (.int .i64 m.2) := by
        rcases HI.out with h | ⟨g, h1, h2, h3⟩
        · rw [h] at hp; cases hp
        · exact ⟨g, h1, h2, h3 k m _ _ hp rfl⟩
      have y0 := (hB.cell (p := ⟨g, k * 2, none⟩) hg).trans x0
      have y1 := (hB.cell (p := ⟨g, k * 2 + 1, none⟩) hg).trans x1
      have hsz := hB.size
      have HP := Lib.hid hp
      clear x0 x1 hp
      obtain ⟨m1, m2⟩ := m
      simp only at y0 y1
      by_cases c2 : m1 ≤ x
      · go_wp2_with fail
        go_roundg (gk - 1)
        case measure => omega
        case rel =>
          refine ⟨k + 1, by omega, ⟨_, rfl, Lib.hid ?_⟩, by go_num, ?_⟩
          · rw [lineM_at _ _ _ _ HP.out]; simp only; rw [if_pos (by omega)]
          · exact hB.alloc hsz _
      · go_wp2_with fail
        go_roundg (gk - 1)
        case measure => omega
        case rel =>
          refine ⟨k + 1, by omega, ⟨_, rfl, Lib.hid ?_⟩, by go_num, ?_⟩
          · rw [lineM_at _ _ _ _ HP.out]; simp only; rw [if_neg (by omega)]; exact HY.out
          · exact hB.alloc hsz _
    · have i1 : ¬ (k : Int) < (l.length : Int) := by omega
      go_wp2_with fail
      go_ret
      refine ⟨?_, hB⟩
      rw [HY.out, List.take_of_length_le (by omega)]
      rfl

abbrev dgB : ByteArray := ⟨#[48, 49, 50, 51, 52, 53, 54, 55, 56, 57]⟩
theorem dg_ext (x : Nat) (h : x < 10) : dgB.extract x (x + 1) = ⟨[UInt8.ofNat (48 + x)].toArray⟩ := by
  have key : ∀ i : Fin 10, dgB.extract i.val (i.val + 1) = ⟨[UInt8.ofNat (48 + i.val)].toArray⟩ := by decide +kernel
  exact key ⟨x, h⟩
theorem ba_appD (a b : List UInt8) : (⟨a.toArray⟩ : ByteArray) ++ ⟨b.toArray⟩ = ⟨(a ++ b).toArray⟩ := by
  apply ByteArray.ext
  simp
set_option maxHeartbeats 4000000 in
theorem digits31_c (A : Nat) (hA : A < 10000) (w : World) :
    Calls Tryd.prog 12 #[.int .i64 (A : Int)] w fun e w' => e = .returned (.string ⟨(Lib.decDigits A).toArray⟩) ∧ w' = w := by
  go_enter Tryd.func12, Tryd.ntmps12
  go_wp2_with fail
  go_loopg [0, 3] (A + 1) (fun gk v0 v3 wr => ∃ (m : Nat) (t : List UInt8), gk = m + (if t = [] then 1 else 0) ∧ v0 = .int .i64 (m : Int) ∧ (∃ sb : ByteArray, v3 = .string sb ∧ Hid (sb = ⟨t.toArray⟩)) ∧ Hid (m * 10 ^ t.length < 10000 ∧ t.length ≤ 4) ∧ Hid ((t = [] ∧ m = A) ∨ (t ≠ [] ∧ (if m = 0 then t else Lib.decDigits m ++ t) = Lib.decDigits A)) ∧ wr = w)
  case atStart => exact ⟨A, [], rfl, rfl, ⟨_, rfl, Lib.hid rfl⟩, Lib.hid ⟨by simpa using hA, by simp⟩, Lib.hid (.inl ⟨rfl, rfl⟩), rfl⟩
  case round =>
    obtain ⟨m, t, hk, rfl, ⟨sb, rfl, HS⟩, hm, HI, rfl⟩ := hrel
    have hmd : m < 10000 := Nat.lt_of_le_of_lt (Nat.le_mul_of_pos_right m (Nat.pow_pos (by decide))) hm.out.1
    have hsz : sb.size ≤ 4 := by rw [HS.out]; exact hm.out.2
    have hnx : 0 < m ∨ t = [] → (m / 10) * 10 ^ (t.length + 1) < 10000 ∧ t.length + 1 ≤ 4 := by
      intro hc
      obtain ⟨q1, q2⟩ := hm.out
      refine ⟨Nat.lt_of_le_of_lt ?_ q1, ?_⟩
      · rw [Nat.pow_succ, Nat.mul_comm (10 ^ t.length) 10, ← Nat.mul_assoc]
        exact Nat.mul_le_mul_right _ (Nat.div_mul_le_self m 10)
      · rcases hc with h | h
        · rcases Nat.lt_or_ge t.length 4 with h4 | h4
          · omega
          · have e4 : t.length = 4 := by omega
            rw [e4] at q1
            omega
        · rw [h]; decide
    have HNX := Lib.hid hnx
    clear hnx
    have hmod : m % 10 < 10 := Nat.mod_lt _ (by decide)
    have he := dg_ext (m % 10) hmod
    have hstep : Lib.decDigits m = if m < 10 then [UInt8.ofNat (48 + m)] else Lib.decDigits (m / 10) ++ [UInt8.ofNat (48 + m % 10)] := by
      rw [Lib.decDigits]
      split <;> rfl
    have z1 : (⟨[UInt8.ofNat (48 + m % 10)].toArray⟩ : ByteArray).size = 1 := rfl
    have e1 : (((m : Int) % 10).toNat) = m % 10 := by omega
    have e2 : (((m : Int) % 10 + 1).toNat) = m % 10 + 1 := by omega
    have j1 : (m : Int) % 10 + 1 ≤ 10 := by omega
    have j2 : 0 ≤ (m : Int) % 10 := by omega
    have j3 : (m : Int) % 10 ≤ (m : Int) % 10 + 1 := by omega
    have j4 : 0 ≤ (m : Int) % 10 + 1 := by omega
    have hnew : 0 < m ∨ t = [] → (if m / 10 = 0 then UInt8.ofNat (48 + m % 10) :: t else Lib.decDigits (m / 10) ++ (UInt8.ofNat (48 + m % 10) :: t)) = Lib.decDigits A := by
      intro hc
      rcases HI.out with ⟨h1, h2⟩ | ⟨h1, h2⟩
      · subst h1
        subst h2
        rw [hstep]
        by_cases c : m < 10
        · rw [if_pos (by omega), if_pos c, show m % 10 = m by omega]
        · rw [if_neg (by omega), if_neg c]
      · have hm0 : 0 < m := by
          rcases hc with h | h
          · exact h
          · exact absurd h h1
        rw [if_neg (by omega), hstep] at h2
        rw [← h2]
        by_cases c : m < 10
        · rw [if_pos (by omega), if_pos c, show m % 10 = m by omega]; rfl
        · rw [if_neg (by omega), if_neg c, List.append_assoc]; rfl
    have HN := Lib.hid hnew
    have HS2 := Lib.hid (show (⟨[UInt8.ofNat (48 + m % 10)].toArray⟩ : ByteArray) ++ sb = ⟨(UInt8.ofNat (48 + m % 10) :: t).toArray⟩ by rw [HS.out, ba_appD]; rfl)
    have es : (sb.toList == []) = decide (t = []) := by rw [HS.out]; exact str_eqA t []
    have HK := Lib.hid hk
    clear hnew hstep hk
    by_cases c1 : 0 < m
    · have i1 : (0 : Int) < (m : Int) := by omega
      go_wp2_with fail
      go_roundg (m / 10)
      case measure => rw [HK.out]; have := Nat.div_lt_self c1 (show 1 < 10 by decide); omega
      case rel => exact ⟨m / 10, UInt8.ofNat (48 + m % 10) :: t, by simp, by go_num, ⟨_, rfl, Lib.hid (by rw [← HS2.out]; simp)⟩, Lib.hid (HNX.out (.inl c1)), Lib.hid (.inr ⟨by simp, HN.out (.inl c1)⟩), rfl⟩
    · have i1 : ¬ (0 : Int) < (m : Int) := by omega
      by_cases c2 : t = []
      · rw [decide_eq_true c2] at es
        go_wp2_with fail
        go_roundg (m / 10)
        case measure => rw [HK.out, if_pos c2]; omega
        case rel => exact ⟨m / 10, UInt8.ofNat (48 + m % 10) :: t, by simp, by go_num, ⟨_, rfl, Lib.hid (by rw [← HS2.out]; simp)⟩, Lib.hid (HNX.out (.inr c2)), Lib.hid (.inr ⟨by simp, HN.out (.inr c2)⟩), rfl⟩
      · rw [decide_eq_false c2] at es
        have hfin : sb = ⟨(Lib.decDigits A).toArray⟩ := by
          rcases HI.out with ⟨h1, h2⟩ | ⟨h1, h2⟩
          · exact absurd h1 c2
          · rw [if_pos (by omega)] at h2
            rw [HS.out, h2]
        have HF := Lib.hid hfin
        clear hfin
        go_wp2_with fail
        go_ret
        exact ⟨by rw [HF.out]; rfl, rfl⟩
end Go.Proofs.YtgfljokamgbcaaaDoor
namespace Go.Proofs.YtgfljokamgbcaaaDoor
open Go.RowKit
set_option linter.unusedSimpArgs false
set_option linter.unusedVariables false
set_option maxRecDepth 100000

theorem asm_c (L : List UInt8) (hL : L.length ≤ 9223372036854775807) (w : World) (HT : Hid (pTab w)) : Calls Tryd.prog 8 #[.string ⟨L.toArray⟩] w (AsmP (asmF L) w) :=
  (callsIn_wide (n := 9)).1 (asm_in 9 (by omega) L hL w HT)

/-- What lies as an owned row of bytes is, as a string, just these bytes. -/
theorem conv_ownA {w : World} {base n : Nat} {v : Value} {L : List Int} (h : w.ownsRow base 5 1 v n (L.map (Value.int .u8))) :
    (convert 23 9 v).run Tryd.prog w = .ok (.string (strOfNums L)) w := by
  have hl : L.length = n := by have := h.1; simpa using this
  rcases h.2 with ⟨rfl, h2⟩ | ⟨g, cap, cur, rfl, -, -, -⟩
  · have : L = [] := List.eq_nil_of_length_eq_zero (by omega)
    subst this
    rw [run_convert_bytes_nil (w := w) 23 5 Tryd.underlying23 Tryd.underlying5 0 0 9 Tryd.underlying9]
    rfl
  · refine run_convert_bytes_arg w 23 5 Tryd.underlying23 Tryd.underlying5 g 0 n cap L hl (fun i hi => ?_) 9 Tryd.underlying9
    have := h.cellAt i (by omega)
    simp only [Nat.zero_add]
    rw [this]
    simp [List.getElem?_eq_getElem (show i < L.length by omega)]
theorem own_belowA {W w1 : World} {base n s : Nat} {e : TypeId} {v : Value} {xs : List Value} (hb : Below W.heap.size W w1) (h : W.ownsRow base e s v n xs) : w1.ownsRow base e s v n xs :=
  own_keepA h (fun g cur hg => hb.block g (heap_ltA hg))
theorem own_nextE {W w w' : World} {base n size : Nat} {v : Value} {xs : List Value} {e : TypeId} (hB : Below base W w) (hs : base ≤ w.heap.size) (hown : w.ownsRow base e size v n xs) (hg : w.grownBy w' v.ownBlock) : Below base W w' ∧ base ≤ w'.heap.size :=
  ⟨hB.grown hg hs (fun k hk => (hown.lt k hk).1), Nat.le_trans hs hg.size⟩

theorem pTab_onE {w w1 : World} (HT : Hid (pTab w)) (hb : Below w.heap.size w w1) : Hid (pTab w1) := Lib.hid (fun w' h => HT.out w' (hb.trans (h.mono hb.size)))

def wkL : List UInt8 := [115, 116, 97, 114, 116, 58, 32, 108, 100, 105, 32, 114, 49, 32, 116, 101, 120, 116, 32, 32, 32, 59, 32, 119, 104, 101, 114, 101, 32, 105, 116, 32, 98, 101, 103, 105, 110, 115, 10, 32, 32, 32, 32, 32, 32, 32, 106, 109, 112, 32, 115, 116, 97, 114, 116, 10, 116, 101, 120, 116, 58, 32, 32, 46, 116, 101, 120, 116, 32, 97, 95, 98, 124, 10]
def wkB : List Int := [32, 16, 9, 0, 0, 0, 64, 247, 255, 97, 32, 98, 10]
theorem wk_asm : asmF wkL = .ok ⟨13, [([115, 116, 97, 114, 116], 0), ([116, 101, 120, 116], 9)], wkB, [(0, 1), (6, 2), (9, 3)]⟩ := by kernel_rfl
theorem wk_str : strOfNums wkB = ⟨#[32, 16, 9, 0, 0, 0, 64, 247, 255, 97, 32, 98, 10]⟩ := by decide

set_option maxHeartbeats 4000000 in
theorem works31_c (w : World) (HT : Hid (pTab w)) : Calls Tryd.prog 9 #[] w fun e w' => e = .returned (.bool true) ∧ Below w.heap.size w w' := by
  have HA := Lib.hid (asm_c wkL (by decide) w HT)
  rw [wk_asm] at HA
  have hws := wk_str
  go_enter Tryd.func9, Tryd.ntmps9
  go_wp2_with fail
  refine HA.out.mono ?_
  rintro e w1 ⟨hb, vB, vL, vM, rfl, hB, hL, hM⟩
  have hc := fun (W : World) (hW : Below w1.heap.size w1 W) => conv_ownA (own_belowA hW hB)
  rw [hws] at hc
  have k1 := hc (w1.alloc (.cells #[vB, vL, vM] 33)) ((Below.refl _ _).alloc (Nat.le_refl _) _)
  obtain ⟨aB, cB, rfl⟩ := own_sliceA hB
  obtain ⟨aL, cL, rfl⟩ := own_sliceA hL
  obtain ⟨aM, cM, rfl⟩ := own_sliceA hM
  clear hc hB hL hM
  simp only [List.length_cons, List.length_nil, Nat.zero_add, Nat.reduceAdd] at k1
  go_wp2_with fail
  go_ret
  exact ⟨rfl, hb.alloc hb.size _⟩

theorem insT_if (r : InsR) : insT r = if Isa.mayB (Isa.fm r.op false) r.a r.b r.imm = true then showL r.op r.a r.b r.imm ++ [10] else [] := rfl
theorem insE_if (r : InsR) : insE r = if Isa.mayB (Isa.fm r.op false) r.a r.b r.imm = true then Isa.encL (Isa.fm r.op false) r.op r.a r.b r.imm else [] := rfl
set_option maxHeartbeats 8000000 in
theorem shown_walk (ao : Option Addr) (len cap : Nat) (L : List InsR) (w : World) (HT : Hid (pTab w)) (hL : L.length = len) (hl : len ≤ 9223372036854775807) (hI : InssIn w ao L) :
    Calls Tryd.prog 3 #[.slice ao len cap] w fun e w' => e = .returned (.bool true) ∧ Below w.heap.size w w' := by
  obtain ⟨i0, hi, hz0, hz1, hz2⟩ := info_parts Isa.Tryd.infoB
  have HI := Lib.hid hI
  have HL := Lib.hid hL
  have HA := Lib.hid asm_c
  have HW := Lib.hid works31_c
  have HSh := Lib.hid show_c
  clear hI hL
  go_enter Tryd.func3, Tryd.ntmps3
  go_wp2_with fail
  go_loopg [3, 4, 5] (min len 200) (fun gk v3 v4 vk wr => ∃ k : Nat, gk + k = min len 200 ∧ vk = .int .i64 (k : Int) ∧ (∃ s : ByteArray, v3 = .string s ∧ Hid (s = ⟨((L.take k).flatMap insT).toArray⟩) ∧ s.size ≤ 40 * k) ∧
    wr.ownsRow w.heap.size 5 1 v4 ((L.take k).flatMap insE).length (((L.take k).flatMap insE).map (Value.int .u8)) ∧ Below w.heap.size w wr ∧ w.heap.size ≤ wr.heap.size)
  case atStart => exact ⟨0, rfl, rfl, ⟨_, rfl, Lib.hid rfl, Nat.zero_le _⟩, ⟨by simp, .inl ⟨rfl, by simp⟩⟩, Below.refl _ _, Nat.le_refl _⟩
  case round =>
    obtain ⟨k, hk, rfl, ⟨s, rfl, HS, hss⟩, hown, hB, hs⟩ := hrel
    have hnk : ((L.take k).flatMap insE).length ≤ 6 * k := Nat.le_trans (flat_len (fun r => (insE_len r).1) _) (by simp; omega)
    by_cases c1 : k < len ∧ k < 200
    · obtain ⟨c1, c2⟩ := c1
      obtain ⟨r, hr⟩ : ∃ r, L[k]? = some r := ⟨_, List.getElem?_eq_getElem (by rw [HL.out]; exact c1)⟩
      obtain ⟨blk, off, rfl, x0, x1, x2, x3⟩ : ∃ blk off, ao = some ⟨blk, off, none⟩ ∧ w.cell? ⟨blk, off + k * 4, none⟩ = some (.int .u8 r.op) ∧ w.cell? ⟨blk, off + k * 4 + 1, none⟩ = some (.int .u8 r.a) ∧ w.cell? ⟨blk, off + k * 4 + 2, none⟩ = some (.int .u8 r.b) ∧ w.cell? ⟨blk, off + k * 4 + 3, none⟩ = some (.int .i32 r.imm) := by
        rcases HI.out with h | ⟨blk, off, h1, h2⟩
        · rw [h] at hr; cases hr
        · exact ⟨blk, off, h1, h2 k r hr⟩
      have hb0 : blk < w.heap.size := World.block_lt_of_cell? w _ x0
      have y0 := (hB.cell (p := ⟨blk, off + k * 4, none⟩) hb0).trans x0
      have y1 := (hB.cell (p := ⟨blk, off + k * 4 + 1, none⟩) hb0).trans x1
      have y2 := (hB.cell (p := ⟨blk, off + k * 4 + 2, none⟩) hb0).trans x2
      have y3 := (hB.cell (p := ⟨blk, off + k * 4 + 3, none⟩) hb0).trans x3
      have i1 : (k : Int) < (len : Int) := by omega
      have i2 : (k : Int) < 200 := by omega
      have HTk := Lib.hid (show (L.take (k + 1)).flatMap insT = (L.take k).flatMap insT ++ insT r by rw [List.take_add_one, hr]; simp)
      have HEk := Lib.hid (show (L.take (k + 1)).flatMap insE = (L.take k).flatMap insE ++ insE r by rw [List.take_add_one, hr]; simp)
      have hlT := insT_len r
      have hlE := (insE_len r).1
      rw [insT_if r] at HTk hlT
      rw [insE_if r] at HEk hlE
      obtain ⟨ro, ra, rb, ri, q0, q1, q2, q3, q4, q5, q6, q7⟩ := r
      simp only at y0 y1 y2 y3 HTk HEk hlT hlE
      clear x0 x1 x2 x3 hr
      have hbr : blk < wr.heap.size := by omega
      by_cases c3 : Isa.mayB (Isa.fm ro false) ra rb ri = true
      · rw [if_pos c3] at HTk HEk hlT hlE
        have HE := Lib.hid fun w => Isa.encode_yes ro ra rb ri false w q0 q1 q2 q3 q4 q5 q6 q7 c3
        have HX := Lib.hid fun w HT => HSh.out ro ra rb ri w q0 q1 q2 q3 q4 q5 q6 q7 HT
        have hE1 : 0 < (Isa.encL (Isa.fm ro false) ro ra rb ri).length := by unfold Isa.encL; simp
        generalize Isa.encL (Isa.fm ro false) ro ra rb ri = E at HEk HE hlE hE1
        generalize showL ro ra rb ri = X at HTk HX hlT
        have hlX : (⟨X.toArray⟩ : ByteArray).size ≤ 39 := by rw [ba_size]; simp at hlT; omega
        generalize hxs : (⟨X.toArray⟩ : ByteArray) = xs at HX hlX
        have HXs := Lib.hid hxs
        unfold Isa.insV at HE HX
        clear hxs hlT
        go_wp2_with fail
        refine (HE.out _).mono ?_
        rintro e w1 ⟨hb, -, hv⟩
        obtain ⟨v, rfl, hown1⟩ := hv rfl
        clear hv
        have hB1 : Below w.heap.size w w1 := hB.trans (hb.mono hs)
        have z0 := (hb.cell (p := ⟨blk, off + k * 4, none⟩) hbr).trans y0
        have z1 := (hb.cell (p := ⟨blk, off + k * 4 + 1, none⟩) hbr).trans y1
        have z2 := (hb.cell (p := ⟨blk, off + k * 4 + 2, none⟩) hbr).trans y2
        have z3 := (hb.cell (p := ⟨blk, off + k * 4 + 3, none⟩) hbr).trans y3
        have hs1 := hb.size
        have hownA := own_belowA hb hown
        clear hown hB
        go_wp2_with fail
        refine (HX.out _ (pTab_onE HT hB1)).mono ?_
        rintro e w2 ⟨rfl, hb2⟩
        have hownB := own_belowA hb2 hownA
        have hown2 := own_belowA hb2 hown1
        have hB2 : Below w.heap.size w w2 := hB1.trans (hb2.mono (by omega))
        have hs2 : w.heap.size ≤ w2.heap.size := by have := hb2.size; omega
        obtain ⟨g, cp, rfl, hcg, hgl, hcells, -⟩ := own_some1A hown2 hE1
        have HC := Lib.hid hcells
        clear hcells hown2 hown1 hownA hb hb2 hB1 z0 z1 z2 z3 y0 y1 y2 y3
        go_wp2_with (first | (at_builtin; refine wpList_append_own _ rfl _ _ 23 rfl w.heap.size 5 i0 (.int .u8 0) 1 1 Tryd.underlying23 hi hz0 hz1 hz2 rfl (by decide) _ _ _ rfl hownB ⟨g, 0, none⟩ E.length cp (E.map (Value.int .u8)) rfl (by simp) (fun j u hu => by rw [addr0A]; exact HC.out j u hu) (fun u hu => by (obtain ⟨x, -, rfl⟩ := List.mem_map.1 hu; rfl)) (by unfold maxLen; omega) (by omega) hs2 ?_; intro v4' w4 hown4 hgrow4 _))
        go_roundg (gk - 1)
        case measure => omega
        case rel =>
          obtain ⟨hB4, hs4⟩ := own_nextE hB2 hs2 hownB hgrow4
          refine ⟨k + 1, by omega, by go_num, ⟨_, rfl, Lib.hid ?_, ?_⟩, ?_, hB4, hs4⟩
          · rw [HTk.out, HS.out, ← HXs.out]
            apply ByteArray.ext
            simp
          · simp only [ByteArray.size_append]
            have : (⟨#[10]⟩ : ByteArray).size = 1 := rfl
            omega
          · rw [HEk.out, List.map_append, List.length_append]
            exact hown4
      · rw [if_neg c3] at HTk HEk
        have c3 : Isa.mayB (Isa.fm ro false) ra rb ri = false := by simpa using c3
        have HE := Lib.hid fun w => Isa.encode_no ro ra rb ri false w q0 q1 q2 q3 q4 q5 q6 q7 [] c3
        unfold Isa.insV at HE
        clear hlT hlE c3
        go_wp2_with fail
        refine (HE.out _).mono ?_
        rintro e w1 ⟨hb, hv, -⟩
        obtain rfl := hv rfl
        clear hv
        have hB1 : Below w.heap.size w w1 := hB.trans (hb.mono hs)
        have hs1 := hb.size
        have hownA := own_belowA hb hown
        clear hown hB y0 y1 y2 y3
        go_wp2_with fail
        go_roundg (gk - 1)
        case measure => omega
        case rel =>
          refine ⟨k + 1, by omega, by go_num, ⟨_, rfl, Lib.hid ?_, by omega⟩, ?_, hB1, by omega⟩
          · rw [HTk.out, List.append_nil]
            exact HS.out
          · rw [HEk.out, List.append_nil]
            exact hownA
    · obtain ⟨S, hS, hSb⟩ := shown_law (L.take k) (by simp; omega)
      have hsz := ba_size ((L.take k).flatMap insT)
      have HA2 := HA.out ((L.take k).flatMap insT) (by rw [← HS.out] at hsz; omega) wr (pTab_onE HT hB)
      rw [← HS.out, hS] at HA2
      have HA3 := Lib.hid HA2
      generalize hE : (L.take k).flatMap insE = E at hown hSb
      obtain ⟨a4, c4, rfl⟩ := own_sliceA hown
      have HSb := Lib.hid hSb
      clear HA2 hS hSb hE hsz HA HSh hnk
      have key : ∀ (w2 : World) (e : Ending), AsmP (.ok S) wr e w2 → ∃ aB cB nB aL cL nL aM cM nM, e = .returned (.tuple #[.agg #[.slice aB nB cB, .slice aL nL cL, .slice aM nM cM], .int .i64 0, .int .i64 0]) ∧ Below wr.heap.size wr w2 ∧
          (convert 23 9 (.slice aB nB cB)).run Tryd.prog (w2.alloc (.cells #[.slice aB nB cB, .slice aL nL cL, .slice aM nM cM] 33)) = .ok (.string (strOfNums E)) (w2.alloc (.cells #[.slice aB nB cB, .slice aL nL cL, .slice aM nM cM] 33)) ∧
          (convert 23 9 (.slice a4 E.length c4)).run Tryd.prog (w2.alloc (.cells #[.slice aB nB cB, .slice aL nL cL, .slice aM nM cM] 33)) = .ok (.string (strOfNums E)) (w2.alloc (.cells #[.slice aB nB cB, .slice aL nL cL, .slice aM nM cM] 33)) := by
        rintro w2 e ⟨hb2, vB, vL, vM, rfl, o1, o2, o3⟩
        obtain ⟨aB, cB, rfl⟩ := own_sliceA o1
        obtain ⟨aL, cL, rfl⟩ := own_sliceA o2
        obtain ⟨aM, cM, rfl⟩ := own_sliceA o3
        refine ⟨aB, cB, _, aL, cL, _, aM, cM, _, rfl, hb2, ?_, ?_⟩
        · rw [← HSb.out]
          exact conv_ownA (own_belowA ((Below.refl _ _).alloc (Nat.le_refl _) _) o1)
        · exact conv_ownA (own_belowA ((Below.refl _ _).alloc (Nat.le_refl _) _) (own_belowA hb2 hown))
      have KEY := Lib.hid key
      clear key hown
      generalize strOfNums E = sE at KEY
      have fin : ∀ {e : Ending} {w2 : World}, AsmP (.ok S) wr e w2 → True := fun _ => trivial
      by_cases d1 : k < len
      · have i1 : (k : Int) < (len : Int) := by omega
        have i2 : ¬ (k : Int) < 200 := by omega
        go_wp2_with fail
        refine HA3.out.mono ?_
        intro e w2 hP
        obtain ⟨aB, cB, nB, aL, cL, nL, aM, cM, nM, rfl, hb2, k1, k2⟩ := KEY.out w2 e hP
        have hB2 : Below w.heap.size w w2 := hB.trans (hb2.mono hs)
        clear hP
        go_wp2_with fail
        refine (HW.out _ (pTab_onE HT (hB2.alloc (by have := hb2.size; omega) _))).mono ?_
        rintro e w3 ⟨rfl, hb3⟩
        go_wp2_with fail
        go_ret
        exact ⟨rfl, (hB2.alloc (by have := hb2.size; omega) _).trans (hb3.mono (by have := hb2.size; simp; omega))⟩
      · have i1 : ¬ (k : Int) < (len : Int) := by omega
        go_wp2_with fail
        refine HA3.out.mono ?_
        intro e w2 hP
        obtain ⟨aB, cB, nB, aL, cL, nL, aM, cM, nM, rfl, hb2, k1, k2⟩ := KEY.out w2 e hP
        have hB2 : Below w.heap.size w w2 := hB.trans (hb2.mono hs)
        clear hP
        go_wp2_with fail
        refine (HW.out _ (pTab_onE HT (hB2.alloc (by have := hb2.size; omega) _))).mono ?_
        rintro e w3 ⟨rfl, hb3⟩
        go_wp2_with fail
        go_ret
        exact ⟨rfl, (hB2.alloc (by have := hb2.size; omega) _).trans (hb3.mono (by have := hb2.size; simp; omega))⟩
end Go.Proofs.YtgfljokamgbcaaaDoor
namespace Go.Proofs.YtgfljokamgbcaaaDoor
open Go.RowKit
set_option linter.unusedSimpArgs false
set_option linter.unusedVariables false
set_option maxRecDepth 100000

theorem wp_joinJ {P : Program} {c : Code} {K : Act → World → Prop} {Q : Exit → Act → World → Prop} {a : Act} {w : World} (J : Act → Act → World → Prop) (h : c.wp P (Exit.then (J a) Q) a w) (h2 : ∀ a' w', J a a' w' → K a' w') : c.wp P (Exit.then K Q) a w :=
  Code.wp_mono (fun e a' w' hq => by cases e <;> first | exact hq | exact h2 a' w' hq) h
def JmP (W1 : World) (a0 a : Act) (w : World) : Prop := Below W1.heap.size W1 w ∧ ∃ f : Nat → Value, a = { tmps := (a0.tmps.toList.take 99 ++ [f 99, f 100, f 101, f 102, f 103, f 104, f 105, f 106, f 107, f 108, f 109, f 110, f 111, f 112, f 113, f 114, f 115, f 116, f 117, f 118, f 119, f 120, f 121, f 122, f 123, f 124, f 125, f 126, f 127, f 128, f 129, f 130, f 131, f 132, f 133, f 134, f 135, f 136, f 137, f 138, f 139, f 140, f 141, f 142, f 143, f 144, f 145, f 146, f 147, f 148, f 149, f 150, f 151, f 152, f 153, f 154, f 155, f 156, f 157, f 158, f 159, .bool false, f 161, f 162, f 163, f 164, f 165, f 166, f 167, f 168, f 169, f 170, f 171, f 172, f 173, f 174, f 175, f 176, f 177, f 178, f 179, f 180, f 181, f 182, f 183, f 184, f 185, f 186, f 187, f 188, f 189, f 190, f 191, f 192, f 193, f 194, f 195, f 196, f 197, f 198, f 199] ++ a0.tmps.toList.drop 200).toArray, defers := [] }
theorem jmP_in {W1 : World} {a0 a : Act} {w : World} (hB : Below W1.heap.size W1 w) (h : a = { tmps := (a0.tmps.toList.take 99 ++ [a.tmps.getD 99 undef, a.tmps.getD 100 undef, a.tmps.getD 101 undef, a.tmps.getD 102 undef, a.tmps.getD 103 undef, a.tmps.getD 104 undef, a.tmps.getD 105 undef, a.tmps.getD 106 undef, a.tmps.getD 107 undef, a.tmps.getD 108 undef, a.tmps.getD 109 undef, a.tmps.getD 110 undef, a.tmps.getD 111 undef, a.tmps.getD 112 undef, a.tmps.getD 113 undef, a.tmps.getD 114 undef, a.tmps.getD 115 undef, a.tmps.getD 116 undef, a.tmps.getD 117 undef, a.tmps.getD 118 undef, a.tmps.getD 119 undef, a.tmps.getD 120 undef, a.tmps.getD 121 undef, a.tmps.getD 122 undef, a.tmps.getD 123 undef, a.tmps.getD 124 undef, a.tmps.getD 125 undef, a.tmps.getD 126 undef, a.tmps.getD 127 undef, a.tmps.getD 128 undef, a.tmps.getD 129 undef, a.tmps.getD 130 undef, a.tmps.getD 131 undef, a.tmps.getD 132 undef, a.tmps.getD 133 undef, a.tmps.getD 134 undef, a.tmps.getD 135 undef, a.tmps.getD 136 undef, a.tmps.getD 137 undef, a.tmps.getD 138 undef, a.tmps.getD 139 undef, a.tmps.getD 140 undef, a.tmps.getD 141 undef, a.tmps.getD 142 undef, a.tmps.getD 143 undef, a.tmps.getD 144 undef, a.tmps.getD 145 undef, a.tmps.getD 146 undef, a.tmps.getD 147 undef, a.tmps.getD 148 undef, a.tmps.getD 149 undef, a.tmps.getD 150 undef, a.tmps.getD 151 undef, a.tmps.getD 152 undef, a.tmps.getD 153 undef, a.tmps.getD 154 undef, a.tmps.getD 155 undef, a.tmps.getD 156 undef, a.tmps.getD 157 undef, a.tmps.getD 158 undef, a.tmps.getD 159 undef, .bool false, a.tmps.getD 161 undef, a.tmps.getD 162 undef, a.tmps.getD 163 undef, a.tmps.getD 164 undef, a.tmps.getD 165 undef, a.tmps.getD 166 undef, a.tmps.getD 167 undef, a.tmps.getD 168 undef, a.tmps.getD 169 undef, a.tmps.getD 170 undef, a.tmps.getD 171 undef, a.tmps.getD 172 undef, a.tmps.getD 173 undef, a.tmps.getD 174 undef, a.tmps.getD 175 undef, a.tmps.getD 176 undef, a.tmps.getD 177 undef, a.tmps.getD 178 undef, a.tmps.getD 179 undef, a.tmps.getD 180 undef, a.tmps.getD 181 undef, a.tmps.getD 182 undef, a.tmps.getD 183 undef, a.tmps.getD 184 undef, a.tmps.getD 185 undef, a.tmps.getD 186 undef, a.tmps.getD 187 undef, a.tmps.getD 188 undef, a.tmps.getD 189 undef, a.tmps.getD 190 undef, a.tmps.getD 191 undef, a.tmps.getD 192 undef, a.tmps.getD 193 undef, a.tmps.getD 194 undef, a.tmps.getD 195 undef, a.tmps.getD 196 undef, a.tmps.getD 197 undef, a.tmps.getD 198 undef, a.tmps.getD 199 undef] ++ a0.tmps.toList.drop 200).toArray, defers := [] }) : JmP W1 a0 a w := ⟨hB, fun i => a.tmps.getD i undef, h⟩
theorem noSuch : nameB [110, 111, 32, 115, 117, 99, 104, 32, 112, 108, 97, 99, 101] = false := by decide

set_option maxHeartbeats 8000000 in
theorem places_bad (L : List UInt8) (ln er : Int) (w : World) (HT : Hid (pTab w)) (hL : L.length ≤ 9223372036854775807) (hR : asmF L = .error (ln, er)) :
    Calls Tryd.prog 4 #[.string ⟨L.toArray⟩] w fun e w' => e = .returned (.bool true) ∧ Below w.heap.size w w' := by
  have HW := Lib.hid works31_c
  have HA := Lib.hid (asm_c L hL w HT)
  rw [hR] at HA
  obtain ⟨hne, hc⟩ := asm_bad hR
  have hneb : (er != 0) = true := by simpa using hne
  generalize (⟨L.toArray⟩ : ByteArray) = s at HA ⊢
  clear hR hne
  rcases hc with ⟨rfl, rfl, -⟩ | ⟨l1, l2⟩
  all_goals
    go_enter Tryd.func4, Tryd.ntmps4
    go_wp2_with fail
    refine HA.out.mono ?_
    rintro e w1 ⟨hb, rfl⟩
    go_wp2_with fail
    refine (HW.out _ (pTab_onE HT (hb.alloc hb.size _))).mono ?_
    rintro e w3 ⟨rfl, hb3⟩
    go_wp2_with fail
    go_ret
    exact ⟨rfl, (hb.alloc hb.size _).trans (hb3.mono (by have := hb.size; simp; omega))⟩

set_option maxHeartbeats 16000000 in
theorem places_good (L : List UInt8) (S : St) (w : World) (HT : Hid (pTab w)) (hL : L.length ≤ 9223372036854775807) (hR : asmF L = .ok S) :
    Calls Tryd.prog 4 #[.string ⟨L.toArray⟩] w fun e w' => e = .returned (.bool true) ∧ Below w.heap.size w w' := by
  have HW := Lib.hid works31_c
  have HA := Lib.hid (asm_c L hL w HT)
  rw [hR] at HA
  obtain ⟨hP, hO⟩ := asm_ok hR
  have hnl := hO.ll
  have hnm := hO.ml
  have hnb := hO.bl
  have HP := Lib.hid hP
  generalize (⟨L.toArray⟩ : ByteArray) = s at HA ⊢
  clear hR hP hO
  go_enter Tryd.func4, Tryd.ntmps4
  go_wp2_with fail
  refine HA.out.mono ?_
  rintro e w1 ⟨hb, vB, vL, vM, rfl, oB, oL, oM⟩
  obtain ⟨aB, cB, rfl⟩ := own_sliceA oB
  obtain ⟨aL, cL, rfl, hcl, hml, pL⟩ := own_pairs (enc := labA) (fun _ => rfl) oL
  obtain ⟨aM, cM, rfl, hcm, hmm, pM⟩ := own_pairs (enc := mrkA) (fun _ => rfl) oM
  obtain ⟨W1, hW1⟩ : ∃ x, x = w1.alloc (.cells #[.slice aB S.bytes.length cB, .slice aL S.labels.length cL, .slice aM S.marks.length cM] 33) := ⟨_, rfl⟩
  have hb1 : Below w1.heap.size w1 W1 := by rw [hW1]; exact (Below.refl _ _).alloc (Nat.le_refl _) _
  have hB1 : Below w.heap.size w W1 := hb.trans (hb1.mono hb.size)
  have hbxr : W1.heap[w1.heap.size]? = some (.cells #[.slice aB S.bytes.length cB, .slice aL S.labels.length cL, .slice aM S.marks.length cM] 33 (0, 0)) := by rw [hW1]; exact heap_newT rfl
  have pL1 := Lib.hid (pL.below hb1)
  have pM1 := Lib.hid (pM.below hb1)
  have x0 := cell_of_row W1 w1.heap.size 0 _ _ _ hbxr
  have x1 := cell_of_row W1 w1.heap.size 1 _ _ _ hbxr
  have x2 := cell_of_row W1 w1.heap.size 2 _ _ _ hbxr
  have hbx := heap_ltA hbxr
  clear hbxr oB oL oM pL pM hb HA
  go_wp2_with fail
  rw [← hW1]
  clear hW1 hb1
  generalize w1.heap.size = bx at x0 x1 x2 hbx ⊢
  go_loopg [6] S.labels.length (fun gk v6 wr => ∃ k : Nat, gk + k = S.labels.length ∧ v6 = .int .i64 (k : Int) ∧ Below W1.heap.size W1 wr)
  case atStart => exact ⟨0, rfl, rfl, Below.refl _ _⟩
  case round =>
    obtain ⟨k, hk, rfl, hB⟩ := hrel
    have b0 := (hB.cell (p := ⟨bx, 0, none⟩) hbx).trans x0
    have b1 := (hB.cell (p := ⟨bx, 1, none⟩) hbx).trans x1
    have b2 := (hB.cell (p := ⟨bx, 2, none⟩) hbx).trans x2
    by_cases c1 : k < S.labels.length
    · have i1 : (k : Int) < (S.labels.length : Int) := by omega
      obtain ⟨p, hp⟩ : ∃ p, S.labels[k]? = some p := ⟨_, List.getElem?_eq_getElem c1⟩
      have hpm := List.mem_of_getElem? hp
      obtain ⟨gL, rfl, hgL, hcell⟩ : ∃ g, aL = some ⟨g, 0, none⟩ ∧ g < W1.heap.size ∧ ∀ i p, S.labels[i]? = some p → W1.cell? ⟨g, i * 2, none⟩ = some (.string ⟨p.1.toArray⟩) ∧ W1.cell? ⟨g, i * 2 + 1, none⟩ = some (.int .i64 p.2) := by
        rcases pL1.out with h | ⟨g, h1, h2, h3⟩
        · rw [h] at hp; cases hp
        · exact ⟨g, h1, h2, fun i p hp => h3 i p _ _ hp rfl⟩
      obtain ⟨y0, y1⟩ := hcell k p hp
      have hfd := HP.out.find p hpm
      obtain ⟨p0, p1⟩ := HP.out.bd p hpm
      have HPl := Lib.hid fun (W : World) (hW : Below W1.heap.size W1 W) => place_c (some ⟨gL, 0, none⟩) cL (.slice aB S.bytes.length cB) (.slice aM S.marks.length cM) S.labels p.1 W (pL1.out.below hW) (by omega) hcl hml
      rw [hfd] at HPl
      have hdr : Below W1.heap.size W1 wr.drew := hB.drew
      clear hfd
      go_wp2_with fail
      refine wp_region_held_drew (S := fun w' => Below W1.heap.size W1 w') (by kernel_rfl) hdr (fun hHeld => ?_)
      refine wpAnyH_take (i := 0) (oi := { dst := some 51, op := Op.load _ (Operand.tmp 3), type := _, pos := "law.go:106", after := #[], guard := none }) (v := .agg #[.slice aB S.bytes.length cB, .slice (some ⟨gL, 0, none⟩) S.labels.length cL, .slice aM S.marks.length cM]) rfl (by kernel_rfl) (by kernel_rfl) (by kernel_rfl) (fun _ _ _ h => h) (Or.inl ⟨by rfl, ?_⟩) hHeld ?_
      · intro w' hSw
        have hw : Below W1.heap.size W1 w' := hSw
        have d0 := (hw.cell (p := ⟨bx, 0, none⟩) hbx).trans x0
        have d1 := (hw.cell (p := ⟨bx, 1, none⟩) hbx).trans x1
        have d2 := (hw.cell (p := ⟨bx, 2, none⟩) hbx).trans x2
        have d3 := (hw.cell (p := ⟨gL, k * 2, none⟩) hgL).trans y0
        have d4 := (hw.cell (p := ⟨gL, k * 2 + 1, none⟩) hgL).trans y1
        go_simp
      try simp only [Act.put, List.setIfInBounds_toArray, List.set_cons_zero, List.set_cons_succ]
      refine wpAnyH_take (i := 1) (oi := { dst := some 52, op := Op.fieldAddr _ (Operand.tmp 3) 1, type := _, pos := "law.go:106", after := #[], guard := none }) (v := .pointer (some ⟨bx, 1, none⟩)) rfl (by kernel_rfl) (by kernel_rfl) (by kernel_rfl) (fun _ _ _ h => h) (Or.inl ⟨by rfl, ?_⟩) hHeld ?_
      · intro w' hSw
        have hw : Below W1.heap.size W1 w' := hSw
        have d0 := (hw.cell (p := ⟨bx, 0, none⟩) hbx).trans x0
        have d1 := (hw.cell (p := ⟨bx, 1, none⟩) hbx).trans x1
        have d2 := (hw.cell (p := ⟨bx, 2, none⟩) hbx).trans x2
        have d3 := (hw.cell (p := ⟨gL, k * 2, none⟩) hgL).trans y0
        have d4 := (hw.cell (p := ⟨gL, k * 2 + 1, none⟩) hgL).trans y1
        go_simp
      try simp only [Act.put, List.setIfInBounds_toArray, List.set_cons_zero, List.set_cons_succ]
      refine wpAnyH_take (i := 2) (oi := { dst := some 53, op := Op.load _ (Operand.tmp 52), type := _, pos := "law.go:106", after := #[{ on := 1, ground := Ground.data }], guard := none }) (v := .slice (some ⟨gL, 0, none⟩) S.labels.length cL) rfl (by kernel_rfl) (by kernel_rfl) (by kernel_rfl) (fun _ _ _ h => h) (Or.inl ⟨by rfl, ?_⟩) hHeld ?_
      · intro w' hSw
        have hw : Below W1.heap.size W1 w' := hSw
        have d0 := (hw.cell (p := ⟨bx, 0, none⟩) hbx).trans x0
        have d1 := (hw.cell (p := ⟨bx, 1, none⟩) hbx).trans x1
        have d2 := (hw.cell (p := ⟨bx, 2, none⟩) hbx).trans x2
        have d3 := (hw.cell (p := ⟨gL, k * 2, none⟩) hgL).trans y0
        have d4 := (hw.cell (p := ⟨gL, k * 2 + 1, none⟩) hgL).trans y1
        go_simp
      try simp only [Act.put, List.setIfInBounds_toArray, List.set_cons_zero, List.set_cons_succ]
      refine wpAnyH_take (i := 3) (oi := { dst := some 54, op := Op.move (Operand.tmp 6), type := _, pos := "law.go:106", after := #[], guard := none }) (v := .int .i64 (k : Int)) rfl (by kernel_rfl) (by kernel_rfl) (by kernel_rfl) (fun _ _ _ h => h) (Or.inl ⟨by rfl, ?_⟩) hHeld ?_
      · intro w' hSw
        have hw : Below W1.heap.size W1 w' := hSw
        have d0 := (hw.cell (p := ⟨bx, 0, none⟩) hbx).trans x0
        have d1 := (hw.cell (p := ⟨bx, 1, none⟩) hbx).trans x1
        have d2 := (hw.cell (p := ⟨bx, 2, none⟩) hbx).trans x2
        have d3 := (hw.cell (p := ⟨gL, k * 2, none⟩) hgL).trans y0
        have d4 := (hw.cell (p := ⟨gL, k * 2 + 1, none⟩) hgL).trans y1
        go_simp
      try simp only [Act.put, List.setIfInBounds_toArray, List.set_cons_zero, List.set_cons_succ]
      refine wpAnyH_take (i := 4) (oi := { dst := some 55, op := Op.indexAddr _ (Operand.tmp 53) (Operand.tmp 54), type := _, pos := "law.go:106", after := #[{ on := 2, ground := Ground.data }, { on := 3, ground := Ground.data }], guard := none }) (v := .pointer (some ⟨gL, k * 2, none⟩)) rfl (by kernel_rfl) (by kernel_rfl) (by kernel_rfl) (fun _ _ _ h => h) (Or.inl ⟨by rfl, ?_⟩) hHeld ?_
      · intro w' hSw
        have hw : Below W1.heap.size W1 w' := hSw
        have d0 := (hw.cell (p := ⟨bx, 0, none⟩) hbx).trans x0
        have d1 := (hw.cell (p := ⟨bx, 1, none⟩) hbx).trans x1
        have d2 := (hw.cell (p := ⟨bx, 2, none⟩) hbx).trans x2
        have d3 := (hw.cell (p := ⟨gL, k * 2, none⟩) hgL).trans y0
        have d4 := (hw.cell (p := ⟨gL, k * 2 + 1, none⟩) hgL).trans y1
        go_simp
      try simp only [Act.put, List.setIfInBounds_toArray, List.set_cons_zero, List.set_cons_succ]
      refine wpAnyH_take (i := 5) (oi := { dst := some 56, op := Op.fieldAddr _ (Operand.tmp 55) 0, type := _, pos := "law.go:106", after := #[{ on := 4, ground := Ground.data }], guard := none }) (v := .pointer (some ⟨gL, k * 2, none⟩)) rfl (by kernel_rfl) (by kernel_rfl) (by kernel_rfl) (fun _ _ _ h => h) (Or.inl ⟨by rfl, ?_⟩) hHeld ?_
      · intro w' hSw
        have hw : Below W1.heap.size W1 w' := hSw
        have d0 := (hw.cell (p := ⟨bx, 0, none⟩) hbx).trans x0
        have d1 := (hw.cell (p := ⟨bx, 1, none⟩) hbx).trans x1
        have d2 := (hw.cell (p := ⟨bx, 2, none⟩) hbx).trans x2
        have d3 := (hw.cell (p := ⟨gL, k * 2, none⟩) hgL).trans y0
        have d4 := (hw.cell (p := ⟨gL, k * 2 + 1, none⟩) hgL).trans y1
        go_simp
      try simp only [Act.put, List.setIfInBounds_toArray, List.set_cons_zero, List.set_cons_succ]
      refine wpAnyH_take (i := 6) (oi := { dst := some 57, op := Op.load _ (Operand.tmp 56), type := _, pos := "law.go:106", after := #[{ on := 5, ground := Ground.data }], guard := none }) (v := .string ⟨p.1.toArray⟩) rfl (by kernel_rfl) (by kernel_rfl) (by kernel_rfl) (fun _ _ _ h => h) (Or.inl ⟨by rfl, ?_⟩) hHeld ?_
      · intro w' hSw
        have hw : Below W1.heap.size W1 w' := hSw
        have d0 := (hw.cell (p := ⟨bx, 0, none⟩) hbx).trans x0
        have d1 := (hw.cell (p := ⟨bx, 1, none⟩) hbx).trans x1
        have d2 := (hw.cell (p := ⟨bx, 2, none⟩) hbx).trans x2
        have d3 := (hw.cell (p := ⟨gL, k * 2, none⟩) hgL).trans y0
        have d4 := (hw.cell (p := ⟨gL, k * 2 + 1, none⟩) hgL).trans y1
        go_simp
      try simp only [Act.put, List.setIfInBounds_toArray, List.set_cons_zero, List.set_cons_succ]
      refine wpAnyH_ready (rs := [7]) (by kernel_rfl) (by simp) ?_
      refine AllReadyH.cons (o := { dst := some 58, op := Op.call { callee := Callee.value (Operand.func _), args := #[Operand.tmp 51, Operand.tmp 57], argTypes := _ }, type := _, pos := "law.go:106", after := #[{ on := 0, ground := Ground.data }, { on := 6, ground := Ground.data }], guard := none }) rfl (fun K hK => ?_) AllReadyH.nil
      go_simp
      go_at_call 10
      refine (HPl.out _ (hHeld : Below W1.heap.size W1 _)).mono ?_
      rintro e w2 ⟨rfl, hb2⟩
      have hB2 : Below W1.heap.size W1 w2 := (show Below W1.heap.size W1 _ from hHeld).trans (hb2.mono (show Below W1.heap.size W1 _ from hHeld).size)
      clear hHeld
      refine hK.out _ _ hB2 (fun hHeld => ?_)
      clear hK K
      try simp only [Act.put, List.setIfInBounds_toArray, List.set_cons_zero, List.set_cons_succ]
      refine wpAnyH_take (i := 8) (oi := { dst := some 50, op := Op.move (Operand.tmp 58), type := _, pos := "law.go:106", after := #[{ on := 7, ground := Ground.data }], guard := none }) (v := .tuple #[.int .i64 p.2, .bool true]) rfl (by kernel_rfl) (by kernel_rfl) (by kernel_rfl) (fun _ _ _ h => h) (Or.inl ⟨by rfl, ?_⟩) hHeld ?_
      · intro w' hSw
        have hw : Below W1.heap.size W1 w' := hSw
        have d0 := (hw.cell (p := ⟨bx, 0, none⟩) hbx).trans x0
        have d1 := (hw.cell (p := ⟨bx, 1, none⟩) hbx).trans x1
        have d2 := (hw.cell (p := ⟨bx, 2, none⟩) hbx).trans x2
        have d3 := (hw.cell (p := ⟨gL, k * 2, none⟩) hgL).trans y0
        have d4 := (hw.cell (p := ⟨gL, k * 2 + 1, none⟩) hgL).trans y1
        go_simp
      try simp only [Act.put, List.setIfInBounds_toArray, List.set_cons_zero, List.set_cons_succ]
      refine wpAnyH_take (i := 9) (oi := { dst := some 59, op := Op.extract (Operand.tmp 50) 0, type := _, pos := "law.go:106", after := #[{ on := 8, ground := Ground.data }], guard := none }) (v := .int .i64 p.2) rfl (by kernel_rfl) (by kernel_rfl) (by kernel_rfl) (fun _ _ _ h => h) (Or.inl ⟨by rfl, ?_⟩) hHeld ?_
      · intro w' hSw
        have hw : Below W1.heap.size W1 w' := hSw
        have d0 := (hw.cell (p := ⟨bx, 0, none⟩) hbx).trans x0
        have d1 := (hw.cell (p := ⟨bx, 1, none⟩) hbx).trans x1
        have d2 := (hw.cell (p := ⟨bx, 2, none⟩) hbx).trans x2
        have d3 := (hw.cell (p := ⟨gL, k * 2, none⟩) hgL).trans y0
        have d4 := (hw.cell (p := ⟨gL, k * 2 + 1, none⟩) hgL).trans y1
        go_simp
      try simp only [Act.put, List.setIfInBounds_toArray, List.set_cons_zero, List.set_cons_succ]
      refine wpAnyH_take (i := 10) (oi := { dst := some 60, op := Op.extract (Operand.tmp 50) 1, type := _, pos := "law.go:106", after := #[{ on := 8, ground := Ground.data }, { on := 11, ground := Ground.gcOnly Departure.lateStores }], guard := none }) (v := .bool true) rfl (by kernel_rfl) (by kernel_rfl) (by kernel_rfl) (fun _ _ _ h => h) (Or.inl ⟨by rfl, ?_⟩) hHeld ?_
      · intro w' hSw
        have hw : Below W1.heap.size W1 w' := hSw
        have d0 := (hw.cell (p := ⟨bx, 0, none⟩) hbx).trans x0
        have d1 := (hw.cell (p := ⟨bx, 1, none⟩) hbx).trans x1
        have d2 := (hw.cell (p := ⟨bx, 2, none⟩) hbx).trans x2
        have d3 := (hw.cell (p := ⟨gL, k * 2, none⟩) hgL).trans y0
        have d4 := (hw.cell (p := ⟨gL, k * 2 + 1, none⟩) hgL).trans y1
        go_simp
      try simp only [Act.put, List.setIfInBounds_toArray, List.set_cons_zero, List.set_cons_succ]
      refine wpAnyH_take (i := 11) (oi := { dst := some 7, op := Op.assign (Operand.tmp 59), type := _, pos := "law.go:106", after := #[{ on := 9, ground := Ground.data }, { on := 7, ground := Ground.chain }, { on := 0, ground := Ground.phase }, { on := 1, ground := Ground.phase }, { on := 2, ground := Ground.phase }, { on := 3, ground := Ground.phase }, { on := 4, ground := Ground.phase }, { on := 5, ground := Ground.phase }, { on := 6, ground := Ground.phase }, { on := 7, ground := Ground.phase }, { on := 8, ground := Ground.phase }, { on := 9, ground := Ground.phase }, { on := 10, ground := Ground.textOnly Departure.lateStores }], guard := none }) (v := .int .i64 p.2) rfl (by kernel_rfl) (by kernel_rfl) (by kernel_rfl) (fun _ _ _ h => h) (Or.inl ⟨by rfl, ?_⟩) hHeld ?_
      · intro w' hSw
        have hw : Below W1.heap.size W1 w' := hSw
        have d0 := (hw.cell (p := ⟨bx, 0, none⟩) hbx).trans x0
        have d1 := (hw.cell (p := ⟨bx, 1, none⟩) hbx).trans x1
        have d2 := (hw.cell (p := ⟨bx, 2, none⟩) hbx).trans x2
        have d3 := (hw.cell (p := ⟨gL, k * 2, none⟩) hgL).trans y0
        have d4 := (hw.cell (p := ⟨gL, k * 2 + 1, none⟩) hgL).trans y1
        go_simp
      try simp only [Act.put, List.setIfInBounds_toArray, List.set_cons_zero, List.set_cons_succ]
      refine wpAnyH_take (i := 12) (oi := { dst := some 8, op := Op.assign (Operand.tmp 60), type := _, pos := "law.go:106", after := #[{ on := 10, ground := Ground.data }, { on := 11, ground := Ground.chain }, { on := 0, ground := Ground.phase }, { on := 1, ground := Ground.phase }, { on := 2, ground := Ground.phase }, { on := 3, ground := Ground.phase }, { on := 4, ground := Ground.phase }, { on := 5, ground := Ground.phase }, { on := 6, ground := Ground.phase }, { on := 7, ground := Ground.phase }, { on := 8, ground := Ground.phase }, { on := 9, ground := Ground.phase }, { on := 10, ground := Ground.phase }, { on := 11, ground := Ground.phase }], guard := none }) (v := .bool true) rfl (by kernel_rfl) (by kernel_rfl) (by kernel_rfl) (fun _ _ _ h => h) (Or.inl ⟨by rfl, ?_⟩) hHeld ?_
      · intro w' hSw
        have hw : Below W1.heap.size W1 w' := hSw
        have d0 := (hw.cell (p := ⟨bx, 0, none⟩) hbx).trans x0
        have d1 := (hw.cell (p := ⟨bx, 1, none⟩) hbx).trans x1
        have d2 := (hw.cell (p := ⟨bx, 2, none⟩) hbx).trans x2
        have d3 := (hw.cell (p := ⟨gL, k * 2, none⟩) hgL).trans y0
        have d4 := (hw.cell (p := ⟨gL, k * 2 + 1, none⟩) hgL).trans y1
        go_simp
      try simp only [Act.put, List.setIfInBounds_toArray, List.set_cons_zero, List.set_cons_succ]
      refine wpAnyH_done (by kernel_rfl) ?_ _
      have hB2 : Below W1.heap.size W1 w2 := hHeld
      have e0 := (hB2.cell (p := ⟨bx, 0, none⟩) hbx).trans x0
      have e1 := (hB2.cell (p := ⟨bx, 1, none⟩) hbx).trans x1
      have e2 := (hB2.cell (p := ⟨bx, 2, none⟩) hbx).trans x2
      have e3 := (hB2.cell (p := ⟨gL, k * 2 + 1, none⟩) hgL).trans y1
      have i4 : ¬ p.2 < 0 := by omega
      have i5 : ¬ (S.bytes.length : Int) < p.2 := by omega
      by_cases hk0 : k = 0
      · have i3 : ¬ (0 : Int) < (k : Int) := by omega
        clear hk0
        go_wp2_with fail
        go_roundg (gk - 1)
        case measure => omega
        case rel => exact ⟨k + 1, by omega, by go_num, hB2⟩
      · have i3 : (0 : Int) < (k : Int) := by omega
        obtain ⟨j, hj⟩ : ∃ j, k = j + 1 := ⟨k - 1, by omega⟩
        have hj1 : (k : Int) - 1 = (j : Int) := by omega
        have hjl : j < S.labels.length := by omega
        obtain ⟨-, z1⟩ := hcell j S.labels[j] (List.getElem?_eq_getElem hjl)
        have e4 := (hB2.cell (p := ⟨gL, j * 2 + 1, none⟩) hgL).trans z1
        have hup : S.labels[j].2 ≤ p.2 := by
          have h1 := List.pairwise_iff_getElem.1 HP.out.up j k hjl c1 (by omega)
          have h2 : S.labels[k] = p := (List.getElem?_eq_some_iff.1 hp).2
          rw [h2] at h1
          exact h1
        have i6 : ¬ p.2 < S.labels[j].2 := by omega
        generalize S.labels[j] = q at e4 i6 z1 hup
        have i7 : (j : Int) < (S.labels.length : Int) := by omega
        clear hp hpm hcell HPl z1 hj hk0
        go_wp2_with fail
        go_roundg (gk - 1)
        case measure => omega
        case rel => exact ⟨k + 1, by omega, by go_num, hB2⟩
    · have i1 : ¬ (k : Int) < (S.labels.length : Int) := by omega
      go_wp2_with fail
      go_loopg [9] S.marks.length (fun gk v9 wr => ∃ k : Nat, gk + k = S.marks.length ∧ v9 = .int .i64 (k : Int) ∧ Below W1.heap.size W1 wr)
      case atStart => exact ⟨0, rfl, rfl, hB⟩
      case round =>
        rename_i wr0 hst0
        clear b0 b1 b2 hB hk i1 c1
        obtain ⟨k, hk, rfl, hB⟩ := hrel
        have b0 := (hB.cell (p := ⟨bx, 0, none⟩) hbx).trans x0
        have b1 := (hB.cell (p := ⟨bx, 1, none⟩) hbx).trans x1
        have b2 := (hB.cell (p := ⟨bx, 2, none⟩) hbx).trans x2
        by_cases c1 : k < S.marks.length
        · have i1 : (k : Int) < (S.marks.length : Int) := by omega
          obtain ⟨m, hp⟩ : ∃ p, S.marks[k]? = some p := ⟨_, List.getElem?_eq_getElem c1⟩
          have hpm := List.mem_of_getElem? hp
          obtain ⟨gM, rfl, hgM, hcell⟩ : ∃ g, aM = some ⟨g, 0, none⟩ ∧ g < W1.heap.size ∧ ∀ i p, S.marks[i]? = some p → W1.cell? ⟨g, i * 2, none⟩ = some (.int .i64 p.1) ∧ W1.cell? ⟨g, i * 2 + 1, none⟩ = some (.int .i64 p.2) := by
            rcases pM1.out with h | ⟨g, h1, h2, h3⟩
            · rw [h] at hp; cases hp
            · exact ⟨g, h1, h2, fun i p hp => h3 i p _ _ hp rfl⟩
          obtain ⟨y0, y1⟩ := hcell k m hp
          obtain ⟨p0, p1, -⟩ := HP.out.mks m hpm
          have hln := HP.out.lines
          have b3 := (hB.cell (p := ⟨gM, k * 2, none⟩) hgM).trans y0
          have b4 := (hB.cell (p := ⟨gM, k * 2 + 1, none⟩) hgM).trans y1
          have i4 : ¬ m.1 < 0 := by omega
          have i5 : ¬ (S.bytes.length : Int) < m.1 := by omega
          have hdr : Below W1.heap.size W1 wr.drew := hB.drew
          have hall : ∀ j q, S.marks[j]? = some q → j < k → q.1 ≤ m.1 ∧ q.2 < m.2 := fun j q hq hj => by
            have hjl := (List.getElem?_eq_some_iff.1 hq).1
            have h1 := List.pairwise_iff_getElem.1 hln j k hjl c1 hj
            rw [(List.getElem?_eq_some_iff.1 hp).2, (List.getElem?_eq_some_iff.1 hq).2] at h1
            exact h1
          have hat : (∀ q, S.marks[k + 1]? = some q → m.1 < q.1) → lineM S.marks m.1 = m.2 := fun h => line_at hln hp h
          have HLn := Lib.hid fun (W : World) (hW : Below W1.heap.size W1 W) (h : ∀ q, S.marks[k + 1]? = some q → m.1 < q.1) => by
            have := where_c (some ⟨gM, 0, none⟩) cM (.slice aB S.bytes.length cB) (.slice aL S.labels.length cL) S.marks m.1 W (pM1.out.below hW) (by omega) hcm hmm
            rw [hat h] at this
            exact this
          have HC := Lib.hid (And.intro hcell (And.intro hall hp))
          have hwn : IntKind.i64.wrap ((S.marks.length : Int) - 1) = (S.marks.length : Int) - 1 := IntWalk.i64_in _ ⟨by omega, by omega⟩
          clear hcell hall hp hpm hln hat
          go_wp2_with fail
          refine wp_joinJ (JmP W1) ?_ ?_
          · have g1 : decide (m.1 < 0) = false := decide_eq_false (by omega)
            have g2 : decide ((S.bytes.length : Int) < m.1) = false := decide_eq_false (by omega)
            by_cases hk0 : k = 0
            · have g3 : decide ((0 : Int) < (k : Int)) = false := decide_eq_false (by omega)
              have g4 : decide (0 < k) = false := decide_eq_false (by omega)
              clear hk0 HC HLn HP HW pL1 pM1
              go_quiet (fail)
              exact jmP_in (below_drewR hB _) rfl
            · have g3 : decide ((0 : Int) < (k : Int)) = true := decide_eq_true (by omega)
              have g4 : decide (0 < k) = true := decide_eq_true (by omega)
              obtain ⟨j, hj⟩ : ∃ j, k = j + 1 := ⟨k - 1, by omega⟩
              have hj1 : (k : Int) - 1 = (j : Int) := by omega
              have hwj : IntKind.i64.wrap (j : Int) = (j : Int) := IntWalk.i64_in _ ⟨by omega, by omega⟩
              have hjl : j < S.marks.length := by omega
              obtain ⟨z0, z1⟩ := HC.out.1 j S.marks[j] (List.getElem?_eq_getElem hjl)
              obtain ⟨u0, u1⟩ := HC.out.2.1 j S.marks[j] (List.getElem?_eq_getElem hjl) (by omega)
              generalize S.marks[j] = q at z0 z1 u0 u1
              have b5 := (hB.cell (p := ⟨gM, j * 2, none⟩) hgM).trans z0
              have b6 := (hB.cell (p := ⟨gM, j * 2 + 1, none⟩) hgM).trans z1
              have g5 : decide (m.2 ≤ q.2) = false := decide_eq_false (by omega)
              have g6 : decide (m.1 < q.1) = false := decide_eq_false (by omega)
              have i7 : (j : Int) < (S.marks.length : Int) := by omega
              clear z0 z1 hj hk0 u0 u1 HC HLn HP HW pL1 pM1
              go_quiet (fail)
              exact jmP_in (below_drewR hB _) rfl
          rintro a' w4 ⟨hB3, f, rfl⟩
          simp only [List.take_succ_cons, List.take_zero, List.drop_succ_cons, List.drop_zero, List.cons_append, List.nil_append]
          clear b0 b1 b2 b3 b4 hdr
          have hB3d : Below W1.heap.size W1 w4.drew := hB3.drew
          by_cases hla : k + 1 = S.marks.length
          · have t1 : (k : Int) = (S.marks.length : Int) - 1 := by omega
            have t2 : ((k : Int) == (S.marks.length : Int) - 1) = true := by simpa using t1
            have HLa := Lib.hid (show ∀ q, S.marks[k + 1]? = some q → m.1 < q.1 from fun q hq => by have := (List.getElem?_eq_some_iff.1 hq).1; omega)
            clear hla t1
            go_wp2_with fail
            refine wp_region_held_drew (S := fun w' => Below W1.heap.size W1 w') (by kernel_rfl) hB3d (fun hHeld => ?_)
            refine wpAnyH_take (i := 0) (oi := { dst := some 161, op := Op.move (Operand.tmp 9), type := _, pos := "law.go:115", after := #[], guard := none }) (v := .int .i64 (k : Int)) rfl (by kernel_rfl) (by kernel_rfl) (by kernel_rfl) (fun _ _ _ h => h) (Or.inl ⟨by rfl, ?_⟩) hHeld ?_
            · intro w' hSw
              have hw : Below W1.heap.size W1 w' := hSw
              have d0 := (hw.cell (p := ⟨bx, 0, none⟩) hbx).trans x0
              have d1 := (hw.cell (p := ⟨bx, 1, none⟩) hbx).trans x1
              have d2 := (hw.cell (p := ⟨bx, 2, none⟩) hbx).trans x2
              have d3 := (hw.cell (p := ⟨gM, k * 2, none⟩) hgM).trans y0
              have d4 := (hw.cell (p := ⟨gM, k * 2 + 1, none⟩) hgM).trans y1
              go_simp <;> omega
            try simp only [Act.put, List.setIfInBounds_toArray, List.set_cons_zero, List.set_cons_succ]
            refine wpAnyH_take (i := 1) (oi := { dst := some 162, op := Op.fieldAddr _ (Operand.tmp 3) 2, type := _, pos := "law.go:115", after := #[], guard := none }) (v := .pointer (some ⟨bx, 2, none⟩)) rfl (by kernel_rfl) (by kernel_rfl) (by kernel_rfl) (fun _ _ _ h => h) (Or.inl ⟨by rfl, ?_⟩) hHeld ?_
            · intro w' hSw
              have hw : Below W1.heap.size W1 w' := hSw
              have d0 := (hw.cell (p := ⟨bx, 0, none⟩) hbx).trans x0
              have d1 := (hw.cell (p := ⟨bx, 1, none⟩) hbx).trans x1
              have d2 := (hw.cell (p := ⟨bx, 2, none⟩) hbx).trans x2
              have d3 := (hw.cell (p := ⟨gM, k * 2, none⟩) hgM).trans y0
              have d4 := (hw.cell (p := ⟨gM, k * 2 + 1, none⟩) hgM).trans y1
              go_simp <;> omega
            try simp only [Act.put, List.setIfInBounds_toArray, List.set_cons_zero, List.set_cons_succ]
            refine wpAnyH_take (i := 2) (oi := { dst := some 163, op := Op.load _ (Operand.tmp 162), type := _, pos := "law.go:115", after := #[{ on := 1, ground := Ground.data }], guard := none }) (v := .slice (some ⟨gM, 0, none⟩) S.marks.length cM) rfl (by kernel_rfl) (by kernel_rfl) (by kernel_rfl) (fun _ _ _ h => h) (Or.inl ⟨by rfl, ?_⟩) hHeld ?_
            · intro w' hSw
              have hw : Below W1.heap.size W1 w' := hSw
              have d0 := (hw.cell (p := ⟨bx, 0, none⟩) hbx).trans x0
              have d1 := (hw.cell (p := ⟨bx, 1, none⟩) hbx).trans x1
              have d2 := (hw.cell (p := ⟨bx, 2, none⟩) hbx).trans x2
              have d3 := (hw.cell (p := ⟨gM, k * 2, none⟩) hgM).trans y0
              have d4 := (hw.cell (p := ⟨gM, k * 2 + 1, none⟩) hgM).trans y1
              go_simp <;> omega
            try simp only [Act.put, List.setIfInBounds_toArray, List.set_cons_zero, List.set_cons_succ]
            refine wpAnyH_take (i := 3) (oi := { dst := some 164, op := Op.call { callee := Callee.builtin Builtin.len, args := #[Operand.tmp 163], argTypes := _ }, type := _, pos := "law.go:115", after := #[{ on := 2, ground := Ground.data }], guard := none }) (v := .int .i64 (S.marks.length : Int)) rfl (by kernel_rfl) (by kernel_rfl) (by kernel_rfl) (fun _ _ _ h => h) (Or.inl ⟨by rfl, ?_⟩) hHeld ?_
            · intro w' hSw
              have hw : Below W1.heap.size W1 w' := hSw
              have d0 := (hw.cell (p := ⟨bx, 0, none⟩) hbx).trans x0
              have d1 := (hw.cell (p := ⟨bx, 1, none⟩) hbx).trans x1
              have d2 := (hw.cell (p := ⟨bx, 2, none⟩) hbx).trans x2
              have d3 := (hw.cell (p := ⟨gM, k * 2, none⟩) hgM).trans y0
              have d4 := (hw.cell (p := ⟨gM, k * 2 + 1, none⟩) hgM).trans y1
              go_simp <;> omega
            try simp only [Act.put, List.setIfInBounds_toArray, List.set_cons_zero, List.set_cons_succ]
            refine wpAnyH_take (i := 4) (oi := { dst := some 165, op := Op.binOp BinOp.sub _ (Operand.tmp 164) (Operand.const (Value.int IntKind.i64 1)) _, type := _, pos := "law.go:115", after := #[{ on := 3, ground := Ground.data }], guard := none }) (v := .int .i64 ((S.marks.length : Int) - 1)) rfl (by kernel_rfl) (by kernel_rfl) (by kernel_rfl) (fun _ _ _ h => h) (Or.inl ⟨by rfl, ?_⟩) hHeld ?_
            · intro w' hSw
              have hw : Below W1.heap.size W1 w' := hSw
              have d0 := (hw.cell (p := ⟨bx, 0, none⟩) hbx).trans x0
              have d1 := (hw.cell (p := ⟨bx, 1, none⟩) hbx).trans x1
              have d2 := (hw.cell (p := ⟨bx, 2, none⟩) hbx).trans x2
              have d3 := (hw.cell (p := ⟨gM, k * 2, none⟩) hgM).trans y0
              have d4 := (hw.cell (p := ⟨gM, k * 2 + 1, none⟩) hgM).trans y1
              go_simp <;> omega
            try simp only [Act.put, List.setIfInBounds_toArray, List.set_cons_zero, List.set_cons_succ]
            refine wpAnyH_take (i := 5) (oi := { dst := some 166, op := Op.binOp BinOp.eql _ (Operand.tmp 161) (Operand.tmp 165) _, type := _, pos := "law.go:115", after := #[{ on := 0, ground := Ground.data }, { on := 4, ground := Ground.data }], guard := none }) (v := .bool true) rfl (by kernel_rfl) (by kernel_rfl) (by kernel_rfl) (fun _ _ _ h => h) (Or.inl ⟨by rfl, ?_⟩) hHeld ?_
            · intro w' hSw
              have hw : Below W1.heap.size W1 w' := hSw
              have d0 := (hw.cell (p := ⟨bx, 0, none⟩) hbx).trans x0
              have d1 := (hw.cell (p := ⟨bx, 1, none⟩) hbx).trans x1
              have d2 := (hw.cell (p := ⟨bx, 2, none⟩) hbx).trans x2
              have d3 := (hw.cell (p := ⟨gM, k * 2, none⟩) hgM).trans y0
              have d4 := (hw.cell (p := ⟨gM, k * 2 + 1, none⟩) hgM).trans y1
              go_simp <;> omega
            try simp only [Act.put, List.setIfInBounds_toArray, List.set_cons_zero, List.set_cons_succ]
            refine wpAnyH_take (i := 6) (oi := { dst := some 167, op := Op.move (Operand.tmp 166), type := _, pos := "law.go:115", after := #[{ on := 5, ground := Ground.data }], guard := none }) (v := .bool true) rfl (by kernel_rfl) (by kernel_rfl) (by kernel_rfl) (fun _ _ _ h => h) (Or.inl ⟨by rfl, ?_⟩) hHeld ?_
            · intro w' hSw
              have hw : Below W1.heap.size W1 w' := hSw
              have d0 := (hw.cell (p := ⟨bx, 0, none⟩) hbx).trans x0
              have d1 := (hw.cell (p := ⟨bx, 1, none⟩) hbx).trans x1
              have d2 := (hw.cell (p := ⟨bx, 2, none⟩) hbx).trans x2
              have d3 := (hw.cell (p := ⟨gM, k * 2, none⟩) hgM).trans y0
              have d4 := (hw.cell (p := ⟨gM, k * 2 + 1, none⟩) hgM).trans y1
              go_simp <;> omega
            try simp only [Act.put, List.setIfInBounds_toArray, List.set_cons_zero, List.set_cons_succ]
            refine wpAnyH_take (i := 7) (oi := { dst := some 168, op := Op.fieldAddr _ (Operand.tmp 3) 2, type := _, pos := "law.go:115", after := #[{ on := 6, ground := Ground.guard }], guard := some (6, false) }) (v := undef) rfl (by kernel_rfl) (by kernel_rfl) (by kernel_rfl) (fun _ _ _ h => h) (Or.inr ⟨by rfl, rfl⟩) hHeld ?_
            try simp only [Act.put, List.setIfInBounds_toArray, List.set_cons_zero, List.set_cons_succ]
            refine wpAnyH_take (i := 8) (oi := { dst := some 169, op := Op.load _ (Operand.tmp 168), type := _, pos := "law.go:115", after := #[{ on := 7, ground := Ground.data }, { on := 6, ground := Ground.guard }], guard := some (6, false) }) (v := undef) rfl (by kernel_rfl) (by kernel_rfl) (by kernel_rfl) (fun _ _ _ h => h) (Or.inr ⟨by rfl, rfl⟩) hHeld ?_
            try simp only [Act.put, List.setIfInBounds_toArray, List.set_cons_zero, List.set_cons_succ]
            refine wpAnyH_take (i := 9) (oi := { dst := some 170, op := Op.move (Operand.tmp 9), type := _, pos := "law.go:115", after := #[{ on := 6, ground := Ground.guard }], guard := some (6, false) }) (v := undef) rfl (by kernel_rfl) (by kernel_rfl) (by kernel_rfl) (fun _ _ _ h => h) (Or.inr ⟨by rfl, rfl⟩) hHeld ?_
            try simp only [Act.put, List.setIfInBounds_toArray, List.set_cons_zero, List.set_cons_succ]
            refine wpAnyH_take (i := 10) (oi := { dst := some 171, op := Op.binOp BinOp.add _ (Operand.tmp 170) (Operand.const (Value.int IntKind.i64 1)) _, type := _, pos := "law.go:115", after := #[{ on := 9, ground := Ground.data }, { on := 6, ground := Ground.guard }], guard := some (6, false) }) (v := undef) rfl (by kernel_rfl) (by kernel_rfl) (by kernel_rfl) (fun _ _ _ h => h) (Or.inr ⟨by rfl, rfl⟩) hHeld ?_
            try simp only [Act.put, List.setIfInBounds_toArray, List.set_cons_zero, List.set_cons_succ]
            refine wpAnyH_take (i := 11) (oi := { dst := some 172, op := Op.indexAddr _ (Operand.tmp 169) (Operand.tmp 171), type := _, pos := "law.go:115", after := #[{ on := 8, ground := Ground.data }, { on := 10, ground := Ground.data }, { on := 6, ground := Ground.guard }], guard := some (6, false) }) (v := undef) rfl (by kernel_rfl) (by kernel_rfl) (by kernel_rfl) (fun _ _ _ h => h) (Or.inr ⟨by rfl, rfl⟩) hHeld ?_
            try simp only [Act.put, List.setIfInBounds_toArray, List.set_cons_zero, List.set_cons_succ]
            refine wpAnyH_take (i := 12) (oi := { dst := some 173, op := Op.fieldAddr _ (Operand.tmp 172) 0, type := _, pos := "law.go:115", after := #[{ on := 11, ground := Ground.data }, { on := 6, ground := Ground.guard }], guard := some (6, false) }) (v := undef) rfl (by kernel_rfl) (by kernel_rfl) (by kernel_rfl) (fun _ _ _ h => h) (Or.inr ⟨by rfl, rfl⟩) hHeld ?_
            try simp only [Act.put, List.setIfInBounds_toArray, List.set_cons_zero, List.set_cons_succ]
            refine wpAnyH_take (i := 13) (oi := { dst := some 174, op := Op.load _ (Operand.tmp 173), type := _, pos := "law.go:115", after := #[{ on := 12, ground := Ground.data }, { on := 6, ground := Ground.guard }], guard := some (6, false) }) (v := undef) rfl (by kernel_rfl) (by kernel_rfl) (by kernel_rfl) (fun _ _ _ h => h) (Or.inr ⟨by rfl, rfl⟩) hHeld ?_
            try simp only [Act.put, List.setIfInBounds_toArray, List.set_cons_zero, List.set_cons_succ]
            refine wpAnyH_take (i := 14) (oi := { dst := some 175, op := Op.fieldAddr _ (Operand.tmp 3) 2, type := _, pos := "law.go:115", after := #[{ on := 6, ground := Ground.guard }], guard := some (6, false) }) (v := undef) rfl (by kernel_rfl) (by kernel_rfl) (by kernel_rfl) (fun _ _ _ h => h) (Or.inr ⟨by rfl, rfl⟩) hHeld ?_
            try simp only [Act.put, List.setIfInBounds_toArray, List.set_cons_zero, List.set_cons_succ]
            refine wpAnyH_take (i := 15) (oi := { dst := some 176, op := Op.load _ (Operand.tmp 175), type := _, pos := "law.go:115", after := #[{ on := 14, ground := Ground.data }, { on := 6, ground := Ground.guard }], guard := some (6, false) }) (v := undef) rfl (by kernel_rfl) (by kernel_rfl) (by kernel_rfl) (fun _ _ _ h => h) (Or.inr ⟨by rfl, rfl⟩) hHeld ?_
            try simp only [Act.put, List.setIfInBounds_toArray, List.set_cons_zero, List.set_cons_succ]
            refine wpAnyH_take (i := 16) (oi := { dst := some 177, op := Op.move (Operand.tmp 9), type := _, pos := "law.go:115", after := #[{ on := 6, ground := Ground.guard }], guard := some (6, false) }) (v := undef) rfl (by kernel_rfl) (by kernel_rfl) (by kernel_rfl) (fun _ _ _ h => h) (Or.inr ⟨by rfl, rfl⟩) hHeld ?_
            try simp only [Act.put, List.setIfInBounds_toArray, List.set_cons_zero, List.set_cons_succ]
            refine wpAnyH_take (i := 17) (oi := { dst := some 178, op := Op.indexAddr _ (Operand.tmp 176) (Operand.tmp 177), type := _, pos := "law.go:115", after := #[{ on := 15, ground := Ground.data }, { on := 16, ground := Ground.data }, { on := 6, ground := Ground.guard }], guard := some (6, false) }) (v := undef) rfl (by kernel_rfl) (by kernel_rfl) (by kernel_rfl) (fun _ _ _ h => h) (Or.inr ⟨by rfl, rfl⟩) hHeld ?_
            try simp only [Act.put, List.setIfInBounds_toArray, List.set_cons_zero, List.set_cons_succ]
            refine wpAnyH_take (i := 18) (oi := { dst := some 179, op := Op.fieldAddr _ (Operand.tmp 178) 0, type := _, pos := "law.go:115", after := #[{ on := 17, ground := Ground.data }, { on := 6, ground := Ground.guard }], guard := some (6, false) }) (v := undef) rfl (by kernel_rfl) (by kernel_rfl) (by kernel_rfl) (fun _ _ _ h => h) (Or.inr ⟨by rfl, rfl⟩) hHeld ?_
            try simp only [Act.put, List.setIfInBounds_toArray, List.set_cons_zero, List.set_cons_succ]
            refine wpAnyH_take (i := 19) (oi := { dst := some 180, op := Op.load _ (Operand.tmp 179), type := _, pos := "law.go:115", after := #[{ on := 18, ground := Ground.data }, { on := 6, ground := Ground.guard }], guard := some (6, false) }) (v := undef) rfl (by kernel_rfl) (by kernel_rfl) (by kernel_rfl) (fun _ _ _ h => h) (Or.inr ⟨by rfl, rfl⟩) hHeld ?_
            try simp only [Act.put, List.setIfInBounds_toArray, List.set_cons_zero, List.set_cons_succ]
            refine wpAnyH_take (i := 20) (oi := { dst := some 181, op := Op.binOp BinOp.gtr _ (Operand.tmp 174) (Operand.tmp 180) _, type := _, pos := "law.go:115", after := #[{ on := 13, ground := Ground.data }, { on := 19, ground := Ground.data }, { on := 6, ground := Ground.guard }], guard := some (6, false) }) (v := undef) rfl (by kernel_rfl) (by kernel_rfl) (by kernel_rfl) (fun _ _ _ h => h) (Or.inr ⟨by rfl, rfl⟩) hHeld ?_
            try simp only [Act.put, List.setIfInBounds_toArray, List.set_cons_zero, List.set_cons_succ]
            refine wpAnyH_take (i := 21) (oi := { dst := some 182, op := Op.pick (Operand.tmp 167) (Operand.const (Value.bool true)) (Operand.tmp 181), type := _, pos := "law.go:115", after := #[{ on := 6, ground := Ground.data }, { on := 20, ground := Ground.data }], guard := none }) (v := .bool true) rfl (by kernel_rfl) (by kernel_rfl) (by kernel_rfl) (fun _ _ _ h => h) (Or.inl ⟨by rfl, ?_⟩) hHeld ?_
            · intro w' hSw
              have hw : Below W1.heap.size W1 w' := hSw
              have d0 := (hw.cell (p := ⟨bx, 0, none⟩) hbx).trans x0
              have d1 := (hw.cell (p := ⟨bx, 1, none⟩) hbx).trans x1
              have d2 := (hw.cell (p := ⟨bx, 2, none⟩) hbx).trans x2
              have d3 := (hw.cell (p := ⟨gM, k * 2, none⟩) hgM).trans y0
              have d4 := (hw.cell (p := ⟨gM, k * 2 + 1, none⟩) hgM).trans y1
              go_simp <;> omega
            try simp only [Act.put, List.setIfInBounds_toArray, List.set_cons_zero, List.set_cons_succ]
            refine wpAnyH_take (i := 22) (oi := { dst := some 183, op := Op.move (Operand.tmp 182), type := _, pos := "law.go:115", after := #[{ on := 21, ground := Ground.data }, { on := 6, ground := Ground.chain }], guard := none }) (v := .bool true) rfl (by kernel_rfl) (by kernel_rfl) (by kernel_rfl) (fun _ _ _ h => h) (Or.inl ⟨by rfl, ?_⟩) hHeld ?_
            · intro w' hSw
              have hw : Below W1.heap.size W1 w' := hSw
              have d0 := (hw.cell (p := ⟨bx, 0, none⟩) hbx).trans x0
              have d1 := (hw.cell (p := ⟨bx, 1, none⟩) hbx).trans x1
              have d2 := (hw.cell (p := ⟨bx, 2, none⟩) hbx).trans x2
              have d3 := (hw.cell (p := ⟨gM, k * 2, none⟩) hgM).trans y0
              have d4 := (hw.cell (p := ⟨gM, k * 2 + 1, none⟩) hgM).trans y1
              go_simp <;> omega
            try simp only [Act.put, List.setIfInBounds_toArray, List.set_cons_zero, List.set_cons_succ]
            refine wpAnyH_take (i := 23) (oi := { dst := some 184, op := Op.load _ (Operand.tmp 3), type := _, pos := "law.go:115", after := #[{ on := 22, ground := Ground.guard }], guard := some (22, true) }) (v := .agg #[.slice aB S.bytes.length cB, .slice aL S.labels.length cL, .slice (some ⟨gM, 0, none⟩) S.marks.length cM]) rfl (by kernel_rfl) (by kernel_rfl) (by kernel_rfl) (fun _ _ _ h => h) (Or.inl ⟨by rfl, ?_⟩) hHeld ?_
            · intro w' hSw
              have hw : Below W1.heap.size W1 w' := hSw
              have d0 := (hw.cell (p := ⟨bx, 0, none⟩) hbx).trans x0
              have d1 := (hw.cell (p := ⟨bx, 1, none⟩) hbx).trans x1
              have d2 := (hw.cell (p := ⟨bx, 2, none⟩) hbx).trans x2
              have d3 := (hw.cell (p := ⟨gM, k * 2, none⟩) hgM).trans y0
              have d4 := (hw.cell (p := ⟨gM, k * 2 + 1, none⟩) hgM).trans y1
              go_simp <;> omega
            try simp only [Act.put, List.setIfInBounds_toArray, List.set_cons_zero, List.set_cons_succ]
            refine wpAnyH_take (i := 24) (oi := { dst := some 185, op := Op.fieldAddr _ (Operand.tmp 3) 2, type := _, pos := "law.go:115", after := #[{ on := 22, ground := Ground.guard }], guard := some (22, true) }) (v := .pointer (some ⟨bx, 2, none⟩)) rfl (by kernel_rfl) (by kernel_rfl) (by kernel_rfl) (fun _ _ _ h => h) (Or.inl ⟨by rfl, ?_⟩) hHeld ?_
            · intro w' hSw
              have hw : Below W1.heap.size W1 w' := hSw
              have d0 := (hw.cell (p := ⟨bx, 0, none⟩) hbx).trans x0
              have d1 := (hw.cell (p := ⟨bx, 1, none⟩) hbx).trans x1
              have d2 := (hw.cell (p := ⟨bx, 2, none⟩) hbx).trans x2
              have d3 := (hw.cell (p := ⟨gM, k * 2, none⟩) hgM).trans y0
              have d4 := (hw.cell (p := ⟨gM, k * 2 + 1, none⟩) hgM).trans y1
              go_simp <;> omega
            try simp only [Act.put, List.setIfInBounds_toArray, List.set_cons_zero, List.set_cons_succ]
            refine wpAnyH_take (i := 25) (oi := { dst := some 186, op := Op.load _ (Operand.tmp 185), type := _, pos := "law.go:115", after := #[{ on := 24, ground := Ground.data }, { on := 22, ground := Ground.guard }], guard := some (22, true) }) (v := .slice (some ⟨gM, 0, none⟩) S.marks.length cM) rfl (by kernel_rfl) (by kernel_rfl) (by kernel_rfl) (fun _ _ _ h => h) (Or.inl ⟨by rfl, ?_⟩) hHeld ?_
            · intro w' hSw
              have hw : Below W1.heap.size W1 w' := hSw
              have d0 := (hw.cell (p := ⟨bx, 0, none⟩) hbx).trans x0
              have d1 := (hw.cell (p := ⟨bx, 1, none⟩) hbx).trans x1
              have d2 := (hw.cell (p := ⟨bx, 2, none⟩) hbx).trans x2
              have d3 := (hw.cell (p := ⟨gM, k * 2, none⟩) hgM).trans y0
              have d4 := (hw.cell (p := ⟨gM, k * 2 + 1, none⟩) hgM).trans y1
              go_simp <;> omega
            try simp only [Act.put, List.setIfInBounds_toArray, List.set_cons_zero, List.set_cons_succ]
            refine wpAnyH_take (i := 26) (oi := { dst := some 187, op := Op.move (Operand.tmp 9), type := _, pos := "law.go:115", after := #[{ on := 22, ground := Ground.guard }], guard := some (22, true) }) (v := .int .i64 (k : Int)) rfl (by kernel_rfl) (by kernel_rfl) (by kernel_rfl) (fun _ _ _ h => h) (Or.inl ⟨by rfl, ?_⟩) hHeld ?_
            · intro w' hSw
              have hw : Below W1.heap.size W1 w' := hSw
              have d0 := (hw.cell (p := ⟨bx, 0, none⟩) hbx).trans x0
              have d1 := (hw.cell (p := ⟨bx, 1, none⟩) hbx).trans x1
              have d2 := (hw.cell (p := ⟨bx, 2, none⟩) hbx).trans x2
              have d3 := (hw.cell (p := ⟨gM, k * 2, none⟩) hgM).trans y0
              have d4 := (hw.cell (p := ⟨gM, k * 2 + 1, none⟩) hgM).trans y1
              go_simp <;> omega
            try simp only [Act.put, List.setIfInBounds_toArray, List.set_cons_zero, List.set_cons_succ]
            refine wpAnyH_take (i := 27) (oi := { dst := some 188, op := Op.indexAddr _ (Operand.tmp 186) (Operand.tmp 187), type := _, pos := "law.go:115", after := #[{ on := 25, ground := Ground.data }, { on := 26, ground := Ground.data }, { on := 22, ground := Ground.guard }], guard := some (22, true) }) (v := .pointer (some ⟨gM, k * 2, none⟩)) rfl (by kernel_rfl) (by kernel_rfl) (by kernel_rfl) (fun _ _ _ h => h) (Or.inl ⟨by rfl, ?_⟩) hHeld ?_
            · intro w' hSw
              have hw : Below W1.heap.size W1 w' := hSw
              have d0 := (hw.cell (p := ⟨bx, 0, none⟩) hbx).trans x0
              have d1 := (hw.cell (p := ⟨bx, 1, none⟩) hbx).trans x1
              have d2 := (hw.cell (p := ⟨bx, 2, none⟩) hbx).trans x2
              have d3 := (hw.cell (p := ⟨gM, k * 2, none⟩) hgM).trans y0
              have d4 := (hw.cell (p := ⟨gM, k * 2 + 1, none⟩) hgM).trans y1
              go_simp <;> omega
            try simp only [Act.put, List.setIfInBounds_toArray, List.set_cons_zero, List.set_cons_succ]
            refine wpAnyH_take (i := 28) (oi := { dst := some 189, op := Op.fieldAddr _ (Operand.tmp 188) 0, type := _, pos := "law.go:115", after := #[{ on := 27, ground := Ground.data }, { on := 22, ground := Ground.guard }], guard := some (22, true) }) (v := .pointer (some ⟨gM, k * 2, none⟩)) rfl (by kernel_rfl) (by kernel_rfl) (by kernel_rfl) (fun _ _ _ h => h) (Or.inl ⟨by rfl, ?_⟩) hHeld ?_
            · intro w' hSw
              have hw : Below W1.heap.size W1 w' := hSw
              have d0 := (hw.cell (p := ⟨bx, 0, none⟩) hbx).trans x0
              have d1 := (hw.cell (p := ⟨bx, 1, none⟩) hbx).trans x1
              have d2 := (hw.cell (p := ⟨bx, 2, none⟩) hbx).trans x2
              have d3 := (hw.cell (p := ⟨gM, k * 2, none⟩) hgM).trans y0
              have d4 := (hw.cell (p := ⟨gM, k * 2 + 1, none⟩) hgM).trans y1
              go_simp <;> omega
            try simp only [Act.put, List.setIfInBounds_toArray, List.set_cons_zero, List.set_cons_succ]
            refine wpAnyH_take (i := 29) (oi := { dst := some 190, op := Op.load _ (Operand.tmp 189), type := _, pos := "law.go:115", after := #[{ on := 28, ground := Ground.data }, { on := 22, ground := Ground.guard }], guard := some (22, true) }) (v := .int .i64 m.1) rfl (by kernel_rfl) (by kernel_rfl) (by kernel_rfl) (fun _ _ _ h => h) (Or.inl ⟨by rfl, ?_⟩) hHeld ?_
            · intro w' hSw
              have hw : Below W1.heap.size W1 w' := hSw
              have d0 := (hw.cell (p := ⟨bx, 0, none⟩) hbx).trans x0
              have d1 := (hw.cell (p := ⟨bx, 1, none⟩) hbx).trans x1
              have d2 := (hw.cell (p := ⟨bx, 2, none⟩) hbx).trans x2
              have d3 := (hw.cell (p := ⟨gM, k * 2, none⟩) hgM).trans y0
              have d4 := (hw.cell (p := ⟨gM, k * 2 + 1, none⟩) hgM).trans y1
              go_simp <;> omega
            try simp only [Act.put, List.setIfInBounds_toArray, List.set_cons_zero, List.set_cons_succ]
            refine wpAnyH_take (i := 31) (oi := { dst := some 192, op := Op.fieldAddr _ (Operand.tmp 3) 2, type := _, pos := "law.go:115", after := #[{ on := 22, ground := Ground.guard }], guard := some (22, true) }) (v := .pointer (some ⟨bx, 2, none⟩)) rfl (by kernel_rfl) (by kernel_rfl) (by kernel_rfl) (fun _ _ _ h => h) (Or.inl ⟨by rfl, ?_⟩) hHeld ?_
            · intro w' hSw
              have hw : Below W1.heap.size W1 w' := hSw
              have d0 := (hw.cell (p := ⟨bx, 0, none⟩) hbx).trans x0
              have d1 := (hw.cell (p := ⟨bx, 1, none⟩) hbx).trans x1
              have d2 := (hw.cell (p := ⟨bx, 2, none⟩) hbx).trans x2
              have d3 := (hw.cell (p := ⟨gM, k * 2, none⟩) hgM).trans y0
              have d4 := (hw.cell (p := ⟨gM, k * 2 + 1, none⟩) hgM).trans y1
              go_simp <;> omega
            try simp only [Act.put, List.setIfInBounds_toArray, List.set_cons_zero, List.set_cons_succ]
            refine wpAnyH_take (i := 32) (oi := { dst := some 193, op := Op.load _ (Operand.tmp 192), type := _, pos := "law.go:115", after := #[{ on := 31, ground := Ground.data }, { on := 22, ground := Ground.guard }], guard := some (22, true) }) (v := .slice (some ⟨gM, 0, none⟩) S.marks.length cM) rfl (by kernel_rfl) (by kernel_rfl) (by kernel_rfl) (fun _ _ _ h => h) (Or.inl ⟨by rfl, ?_⟩) hHeld ?_
            · intro w' hSw
              have hw : Below W1.heap.size W1 w' := hSw
              have d0 := (hw.cell (p := ⟨bx, 0, none⟩) hbx).trans x0
              have d1 := (hw.cell (p := ⟨bx, 1, none⟩) hbx).trans x1
              have d2 := (hw.cell (p := ⟨bx, 2, none⟩) hbx).trans x2
              have d3 := (hw.cell (p := ⟨gM, k * 2, none⟩) hgM).trans y0
              have d4 := (hw.cell (p := ⟨gM, k * 2 + 1, none⟩) hgM).trans y1
              go_simp <;> omega
            try simp only [Act.put, List.setIfInBounds_toArray, List.set_cons_zero, List.set_cons_succ]
            refine wpAnyH_take (i := 33) (oi := { dst := some 194, op := Op.move (Operand.tmp 9), type := _, pos := "law.go:115", after := #[{ on := 22, ground := Ground.guard }], guard := some (22, true) }) (v := .int .i64 (k : Int)) rfl (by kernel_rfl) (by kernel_rfl) (by kernel_rfl) (fun _ _ _ h => h) (Or.inl ⟨by rfl, ?_⟩) hHeld ?_
            · intro w' hSw
              have hw : Below W1.heap.size W1 w' := hSw
              have d0 := (hw.cell (p := ⟨bx, 0, none⟩) hbx).trans x0
              have d1 := (hw.cell (p := ⟨bx, 1, none⟩) hbx).trans x1
              have d2 := (hw.cell (p := ⟨bx, 2, none⟩) hbx).trans x2
              have d3 := (hw.cell (p := ⟨gM, k * 2, none⟩) hgM).trans y0
              have d4 := (hw.cell (p := ⟨gM, k * 2 + 1, none⟩) hgM).trans y1
              go_simp <;> omega
            try simp only [Act.put, List.setIfInBounds_toArray, List.set_cons_zero, List.set_cons_succ]
            refine wpAnyH_take (i := 34) (oi := { dst := some 195, op := Op.indexAddr _ (Operand.tmp 193) (Operand.tmp 194), type := _, pos := "law.go:115", after := #[{ on := 32, ground := Ground.data }, { on := 33, ground := Ground.data }, { on := 22, ground := Ground.guard }], guard := some (22, true) }) (v := .pointer (some ⟨gM, k * 2, none⟩)) rfl (by kernel_rfl) (by kernel_rfl) (by kernel_rfl) (fun _ _ _ h => h) (Or.inl ⟨by rfl, ?_⟩) hHeld ?_
            · intro w' hSw
              have hw : Below W1.heap.size W1 w' := hSw
              have d0 := (hw.cell (p := ⟨bx, 0, none⟩) hbx).trans x0
              have d1 := (hw.cell (p := ⟨bx, 1, none⟩) hbx).trans x1
              have d2 := (hw.cell (p := ⟨bx, 2, none⟩) hbx).trans x2
              have d3 := (hw.cell (p := ⟨gM, k * 2, none⟩) hgM).trans y0
              have d4 := (hw.cell (p := ⟨gM, k * 2 + 1, none⟩) hgM).trans y1
              go_simp <;> omega
            try simp only [Act.put, List.setIfInBounds_toArray, List.set_cons_zero, List.set_cons_succ]
            refine wpAnyH_take (i := 35) (oi := { dst := some 196, op := Op.fieldAddr _ (Operand.tmp 195) 1, type := _, pos := "law.go:115", after := #[{ on := 34, ground := Ground.data }, { on := 22, ground := Ground.guard }], guard := some (22, true) }) (v := .pointer (some ⟨gM, k * 2 + 1, none⟩)) rfl (by kernel_rfl) (by kernel_rfl) (by kernel_rfl) (fun _ _ _ h => h) (Or.inl ⟨by rfl, ?_⟩) hHeld ?_
            · intro w' hSw
              have hw : Below W1.heap.size W1 w' := hSw
              have d0 := (hw.cell (p := ⟨bx, 0, none⟩) hbx).trans x0
              have d1 := (hw.cell (p := ⟨bx, 1, none⟩) hbx).trans x1
              have d2 := (hw.cell (p := ⟨bx, 2, none⟩) hbx).trans x2
              have d3 := (hw.cell (p := ⟨gM, k * 2, none⟩) hgM).trans y0
              have d4 := (hw.cell (p := ⟨gM, k * 2 + 1, none⟩) hgM).trans y1
              go_simp <;> omega
            try simp only [Act.put, List.setIfInBounds_toArray, List.set_cons_zero, List.set_cons_succ]
            refine wpAnyH_take (i := 36) (oi := { dst := some 197, op := Op.load _ (Operand.tmp 196), type := _, pos := "law.go:115", after := #[{ on := 35, ground := Ground.data }, { on := 22, ground := Ground.guard }], guard := some (22, true) }) (v := .int .i64 m.2) rfl (by kernel_rfl) (by kernel_rfl) (by kernel_rfl) (fun _ _ _ h => h) (Or.inl ⟨by rfl, ?_⟩) hHeld ?_
            · intro w' hSw
              have hw : Below W1.heap.size W1 w' := hSw
              have d0 := (hw.cell (p := ⟨bx, 0, none⟩) hbx).trans x0
              have d1 := (hw.cell (p := ⟨bx, 1, none⟩) hbx).trans x1
              have d2 := (hw.cell (p := ⟨bx, 2, none⟩) hbx).trans x2
              have d3 := (hw.cell (p := ⟨gM, k * 2, none⟩) hgM).trans y0
              have d4 := (hw.cell (p := ⟨gM, k * 2 + 1, none⟩) hgM).trans y1
              go_simp <;> omega
            try simp only [Act.put, List.setIfInBounds_toArray, List.set_cons_zero, List.set_cons_succ]
            refine wpAnyH_ready (rs := [30]) (by kernel_rfl) (by simp) ?_
            refine AllReadyH.cons (o := { dst := some 191, op := Op.call { callee := Callee.value (Operand.func _), args := #[Operand.tmp 184, Operand.tmp 190], argTypes := _ }, type := _, pos := "law.go:115", after := #[{ on := 23, ground := Ground.data }, { on := 29, ground := Ground.data }, { on := 22, ground := Ground.chain }, { on := 22, ground := Ground.guard }], guard := some (22, true) }) rfl (fun K hK => ?_) AllReadyH.nil
            go_simp
            go_at_call 11
            refine (HLn.out _ (hHeld : Below W1.heap.size W1 _) HLa.out).mono ?_
            rintro e w2 ⟨rfl, hb2⟩
            have hB2 : Below W1.heap.size W1 w2 := (show Below W1.heap.size W1 _ from hHeld).trans (hb2.mono (show Below W1.heap.size W1 _ from hHeld).size)
            clear hHeld
            refine hK.out _ _ hB2 (fun hHeld => ?_)
            clear hK K
            try simp only [Act.put, List.setIfInBounds_toArray, List.set_cons_zero, List.set_cons_succ]
            refine wpAnyH_take (i := 37) (oi := { dst := some 198, op := Op.binOp BinOp.neq _ (Operand.tmp 191) (Operand.tmp 197) _, type := _, pos := "law.go:115", after := #[{ on := 30, ground := Ground.data }, { on := 36, ground := Ground.data }, { on := 22, ground := Ground.guard }], guard := some (22, true) }) (v := .bool false) rfl (by kernel_rfl) (by kernel_rfl) (by kernel_rfl) (fun _ _ _ h => h) (Or.inl ⟨by rfl, ?_⟩) hHeld ?_
            · intro w' hSw
              have hw : Below W1.heap.size W1 w' := hSw
              have d0 := (hw.cell (p := ⟨bx, 0, none⟩) hbx).trans x0
              have d1 := (hw.cell (p := ⟨bx, 1, none⟩) hbx).trans x1
              have d2 := (hw.cell (p := ⟨bx, 2, none⟩) hbx).trans x2
              have d3 := (hw.cell (p := ⟨gM, k * 2, none⟩) hgM).trans y0
              have d4 := (hw.cell (p := ⟨gM, k * 2 + 1, none⟩) hgM).trans y1
              go_simp <;> omega
            try simp only [Act.put, List.setIfInBounds_toArray, List.set_cons_zero, List.set_cons_succ]
            refine wpAnyH_take (i := 38) (oi := { dst := some 199, op := Op.pick (Operand.tmp 183) (Operand.tmp 198) (Operand.const (Value.bool false)), type := _, pos := "law.go:115", after := #[{ on := 22, ground := Ground.data }, { on := 37, ground := Ground.data }], guard := none }) (v := .bool false) rfl (by kernel_rfl) (by kernel_rfl) (by kernel_rfl) (fun _ _ _ h => h) (Or.inl ⟨by rfl, ?_⟩) hHeld ?_
            · intro w' hSw
              have hw : Below W1.heap.size W1 w' := hSw
              have d0 := (hw.cell (p := ⟨bx, 0, none⟩) hbx).trans x0
              have d1 := (hw.cell (p := ⟨bx, 1, none⟩) hbx).trans x1
              have d2 := (hw.cell (p := ⟨bx, 2, none⟩) hbx).trans x2
              have d3 := (hw.cell (p := ⟨gM, k * 2, none⟩) hgM).trans y0
              have d4 := (hw.cell (p := ⟨gM, k * 2 + 1, none⟩) hgM).trans y1
              go_simp <;> omega
            try simp only [Act.put, List.setIfInBounds_toArray, List.set_cons_zero, List.set_cons_succ]
            refine wpAnyH_done (by kernel_rfl) ?_ _
            have hB4 : Below W1.heap.size W1 _ := hHeld
            clear hHeld
            go_wp2_with fail
            go_roundg (gk - 1)
            case measure => omega
            case rel => exact ⟨k + 1, by omega, by go_num, hB4⟩
          · have t2 : ((k : Int) == (S.marks.length : Int) - 1) = false := by simp; omega
            have i9 : (k : Int) + 1 < (S.marks.length : Int) := by omega
            have hk1 : k + 1 < S.marks.length := by omega
            obtain ⟨q, hv⟩ : ∃ q, S.marks[k + 1]? = some q := ⟨_, List.getElem?_eq_getElem hk1⟩
            obtain ⟨z0, z1⟩ := HC.out.1 (k + 1) q hv
            have hwk : IntKind.i64.wrap ((k : Int) + 1) = (k : Int) + 1 := IntWalk.i64_in _ ⟨by omega, by omega⟩
            by_cases hmo : m.1 < q.1
            · have HLa := Lib.hid (show ∀ q, S.marks[k + 1]? = some q → m.1 < q.1 from fun q hq => by rw [hv] at hq; cases hq; exact hmo)
              clear hv hla
              go_wp2_with fail
              refine wp_region_held_drew (S := fun w' => Below W1.heap.size W1 w') (by kernel_rfl) hB3d (fun hHeld => ?_)
              refine wpAnyH_take (i := 0) (oi := { dst := some 161, op := Op.move (Operand.tmp 9), type := _, pos := "law.go:115", after := #[], guard := none }) (v := .int .i64 (k : Int)) rfl (by kernel_rfl) (by kernel_rfl) (by kernel_rfl) (fun _ _ _ h => h) (Or.inl ⟨by rfl, ?_⟩) hHeld ?_
              · intro w' hSw
                have hw : Below W1.heap.size W1 w' := hSw
                have d0 := (hw.cell (p := ⟨bx, 0, none⟩) hbx).trans x0
                have d1 := (hw.cell (p := ⟨bx, 1, none⟩) hbx).trans x1
                have d2 := (hw.cell (p := ⟨bx, 2, none⟩) hbx).trans x2
                have d3 := (hw.cell (p := ⟨gM, k * 2, none⟩) hgM).trans y0
                have d4 := (hw.cell (p := ⟨gM, k * 2 + 1, none⟩) hgM).trans y1
                have d5 := (hw.cell (p := ⟨gM, (k + 1) * 2, none⟩) hgM).trans z0
                go_simp <;> omega
              try simp only [Act.put, List.setIfInBounds_toArray, List.set_cons_zero, List.set_cons_succ]
              refine wpAnyH_take (i := 1) (oi := { dst := some 162, op := Op.fieldAddr _ (Operand.tmp 3) 2, type := _, pos := "law.go:115", after := #[], guard := none }) (v := .pointer (some ⟨bx, 2, none⟩)) rfl (by kernel_rfl) (by kernel_rfl) (by kernel_rfl) (fun _ _ _ h => h) (Or.inl ⟨by rfl, ?_⟩) hHeld ?_
              · intro w' hSw
                have hw : Below W1.heap.size W1 w' := hSw
                have d0 := (hw.cell (p := ⟨bx, 0, none⟩) hbx).trans x0
                have d1 := (hw.cell (p := ⟨bx, 1, none⟩) hbx).trans x1
                have d2 := (hw.cell (p := ⟨bx, 2, none⟩) hbx).trans x2
                have d3 := (hw.cell (p := ⟨gM, k * 2, none⟩) hgM).trans y0
                have d4 := (hw.cell (p := ⟨gM, k * 2 + 1, none⟩) hgM).trans y1
                have d5 := (hw.cell (p := ⟨gM, (k + 1) * 2, none⟩) hgM).trans z0
                go_simp <;> omega
              try simp only [Act.put, List.setIfInBounds_toArray, List.set_cons_zero, List.set_cons_succ]
              refine wpAnyH_take (i := 2) (oi := { dst := some 163, op := Op.load _ (Operand.tmp 162), type := _, pos := "law.go:115", after := #[{ on := 1, ground := Ground.data }], guard := none }) (v := .slice (some ⟨gM, 0, none⟩) S.marks.length cM) rfl (by kernel_rfl) (by kernel_rfl) (by kernel_rfl) (fun _ _ _ h => h) (Or.inl ⟨by rfl, ?_⟩) hHeld ?_
              · intro w' hSw
                have hw : Below W1.heap.size W1 w' := hSw
                have d0 := (hw.cell (p := ⟨bx, 0, none⟩) hbx).trans x0
                have d1 := (hw.cell (p := ⟨bx, 1, none⟩) hbx).trans x1
                have d2 := (hw.cell (p := ⟨bx, 2, none⟩) hbx).trans x2
                have d3 := (hw.cell (p := ⟨gM, k * 2, none⟩) hgM).trans y0
                have d4 := (hw.cell (p := ⟨gM, k * 2 + 1, none⟩) hgM).trans y1
                have d5 := (hw.cell (p := ⟨gM, (k + 1) * 2, none⟩) hgM).trans z0
                go_simp <;> omega
              try simp only [Act.put, List.setIfInBounds_toArray, List.set_cons_zero, List.set_cons_succ]
              refine wpAnyH_take (i := 3) (oi := { dst := some 164, op := Op.call { callee := Callee.builtin Builtin.len, args := #[Operand.tmp 163], argTypes := _ }, type := _, pos := "law.go:115", after := #[{ on := 2, ground := Ground.data }], guard := none }) (v := .int .i64 (S.marks.length : Int)) rfl (by kernel_rfl) (by kernel_rfl) (by kernel_rfl) (fun _ _ _ h => h) (Or.inl ⟨by rfl, ?_⟩) hHeld ?_
              · intro w' hSw
                have hw : Below W1.heap.size W1 w' := hSw
                have d0 := (hw.cell (p := ⟨bx, 0, none⟩) hbx).trans x0
                have d1 := (hw.cell (p := ⟨bx, 1, none⟩) hbx).trans x1
                have d2 := (hw.cell (p := ⟨bx, 2, none⟩) hbx).trans x2
                have d3 := (hw.cell (p := ⟨gM, k * 2, none⟩) hgM).trans y0
                have d4 := (hw.cell (p := ⟨gM, k * 2 + 1, none⟩) hgM).trans y1
                have d5 := (hw.cell (p := ⟨gM, (k + 1) * 2, none⟩) hgM).trans z0
                go_simp <;> omega
              try simp only [Act.put, List.setIfInBounds_toArray, List.set_cons_zero, List.set_cons_succ]
              refine wpAnyH_take (i := 4) (oi := { dst := some 165, op := Op.binOp BinOp.sub _ (Operand.tmp 164) (Operand.const (Value.int IntKind.i64 1)) _, type := _, pos := "law.go:115", after := #[{ on := 3, ground := Ground.data }], guard := none }) (v := .int .i64 ((S.marks.length : Int) - 1)) rfl (by kernel_rfl) (by kernel_rfl) (by kernel_rfl) (fun _ _ _ h => h) (Or.inl ⟨by rfl, ?_⟩) hHeld ?_
              · intro w' hSw
                have hw : Below W1.heap.size W1 w' := hSw
                have d0 := (hw.cell (p := ⟨bx, 0, none⟩) hbx).trans x0
                have d1 := (hw.cell (p := ⟨bx, 1, none⟩) hbx).trans x1
                have d2 := (hw.cell (p := ⟨bx, 2, none⟩) hbx).trans x2
                have d3 := (hw.cell (p := ⟨gM, k * 2, none⟩) hgM).trans y0
                have d4 := (hw.cell (p := ⟨gM, k * 2 + 1, none⟩) hgM).trans y1
                have d5 := (hw.cell (p := ⟨gM, (k + 1) * 2, none⟩) hgM).trans z0
                go_simp <;> omega
              try simp only [Act.put, List.setIfInBounds_toArray, List.set_cons_zero, List.set_cons_succ]
              refine wpAnyH_take (i := 5) (oi := { dst := some 166, op := Op.binOp BinOp.eql _ (Operand.tmp 161) (Operand.tmp 165) _, type := _, pos := "law.go:115", after := #[{ on := 0, ground := Ground.data }, { on := 4, ground := Ground.data }], guard := none }) (v := .bool false) rfl (by kernel_rfl) (by kernel_rfl) (by kernel_rfl) (fun _ _ _ h => h) (Or.inl ⟨by rfl, ?_⟩) hHeld ?_
              · intro w' hSw
                have hw : Below W1.heap.size W1 w' := hSw
                have d0 := (hw.cell (p := ⟨bx, 0, none⟩) hbx).trans x0
                have d1 := (hw.cell (p := ⟨bx, 1, none⟩) hbx).trans x1
                have d2 := (hw.cell (p := ⟨bx, 2, none⟩) hbx).trans x2
                have d3 := (hw.cell (p := ⟨gM, k * 2, none⟩) hgM).trans y0
                have d4 := (hw.cell (p := ⟨gM, k * 2 + 1, none⟩) hgM).trans y1
                have d5 := (hw.cell (p := ⟨gM, (k + 1) * 2, none⟩) hgM).trans z0
                go_simp <;> omega
              try simp only [Act.put, List.setIfInBounds_toArray, List.set_cons_zero, List.set_cons_succ]
              refine wpAnyH_take (i := 6) (oi := { dst := some 167, op := Op.move (Operand.tmp 166), type := _, pos := "law.go:115", after := #[{ on := 5, ground := Ground.data }], guard := none }) (v := .bool false) rfl (by kernel_rfl) (by kernel_rfl) (by kernel_rfl) (fun _ _ _ h => h) (Or.inl ⟨by rfl, ?_⟩) hHeld ?_
              · intro w' hSw
                have hw : Below W1.heap.size W1 w' := hSw
                have d0 := (hw.cell (p := ⟨bx, 0, none⟩) hbx).trans x0
                have d1 := (hw.cell (p := ⟨bx, 1, none⟩) hbx).trans x1
                have d2 := (hw.cell (p := ⟨bx, 2, none⟩) hbx).trans x2
                have d3 := (hw.cell (p := ⟨gM, k * 2, none⟩) hgM).trans y0
                have d4 := (hw.cell (p := ⟨gM, k * 2 + 1, none⟩) hgM).trans y1
                have d5 := (hw.cell (p := ⟨gM, (k + 1) * 2, none⟩) hgM).trans z0
                go_simp <;> omega
              try simp only [Act.put, List.setIfInBounds_toArray, List.set_cons_zero, List.set_cons_succ]
              refine wpAnyH_take (i := 7) (oi := { dst := some 168, op := Op.fieldAddr _ (Operand.tmp 3) 2, type := _, pos := "law.go:115", after := #[{ on := 6, ground := Ground.guard }], guard := some (6, false) }) (v := .pointer (some ⟨bx, 2, none⟩)) rfl (by kernel_rfl) (by kernel_rfl) (by kernel_rfl) (fun _ _ _ h => h) (Or.inl ⟨by rfl, ?_⟩) hHeld ?_
              · intro w' hSw
                have hw : Below W1.heap.size W1 w' := hSw
                have d0 := (hw.cell (p := ⟨bx, 0, none⟩) hbx).trans x0
                have d1 := (hw.cell (p := ⟨bx, 1, none⟩) hbx).trans x1
                have d2 := (hw.cell (p := ⟨bx, 2, none⟩) hbx).trans x2
                have d3 := (hw.cell (p := ⟨gM, k * 2, none⟩) hgM).trans y0
                have d4 := (hw.cell (p := ⟨gM, k * 2 + 1, none⟩) hgM).trans y1
                have d5 := (hw.cell (p := ⟨gM, (k + 1) * 2, none⟩) hgM).trans z0
                go_simp <;> omega
              try simp only [Act.put, List.setIfInBounds_toArray, List.set_cons_zero, List.set_cons_succ]
              refine wpAnyH_take (i := 8) (oi := { dst := some 169, op := Op.load _ (Operand.tmp 168), type := _, pos := "law.go:115", after := #[{ on := 7, ground := Ground.data }, { on := 6, ground := Ground.guard }], guard := some (6, false) }) (v := .slice (some ⟨gM, 0, none⟩) S.marks.length cM) rfl (by kernel_rfl) (by kernel_rfl) (by kernel_rfl) (fun _ _ _ h => h) (Or.inl ⟨by rfl, ?_⟩) hHeld ?_
              · intro w' hSw
                have hw : Below W1.heap.size W1 w' := hSw
                have d0 := (hw.cell (p := ⟨bx, 0, none⟩) hbx).trans x0
                have d1 := (hw.cell (p := ⟨bx, 1, none⟩) hbx).trans x1
                have d2 := (hw.cell (p := ⟨bx, 2, none⟩) hbx).trans x2
                have d3 := (hw.cell (p := ⟨gM, k * 2, none⟩) hgM).trans y0
                have d4 := (hw.cell (p := ⟨gM, k * 2 + 1, none⟩) hgM).trans y1
                have d5 := (hw.cell (p := ⟨gM, (k + 1) * 2, none⟩) hgM).trans z0
                go_simp <;> omega
              try simp only [Act.put, List.setIfInBounds_toArray, List.set_cons_zero, List.set_cons_succ]
              refine wpAnyH_take (i := 9) (oi := { dst := some 170, op := Op.move (Operand.tmp 9), type := _, pos := "law.go:115", after := #[{ on := 6, ground := Ground.guard }], guard := some (6, false) }) (v := .int .i64 (k : Int)) rfl (by kernel_rfl) (by kernel_rfl) (by kernel_rfl) (fun _ _ _ h => h) (Or.inl ⟨by rfl, ?_⟩) hHeld ?_
              · intro w' hSw
                have hw : Below W1.heap.size W1 w' := hSw
                have d0 := (hw.cell (p := ⟨bx, 0, none⟩) hbx).trans x0
                have d1 := (hw.cell (p := ⟨bx, 1, none⟩) hbx).trans x1
                have d2 := (hw.cell (p := ⟨bx, 2, none⟩) hbx).trans x2
                have d3 := (hw.cell (p := ⟨gM, k * 2, none⟩) hgM).trans y0
                have d4 := (hw.cell (p := ⟨gM, k * 2 + 1, none⟩) hgM).trans y1
                have d5 := (hw.cell (p := ⟨gM, (k + 1) * 2, none⟩) hgM).trans z0
                go_simp <;> omega
              try simp only [Act.put, List.setIfInBounds_toArray, List.set_cons_zero, List.set_cons_succ]
              refine wpAnyH_take (i := 10) (oi := { dst := some 171, op := Op.binOp BinOp.add _ (Operand.tmp 170) (Operand.const (Value.int IntKind.i64 1)) _, type := _, pos := "law.go:115", after := #[{ on := 9, ground := Ground.data }, { on := 6, ground := Ground.guard }], guard := some (6, false) }) (v := .int .i64 ((k : Int) + 1)) rfl (by kernel_rfl) (by kernel_rfl) (by kernel_rfl) (fun _ _ _ h => h) (Or.inl ⟨by rfl, ?_⟩) hHeld ?_
              · intro w' hSw
                have hw : Below W1.heap.size W1 w' := hSw
                have d0 := (hw.cell (p := ⟨bx, 0, none⟩) hbx).trans x0
                have d1 := (hw.cell (p := ⟨bx, 1, none⟩) hbx).trans x1
                have d2 := (hw.cell (p := ⟨bx, 2, none⟩) hbx).trans x2
                have d3 := (hw.cell (p := ⟨gM, k * 2, none⟩) hgM).trans y0
                have d4 := (hw.cell (p := ⟨gM, k * 2 + 1, none⟩) hgM).trans y1
                have d5 := (hw.cell (p := ⟨gM, (k + 1) * 2, none⟩) hgM).trans z0
                go_simp <;> omega
              try simp only [Act.put, List.setIfInBounds_toArray, List.set_cons_zero, List.set_cons_succ]
              refine wpAnyH_take (i := 11) (oi := { dst := some 172, op := Op.indexAddr _ (Operand.tmp 169) (Operand.tmp 171), type := _, pos := "law.go:115", after := #[{ on := 8, ground := Ground.data }, { on := 10, ground := Ground.data }, { on := 6, ground := Ground.guard }], guard := some (6, false) }) (v := .pointer (some ⟨gM, (k + 1) * 2, none⟩)) rfl (by kernel_rfl) (by kernel_rfl) (by kernel_rfl) (fun _ _ _ h => h) (Or.inl ⟨by rfl, ?_⟩) hHeld ?_
              · intro w' hSw
                have hw : Below W1.heap.size W1 w' := hSw
                have d0 := (hw.cell (p := ⟨bx, 0, none⟩) hbx).trans x0
                have d1 := (hw.cell (p := ⟨bx, 1, none⟩) hbx).trans x1
                have d2 := (hw.cell (p := ⟨bx, 2, none⟩) hbx).trans x2
                have d3 := (hw.cell (p := ⟨gM, k * 2, none⟩) hgM).trans y0
                have d4 := (hw.cell (p := ⟨gM, k * 2 + 1, none⟩) hgM).trans y1
                have d5 := (hw.cell (p := ⟨gM, (k + 1) * 2, none⟩) hgM).trans z0
                go_simp <;> omega
              try simp only [Act.put, List.setIfInBounds_toArray, List.set_cons_zero, List.set_cons_succ]
              refine wpAnyH_take (i := 12) (oi := { dst := some 173, op := Op.fieldAddr _ (Operand.tmp 172) 0, type := _, pos := "law.go:115", after := #[{ on := 11, ground := Ground.data }, { on := 6, ground := Ground.guard }], guard := some (6, false) }) (v := .pointer (some ⟨gM, (k + 1) * 2, none⟩)) rfl (by kernel_rfl) (by kernel_rfl) (by kernel_rfl) (fun _ _ _ h => h) (Or.inl ⟨by rfl, ?_⟩) hHeld ?_
              · intro w' hSw
                have hw : Below W1.heap.size W1 w' := hSw
                have d0 := (hw.cell (p := ⟨bx, 0, none⟩) hbx).trans x0
                have d1 := (hw.cell (p := ⟨bx, 1, none⟩) hbx).trans x1
                have d2 := (hw.cell (p := ⟨bx, 2, none⟩) hbx).trans x2
                have d3 := (hw.cell (p := ⟨gM, k * 2, none⟩) hgM).trans y0
                have d4 := (hw.cell (p := ⟨gM, k * 2 + 1, none⟩) hgM).trans y1
                have d5 := (hw.cell (p := ⟨gM, (k + 1) * 2, none⟩) hgM).trans z0
                go_simp <;> omega
              try simp only [Act.put, List.setIfInBounds_toArray, List.set_cons_zero, List.set_cons_succ]
              refine wpAnyH_take (i := 13) (oi := { dst := some 174, op := Op.load _ (Operand.tmp 173), type := _, pos := "law.go:115", after := #[{ on := 12, ground := Ground.data }, { on := 6, ground := Ground.guard }], guard := some (6, false) }) (v := .int .i64 q.1) rfl (by kernel_rfl) (by kernel_rfl) (by kernel_rfl) (fun _ _ _ h => h) (Or.inl ⟨by rfl, ?_⟩) hHeld ?_
              · intro w' hSw
                have hw : Below W1.heap.size W1 w' := hSw
                have d0 := (hw.cell (p := ⟨bx, 0, none⟩) hbx).trans x0
                have d1 := (hw.cell (p := ⟨bx, 1, none⟩) hbx).trans x1
                have d2 := (hw.cell (p := ⟨bx, 2, none⟩) hbx).trans x2
                have d3 := (hw.cell (p := ⟨gM, k * 2, none⟩) hgM).trans y0
                have d4 := (hw.cell (p := ⟨gM, k * 2 + 1, none⟩) hgM).trans y1
                have d5 := (hw.cell (p := ⟨gM, (k + 1) * 2, none⟩) hgM).trans z0
                go_simp <;> omega
              try simp only [Act.put, List.setIfInBounds_toArray, List.set_cons_zero, List.set_cons_succ]
              refine wpAnyH_take (i := 14) (oi := { dst := some 175, op := Op.fieldAddr _ (Operand.tmp 3) 2, type := _, pos := "law.go:115", after := #[{ on := 6, ground := Ground.guard }], guard := some (6, false) }) (v := .pointer (some ⟨bx, 2, none⟩)) rfl (by kernel_rfl) (by kernel_rfl) (by kernel_rfl) (fun _ _ _ h => h) (Or.inl ⟨by rfl, ?_⟩) hHeld ?_
              · intro w' hSw
                have hw : Below W1.heap.size W1 w' := hSw
                have d0 := (hw.cell (p := ⟨bx, 0, none⟩) hbx).trans x0
                have d1 := (hw.cell (p := ⟨bx, 1, none⟩) hbx).trans x1
                have d2 := (hw.cell (p := ⟨bx, 2, none⟩) hbx).trans x2
                have d3 := (hw.cell (p := ⟨gM, k * 2, none⟩) hgM).trans y0
                have d4 := (hw.cell (p := ⟨gM, k * 2 + 1, none⟩) hgM).trans y1
                have d5 := (hw.cell (p := ⟨gM, (k + 1) * 2, none⟩) hgM).trans z0
                go_simp <;> omega
              try simp only [Act.put, List.setIfInBounds_toArray, List.set_cons_zero, List.set_cons_succ]
              refine wpAnyH_take (i := 15) (oi := { dst := some 176, op := Op.load _ (Operand.tmp 175), type := _, pos := "law.go:115", after := #[{ on := 14, ground := Ground.data }, { on := 6, ground := Ground.guard }], guard := some (6, false) }) (v := .slice (some ⟨gM, 0, none⟩) S.marks.length cM) rfl (by kernel_rfl) (by kernel_rfl) (by kernel_rfl) (fun _ _ _ h => h) (Or.inl ⟨by rfl, ?_⟩) hHeld ?_
              · intro w' hSw
                have hw : Below W1.heap.size W1 w' := hSw
                have d0 := (hw.cell (p := ⟨bx, 0, none⟩) hbx).trans x0
                have d1 := (hw.cell (p := ⟨bx, 1, none⟩) hbx).trans x1
                have d2 := (hw.cell (p := ⟨bx, 2, none⟩) hbx).trans x2
                have d3 := (hw.cell (p := ⟨gM, k * 2, none⟩) hgM).trans y0
                have d4 := (hw.cell (p := ⟨gM, k * 2 + 1, none⟩) hgM).trans y1
                have d5 := (hw.cell (p := ⟨gM, (k + 1) * 2, none⟩) hgM).trans z0
                go_simp <;> omega
              try simp only [Act.put, List.setIfInBounds_toArray, List.set_cons_zero, List.set_cons_succ]
              refine wpAnyH_take (i := 16) (oi := { dst := some 177, op := Op.move (Operand.tmp 9), type := _, pos := "law.go:115", after := #[{ on := 6, ground := Ground.guard }], guard := some (6, false) }) (v := .int .i64 (k : Int)) rfl (by kernel_rfl) (by kernel_rfl) (by kernel_rfl) (fun _ _ _ h => h) (Or.inl ⟨by rfl, ?_⟩) hHeld ?_
              · intro w' hSw
                have hw : Below W1.heap.size W1 w' := hSw
                have d0 := (hw.cell (p := ⟨bx, 0, none⟩) hbx).trans x0
                have d1 := (hw.cell (p := ⟨bx, 1, none⟩) hbx).trans x1
                have d2 := (hw.cell (p := ⟨bx, 2, none⟩) hbx).trans x2
                have d3 := (hw.cell (p := ⟨gM, k * 2, none⟩) hgM).trans y0
                have d4 := (hw.cell (p := ⟨gM, k * 2 + 1, none⟩) hgM).trans y1
                have d5 := (hw.cell (p := ⟨gM, (k + 1) * 2, none⟩) hgM).trans z0
                go_simp <;> omega
              try simp only [Act.put, List.setIfInBounds_toArray, List.set_cons_zero, List.set_cons_succ]
              refine wpAnyH_take (i := 17) (oi := { dst := some 178, op := Op.indexAddr _ (Operand.tmp 176) (Operand.tmp 177), type := _, pos := "law.go:115", after := #[{ on := 15, ground := Ground.data }, { on := 16, ground := Ground.data }, { on := 6, ground := Ground.guard }], guard := some (6, false) }) (v := .pointer (some ⟨gM, k * 2, none⟩)) rfl (by kernel_rfl) (by kernel_rfl) (by kernel_rfl) (fun _ _ _ h => h) (Or.inl ⟨by rfl, ?_⟩) hHeld ?_
              · intro w' hSw
                have hw : Below W1.heap.size W1 w' := hSw
                have d0 := (hw.cell (p := ⟨bx, 0, none⟩) hbx).trans x0
                have d1 := (hw.cell (p := ⟨bx, 1, none⟩) hbx).trans x1
                have d2 := (hw.cell (p := ⟨bx, 2, none⟩) hbx).trans x2
                have d3 := (hw.cell (p := ⟨gM, k * 2, none⟩) hgM).trans y0
                have d4 := (hw.cell (p := ⟨gM, k * 2 + 1, none⟩) hgM).trans y1
                have d5 := (hw.cell (p := ⟨gM, (k + 1) * 2, none⟩) hgM).trans z0
                go_simp <;> omega
              try simp only [Act.put, List.setIfInBounds_toArray, List.set_cons_zero, List.set_cons_succ]
              refine wpAnyH_take (i := 18) (oi := { dst := some 179, op := Op.fieldAddr _ (Operand.tmp 178) 0, type := _, pos := "law.go:115", after := #[{ on := 17, ground := Ground.data }, { on := 6, ground := Ground.guard }], guard := some (6, false) }) (v := .pointer (some ⟨gM, k * 2, none⟩)) rfl (by kernel_rfl) (by kernel_rfl) (by kernel_rfl) (fun _ _ _ h => h) (Or.inl ⟨by rfl, ?_⟩) hHeld ?_
              · intro w' hSw
                have hw : Below W1.heap.size W1 w' := hSw
                have d0 := (hw.cell (p := ⟨bx, 0, none⟩) hbx).trans x0
                have d1 := (hw.cell (p := ⟨bx, 1, none⟩) hbx).trans x1
                have d2 := (hw.cell (p := ⟨bx, 2, none⟩) hbx).trans x2
                have d3 := (hw.cell (p := ⟨gM, k * 2, none⟩) hgM).trans y0
                have d4 := (hw.cell (p := ⟨gM, k * 2 + 1, none⟩) hgM).trans y1
                have d5 := (hw.cell (p := ⟨gM, (k + 1) * 2, none⟩) hgM).trans z0
                go_simp <;> omega
              try simp only [Act.put, List.setIfInBounds_toArray, List.set_cons_zero, List.set_cons_succ]
              refine wpAnyH_take (i := 19) (oi := { dst := some 180, op := Op.load _ (Operand.tmp 179), type := _, pos := "law.go:115", after := #[{ on := 18, ground := Ground.data }, { on := 6, ground := Ground.guard }], guard := some (6, false) }) (v := .int .i64 m.1) rfl (by kernel_rfl) (by kernel_rfl) (by kernel_rfl) (fun _ _ _ h => h) (Or.inl ⟨by rfl, ?_⟩) hHeld ?_
              · intro w' hSw
                have hw : Below W1.heap.size W1 w' := hSw
                have d0 := (hw.cell (p := ⟨bx, 0, none⟩) hbx).trans x0
                have d1 := (hw.cell (p := ⟨bx, 1, none⟩) hbx).trans x1
                have d2 := (hw.cell (p := ⟨bx, 2, none⟩) hbx).trans x2
                have d3 := (hw.cell (p := ⟨gM, k * 2, none⟩) hgM).trans y0
                have d4 := (hw.cell (p := ⟨gM, k * 2 + 1, none⟩) hgM).trans y1
                have d5 := (hw.cell (p := ⟨gM, (k + 1) * 2, none⟩) hgM).trans z0
                go_simp <;> omega
              try simp only [Act.put, List.setIfInBounds_toArray, List.set_cons_zero, List.set_cons_succ]
              refine wpAnyH_take (i := 20) (oi := { dst := some 181, op := Op.binOp BinOp.gtr _ (Operand.tmp 174) (Operand.tmp 180) _, type := _, pos := "law.go:115", after := #[{ on := 13, ground := Ground.data }, { on := 19, ground := Ground.data }, { on := 6, ground := Ground.guard }], guard := some (6, false) }) (v := .bool true) rfl (by kernel_rfl) (by kernel_rfl) (by kernel_rfl) (fun _ _ _ h => h) (Or.inl ⟨by rfl, ?_⟩) hHeld ?_
              · intro w' hSw
                have hw : Below W1.heap.size W1 w' := hSw
                have d0 := (hw.cell (p := ⟨bx, 0, none⟩) hbx).trans x0
                have d1 := (hw.cell (p := ⟨bx, 1, none⟩) hbx).trans x1
                have d2 := (hw.cell (p := ⟨bx, 2, none⟩) hbx).trans x2
                have d3 := (hw.cell (p := ⟨gM, k * 2, none⟩) hgM).trans y0
                have d4 := (hw.cell (p := ⟨gM, k * 2 + 1, none⟩) hgM).trans y1
                have d5 := (hw.cell (p := ⟨gM, (k + 1) * 2, none⟩) hgM).trans z0
                go_simp <;> omega
              try simp only [Act.put, List.setIfInBounds_toArray, List.set_cons_zero, List.set_cons_succ]
              refine wpAnyH_take (i := 21) (oi := { dst := some 182, op := Op.pick (Operand.tmp 167) (Operand.const (Value.bool true)) (Operand.tmp 181), type := _, pos := "law.go:115", after := #[{ on := 6, ground := Ground.data }, { on := 20, ground := Ground.data }], guard := none }) (v := .bool true) rfl (by kernel_rfl) (by kernel_rfl) (by kernel_rfl) (fun _ _ _ h => h) (Or.inl ⟨by rfl, ?_⟩) hHeld ?_
              · intro w' hSw
                have hw : Below W1.heap.size W1 w' := hSw
                have d0 := (hw.cell (p := ⟨bx, 0, none⟩) hbx).trans x0
                have d1 := (hw.cell (p := ⟨bx, 1, none⟩) hbx).trans x1
                have d2 := (hw.cell (p := ⟨bx, 2, none⟩) hbx).trans x2
                have d3 := (hw.cell (p := ⟨gM, k * 2, none⟩) hgM).trans y0
                have d4 := (hw.cell (p := ⟨gM, k * 2 + 1, none⟩) hgM).trans y1
                have d5 := (hw.cell (p := ⟨gM, (k + 1) * 2, none⟩) hgM).trans z0
                go_simp <;> omega
              try simp only [Act.put, List.setIfInBounds_toArray, List.set_cons_zero, List.set_cons_succ]
              refine wpAnyH_take (i := 22) (oi := { dst := some 183, op := Op.move (Operand.tmp 182), type := _, pos := "law.go:115", after := #[{ on := 21, ground := Ground.data }, { on := 6, ground := Ground.chain }], guard := none }) (v := .bool true) rfl (by kernel_rfl) (by kernel_rfl) (by kernel_rfl) (fun _ _ _ h => h) (Or.inl ⟨by rfl, ?_⟩) hHeld ?_
              · intro w' hSw
                have hw : Below W1.heap.size W1 w' := hSw
                have d0 := (hw.cell (p := ⟨bx, 0, none⟩) hbx).trans x0
                have d1 := (hw.cell (p := ⟨bx, 1, none⟩) hbx).trans x1
                have d2 := (hw.cell (p := ⟨bx, 2, none⟩) hbx).trans x2
                have d3 := (hw.cell (p := ⟨gM, k * 2, none⟩) hgM).trans y0
                have d4 := (hw.cell (p := ⟨gM, k * 2 + 1, none⟩) hgM).trans y1
                have d5 := (hw.cell (p := ⟨gM, (k + 1) * 2, none⟩) hgM).trans z0
                go_simp <;> omega
              try simp only [Act.put, List.setIfInBounds_toArray, List.set_cons_zero, List.set_cons_succ]
              refine wpAnyH_take (i := 23) (oi := { dst := some 184, op := Op.load _ (Operand.tmp 3), type := _, pos := "law.go:115", after := #[{ on := 22, ground := Ground.guard }], guard := some (22, true) }) (v := .agg #[.slice aB S.bytes.length cB, .slice aL S.labels.length cL, .slice (some ⟨gM, 0, none⟩) S.marks.length cM]) rfl (by kernel_rfl) (by kernel_rfl) (by kernel_rfl) (fun _ _ _ h => h) (Or.inl ⟨by rfl, ?_⟩) hHeld ?_
              · intro w' hSw
                have hw : Below W1.heap.size W1 w' := hSw
                have d0 := (hw.cell (p := ⟨bx, 0, none⟩) hbx).trans x0
                have d1 := (hw.cell (p := ⟨bx, 1, none⟩) hbx).trans x1
                have d2 := (hw.cell (p := ⟨bx, 2, none⟩) hbx).trans x2
                have d3 := (hw.cell (p := ⟨gM, k * 2, none⟩) hgM).trans y0
                have d4 := (hw.cell (p := ⟨gM, k * 2 + 1, none⟩) hgM).trans y1
                have d5 := (hw.cell (p := ⟨gM, (k + 1) * 2, none⟩) hgM).trans z0
                go_simp <;> omega
              try simp only [Act.put, List.setIfInBounds_toArray, List.set_cons_zero, List.set_cons_succ]
              refine wpAnyH_take (i := 24) (oi := { dst := some 185, op := Op.fieldAddr _ (Operand.tmp 3) 2, type := _, pos := "law.go:115", after := #[{ on := 22, ground := Ground.guard }], guard := some (22, true) }) (v := .pointer (some ⟨bx, 2, none⟩)) rfl (by kernel_rfl) (by kernel_rfl) (by kernel_rfl) (fun _ _ _ h => h) (Or.inl ⟨by rfl, ?_⟩) hHeld ?_
              · intro w' hSw
                have hw : Below W1.heap.size W1 w' := hSw
                have d0 := (hw.cell (p := ⟨bx, 0, none⟩) hbx).trans x0
                have d1 := (hw.cell (p := ⟨bx, 1, none⟩) hbx).trans x1
                have d2 := (hw.cell (p := ⟨bx, 2, none⟩) hbx).trans x2
                have d3 := (hw.cell (p := ⟨gM, k * 2, none⟩) hgM).trans y0
                have d4 := (hw.cell (p := ⟨gM, k * 2 + 1, none⟩) hgM).trans y1
                have d5 := (hw.cell (p := ⟨gM, (k + 1) * 2, none⟩) hgM).trans z0
                go_simp <;> omega
              try simp only [Act.put, List.setIfInBounds_toArray, List.set_cons_zero, List.set_cons_succ]
              refine wpAnyH_take (i := 25) (oi := { dst := some 186, op := Op.load _ (Operand.tmp 185), type := _, pos := "law.go:115", after := #[{ on := 24, ground := Ground.data }, { on := 22, ground := Ground.guard }], guard := some (22, true) }) (v := .slice (some ⟨gM, 0, none⟩) S.marks.length cM) rfl (by kernel_rfl) (by kernel_rfl) (by kernel_rfl) (fun _ _ _ h => h) (Or.inl ⟨by rfl, ?_⟩) hHeld ?_
              · intro w' hSw
                have hw : Below W1.heap.size W1 w' := hSw
                have d0 := (hw.cell (p := ⟨bx, 0, none⟩) hbx).trans x0
                have d1 := (hw.cell (p := ⟨bx, 1, none⟩) hbx).trans x1
                have d2 := (hw.cell (p := ⟨bx, 2, none⟩) hbx).trans x2
                have d3 := (hw.cell (p := ⟨gM, k * 2, none⟩) hgM).trans y0
                have d4 := (hw.cell (p := ⟨gM, k * 2 + 1, none⟩) hgM).trans y1
                have d5 := (hw.cell (p := ⟨gM, (k + 1) * 2, none⟩) hgM).trans z0
                go_simp <;> omega
              try simp only [Act.put, List.setIfInBounds_toArray, List.set_cons_zero, List.set_cons_succ]
              refine wpAnyH_take (i := 26) (oi := { dst := some 187, op := Op.move (Operand.tmp 9), type := _, pos := "law.go:115", after := #[{ on := 22, ground := Ground.guard }], guard := some (22, true) }) (v := .int .i64 (k : Int)) rfl (by kernel_rfl) (by kernel_rfl) (by kernel_rfl) (fun _ _ _ h => h) (Or.inl ⟨by rfl, ?_⟩) hHeld ?_
              · intro w' hSw
                have hw : Below W1.heap.size W1 w' := hSw
                have d0 := (hw.cell (p := ⟨bx, 0, none⟩) hbx).trans x0
                have d1 := (hw.cell (p := ⟨bx, 1, none⟩) hbx).trans x1
                have d2 := (hw.cell (p := ⟨bx, 2, none⟩) hbx).trans x2
                have d3 := (hw.cell (p := ⟨gM, k * 2, none⟩) hgM).trans y0
                have d4 := (hw.cell (p := ⟨gM, k * 2 + 1, none⟩) hgM).trans y1
                have d5 := (hw.cell (p := ⟨gM, (k + 1) * 2, none⟩) hgM).trans z0
                go_simp <;> omega
              try simp only [Act.put, List.setIfInBounds_toArray, List.set_cons_zero, List.set_cons_succ]
              refine wpAnyH_take (i := 27) (oi := { dst := some 188, op := Op.indexAddr _ (Operand.tmp 186) (Operand.tmp 187), type := _, pos := "law.go:115", after := #[{ on := 25, ground := Ground.data }, { on := 26, ground := Ground.data }, { on := 22, ground := Ground.guard }], guard := some (22, true) }) (v := .pointer (some ⟨gM, k * 2, none⟩)) rfl (by kernel_rfl) (by kernel_rfl) (by kernel_rfl) (fun _ _ _ h => h) (Or.inl ⟨by rfl, ?_⟩) hHeld ?_
              · intro w' hSw
                have hw : Below W1.heap.size W1 w' := hSw
                have d0 := (hw.cell (p := ⟨bx, 0, none⟩) hbx).trans x0
                have d1 := (hw.cell (p := ⟨bx, 1, none⟩) hbx).trans x1
                have d2 := (hw.cell (p := ⟨bx, 2, none⟩) hbx).trans x2
                have d3 := (hw.cell (p := ⟨gM, k * 2, none⟩) hgM).trans y0
                have d4 := (hw.cell (p := ⟨gM, k * 2 + 1, none⟩) hgM).trans y1
                have d5 := (hw.cell (p := ⟨gM, (k + 1) * 2, none⟩) hgM).trans z0
                go_simp <;> omega
              try simp only [Act.put, List.setIfInBounds_toArray, List.set_cons_zero, List.set_cons_succ]
              refine wpAnyH_take (i := 28) (oi := { dst := some 189, op := Op.fieldAddr _ (Operand.tmp 188) 0, type := _, pos := "law.go:115", after := #[{ on := 27, ground := Ground.data }, { on := 22, ground := Ground.guard }], guard := some (22, true) }) (v := .pointer (some ⟨gM, k * 2, none⟩)) rfl (by kernel_rfl) (by kernel_rfl) (by kernel_rfl) (fun _ _ _ h => h) (Or.inl ⟨by rfl, ?_⟩) hHeld ?_
              · intro w' hSw
                have hw : Below W1.heap.size W1 w' := hSw
                have d0 := (hw.cell (p := ⟨bx, 0, none⟩) hbx).trans x0
                have d1 := (hw.cell (p := ⟨bx, 1, none⟩) hbx).trans x1
                have d2 := (hw.cell (p := ⟨bx, 2, none⟩) hbx).trans x2
                have d3 := (hw.cell (p := ⟨gM, k * 2, none⟩) hgM).trans y0
                have d4 := (hw.cell (p := ⟨gM, k * 2 + 1, none⟩) hgM).trans y1
                have d5 := (hw.cell (p := ⟨gM, (k + 1) * 2, none⟩) hgM).trans z0
                go_simp <;> omega
              try simp only [Act.put, List.setIfInBounds_toArray, List.set_cons_zero, List.set_cons_succ]
              refine wpAnyH_take (i := 29) (oi := { dst := some 190, op := Op.load _ (Operand.tmp 189), type := _, pos := "law.go:115", after := #[{ on := 28, ground := Ground.data }, { on := 22, ground := Ground.guard }], guard := some (22, true) }) (v := .int .i64 m.1) rfl (by kernel_rfl) (by kernel_rfl) (by kernel_rfl) (fun _ _ _ h => h) (Or.inl ⟨by rfl, ?_⟩) hHeld ?_
              · intro w' hSw
                have hw : Below W1.heap.size W1 w' := hSw
                have d0 := (hw.cell (p := ⟨bx, 0, none⟩) hbx).trans x0
                have d1 := (hw.cell (p := ⟨bx, 1, none⟩) hbx).trans x1
                have d2 := (hw.cell (p := ⟨bx, 2, none⟩) hbx).trans x2
                have d3 := (hw.cell (p := ⟨gM, k * 2, none⟩) hgM).trans y0
                have d4 := (hw.cell (p := ⟨gM, k * 2 + 1, none⟩) hgM).trans y1
                have d5 := (hw.cell (p := ⟨gM, (k + 1) * 2, none⟩) hgM).trans z0
                go_simp <;> omega
              try simp only [Act.put, List.setIfInBounds_toArray, List.set_cons_zero, List.set_cons_succ]
              refine wpAnyH_take (i := 31) (oi := { dst := some 192, op := Op.fieldAddr _ (Operand.tmp 3) 2, type := _, pos := "law.go:115", after := #[{ on := 22, ground := Ground.guard }], guard := some (22, true) }) (v := .pointer (some ⟨bx, 2, none⟩)) rfl (by kernel_rfl) (by kernel_rfl) (by kernel_rfl) (fun _ _ _ h => h) (Or.inl ⟨by rfl, ?_⟩) hHeld ?_
              · intro w' hSw
                have hw : Below W1.heap.size W1 w' := hSw
                have d0 := (hw.cell (p := ⟨bx, 0, none⟩) hbx).trans x0
                have d1 := (hw.cell (p := ⟨bx, 1, none⟩) hbx).trans x1
                have d2 := (hw.cell (p := ⟨bx, 2, none⟩) hbx).trans x2
                have d3 := (hw.cell (p := ⟨gM, k * 2, none⟩) hgM).trans y0
                have d4 := (hw.cell (p := ⟨gM, k * 2 + 1, none⟩) hgM).trans y1
                have d5 := (hw.cell (p := ⟨gM, (k + 1) * 2, none⟩) hgM).trans z0
                go_simp <;> omega
              try simp only [Act.put, List.setIfInBounds_toArray, List.set_cons_zero, List.set_cons_succ]
              refine wpAnyH_take (i := 32) (oi := { dst := some 193, op := Op.load _ (Operand.tmp 192), type := _, pos := "law.go:115", after := #[{ on := 31, ground := Ground.data }, { on := 22, ground := Ground.guard }], guard := some (22, true) }) (v := .slice (some ⟨gM, 0, none⟩) S.marks.length cM) rfl (by kernel_rfl) (by kernel_rfl) (by kernel_rfl) (fun _ _ _ h => h) (Or.inl ⟨by rfl, ?_⟩) hHeld ?_
              · intro w' hSw
                have hw : Below W1.heap.size W1 w' := hSw
                have d0 := (hw.cell (p := ⟨bx, 0, none⟩) hbx).trans x0
                have d1 := (hw.cell (p := ⟨bx, 1, none⟩) hbx).trans x1
                have d2 := (hw.cell (p := ⟨bx, 2, none⟩) hbx).trans x2
                have d3 := (hw.cell (p := ⟨gM, k * 2, none⟩) hgM).trans y0
                have d4 := (hw.cell (p := ⟨gM, k * 2 + 1, none⟩) hgM).trans y1
                have d5 := (hw.cell (p := ⟨gM, (k + 1) * 2, none⟩) hgM).trans z0
                go_simp <;> omega
              try simp only [Act.put, List.setIfInBounds_toArray, List.set_cons_zero, List.set_cons_succ]
              refine wpAnyH_take (i := 33) (oi := { dst := some 194, op := Op.move (Operand.tmp 9), type := _, pos := "law.go:115", after := #[{ on := 22, ground := Ground.guard }], guard := some (22, true) }) (v := .int .i64 (k : Int)) rfl (by kernel_rfl) (by kernel_rfl) (by kernel_rfl) (fun _ _ _ h => h) (Or.inl ⟨by rfl, ?_⟩) hHeld ?_
              · intro w' hSw
                have hw : Below W1.heap.size W1 w' := hSw
                have d0 := (hw.cell (p := ⟨bx, 0, none⟩) hbx).trans x0
                have d1 := (hw.cell (p := ⟨bx, 1, none⟩) hbx).trans x1
                have d2 := (hw.cell (p := ⟨bx, 2, none⟩) hbx).trans x2
                have d3 := (hw.cell (p := ⟨gM, k * 2, none⟩) hgM).trans y0
                have d4 := (hw.cell (p := ⟨gM, k * 2 + 1, none⟩) hgM).trans y1
                have d5 := (hw.cell (p := ⟨gM, (k + 1) * 2, none⟩) hgM).trans z0
                go_simp <;> omega
              try simp only [Act.put, List.setIfInBounds_toArray, List.set_cons_zero, List.set_cons_succ]
              refine wpAnyH_take (i := 34) (oi := { dst := some 195, op := Op.indexAddr _ (Operand.tmp 193) (Operand.tmp 194), type := _, pos := "law.go:115", after := #[{ on := 32, ground := Ground.data }, { on := 33, ground := Ground.data }, { on := 22, ground := Ground.guard }], guard := some (22, true) }) (v := .pointer (some ⟨gM, k * 2, none⟩)) rfl (by kernel_rfl) (by kernel_rfl) (by kernel_rfl) (fun _ _ _ h => h) (Or.inl ⟨by rfl, ?_⟩) hHeld ?_
              · intro w' hSw
                have hw : Below W1.heap.size W1 w' := hSw
                have d0 := (hw.cell (p := ⟨bx, 0, none⟩) hbx).trans x0
                have d1 := (hw.cell (p := ⟨bx, 1, none⟩) hbx).trans x1
                have d2 := (hw.cell (p := ⟨bx, 2, none⟩) hbx).trans x2
                have d3 := (hw.cell (p := ⟨gM, k * 2, none⟩) hgM).trans y0
                have d4 := (hw.cell (p := ⟨gM, k * 2 + 1, none⟩) hgM).trans y1
                have d5 := (hw.cell (p := ⟨gM, (k + 1) * 2, none⟩) hgM).trans z0
                go_simp <;> omega
              try simp only [Act.put, List.setIfInBounds_toArray, List.set_cons_zero, List.set_cons_succ]
              refine wpAnyH_take (i := 35) (oi := { dst := some 196, op := Op.fieldAddr _ (Operand.tmp 195) 1, type := _, pos := "law.go:115", after := #[{ on := 34, ground := Ground.data }, { on := 22, ground := Ground.guard }], guard := some (22, true) }) (v := .pointer (some ⟨gM, k * 2 + 1, none⟩)) rfl (by kernel_rfl) (by kernel_rfl) (by kernel_rfl) (fun _ _ _ h => h) (Or.inl ⟨by rfl, ?_⟩) hHeld ?_
              · intro w' hSw
                have hw : Below W1.heap.size W1 w' := hSw
                have d0 := (hw.cell (p := ⟨bx, 0, none⟩) hbx).trans x0
                have d1 := (hw.cell (p := ⟨bx, 1, none⟩) hbx).trans x1
                have d2 := (hw.cell (p := ⟨bx, 2, none⟩) hbx).trans x2
                have d3 := (hw.cell (p := ⟨gM, k * 2, none⟩) hgM).trans y0
                have d4 := (hw.cell (p := ⟨gM, k * 2 + 1, none⟩) hgM).trans y1
                have d5 := (hw.cell (p := ⟨gM, (k + 1) * 2, none⟩) hgM).trans z0
                go_simp <;> omega
              try simp only [Act.put, List.setIfInBounds_toArray, List.set_cons_zero, List.set_cons_succ]
              refine wpAnyH_take (i := 36) (oi := { dst := some 197, op := Op.load _ (Operand.tmp 196), type := _, pos := "law.go:115", after := #[{ on := 35, ground := Ground.data }, { on := 22, ground := Ground.guard }], guard := some (22, true) }) (v := .int .i64 m.2) rfl (by kernel_rfl) (by kernel_rfl) (by kernel_rfl) (fun _ _ _ h => h) (Or.inl ⟨by rfl, ?_⟩) hHeld ?_
              · intro w' hSw
                have hw : Below W1.heap.size W1 w' := hSw
                have d0 := (hw.cell (p := ⟨bx, 0, none⟩) hbx).trans x0
                have d1 := (hw.cell (p := ⟨bx, 1, none⟩) hbx).trans x1
                have d2 := (hw.cell (p := ⟨bx, 2, none⟩) hbx).trans x2
                have d3 := (hw.cell (p := ⟨gM, k * 2, none⟩) hgM).trans y0
                have d4 := (hw.cell (p := ⟨gM, k * 2 + 1, none⟩) hgM).trans y1
                have d5 := (hw.cell (p := ⟨gM, (k + 1) * 2, none⟩) hgM).trans z0
                go_simp <;> omega
              try simp only [Act.put, List.setIfInBounds_toArray, List.set_cons_zero, List.set_cons_succ]
              refine wpAnyH_ready (rs := [30]) (by kernel_rfl) (by simp) ?_
              refine AllReadyH.cons (o := { dst := some 191, op := Op.call { callee := Callee.value (Operand.func _), args := #[Operand.tmp 184, Operand.tmp 190], argTypes := _ }, type := _, pos := "law.go:115", after := #[{ on := 23, ground := Ground.data }, { on := 29, ground := Ground.data }, { on := 22, ground := Ground.chain }, { on := 22, ground := Ground.guard }], guard := some (22, true) }) rfl (fun K hK => ?_) AllReadyH.nil
              go_simp
              go_at_call 11
              refine (HLn.out _ (hHeld : Below W1.heap.size W1 _) HLa.out).mono ?_
              rintro e w2 ⟨rfl, hb2⟩
              have hB2 : Below W1.heap.size W1 w2 := (show Below W1.heap.size W1 _ from hHeld).trans (hb2.mono (show Below W1.heap.size W1 _ from hHeld).size)
              clear hHeld
              refine hK.out _ _ hB2 (fun hHeld => ?_)
              clear hK K
              try simp only [Act.put, List.setIfInBounds_toArray, List.set_cons_zero, List.set_cons_succ]
              refine wpAnyH_take (i := 37) (oi := { dst := some 198, op := Op.binOp BinOp.neq _ (Operand.tmp 191) (Operand.tmp 197) _, type := _, pos := "law.go:115", after := #[{ on := 30, ground := Ground.data }, { on := 36, ground := Ground.data }, { on := 22, ground := Ground.guard }], guard := some (22, true) }) (v := .bool false) rfl (by kernel_rfl) (by kernel_rfl) (by kernel_rfl) (fun _ _ _ h => h) (Or.inl ⟨by rfl, ?_⟩) hHeld ?_
              · intro w' hSw
                have hw : Below W1.heap.size W1 w' := hSw
                have d0 := (hw.cell (p := ⟨bx, 0, none⟩) hbx).trans x0
                have d1 := (hw.cell (p := ⟨bx, 1, none⟩) hbx).trans x1
                have d2 := (hw.cell (p := ⟨bx, 2, none⟩) hbx).trans x2
                have d3 := (hw.cell (p := ⟨gM, k * 2, none⟩) hgM).trans y0
                have d4 := (hw.cell (p := ⟨gM, k * 2 + 1, none⟩) hgM).trans y1
                have d5 := (hw.cell (p := ⟨gM, (k + 1) * 2, none⟩) hgM).trans z0
                go_simp <;> omega
              try simp only [Act.put, List.setIfInBounds_toArray, List.set_cons_zero, List.set_cons_succ]
              refine wpAnyH_take (i := 38) (oi := { dst := some 199, op := Op.pick (Operand.tmp 183) (Operand.tmp 198) (Operand.const (Value.bool false)), type := _, pos := "law.go:115", after := #[{ on := 22, ground := Ground.data }, { on := 37, ground := Ground.data }], guard := none }) (v := .bool false) rfl (by kernel_rfl) (by kernel_rfl) (by kernel_rfl) (fun _ _ _ h => h) (Or.inl ⟨by rfl, ?_⟩) hHeld ?_
              · intro w' hSw
                have hw : Below W1.heap.size W1 w' := hSw
                have d0 := (hw.cell (p := ⟨bx, 0, none⟩) hbx).trans x0
                have d1 := (hw.cell (p := ⟨bx, 1, none⟩) hbx).trans x1
                have d2 := (hw.cell (p := ⟨bx, 2, none⟩) hbx).trans x2
                have d3 := (hw.cell (p := ⟨gM, k * 2, none⟩) hgM).trans y0
                have d4 := (hw.cell (p := ⟨gM, k * 2 + 1, none⟩) hgM).trans y1
                have d5 := (hw.cell (p := ⟨gM, (k + 1) * 2, none⟩) hgM).trans z0
                go_simp <;> omega
              try simp only [Act.put, List.setIfInBounds_toArray, List.set_cons_zero, List.set_cons_succ]
              refine wpAnyH_done (by kernel_rfl) ?_ _
              have hB4 : Below W1.heap.size W1 _ := hHeld
              clear hHeld
              go_wp2_with fail
              go_roundg (gk - 1)
              case measure => omega
              case rel => exact ⟨k + 1, by omega, by go_num, hB4⟩
            · clear hv hla
              go_wp2_with fail
              refine wp_region_held_drew (S := fun w' => Below W1.heap.size W1 w') (by kernel_rfl) hB3d (fun hHeld => ?_)
              refine wpAnyH_take (i := 0) (oi := { dst := some 161, op := Op.move (Operand.tmp 9), type := _, pos := "law.go:115", after := #[], guard := none }) (v := .int .i64 (k : Int)) rfl (by kernel_rfl) (by kernel_rfl) (by kernel_rfl) (fun _ _ _ h => h) (Or.inl ⟨by rfl, ?_⟩) hHeld ?_
              · intro w' hSw
                have hw : Below W1.heap.size W1 w' := hSw
                have d0 := (hw.cell (p := ⟨bx, 0, none⟩) hbx).trans x0
                have d1 := (hw.cell (p := ⟨bx, 1, none⟩) hbx).trans x1
                have d2 := (hw.cell (p := ⟨bx, 2, none⟩) hbx).trans x2
                have d3 := (hw.cell (p := ⟨gM, k * 2, none⟩) hgM).trans y0
                have d4 := (hw.cell (p := ⟨gM, k * 2 + 1, none⟩) hgM).trans y1
                have d5 := (hw.cell (p := ⟨gM, (k + 1) * 2, none⟩) hgM).trans z0
                go_simp <;> omega
              try simp only [Act.put, List.setIfInBounds_toArray, List.set_cons_zero, List.set_cons_succ]
              refine wpAnyH_take (i := 1) (oi := { dst := some 162, op := Op.fieldAddr _ (Operand.tmp 3) 2, type := _, pos := "law.go:115", after := #[], guard := none }) (v := .pointer (some ⟨bx, 2, none⟩)) rfl (by kernel_rfl) (by kernel_rfl) (by kernel_rfl) (fun _ _ _ h => h) (Or.inl ⟨by rfl, ?_⟩) hHeld ?_
              · intro w' hSw
                have hw : Below W1.heap.size W1 w' := hSw
                have d0 := (hw.cell (p := ⟨bx, 0, none⟩) hbx).trans x0
                have d1 := (hw.cell (p := ⟨bx, 1, none⟩) hbx).trans x1
                have d2 := (hw.cell (p := ⟨bx, 2, none⟩) hbx).trans x2
                have d3 := (hw.cell (p := ⟨gM, k * 2, none⟩) hgM).trans y0
                have d4 := (hw.cell (p := ⟨gM, k * 2 + 1, none⟩) hgM).trans y1
                have d5 := (hw.cell (p := ⟨gM, (k + 1) * 2, none⟩) hgM).trans z0
                go_simp <;> omega
              try simp only [Act.put, List.setIfInBounds_toArray, List.set_cons_zero, List.set_cons_succ]
              refine wpAnyH_take (i := 2) (oi := { dst := some 163, op := Op.load _ (Operand.tmp 162), type := _, pos := "law.go:115", after := #[{ on := 1, ground := Ground.data }], guard := none }) (v := .slice (some ⟨gM, 0, none⟩) S.marks.length cM) rfl (by kernel_rfl) (by kernel_rfl) (by kernel_rfl) (fun _ _ _ h => h) (Or.inl ⟨by rfl, ?_⟩) hHeld ?_
              · intro w' hSw
                have hw : Below W1.heap.size W1 w' := hSw
                have d0 := (hw.cell (p := ⟨bx, 0, none⟩) hbx).trans x0
                have d1 := (hw.cell (p := ⟨bx, 1, none⟩) hbx).trans x1
                have d2 := (hw.cell (p := ⟨bx, 2, none⟩) hbx).trans x2
                have d3 := (hw.cell (p := ⟨gM, k * 2, none⟩) hgM).trans y0
                have d4 := (hw.cell (p := ⟨gM, k * 2 + 1, none⟩) hgM).trans y1
                have d5 := (hw.cell (p := ⟨gM, (k + 1) * 2, none⟩) hgM).trans z0
                go_simp <;> omega
              try simp only [Act.put, List.setIfInBounds_toArray, List.set_cons_zero, List.set_cons_succ]
              refine wpAnyH_take (i := 3) (oi := { dst := some 164, op := Op.call { callee := Callee.builtin Builtin.len, args := #[Operand.tmp 163], argTypes := _ }, type := _, pos := "law.go:115", after := #[{ on := 2, ground := Ground.data }], guard := none }) (v := .int .i64 (S.marks.length : Int)) rfl (by kernel_rfl) (by kernel_rfl) (by kernel_rfl) (fun _ _ _ h => h) (Or.inl ⟨by rfl, ?_⟩) hHeld ?_
              · intro w' hSw
                have hw : Below W1.heap.size W1 w' := hSw
                have d0 := (hw.cell (p := ⟨bx, 0, none⟩) hbx).trans x0
                have d1 := (hw.cell (p := ⟨bx, 1, none⟩) hbx).trans x1
                have d2 := (hw.cell (p := ⟨bx, 2, none⟩) hbx).trans x2
                have d3 := (hw.cell (p := ⟨gM, k * 2, none⟩) hgM).trans y0
                have d4 := (hw.cell (p := ⟨gM, k * 2 + 1, none⟩) hgM).trans y1
                have d5 := (hw.cell (p := ⟨gM, (k + 1) * 2, none⟩) hgM).trans z0
                go_simp <;> omega
              try simp only [Act.put, List.setIfInBounds_toArray, List.set_cons_zero, List.set_cons_succ]
              refine wpAnyH_take (i := 4) (oi := { dst := some 165, op := Op.binOp BinOp.sub _ (Operand.tmp 164) (Operand.const (Value.int IntKind.i64 1)) _, type := _, pos := "law.go:115", after := #[{ on := 3, ground := Ground.data }], guard := none }) (v := .int .i64 ((S.marks.length : Int) - 1)) rfl (by kernel_rfl) (by kernel_rfl) (by kernel_rfl) (fun _ _ _ h => h) (Or.inl ⟨by rfl, ?_⟩) hHeld ?_
              · intro w' hSw
                have hw : Below W1.heap.size W1 w' := hSw
                have d0 := (hw.cell (p := ⟨bx, 0, none⟩) hbx).trans x0
                have d1 := (hw.cell (p := ⟨bx, 1, none⟩) hbx).trans x1
                have d2 := (hw.cell (p := ⟨bx, 2, none⟩) hbx).trans x2
                have d3 := (hw.cell (p := ⟨gM, k * 2, none⟩) hgM).trans y0
                have d4 := (hw.cell (p := ⟨gM, k * 2 + 1, none⟩) hgM).trans y1
                have d5 := (hw.cell (p := ⟨gM, (k + 1) * 2, none⟩) hgM).trans z0
                go_simp <;> omega
              try simp only [Act.put, List.setIfInBounds_toArray, List.set_cons_zero, List.set_cons_succ]
              refine wpAnyH_take (i := 5) (oi := { dst := some 166, op := Op.binOp BinOp.eql _ (Operand.tmp 161) (Operand.tmp 165) _, type := _, pos := "law.go:115", after := #[{ on := 0, ground := Ground.data }, { on := 4, ground := Ground.data }], guard := none }) (v := .bool false) rfl (by kernel_rfl) (by kernel_rfl) (by kernel_rfl) (fun _ _ _ h => h) (Or.inl ⟨by rfl, ?_⟩) hHeld ?_
              · intro w' hSw
                have hw : Below W1.heap.size W1 w' := hSw
                have d0 := (hw.cell (p := ⟨bx, 0, none⟩) hbx).trans x0
                have d1 := (hw.cell (p := ⟨bx, 1, none⟩) hbx).trans x1
                have d2 := (hw.cell (p := ⟨bx, 2, none⟩) hbx).trans x2
                have d3 := (hw.cell (p := ⟨gM, k * 2, none⟩) hgM).trans y0
                have d4 := (hw.cell (p := ⟨gM, k * 2 + 1, none⟩) hgM).trans y1
                have d5 := (hw.cell (p := ⟨gM, (k + 1) * 2, none⟩) hgM).trans z0
                go_simp <;> omega
              try simp only [Act.put, List.setIfInBounds_toArray, List.set_cons_zero, List.set_cons_succ]
              refine wpAnyH_take (i := 6) (oi := { dst := some 167, op := Op.move (Operand.tmp 166), type := _, pos := "law.go:115", after := #[{ on := 5, ground := Ground.data }], guard := none }) (v := .bool false) rfl (by kernel_rfl) (by kernel_rfl) (by kernel_rfl) (fun _ _ _ h => h) (Or.inl ⟨by rfl, ?_⟩) hHeld ?_
              · intro w' hSw
                have hw : Below W1.heap.size W1 w' := hSw
                have d0 := (hw.cell (p := ⟨bx, 0, none⟩) hbx).trans x0
                have d1 := (hw.cell (p := ⟨bx, 1, none⟩) hbx).trans x1
                have d2 := (hw.cell (p := ⟨bx, 2, none⟩) hbx).trans x2
                have d3 := (hw.cell (p := ⟨gM, k * 2, none⟩) hgM).trans y0
                have d4 := (hw.cell (p := ⟨gM, k * 2 + 1, none⟩) hgM).trans y1
                have d5 := (hw.cell (p := ⟨gM, (k + 1) * 2, none⟩) hgM).trans z0
                go_simp <;> omega
              try simp only [Act.put, List.setIfInBounds_toArray, List.set_cons_zero, List.set_cons_succ]
              refine wpAnyH_take (i := 7) (oi := { dst := some 168, op := Op.fieldAddr _ (Operand.tmp 3) 2, type := _, pos := "law.go:115", after := #[{ on := 6, ground := Ground.guard }], guard := some (6, false) }) (v := .pointer (some ⟨bx, 2, none⟩)) rfl (by kernel_rfl) (by kernel_rfl) (by kernel_rfl) (fun _ _ _ h => h) (Or.inl ⟨by rfl, ?_⟩) hHeld ?_
              · intro w' hSw
                have hw : Below W1.heap.size W1 w' := hSw
                have d0 := (hw.cell (p := ⟨bx, 0, none⟩) hbx).trans x0
                have d1 := (hw.cell (p := ⟨bx, 1, none⟩) hbx).trans x1
                have d2 := (hw.cell (p := ⟨bx, 2, none⟩) hbx).trans x2
                have d3 := (hw.cell (p := ⟨gM, k * 2, none⟩) hgM).trans y0
                have d4 := (hw.cell (p := ⟨gM, k * 2 + 1, none⟩) hgM).trans y1
                have d5 := (hw.cell (p := ⟨gM, (k + 1) * 2, none⟩) hgM).trans z0
                go_simp <;> omega
              try simp only [Act.put, List.setIfInBounds_toArray, List.set_cons_zero, List.set_cons_succ]
              refine wpAnyH_take (i := 8) (oi := { dst := some 169, op := Op.load _ (Operand.tmp 168), type := _, pos := "law.go:115", after := #[{ on := 7, ground := Ground.data }, { on := 6, ground := Ground.guard }], guard := some (6, false) }) (v := .slice (some ⟨gM, 0, none⟩) S.marks.length cM) rfl (by kernel_rfl) (by kernel_rfl) (by kernel_rfl) (fun _ _ _ h => h) (Or.inl ⟨by rfl, ?_⟩) hHeld ?_
              · intro w' hSw
                have hw : Below W1.heap.size W1 w' := hSw
                have d0 := (hw.cell (p := ⟨bx, 0, none⟩) hbx).trans x0
                have d1 := (hw.cell (p := ⟨bx, 1, none⟩) hbx).trans x1
                have d2 := (hw.cell (p := ⟨bx, 2, none⟩) hbx).trans x2
                have d3 := (hw.cell (p := ⟨gM, k * 2, none⟩) hgM).trans y0
                have d4 := (hw.cell (p := ⟨gM, k * 2 + 1, none⟩) hgM).trans y1
                have d5 := (hw.cell (p := ⟨gM, (k + 1) * 2, none⟩) hgM).trans z0
                go_simp <;> omega
              try simp only [Act.put, List.setIfInBounds_toArray, List.set_cons_zero, List.set_cons_succ]
              refine wpAnyH_take (i := 9) (oi := { dst := some 170, op := Op.move (Operand.tmp 9), type := _, pos := "law.go:115", after := #[{ on := 6, ground := Ground.guard }], guard := some (6, false) }) (v := .int .i64 (k : Int)) rfl (by kernel_rfl) (by kernel_rfl) (by kernel_rfl) (fun _ _ _ h => h) (Or.inl ⟨by rfl, ?_⟩) hHeld ?_
              · intro w' hSw
                have hw : Below W1.heap.size W1 w' := hSw
                have d0 := (hw.cell (p := ⟨bx, 0, none⟩) hbx).trans x0
                have d1 := (hw.cell (p := ⟨bx, 1, none⟩) hbx).trans x1
                have d2 := (hw.cell (p := ⟨bx, 2, none⟩) hbx).trans x2
                have d3 := (hw.cell (p := ⟨gM, k * 2, none⟩) hgM).trans y0
                have d4 := (hw.cell (p := ⟨gM, k * 2 + 1, none⟩) hgM).trans y1
                have d5 := (hw.cell (p := ⟨gM, (k + 1) * 2, none⟩) hgM).trans z0
                go_simp <;> omega
              try simp only [Act.put, List.setIfInBounds_toArray, List.set_cons_zero, List.set_cons_succ]
              refine wpAnyH_take (i := 10) (oi := { dst := some 171, op := Op.binOp BinOp.add _ (Operand.tmp 170) (Operand.const (Value.int IntKind.i64 1)) _, type := _, pos := "law.go:115", after := #[{ on := 9, ground := Ground.data }, { on := 6, ground := Ground.guard }], guard := some (6, false) }) (v := .int .i64 ((k : Int) + 1)) rfl (by kernel_rfl) (by kernel_rfl) (by kernel_rfl) (fun _ _ _ h => h) (Or.inl ⟨by rfl, ?_⟩) hHeld ?_
              · intro w' hSw
                have hw : Below W1.heap.size W1 w' := hSw
                have d0 := (hw.cell (p := ⟨bx, 0, none⟩) hbx).trans x0
                have d1 := (hw.cell (p := ⟨bx, 1, none⟩) hbx).trans x1
                have d2 := (hw.cell (p := ⟨bx, 2, none⟩) hbx).trans x2
                have d3 := (hw.cell (p := ⟨gM, k * 2, none⟩) hgM).trans y0
                have d4 := (hw.cell (p := ⟨gM, k * 2 + 1, none⟩) hgM).trans y1
                have d5 := (hw.cell (p := ⟨gM, (k + 1) * 2, none⟩) hgM).trans z0
                go_simp <;> omega
              try simp only [Act.put, List.setIfInBounds_toArray, List.set_cons_zero, List.set_cons_succ]
              refine wpAnyH_take (i := 11) (oi := { dst := some 172, op := Op.indexAddr _ (Operand.tmp 169) (Operand.tmp 171), type := _, pos := "law.go:115", after := #[{ on := 8, ground := Ground.data }, { on := 10, ground := Ground.data }, { on := 6, ground := Ground.guard }], guard := some (6, false) }) (v := .pointer (some ⟨gM, (k + 1) * 2, none⟩)) rfl (by kernel_rfl) (by kernel_rfl) (by kernel_rfl) (fun _ _ _ h => h) (Or.inl ⟨by rfl, ?_⟩) hHeld ?_
              · intro w' hSw
                have hw : Below W1.heap.size W1 w' := hSw
                have d0 := (hw.cell (p := ⟨bx, 0, none⟩) hbx).trans x0
                have d1 := (hw.cell (p := ⟨bx, 1, none⟩) hbx).trans x1
                have d2 := (hw.cell (p := ⟨bx, 2, none⟩) hbx).trans x2
                have d3 := (hw.cell (p := ⟨gM, k * 2, none⟩) hgM).trans y0
                have d4 := (hw.cell (p := ⟨gM, k * 2 + 1, none⟩) hgM).trans y1
                have d5 := (hw.cell (p := ⟨gM, (k + 1) * 2, none⟩) hgM).trans z0
                go_simp <;> omega
              try simp only [Act.put, List.setIfInBounds_toArray, List.set_cons_zero, List.set_cons_succ]
              refine wpAnyH_take (i := 12) (oi := { dst := some 173, op := Op.fieldAddr _ (Operand.tmp 172) 0, type := _, pos := "law.go:115", after := #[{ on := 11, ground := Ground.data }, { on := 6, ground := Ground.guard }], guard := some (6, false) }) (v := .pointer (some ⟨gM, (k + 1) * 2, none⟩)) rfl (by kernel_rfl) (by kernel_rfl) (by kernel_rfl) (fun _ _ _ h => h) (Or.inl ⟨by rfl, ?_⟩) hHeld ?_
              · intro w' hSw
                have hw : Below W1.heap.size W1 w' := hSw
                have d0 := (hw.cell (p := ⟨bx, 0, none⟩) hbx).trans x0
                have d1 := (hw.cell (p := ⟨bx, 1, none⟩) hbx).trans x1
                have d2 := (hw.cell (p := ⟨bx, 2, none⟩) hbx).trans x2
                have d3 := (hw.cell (p := ⟨gM, k * 2, none⟩) hgM).trans y0
                have d4 := (hw.cell (p := ⟨gM, k * 2 + 1, none⟩) hgM).trans y1
                have d5 := (hw.cell (p := ⟨gM, (k + 1) * 2, none⟩) hgM).trans z0
                go_simp <;> omega
              try simp only [Act.put, List.setIfInBounds_toArray, List.set_cons_zero, List.set_cons_succ]
              refine wpAnyH_take (i := 13) (oi := { dst := some 174, op := Op.load _ (Operand.tmp 173), type := _, pos := "law.go:115", after := #[{ on := 12, ground := Ground.data }, { on := 6, ground := Ground.guard }], guard := some (6, false) }) (v := .int .i64 q.1) rfl (by kernel_rfl) (by kernel_rfl) (by kernel_rfl) (fun _ _ _ h => h) (Or.inl ⟨by rfl, ?_⟩) hHeld ?_
              · intro w' hSw
                have hw : Below W1.heap.size W1 w' := hSw
                have d0 := (hw.cell (p := ⟨bx, 0, none⟩) hbx).trans x0
                have d1 := (hw.cell (p := ⟨bx, 1, none⟩) hbx).trans x1
                have d2 := (hw.cell (p := ⟨bx, 2, none⟩) hbx).trans x2
                have d3 := (hw.cell (p := ⟨gM, k * 2, none⟩) hgM).trans y0
                have d4 := (hw.cell (p := ⟨gM, k * 2 + 1, none⟩) hgM).trans y1
                have d5 := (hw.cell (p := ⟨gM, (k + 1) * 2, none⟩) hgM).trans z0
                go_simp <;> omega
              try simp only [Act.put, List.setIfInBounds_toArray, List.set_cons_zero, List.set_cons_succ]
              refine wpAnyH_take (i := 14) (oi := { dst := some 175, op := Op.fieldAddr _ (Operand.tmp 3) 2, type := _, pos := "law.go:115", after := #[{ on := 6, ground := Ground.guard }], guard := some (6, false) }) (v := .pointer (some ⟨bx, 2, none⟩)) rfl (by kernel_rfl) (by kernel_rfl) (by kernel_rfl) (fun _ _ _ h => h) (Or.inl ⟨by rfl, ?_⟩) hHeld ?_
              · intro w' hSw
                have hw : Below W1.heap.size W1 w' := hSw
                have d0 := (hw.cell (p := ⟨bx, 0, none⟩) hbx).trans x0
                have d1 := (hw.cell (p := ⟨bx, 1, none⟩) hbx).trans x1
                have d2 := (hw.cell (p := ⟨bx, 2, none⟩) hbx).trans x2
                have d3 := (hw.cell (p := ⟨gM, k * 2, none⟩) hgM).trans y0
                have d4 := (hw.cell (p := ⟨gM, k * 2 + 1, none⟩) hgM).trans y1
                have d5 := (hw.cell (p := ⟨gM, (k + 1) * 2, none⟩) hgM).trans z0
                go_simp <;> omega
              try simp only [Act.put, List.setIfInBounds_toArray, List.set_cons_zero, List.set_cons_succ]
              refine wpAnyH_take (i := 15) (oi := { dst := some 176, op := Op.load _ (Operand.tmp 175), type := _, pos := "law.go:115", after := #[{ on := 14, ground := Ground.data }, { on := 6, ground := Ground.guard }], guard := some (6, false) }) (v := .slice (some ⟨gM, 0, none⟩) S.marks.length cM) rfl (by kernel_rfl) (by kernel_rfl) (by kernel_rfl) (fun _ _ _ h => h) (Or.inl ⟨by rfl, ?_⟩) hHeld ?_
              · intro w' hSw
                have hw : Below W1.heap.size W1 w' := hSw
                have d0 := (hw.cell (p := ⟨bx, 0, none⟩) hbx).trans x0
                have d1 := (hw.cell (p := ⟨bx, 1, none⟩) hbx).trans x1
                have d2 := (hw.cell (p := ⟨bx, 2, none⟩) hbx).trans x2
                have d3 := (hw.cell (p := ⟨gM, k * 2, none⟩) hgM).trans y0
                have d4 := (hw.cell (p := ⟨gM, k * 2 + 1, none⟩) hgM).trans y1
                have d5 := (hw.cell (p := ⟨gM, (k + 1) * 2, none⟩) hgM).trans z0
                go_simp <;> omega
              try simp only [Act.put, List.setIfInBounds_toArray, List.set_cons_zero, List.set_cons_succ]
              refine wpAnyH_take (i := 16) (oi := { dst := some 177, op := Op.move (Operand.tmp 9), type := _, pos := "law.go:115", after := #[{ on := 6, ground := Ground.guard }], guard := some (6, false) }) (v := .int .i64 (k : Int)) rfl (by kernel_rfl) (by kernel_rfl) (by kernel_rfl) (fun _ _ _ h => h) (Or.inl ⟨by rfl, ?_⟩) hHeld ?_
              · intro w' hSw
                have hw : Below W1.heap.size W1 w' := hSw
                have d0 := (hw.cell (p := ⟨bx, 0, none⟩) hbx).trans x0
                have d1 := (hw.cell (p := ⟨bx, 1, none⟩) hbx).trans x1
                have d2 := (hw.cell (p := ⟨bx, 2, none⟩) hbx).trans x2
                have d3 := (hw.cell (p := ⟨gM, k * 2, none⟩) hgM).trans y0
                have d4 := (hw.cell (p := ⟨gM, k * 2 + 1, none⟩) hgM).trans y1
                have d5 := (hw.cell (p := ⟨gM, (k + 1) * 2, none⟩) hgM).trans z0
                go_simp <;> omega
              try simp only [Act.put, List.setIfInBounds_toArray, List.set_cons_zero, List.set_cons_succ]
              refine wpAnyH_take (i := 17) (oi := { dst := some 178, op := Op.indexAddr _ (Operand.tmp 176) (Operand.tmp 177), type := _, pos := "law.go:115", after := #[{ on := 15, ground := Ground.data }, { on := 16, ground := Ground.data }, { on := 6, ground := Ground.guard }], guard := some (6, false) }) (v := .pointer (some ⟨gM, k * 2, none⟩)) rfl (by kernel_rfl) (by kernel_rfl) (by kernel_rfl) (fun _ _ _ h => h) (Or.inl ⟨by rfl, ?_⟩) hHeld ?_
              · intro w' hSw
                have hw : Below W1.heap.size W1 w' := hSw
                have d0 := (hw.cell (p := ⟨bx, 0, none⟩) hbx).trans x0
                have d1 := (hw.cell (p := ⟨bx, 1, none⟩) hbx).trans x1
                have d2 := (hw.cell (p := ⟨bx, 2, none⟩) hbx).trans x2
                have d3 := (hw.cell (p := ⟨gM, k * 2, none⟩) hgM).trans y0
                have d4 := (hw.cell (p := ⟨gM, k * 2 + 1, none⟩) hgM).trans y1
                have d5 := (hw.cell (p := ⟨gM, (k + 1) * 2, none⟩) hgM).trans z0
                go_simp <;> omega
              try simp only [Act.put, List.setIfInBounds_toArray, List.set_cons_zero, List.set_cons_succ]
              refine wpAnyH_take (i := 18) (oi := { dst := some 179, op := Op.fieldAddr _ (Operand.tmp 178) 0, type := _, pos := "law.go:115", after := #[{ on := 17, ground := Ground.data }, { on := 6, ground := Ground.guard }], guard := some (6, false) }) (v := .pointer (some ⟨gM, k * 2, none⟩)) rfl (by kernel_rfl) (by kernel_rfl) (by kernel_rfl) (fun _ _ _ h => h) (Or.inl ⟨by rfl, ?_⟩) hHeld ?_
              · intro w' hSw
                have hw : Below W1.heap.size W1 w' := hSw
                have d0 := (hw.cell (p := ⟨bx, 0, none⟩) hbx).trans x0
                have d1 := (hw.cell (p := ⟨bx, 1, none⟩) hbx).trans x1
                have d2 := (hw.cell (p := ⟨bx, 2, none⟩) hbx).trans x2
                have d3 := (hw.cell (p := ⟨gM, k * 2, none⟩) hgM).trans y0
                have d4 := (hw.cell (p := ⟨gM, k * 2 + 1, none⟩) hgM).trans y1
                have d5 := (hw.cell (p := ⟨gM, (k + 1) * 2, none⟩) hgM).trans z0
                go_simp <;> omega
              try simp only [Act.put, List.setIfInBounds_toArray, List.set_cons_zero, List.set_cons_succ]
              refine wpAnyH_take (i := 19) (oi := { dst := some 180, op := Op.load _ (Operand.tmp 179), type := _, pos := "law.go:115", after := #[{ on := 18, ground := Ground.data }, { on := 6, ground := Ground.guard }], guard := some (6, false) }) (v := .int .i64 m.1) rfl (by kernel_rfl) (by kernel_rfl) (by kernel_rfl) (fun _ _ _ h => h) (Or.inl ⟨by rfl, ?_⟩) hHeld ?_
              · intro w' hSw
                have hw : Below W1.heap.size W1 w' := hSw
                have d0 := (hw.cell (p := ⟨bx, 0, none⟩) hbx).trans x0
                have d1 := (hw.cell (p := ⟨bx, 1, none⟩) hbx).trans x1
                have d2 := (hw.cell (p := ⟨bx, 2, none⟩) hbx).trans x2
                have d3 := (hw.cell (p := ⟨gM, k * 2, none⟩) hgM).trans y0
                have d4 := (hw.cell (p := ⟨gM, k * 2 + 1, none⟩) hgM).trans y1
                have d5 := (hw.cell (p := ⟨gM, (k + 1) * 2, none⟩) hgM).trans z0
                go_simp <;> omega
              try simp only [Act.put, List.setIfInBounds_toArray, List.set_cons_zero, List.set_cons_succ]
              refine wpAnyH_take (i := 20) (oi := { dst := some 181, op := Op.binOp BinOp.gtr _ (Operand.tmp 174) (Operand.tmp 180) _, type := _, pos := "law.go:115", after := #[{ on := 13, ground := Ground.data }, { on := 19, ground := Ground.data }, { on := 6, ground := Ground.guard }], guard := some (6, false) }) (v := .bool false) rfl (by kernel_rfl) (by kernel_rfl) (by kernel_rfl) (fun _ _ _ h => h) (Or.inl ⟨by rfl, ?_⟩) hHeld ?_
              · intro w' hSw
                have hw : Below W1.heap.size W1 w' := hSw
                have d0 := (hw.cell (p := ⟨bx, 0, none⟩) hbx).trans x0
                have d1 := (hw.cell (p := ⟨bx, 1, none⟩) hbx).trans x1
                have d2 := (hw.cell (p := ⟨bx, 2, none⟩) hbx).trans x2
                have d3 := (hw.cell (p := ⟨gM, k * 2, none⟩) hgM).trans y0
                have d4 := (hw.cell (p := ⟨gM, k * 2 + 1, none⟩) hgM).trans y1
                have d5 := (hw.cell (p := ⟨gM, (k + 1) * 2, none⟩) hgM).trans z0
                go_simp <;> omega
              try simp only [Act.put, List.setIfInBounds_toArray, List.set_cons_zero, List.set_cons_succ]
              refine wpAnyH_take (i := 21) (oi := { dst := some 182, op := Op.pick (Operand.tmp 167) (Operand.const (Value.bool true)) (Operand.tmp 181), type := _, pos := "law.go:115", after := #[{ on := 6, ground := Ground.data }, { on := 20, ground := Ground.data }], guard := none }) (v := .bool false) rfl (by kernel_rfl) (by kernel_rfl) (by kernel_rfl) (fun _ _ _ h => h) (Or.inl ⟨by rfl, ?_⟩) hHeld ?_
              · intro w' hSw
                have hw : Below W1.heap.size W1 w' := hSw
                have d0 := (hw.cell (p := ⟨bx, 0, none⟩) hbx).trans x0
                have d1 := (hw.cell (p := ⟨bx, 1, none⟩) hbx).trans x1
                have d2 := (hw.cell (p := ⟨bx, 2, none⟩) hbx).trans x2
                have d3 := (hw.cell (p := ⟨gM, k * 2, none⟩) hgM).trans y0
                have d4 := (hw.cell (p := ⟨gM, k * 2 + 1, none⟩) hgM).trans y1
                have d5 := (hw.cell (p := ⟨gM, (k + 1) * 2, none⟩) hgM).trans z0
                go_simp <;> omega
              try simp only [Act.put, List.setIfInBounds_toArray, List.set_cons_zero, List.set_cons_succ]
              refine wpAnyH_take (i := 22) (oi := { dst := some 183, op := Op.move (Operand.tmp 182), type := _, pos := "law.go:115", after := #[{ on := 21, ground := Ground.data }, { on := 6, ground := Ground.chain }], guard := none }) (v := .bool false) rfl (by kernel_rfl) (by kernel_rfl) (by kernel_rfl) (fun _ _ _ h => h) (Or.inl ⟨by rfl, ?_⟩) hHeld ?_
              · intro w' hSw
                have hw : Below W1.heap.size W1 w' := hSw
                have d0 := (hw.cell (p := ⟨bx, 0, none⟩) hbx).trans x0
                have d1 := (hw.cell (p := ⟨bx, 1, none⟩) hbx).trans x1
                have d2 := (hw.cell (p := ⟨bx, 2, none⟩) hbx).trans x2
                have d3 := (hw.cell (p := ⟨gM, k * 2, none⟩) hgM).trans y0
                have d4 := (hw.cell (p := ⟨gM, k * 2 + 1, none⟩) hgM).trans y1
                have d5 := (hw.cell (p := ⟨gM, (k + 1) * 2, none⟩) hgM).trans z0
                go_simp <;> omega
              try simp only [Act.put, List.setIfInBounds_toArray, List.set_cons_zero, List.set_cons_succ]
              refine wpAnyH_take (i := 23) (oi := { dst := some 184, op := Op.load _ (Operand.tmp 3), type := _, pos := "law.go:115", after := #[{ on := 22, ground := Ground.guard }], guard := some (22, true) }) (v := undef) rfl (by kernel_rfl) (by kernel_rfl) (by kernel_rfl) (fun _ _ _ h => h) (Or.inr ⟨by rfl, rfl⟩) hHeld ?_
              try simp only [Act.put, List.setIfInBounds_toArray, List.set_cons_zero, List.set_cons_succ]
              refine wpAnyH_take (i := 24) (oi := { dst := some 185, op := Op.fieldAddr _ (Operand.tmp 3) 2, type := _, pos := "law.go:115", after := #[{ on := 22, ground := Ground.guard }], guard := some (22, true) }) (v := undef) rfl (by kernel_rfl) (by kernel_rfl) (by kernel_rfl) (fun _ _ _ h => h) (Or.inr ⟨by rfl, rfl⟩) hHeld ?_
              try simp only [Act.put, List.setIfInBounds_toArray, List.set_cons_zero, List.set_cons_succ]
              refine wpAnyH_take (i := 25) (oi := { dst := some 186, op := Op.load _ (Operand.tmp 185), type := _, pos := "law.go:115", after := #[{ on := 24, ground := Ground.data }, { on := 22, ground := Ground.guard }], guard := some (22, true) }) (v := undef) rfl (by kernel_rfl) (by kernel_rfl) (by kernel_rfl) (fun _ _ _ h => h) (Or.inr ⟨by rfl, rfl⟩) hHeld ?_
              try simp only [Act.put, List.setIfInBounds_toArray, List.set_cons_zero, List.set_cons_succ]
              refine wpAnyH_take (i := 26) (oi := { dst := some 187, op := Op.move (Operand.tmp 9), type := _, pos := "law.go:115", after := #[{ on := 22, ground := Ground.guard }], guard := some (22, true) }) (v := undef) rfl (by kernel_rfl) (by kernel_rfl) (by kernel_rfl) (fun _ _ _ h => h) (Or.inr ⟨by rfl, rfl⟩) hHeld ?_
              try simp only [Act.put, List.setIfInBounds_toArray, List.set_cons_zero, List.set_cons_succ]
              refine wpAnyH_take (i := 27) (oi := { dst := some 188, op := Op.indexAddr _ (Operand.tmp 186) (Operand.tmp 187), type := _, pos := "law.go:115", after := #[{ on := 25, ground := Ground.data }, { on := 26, ground := Ground.data }, { on := 22, ground := Ground.guard }], guard := some (22, true) }) (v := undef) rfl (by kernel_rfl) (by kernel_rfl) (by kernel_rfl) (fun _ _ _ h => h) (Or.inr ⟨by rfl, rfl⟩) hHeld ?_
              try simp only [Act.put, List.setIfInBounds_toArray, List.set_cons_zero, List.set_cons_succ]
              refine wpAnyH_take (i := 28) (oi := { dst := some 189, op := Op.fieldAddr _ (Operand.tmp 188) 0, type := _, pos := "law.go:115", after := #[{ on := 27, ground := Ground.data }, { on := 22, ground := Ground.guard }], guard := some (22, true) }) (v := undef) rfl (by kernel_rfl) (by kernel_rfl) (by kernel_rfl) (fun _ _ _ h => h) (Or.inr ⟨by rfl, rfl⟩) hHeld ?_
              try simp only [Act.put, List.setIfInBounds_toArray, List.set_cons_zero, List.set_cons_succ]
              refine wpAnyH_take (i := 29) (oi := { dst := some 190, op := Op.load _ (Operand.tmp 189), type := _, pos := "law.go:115", after := #[{ on := 28, ground := Ground.data }, { on := 22, ground := Ground.guard }], guard := some (22, true) }) (v := undef) rfl (by kernel_rfl) (by kernel_rfl) (by kernel_rfl) (fun _ _ _ h => h) (Or.inr ⟨by rfl, rfl⟩) hHeld ?_
              try simp only [Act.put, List.setIfInBounds_toArray, List.set_cons_zero, List.set_cons_succ]
              refine wpAnyH_take (i := 30) (oi := { dst := some 191, op := Op.call { callee := Callee.value (Operand.func _), args := #[Operand.tmp 184, Operand.tmp 190], argTypes := _ }, type := _, pos := "law.go:115", after := #[{ on := 23, ground := Ground.data }, { on := 29, ground := Ground.data }, { on := 22, ground := Ground.chain }, { on := 22, ground := Ground.guard }], guard := some (22, true) }) (v := undef) rfl (by kernel_rfl) (by kernel_rfl) (by kernel_rfl) (fun _ _ _ h => h) (Or.inr ⟨by rfl, rfl⟩) hHeld ?_
              try simp only [Act.put, List.setIfInBounds_toArray, List.set_cons_zero, List.set_cons_succ]
              refine wpAnyH_take (i := 31) (oi := { dst := some 192, op := Op.fieldAddr _ (Operand.tmp 3) 2, type := _, pos := "law.go:115", after := #[{ on := 22, ground := Ground.guard }], guard := some (22, true) }) (v := undef) rfl (by kernel_rfl) (by kernel_rfl) (by kernel_rfl) (fun _ _ _ h => h) (Or.inr ⟨by rfl, rfl⟩) hHeld ?_
              try simp only [Act.put, List.setIfInBounds_toArray, List.set_cons_zero, List.set_cons_succ]
              refine wpAnyH_take (i := 32) (oi := { dst := some 193, op := Op.load _ (Operand.tmp 192), type := _, pos := "law.go:115", after := #[{ on := 31, ground := Ground.data }, { on := 22, ground := Ground.guard }], guard := some (22, true) }) (v := undef) rfl (by kernel_rfl) (by kernel_rfl) (by kernel_rfl) (fun _ _ _ h => h) (Or.inr ⟨by rfl, rfl⟩) hHeld ?_
              try simp only [Act.put, List.setIfInBounds_toArray, List.set_cons_zero, List.set_cons_succ]
              refine wpAnyH_take (i := 33) (oi := { dst := some 194, op := Op.move (Operand.tmp 9), type := _, pos := "law.go:115", after := #[{ on := 22, ground := Ground.guard }], guard := some (22, true) }) (v := undef) rfl (by kernel_rfl) (by kernel_rfl) (by kernel_rfl) (fun _ _ _ h => h) (Or.inr ⟨by rfl, rfl⟩) hHeld ?_
              try simp only [Act.put, List.setIfInBounds_toArray, List.set_cons_zero, List.set_cons_succ]
              refine wpAnyH_take (i := 34) (oi := { dst := some 195, op := Op.indexAddr _ (Operand.tmp 193) (Operand.tmp 194), type := _, pos := "law.go:115", after := #[{ on := 32, ground := Ground.data }, { on := 33, ground := Ground.data }, { on := 22, ground := Ground.guard }], guard := some (22, true) }) (v := undef) rfl (by kernel_rfl) (by kernel_rfl) (by kernel_rfl) (fun _ _ _ h => h) (Or.inr ⟨by rfl, rfl⟩) hHeld ?_
              try simp only [Act.put, List.setIfInBounds_toArray, List.set_cons_zero, List.set_cons_succ]
              refine wpAnyH_take (i := 35) (oi := { dst := some 196, op := Op.fieldAddr _ (Operand.tmp 195) 1, type := _, pos := "law.go:115", after := #[{ on := 34, ground := Ground.data }, { on := 22, ground := Ground.guard }], guard := some (22, true) }) (v := undef) rfl (by kernel_rfl) (by kernel_rfl) (by kernel_rfl) (fun _ _ _ h => h) (Or.inr ⟨by rfl, rfl⟩) hHeld ?_
              try simp only [Act.put, List.setIfInBounds_toArray, List.set_cons_zero, List.set_cons_succ]
              refine wpAnyH_take (i := 36) (oi := { dst := some 197, op := Op.load _ (Operand.tmp 196), type := _, pos := "law.go:115", after := #[{ on := 35, ground := Ground.data }, { on := 22, ground := Ground.guard }], guard := some (22, true) }) (v := undef) rfl (by kernel_rfl) (by kernel_rfl) (by kernel_rfl) (fun _ _ _ h => h) (Or.inr ⟨by rfl, rfl⟩) hHeld ?_
              try simp only [Act.put, List.setIfInBounds_toArray, List.set_cons_zero, List.set_cons_succ]
              refine wpAnyH_take (i := 37) (oi := { dst := some 198, op := Op.binOp BinOp.neq _ (Operand.tmp 191) (Operand.tmp 197) _, type := _, pos := "law.go:115", after := #[{ on := 30, ground := Ground.data }, { on := 36, ground := Ground.data }, { on := 22, ground := Ground.guard }], guard := some (22, true) }) (v := undef) rfl (by kernel_rfl) (by kernel_rfl) (by kernel_rfl) (fun _ _ _ h => h) (Or.inr ⟨by rfl, rfl⟩) hHeld ?_
              try simp only [Act.put, List.setIfInBounds_toArray, List.set_cons_zero, List.set_cons_succ]
              refine wpAnyH_take (i := 38) (oi := { dst := some 199, op := Op.pick (Operand.tmp 183) (Operand.tmp 198) (Operand.const (Value.bool false)), type := _, pos := "law.go:115", after := #[{ on := 22, ground := Ground.data }, { on := 37, ground := Ground.data }], guard := none }) (v := .bool false) rfl (by kernel_rfl) (by kernel_rfl) (by kernel_rfl) (fun _ _ _ h => h) (Or.inl ⟨by rfl, ?_⟩) hHeld ?_
              · intro w' hSw
                have hw : Below W1.heap.size W1 w' := hSw
                have d0 := (hw.cell (p := ⟨bx, 0, none⟩) hbx).trans x0
                have d1 := (hw.cell (p := ⟨bx, 1, none⟩) hbx).trans x1
                have d2 := (hw.cell (p := ⟨bx, 2, none⟩) hbx).trans x2
                have d3 := (hw.cell (p := ⟨gM, k * 2, none⟩) hgM).trans y0
                have d4 := (hw.cell (p := ⟨gM, k * 2 + 1, none⟩) hgM).trans y1
                have d5 := (hw.cell (p := ⟨gM, (k + 1) * 2, none⟩) hgM).trans z0
                go_simp <;> omega
              try simp only [Act.put, List.setIfInBounds_toArray, List.set_cons_zero, List.set_cons_succ]
              refine wpAnyH_done (by kernel_rfl) ?_ _
              have hB4 : Below W1.heap.size W1 _ := hHeld
              clear hHeld
              go_wp2_with fail
              go_roundg (gk - 1)
              case measure => omega
              case rel => exact ⟨k + 1, by omega, by go_num, hB4⟩
        · have i1 : ¬ (k : Int) < (S.marks.length : Int) := by omega
          have hfn : findL S.labels [110, 111, 32, 115, 117, 99, 104, 32, 112, 108, 97, 99, 101] = none := by
            unfold findL
            rw [Option.map_eq_none_iff, List.find?_eq_none]
            intro p hp he
            have h1 := HP.out.names p hp
            have h2 : p.1 = [110, 111, 32, 115, 117, 99, 104, 32, 112, 108, 97, 99, 101] := by simpa using he
            rw [h2, noSuch] at h1
            cases h1
          have HPl := Lib.hid fun (W : World) (hW : Below W1.heap.size W1 W) => place_c aL cL (.slice aB S.bytes.length cB) (.slice aM S.marks.length cM) S.labels [110, 111, 32, 115, 117, 99, 104, 32, 112, 108, 97, 99, 101] W (pL1.out.below hW) (by omega) hcl hml
          rw [hfn] at HPl
          have HLn := Lib.hid fun (W : World) (hW : Below W1.heap.size W1 W) => by
            have := where_c aM cM (.slice aB S.bytes.length cB) (.slice aL S.labels.length cL) S.marks (-1) W (pM1.out.below hW) (by omega) hcm hmm
            rw [line_none (fun m hm => by have := (HP.out.mks m hm).1; omega)] at this
            exact this
          clear hfn
          go_wp2_with fail
          refine (HPl.out _ hB).mono ?_
          rintro e w2 ⟨rfl, hb2⟩
          have hB2 : Below W1.heap.size W1 w2 := hB.trans (hb2.mono hB.size)
          have e0 := (hB2.cell (p := ⟨bx, 0, none⟩) hbx).trans x0
          have e1 := (hB2.cell (p := ⟨bx, 1, none⟩) hbx).trans x1
          have e2 := (hB2.cell (p := ⟨bx, 2, none⟩) hbx).trans x2
          by_cases hm0 : S.marks.length = 0
          · have t1 : ((S.marks.length : Int) == 0) = true := by simp [hm0]
            clear hm0
            go_wp2_with fail
            refine (HW.out _ (pTab_onE HT (hB1.trans (hB2.mono hB1.size)))).mono ?_
            rintro e w3 ⟨rfl, hb3⟩
            go_wp2_with fail
            go_ret
            exact ⟨rfl, (hB1.trans (hB2.mono hB1.size)).trans (hb3.mono (by have := hB1.size; have := hB2.size; omega))⟩
          · have t1 : ((S.marks.length : Int) == 0) = false := by simpa using hm0
            clear hm0
            go_wp2_with fail
            refine (HLn.out _ hB2).mono ?_
            rintro e w4 ⟨rfl, hb4⟩
            have hB4 : Below W1.heap.size W1 w4 := hB2.trans (hb4.mono hB2.size)
            go_wp2_with fail
            refine (HW.out _ (pTab_onE HT (hB1.trans (hB4.mono hB1.size)))).mono ?_
            rintro e w3 ⟨rfl, hb3⟩
            go_wp2_with fail
            go_ret
            exact ⟨rfl, (hB1.trans (hB4.mono hB1.size)).trans (hb3.mono (by have := hB1.size; have := hB4.size; omega))⟩
theorem places31_walk (s : ByteArray) (hs : s.size ≤ Go.maxLen) (w : World) (HT : Hid (pTab w)) :
    Calls Tryd.prog 4 #[.string s] w fun e w' => e = .returned (.bool true) ∧ Below w.heap.size w w' := by
  have e : s = ⟨s.data.toList.toArray⟩ := rfl
  have hl : s.data.toList.length ≤ 9223372036854775807 := hs
  rw [e]
  generalize s.data.toList = L at hl ⊢
  cases hR : asmF L with
  | error x =>
    obtain ⟨ln, er⟩ := x
    exact places_bad L ln er w HT hl hR
  | ok S => exact places_good L S w HT hl hR
end Go.Proofs.YtgfljokamgbcaaaDoor
