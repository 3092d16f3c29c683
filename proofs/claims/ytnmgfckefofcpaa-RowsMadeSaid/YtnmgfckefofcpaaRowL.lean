/- Rows of translated code: the document's Find and Last over rows that rise; rows.Stands. -/
import Derived.Test.YtnmgfckefofcpaaRowK
namespace Go.Proofs.Ytnmgfckefofcpaa
open Go.RowKit
set_option linter.unusedSimpArgs false
set_option linter.unusedVariables false

theorem cut_step {L : List RowR} {off : Int} {K k : Nat} {r : RowR} (hC : Cut L off K) (hr : L[k]? = some r) (ho : offAt L k = r.off) :
    lastR L (min (k + 1) K) = if r.off ≤ off then (r, true) else lastR L (min k K) := by
  obtain ⟨h1, h2, h3⟩ := hC
  have hk : k < L.length := (List.getElem?_eq_some_iff.1 hr).1
  by_cases c : k < K
  · have := h2 k c
    rw [if_pos (by omega), show min (k + 1) K = k + 1 from by omega]
    simp [lastR, List.getD, hr]
  · have := h3 k (by omega) hk
    rw [if_neg (by omega), show min (k + 1) K = min k K from by omega]

set_option maxHeartbeats 4000000 in
theorem refLast_c (L : List RowR) (ao : Option Addr) (len cap : Nat) (off : Int) (K : Nat) (w : World) (hL : L.length = len) (hl : len ≤ 4611686018427387903) (hR : RowsIn w ao L) (hC : Cut L off K) :
    Calls Try.prog 12 #[.slice ao len cap, .int .i64 off] w fun e w' => e = .returned (.tuple #[(lastR L K).1.val, .bool (lastR L K).2]) ∧ Below w.heap.size w w' := by
  have HR := Lib.hid hR
  have HL := Lib.hid hL
  have HC := Lib.hid hC
  clear hL hR hC
  go_enter Try.func12, Try.ntmps12
  go_wp2_with fail
  go_loopg [7, 8] len (fun gk vi vk wr => ∃ (k : Nat) (x : RowR) (is : Bool), gk + k = len ∧ vk = .int .i64 (k : Int) ∧ vi = .bool is ∧ Hid (lastR L (min k K) = (x, is)) ∧
    wr = (w.alloc (.cells #[.int .i64 0, .int .u32 0, .int .i64 0, .int .i64 0] 27)).alloc (.cells #[.int .i64 x.off, .int .u32 x.pc, .int .i64 x.done, .int .i64 x.exit] 27))
  case atStart => exact ⟨0, ⟨0, 0, 0, 0⟩, false, rfl, rfl, rfl, Lib.hid (by simp [lastR]), rfl⟩
  case round =>
    obtain ⟨k, x, is, hk, rfl, rfl, HX, rfl⟩ := hrel
    by_cases c1 : k < len
    · obtain ⟨blk, o, rfl, hbl, r, hr, ho, y0, y1, y2, y3⟩ := rows_at (rows_past (rows_past HR.out (.cells #[.int .i64 0, .int .u32 0, .int .i64 0, .int .i64 0] 27)) (.cells #[.int .i64 x.off, .int .u32 x.pc, .int .i64 x.done, .int .i64 x.exit] 27)) (k := k) (by rw [HL.out]; exact c1)
      have i1 : (k : Int) < (len : Int) := by omega
      have HS := Lib.hid (cut_step HC.out hr ho)
      clear hr ho
      obtain ⟨xo, xp, xd, xe⟩ := x
      obtain ⟨ro, rp, rd, re⟩ := r
      simp only at y0 y1 y2 y3
      by_cases c2 : ro ≤ off
      · go_wp2_with fail
        go_roundg (gk - 1)
        case measure => omega
        case rel => exact ⟨k + 1, ⟨ro, rp, rd, re⟩, true, by omega, rfl, rfl, Lib.hid (by rw [HS.out, if_pos c2]), rfl⟩
      · go_wp2_with fail
        go_roundg (gk - 1)
        case measure => omega
        case rel => exact ⟨k + 1, ⟨xo, xp, xd, xe⟩, is, by omega, rfl, rfl, Lib.hid (by rw [HS.out, if_neg (by omega)]; exact HX.out), rfl⟩
    · have i1 : ¬ (k : Int) < (len : Int) := by omega
      have hx : lastR L K = (x, is) := by rw [← HX.out, show min k K = K from by have := HC.out.1; have := HL.out; omega]
      have HX' := Lib.hid hx
      clear hx
      obtain ⟨xo, xp, xd, xe⟩ := x
      go_wp2_with fail
      refine bodyPost_ret (v := .tuple #[(⟨xo, xp, xd, xe⟩ : RowR).val, .bool is]) ?_ rfl ⟨by rw [HX'.out], ?_⟩
      · unfold RowR.val
        simp [results, Try.results12, go_sem]
      · exact (((below_alloc1 w _).alloc (by simp) _))

/-- What the rows hold between two places. -/
theorem find_hit {L : List RowR} {off : Int} {K k : Nat} {r : RowR} (hC : Cut L off K) (hU : RiseTo L L.length) (hr : L[k]? = some r) (ho : offAt L k = r.off) (h : r.off = off) : findR (lastR L K) off = (r, true) := by
  obtain ⟨h1, h2, h3⟩ := hC
  have hk : k < L.length := (List.getElem?_eq_some_iff.1 hr).1
  have hkK : k < K := by
    by_cases c : k < K
    · exact c
    · have := h3 k (by omega) hk; omega
  have hKk : K = k + 1 := by
    by_cases c : k + 1 < K
    · have h4 := h2 (k + 1) c
      have h5 := (hU (k + 1) (by omega)).2 (by omega)
      simp only [Nat.add_sub_cancel] at h5
      omega
    · omega
  subst hKk
  simp [lastR, findR, List.getD, hr, h]

theorem find_miss {L : List RowR} {off : Int} {K : Nat} (hC : Cut L off K) (h : ∀ m, m < L.length → offAt L m ≠ off) : findR (lastR L K) off = (⟨0, 0, 0, 0⟩, false) := by
  obtain ⟨h1, h2, h3⟩ := hC
  rcases K with _ | K
  · simp [lastR, findR]
  · have hk : L[K]? = some L[K] := List.getElem?_eq_getElem (by omega)
    have := h K (by omega)
    simp only [offAt, List.getD, hk, Option.getD_some] at this
    simp [lastR, findR, List.getD, hk, this]

set_option maxHeartbeats 4000000 in
theorem refFind_c (L : List RowR) (ao : Option Addr) (len cap : Nat) (off : Int) (K : Nat) (w : World) (hL : L.length = len) (hl : len ≤ 4611686018427387903) (hR : RowsIn w ao L) (hC : Cut L off K) (hU : RiseTo L L.length) :
    Calls Try.prog 10 #[.slice ao len cap, .int .i64 off] w fun e w' => e = .returned (.tuple #[(findR (lastR L K) off).1.val, .bool (findR (lastR L K) off).2]) ∧ Below w.heap.size w w' := by
  have HR := Lib.hid hR
  have HL := Lib.hid hL
  have HC := Lib.hid hC
  have HU := Lib.hid hU
  clear hL hR hC hU
  go_enter Try.func10, Try.ntmps10
  go_wp2_with fail
  go_loopg [6] len (fun gk vk wr => ∃ (k : Nat), gk + k = len ∧ vk = .int .i64 (k : Int) ∧ Hid (∀ m, m < k → offAt L m ≠ off) ∧
    wr = w.alloc (.cells #[.int .i64 0, .int .u32 0, .int .i64 0, .int .i64 0] 27))
  case atStart => exact ⟨0, rfl, rfl, Lib.hid (fun m h => absurd h (Nat.not_lt_zero _)), rfl⟩
  case round =>
    obtain ⟨k, hk, rfl, HN, rfl⟩ := hrel
    by_cases c1 : k < len
    · obtain ⟨blk, o, rfl, hbl, r, hr, ho, y0, y1, y2, y3⟩ := rows_at (rows_past HR.out (.cells #[.int .i64 0, .int .u32 0, .int .i64 0, .int .i64 0] 27)) (k := k) (by rw [HL.out]; exact c1)
      have i1 : (k : Int) < (len : Int) := by omega
      have HH := Lib.hid (find_hit HC.out HU.out hr ho)
      have HO := Lib.hid ho
      clear hr ho
      obtain ⟨ro, rp, rd, re⟩ := r
      simp only at y0 y1 y2 y3
      by_cases c2 : ro = off
      · subst c2
        go_wp2_with fail
        refine bodyPost_ret (v := .tuple #[(⟨ro, rp, rd, re⟩ : RowR).val, .bool true]) ?_ rfl ⟨by rw [HH.out (by first | trivial | rfl)], ?_⟩
        · unfold RowR.val
          simp [results, Try.results10, go_sem]
        · exact below_alloc1 w _
      · have d2 : (ro == off) = false := by simpa using c2
        go_wp2_with fail
        go_roundg (gk - 1)
        case measure => omega
        case rel => exact ⟨k + 1, by omega, rfl, Lib.hid (fun m hm => by
          by_cases h : m = k
          · subst h; rw [HO.out]; exact c2
          · exact HN.out m (by omega)), rfl⟩
    · have i1 : ¬ (k : Int) < (len : Int) := by omega
      go_wp2_with fail
      refine bodyPost_ret (v := .tuple #[(⟨0, 0, 0, 0⟩ : RowR).val, .bool false]) ?_ rfl ⟨by rw [find_miss HC.out (fun m hm => HN.out m (by have := HL.out; omega))], ?_⟩
      · unfold RowR.val
        simp [results, Try.results10, go_sem]
      · exact below_alloc1 w _

theorem rise_lt {L : List RowR} (hU : RiseTo L L.length) : ∀ m n, m < n → n < L.length → offAt L m < offAt L n := by
  intro m n h
  induction n with
  | zero => omega
  | succ n ih =>
    intro hn
    have h1 := (hU (n + 1) hn).2 (by omega)
    simp only [Nat.add_sub_cancel] at h1
    by_cases c : m = n
    · subst c; exact h1
    · have := ih (by omega) (by omega); omega

theorem rise_mono {L : List RowR} {len : Nat} (hL : L.length = len) (hU : RiseTo L L.length) (off : Int) : ∀ m n, m ≤ n → n < len → off < offAt L m → off < offAt L n := by
  intro m n h hn ho
  by_cases c : m = n
  · subst c; exact ho
  · have := rise_lt hU m n (by omega) (by omega); omega

theorem cut_uniq {L : List RowR} {off : Int} {k K : Nat} (h : Cut L off k) (h' : Cut L off K) : k = K := by
  obtain ⟨a, b, c⟩ := h
  obtain ⟨a', b', c'⟩ := h'
  rcases Nat.lt_trichotomy k K with h | h | h
  · exact absurd (c k (Nat.le_refl _) (by omega)) (b' k h)
  · exact h
  · exact absurd (c' K (Nat.le_refl _) (by omega)) (b K h)

def StandsV (x : RowR × Bool) (tally : Int) : Value := if x.2 = true then .tuple #[.int .u32 x.1.pc, .int .i64 (wrap64 (tally + x.1.done)), .bool true] else .tuple #[.int .u32 0, .int .i64 0, .bool false]

set_option maxHeartbeats 4000000 in
theorem stands_c (L : List RowR) (ao : Option Addr) (len cap : Nat) (off tally : Int) (K : Nat) (w : World) (hL : L.length = len) (hl : len ≤ 4611686018427387903) (hR : RowsIn w ao L)
    (hmono : ∀ m n, m ≤ n → n < len → off < offAt L m → off < offAt L n) (hC : Cut L off K) :
    Calls Try.prog 13 #[.slice ao len cap, .int .i64 off, .int .i64 tally] w fun e w' =>
      e = .returned (StandsV (findR (lastR L K) off) tally) ∧ Below w.heap.size w w' := by
  have HS := Lib.hid (find_c L ao len cap off w hL hl hR hmono)
  have HC := Lib.hid hC
  clear hL hR hmono hC
  go_enter Try.func13, Try.ntmps13
  go_wp2_with fail
  refine HS.out.mono ?_
  rintro e w1 ⟨k, hk, rfl, hb⟩
  obtain rfl := cut_uniq hk HC.out
  clear hk
  obtain ⟨x, hx⟩ : ∃ x, findR (lastR L k) off = x := ⟨_, rfl⟩
  rw [hx]
  have HX := Lib.hid hx
  clear hx
  obtain ⟨⟨ro, rp, rd, re⟩, is⟩ := x
  unfold RowR.val
  have s1 := hb.size
  cases is
  · go_wp2_with fail
    go_ret3
    exact ⟨by rw [HX.out]; rfl, hb.alloc hb.size _⟩
  · go_wp2_with fail
    go_quiet (fail)
    go_wp2_with fail
    go_ret3
    exact ⟨by rw [HX.out]; rfl, below_drewN (hb.alloc hb.size _) _⟩
end Go.Proofs.Ytnmgfckefofcpaa
