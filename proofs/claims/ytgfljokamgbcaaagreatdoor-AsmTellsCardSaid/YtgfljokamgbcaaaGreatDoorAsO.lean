/- The walk of asm's instruction. (Written by mkAO.py.) -/
import Derived.Test.YtgfljokamgbcaaaGreatDoorAsN
import Derived.Test.YtgfljokamgbcaaaGreatDoorAsH
import Derived.Test.YtgfljokamgbcaaaGreatDoorAsP
import Derived.Lib.Join
namespace Go.Proofs.YtgfljokamgbcaaaGreatDoor
open Go.RowKit
set_option linter.unusedSimpArgs false
set_option linter.unusedVariables false
set_option maxRecDepth 100000

theorem own_baseA {w : World} {b0 base e s n : Nat} {v : Value} {xs : List Value} (h : w.ownsRow base e s v n xs) (hb : b0 ≤ base) : w.ownsRow b0 e s v n xs := by
  obtain ⟨h1, h2 | ⟨g, cap, cur, h3, h4, h5⟩⟩ := h
  · exact ⟨h1, .inl h2⟩
  · exact ⟨h1, .inr ⟨g, cap, cur, h3, Nat.le_trans hb h4, h5⟩⟩
theorem read_first {w : Wd} {rest : List Wd} {op o a b i : Int} (h : opF w = some op) (hr : readF (joinF (w :: rest)) = .ok (o, a, b, i)) : o = op ∧ Isa.mayB (Isa.fm op false) a b i = true := by
  obtain ⟨n, hn, rfl, rfl, hg⟩ := opF_is h
  have hch : ∀ c ∈ n.word, c ≠ 32 := fun c hc e => by
    have := (nm_plain_of hn).2.2.2 c hc
    rw [e] at this
    exact absurd this.1 (by decide)
  have hsp : (splitF (joinF (n.word :: rest))).headD [] = n.word := by
    cases rest with
    | nil => rw [split_join [] n.word (by simpa using hch)]; rfl
    | cons x r =>
      have : joinF (n.word :: x :: r) = n.word ++ 32 :: (x ++ r.flatMap (fun x => 32 :: x)) := by simp [joinF]
      rw [this, split_word _ _ hch]
      rfl
  unfold readF at hr
  split at hr
  · cases hr
  · rw [hsp, find_key hn (fun m => decide (m.word = n.word)) (by simp) (fun m hm h => word_uniq hn hm (of_decide_eq_true h))] at hr
    simp only at hr
    cases ho : ofF n (splitF (joinF (n.word :: rest))) with
    | error e => rw [ho] at hr; cases hr
    | ok t =>
      obtain ⟨a', b', i'⟩ := t
      rw [ho] at hr
      cases hr
      have := (of_read hn hsp ho).2
      rw [fm_host hg] at this
      exact ⟨rfl, this⟩

theorem named_is {S : St} {ws l : List Wd} {op : Int} (h : namedF S ws op = .ok l) (hne : ws ≠ []) (hl : ∀ s ∈ ws, s.length ≤ 10000) (hlb : ∀ p ∈ S.labels, 0 ≤ p.2 ∧ p.2 ≤ 4096) (a0 : 0 ≤ S.at') (a1 : S.at' ≤ 4096) :
    l ≠ [] ∧ l.headD [] = ws.headD [] ∧ l.length ≤ ws.length ∧ ∀ s ∈ l, s.length ≤ 10000 := by
  unfold namedF at h
  split at h
  · cases h
    exact ⟨hne, rfl, Nat.le_refl _, hl⟩
  · rename_i hc
    simp only [not_or] at hc
    obtain ⟨c1, c2, c3⟩ := hc
    have hk : labelled op = 2 ∨ labelled op = 3 := by revert c1; unfold labelled; split <;> (try split) <;> simp
    have hlen : ws.length = labelled op := by omega
    have key : ∀ v : Int, -10000 ≤ v ∧ v ≤ 10000 → (ws.take (labelled op - 1) ++ [Lib.itoa v]) ≠ [] ∧ (ws.take (labelled op - 1) ++ [Lib.itoa v]).headD [] = ws.headD [] ∧ (ws.take (labelled op - 1) ++ [Lib.itoa v]).length ≤ ws.length ∧ ∀ s ∈ (ws.take (labelled op - 1) ++ [Lib.itoa v]), s.length ≤ 10000 := fun v hv => by
      refine ⟨by simp, ?_, by simp; omega, fun s hs => ?_⟩
      · cases ws with
        | nil => exact absurd rfl hne
        | cons x r =>
          obtain ⟨j, hj⟩ : ∃ j, labelled op - 1 = j + 1 := ⟨labelled op - 2, by omega⟩
          rw [hj]
          rfl
      · rcases List.mem_append.1 hs with h | h
        · exact hl s (List.mem_of_mem_take h)
        · have hs2 : s = Lib.itoa v := by simpa using h
          rw [hs2]
          have := itoa_len v (by omega) (by omega)
          omega
    have hbv : ∀ v, valueF true S.labels (ws.getD (labelled op - 1) []) = .ok v → 0 ≤ v ∧ v ≤ 4096 := fun v hv => by
      unfold valueF at hv
      rw [if_neg (by decide), if_pos (by simpa using c3)] at hv
      cases hf : findL S.labels (ws.getD (labelled op - 1) []) with
      | none => rw [hf] at hv; cases hv
      | some a =>
        rw [hf] at hv
        cases hv
        obtain ⟨p, hp, rfl⟩ := find_mem hf
        exact hlb p hp
    cases hv : valueF true S.labels (ws.getD (labelled op - 1) []) with
    | error e => rw [hv] at h; cases h
    | ok v =>
      have hb := hbv v hv
      rw [hv] at h
      simp only at h
      have hs6 : 0 ≤ (Isa.fm op false).n ∧ (Isa.fm op false).n ≤ 6 := by rcases Isa.fm_is op false with h | h | h | h | h | h | h | h | h | h <;> rw [h] <;> decide
      split at h
      · cases h; exact key v (by omega)
      · split at h
        · cases h
        · cases h; exact key _ (by omega)
theorem join_len : ∀ (l : List Wd), (∀ s ∈ l, s.length ≤ 10000) → (joinF l).length ≤ 10001 * l.length
  | [], _ => by simp [joinF]
  | x :: r, h => by
    have hr : ∀ (l : List Wd), (∀ s ∈ l, s.length ≤ 10000) → (l.flatMap (fun x => (32 : UInt8) :: x)).length ≤ 10001 * l.length := by
      intro l
      induction l with
      | nil => intro _; simp
      | cons y t ih =>
        intro h
        have h1 := ih (fun s hs => h s (List.mem_cons_of_mem _ hs))
        have h2 := h y (List.mem_cons_self ..)
        simp only [List.flatMap_cons, List.length_append, List.length_cons]
        omega
    have h1 := hr r (fun s hs => h s (List.mem_cons_of_mem _ hs))
    have h2 := h x (List.mem_cons_self ..)
    simp only [joinF, List.length_append, List.length_cons]
    omega
theorem join_is (l : List Wd) : Lib.join l [32] = joinF l := by
  cases l with
  | nil => rfl
  | cons x r =>
    rw [Lib.join_cons]
    simp only [joinF, Lib.joinTail, List.flatMap_def]
    rfl
theorem join_c {vs : List Wd} {ao : Option Addr} {cap : Nat} (hne : vs ≠ []) (hn : vs.length ≤ 10000) (hl : ∀ s ∈ vs, s.length ≤ 10000) (hcap : vs.length ≤ cap) (w : World) (hW : WdIn w ao vs) :
    Calls Tryz.prog 56 #[.slice ao vs.length cap, .string ⟨#[32]⟩] w fun e w' => e = .returned (.string ⟨(joinF vs).toArray⟩) ∧ Below w.heap.size w w' := by
  obtain ⟨x, r, rfl⟩ : ∃ x r, vs = x :: r := List.exists_cons_of_ne_nil hne
  obtain ⟨blk, off, rfl, hb, -⟩ := wd_at hW (i := 0) rfl
  have hmap : ((x :: r).map (fun s : Wd => (⟨s.toArray⟩ : ByteArray))).map (·.data.toList) = x :: r := by
    rw [List.map_map]
    simp [Function.comp_def]
  have h := Tryz.strings_Join blk off cap ((x :: r).map fun s : Wd => (⟨s.toArray⟩ : ByteArray)) ⟨#[32]⟩ w (fun j s hs => by
    rw [List.getElem?_map, Option.map_eq_some_iff] at hs
    obtain ⟨t, ht, rfl⟩ := hs
    rcases hW with h | ⟨b, o, he, h⟩
    · cases h
    · cases he
      exact h j t ht) hb (by rw [List.length_map]; omega) (by rw [List.length_map]; exact hcap) (by
        rw [hmap]
        have h1 := join_len (x :: r) hl
        have h2 : Lib.join (x :: r) [32] = joinF (x :: r) := join_is _
        rw [show (⟨#[32]⟩ : ByteArray).data.toList = [32] from rfl, h2]
        omega)
  rw [hmap, show (⟨#[32]⟩ : ByteArray).data.toList = [32] from rfl, join_is, List.length_map] at h
  exact h

theorem named_c (base wk pb ob : Nat) (S : St) (op n : Int) (ao : Option Addr) (cap : Nat) (ws : List Wd) (w : World) (h : AsOk base wk pb ob true S w) (hl : LnOk w ao ws cap) (o0 : 0 ≤ op) (o1 : op < 256) :
    Calls Tryz.prog 57 #[.pointer (some ⟨wk, 0, none⟩), lnV n ao ws.length cap, .int .u8 op] w (NamP (namedF S ws op) w) := by
  by_cases hc : labelled op = 0 ∨ ws.length ≠ labelled op ∨ letterB ((ws.getD (labelled op - 1) []).headD 0) = false
  · have : namedF S ws op = .ok ws := by unfold namedF; rw [if_pos hc]
    rw [this]
    exact named_same wk op n ao cap ws w hl o0 o1 hc
  · simp only [not_or] at hc
    exact named_lab base wk pb ob S op n ao cap ws w h hl o0 o1 hc.1 (by have := hc.2.1; omega) (by simpa using hc.2.2)

set_option maxHeartbeats 8000000 in
theorem instr_first (base wk pb ob : Nat) (S : St) (n op : Int) (ao : Option Addr) (cap : Nat) (ws : List Wd) (w : World) (h : AsOk base wk pb ob false S w) (o0 : 0 ≤ op) (o1 : op < 256) :
    Calls Tryz.prog 29 #[.pointer (some ⟨wk, 0, none⟩), lnV n ao ws.length cap, .int .u8 op] w (MetP base wk pb ob false (instrF false S n ws op) w) := by
  have hs6 : 0 ≤ (Isa.fm op false).n ∧ (Isa.fm op false).n ≤ 6 := by rcases Isa.fm_is op false with h | h | h | h | h | h | h | h | h | h <;> rw [h] <;> decide
  have HSz := Lib.hid fun W => Isa.size_c op false W o0 o1
  obtain ⟨RR, hRR⟩ : ∃ RR, instrF false S n ws op = RR := ⟨_, rfl⟩
  rw [hRR]
  unfold instrF at hRR
  rw [if_pos rfl] at hRR
  generalize (Isa.fm op false).n = sz2 at HSz hs6 hRR
  have hA0 := h.a0
  have hA1 := h.a1
  have hw1 : IntKind.i64.wrap (S.at' + sz2) = S.at' + sz2 := IntWalk.i64_in _ ⟨by omega, by omega⟩
  have hs := h.hs
  have HTO := Lib.hid fun (W : World) (hW : Below w.heap.size w W) => to_m base wk pb ob false S (S.at' + sz2) W (h.below hW) (by omega) (by omega)
  rw [hRR] at HTO
  obtain ⟨k0, k1, -, -, hlt⟩ := h.cell
  clear h hRR
  unfold lnV
  go_enter Tryz.func29, Tryz.ntmps29
  go_wp2_with fail
  obtain ⟨w0, hw0⟩ : ∃ x, x = w.alloc (.cells #[.int .i64 n, .slice ao ws.length cap] 51) := ⟨_, rfl⟩
  rw [← hw0]
  have hb0 : Below w.heap.size w w0 := by rw [hw0]; exact (Below.refl _ _).alloc (Nat.le_refl _) _
  have k0d : w0.drew.cell? ⟨wk, 0, none⟩ = some (.int .i64 S.at') := (hb0.cell (p := ⟨wk, 0, none⟩) hlt).trans k0
  have hb0d : Below w.heap.size w w0.drew := hb0.drew
  clear hw0 k1
  refine wp_region_held_drew (S := fun _ => True) (by kernel_rfl) trivial (fun hHeld => ?_)
  refine wpAnyH_take (i := 0) (oi := ⟨some 15, Op.move (Operand.tmp 0), _, _, _, none⟩) (v := .pointer (some ⟨wk, 0, none⟩)) rfl (by kernel_rfl) (by kernel_rfl) (by kernel_rfl) (fun _ _ _ h => h) (Or.inl ⟨by rfl, ?_⟩) hHeld ?_
  · intro w' hSw
    skip
    go_simp
  try simp only [Act.put, List.setIfInBounds_toArray, List.set_cons_zero, List.set_cons_succ]
  refine wpAnyH_take (i := 1) (oi := ⟨some 16, Op.move (Operand.tmp 0), _, _, _, none⟩) (v := .pointer (some ⟨wk, 0, none⟩)) rfl (by kernel_rfl) (by kernel_rfl) (by kernel_rfl) (fun _ _ _ h => h) (Or.inl ⟨by rfl, ?_⟩) hHeld ?_
  · intro w' hSw
    skip
    go_simp
  try simp only [Act.put, List.setIfInBounds_toArray, List.set_cons_zero, List.set_cons_succ]
  refine wpAnyH_take (i := 2) (oi := ⟨some 17, Op.nilCheck (Operand.tmp 16), _, _, _, none⟩) (v := .pointer (some ⟨wk, 0, none⟩)) rfl (by kernel_rfl) (by kernel_rfl) (by kernel_rfl) (fun _ _ _ h => h) (Or.inl ⟨by rfl, ?_⟩) hHeld ?_
  · intro w' hSw
    skip
    go_simp
  try simp only [Act.put, List.setIfInBounds_toArray, List.set_cons_zero, List.set_cons_succ]
  refine wpAnyH_take (i := 3) (oi := ⟨some 18, Op.fieldAddr _ (Operand.tmp 17) 0, _, _, _, none⟩) (v := .pointer (some ⟨wk, 0, none⟩)) rfl (by kernel_rfl) (by kernel_rfl) (by kernel_rfl) (fun _ _ _ h => h) (Or.inl ⟨by rfl, ?_⟩) hHeld ?_
  · intro w' hSw
    skip
    go_simp
  try simp only [Act.put, List.setIfInBounds_toArray, List.set_cons_zero, List.set_cons_succ]
  refine wpAnyH_take (i := 5) (oi := ⟨some 20, Op.move (Operand.tmp 2), _, _, _, none⟩) (v := .int .u8 op) rfl (by kernel_rfl) (by kernel_rfl) (by kernel_rfl) (fun _ _ _ h => h) (Or.inl ⟨by rfl, ?_⟩) hHeld ?_
  · intro w' hSw
    skip
    go_simp
  try simp only [Act.put, List.setIfInBounds_toArray, List.set_cons_zero, List.set_cons_succ]
  refine wpAnyH_ready (rs := [4, 6]) (by kernel_rfl) (by simp) ?_
  refine (AllReadyH.cons (o := ⟨some 19, Op.load _ (Operand.tmp 18), _, _, _, none⟩) rfl (fun K hK => ?_) (AllReadyH.cons (o := ⟨some 21, Op.call { callee := Callee.value (Operand.func _), args := #[Operand.tmp 20, Operand.const (Value.bool false)], argTypes := _ }, _, _, _, none⟩) rfl (fun K hK => ?_) AllReadyH.nil))
  · go_simp
    refine hK.out _ _ trivial (fun _ => ?_)
    clear hK K
    try simp only [Act.put, List.setIfInBounds_toArray, List.set_cons_zero, List.set_cons_succ]
    refine wpAnyH_ready (rs := [6]) (by kernel_rfl) (by simp) ?_
    refine (AllReadyH.cons (o := ⟨some 21, Op.call { callee := Callee.value (Operand.func _), args := #[Operand.tmp 20, Operand.const (Value.bool false)], argTypes := _ }, _, _, _, none⟩) rfl (fun K hK => ?_) AllReadyH.nil)
    · go_simp
      go_at_call 54
      refine (HSz.out _).mono ?_
      rintro e w2 ⟨rfl, hb2⟩
      have hB2 : Below w.heap.size w w2 := hb0d.trans (hb2.mono hb0d.size)
      have k0e : w2.cell? ⟨wk, 0, none⟩ = some (.int .i64 S.at') := (hb2.cell (p := ⟨wk, 0, none⟩) (by have := hb0d.size; exact Nat.lt_of_lt_of_le hlt this)).trans k0d
      refine hK.out _ _ trivial (fun _ => ?_)
      clear hK K
      try simp only [Act.put, List.setIfInBounds_toArray, List.set_cons_zero, List.set_cons_succ]
      refine wpAnyH_take (i := 7) (oi := ⟨some 22, Op.binOp BinOp.add _ (Operand.tmp 19) (Operand.tmp 21) _, _, _, _, none⟩) (v := .int .i64 (S.at' + sz2)) rfl (by kernel_rfl) (by kernel_rfl) (by kernel_rfl) (fun _ _ _ h => h) (Or.inl ⟨by rfl, ?_⟩) hHeld ?_
      · intro w' hSw
        skip
        go_simp
      try simp only [Act.put, List.setIfInBounds_toArray, List.set_cons_zero, List.set_cons_succ]
      refine wpAnyH_ready (rs := [8]) (by kernel_rfl) (by simp) ?_
      refine (AllReadyH.cons (o := ⟨some 23, Op.call { callee := Callee.value (Operand.func _), args := #[Operand.tmp 15, Operand.tmp 22], argTypes := _ }, _, _, _, none⟩) rfl (fun K hK => ?_) AllReadyH.nil)
      · go_simp
        go_at_call 53
        refine (HTO.out _ hB2).mono ?_
        rintro e w3 hm
        obtain ⟨f1, hm'⟩ := hm.pre hB2 hs
        rcases RR with er | TT
        · obtain rfl := hm'
          exact ⟨rfl, f1, rfl⟩
        obtain ⟨rfl, f2⟩ := hm'
        refine hK.out _ _ trivial (fun _ => ?_)
        clear hK K
        try simp only [Act.put, List.setIfInBounds_toArray, List.set_cons_zero, List.set_cons_succ]
        refine wpAnyH_done (by kernel_rfl) ?_ _
        go_wp2_with fail
        go_end0
        exact ⟨f1, rfl, f2⟩
  · go_simp
    go_at_call 54
    refine (HSz.out _).mono ?_
    rintro e w2 ⟨rfl, hb2⟩
    have hB2 : Below w.heap.size w w2 := hb0d.trans (hb2.mono hb0d.size)
    have k0e : w2.cell? ⟨wk, 0, none⟩ = some (.int .i64 S.at') := (hb2.cell (p := ⟨wk, 0, none⟩) (by have := hb0d.size; exact Nat.lt_of_lt_of_le hlt this)).trans k0d
    refine hK.out _ _ trivial (fun _ => ?_)
    clear hK K
    try simp only [Act.put, List.setIfInBounds_toArray, List.set_cons_zero, List.set_cons_succ]
    refine wpAnyH_ready (rs := [4]) (by kernel_rfl) (by simp) ?_
    refine (AllReadyH.cons (o := ⟨some 19, Op.load _ (Operand.tmp 18), _, _, _, none⟩) rfl (fun K hK => ?_) AllReadyH.nil)
    · go_simp
      refine hK.out _ _ trivial (fun _ => ?_)
      clear hK K
      try simp only [Act.put, List.setIfInBounds_toArray, List.set_cons_zero, List.set_cons_succ]
      refine wpAnyH_take (i := 7) (oi := ⟨some 22, Op.binOp BinOp.add _ (Operand.tmp 19) (Operand.tmp 21) _, _, _, _, none⟩) (v := .int .i64 (S.at' + sz2)) rfl (by kernel_rfl) (by kernel_rfl) (by kernel_rfl) (fun _ _ _ h => h) (Or.inl ⟨by rfl, ?_⟩) hHeld ?_
      · intro w' hSw
        skip
        go_simp
      try simp only [Act.put, List.setIfInBounds_toArray, List.set_cons_zero, List.set_cons_succ]
      refine wpAnyH_ready (rs := [8]) (by kernel_rfl) (by simp) ?_
      refine (AllReadyH.cons (o := ⟨some 23, Op.call { callee := Callee.value (Operand.func _), args := #[Operand.tmp 15, Operand.tmp 22], argTypes := _ }, _, _, _, none⟩) rfl (fun K hK => ?_) AllReadyH.nil)
      · go_simp
        go_at_call 53
        refine (HTO.out _ hB2).mono ?_
        rintro e w3 hm
        obtain ⟨f1, hm'⟩ := hm.pre hB2 hs
        rcases RR with er | TT
        · obtain rfl := hm'
          exact ⟨rfl, f1, rfl⟩
        obtain ⟨rfl, f2⟩ := hm'
        refine hK.out _ _ trivial (fun _ => ?_)
        clear hK K
        try simp only [Act.put, List.setIfInBounds_toArray, List.set_cons_zero, List.set_cons_succ]
        refine wpAnyH_done (by kernel_rfl) ?_ _
        go_wp2_with fail
        go_end0
        exact ⟨f1, rfl, f2⟩

set_option maxHeartbeats 8000000 in
theorem instr_again (base wk pb ob : Nat) (S : St) (n op : Int) (ao : Option Addr) (cap : Nat) (ws : List Wd) (w : World) (h : AsOk base wk pb ob true S w) (hl : LnOk w ao ws cap) (hne : ws ≠ []) (hn : ws.length ≤ 10000) (hop : opF (ws.headD []) = some op) (o0 : 0 ≤ op) (o1 : op < 256) :
    Calls Tryz.prog 29 #[.pointer (some ⟨wk, 0, none⟩), lnV n ao ws.length cap, .int .u8 op] w (MetP base wk pb ob true (instrF true S n ws op) w) := by
  have hG0 := give_c
  have HG := Lib.hid hG0
  clear hG0
  have HA := Lib.hid h
  have HL := Lib.hid hl
  have HNm := Lib.hid fun (W : World) (hW : Below w.heap.size w W) => named_c base wk pb ob S op n ao cap ws W (h.below hW) (hl.below hW) o0 o1
  have HIs := Lib.hid fun l (hh : namedF S ws op = .ok l) => named_is hh hne (fun s hs => (hl.each s hs).2) h.lb h.a0 h.a1
  have HRd := Lib.hid fun l (hh : namedF S ws op = .ok l) o a b i (hr : readF (joinF l) = .ok (o, a, b, i)) => (show o = op ∧ Isa.mayB (Isa.fm op false) a b i = true from by
    obtain ⟨g1, g2, -, -⟩ := HIs.out l hh
    obtain ⟨x, r, rfl⟩ := List.exists_cons_of_ne_nil g1
    have g3 : x = ws.headD [] := g2
    exact read_first (by rw [g3]; exact hop) hr)
  have hs := h.hs
  obtain ⟨RR, hRR⟩ : ∃ RR, instrF true S n ws op = RR := ⟨_, rfl⟩
  rw [hRR]
  unfold instrF at hRR
  rw [if_neg (by decide)] at hRR
  generalize namedF S ws op = NN at HNm HIs HRd hRR
  have HRR := Lib.hid hRR
  obtain ⟨k0, k1, -, -, hlt⟩ := h.cell
  have HNL := Lib.hid hn
  clear h hl hRR hop hn k0 hne
  unfold lnV at HNm ⊢
  go_enter Tryz.func29, Tryz.ntmps29
  go_wp2_with fail
  have hb0 : Below w.heap.size w (w.alloc (.cells #[.int .i64 n, .slice ao ws.length cap] 51)) := (Below.refl _ _).alloc (Nat.le_refl _) _
  refine (HNm.out _ hb0).mono ?_
  rintro e w1 ⟨hb1, hm⟩
  have hB1 := hb0.trans (hb1.mono hb0.size)
  have hbx1 : w1.heap[w.heap.size]? = some (.cells #[.int .i64 n, .slice ao ws.length cap] 51 (0, 0)) := (hb1.block _ (by simp)).trans (heap_alloc_new w _)
  have HBX1 := Lib.hid hbx1
  have HB1 := Lib.hid hB1
  have hs1 : w.heap.size < w1.heap.size := heap_ltA hbx1
  clear hb1 hbx1 hB1 hb0 k1
  rcases NN with er | l
  · obtain rfl := hm
    obtain rfl : RR = .error er := HRR.out.symm
    exact ⟨rfl, Fr.of_below HB1.out hs, rfl⟩
  obtain ⟨ao', cap', rfl, hW1, hc1⟩ := hm
  have HJ := Lib.hid (join_c (HIs.out l rfl).1 (Nat.le_trans (HIs.out l rfl).2.2.1 HNL.out) (HIs.out l rfl).2.2.2 hc1 w1 hW1)
  clear hW1 hc1
  go_wp2_with fail
  refine HJ.out.mono ?_
  rintro e w2 ⟨rfl, hb2⟩
  have hbx2 := (hb2.block _ hs1).trans HBX1.out
  have HBX2 := Lib.hid hbx2
  have HB2 := Lib.hid (HB1.out.trans (hb2.mono HB1.out.size))
  have hs2 : w.heap.size < w2.heap.size := heap_ltA hbx2
  have hjl : (joinF l).length ≤ 9223372036854775807 := by
    have h1 := join_len l (HIs.out l rfl).2.2.2
    have h2 := (HIs.out l rfl).2.2.1
    have h3 := HNL.out
    omega
  have HRc := Lib.hid (read_c (joinF l) hjl w2)
  clear hb2 hbx2 HBX1 HJ hjl
  have HRR2 := Lib.hid (show (match readF (joinF l) with | .error e => Except.error e | .ok (o, a, b, i) => layF true S n (Isa.encL (Isa.fm o false) o a b i)) = RR from HRR.out)
  have HRd2 := Lib.hid (HRd.out l rfl)
  have hrb : ∀ er, readF (joinF l) = .error er → er = 40 ∨ er = 41 := fun er hh => read_bad hh
  have hro : ∀ o a b i, readF (joinF l) = .ok (o, a, b, i) → (0 ≤ o ∧ o < 256) ∧ (0 ≤ a ∧ a < 8) ∧ (0 ≤ b ∧ b < 8) ∧ -2147483648 ≤ i ∧ i < 2147483648 := fun o a b i hh => read_bounds hh
  clear HRd HRR
  generalize readF (joinF l) = Q at HRc HRR2 HRd2 hrb hro
  generalize (⟨(joinF l).toArray⟩ : ByteArray) = sb at HRc
  unfold readV insR at HRc
  go_wp2_with fail
  refine HRc.out.mono ?_
  rintro e w3 ⟨rfl, hb3⟩
  have hbx3 := (hb3.block _ hs2).trans HBX2.out
  have HBX3 := Lib.hid hbx3
  have HB3 := Lib.hid (HB2.out.trans (hb3.mono HB2.out.size))
  have hs3 : w.heap.size < w3.heap.size := heap_ltA hbx3
  clear hb3 hbx3 HBX2 HRc
  rcases Q with er | ⟨o, a, b, i⟩
  · have her := hrb er rfl
    have d1 : (er != 0) = true := by simp; omega
    obtain rfl : RR = .error er := HRR2.out.symm
    simp only
    go_wp2_with fail
    refine (HG.out _ _).mono ?_
    rintro e w4 ⟨rfl, rfl⟩
    exact ⟨rfl, Fr.of_below (HB3.out.alloc (by omega) _) hs, rfl⟩
  · obtain ⟨rfl, hmay⟩ := HRd2.out o a b i rfl
    obtain ⟨-, ⟨q1, q2⟩, ⟨q3, q4⟩, q5, q6⟩ := hro o a b i rfl
    have HRR3 := Lib.hid (show layF true S n (Isa.encL (Isa.fm o false) o a b i) = RR from HRR2.out)
    have HEn := Lib.hid fun W => Isa.encode_yes o a b i false W o0 o1 q1 (by omega) q3 (by omega) q5 q6 hmay
    have hen := encL_len hmay
    have hs6 : 1 ≤ (Isa.fm o false).n ∧ (Isa.fm o false).n ≤ 6 := by
      have h0 : (Isa.fm o false).n ≠ 0 := by
        intro h0
        unfold Isa.mayB at hmay
        simp [h0] at hmay
      rcases Isa.fm_is o false with h | h | h | h | h | h | h | h | h | h <;> rw [h] at h0 ⊢ <;> revert h0 <;> decide
    rw [hen.symm] at hs6
    unfold Isa.insV at HEn
    clear HRR2 HRd2 hrb hro hmay hen
    generalize Isa.encL (Isa.fm o false) o a b i = L at HEn HRR3 hs6
    have hs6' : 1 ≤ L.length ∧ L.length ≤ 6 := by omega
    have HS6 := Lib.hid hs6'
    clear hs6 hs6'
    simp only
    go_wp2_with fail
    refine (HEn.out _).mono ?_
    rintro e w4 ⟨hb4, -, hv4⟩
    obtain ⟨v4, rfl, hown4⟩ := hv4 rfl
    have hb3' : Below w.heap.size w (w3.alloc (.cells #[.int .u8 o, .int .u8 a, .int .u8 b, .int .i32 i] 67)) := HB3.out.alloc HB3.out.size _
    have hown5 : w4.ownsRow w.heap.size 5 1 v4 L.length (L.map (Value.int .u8)) := own_baseA hown4 hb3'.size
    have hB4 := hb3'.trans (hb4.mono hb3'.size)
    have hbx4 : w4.heap[w.heap.size]? = some (.cells #[.int .i64 n, .slice ao ws.length cap] 51 (0, 0)) := (hb4.block _ (by simp; omega)).trans ((Below.heap_alloc _ _ _ hs3).trans HBX3.out)
    have hs4 : w.heap.size < w4.heap.size := heap_ltA hbx4
    have q0 : w4.cell? ⟨w.heap.size, 0, none⟩ = some (.int .i64 n) := cell_of_row w4 _ 0 _ _ _ hbx4
    have q1' : w4.cell? ⟨w.heap.size, 1, none⟩ = some (.slice ao ws.length cap) := cell_of_row w4 _ 1 _ _ _ hbx4
    have HLy := Lib.hid (lay_m base wk pb ob true S n ao ws.length cap v4 L w w4 HA.out hB4 hown5 HS6.out.1 (by have := HS6.out.2; omega))
    rw [HRR3.out] at HLy
    unfold lnV at HLy
    obtain ⟨a4, c4, rfl⟩ := own_sliceA hown5
    clear hb4 hown4 hb3' hown5 hbx4 hv4 HBX3 HRR3
    go_wp2_with fail
    refine HLy.out.mono ?_
    rintro e w5 ⟨f1, hm⟩
    rcases RR with er | TT
    · obtain rfl := hm
      exact ⟨rfl, f1, rfl⟩
    obtain ⟨rfl, f2⟩ := hm
    go_wp2_with fail
    go_end0
    exact ⟨f1, rfl, f2⟩

theorem instr_c (base wk pb ob : Nat) (again : Bool) (S : St) (n op : Int) (ao : Option Addr) (cap : Nat) (ws : List Wd) (w : World) (h : AsOk base wk pb ob again S w) (hl : LnOk w ao ws cap) (hne : ws ≠ []) (hn : ws.length ≤ 10000) (hop : opF (ws.headD []) = some op) (o0 : 0 ≤ op) (o1 : op < 256) :
    Calls Tryz.prog 29 #[.pointer (some ⟨wk, 0, none⟩), lnV n ao ws.length cap, .int .u8 op] w (MetP base wk pb ob again (instrF again S n ws op) w) := by
  cases again
  · exact instr_first base wk pb ob S n op ao cap ws w h o0 o1
  · exact instr_again base wk pb ob S n op ao cap ws w h hl hne hn hop o0 o1
end Go.Proofs.YtgfljokamgbcaaaGreatDoor
