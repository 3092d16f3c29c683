/- '==' and '!=' of structs and arrays of whole numbers and bools, as one Bool: true just if all cells are the same. Whatever the program. -/
import Derived.Test.YtenbjnogeanglaaDoorFlat
import Derived.DeepKeys
namespace Go.Proofs.YtenbjnogeanglaaDoor
open Go.ChangeShapes Go.WideShapes Go.RowKit
set_option linter.unusedSimpArgs false
set_option linter.unusedVariables false

def litOf : Value → Lit
  | .int k n => .int k n
  | .bool b => .bool b
  | _ => .bool false

theorem okAll_length : ∀ (ks : List CK) (cs : List Value), okAll ks cs → cs.length = ks.length
  | [], [], _ => rfl
  | _ :: ks, _ :: cs, h => by simp [okAll_length ks cs h.2]
  | [], _ :: _, h => h.elim
  | _ :: _, [], h => h.elim

theorem okAll_split : ∀ (a b : List CK) (cs : List Value), okAll (a ++ b) cs → okAll a (cs.take a.length) ∧ okAll b (cs.drop a.length)
  | [], _, _, h => ⟨by simp [okAll], by simpa using h⟩
  | _ :: _, _, [], h => h.elim
  | _ :: a, b, _ :: cs, h => ⟨⟨h.1, (okAll_split a b cs h.2).1⟩, by simpa using (okAll_split a b cs h.2).2⟩

theorem okAll_inj : ∀ (ks : List CK) (xs ys : List Value), okAll ks xs → okAll ks ys → xs.map litOf = ys.map litOf → xs = ys
  | [], [], [], _, _, _ => rfl
  | k :: ks, x :: xs, y :: ys, hx, hy, h => by
    simp only [List.map_cons, List.cons.injEq] at h
    rw [okAll_inj ks xs ys hx.2 hy.2 h.2]
    have h1 := hx.1
    have h2 := hy.1
    cases k with
    | i k =>
      obtain ⟨n, rfl, _⟩ := h1
      obtain ⟨m, rfl, _⟩ := h2
      simp [litOf] at h
      rw [h.1]
    | b =>
      obtain ⟨n, rfl⟩ := h1
      obtain ⟨m, rfl⟩ := h2
      simp [litOf] at h
      rw [h.1]
  | [], _ :: _, _, h, _, _ => h.elim
  | [], [], _ :: _, _, h, _ => h.elim
  | _ :: _, [], _, h, _, _ => h.elim
  | _ :: _, _ :: _, [], _, h, _ => h.elim

section
variable {P : Program}

theorem flatF_lits {g : TypeId → Option (List CK)} {n : Nat} {cs : List Value}
    (hg : ∀ t ks (cs : List Value), g t = some ks → P.keyTypeAt n t = true → okAll ks cs → P.keyLits n t cs = some (cs.map litOf)) :
    ∀ (fs : List Field) (off : Nat) (ks : List CK), flatF P g off fs = some ks → (∀ f ∈ fs, P.keyTypeAt n f.type = true) → okAll ks ((cs.drop off).take ks.length) →
      ∃ LL, (fs.mapM fun f => P.keyLits n f.type ((cs.drop f.offset).take (P.cellsOf f.type))) = some LL ∧ LL.flatten = ((cs.drop off).take ks.length).map litOf
  | [], off, ks, h, _, _ => by
    simp only [flatF, Option.some.injEq] at h
    subst h
    exact ⟨[], rfl, by simp⟩
  | f :: fs, off, ks, h, hk, ho => by
    unfold flatF at h
    split at h
    · rename_i hof
      cases hga : g f.type with
      | none => rw [hga] at h; simp at h
      | some a =>
        rw [hga] at h
        simp only [Option.bind_some] at h
        split at h
        · rename_i hc
          cases hr : flatF P g (off + a.length) fs with
          | none => rw [hr] at h; simp at h
          | some b =>
            rw [hr] at h
            simp only [Option.map_some, Option.some.injEq] at h
            subst h
            have e : (cs.drop off).take (a ++ b).length = (cs.drop off).take a.length ++ (cs.drop (off + a.length)).take b.length := by
              rw [List.length_append, List.take_add, List.drop_drop]
            obtain ⟨o1, o2⟩ := okAll_split a b _ ho
            rw [List.length_append, List.take_take, Nat.min_eq_left (by omega)] at o1
            rw [List.length_append, List.drop_take, List.drop_drop, Nat.add_sub_cancel_left] at o2
            obtain ⟨LL, h1, h2⟩ := flatF_lits hg fs _ _ hr (fun f' m => hk f' (List.mem_cons_of_mem _ m)) o2
            have h3 := hg _ _ _ hga (hk f (List.mem_cons_self ..)) o1
            refine ⟨((cs.drop off).take a.length).map litOf :: LL, ?_, ?_⟩
            · rw [List.mapM_cons, hof, hc, h3]
              simp [h1]
            · rw [e, List.flatten_cons, h2, List.map_append]
        · cases h
    · cases h

theorem flatA_lits {n : Nat} {e : TypeId} {cs : List Value} {ks : List CK} (hg : ∀ (cs : List Value), okAll ks cs → P.keyLits n e cs = some (cs.map litOf)) (hc : P.cellsOf e = ks.length) :
    ∀ (m i : Nat), okAll (List.replicate m ks).flatten ((cs.drop (i * ks.length)).take (m * ks.length)) →
      ∃ LL, ((List.range' i m).mapM fun i => P.keyLits n e ((cs.drop (i * P.cellsOf e)).take (P.cellsOf e))) = some LL ∧ LL.flatten = ((cs.drop (i * ks.length)).take (m * ks.length)).map litOf
  | 0, i, _ => ⟨[], by simp, by simp⟩
  | m + 1, i, ho => by
    have e1 : (m + 1) * ks.length = ks.length + m * ks.length := by rw [Nat.add_mul]; omega
    have e2 : (i + 1) * ks.length = i * ks.length + ks.length := by rw [Nat.add_mul]; omega
    rw [List.replicate_succ, List.flatten_cons] at ho
    obtain ⟨o1, o2⟩ := okAll_split _ _ _ ho
    rw [e1, List.take_take, Nat.min_eq_left (by omega)] at o1
    rw [e1, List.drop_take, List.drop_drop, Nat.add_sub_cancel_left, ← e2] at o2
    obtain ⟨LL, h1, h2⟩ := flatA_lits hg hc m (i + 1) o2
    have h3 := hg _ o1
    refine ⟨((cs.drop (i * ks.length)).take ks.length).map litOf :: LL, ?_, ?_⟩
    · rw [List.range'_succ, List.mapM_cons, hc, h3]
      rw [hc] at h1
      simp [h1]
    · rw [e1, List.take_add, List.drop_drop, ← e2, List.flatten_cons, h2, List.map_append]

theorem flat_lits : ∀ (n : Nat) (t : TypeId) (ks : List CK) (cs : List Value), flat P n t = some ks → P.keyTypeAt n t = true → okAll ks cs → P.keyLits n t cs = some (cs.map litOf)
  | 0, _, _, _, h, _, _ => by simp [flat] at h
  | n + 1, t, ks, cs, h, hk, ho => by
    unfold flat at h
    unfold Program.keyTypeAt at hk
    unfold Program.keyLits
    split at h
    · rename_i hu
      simp only [Option.some.injEq] at h
      subst h
      obtain ⟨x, vs, rfl, hr⟩ := okAll_b ho
      obtain rfl := okAll_nil hr
      simp [hu, litOf]
    · rename_i k hu
      simp only [Option.some.injEq] at h
      subst h
      obtain ⟨x, vs, rfl, hw, hr⟩ := okAll_i ho
      obtain rfl := okAll_nil hr
      simp [hu, litOf, hw]
    · rename_i fs hu
      cases hF : flatF P (flat P n) 0 fs.toList with
      | none => rw [hF] at h; simp at h
      | some a =>
        rw [hF] at h
        simp only [Option.bind_some] at h
        split at h
        · rename_i hc
          simp only [Option.some.injEq] at h
          subst h
          rw [hu] at hk
          simp only [Bool.and_eq_true, Array.all_eq_true_iff_forall_mem] at hk
          have hl := okAll_length _ _ ho
          obtain ⟨LL, h1, h2⟩ := flatF_lits (n := n) (cs := cs) (fun t ks cs h h' h'' => flat_lits n t ks cs h h' h'') fs.toList 0 a hF (fun f hf => (hk.1.1 f (Array.mem_toList_iff.1 hf)).2) (by simpa [← hl] using ho)
          have hn : fs.all (fun x => x.name != "_") = true := by
            rw [Array.all_eq_true_iff_forall_mem]
            exact fun f hf => (hk.1.1 f hf).1
          rw [hu]
          simp only []
          rw [if_pos ⟨hl.trans hc.symm, hn⟩, h1]
          simp only [Option.map_some, h2]
          simp [← hl]
        · cases h
    · rename_i m e hu
      cases hF : flat P n e with
      | none => rw [hF] at h; simp at h
      | some a =>
        rw [hF] at h
        simp only [Option.bind_some] at h
        split at h
        · rename_i hc
          simp only [Option.some.injEq] at h
          subst h
          rw [hu] at hk
          have hl := okAll_length _ _ ho
          have hl' : cs.length = m * a.length := by rw [hl]; simp
          obtain ⟨LL, h1, h2⟩ := flatA_lits (n := n) (cs := cs) (ks := a) (fun cs h' => flat_lits n e a cs hF hk h') hc.1 m 0 (by simpa [← hl'] using ho)
          rw [hu]
          simp only []
          rw [if_pos (hl'.trans hc.2.symm), List.range_eq_range', h1]
          simp only [Option.map_some, h2]
          simp [← hl']
        · cases h
    · cases h

/-- '==' of two such values: true just if all cells are the same. -/
theorem run_equal_flat {n : Nat} (hn : n ≤ 10000) {t : TypeId} {ks : List CK} (hF : flat P n t = some ks) (hk : P.keyTypeAt n t = true) (hc : P.cellsOf t = ks.length) (hs : (match P.underlying t with | some (.struct _) | some (.array _ _) => true | _ => false) = true)
    {xs ys : List Value} (hx : okAll ks xs) (hy : okAll ks ys) : ∃ r : Bool, (∀ w, (Op.equal t (.agg xs.toArray) (.agg ys.toArray)).run P w = .ok r w) ∧ (r = true ↔ xs = ys) := by
  have fm : ∀ {zs : List Value}, okAll ks zs → (Value.agg zs.toArray).formed P t = true := by
    intro zs hz
    have := okAll_length _ _ hz
    unfold Value.formed
    split at hs <;> simp_all
  have lits : ∀ {zs : List Value}, okAll ks zs → P.keyLits n t (Value.agg zs.toArray).cells.toList = some (zs.map litOf) := by
    intro zs hz
    simpa [Value.cells] using flat_lits n t ks zs hF hk hz
  refine ⟨@decide (xs = ys) (Classical.propDecidable _), fun w => ?_, by simp⟩
  obtain ⟨r, hr, hiff⟩ := run_equalIn_deep (10000 - n) n t hk w n n (.agg xs.toArray) (.agg ys.toArray) _ _ (fm hx) (fm hy) (lits hx) (lits hy)
  rw [show 10000 - n + n = 10000 by omega] at hr
  have hiff' : r = true ↔ xs = ys := hiff.trans ⟨fun h => okAll_inj ks xs ys hx hy h, fun h => by rw [h]⟩
  have : r = @decide (xs = ys) (Classical.propDecidable _) := by
    rw [Bool.eq_iff_iff, hiff']; simp
  rw [← this]
  exact hr

theorem run_eql_flat {n : Nat} (hn : n ≤ 10000) {t : TypeId} {ks : List CK} (hF : flat P n t = some ks) (hk : P.keyTypeAt n t = true) (hc : P.cellsOf t = ks.length) (hs : (match P.underlying t with | some (.struct _) | some (.array _ _) => true | _ => false) = true)
    {xs ys : List Value} (hx : okAll ks xs) (hy : okAll ks ys) : ∃ r : Bool, (∀ w, (binOp .eql t (.agg xs.toArray) (.agg ys.toArray)).run P w = .ok (.bool r) w) ∧ (∀ w, (binOp .neq t (.agg xs.toArray) (.agg ys.toArray)).run P w = .ok (.bool !r) w) ∧ (r = true ↔ xs = ys) := by
  obtain ⟨r, h1, h2⟩ := run_equal_flat hn hF hk hc hs hx hy
  exact ⟨r, fun w => by simp [binOp, Sem.run_bind, h1 w], fun w => by simp [binOp, Sem.run_bind, h1 w], h2⟩
end
end Go.Proofs.YtenbjnogeanglaaDoor
