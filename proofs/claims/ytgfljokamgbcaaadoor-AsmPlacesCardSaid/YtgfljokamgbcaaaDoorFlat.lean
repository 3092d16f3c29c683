/- A struct or an array of whole numbers and bools, arrays and structs in it included, that came in as an argument: its value is a row of cells, each of its kind. Whatever the program. -/
import Derived.WalkKit
import Derived.ProofKit
import Derived.OpenShut
namespace Go.Proofs.YtgfljokamgbcaaaDoor
open Go.ChangeShapes Go.WideShapes Go.RowKit

/-- The kind of a cell. -/
inductive CK where
  | i (k : IntKind)
  | b

def CK.ok : CK → Value → Prop
  | .i k, v => ∃ n, v = .int k n ∧ (Lit.int k n).wf = true
  | .b, v => ∃ x, v = .bool x

def okAll : List CK → List Value → Prop
  | [], [] => True
  | k :: ks, v :: vs => k.ok v ∧ okAll ks vs
  | _, _ => False

theorem okAll_append : ∀ (a : List CK) (xs : List Value) (b : List CK) (ys : List Value), okAll a xs → okAll b ys → okAll (a ++ b) (xs ++ ys)
  | [], [], _, _, _, h => h
  | _ :: a, _ :: xs, b, ys, h, h' => ⟨h.1, okAll_append a xs b ys h.2 h'⟩
  | [], _ :: _, _, _, h, _ => h.elim
  | _ :: _, [], _, _, h, _ => h.elim

/-- The kinds of a type's cells, fields in order without a gap. -/
def flatF (P : Program) (g : TypeId → Option (List CK)) : Nat → List Field → Option (List CK)
  | _, [] => some []
  | off, f :: fs => if f.offset = off then (g f.type).bind fun a => if P.cellsOf f.type = a.length then (flatF P g (off + a.length) fs).map (a ++ ·) else none else none

def flat (P : Program) : Nat → TypeId → Option (List CK)
  | 0, _ => none
  | n + 1, t => match P.underlying t with
    | some .bool => some [.b]
    | some (.int k) => some [.i k]
    | some (.struct fs) => (flatF P (flat P n) 0 fs.toList).bind fun ks => if P.cellsOf t = ks.length then some ks else none
    | some (.array m e) => (flat P n e).bind fun ks => if P.cellsOf e = ks.length ∧ P.cellsOf t = m * ks.length then some (List.replicate m ks).flatten else none
    | _ => none

section
variable {H : Type} {enc : TypeId × Value → H} {P : Program} {w : World} {base : Nat} {spare : Nat → Bool} {held : Bool}

theorem flatF_sound {g : TypeId → Option (List CK)} {fuel : Nat} {cs : List Value}
    (hg : ∀ t ks (cs : List Value) x, g t = some ks → DataW.trod enc P w base spare held fuel t cs = some x → okAll ks cs) :
    ∀ (fs : List Field) (off : Nat) (ks : List CK), flatF P g off fs = some ks → (∀ f ∈ fs, ∃ y, DataW.trod enc P w base spare held fuel f.type ((cs.drop f.offset).take (P.cellsOf f.type)) = some y) →
      okAll ks ((cs.drop off).take ks.length)
  | [], off, ks, h, _ => by
    simp only [flatF, Option.some.injEq] at h
    subst h
    simp [okAll]
  | f :: fs, off, ks, h, hf => by
    unfold flatF at h
    split at h
    · rename_i ho
      cases hga : g f.type with
      | none => rw [hga] at h; simp at h
      | some a =>
        rw [hga] at h
        simp only [Option.bind_some] at h
        split at h
        · rename_i hc
          cases hr : flatF P g (off + a.length) fs with
          | none => rw [hr] at h; simp at h
          | some b =>
            rw [hr] at h
            simp only [Option.map_some, Option.some.injEq] at h
            subst h
            obtain ⟨y, hy⟩ := hf f (List.mem_cons_self ..)
            have h1 := hg _ _ _ _ hga hy
            have h2 := flatF_sound hg fs _ _ hr (fun f' m => hf f' (List.mem_cons_of_mem _ m))
            rw [ho, hc] at h1
            have e : (cs.drop off).take (a ++ b).length = (cs.drop off).take a.length ++ (cs.drop (off + a.length)).take b.length := by
              rw [List.length_append, List.take_add, List.drop_drop]
            rw [e]
            exact okAll_append _ _ _ _ h1 h2
        · cases h
    · cases h

theorem flatA_sound {fuel : Nat} {e : TypeId} {cs : List Value} {ks : List CK}
    (hg : ∀ (cs : List Value) x, DataW.trod enc P w base spare held fuel e cs = some x → okAll ks cs) (hc : P.cellsOf e = ks.length) :
    ∀ (m i : Nat), (∀ j, j < i + m → ∃ y, DataW.trod enc P w base spare held fuel e ((cs.drop (j * P.cellsOf e)).take (P.cellsOf e)) = some y) →
      okAll (List.replicate m ks).flatten ((cs.drop (i * ks.length)).take (m * ks.length))
  | 0, i, _ => by simp [okAll]
  | m + 1, i, hf => by
    obtain ⟨y, hy⟩ := hf i (by omega)
    have h1 := hg _ _ hy
    have h2 := flatA_sound hg hc m (i + 1) (fun j hj => hf j (by omega))
    rw [hc] at h1
    have e1 : (m + 1) * ks.length = ks.length + m * ks.length := by rw [Nat.add_mul]; omega
    have e2 : (i + 1) * ks.length = i * ks.length + ks.length := by rw [Nat.add_mul]; omega
    rw [e1, List.take_add, List.drop_drop, ← e2, List.replicate_succ, List.flatten_cons]
    exact okAll_append _ _ _ _ h1 h2

theorem flat_sound : ∀ (n : Nat) (t : TypeId) (ks : List CK) (fuel : Nat) (cs : List Value) (x : DataW H × List MemPlace), flat P n t = some ks →
    DataW.trod enc P w base spare held fuel t cs = some x → okAll ks cs
  | 0, _, _, _, _, _, h, _ => by simp [flat] at h
  | n + 1, t, ks, fuel, cs, x, h, ht => by
    unfold flat at h
    split at h
    · rename_i hu
      simp only [Option.some.injEq] at h
      subst h
      cases fuel with
      | zero => simp [DataW.trod] at ht
      | succ fuel =>
        unfold DataW.trod at ht
        rw [hu] at ht
        split at ht <;> simp_all [okAll, CK.ok]
    · rename_i k hu
      simp only [Option.some.injEq] at h
      subst h
      obtain ⟨z, rfl, _, wz⟩ := DataW.trod_int hu ht
      exact ⟨⟨z, rfl, wz⟩, trivial⟩
    · rename_i fs hu
      cases hF : flatF P (flat P n) 0 fs.toList with
      | none => rw [hF] at h; simp at h
      | some a =>
        rw [hF] at h
        simp only [Option.bind_some] at h
        split at h
        · rename_i hc
          simp only [Option.some.injEq] at h
          subst h
          obtain ⟨xs, m, _, _, hl, hlen, hg⟩ := DataW.trod_struct hu ht
          have h1 := flatF_sound (fuel := m) (cs := cs) (fun t ks cs x h h' => flat_sound n t ks m cs x h h') fs.toList 0 a hF (fun f hf => by
            obtain ⟨j, hj⟩ := List.mem_iff_getElem?.1 hf
            have hj' : fs[j]? = some f := by simpa using hj
            have hjl : j < xs.length := by rw [hlen]; exact (Array.getElem?_eq_some_iff.1 hj').1
            exact ⟨xs[j], by rw [hg j f hj', List.getElem?_eq_getElem hjl]⟩)
          have hl' : cs.length = a.length := hl.trans hc
          simpa [← hl'] using h1
        · cases h
    · rename_i m e hu
      cases hF : flat P n e with
      | none => rw [hF] at h; simp at h
      | some a =>
        rw [hF] at h
        simp only [Option.bind_some] at h
        split at h
        · rename_i hc
          simp only [Option.some.injEq] at h
          subst h
          obtain ⟨xs, fu, _, _, hl, hlen, hg⟩ := DataW.trod_array hu ht
          have h1 := flatA_sound (fuel := fu) (cs := cs) (ks := a) (fun cs x h' => flat_sound n e a fu cs x hF h') hc.1 m 0 (fun j hj => by
            have hjl : j < xs.length := by omega
            exact ⟨xs[j], by rw [hg j (by omega), List.getElem?_eq_getElem hjl]⟩)
          have hl' : cs.length = m * a.length := hl.trans hc.2
          simpa [← hl'] using h1
        · cases h
    · cases h

/-- An argument of such a type: its cells. -/
theorem open_flat {n : Nat} {t : TypeId} {ks : List CK} {r : Reach} {b0 : Nat} {v : Value} {d : DataW H} {p : List MemPlace} (hk : flat P n t = some ks) (hs : (match P.underlying t with | some (.struct _) | some (.array _ _) => true | _ => false) = true)
    (hv : Value.okWide P w r b0 t v) (h : DataW.Trod enc P w base spare held t v d p) : ∃ cs : List Value, v = .agg cs.toArray ∧ okAll ks cs := by
  have hv' := hv
  unfold Value.okWide at hv'
  obtain ⟨fuel, hf⟩ := h
  have : ∃ cs, v = .agg cs := by
    split at hv'
    · obtain ⟨cs, rfl, _⟩ := hv'; exact ⟨cs, rfl⟩
    · obtain ⟨cs, rfl, _⟩ := hv'; exact ⟨cs, rfl⟩
    · rename_i h1 h2
      exfalso
      split at hs
      · rename_i fs hu; exact h1 fs hu
      · rename_i m e hu; exact h2 m e hu
      · cases hs
  obtain ⟨cs, rfl⟩ := this
  refine ⟨cs.toList, by simp, ?_⟩
  have := flat_sound n t ks fuel _ _ hk hf
  simpa [Value.cells] using this
end

theorem okAll_cons {k : CK} {ks : List CK} {cs : List Value} (h : okAll (k :: ks) cs) : ∃ v vs, cs = v :: vs ∧ k.ok v ∧ okAll ks vs := by
  cases cs with
  | nil => exact h.elim
  | cons v vs => exact ⟨v, vs, rfl, h.1, h.2⟩
theorem okAll_i {k : IntKind} {ks : List CK} {cs : List Value} (h : okAll (.i k :: ks) cs) : ∃ n vs, cs = .int k n :: vs ∧ (Lit.int k n).wf = true ∧ okAll ks vs := by
  obtain ⟨v, vs, rfl, ⟨n, rfl, hn⟩, hr⟩ := okAll_cons h
  exact ⟨n, vs, rfl, hn, hr⟩
theorem okAll_b {ks : List CK} {cs : List Value} (h : okAll (.b :: ks) cs) : ∃ x vs, cs = .bool x :: vs ∧ okAll ks vs := by
  obtain ⟨v, vs, rfl, ⟨n, rfl⟩, hr⟩ := okAll_cons h
  exact ⟨n, vs, rfl, hr⟩
theorem okAll_nil {cs : List Value} (h : okAll [] cs) : cs = [] := by
  cases cs with
  | nil => rfl
  | cons => exact h.elim

/-! Bounds out of 'fits its kind'. -/
theorem bd_u8 {n : Int} (h : (Lit.int .u8 n).wf = true) : 0 ≤ n ∧ n < 256 := by
  have hmin : IntKind.u8.min = 0 := rfl
  have hmax : IntKind.u8.max = 255 := rfl
  simp only [Lit.wf, Bool.and_eq_true, decide_eq_true_eq] at h; omega
theorem bd_u16 {n : Int} (h : (Lit.int .u16 n).wf = true) : 0 ≤ n ∧ n < 65536 := by
  have hmin : IntKind.u16.min = 0 := rfl
  have hmax : IntKind.u16.max = 65535 := rfl
  simp only [Lit.wf, Bool.and_eq_true, decide_eq_true_eq] at h; omega
theorem bd_u32 {n : Int} (h : (Lit.int .u32 n).wf = true) : 0 ≤ n ∧ n < 4294967296 := by
  have hmin : IntKind.u32.min = 0 := rfl
  have hmax : IntKind.u32.max = 4294967295 := rfl
  simp only [Lit.wf, Bool.and_eq_true, decide_eq_true_eq] at h; omega
theorem bd_i32 {n : Int} (h : (Lit.int .i32 n).wf = true) : -2147483648 ≤ n ∧ n < 2147483648 := by
  have hmin : IntKind.i32.min = -2147483648 := rfl
  have hmax : IntKind.i32.max = 2147483647 := rfl
  simp only [Lit.wf, Bool.and_eq_true, decide_eq_true_eq] at h; omega
theorem bd_i64 {n : Int} (h : (Lit.int .i64 n).wf = true) : -9223372036854775808 ≤ n ∧ n ≤ 9223372036854775807 := by
  have hmin : IntKind.i64.min = -9223372036854775808 := rfl
  have hmax : IntKind.i64.max = 9223372036854775807 := rfl
  simp only [Lit.wf, Bool.and_eq_true, decide_eq_true_eq] at h; omega
end Go.Proofs.YtgfljokamgbcaaaDoor
