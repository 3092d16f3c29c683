/- asm's maps: a look-up, an entry. -/
import Derived.Test.YtgfljokamgbcaaaGreatDoorAsB
namespace Go.Proofs.YtgfljokamgbcaaaGreatDoor
open Go.RowKit Go.ChangeMaps Go.WideMaps
set_option linter.unusedSimpArgs false
set_option linter.unusedVariables false

theorem SMap.look {w : World} {e mt : TypeId} {q : IntKind} {b n : Nat} {f : Wd → Option Int} (h : SMap w e q b n f) (he : Tryz.prog.underlying e = some (.int q)) (ht : Tryz.prog.underlying mt = some (.map 9 e)) (hz : (zeroValue e).run Tryz.prog w = .ok (.int q 0) w) (hq : (Lit.int q 0).wf = true) (s : Wd) (hs : s.length ≤ maxLen) :
    (Instr.lookup mt (.map (some b)) (.string ⟨s.toArray⟩) true).run Tryz.prog w = .ok (.tuple #[.int q ((f s).getD 0), .bool (f s).isSome]) w := by
  obtain ⟨D, hown, hD, hf⟩ := h
  obtain ⟨h1, h2⟩ := hf s hs
  obtain ⟨v, ps, hrun, hv⟩ := hown.look_ok (Go.Maps.string_keyed Tryz.underlying9) ht hz (plainElem_int he hq) (keyOf_string_mk (s := ⟨s.toArray⟩) Tryz.underlying9 (by rw [ba_size]; exact hs))
  have e1 : (⟨s.toArray⟩ : ByteArray).data.toList = s := by simp
  rw [e1, h1] at hrun
  rw [e1, h2] at hv
  obtain ⟨a, rfl, ha, -⟩ := plainElem_int_inv he hv
  simp at ha
  rw [hrun, ← ha.1]
def updS (f : Wd → Option Int) (s : Wd) (v : Int) : Wd → Option Int := fun t => if t = s then some v else f t
theorem SMap.put {w : World} {e mt : TypeId} {q : IntKind} {b n : Nat} {f : Wd → Option Int} (h : SMap w e q b n f) (he : Tryz.prog.underlying e = some (.int q)) (ht : Tryz.prog.underlying mt = some (.map 9 e)) (hn : n < 1000000) (s : Wd) (hs : s.length ≤ maxLen) (v : Int) (hv : (Lit.int q v).wf = true) :
    ∃ w', (Instr.mapUpdate mt (.map (some b)) (.string ⟨s.toArray⟩) (.int q v)).run Tryz.prog w = .ok () w' ∧ SMap w' e q b (n + 1) (updS f s v) ∧ w.grownBy w' (some b) := by
  obtain ⟨D, hown, hD, hf⟩ := h
  obtain ⟨w', hrun, hown', hg⟩ := hown.update (Go.Maps.string_keyed Tryz.underlying9) ht (by unfold maxLen; omega) (keyOf_string_mk (s := ⟨s.toArray⟩) Tryz.underlying9 (by rw [ba_size]; exact hs)) (plainElem_int he hv)
  have e1 : (⟨s.toArray⟩ : ByteArray).data.toList = s := by simp
  rw [e1] at hown'
  refine ⟨w', hrun, ⟨_, hown', hD.put _ _, fun t ht' => ?_⟩, hg⟩
  unfold updS
  by_cases c : t = s
  · subst c
    rw [if_pos rfl, Go.Maps.has_put_same hD (by simp [WideAt.IsKeyLit]), Go.Maps.atKey_put_same hD (by simp [WideAt.IsKeyLit])]
    exact ⟨rfl, rfl⟩
  · rw [if_neg c, Go.Maps.has_put_other (by simpa using c), Go.Maps.atKey_put_other (by simpa using c)]
    exact hf t ht'
theorem SMap.ext {w : World} {e : TypeId} {q : IntKind} {b n : Nat} {f g : Wd → Option Int} (h : SMap w e q b n f) (hfg : ∀ s, f s = g s) : SMap w e q b n g := by
  obtain ⟨D, h1, h2, h3⟩ := h
  exact ⟨D, h1, h2, fun s hs => by rw [← hfg s]; exact h3 s hs⟩
theorem find_snoc (l : List (Wd × Int)) (s : Wd) (a : Int) (h : findL l s = none) : ∀ t, updS (findL l) s a t = findL (l ++ [(s, a)]) t := by
  intro t
  unfold updS
  by_cases c : t = s
  · subst c
    rw [if_pos rfl]
    unfold findL at h ⊢
    rw [List.find?_append, Option.map_eq_none_iff.1 h]
    simp
  · rw [if_neg c]
    unfold findL
    rw [List.find?_append]
    have : ([(s, a)] : List (Wd × Int)).find? (fun p => p.1 == t) = none := by simp; exact fun e => c e.symm
    rw [this, Option.or_none]

/-- What 'value' hands back. -/
def ValP (r : Except Int Int) (w : World) (e : Ending) (w' : World) : Prop := Below w.heap.size w w' ∧ match r with
  | .ok v => e = .returned (.int .i64 v)
  | .error er => e = .panicked (wrongP er)
set_option maxHeartbeats 4000000 in
theorem value_cA (base wk pb ob : Nat) (again : Bool) (S : St) (pl : List (Wd × Int)) (vB vL vM : Value) (s : Wd) (w : World) (hF : AsFix base wk pb ob again S pl vB vL vM w) (hne : s ≠ []) (hs : s.length ≤ 100000) :
    Calls Tryz.prog 74 #[.pointer (some ⟨wk, 0, none⟩), .string ⟨s.toArray⟩] w (ValP (valueF again pl s) w) := by
  have hG0 := give_c
  have HG := Lib.hid hG0
  clear hG0
  have k1 : w.cell? ⟨wk, 1, none⟩ = some (.bool again) := hF.cell 1
  have k2 : w.cell? ⟨wk, 2, none⟩ = some (.map (some pb)) := hF.cell 2
  have hlk := hF.pm.look (mt := 40) Tryz.underlying3 Tryz.underlying40 (by kernel_rfl) (by decide) s (by unfold maxLen; omega)
  have HN := Lib.hid (number_cA s hs)
  obtain ⟨c0, h0⟩ : ∃ c, s[0]? = some c := ⟨_, List.getElem?_eq_getElem (List.length_pos_iff.2 hne)⟩
  have HL := Lib.hid (letter_c c0)
  have e0 := ba_get s 0 c0 h0
  have sz := ba_size s
  have hp : 0 < s.length := List.length_pos_iff.2 hne
  have hhd : s.headD 0 = c0 := by cases s with
    | nil => simp at h0
    | cons a l => simpa using h0
  cases again
  · have hR : valueF false pl s = .ok 0 := by unfold valueF; rw [if_pos rfl]
    rw [hR]
    clear hlk HN HL e0 hF h0
    go_enter Tryz.func74, Tryz.ntmps74
    go_wp2_with fail
    go_ret
    exact ⟨Below.refl _ _, rfl⟩
  · have HR := Lib.hid (show valueF true pl s = if letterB c0 then (match findL pl s with | some a => .ok a | none => .error 310) else if (numberF s).2 then .ok (numberF s).1 else .error 41 by unfold valueF; rw [if_neg (by decide), hhd]; rfl)
    generalize valueF true pl s = V at HR ⊢
    generalize findL pl s = fl at hlk HR
    generalize numberF s = nf at HN HR
    obtain ⟨v, is⟩ := nf
    simp only at HN HR
    generalize (⟨s.toArray⟩ : ByteArray) = sb at hlk HN e0 sz ⊢
    cases hl : letterB c0
    · rw [hl] at HL HR
      go_enter Tryz.func74, Tryz.ntmps74
      go_wp2_with fail
      refine (HL.out _).mono ?_
      rintro e w1 ⟨rfl, rfl⟩
      go_wp2_with fail
      refine (HN.out _).mono ?_
      rintro e w2 ⟨rfl, hb2⟩
      cases is
      · go_wp2_with fail
        refine (HG.out _ _).mono ?_
        rintro e w3 ⟨rfl, rfl⟩
        exact ⟨rfl, hb2, by rw [HR.out]; rfl⟩
      · go_wp2_with fail
        go_ret
        exact ⟨hb2, by rw [HR.out]; rfl⟩
    · rw [hl] at HL HR
      go_enter Tryz.func74, Tryz.ntmps74
      go_wp2_with fail
      refine (HL.out _).mono ?_
      rintro e w1 ⟨rfl, rfl⟩
      cases fl with
      | none =>
        simp only [Option.isSome_none, Option.getD_none] at hlk
        go_wp2_with fail
        refine (HG.out _ _).mono ?_
        rintro e w3 ⟨rfl, rfl⟩
        exact ⟨rfl, Below.refl _ _, by rw [HR.out]; rfl⟩
      | some a =>
        simp only [Option.isSome_some, Option.getD_some] at hlk
        go_wp2_with fail
        go_ret
        exact ⟨Below.refl _ _, by rw [HR.out]; rfl⟩
end Go.Proofs.YtgfljokamgbcaaaGreatDoor
