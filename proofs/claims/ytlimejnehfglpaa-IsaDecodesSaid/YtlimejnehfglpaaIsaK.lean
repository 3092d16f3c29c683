/- The walk of the statements' own call 'works', and the walks of IsaSizes and IsaMays. -/
import Derived.Test.YtlimejnehfglpaaIsaE
import Derived.Test.YtlimejnehfglpaaRefB
import Derived.Test.YtlimejnehfglpaaFlat
import Derived.Laws.BytesArg
namespace Go.Proofs.Ytlimejnehfglpaa
open Go.RowKit

/-- What was handed back as an owned row of bytes is, as a string, just these bytes. -/
theorem conv_owned {w : World} {base g n cap : Nat} {L : List Int} (h : w.ownsRow base 5 1 (.slice (some ⟨g, 0, none⟩) n cap) n (L.map (Value.int .u8))) :
    (convert 26 9 (.slice (some ⟨g, 0, none⟩) n cap)).run Try.prog w = .ok (.string (strOfNums L)) w := by
  have hl : L.length = n := by have := h.1; simpa using this
  refine run_convert_bytes_arg w 26 5 Try.underlying26 Try.underlying5 g 0 n cap L hl (fun i hi => ?_) 9 Try.underlying9
  have := h.cellAt i (by omega)
  simp only [Nat.zero_add]
  rw [this]
  simp [List.getElem?_eq_getElem (show i < L.length by omega)]

set_option maxHeartbeats 1000000 in
theorem works_c (w : World) : Calls Try.prog 13 #[] w fun e w' => e = .returned (.bool true) ∧ Below w.heap.size w w' := by
  have hE := fun w => encode_yes 17 1 2 0 false w (by decide) (by decide) (by decide) (by decide) (by decide) (by decide) (by decide) (by decide) (by decide)
  have hL : encL (fm 17 false) 17 1 2 0 = [17, 18] := by decide
  rw [hL] at hE
  have HE := Lib.hid hE
  clear hE hL
  unfold insV at HE
  go_enter Try.func13, Try.ntmps13
  go_wp2_with fail
  refine (HE.out _).mono ?_
  rintro e w1 ⟨hb, -, hv⟩
  obtain ⟨v, rfl, hown⟩ := hv rfl
  obtain ⟨g, cap, rfl⟩ := ownsRow_succ hown
  have hc := conv_owned hown
  have hs : strOfNums [17, 18] = ⟨#[17, 18]⟩ := by decide
  rw [hs] at hc
  clear hs hown
  simp only [List.length_cons, List.length_nil, Nat.zero_add, Nat.reduceAdd] at hc ⊢
  go_wp2_with fail
  go_ret
  exact ⟨rfl, hb⟩
end Go.Proofs.Ytlimejnehfglpaa
