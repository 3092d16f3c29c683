/- The walk of IsaTorn. -/
import Derived.Test.YtlimejnehfglpaaIsaR
import Derived.Test.YtlimejnehfglpaaIsaN
namespace Go.Proofs.Ytlimejnehfglpaa
open Go.RowKit

theorem bytes_owned {w : World} {base g n cap : Nat} {L : List Int} (h : w.ownsRow base 5 1 (.slice (some ⟨g, 0, none⟩) n cap) n (L.map (Value.int .u8))) : BytesIn w (some ⟨g, 0, none⟩) L := by
  have hl : L.length = n := by have := h.1; simpa using this
  refine .inr ⟨g, 0, rfl, fun i hi => ?_⟩
  have := h.cellAt i (by omega)
  simp only [Nat.zero_add]
  rw [this]
  simp [List.getElem?_eq_getElem (show i < L.length by omega)]

theorem bytes_take {w : World} {ao : Option Addr} {L : List Int} (h : BytesIn w ao L) (n : Nat) : BytesIn w ao (L.take n) := by
  rcases h with rfl | ⟨blk, off, h1, h2⟩
  · exact .inl (by simp)
  · refine .inr ⟨blk, off, h1, fun i hi => ?_⟩
    have hi' : i < L.length ∧ i < n := by simp at hi; omega
    rw [h2 i hi'.1]
    simp [List.getD, hi'.2, List.getElem?_take]

theorem own_cap {w : World} {base g n cap s : Nat} {e : TypeId} {xs : List Value} (h : w.ownsRow base e s (.slice (some ⟨g, 0, none⟩) n cap) n xs) : n ≤ cap := by
  rcases h.2 with ⟨h', _⟩ | ⟨g', cap', cur, h', _, _, hn, _⟩
  · simp at h'
  · simp at h'; omega

theorem cut_small (cut : Int) (n : Nat) (hn : n ≤ 5) : ∃ m : Nat, wrap64 ((IntKind.u64.wrap cut).tmod ((n : Int) + 1)) = (m : Int) ∧ m < n + 1 := by
  have h0 : 0 ≤ IntKind.u64.wrap cut := by
    show 0 ≤ cut % 18446744073709551616
    omega
  generalize IntKind.u64.wrap cut = x at h0
  rw [Int.tmod_eq_emod_of_nonneg h0]
  have h1 := Int.emod_nonneg x (show (n : Int) + 1 ≠ 0 by omega)
  have h2 := Int.emod_lt_of_pos x (show (0 : Int) < (n : Int) + 1 by omega)
  generalize x % ((n : Int) + 1) = y at h1 h2
  refine ⟨y.toNat, ?_, by omega⟩
  unfold wrap64
  omega

theorem torn_dec {op a b imm : Int} {host : Bool} (h0 : 0 ≤ op) (h1 : op < 256) (h2 : 0 ≤ a) (h4 : 0 ≤ b) (hm : mayB (fm op host) a b imm = true) (L : List Int) (hL : encL (fm op host) op a b imm = L) (g n cap : Nat) (w : World) (hn : n < L.length)
    (hB : BytesIn w (some ⟨g, 0, none⟩) L) (hlen : L.length ≤ 9223372036854775807) : Calls Try.prog 18 #[.slice (some ⟨g, 0, none⟩) n cap, .bool host] w (DecPost 0 0 0 0 0 20 w) := by
  subst hL
  have := dec_c host (some ⟨g, 0, none⟩) n cap ((encL (fm op host) op a b imm).take n) w (by simp; omega) (by omega) (fun x hx => encL_bytes h0 h1 h2 h4 hm x (List.mem_of_mem_take hx)) (bytes_take hB n)
  rw [torn_law hm n hn] at this
  exact this

set_option maxHeartbeats 2000000 in
theorem torn_no (op a b imm : Int) (host : Bool) (cut : Int) (w : World) (h0 : 0 ≤ op) (h1 : op < 256) (h2 : 0 ≤ a) (h3 : a < 256) (h4 : 0 ≤ b) (h5 : b < 256) (h6 : -2147483648 ≤ imm) (h7 : imm < 2147483648)
    (hm : mayB (fm op host) a b imm = false) :
    Calls Try.prog 8 #[insV op a b imm, .bool host, .int .i64 cut] w fun e w' => e = .returned (.bool true) ∧ Below w.heap.size w w' := by
  have HA := Lib.hid fun w => encode_no op a b imm host w h0 h1 h2 h3 h4 h5 h6 h7 [] hm
  have HW := Lib.hid works_c
  clear hm
  unfold insV at HA ⊢
  go_enter Try.func8, Try.ntmps8
  go_wp2_with fail
  refine (HA.out _).mono ?_
  rintro e w1 ⟨hb, hv, -⟩
  obtain rfl := hv rfl
  clear hv
  have hB1 := below_box hb
  go_wp2_with fail
  refine (HW.out _).mono ?_
  rintro e w3 ⟨rfl, hb3⟩
  go_wp2_with fail
  go_ret
  exact ⟨rfl, below_next hB1 hb3⟩

set_option maxHeartbeats 2000000 in
theorem torn_yes (op a b imm : Int) (host : Bool) (cut : Int) (w : World) (h0 : 0 ≤ op) (h1 : op < 256) (h2 : 0 ≤ a) (h3 : a < 256) (h4 : 0 ≤ b) (h5 : b < 256) (h6 : -2147483648 ≤ imm) (h7 : imm < 2147483648)
    (hm : mayB (fm op host) a b imm = true) :
    Calls Try.prog 8 #[insV op a b imm, .bool host, .int .i64 cut] w fun e w' => e = .returned (.bool true) ∧ Below w.heap.size w w' := by
  have HA := Lib.hid fun w => encode_yes op a b imm host w h0 h1 h2 h3 h4 h5 h6 h7 hm
  have HD := Lib.hid fun L hL => torn_dec h0 h1 h2 h4 hm L hL
  have HW := Lib.hid works_c
  obtain ⟨n, hn⟩ := encL_len (fm op host) op a b imm
  have hsm := encL_n hm
  have hs6 : (fm op host).n ≤ 6 := by rcases fm_is op host with h | h | h | h | h | h | h | h | h | h <;> rw [h] <;> decide
  have hn6 : n ≤ 5 := by omega
  clear hs6 hsm hm
  have HD := Lib.hid (HD.out _ rfl)
  generalize encL (fm op host) op a b imm = L at HA HD hn
  have HN := Lib.hid hn
  clear hn
  unfold DecPost at HD
  unfold insV at HA HD ⊢
  go_enter Try.func8, Try.ntmps8
  go_wp2_with fail
  refine (HA.out _).mono ?_
  rintro e w1 ⟨hb, -, hv⟩
  obtain ⟨v, rfl, hown⟩ := hv rfl
  clear hv
  rw [HN.out] at hown
  obtain ⟨g, cap, rfl⟩ := ownsRow_succ hown
  have hby := bytes_owned hown
  have hcp := own_cap hown
  obtain ⟨m, hm, hmn⟩ := cut_small cut n hn6
  have hm0 : (m : Int) ≤ (cap : Int) := by omega
  have hB1 := below_box hb
  clear hown
  go_wp2_with fail
  refine (HD.out g m cap _ (by rw [HN.out]; omega) hby (by rw [HN.out]; omega)).mono ?_
  rintro e w2 ⟨rfl, hb2⟩
  have hB2 := below_next hB1 hb2
  go_wp2_with fail
  refine (HW.out _).mono ?_
  rintro e w3 ⟨rfl, hb3⟩
  have hB3 := below_box2 hB2 hb3
  obtain ⟨hcl3, hfz3⟩ := bcell hb3
  go_wp2_with fail
  go_ret
  exact ⟨rfl, hB3⟩

theorem torn_walk (op : Int) (wo : (Lit.int .u8 op).wf = true) (a : Int) (wa : (Lit.int .u8 a).wf = true) (b : Int) (wb : (Lit.int .u8 b).wf = true) (imm : Int) (wi : (Lit.int .i32 imm).wf = true) (host : Bool) (cut : Int) (_ : (Lit.int .i64 cut).wf = true) (w : World) :
    Calls Try.prog 8 #[insV op a b imm, .bool host, .int .i64 cut] w fun e w' => e = .returned (.bool true) ∧ Below w.heap.size w w' := by
  obtain ⟨h0, h1⟩ := bd_u8 wo
  obtain ⟨h2, h3⟩ := bd_u8 wa
  obtain ⟨h4, h5⟩ := bd_u8 wb
  obtain ⟨h6, h7⟩ := bd_i32 wi
  cases hm : mayB (fm op host) a b imm
  · exact torn_no op a b imm host cut w h0 h1 h2 h3 h4 h5 h6 h7 hm
  · exact torn_yes op a b imm host cut w h0 h1 h2 h3 h4 h5 h6 h7 hm
end Go.Proofs.Ytlimejnehfglpaa
