/- The walks of translate.fits, the exits' places, stub.laid and stub.Stub. -/
import Derived.Test.YtnmgfckefofcpaaMadW
namespace Go.Proofs.Ytnmgfckefofcpaa
open Go.RowKit
set_option linter.unusedSimpArgs false
set_option linter.unusedVariables false

theorem addr0 (g j : Nat) : (⟨g, 0, none⟩ : Addr).add j = ⟨g, j, none⟩ := by rw [add_midI, Nat.zero_add]

set_option maxHeartbeats 2000000 in
theorem endFits_c (op en : Int) (ends : Bool) (w : World) (h0 : 0 ≤ op) (h1 : op < 256) :
    Calls Try.prog 38 #[.int .u8 op, .int .i64 en, .bool ends] w fun e w' => e = .returned (.bool (fitsEnd op en ends)) ∧ Below w.heap.size w w' := by
  go_enter Try.func38, Try.ntmps38
  by_cases a1 : op = 64
  · subst a1
    cases ends <;> by_cases c1 : en = 1 <;> by_cases c2 : en = 2 <;> by_cases c3 : en = 3 <;> by_cases c4 : en = 4
    all_goals
      first
        | (exfalso; omega)
        | (go_wp2_with fail
           go_ret
           exact ⟨Isa.ret_bool (by simp [fitsEnd, jumpB, branchB, c1, c2, c3, c4]), Below.refl _ _⟩)
  · by_cases a2 : op = 72
    · subst a2
      cases ends <;> by_cases c1 : en = 1 <;> by_cases c2 : en = 2 <;> by_cases c3 : en = 3 <;> by_cases c4 : en = 4
      all_goals
        first
          | (exfalso; omega)
          | (go_wp2_with fail
             go_ret
             exact ⟨Isa.ret_bool (by simp [fitsEnd, jumpB, branchB, c1, c2, c3, c4]), Below.refl _ _⟩)
    · have d1 : (op == 64) = false := by simpa using a1
      have d2 : (op == 72) = false := by simpa using a2
      by_cases b1 : 65 ≤ op <;> by_cases b2 : op ≤ 71 <;> cases ends <;> by_cases c1 : en = 1 <;> by_cases c2 : en = 2 <;> by_cases c3 : en = 3 <;> by_cases c4 : en = 4
      all_goals
        first
          | (exfalso; omega)
          | (go_wp2_with fail
             go_ret
             exact ⟨Isa.ret_bool (by simp [fitsEnd, jumpB, branchB, a1, a2, b1, b2, c1, c2, c3, c4]), Below.refl _ _⟩)

theorem on_c (to : Int) (w : World) : Calls Try.prog 43 #[.agg #[.int .u32 to]] w fun e w' => e = .returned (.int .u32 to) ∧ Below w.heap.size w w' := by
  go_enter Try.func43, Try.ntmps43
  go_wp2_with fail
  go_ret
  exact ⟨rfl, below_alloc1 _ _⟩
theorem ask_c (to : Int) (w : World) : Calls Try.prog 44 #[.agg #[.int .u32 to]] w fun e w' => e = .returned (.int .u32 to) ∧ Below w.heap.size w w' := by
  go_enter Try.func44, Try.ntmps44
  go_wp2_with fail
  go_ret
  exact ⟨rfl, below_alloc1 _ _⟩

def encI (L : List InsR) : List Int := L.flatMap fun i => Isa.encL (Isa.fm i.op true) i.op i.a i.b i.imm
theorem encL_le (f : Isa.Fm) (op a b imm : Int) : 1 ≤ (Isa.encL f op a b imm).length ∧ (Isa.encL f op a b imm).length ≤ 6 := by
  unfold Isa.encL
  rw [List.length_cons, List.length_append]
  constructor
  · omega
  · split <;> split <;> (try split) <;> (try split) <;> simp
theorem encI_take {L : List InsR} {k : Nat} {r : InsR} (h : L[k]? = some r) : encI (L.take (k + 1)) = encI (L.take k) ++ Isa.encL (Isa.fm r.op true) r.op r.a r.b r.imm := by
  obtain ⟨hk, rfl⟩ := List.getElem?_eq_some_iff.1 h
  unfold encI
  rw [List.take_succ_eq_append_getElem hk, List.flatMap_append]
  exact congrArg _ (List.append_nil _)
theorem encI_le (L : List InsR) : (encI L).length ≤ 6 * L.length := by
  induction L with
  | nil => simp [encI]
  | cons x l ih =>
    have := encL_le (Isa.fm x.op true) x.op x.a x.b x.imm
    show (Isa.encL (Isa.fm x.op true) x.op x.a x.b x.imm ++ encI l).length ≤ _
    rw [List.length_append, List.length_cons]
    omega

set_option maxHeartbeats 4000000 in
theorem laid_c (L : List InsR) (ao : Option Addr) (len cap : Nat) (w : World) (hL : L.length = len) (hI : InssIn w ao L) (hl : len ≤ 1000) (hm : ∀ r ∈ L, Isa.mayB (Isa.fm r.op true) r.a r.b r.imm = true) :
    Calls Try.prog 48 #[.slice ao len cap] w fun e w' => ∃ v, e = .returned (.tuple #[v, .int .i64 0]) ∧ w'.ownsRow w.heap.size 5 1 v (encI L).length ((encI L).map (Value.int .u8)) ∧ Below w.heap.size w w' := by
  obtain ⟨i0, hi, hz0, hz1, hz2⟩ := info_parts Isa.Try.infoB
  have HI := Lib.hid hI
  have HL := Lib.hid hL
  have HM := Lib.hid hm
  clear hI hL hm
  go_enter Try.func48, Try.ntmps48
  go_wp2_with fail
  go_loopg [4, 11] len (fun gk v4 vk wr => ∃ k : Nat, gk + k = len ∧ vk = .int .i64 (k : Int) ∧ wr.ownsRow w.heap.size 5 1 v4 (encI (L.take k)).length ((encI (L.take k)).map (Value.int .u8)) ∧ Below w.heap.size w wr ∧ w.heap.size ≤ wr.heap.size)
  case atStart => exact ⟨0, rfl, rfl, ⟨by simp [encI], .inl ⟨rfl, by simp [encI]⟩⟩, Below.refl _ _, Nat.le_refl _⟩
  case round =>
    obtain ⟨k, hk, rfl, hown, hB, hs⟩ := hrel
    have hnk : (encI (L.take k)).length ≤ 6 * k := Nat.le_trans (encI_le _) (by simp; omega)
    by_cases c1 : k < len
    · obtain ⟨r, hr⟩ : ∃ r, L[k]? = some r := ⟨_, List.getElem?_eq_getElem (by rw [HL.out]; exact c1)⟩
      obtain ⟨blk, off, rfl, x0, x1, x2, x3⟩ : ∃ blk off, ao = some ⟨blk, off, none⟩ ∧ w.cell? ⟨blk, off + k * 4, none⟩ = some (.int .u8 r.op) ∧ w.cell? ⟨blk, off + k * 4 + 1, none⟩ = some (.int .u8 r.a) ∧ w.cell? ⟨blk, off + k * 4 + 2, none⟩ = some (.int .u8 r.b) ∧ w.cell? ⟨blk, off + k * 4 + 3, none⟩ = some (.int .i32 r.imm) := by
        rcases HI.out with h | ⟨blk, off, h1, h2⟩
        · rw [h] at hr; cases hr
        · exact ⟨blk, off, h1, h2 k r hr⟩
      have hb0 : blk < w.heap.size := World.block_lt_of_cell? w _ x0
      have y0 := (hB.cell (p := ⟨blk, off + k * 4, none⟩) hb0).trans x0
      have y1 := (hB.cell (p := ⟨blk, off + k * 4 + 1, none⟩) hb0).trans x1
      have y2 := (hB.cell (p := ⟨blk, off + k * 4 + 2, none⟩) hb0).trans x2
      have y3 := (hB.cell (p := ⟨blk, off + k * 4 + 3, none⟩) hb0).trans x3
      have hbr : blk < wr.heap.size := by omega
      have i1 : (k : Int) < (len : Int) := by omega
      have hmr := HM.out r (List.mem_of_getElem? hr)
      have HT := Lib.hid (encI_take hr)
      obtain ⟨ro, ra, rb, ri, q0, q1, q2, q3, q4, q5, q6, q7⟩ := r
      simp only at y0 y1 y2 y3 hmr HT
      have HE := Lib.hid fun w => Isa.encode_yes ro ra rb ri true w q0 q1 q2 q3 q4 q5 q6 q7 hmr
      have hel := encL_le (Isa.fm ro true) ro ra rb ri
      generalize Isa.encL (Isa.fm ro true) ro ra rb ri = E at HT HE hel
      unfold Isa.insV at HE
      clear x0 x1 x2 x3 hr hmr
      go_wp2_with fail
      refine (HE.out _).mono ?_
      rintro e w1 ⟨hb, -, hv⟩
      obtain ⟨v, rfl, hown1⟩ := hv rfl
      clear hv
      have hB1 := below_next (hB.alloc hs _) hb
      have hown0 := own_below hb (hown.alloc _)
      have hs1 : wr.heap.size < w1.heap.size := by have := hb.size; simp at this; omega
      have hs1' : w.heap.size ≤ w1.heap.size := by omega
      obtain ⟨g, cp, rfl, hcg, hgl, hcells⟩ := own_some1 hown1 (by omega)
      have HC := Lib.hid hcells
      clear hcells hown1 hb hown hB hs
      go_wp2_with (first | (at_builtin; refine wpList_append_own _ rfl _ _ 34 rfl w.heap.size 5 i0 (.int .u8 0) 1 1 Try.underlying34 hi hz0 hz1 hz2 rfl (by decide) _ _ _ rfl hown0 ⟨g, 0, none⟩ E.length cp (E.map (Value.int .u8)) rfl (by simp) (fun j u hu => by rw [addr0]; exact HC.out j u hu) (fun u hu => by (obtain ⟨x, -, rfl⟩ := List.mem_map.1 hu; rfl)) (by unfold maxLen; omega) (by omega) hs1' ?_; intro v4 w4 hown4 hgrow4 _))
      go_roundg (gk - 1)
      case measure => omega
      case rel =>
        obtain ⟨hB4, hs4⟩ := own_nextS hB1 hs1' hown0 hgrow4
        refine ⟨k + 1, by omega, rfl, ?_, hB4, hs4⟩
        rw [HT.out, List.map_append, List.length_append]
        exact hown4
    · have i1 : ¬ (k : Int) < (len : Int) := by omega
      have he : L.take k = L := List.take_of_length_le (by rw [HL.out]; omega)
      rw [he] at hown
      go_wp2_with fail
      go_ret2
      exact ⟨_, rfl, hown, hB⟩

set_option maxHeartbeats 4000000 in
theorem stub_c (n x : Int) (w : World) (n0 : 0 ≤ n) (n1 : n < 256) (x0 : 0 ≤ x) (x1 : x < 65536) :
    Calls Try.prog 45 #[.int .i64 n, .int .i64 x] w fun e w' => ∃ v, e = .returned (.tuple #[v, .int .i64 0]) ∧ w'.ownsRow w.heap.size 5 1 v 5 ((encAll (stubIt n 0 x)).map (Value.int .u8)) ∧ Below w.heap.size w w' := by
  have j0 : (n < 0) = False := by simp; omega
  have j1 : (255 < n) = False := by simp; omega
  have j2 : (x < 0) = False := by simp; omega
  have j3 : (65535 < x) = False := by simp; omega
  have HLa := Lib.hid fun (w1 : World) (h : InssIn w1 (some ⟨w.heap.size, 0, none⟩) [⟨112, 0, 0, n, by omega⟩, ⟨113, 0, 0, x, by omega⟩]) => laid_c [⟨112, 0, 0, n, by omega⟩, ⟨113, 0, 0, x, by omega⟩] (some ⟨w.heap.size, 0, none⟩) 2 2 w1 rfl h (by decide) (fun r hr => by
    simp at hr
    rcases hr with rfl | rfl
    · simp [Isa.mayB, Isa.fm, Isa.fitsB]; omega
    · simp [Isa.mayB, Isa.fm, Isa.fitsB]; omega)
  have hE : encI [⟨112, 0, 0, n, by omega⟩, ⟨113, 0, 0, x, by omega⟩] = encAll (stubIt n 0 x) := by simp [encI, encAll, stubIt, It.enc]
  have hN : (encAll (stubIt n 0 x)).length = 5 := by simp [encAll, stubIt, It.enc, Isa.fm, Isa.encL]
  rw [hE, hN] at HLa
  clear hE hN
  go_enter Try.func45, Try.ntmps45
  go_wp2_with fail
  refine (HLa.out _ ?_).mono ?_
  · refine .inr ⟨_, _, rfl, fun i r hr => ?_⟩
    match i, hr with
    | 0, hr => simp at hr; subst hr; refine ⟨?_, ?_, ?_, ?_⟩ <;> go_simp
    | 1, hr => simp at hr; subst hr; refine ⟨?_, ?_, ?_, ?_⟩ <;> go_simp
  rintro e w1 ⟨v, rfl, hown, hb⟩
  go_wp2_with fail
  go_ret2
  exact ⟨_, rfl, Isa.ownsRow_mono hown (by simp), below_box hb⟩
end Go.Proofs.Ytnmgfckefofcpaa
