/- The walks of asm's org and align; what 'to' does, as a method. -/
import Derived.Test.YtgfljokamgbcaaaGreatDoorAsD
import Derived.Test.YtgfljokamgbcaaaGreatDoorAsM
namespace Go.Proofs.YtgfljokamgbcaaaGreatDoor
open Go.RowKit
set_option linter.unusedSimpArgs false
set_option linter.unusedVariables false
set_option maxRecDepth 100000

/-- The work, within its bounds. -/
structure AsOk (base wk pb ob : Nat) (again : Bool) (S : St) (w : World) : Prop where
  is : AsIs base wk pb ob again S w
  hs : base ≤ w.heap.size
  a0 : 0 ≤ S.at'
  a1 : S.at' ≤ 4096
  bl : S.bytes.length ≤ 4096
  ml : S.marks.length ≤ 100000
  lb : ∀ p ∈ S.labels, 0 ≤ p.2 ∧ p.2 ≤ 4096
  tab : Lib.TabBelow Tryz.prog base w "internal/strconv.uint64pow10" .u64 Lib.pow10Tab
theorem AsOk.below {base wk pb ob again S w w'} (h : AsOk base wk pb ob again S w) (hb : Below w.heap.size w w') : AsOk base wk pb ob again S w' := by
  obtain ⟨vB, vL, vM, hF⟩ := h.is
  exact ⟨⟨vB, vL, vM, hF.below hb⟩, Nat.le_trans h.hs hb.size, h.a0, h.a1, h.bl, h.ml, h.lb, h.tab.on (hb.mono h.hs)⟩
theorem AsOk.drew {base wk pb ob again S w} (h : AsOk base wk pb ob again S w) : AsOk base wk pb ob again S w.drew := by
  obtain ⟨vB, vL, vM, hF⟩ := h.is
  exact ⟨⟨vB, vL, vM, hF.drew⟩, h.hs, h.a0, h.a1, h.bl, h.ml, h.lb, h.tab.on (Below.refl _ _).drew⟩
theorem AsOk.cell {base wk pb ob again S w} (h : AsOk base wk pb ob again S w) : w.cell? ⟨wk, 0, none⟩ = some (.int .i64 S.at') ∧ w.cell? ⟨wk, 1, none⟩ = some (.bool again) ∧ w.cell? ⟨wk, 2, none⟩ = some (.map (some pb)) ∧ w.cell? ⟨wk, 3, none⟩ = some (.map (some ob)) ∧ wk < w.heap.size := by
  obtain ⟨vB, vL, vM, hF⟩ := h.is
  exact ⟨hF.cell 0, hF.cell 1, hF.cell 2, hF.cell 3, hF.lt⟩
/-- A line's words, in the heap. -/
structure LnOk (w : World) (ao : Option Addr) (ws : List Wd) (cap : Nat) : Prop where
  inn : WdIn w ao ws
  le : ws.length ≤ cap
  cap : cap ≤ 9223372036854775807
  each : ∀ s ∈ ws, s ≠ [] ∧ s.length ≤ 10000
  ty : ∀ blk off, ao = some ⟨blk, off, none⟩ → ∃ cur, w.heap[blk]? = some (.cells cur 9 (0, 0))
theorem LnOk.below {w w' ao ws cap} (h : LnOk w ao ws cap) (hb : Below w.heap.size w w') : LnOk w' ao ws cap := ⟨wd_below hb h.inn, h.le, h.cap, h.each, fun blk off e => by obtain ⟨cur, hc⟩ := h.ty blk off e; exact ⟨cur, (hb.block _ (heap_ltA hc)).trans hc⟩⟩
theorem LnOk.fr {base pb w w' ao ws cap es cl} (h : LnOk w ao ws cap) (hf : Fr base pb w w') (hp : w.heap[pb]? = some (.map es cl)) : LnOk w' ao ws cap := by
  have hk : ∀ blk off, ao = some ⟨blk, off, none⟩ → w'.heap[blk]? = w.heap[blk]? := fun blk off e => by
    obtain ⟨cur, hc⟩ := h.ty blk off e
    exact (hf.out blk _ hc (by simp [OutO]) (fun e2 => by subst e2; rw [hp] at hc; cases hc)).trans hc.symm
  refine ⟨?_, h.le, h.cap, h.each, fun blk off e => by obtain ⟨cur, hc⟩ := h.ty blk off e; exact ⟨cur, (hk blk off e).trans hc⟩⟩
  rcases h.inn with h' | ⟨blk, off, h1, h2⟩
  · exact .inl h'
  · exact .inr ⟨blk, off, h1, fun i s hs => (World.cell?_of_block (a := ⟨blk, off + i, none⟩) (hk blk off h1)).trans (h2 i s hs)⟩
theorem MetP.pre {base wk pb ob again r w w1 e w'} (hb : Below w.heap.size w w1) (hs : base ≤ w.heap.size) (h : MetP base wk pb ob again r w1 e w') : MetP base wk pb ob again r w e w' := ⟨(Fr.of_below hb hs).trans h.1, h.2⟩

theorem to_m (base wk pb ob : Nat) (again : Bool) (S : St) (t : Int) (w : World) (h : AsOk base wk pb ob again S w) (t0 : 0 ≤ t) (t1 : t ≤ 4611686018427387904) :
    Calls Tryz.prog 53 #[.pointer (some ⟨wk, 0, none⟩), .int .i64 t] w (MetP base wk pb ob again (toF again S t) w) := by
  obtain ⟨vB, vL, vM, hF⟩ := h.is
  refine (to_c base wk pb ob again S S.labels vB vL vM t w hF h.hs t0 t1 h.bl).mono ?_
  rintro e w' ⟨h1, -, h2⟩
  refine ⟨h1, ?_⟩
  have hl : ∀ T, toF again S t = .ok T → T.labels = S.labels := fun T hT => by
    unfold toF at hT
    split at hT
    · cases hT
    · cases hT; rfl
  cases hR : toF again S t with
  | error er => rw [hR] at h2; exact h2
  | ok T =>
    rw [hR] at h2
    obtain ⟨h3, vB', -, h4⟩ := h2
    have := hl T hR
    rw [← this] at h4
    exact ⟨h3, vB', vL, vM, h4⟩

theorem oneF_bd {ws : List Wd} {low high v : Int} (h : oneF ws low high = .ok v) : low ≤ v ∧ v ≤ high := by
  unfold oneF at h
  split at h
  · cases h
  · split at h
    · cases h
    · rename_i hq
      cases h
      simp only [not_or] at hq
      omega
def orgF (again : Bool) (S : St) (ws : List Wd) : Except Int St := match oneF ws 0 2147483647 with | .error e => .error e | .ok v => if v < S.at' then .error 311 else toF again S v
def spaceF (again : Bool) (S : St) (ws : List Wd) : Except Int St := match oneF ws 0 2147483647 with | .error e => .error e | .ok v => toF again S (S.at' + v)
def alignF (again : Bool) (S : St) (ws : List Wd) : Except Int St := match oneF ws 1 64 with | .error e => .error e | .ok v => toF again S ((S.at' + v - 1) / v * v)

set_option maxHeartbeats 4000000 in
theorem org_c (base wk pb ob : Nat) (again : Bool) (S : St) (n : Int) (ao : Option Addr) (cap : Nat) (ws : List Wd) (w : World) (h : AsOk base wk pb ob again S w) (hl : LnOk w ao ws cap) :
    Calls Tryz.prog 47 #[.pointer (some ⟨wk, 0, none⟩), lnV n ao ws.length cap] w (MetP base wk pb ob again (orgF again S ws) w) := by
  have hG0 := give_c
  have HG := Lib.hid hG0
  have HO := Lib.hid fun (w1 : World) (hb : Below w.heap.size w w1) => one_c n ao cap ws 0 2147483647 w1 (wd_below hb hl.inn) hl.le hl.cap (fun s hs => (hl.each s hs).2)
  have HA := Lib.hid h
  have hs := h.hs
  have hbd := fun v => oneF_bd (ws := ws) (low := 0) (high := 2147483647) (v := v)
  obtain ⟨RR, hRR⟩ : ∃ RR, orgF again S ws = RR := ⟨_, rfl⟩
  rw [hRR]
  unfold orgF at hRR
  unfold lnV at HO ⊢
  generalize oneF ws 0 2147483647 = R at HO hbd hRR
  have HR := Lib.hid hRR
  clear hRR
  clear hG0 h hl
  go_enter Tryz.func47, Tryz.ntmps47
  go_wp2_with fail
  refine (HO.out _ ((Below.refl _ _).alloc (Nat.le_refl _) _)).mono ?_
  rintro e w1 ⟨hb1, hr⟩
  have hB := Isa.below_box hb1
  have HA1 := Lib.hid (HA.out.below hB)
  cases R with
  | error er =>
    obtain rfl := hr
    obtain rfl : RR = .error er := HR.out.symm
    exact ⟨rfl, Fr.of_below hB hs, rfl⟩
  | ok v =>
    obtain rfl := hr
    obtain ⟨v0, v1⟩ := hbd v rfl
    obtain ⟨k0, k1, k2, k3, hlt⟩ := HA1.out.cell
    have HT := Lib.hid (to_m base wk pb ob again S v w1 HA1.out v0 (by omega))
    by_cases c : v < S.at'
    · obtain rfl : RR = .error 311 := by rw [← HR.out]; exact if_pos c
      clear HT
      go_wp2_with fail
      refine (HG.out _ _).mono ?_
      rintro e w2 ⟨rfl, rfl⟩
      exact ⟨rfl, Fr.of_below hB hs, rfl⟩
    · obtain ⟨T, hT⟩ : ∃ T, toF again S v = T := ⟨_, rfl⟩
      rw [hT] at HT
      obtain rfl : RR = T := by rw [← HR.out, ← hT]; exact if_neg c
      clear hT HR
      go_wp2_with fail
      refine HT.out.mono ?_
      rintro e w2 hm
      have hm' := hm.pre hB hs
      cases RR with
      | error er =>
        obtain ⟨f1, rfl⟩ := hm'
        exact ⟨rfl, f1, rfl⟩
      | ok T =>
        obtain ⟨f1, rfl, f2⟩ := hm'
        go_wp2_with fail
        go_end0
        exact ⟨f1, rfl, f2⟩

theorem quo_pos {a v : Int} (h0 : 0 ≤ a) (h1 : 1 ≤ v) : a.tdiv v = a / v := by
  rw [Int.tdiv_eq_ediv_of_nonneg h0]
set_option maxHeartbeats 4000000 in
theorem align_c (base wk pb ob : Nat) (again : Bool) (S : St) (n : Int) (ao : Option Addr) (cap : Nat) (ws : List Wd) (w : World) (h : AsOk base wk pb ob again S w) (hl : LnOk w ao ws cap) :
    Calls Tryz.prog 49 #[.pointer (some ⟨wk, 0, none⟩), lnV n ao ws.length cap] w (MetP base wk pb ob again (alignF again S ws) w) := by
  have HO := Lib.hid fun (w1 : World) (hb : Below w.heap.size w w1) => one_c n ao cap ws 1 64 w1 (wd_below hb hl.inn) hl.le hl.cap (fun s hs => (hl.each s hs).2)
  have HA := Lib.hid h
  have hs := h.hs
  have a0 := h.a0
  have a1 := h.a1
  have hbd := fun v => oneF_bd (ws := ws) (low := 1) (high := 64) (v := v)
  obtain ⟨RR, hRR⟩ : ∃ RR, alignF again S ws = RR := ⟨_, rfl⟩
  rw [hRR]
  unfold alignF at hRR
  unfold lnV at HO ⊢
  generalize oneF ws 1 64 = R at HO hbd hRR
  have HR := Lib.hid hRR
  clear hRR
  clear h hl
  go_enter Tryz.func49, Tryz.ntmps49
  go_wp2_with fail
  refine (HO.out _ ((Below.refl _ _).alloc (Nat.le_refl _) _)).mono ?_
  rintro e w1 ⟨hb1, hr⟩
  have hB := Isa.below_box hb1
  have HA1 := Lib.hid (HA.out.below hB)
  cases R with
  | error er =>
    obtain rfl := hr
    obtain rfl : RR = .error er := HR.out.symm
    exact ⟨rfl, Fr.of_below hB hs, rfl⟩
  | ok v =>
    obtain rfl := hr
    obtain ⟨v0, v1⟩ := hbd v rfl
    obtain ⟨k0, k1, k2, k3, hlt⟩ := HA1.out.cell
    have hq := quo_pos (a := S.at' + v - 1) (v := v) (by omega) v0
    have hd0 : 0 ≤ (S.at' + v - 1) / v := Int.ediv_nonneg (by omega) (by omega)
    have hd1 : (S.at' + v - 1) / v ≤ 4160 := Int.le_trans (Int.ediv_le_self _ (by omega)) (by omega)
    have hm0 : 0 ≤ (S.at' + v - 1) / v * v := Int.mul_nonneg hd0 (by omega)
    have hm1 : (S.at' + v - 1) / v * v ≤ 4160 := Int.le_trans (Int.ediv_mul_le _ (by omega)) (by omega)
    have w1' : IntKind.i64.wrap (S.at' + v) = S.at' + v := IntWalk.i64_in _ ⟨by omega, by omega⟩
    have w2' : IntKind.i64.wrap (S.at' + v - 1) = S.at' + v - 1 := IntWalk.i64_in _ ⟨by omega, by omega⟩
    have w3' : IntKind.i64.wrap ((S.at' + v - 1).tdiv v) = (S.at' + v - 1) / v := by rw [hq]; exact IntWalk.i64_in _ ⟨by omega, by omega⟩
    have w4' : IntKind.i64.wrap ((S.at' + v - 1) / v * v) = (S.at' + v - 1) / v * v := IntWalk.i64_in _ ⟨by omega, by omega⟩
    have hv0 : ¬ v = 0 := by omega
    have HT := Lib.hid (to_m base wk pb ob again S ((S.at' + v - 1) / v * v) w1 HA1.out hm0 (by omega))
    obtain ⟨T, hT⟩ : ∃ T, toF again S ((S.at' + v - 1) / v * v) = T := ⟨_, rfl⟩
    rw [hT] at HT
    obtain rfl : RR = T := by rw [← HR.out, ← hT]
    clear hT HR
    go_wp2_with fail
    refine HT.out.mono ?_
    rintro e w2 hm
    have hm' := hm.pre hB hs
    cases RR with
    | error er =>
      obtain ⟨f1, rfl⟩ := hm'
      exact ⟨rfl, f1, rfl⟩
    | ok T =>
      obtain ⟨f1, rfl, f2⟩ := hm'
      go_wp2_with fail
      go_end0
      exact ⟨f1, rfl, f2⟩
end Go.Proofs.YtgfljokamgbcaaaGreatDoor
