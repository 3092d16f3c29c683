/- The walk of asm's label. (Written by mkAK.py.) -/
import Derived.Test.YtgfljokamgbcaaaGreatDoorAsJ
namespace Go.Proofs.YtgfljokamgbcaaaGreatDoor
open Go.RowKit
set_option linter.unusedSimpArgs false
set_option linter.unusedVariables false
set_option maxRecDepth 100000

theorem Tryz.infoLb : (Tryz.prog.info? 61).map (fun i => (i.zero, i.size, i.bytes)) = some (some (.agg #[.string ⟨#[]⟩, .int .i64 0]), 2, 24) := by kernel_rfl

/-- What 'label' hands back: the line without its label. -/
def LabP (base wk pb ob : Nat) (again : Bool) (n : Int) (r : Except Int (St × List Wd)) (w : World) (e : Ending) (w' : World) : Prop := Fr base pb w w' ∧ match r with
  | .ok (T, vs) => ∃ ao' cap', e = .returned (lnV n ao' vs.length cap') ∧ LnOk w' ao' vs cap' ∧ AsOk base wk pb ob again T w'
  | .error er => e = .panicked (wrongP er)
set_option maxHeartbeats 8000000 in
theorem label_none (base wk pb ob : Nat) (again : Bool) (S : St) (n : Int) (ao : Option Addr) (cap : Nat) (w0 : Wd) (rest : List Wd) (w : World) (h : AsOk base wk pb ob again S w) (hl : LnOk w ao (w0 :: rest) cap) (hc : w0.getLast? ≠ some 58) :
    Calls Tryz.prog 26 #[.pointer (some ⟨wk, 0, none⟩), lnV n ao (w0 :: rest).length cap] w (LabP base wk pb ob again n (labelF again S (w0 :: rest)) w) := by
  have hR : labelF again S (w0 :: rest) = .ok (S, w0 :: rest) := by unfold labelF; exact if_neg hc
  rw [hR]
  have HA := Lib.hid h
  have HL := Lib.hid hl
  have hs := h.hs
  obtain ⟨blk, off, rfl, hb, y0⟩ := wd_at hl.inn (i := 0) rfl
  have HS := Lib.hid (cutS_c w0 (by have := (hl.each w0 List.mem_cons_self).2; omega))
  rw [if_neg hc, show decide (w0.getLast? = some 58) = false by simpa using hc] at HS
  have hle := hl.le
  have hcap := hl.cap
  simp only [List.length_cons, Nat.add_zero] at y0 hle
  obtain ⟨len, hlen⟩ : ∃ len, (w0 :: rest).length = len + 1 := ⟨rest.length, rfl⟩
  have hle2 : len + 1 ≤ cap := by rw [← hlen]; exact hl.le
  rw [hlen]
  have HLN := Lib.hid hlen
  have i1 : (0 : Int) < (len : Int) + 1 := by omega
  unfold lnV
  clear h hl hR hc hle hlen
  go_enter Tryz.func26, Tryz.ntmps26
  go_wp2_with fail
  refine (HS.out _).mono ?_
  rintro e w1 ⟨rfl, rfl⟩
  go_wp2_with fail
  refine bodyPost_ret (v := .agg #[.int .i64 n, .slice (some ⟨blk, off, none⟩) (len + 1) cap]) ?_ rfl ?_
  · simp [results, Tryz.results26, go_sem]
  · have hB : Below w.heap.size w ((w.alloc (.cells #[.int .i64 n, .slice (some ⟨blk, off, none⟩) (len + 1) cap] 51)).alloc (.cells #[.int .i64 n, .slice (some ⟨blk, off, none⟩) (len + 1) cap] 51)) := ((Below.refl _ _).alloc (Nat.le_refl _) _).alloc (by simp) _
    exact ⟨Fr.of_below hB hs, some ⟨blk, off, none⟩, cap, by rw [HLN.out]; rfl, HL.out.below hB, HA.out.below hB⟩

theorem ln_tail {w : World} {blk off cap : Nat} {w0 : Wd} {rest : List Wd} (h : LnOk w (some ⟨blk, off, none⟩) (w0 :: rest) cap) (hc : 1 < cap) : LnOk w (some ⟨blk, off + 1, none⟩) rest (cap - 1) := by
  refine ⟨?_, by have := h.le; simp at this; omega, by have := h.cap; omega, fun s hs => h.each s (List.mem_cons_of_mem _ hs), fun b o e => by cases e; exact h.ty _ _ rfl⟩
  rcases h.inn with h' | ⟨b, o, h1, h2⟩
  · cases h'
  · cases h1
    exact .inr ⟨blk, off + 1, rfl, fun i s hs => by have := h2 (i + 1) s (by simpa using hs); rwa [show off + (i + 1) = off + 1 + i by omega] at this⟩

theorem ln_gone {w : World} {blk off : Nat} {w0 : Wd} {rest : List Wd} (h : LnOk w (some ⟨blk, off, none⟩) (w0 :: rest) 1) : LnOk w (some ⟨blk, off, none⟩) rest 0 := by
  have hl := h.le
  simp at hl
  subst hl
  exact ⟨.inl rfl, Nat.le_refl _, by omega, fun s hs => (by cases hs), fun b o e => (by cases e; exact h.ty _ _ rfl)⟩

set_option maxHeartbeats 8000000 in
theorem label_again (base wk pb ob : Nat) (S : St) (n : Int) (ao : Option Addr) (cap : Nat) (w0 : Wd) (rest : List Wd) (w : World) (h : AsOk base wk pb ob true S w) (hl : LnOk w ao (w0 :: rest) cap) (hc : w0.getLast? = some 58) :
    Calls Tryz.prog 26 #[.pointer (some ⟨wk, 0, none⟩), lnV n ao (w0 :: rest).length cap] w (LabP base wk pb ob true n (labelF true S (w0 :: rest)) w) := by
  have hR : labelF true S (w0 :: rest) = .ok (S, rest) := by unfold labelF; exact (if_pos hc).trans (if_pos rfl)
  rw [hR]
  have HA := Lib.hid h
  have HL := Lib.hid hl
  have hs := h.hs
  obtain ⟨blk, off, rfl, hb, y0⟩ := wd_at hl.inn (i := 0) rfl
  obtain ⟨k0, k1, k2, k3, hlt⟩ := h.cell
  have HS := Lib.hid (cutS_c w0 (by have := (hl.each w0 List.mem_cons_self).2; omega))
  rw [if_pos hc, show decide (w0.getLast? = some 58) = true by simpa using hc] at HS
  have hcap := hl.cap
  simp only [Nat.add_zero] at y0
  obtain ⟨len, hlen⟩ : ∃ len, rest.length = len := ⟨_, rfl⟩
  have hle2 : len + 1 ≤ cap := by have := hl.le; rw [List.length_cons, hlen] at this; exact this
  rw [List.length_cons, hlen]
  have HLN := Lib.hid hlen
  have i1 : (0 : Int) < (len : Int) + 1 := by omega
  have i2 : (1 : Int) ≤ (len : Int) + 1 := by omega
  have i3 : (len : Int) + 1 ≤ (cap : Int) := by omega
  unfold lnV
  clear h hl hR hc hlen
  by_cases c1 : cap = 1
  · obtain rfl : len = 0 := by omega
    subst c1
    go_enter Tryz.func26, Tryz.ntmps26
    go_wp2_with fail
    refine (HS.out _).mono ?_
    rintro e w1 ⟨rfl, rfl⟩
    go_wp2_with fail
    refine bodyPost_ret (v := .agg #[.int .i64 n, .slice (some ⟨blk, off, none⟩) 0 0]) ?_ rfl ?_
    · simp [results, Tryz.results26, go_sem]
    · have hB : Below w.heap.size w ((w.alloc (.cells #[.int .i64 n, .slice (some ⟨blk, off, none⟩) 0 0] 51)).alloc (.cells #[.int .i64 n, .slice (some ⟨blk, off, none⟩) 0 0] 51)) := ((Below.refl _ _).alloc (Nat.le_refl _) _).alloc (by simp) _
      exact ⟨Fr.of_below hB hs, some ⟨blk, off, none⟩, 0, by rw [HLN.out]; rfl, (ln_gone HL.out).below hB, HA.out.below hB⟩
  · have i4 : (1 : Int) < (cap : Int) := by omega
    have i5 : 1 < cap := by omega
    go_enter Tryz.func26, Tryz.ntmps26
    go_wp2_with fail
    refine (HS.out _).mono ?_
    rintro e w1 ⟨rfl, rfl⟩
    go_wp2_with fail
    refine bodyPost_ret (v := .agg #[.int .i64 n, .slice (some ⟨blk, off + 1, none⟩) len (cap - 1)]) ?_ rfl ?_
    · simp [results, Tryz.results26, go_sem]
    · have hB : Below w.heap.size w ((w.alloc (.cells #[.int .i64 n, .slice (some ⟨blk, off + 1, none⟩) len (cap - 1)] 51)).alloc (.cells #[.int .i64 n, .slice (some ⟨blk, off + 1, none⟩) len (cap - 1)] 51)) := ((Below.refl _ _).alloc (Nat.le_refl _) _).alloc (by simp) _
      exact ⟨Fr.of_below hB hs, some ⟨blk, off + 1, none⟩, cap - 1, by rw [HLN.out]; rfl, (ln_tail HL.out i5).below hB, HA.out.below hB⟩

theorem wf_at {a : Int} (h0 : 0 ≤ a) (h1 : a ≤ 4096) : (Lit.int .i64 a).wf = true := by
  have e1 : IntKind.min .i64 = -9223372036854775808 := by decide
  have e2 : IntKind.max .i64 = 9223372036854775807 := by decide
  simp only [Lit.wf, Bool.and_eq_true, decide_eq_true_eq]
  omega
theorem findL_none {l : List (Wd × Int)} {s : Wd} (h : (findL l s).isSome = false) : findL l s = none := by
  cases hf : findL l s with
  | none => rfl
  | some a => rw [hf] at h; cases h
theorem fr_new {base pb b i : Nat} {w w5 : World} {v : Value} (h : Fr base pb w w5) (hs : base ≤ w.heap.size) (hb : w.heap.size ≤ b) : Fr base pb w (w5.setCell ⟨b, i, none⟩ v) :=
  ⟨h.below.setCell (by simp; omega) _, fun g o hg ho hne => (Below.heap_setCell _ _ _ _ (fun e => by have := heap_ltA hg; have e2 : g = b := e; omega)).trans (h.out g o hg ho hne)⟩
theorem as_new {base wk pb ob : Nat} {again : Bool} {S : St} {pl : List (Wd × Int)} {vB vL vM : Value} {w5 : World} {b i : Nat} {cs : Array Value} {v : Value} (h : AsFix base wk pb ob again S pl vB vL vM w5) (hb : w5.heap[b]? = some (.cells cs 51 (0, 0))) : AsFix base wk pb ob again S pl vB vL vM (w5.setCell ⟨b, i, none⟩ v) :=
  h.same (fun g o hg ho => (Below.heap_setCell _ _ _ _ (fun e => by
    have e2 : g = b := e
    subst e2
    rw [hb] at hg
    cases hg
    rcases ho with ho | ho | ho
    · exact ho (by simp [OutO])
    · obtain ⟨es, cl, hp⟩ := h.pm.heap; rw [← ho, hb] at hp; cases hp
    · obtain ⟨es, cl, hp⟩ := h.om.heap; rw [← ho, hb] at hp; cases hp)).trans hg)
theorem line_set {w : World} {b b' i : Nat} {cs : Array Value} {v : Value} (h : w.heap[b]? = some (.cells cs 51 (0, 0))) : ∃ cs', (w.setCell ⟨b', i, none⟩ v).heap[b]? = some (.cells cs' 51 (0, 0)) := by
  by_cases e : b = b'
  · subst e
    have hk := heap_ltA h
    have h2 : w.heap[b] = .cells cs 51 (0, 0) := by rw [Array.getElem?_eq_getElem hk] at h; exact Option.some.inj h
    exact ⟨cs.setIfInBounds i v, by simp [World.setCell, hk, Array.getElem_modify, h2]⟩
  · exact ⟨cs, (Below.heap_setCell _ _ _ _ e).trans h⟩
/-- What 'label' hands back when a label has been entered. -/
theorem lab_end {base wk pb ob : Nat} {S : St} {n : Int} {d : Wd} {rest : List Wd} {len cap' i1 i2 i3 : Nat} {ao' : Option Addr} {vB vL vM : Value} {es : Array MapEntry} {cl : Nat} {w w5 : World} {cx cy : Array Value} {v1 v2 v3 : Value} (hA : AsOk base wk pb ob false S w) (hF : AsFix base wk pb ob false { S with labels := S.labels ++ [(d, S.at')] } (S.labels ++ [(d, S.at')]) vB vL vM w5) (hfr : Fr base pb w w5) (hpm : w.heap[pb]? = some (.map es cl)) (hl : LnOk w ao' rest cap') (hlen : rest.length = len)
    (hx : w5.heap[w.heap.size]? = some (.cells cx 51 (0, 0))) (hy : w5.heap[w.heap.size + 1]? = some (.cells cy 51 (0, 0))) :
    LabP base wk pb ob false n (.ok ({ S with labels := S.labels ++ [(d, S.at')] }, rest)) w (.returned (.agg #[.int .i64 n, .slice ao' len cap'])) (((w5.setCell ⟨w.heap.size, i1, none⟩ v1).setCell ⟨w.heap.size + 1, i2, none⟩ v2).setCell ⟨w.heap.size + 1, i3, none⟩ v3) := by
  obtain ⟨c1, hy1⟩ := line_set (b' := w.heap.size) (i := i1) (v := v1) hy
  obtain ⟨c2, hy2⟩ := line_set (b' := w.heap.size + 1) (i := i2) (v := v2) hy1
  have hfw := fr_new (i := i3) (v := v3) (fr_new (i := i2) (v := v2) (fr_new (i := i1) (v := v1) hfr hA.hs (Nat.le_refl _)) hA.hs (Nat.le_succ _)) hA.hs (Nat.le_succ _)
  exact ⟨hfw, ao', cap', by rw [hlen]; rfl, hl.fr hfw hpm, ⟨⟨vB, vL, vM, as_new (as_new (as_new hF hx) hy1) hy2⟩, Nat.le_trans hA.hs hfw.size, hA.a0, hA.a1, hA.bl, hA.ml, fun p hp => by
    rcases List.mem_append.1 hp with hp | hp
    · exact hA.lb p hp
    · simp at hp
      subst hp
      exact ⟨hA.a0, hA.a1⟩, hA.tab.on hfw.below⟩⟩
set_option maxHeartbeats 8000000 in
theorem label_new (base wk pb ob : Nat) (S : St) (n : Int) (ao : Option Addr) (cap : Nat) (w0 : Wd) (rest : List Wd) (w : World) (h : AsOk base wk pb ob false S w) (hl : LnOk w ao (w0 :: rest) cap) (hc : w0.getLast? = some 58) (hll : S.labels.length ≤ 100000) :
    Calls Tryz.prog 26 #[.pointer (some ⟨wk, 0, none⟩), lnV n ao (w0 :: rest).length cap] w (LabP base wk pb ob false n (labelF false S (w0 :: rest)) w) := by
  obtain ⟨r0, hr, hy0, hy1, hy2⟩ := info_parts Tryz.infoLb
  have hR : labelF false S (w0 :: rest) = if (findL S.labels w0.dropLast).isSome ∨ nameB w0.dropLast = false then .error 310 else .ok ({ S with labels := S.labels ++ [(w0.dropLast, S.at')] }, rest) := by unfold labelF; exact (if_pos hc).trans (if_neg (by decide))
  have HA := Lib.hid h
  have HL := Lib.hid hl
  have hs := h.hs
  have hG0 := give_c
  have HG := Lib.hid hG0
  clear hG0
  have hwl : w0.length ≤ 10000 := (hl.each w0 List.mem_cons_self).2
  obtain ⟨blk, off, rfl, hb, y0⟩ := wd_at hl.inn (i := 0) rfl
  obtain ⟨k0, k1, k2, k3, hlt⟩ := h.cell
  have HS := Lib.hid (cutS_c w0 (by omega))
  rw [if_pos hc, show decide (w0.getLast? = some 58) = true by simpa using hc] at HS
  have hdl : w0.dropLast.length ≤ 10000 := by simp; omega
  generalize w0.dropLast = d at HS hR hdl
  have HN := Lib.hid (name_cA d (by omega))
  have hcap := hl.cap
  simp only [Nat.add_zero] at y0
  obtain ⟨len, hlen⟩ : ∃ len, rest.length = len := ⟨_, rfl⟩
  have hle2 : len + 1 ≤ cap := by have := hl.le; rw [List.length_cons, hlen] at this; exact this
  rw [List.length_cons, hlen, hR]
  have HLN := Lib.hid hlen
  have i1 : (0 : Int) < (len : Int) + 1 := by omega
  have i2 : (1 : Int) ≤ (len : Int) + 1 := by omega
  have i3 : (len : Int) + 1 ≤ (cap : Int) := by omega
  obtain ⟨vB, vL, vM, hF⟩ := h.is
  have hplt := hF.pm.lt
  obtain ⟨es, cl, hpm⟩ := hF.pm.heap
  have hlk := ((hF.alloc (.cells #[.int .i64 n, .slice (some ⟨blk, off, none⟩) (len + 1) cap] 51)).alloc (.cells #[.int .i64 0, .slice none 0 0] 51)).pm.look (mt := 40) Tryz.underlying3 Tryz.underlying40 (by kernel_rfl) (by decide) d (by unfold maxLen; omega)
  have hwd : (⟨d.toArray⟩ : ByteArray).size = d.length := ba_size d
  unfold lnV
  obtain ⟨RR, hRR⟩ : ∃ RR, (if (findL S.labels d).isSome ∨ nameB d = false then (.error 310 : Except Int (St × List Wd)) else .ok ({ S with labels := S.labels ++ [(d, S.at')] }, rest)) = RR := ⟨_, rfl⟩
  rw [hRR]
  have HRR := Lib.hid hRR
  have HF := Lib.hid hF
  have HPM := Lib.hid hpm
  clear h hl hR hRR hc hlen hF hpm
  cases hfd : (findL S.labels d).isSome
  · have hfn := findL_none hfd
    rw [hfn] at hlk
    simp only [Option.isSome_none, Option.getD_none] at hlk
    have HFN := Lib.hid hfn
    rw [hfd] at HRR
    clear hfn hfd
    go_enter Tryz.func26, Tryz.ntmps26
    go_wp2_with fail
    refine (HS.out _).mono ?_
    rintro e w1 ⟨rfl, rfl⟩
    go_wp2_with fail
    refine (HN.out _).mono ?_
    rintro e w2 ⟨rfl, hb2⟩
    have hBA : Below w.heap.size w ((w.alloc (.cells #[.int .i64 n, .slice (some ⟨blk, off, none⟩) (len + 1) cap] 51)).alloc (.cells #[.int .i64 0, .slice none 0 0] 51)) := ((Below.refl _ _).alloc (Nat.le_refl _) _).alloc (by simp) _
    have hB2 : Below w.heap.size w w2 := hBA.trans (hb2.mono hBA.size)
    have hbx2 : w2.heap[w.heap.size]? = some (.cells #[.int .i64 n, .slice (some ⟨blk, off, none⟩) (len + 1) cap] 51 (0, 0)) := (hb2.block _ (by simp; omega)).trans (heap_alloc_old' (heap_alloc_new w _))
    have hby2 : w2.heap[w.heap.size + 1]? = some (.cells #[.int .i64 0, .slice none 0 0] 51 (0, 0)) := (hb2.block _ (by simp)).trans (by have := heap_alloc_new (w.alloc (.cells #[.int .i64 n, .slice (some ⟨blk, off, none⟩) (len + 1) cap] 51)) (.cells #[.int .i64 0, .slice none 0 0] 51); rwa [World.size_alloc] at this)
    have hs2 : w.heap.size + 1 < w2.heap.size := heap_ltA hby2
    have HB2 := Lib.hid hB2
    have HBX2 := Lib.hid hbx2
    have HBY2 := Lib.hid hby2
    clear hb2 hBA hB2 hbx2 hby2 hlk
    cases hnm : nameB d
    · obtain rfl : RR = .error 310 := by rw [← HRR.out, hnm]; simp
      clear HRR hnm
      go_wp2_with fail
      refine (HG.out _ _).mono ?_
      rintro e w3 ⟨rfl, rfl⟩
      exact ⟨rfl, Fr.of_below HB2.out hs, rfl⟩
    · obtain rfl : RR = .ok ({ S with labels := S.labels ++ [(d, S.at')] }, rest) := by rw [← HRR.out, hnm]; simp
      clear HRR hnm
      have hF2 := (HF.out.below HB2.out).drew
      obtain ⟨w3, hput, hSM, hgr⟩ := hF2.pm.put (mt := 40) Tryz.underlying3 Tryz.underlying40 (by omega) d (by unfold maxLen; omega) S.at' (wf_at HA.out.a0 HA.out.a1)
      have hF3 := hF2.setPm (pl' := S.labels ++ [(d, S.at')]) hgr (by rw [List.length_append]; exact hSM.ext (find_snoc _ _ _ HFN.out))
      have kp : w2.drew.cell? ⟨wk, 2, none⟩ = some (.map (some pb)) := hF2.cell 2
      have ka : w2.drew.cell? ⟨wk, 0, none⟩ = some (.int .i64 S.at') := hF2.cell 0
      have hfr3 : Fr base pb w w3 := (Fr.of_below HB2.out hs).trans ((Fr.of_below (Below.refl _ _).drew (by omega)).trans (Fr.map hgr hF2.lp (by simp; omega)))
      have hsz3 : w2.heap.size ≤ w3.heap.size := by have := hgr.size; simpa using this
      have hbx3 := (Fr.map hgr hF2.lp (by simp; omega) : Fr base pb w2.drew w3).out _ _ HBX2.out (by simp [OutO]) (by omega)
      have hby3 := (Fr.map hgr hF2.lp (by simp; omega) : Fr base pb w2.drew w3).out _ _ HBY2.out (by simp [OutO]) (by omega)
      have HF3 := Lib.hid hF3
      have HFR3 := Lib.hid hfr3
      have HBX3 := Lib.hid hbx3
      have HBY3 := Lib.hid hby3
      clear hF2 hF3 hSM hgr hfr3 hbx3 hby3
      go_wp2_with fail
      refine wp_region_held_drew (S := fun _ => True) (by kernel_rfl) trivial (fun hHeld => ?_)
      refine wpAnyH_take (i := 0) (oi := ⟨some 41, Op.move (Operand.tmp 0), _, _, _, none⟩) (v := .pointer (some ⟨wk, 0, none⟩)) rfl (by kernel_rfl) (by kernel_rfl) (by kernel_rfl) (fun _ _ _ h => h) (Or.inl ⟨by rfl, ?_⟩) hHeld ?_
      · intro w' hSw
        skip
        go_simp
      try simp only [Act.put, List.setIfInBounds_toArray, List.set_cons_zero, List.set_cons_succ]
      refine wpAnyH_take (i := 1) (oi := ⟨some 42, Op.nilCheck (Operand.tmp 41), _, _, _, none⟩) (v := .pointer (some ⟨wk, 0, none⟩)) rfl (by kernel_rfl) (by kernel_rfl) (by kernel_rfl) (fun _ _ _ h => h) (Or.inl ⟨by rfl, ?_⟩) hHeld ?_
      · intro w' hSw
        skip
        go_simp
      try simp only [Act.put, List.setIfInBounds_toArray, List.set_cons_zero, List.set_cons_succ]
      refine wpAnyH_take (i := 2) (oi := ⟨some 43, Op.fieldAddr _ (Operand.tmp 42) 2, _, _, _, none⟩) (v := .pointer (some ⟨wk, 2, none⟩)) rfl (by kernel_rfl) (by kernel_rfl) (by kernel_rfl) (fun _ _ _ h => h) (Or.inl ⟨by rfl, ?_⟩) hHeld ?_
      · intro w' hSw
        skip
        go_simp
      try simp only [Act.put, List.setIfInBounds_toArray, List.set_cons_zero, List.set_cons_succ]
      refine wpAnyH_take (i := 4) (oi := ⟨some 45, Op.move (Operand.tmp 5), _, _, _, none⟩) (v := .string ⟨d.toArray⟩) rfl (by kernel_rfl) (by kernel_rfl) (by kernel_rfl) (fun _ _ _ h => h) (Or.inl ⟨by rfl, ?_⟩) hHeld ?_
      · intro w' hSw
        skip
        go_simp
      try simp only [Act.put, List.setIfInBounds_toArray, List.set_cons_zero, List.set_cons_succ]
      refine wpAnyH_take (i := 5) (oi := ⟨some 46, Op.move (Operand.tmp 0), _, _, _, none⟩) (v := .pointer (some ⟨wk, 0, none⟩)) rfl (by kernel_rfl) (by kernel_rfl) (by kernel_rfl) (fun _ _ _ h => h) (Or.inl ⟨by rfl, ?_⟩) hHeld ?_
      · intro w' hSw
        skip
        go_simp
      try simp only [Act.put, List.setIfInBounds_toArray, List.set_cons_zero, List.set_cons_succ]
      refine wpAnyH_take (i := 6) (oi := ⟨some 47, Op.nilCheck (Operand.tmp 46), _, _, _, none⟩) (v := .pointer (some ⟨wk, 0, none⟩)) rfl (by kernel_rfl) (by kernel_rfl) (by kernel_rfl) (fun _ _ _ h => h) (Or.inl ⟨by rfl, ?_⟩) hHeld ?_
      · intro w' hSw
        skip
        go_simp
      try simp only [Act.put, List.setIfInBounds_toArray, List.set_cons_zero, List.set_cons_succ]
      refine wpAnyH_take (i := 7) (oi := ⟨some 48, Op.fieldAddr _ (Operand.tmp 47) 0, _, _, _, none⟩) (v := .pointer (some ⟨wk, 0, none⟩)) rfl (by kernel_rfl) (by kernel_rfl) (by kernel_rfl) (fun _ _ _ h => h) (Or.inl ⟨by rfl, ?_⟩) hHeld ?_
      · intro w' hSw
        skip
        go_simp
      try simp only [Act.put, List.setIfInBounds_toArray, List.set_cons_zero, List.set_cons_succ]
      refine wpAnyH_ready (rs := [3, 8]) (by kernel_rfl) (by simp) ?_
      refine (AllReadyH.cons (o := ⟨some 44, Op.load _ (Operand.tmp 43), _, _, _, none⟩) rfl (fun K hK => ?_) (AllReadyH.cons (o := ⟨some 49, Op.load _ (Operand.tmp 48), _, _, _, none⟩) rfl (fun K hK => ?_) AllReadyH.nil))
      · go_simp
        refine hK.out _ _ trivial (fun _ => ?_)
        clear hK K
        try simp only [Act.put, List.setIfInBounds_toArray, List.set_cons_zero, List.set_cons_succ]
        refine wpAnyH_ready (rs := [8]) (by kernel_rfl) (by simp) ?_
        refine (AllReadyH.cons (o := ⟨some 49, Op.load _ (Operand.tmp 48), _, _, _, none⟩) rfl (fun K hK => ?_) AllReadyH.nil)
        · go_simp
          refine hK.out _ _ trivial (fun _ => ?_)
          clear hK K
          try simp only [Act.put, List.setIfInBounds_toArray, List.set_cons_zero, List.set_cons_succ]
          refine wpAnyH_ready (rs := [9]) (by kernel_rfl) (by simp) ?_
          refine (AllReadyH.cons (o := ⟨none, Op.mapUpdate _ (Operand.tmp 44) (Operand.tmp 45) (Operand.tmp 49), _, _, _, none⟩) rfl (fun K hK => ?_) AllReadyH.nil)
          · go_simp
            refine hK.out _ _ trivial (fun _ => ?_)
            clear hK K
            try simp only [Act.put, List.setIfInBounds_toArray, List.set_cons_zero, List.set_cons_succ]
            refine wpAnyH_done (by kernel_rfl) ?_ _
            have hs3 : w.heap.size + 1 < w3.heap.size := by omega
            obtain ⟨aL, cL, rfl⟩ := own_sliceA HF3.out.ls
            have kl : w3.drew.cell? ⟨wk, 5, none⟩ = some (.slice aL S.labels.length cL) := HF3.out.cell 5
            have kl' : w3.cell? ⟨wk, 5, none⟩ = some (.slice aL S.labels.length cL) := HF3.out.cell 5
            have ka3 : w3.drew.cell? ⟨wk, 0, none⟩ = some (.int .i64 S.at') := HF3.out.cell 0
            have ka3' : w3.cell? ⟨wk, 0, none⟩ = some (.int .i64 S.at') := HF3.out.cell 0
            have lt3 : wk < w3.heap.size := HF3.out.lt
            have HR4 := Lib.hid ((HF3.out.alloc (.cells #[.string ⟨d.toArray⟩, .int .i64 S.at'] 61)).drew)
            clear kp ka hput hHeld
            go_wp2_with fail
            refine wp_region_held_drew (S := fun _ => True) (by kernel_rfl) trivial (fun hHeld => ?_)
            refine wpAnyH_take (i := 0) (oi := ⟨some 50, Op.move (Operand.tmp 0), _, _, _, none⟩) (v := .pointer (some ⟨wk, 0, none⟩)) rfl (by kernel_rfl) (by kernel_rfl) (by kernel_rfl) (fun _ _ _ h => h) (Or.inl ⟨by rfl, ?_⟩) hHeld ?_
            · intro w' hSw
              skip
              go_simp
            try simp only [Act.put, List.setIfInBounds_toArray, List.set_cons_zero, List.set_cons_succ]
            refine wpAnyH_take (i := 1) (oi := ⟨some 51, Op.move (Operand.tmp 0), _, _, _, none⟩) (v := .pointer (some ⟨wk, 0, none⟩)) rfl (by kernel_rfl) (by kernel_rfl) (by kernel_rfl) (fun _ _ _ h => h) (Or.inl ⟨by rfl, ?_⟩) hHeld ?_
            · intro w' hSw
              skip
              go_simp
            try simp only [Act.put, List.setIfInBounds_toArray, List.set_cons_zero, List.set_cons_succ]
            refine wpAnyH_take (i := 2) (oi := ⟨some 52, Op.nilCheck (Operand.tmp 51), _, _, _, none⟩) (v := .pointer (some ⟨wk, 0, none⟩)) rfl (by kernel_rfl) (by kernel_rfl) (by kernel_rfl) (fun _ _ _ h => h) (Or.inl ⟨by rfl, ?_⟩) hHeld ?_
            · intro w' hSw
              skip
              go_simp
            try simp only [Act.put, List.setIfInBounds_toArray, List.set_cons_zero, List.set_cons_succ]
            refine wpAnyH_take (i := 3) (oi := ⟨some 53, Op.fieldAddr _ (Operand.tmp 52) 4, _, _, _, none⟩) (v := .pointer (some ⟨wk, 4, none⟩)) rfl (by kernel_rfl) (by kernel_rfl) (by kernel_rfl) (fun _ _ _ h => h) (Or.inl ⟨by rfl, ?_⟩) hHeld ?_
            · intro w' hSw
              skip
              go_simp
            try simp only [Act.put, List.setIfInBounds_toArray, List.set_cons_zero, List.set_cons_succ]
            refine wpAnyH_take (i := 4) (oi := ⟨some 54, Op.fieldAddr _ (Operand.tmp 53) 1, _, _, _, none⟩) (v := .pointer (some ⟨wk, 5, none⟩)) rfl (by kernel_rfl) (by kernel_rfl) (by kernel_rfl) (fun _ _ _ h => h) (Or.inl ⟨by rfl, ?_⟩) hHeld ?_
            · intro w' hSw
              skip
              go_simp
            try simp only [Act.put, List.setIfInBounds_toArray, List.set_cons_zero, List.set_cons_succ]
            refine wpAnyH_take (i := 6) (oi := ⟨some 56, Op.move (Operand.tmp 5), _, _, _, none⟩) (v := .string ⟨d.toArray⟩) rfl (by kernel_rfl) (by kernel_rfl) (by kernel_rfl) (fun _ _ _ h => h) (Or.inl ⟨by rfl, ?_⟩) hHeld ?_
            · intro w' hSw
              skip
              go_simp
            try simp only [Act.put, List.setIfInBounds_toArray, List.set_cons_zero, List.set_cons_succ]
            refine wpAnyH_take (i := 7) (oi := ⟨some 57, Op.move (Operand.tmp 0), _, _, _, none⟩) (v := .pointer (some ⟨wk, 0, none⟩)) rfl (by kernel_rfl) (by kernel_rfl) (by kernel_rfl) (fun _ _ _ h => h) (Or.inl ⟨by rfl, ?_⟩) hHeld ?_
            · intro w' hSw
              skip
              go_simp
            try simp only [Act.put, List.setIfInBounds_toArray, List.set_cons_zero, List.set_cons_succ]
            refine wpAnyH_take (i := 8) (oi := ⟨some 58, Op.nilCheck (Operand.tmp 57), _, _, _, none⟩) (v := .pointer (some ⟨wk, 0, none⟩)) rfl (by kernel_rfl) (by kernel_rfl) (by kernel_rfl) (fun _ _ _ h => h) (Or.inl ⟨by rfl, ?_⟩) hHeld ?_
            · intro w' hSw
              skip
              go_simp
            try simp only [Act.put, List.setIfInBounds_toArray, List.set_cons_zero, List.set_cons_succ]
            refine wpAnyH_take (i := 9) (oi := ⟨some 59, Op.fieldAddr _ (Operand.tmp 58) 0, _, _, _, none⟩) (v := .pointer (some ⟨wk, 0, none⟩)) rfl (by kernel_rfl) (by kernel_rfl) (by kernel_rfl) (fun _ _ _ h => h) (Or.inl ⟨by rfl, ?_⟩) hHeld ?_
            · intro w' hSw
              skip
              go_simp
            try simp only [Act.put, List.setIfInBounds_toArray, List.set_cons_zero, List.set_cons_succ]
            refine wpAnyH_ready (rs := [5, 10]) (by kernel_rfl) (by simp) ?_
            refine (AllReadyH.cons (o := ⟨some 55, Op.load _ (Operand.tmp 54), _, _, _, none⟩) rfl (fun K hK => ?_) (AllReadyH.cons (o := ⟨some 60, Op.load _ (Operand.tmp 59), _, _, _, none⟩) rfl (fun K hK => ?_) AllReadyH.nil))
            · go_simp
              refine hK.out _ _ trivial (fun _ => ?_)
              clear hK K
              try simp only [Act.put, List.setIfInBounds_toArray, List.set_cons_zero, List.set_cons_succ]
              refine wpAnyH_ready (rs := [10]) (by kernel_rfl) (by simp) ?_
              refine (AllReadyH.cons (o := ⟨some 60, Op.load _ (Operand.tmp 59), _, _, _, none⟩) rfl (fun K hK => ?_) AllReadyH.nil)
              · go_simp
                refine hK.out _ _ trivial (fun _ => ?_)
                clear hK K
                try simp only [Act.put, List.setIfInBounds_toArray, List.set_cons_zero, List.set_cons_succ]
                refine wpAnyH_take (i := 11) (oi := ⟨some 61, Op.build _ #[(0, Operand.tmp 56), (1, Operand.tmp 60)], _, _, _, none⟩) (v := .agg #[.string ⟨d.toArray⟩, .int .i64 S.at']) rfl (by kernel_rfl) (by kernel_rfl) (by kernel_rfl) (fun _ _ _ h => h) (Or.inl ⟨by rfl, ?_⟩) hHeld ?_
                · intro w' hSw
                  skip
                  go_simp
                try simp only [Act.put, List.setIfInBounds_toArray, List.set_cons_zero, List.set_cons_succ]
                refine wpAnyH_ready (rs := [12]) (by kernel_rfl) (by simp) ?_
                refine (AllReadyH.cons (o := ⟨some 62, Op.buildSlice _ 1 #[(0, Operand.tmp 61)], _, _, _, none⟩) rfl (fun K hK => ?_) AllReadyH.nil)
                · go_simp
                  refine hK.out _ _ trivial (fun _ => ?_)
                  clear hK K
                  try simp only [Act.put, List.setIfInBounds_toArray, List.set_cons_zero, List.set_cons_succ]
                  refine wpAnyH_ready (rs := [13]) (by kernel_rfl) (by simp) ?_
                  refine (AllReadyH.cons (o := ⟨some 63, Op.call { callee := Callee.builtin Builtin.append, args := #[Operand.tmp 55, Operand.tmp 62], argTypes := _ }, _, _, _, none⟩) rfl (fun K hK => ?_) AllReadyH.nil)
                  · refine (if_pos (by rfl)).mpr ?_
                    refine wp_append_own _ _ _ 24 rfl base 61 r0 _ 2 24 Tryz.underlying24 hr hy0 hy1 hy2 rfl (by decide) (.slice aL S.labels.length cL) S.labels.length (S.labels.flatMap labA) rfl HR4.out.ls ⟨w3.heap.size, 0, none⟩ 1 1 (labA (d, S.at')) rfl rfl (cells_newA _ _ _ _ rfl) (by simp [labA, Value.oneCell']) (by unfold maxLen; omega) (by omega) (by simp; omega) ?_
                    intro v4 w4 hown4 hgrow4 _
                    obtain ⟨a4, q4, rfl⟩ := own_sliceA hown4
                    refine hK.out _ _ trivial (fun _ => ?_)
                    clear hK K
                    have h4 := blk_grownA HR4.out.ls HR4.out.h (fun _ => cells_ne (by decide)) hgrow4
                    have c4 : w4.cell? ⟨wk, 5, none⟩ = some (.slice aL S.labels.length cL) := (World.cell?_of_block h4).trans (HR4.out.cell 5)
                    have f4 : w4.frozen? ⟨wk, 5, none⟩ = false := (World.frozen?_of_block h4).trans (HR4.out.frozen 5)
                    have HG4 := Lib.hid hgrow4
                    have HO4 := Lib.hid hown4
                    clear h4 hown4 hgrow4
                    try simp only [Act.put, List.setIfInBounds_toArray, List.set_cons_zero, List.set_cons_succ]
                    refine wpAnyH_take (i := 14) (oi := ⟨some 64, Op.nilCheck (Operand.tmp 50), _, _, _, none⟩) (v := .pointer (some ⟨wk, 0, none⟩)) rfl (by kernel_rfl) (by kernel_rfl) (by kernel_rfl) (fun _ _ _ h => h) (Or.inl ⟨by rfl, ?_⟩) hHeld ?_
                    · intro w' hSw
                      skip
                      go_simp
                    try simp only [Act.put, List.setIfInBounds_toArray, List.set_cons_zero, List.set_cons_succ]
                    refine wpAnyH_take (i := 15) (oi := ⟨some 65, Op.fieldAddr _ (Operand.tmp 64) 4, _, _, _, none⟩) (v := .pointer (some ⟨wk, 4, none⟩)) rfl (by kernel_rfl) (by kernel_rfl) (by kernel_rfl) (fun _ _ _ h => h) (Or.inl ⟨by rfl, ?_⟩) hHeld ?_
                    · intro w' hSw
                      skip
                      go_simp
                    try simp only [Act.put, List.setIfInBounds_toArray, List.set_cons_zero, List.set_cons_succ]
                    refine wpAnyH_take (i := 16) (oi := ⟨some 66, Op.fieldAddr _ (Operand.tmp 65) 1, _, _, _, none⟩) (v := .pointer (some ⟨wk, 5, none⟩)) rfl (by kernel_rfl) (by kernel_rfl) (by kernel_rfl) (fun _ _ _ h => h) (Or.inl ⟨by rfl, ?_⟩) hHeld ?_
                    · intro w' hSw
                      skip
                      go_simp
                    try simp only [Act.put, List.setIfInBounds_toArray, List.set_cons_zero, List.set_cons_succ]
                    refine wpAnyH_ready (rs := [17]) (by kernel_rfl) (by simp) ?_
                    refine (AllReadyH.cons (o := ⟨none, Op.store _ (Operand.tmp 66) (Operand.tmp 63), _, _, _, none⟩) rfl (fun K hK => ?_) AllReadyH.nil)
                    · go_simp
                      refine hK.out _ _ trivial (fun _ => ?_)
                      clear hK K
                      try simp only [Act.put, List.setIfInBounds_toArray, List.set_cons_zero, List.set_cons_succ]
                      refine wpAnyH_done (by kernel_rfl) ?_ _
                      have hF5 := HR4.out.setLabels (M' := S.labels ++ [(d, S.at')]) HG4.out (by rw [List.length_append, List.flatMap_append]; exact HO4.out)
                      have h4 := blk_grownA HR4.out.ls HR4.out.h (fun _ => cells_ne (by decide)) HG4.out
                      have hfr5 : Fr base pb w3 (w4.setCell ⟨wk, 5, none⟩ (.slice a4 (S.labels.length + 1) q4)) := (Fr.of_below ((Below.refl _ _).alloc (Nat.le_refl _) _).drew (by omega)).trans ((Fr.grown HR4.out.ls (.inr (.inl rfl)) HG4.out (by simp; omega)).trans (Fr.setWk _ (h4.trans HR4.out.h) HR4.out.le))
                      obtain ⟨w5, hw5⟩ : ∃ x, x = w4.setCell ⟨wk, 5, none⟩ (.slice a4 (S.labels.length + 1) q4) := ⟨_, rfl⟩
                      rw [← hw5] at hF5 hfr5 ⊢
                      have hbx5 := hfr5.out _ _ HBX3.out (by simp [OutO]) (by omega)
                      have hby5 := hfr5.out _ _ HBY3.out (by simp [OutO]) (by omega)
                      have u0 : w5.cell? ⟨w.heap.size, 0, none⟩ = some (.int .i64 n) := cell_of_row w5 _ 0 _ _ _ hbx5
                      have u1 : w5.cell? ⟨w.heap.size, 1, none⟩ = some (.slice (some ⟨blk, off, none⟩) (len + 1) cap) := cell_of_row w5 _ 1 _ _ _ hbx5
                      have u2 : w5.cell? ⟨w.heap.size + 1, 0, none⟩ = some (.int .i64 0) := cell_of_row w5 _ 0 _ _ _ hby5
                      have u3 : w5.cell? ⟨w.heap.size + 1, 1, none⟩ = some (.slice none 0 0) := cell_of_row w5 _ 1 _ _ _ hby5
                      have f0 : w5.frozen? ⟨w.heap.size, 1, none⟩ = false := frozen_of_row w5 _ 1 _ _ hbx5
                      have f1 : w5.frozen? ⟨w.heap.size + 1, 0, none⟩ = false := frozen_of_row w5 _ 0 _ _ hby5
                      have f2 : w5.frozen? ⟨w.heap.size + 1, 1, none⟩ = false := frozen_of_row w5 _ 1 _ _ hby5
                      have lx5 : w.heap.size < w5.heap.size := heap_ltA hbx5
                      have ly5 : w.heap.size + 1 < w5.heap.size := heap_ltA hby5
                      have HF5 := Lib.hid hF5
                      have HFR5 := Lib.hid (HFR3.out.trans hfr5)
                      have HBX5 := Lib.hid hbx5
                      have HBY5 := Lib.hid hby5
                      clear hw5 hF5 hfr5 hbx5 hby5 h4 c4 f4 HG4 HO4 kl kl' ka3 ka3' hHeld
                      rcases Nat.lt_or_ge 1 cap with c1 | c1
                      · have i4 : (1 : Int) < (cap : Int) := by omega
                        go_wp2_with fail
                        refine bodyPost_ret (v := .agg #[.int .i64 n, .slice (some ⟨blk, off + 1, none⟩) len (cap - 1)]) ?_ rfl ?_
                        · simp [results, Tryz.results26, go_sem, u0, u1, u2, u3, f0, f1, f2, lx5, ly5]
                        · exact lab_end HA.out HF5.out HFR5.out HPM.out (ln_tail HL.out c1) HLN.out HBX5.out HBY5.out
                      · obtain rfl : cap = 1 := by omega
                        obtain rfl : len = 0 := by omega
                        go_wp2_with fail
                        refine bodyPost_ret (v := .agg #[.int .i64 n, .slice (some ⟨blk, off, none⟩) 0 0]) ?_ rfl ?_
                        · simp [results, Tryz.results26, go_sem, u0, u1, u2, u3, f0, f1, f2, lx5, ly5]
                        · exact lab_end HA.out HF5.out HFR5.out HPM.out (ln_gone HL.out) HLN.out HBX5.out HBY5.out
            · go_simp
              refine hK.out _ _ trivial (fun _ => ?_)
              clear hK K
              try simp only [Act.put, List.setIfInBounds_toArray, List.set_cons_zero, List.set_cons_succ]
              refine wpAnyH_take (i := 11) (oi := ⟨some 61, Op.build _ #[(0, Operand.tmp 56), (1, Operand.tmp 60)], _, _, _, none⟩) (v := .agg #[.string ⟨d.toArray⟩, .int .i64 S.at']) rfl (by kernel_rfl) (by kernel_rfl) (by kernel_rfl) (fun _ _ _ h => h) (Or.inl ⟨by rfl, ?_⟩) hHeld ?_
              · intro w' hSw
                skip
                go_simp
              try simp only [Act.put, List.setIfInBounds_toArray, List.set_cons_zero, List.set_cons_succ]
              refine wpAnyH_ready (rs := [5, 12]) (by kernel_rfl) (by simp) ?_
              refine (AllReadyH.cons (o := ⟨some 55, Op.load _ (Operand.tmp 54), _, _, _, none⟩) rfl (fun K hK => ?_) (AllReadyH.cons (o := ⟨some 62, Op.buildSlice _ 1 #[(0, Operand.tmp 61)], _, _, _, none⟩) rfl (fun K hK => ?_) AllReadyH.nil))
              · go_simp
                refine hK.out _ _ trivial (fun _ => ?_)
                clear hK K
                try simp only [Act.put, List.setIfInBounds_toArray, List.set_cons_zero, List.set_cons_succ]
                refine wpAnyH_ready (rs := [12]) (by kernel_rfl) (by simp) ?_
                refine (AllReadyH.cons (o := ⟨some 62, Op.buildSlice _ 1 #[(0, Operand.tmp 61)], _, _, _, none⟩) rfl (fun K hK => ?_) AllReadyH.nil)
                · go_simp
                  refine hK.out _ _ trivial (fun _ => ?_)
                  clear hK K
                  try simp only [Act.put, List.setIfInBounds_toArray, List.set_cons_zero, List.set_cons_succ]
                  refine wpAnyH_ready (rs := [13]) (by kernel_rfl) (by simp) ?_
                  refine (AllReadyH.cons (o := ⟨some 63, Op.call { callee := Callee.builtin Builtin.append, args := #[Operand.tmp 55, Operand.tmp 62], argTypes := _ }, _, _, _, none⟩) rfl (fun K hK => ?_) AllReadyH.nil)
                  · refine (if_pos (by rfl)).mpr ?_
                    refine wp_append_own _ _ _ 24 rfl base 61 r0 _ 2 24 Tryz.underlying24 hr hy0 hy1 hy2 rfl (by decide) (.slice aL S.labels.length cL) S.labels.length (S.labels.flatMap labA) rfl HR4.out.ls ⟨w3.heap.size, 0, none⟩ 1 1 (labA (d, S.at')) rfl rfl (cells_newA _ _ _ _ rfl) (by simp [labA, Value.oneCell']) (by unfold maxLen; omega) (by omega) (by simp; omega) ?_
                    intro v4 w4 hown4 hgrow4 _
                    obtain ⟨a4, q4, rfl⟩ := own_sliceA hown4
                    refine hK.out _ _ trivial (fun _ => ?_)
                    clear hK K
                    have h4 := blk_grownA HR4.out.ls HR4.out.h (fun _ => cells_ne (by decide)) hgrow4
                    have c4 : w4.cell? ⟨wk, 5, none⟩ = some (.slice aL S.labels.length cL) := (World.cell?_of_block h4).trans (HR4.out.cell 5)
                    have f4 : w4.frozen? ⟨wk, 5, none⟩ = false := (World.frozen?_of_block h4).trans (HR4.out.frozen 5)
                    have HG4 := Lib.hid hgrow4
                    have HO4 := Lib.hid hown4
                    clear h4 hown4 hgrow4
                    try simp only [Act.put, List.setIfInBounds_toArray, List.set_cons_zero, List.set_cons_succ]
                    refine wpAnyH_take (i := 14) (oi := ⟨some 64, Op.nilCheck (Operand.tmp 50), _, _, _, none⟩) (v := .pointer (some ⟨wk, 0, none⟩)) rfl (by kernel_rfl) (by kernel_rfl) (by kernel_rfl) (fun _ _ _ h => h) (Or.inl ⟨by rfl, ?_⟩) hHeld ?_
                    · intro w' hSw
                      skip
                      go_simp
                    try simp only [Act.put, List.setIfInBounds_toArray, List.set_cons_zero, List.set_cons_succ]
                    refine wpAnyH_take (i := 15) (oi := ⟨some 65, Op.fieldAddr _ (Operand.tmp 64) 4, _, _, _, none⟩) (v := .pointer (some ⟨wk, 4, none⟩)) rfl (by kernel_rfl) (by kernel_rfl) (by kernel_rfl) (fun _ _ _ h => h) (Or.inl ⟨by rfl, ?_⟩) hHeld ?_
                    · intro w' hSw
                      skip
                      go_simp
                    try simp only [Act.put, List.setIfInBounds_toArray, List.set_cons_zero, List.set_cons_succ]
                    refine wpAnyH_take (i := 16) (oi := ⟨some 66, Op.fieldAddr _ (Operand.tmp 65) 1, _, _, _, none⟩) (v := .pointer (some ⟨wk, 5, none⟩)) rfl (by kernel_rfl) (by kernel_rfl) (by kernel_rfl) (fun _ _ _ h => h) (Or.inl ⟨by rfl, ?_⟩) hHeld ?_
                    · intro w' hSw
                      skip
                      go_simp
                    try simp only [Act.put, List.setIfInBounds_toArray, List.set_cons_zero, List.set_cons_succ]
                    refine wpAnyH_ready (rs := [17]) (by kernel_rfl) (by simp) ?_
                    refine (AllReadyH.cons (o := ⟨none, Op.store _ (Operand.tmp 66) (Operand.tmp 63), _, _, _, none⟩) rfl (fun K hK => ?_) AllReadyH.nil)
                    · go_simp
                      refine hK.out _ _ trivial (fun _ => ?_)
                      clear hK K
                      try simp only [Act.put, List.setIfInBounds_toArray, List.set_cons_zero, List.set_cons_succ]
                      refine wpAnyH_done (by kernel_rfl) ?_ _
                      have hF5 := HR4.out.setLabels (M' := S.labels ++ [(d, S.at')]) HG4.out (by rw [List.length_append, List.flatMap_append]; exact HO4.out)
                      have h4 := blk_grownA HR4.out.ls HR4.out.h (fun _ => cells_ne (by decide)) HG4.out
                      have hfr5 : Fr base pb w3 (w4.setCell ⟨wk, 5, none⟩ (.slice a4 (S.labels.length + 1) q4)) := (Fr.of_below ((Below.refl _ _).alloc (Nat.le_refl _) _).drew (by omega)).trans ((Fr.grown HR4.out.ls (.inr (.inl rfl)) HG4.out (by simp; omega)).trans (Fr.setWk _ (h4.trans HR4.out.h) HR4.out.le))
                      obtain ⟨w5, hw5⟩ : ∃ x, x = w4.setCell ⟨wk, 5, none⟩ (.slice a4 (S.labels.length + 1) q4) := ⟨_, rfl⟩
                      rw [← hw5] at hF5 hfr5 ⊢
                      have hbx5 := hfr5.out _ _ HBX3.out (by simp [OutO]) (by omega)
                      have hby5 := hfr5.out _ _ HBY3.out (by simp [OutO]) (by omega)
                      have u0 : w5.cell? ⟨w.heap.size, 0, none⟩ = some (.int .i64 n) := cell_of_row w5 _ 0 _ _ _ hbx5
                      have u1 : w5.cell? ⟨w.heap.size, 1, none⟩ = some (.slice (some ⟨blk, off, none⟩) (len + 1) cap) := cell_of_row w5 _ 1 _ _ _ hbx5
                      have u2 : w5.cell? ⟨w.heap.size + 1, 0, none⟩ = some (.int .i64 0) := cell_of_row w5 _ 0 _ _ _ hby5
                      have u3 : w5.cell? ⟨w.heap.size + 1, 1, none⟩ = some (.slice none 0 0) := cell_of_row w5 _ 1 _ _ _ hby5
                      have f0 : w5.frozen? ⟨w.heap.size, 1, none⟩ = false := frozen_of_row w5 _ 1 _ _ hbx5
                      have f1 : w5.frozen? ⟨w.heap.size + 1, 0, none⟩ = false := frozen_of_row w5 _ 0 _ _ hby5
                      have f2 : w5.frozen? ⟨w.heap.size + 1, 1, none⟩ = false := frozen_of_row w5 _ 1 _ _ hby5
                      have lx5 : w.heap.size < w5.heap.size := heap_ltA hbx5
                      have ly5 : w.heap.size + 1 < w5.heap.size := heap_ltA hby5
                      have HF5 := Lib.hid hF5
                      have HFR5 := Lib.hid (HFR3.out.trans hfr5)
                      have HBX5 := Lib.hid hbx5
                      have HBY5 := Lib.hid hby5
                      clear hw5 hF5 hfr5 hbx5 hby5 h4 c4 f4 HG4 HO4 kl kl' ka3 ka3' hHeld
                      rcases Nat.lt_or_ge 1 cap with c1 | c1
                      · have i4 : (1 : Int) < (cap : Int) := by omega
                        go_wp2_with fail
                        refine bodyPost_ret (v := .agg #[.int .i64 n, .slice (some ⟨blk, off + 1, none⟩) len (cap - 1)]) ?_ rfl ?_
                        · simp [results, Tryz.results26, go_sem, u0, u1, u2, u3, f0, f1, f2, lx5, ly5]
                        · exact lab_end HA.out HF5.out HFR5.out HPM.out (ln_tail HL.out c1) HLN.out HBX5.out HBY5.out
                      · obtain rfl : cap = 1 := by omega
                        obtain rfl : len = 0 := by omega
                        go_wp2_with fail
                        refine bodyPost_ret (v := .agg #[.int .i64 n, .slice (some ⟨blk, off, none⟩) 0 0]) ?_ rfl ?_
                        · simp [results, Tryz.results26, go_sem, u0, u1, u2, u3, f0, f1, f2, lx5, ly5]
                        · exact lab_end HA.out HF5.out HFR5.out HPM.out (ln_gone HL.out) HLN.out HBX5.out HBY5.out
              · go_simp
                refine hK.out _ _ trivial (fun _ => ?_)
                clear hK K
                try simp only [Act.put, List.setIfInBounds_toArray, List.set_cons_zero, List.set_cons_succ]
                refine wpAnyH_ready (rs := [5]) (by kernel_rfl) (by simp) ?_
                refine (AllReadyH.cons (o := ⟨some 55, Op.load _ (Operand.tmp 54), _, _, _, none⟩) rfl (fun K hK => ?_) AllReadyH.nil)
                · go_simp
                  refine hK.out _ _ trivial (fun _ => ?_)
                  clear hK K
                  try simp only [Act.put, List.setIfInBounds_toArray, List.set_cons_zero, List.set_cons_succ]
                  refine wpAnyH_ready (rs := [13]) (by kernel_rfl) (by simp) ?_
                  refine (AllReadyH.cons (o := ⟨some 63, Op.call { callee := Callee.builtin Builtin.append, args := #[Operand.tmp 55, Operand.tmp 62], argTypes := _ }, _, _, _, none⟩) rfl (fun K hK => ?_) AllReadyH.nil)
                  · refine (if_pos (by rfl)).mpr ?_
                    refine wp_append_own _ _ _ 24 rfl base 61 r0 _ 2 24 Tryz.underlying24 hr hy0 hy1 hy2 rfl (by decide) (.slice aL S.labels.length cL) S.labels.length (S.labels.flatMap labA) rfl HR4.out.ls ⟨w3.heap.size, 0, none⟩ 1 1 (labA (d, S.at')) rfl rfl (cells_newA _ _ _ _ rfl) (by simp [labA, Value.oneCell']) (by unfold maxLen; omega) (by omega) (by simp; omega) ?_
                    intro v4 w4 hown4 hgrow4 _
                    obtain ⟨a4, q4, rfl⟩ := own_sliceA hown4
                    refine hK.out _ _ trivial (fun _ => ?_)
                    clear hK K
                    have h4 := blk_grownA HR4.out.ls HR4.out.h (fun _ => cells_ne (by decide)) hgrow4
                    have c4 : w4.cell? ⟨wk, 5, none⟩ = some (.slice aL S.labels.length cL) := (World.cell?_of_block h4).trans (HR4.out.cell 5)
                    have f4 : w4.frozen? ⟨wk, 5, none⟩ = false := (World.frozen?_of_block h4).trans (HR4.out.frozen 5)
                    have HG4 := Lib.hid hgrow4
                    have HO4 := Lib.hid hown4
                    clear h4 hown4 hgrow4
                    try simp only [Act.put, List.setIfInBounds_toArray, List.set_cons_zero, List.set_cons_succ]
                    refine wpAnyH_take (i := 14) (oi := ⟨some 64, Op.nilCheck (Operand.tmp 50), _, _, _, none⟩) (v := .pointer (some ⟨wk, 0, none⟩)) rfl (by kernel_rfl) (by kernel_rfl) (by kernel_rfl) (fun _ _ _ h => h) (Or.inl ⟨by rfl, ?_⟩) hHeld ?_
                    · intro w' hSw
                      skip
                      go_simp
                    try simp only [Act.put, List.setIfInBounds_toArray, List.set_cons_zero, List.set_cons_succ]
                    refine wpAnyH_take (i := 15) (oi := ⟨some 65, Op.fieldAddr _ (Operand.tmp 64) 4, _, _, _, none⟩) (v := .pointer (some ⟨wk, 4, none⟩)) rfl (by kernel_rfl) (by kernel_rfl) (by kernel_rfl) (fun _ _ _ h => h) (Or.inl ⟨by rfl, ?_⟩) hHeld ?_
                    · intro w' hSw
                      skip
                      go_simp
                    try simp only [Act.put, List.setIfInBounds_toArray, List.set_cons_zero, List.set_cons_succ]
                    refine wpAnyH_take (i := 16) (oi := ⟨some 66, Op.fieldAddr _ (Operand.tmp 65) 1, _, _, _, none⟩) (v := .pointer (some ⟨wk, 5, none⟩)) rfl (by kernel_rfl) (by kernel_rfl) (by kernel_rfl) (fun _ _ _ h => h) (Or.inl ⟨by rfl, ?_⟩) hHeld ?_
                    · intro w' hSw
                      skip
                      go_simp
                    try simp only [Act.put, List.setIfInBounds_toArray, List.set_cons_zero, List.set_cons_succ]
                    refine wpAnyH_ready (rs := [17]) (by kernel_rfl) (by simp) ?_
                    refine (AllReadyH.cons (o := ⟨none, Op.store _ (Operand.tmp 66) (Operand.tmp 63), _, _, _, none⟩) rfl (fun K hK => ?_) AllReadyH.nil)
                    · go_simp
                      refine hK.out _ _ trivial (fun _ => ?_)
                      clear hK K
                      try simp only [Act.put, List.setIfInBounds_toArray, List.set_cons_zero, List.set_cons_succ]
                      refine wpAnyH_done (by kernel_rfl) ?_ _
                      have hF5 := HR4.out.setLabels (M' := S.labels ++ [(d, S.at')]) HG4.out (by rw [List.length_append, List.flatMap_append]; exact HO4.out)
                      have h4 := blk_grownA HR4.out.ls HR4.out.h (fun _ => cells_ne (by decide)) HG4.out
                      have hfr5 : Fr base pb w3 (w4.setCell ⟨wk, 5, none⟩ (.slice a4 (S.labels.length + 1) q4)) := (Fr.of_below ((Below.refl _ _).alloc (Nat.le_refl _) _).drew (by omega)).trans ((Fr.grown HR4.out.ls (.inr (.inl rfl)) HG4.out (by simp; omega)).trans (Fr.setWk _ (h4.trans HR4.out.h) HR4.out.le))
                      obtain ⟨w5, hw5⟩ : ∃ x, x = w4.setCell ⟨wk, 5, none⟩ (.slice a4 (S.labels.length + 1) q4) := ⟨_, rfl⟩
                      rw [← hw5] at hF5 hfr5 ⊢
                      have hbx5 := hfr5.out _ _ HBX3.out (by simp [OutO]) (by omega)
                      have hby5 := hfr5.out _ _ HBY3.out (by simp [OutO]) (by omega)
                      have u0 : w5.cell? ⟨w.heap.size, 0, none⟩ = some (.int .i64 n) := cell_of_row w5 _ 0 _ _ _ hbx5
                      have u1 : w5.cell? ⟨w.heap.size, 1, none⟩ = some (.slice (some ⟨blk, off, none⟩) (len + 1) cap) := cell_of_row w5 _ 1 _ _ _ hbx5
                      have u2 : w5.cell? ⟨w.heap.size + 1, 0, none⟩ = some (.int .i64 0) := cell_of_row w5 _ 0 _ _ _ hby5
                      have u3 : w5.cell? ⟨w.heap.size + 1, 1, none⟩ = some (.slice none 0 0) := cell_of_row w5 _ 1 _ _ _ hby5
                      have f0 : w5.frozen? ⟨w.heap.size, 1, none⟩ = false := frozen_of_row w5 _ 1 _ _ hbx5
                      have f1 : w5.frozen? ⟨w.heap.size + 1, 0, none⟩ = false := frozen_of_row w5 _ 0 _ _ hby5
                      have f2 : w5.frozen? ⟨w.heap.size + 1, 1, none⟩ = false := frozen_of_row w5 _ 1 _ _ hby5
                      have lx5 : w.heap.size < w5.heap.size := heap_ltA hbx5
                      have ly5 : w.heap.size + 1 < w5.heap.size := heap_ltA hby5
                      have HF5 := Lib.hid hF5
                      have HFR5 := Lib.hid (HFR3.out.trans hfr5)
                      have HBX5 := Lib.hid hbx5
                      have HBY5 := Lib.hid hby5
                      clear hw5 hF5 hfr5 hbx5 hby5 h4 c4 f4 HG4 HO4 kl kl' ka3 ka3' hHeld
                      rcases Nat.lt_or_ge 1 cap with c1 | c1
                      · have i4 : (1 : Int) < (cap : Int) := by omega
                        go_wp2_with fail
                        refine bodyPost_ret (v := .agg #[.int .i64 n, .slice (some ⟨blk, off + 1, none⟩) len (cap - 1)]) ?_ rfl ?_
                        · simp [results, Tryz.results26, go_sem, u0, u1, u2, u3, f0, f1, f2, lx5, ly5]
                        · exact lab_end HA.out HF5.out HFR5.out HPM.out (ln_tail HL.out c1) HLN.out HBX5.out HBY5.out
                      · obtain rfl : cap = 1 := by omega
                        obtain rfl : len = 0 := by omega
                        go_wp2_with fail
                        refine bodyPost_ret (v := .agg #[.int .i64 n, .slice (some ⟨blk, off, none⟩) 0 0]) ?_ rfl ?_
                        · simp [results, Tryz.results26, go_sem, u0, u1, u2, u3, f0, f1, f2, lx5, ly5]
                        · exact lab_end HA.out HF5.out HFR5.out HPM.out (ln_gone HL.out) HLN.out HBX5.out HBY5.out
      · go_simp
        refine hK.out _ _ trivial (fun _ => ?_)
        clear hK K
        try simp only [Act.put, List.setIfInBounds_toArray, List.set_cons_zero, List.set_cons_succ]
        refine wpAnyH_ready (rs := [3]) (by kernel_rfl) (by simp) ?_
        refine (AllReadyH.cons (o := ⟨some 44, Op.load _ (Operand.tmp 43), _, _, _, none⟩) rfl (fun K hK => ?_) AllReadyH.nil)
        · go_simp
          refine hK.out _ _ trivial (fun _ => ?_)
          clear hK K
          try simp only [Act.put, List.setIfInBounds_toArray, List.set_cons_zero, List.set_cons_succ]
          refine wpAnyH_ready (rs := [9]) (by kernel_rfl) (by simp) ?_
          refine (AllReadyH.cons (o := ⟨none, Op.mapUpdate _ (Operand.tmp 44) (Operand.tmp 45) (Operand.tmp 49), _, _, _, none⟩) rfl (fun K hK => ?_) AllReadyH.nil)
          · go_simp
            refine hK.out _ _ trivial (fun _ => ?_)
            clear hK K
            try simp only [Act.put, List.setIfInBounds_toArray, List.set_cons_zero, List.set_cons_succ]
            refine wpAnyH_done (by kernel_rfl) ?_ _
            have hs3 : w.heap.size + 1 < w3.heap.size := by omega
            obtain ⟨aL, cL, rfl⟩ := own_sliceA HF3.out.ls
            have kl : w3.drew.cell? ⟨wk, 5, none⟩ = some (.slice aL S.labels.length cL) := HF3.out.cell 5
            have kl' : w3.cell? ⟨wk, 5, none⟩ = some (.slice aL S.labels.length cL) := HF3.out.cell 5
            have ka3 : w3.drew.cell? ⟨wk, 0, none⟩ = some (.int .i64 S.at') := HF3.out.cell 0
            have ka3' : w3.cell? ⟨wk, 0, none⟩ = some (.int .i64 S.at') := HF3.out.cell 0
            have lt3 : wk < w3.heap.size := HF3.out.lt
            have HR4 := Lib.hid ((HF3.out.alloc (.cells #[.string ⟨d.toArray⟩, .int .i64 S.at'] 61)).drew)
            clear kp ka hput hHeld
            go_wp2_with fail
            refine wp_region_held_drew (S := fun _ => True) (by kernel_rfl) trivial (fun hHeld => ?_)
            refine wpAnyH_take (i := 0) (oi := ⟨some 50, Op.move (Operand.tmp 0), _, _, _, none⟩) (v := .pointer (some ⟨wk, 0, none⟩)) rfl (by kernel_rfl) (by kernel_rfl) (by kernel_rfl) (fun _ _ _ h => h) (Or.inl ⟨by rfl, ?_⟩) hHeld ?_
            · intro w' hSw
              skip
              go_simp
            try simp only [Act.put, List.setIfInBounds_toArray, List.set_cons_zero, List.set_cons_succ]
            refine wpAnyH_take (i := 1) (oi := ⟨some 51, Op.move (Operand.tmp 0), _, _, _, none⟩) (v := .pointer (some ⟨wk, 0, none⟩)) rfl (by kernel_rfl) (by kernel_rfl) (by kernel_rfl) (fun _ _ _ h => h) (Or.inl ⟨by rfl, ?_⟩) hHeld ?_
            · intro w' hSw
              skip
              go_simp
            try simp only [Act.put, List.setIfInBounds_toArray, List.set_cons_zero, List.set_cons_succ]
            refine wpAnyH_take (i := 2) (oi := ⟨some 52, Op.nilCheck (Operand.tmp 51), _, _, _, none⟩) (v := .pointer (some ⟨wk, 0, none⟩)) rfl (by kernel_rfl) (by kernel_rfl) (by kernel_rfl) (fun _ _ _ h => h) (Or.inl ⟨by rfl, ?_⟩) hHeld ?_
            · intro w' hSw
              skip
              go_simp
            try simp only [Act.put, List.setIfInBounds_toArray, List.set_cons_zero, List.set_cons_succ]
            refine wpAnyH_take (i := 3) (oi := ⟨some 53, Op.fieldAddr _ (Operand.tmp 52) 4, _, _, _, none⟩) (v := .pointer (some ⟨wk, 4, none⟩)) rfl (by kernel_rfl) (by kernel_rfl) (by kernel_rfl) (fun _ _ _ h => h) (Or.inl ⟨by rfl, ?_⟩) hHeld ?_
            · intro w' hSw
              skip
              go_simp
            try simp only [Act.put, List.setIfInBounds_toArray, List.set_cons_zero, List.set_cons_succ]
            refine wpAnyH_take (i := 4) (oi := ⟨some 54, Op.fieldAddr _ (Operand.tmp 53) 1, _, _, _, none⟩) (v := .pointer (some ⟨wk, 5, none⟩)) rfl (by kernel_rfl) (by kernel_rfl) (by kernel_rfl) (fun _ _ _ h => h) (Or.inl ⟨by rfl, ?_⟩) hHeld ?_
            · intro w' hSw
              skip
              go_simp
            try simp only [Act.put, List.setIfInBounds_toArray, List.set_cons_zero, List.set_cons_succ]
            refine wpAnyH_take (i := 6) (oi := ⟨some 56, Op.move (Operand.tmp 5), _, _, _, none⟩) (v := .string ⟨d.toArray⟩) rfl (by kernel_rfl) (by kernel_rfl) (by kernel_rfl) (fun _ _ _ h => h) (Or.inl ⟨by rfl, ?_⟩) hHeld ?_
            · intro w' hSw
              skip
              go_simp
            try simp only [Act.put, List.setIfInBounds_toArray, List.set_cons_zero, List.set_cons_succ]
            refine wpAnyH_take (i := 7) (oi := ⟨some 57, Op.move (Operand.tmp 0), _, _, _, none⟩) (v := .pointer (some ⟨wk, 0, none⟩)) rfl (by kernel_rfl) (by kernel_rfl) (by kernel_rfl) (fun _ _ _ h => h) (Or.inl ⟨by rfl, ?_⟩) hHeld ?_
            · intro w' hSw
              skip
              go_simp
            try simp only [Act.put, List.setIfInBounds_toArray, List.set_cons_zero, List.set_cons_succ]
            refine wpAnyH_take (i := 8) (oi := ⟨some 58, Op.nilCheck (Operand.tmp 57), _, _, _, none⟩) (v := .pointer (some ⟨wk, 0, none⟩)) rfl (by kernel_rfl) (by kernel_rfl) (by kernel_rfl) (fun _ _ _ h => h) (Or.inl ⟨by rfl, ?_⟩) hHeld ?_
            · intro w' hSw
              skip
              go_simp
            try simp only [Act.put, List.setIfInBounds_toArray, List.set_cons_zero, List.set_cons_succ]
            refine wpAnyH_take (i := 9) (oi := ⟨some 59, Op.fieldAddr _ (Operand.tmp 58) 0, _, _, _, none⟩) (v := .pointer (some ⟨wk, 0, none⟩)) rfl (by kernel_rfl) (by kernel_rfl) (by kernel_rfl) (fun _ _ _ h => h) (Or.inl ⟨by rfl, ?_⟩) hHeld ?_
            · intro w' hSw
              skip
              go_simp
            try simp only [Act.put, List.setIfInBounds_toArray, List.set_cons_zero, List.set_cons_succ]
            refine wpAnyH_ready (rs := [5, 10]) (by kernel_rfl) (by simp) ?_
            refine (AllReadyH.cons (o := ⟨some 55, Op.load _ (Operand.tmp 54), _, _, _, none⟩) rfl (fun K hK => ?_) (AllReadyH.cons (o := ⟨some 60, Op.load _ (Operand.tmp 59), _, _, _, none⟩) rfl (fun K hK => ?_) AllReadyH.nil))
            · go_simp
              refine hK.out _ _ trivial (fun _ => ?_)
              clear hK K
              try simp only [Act.put, List.setIfInBounds_toArray, List.set_cons_zero, List.set_cons_succ]
              refine wpAnyH_ready (rs := [10]) (by kernel_rfl) (by simp) ?_
              refine (AllReadyH.cons (o := ⟨some 60, Op.load _ (Operand.tmp 59), _, _, _, none⟩) rfl (fun K hK => ?_) AllReadyH.nil)
              · go_simp
                refine hK.out _ _ trivial (fun _ => ?_)
                clear hK K
                try simp only [Act.put, List.setIfInBounds_toArray, List.set_cons_zero, List.set_cons_succ]
                refine wpAnyH_take (i := 11) (oi := ⟨some 61, Op.build _ #[(0, Operand.tmp 56), (1, Operand.tmp 60)], _, _, _, none⟩) (v := .agg #[.string ⟨d.toArray⟩, .int .i64 S.at']) rfl (by kernel_rfl) (by kernel_rfl) (by kernel_rfl) (fun _ _ _ h => h) (Or.inl ⟨by rfl, ?_⟩) hHeld ?_
                · intro w' hSw
                  skip
                  go_simp
                try simp only [Act.put, List.setIfInBounds_toArray, List.set_cons_zero, List.set_cons_succ]
                refine wpAnyH_ready (rs := [12]) (by kernel_rfl) (by simp) ?_
                refine (AllReadyH.cons (o := ⟨some 62, Op.buildSlice _ 1 #[(0, Operand.tmp 61)], _, _, _, none⟩) rfl (fun K hK => ?_) AllReadyH.nil)
                · go_simp
                  refine hK.out _ _ trivial (fun _ => ?_)
                  clear hK K
                  try simp only [Act.put, List.setIfInBounds_toArray, List.set_cons_zero, List.set_cons_succ]
                  refine wpAnyH_ready (rs := [13]) (by kernel_rfl) (by simp) ?_
                  refine (AllReadyH.cons (o := ⟨some 63, Op.call { callee := Callee.builtin Builtin.append, args := #[Operand.tmp 55, Operand.tmp 62], argTypes := _ }, _, _, _, none⟩) rfl (fun K hK => ?_) AllReadyH.nil)
                  · refine (if_pos (by rfl)).mpr ?_
                    refine wp_append_own _ _ _ 24 rfl base 61 r0 _ 2 24 Tryz.underlying24 hr hy0 hy1 hy2 rfl (by decide) (.slice aL S.labels.length cL) S.labels.length (S.labels.flatMap labA) rfl HR4.out.ls ⟨w3.heap.size, 0, none⟩ 1 1 (labA (d, S.at')) rfl rfl (cells_newA _ _ _ _ rfl) (by simp [labA, Value.oneCell']) (by unfold maxLen; omega) (by omega) (by simp; omega) ?_
                    intro v4 w4 hown4 hgrow4 _
                    obtain ⟨a4, q4, rfl⟩ := own_sliceA hown4
                    refine hK.out _ _ trivial (fun _ => ?_)
                    clear hK K
                    have h4 := blk_grownA HR4.out.ls HR4.out.h (fun _ => cells_ne (by decide)) hgrow4
                    have c4 : w4.cell? ⟨wk, 5, none⟩ = some (.slice aL S.labels.length cL) := (World.cell?_of_block h4).trans (HR4.out.cell 5)
                    have f4 : w4.frozen? ⟨wk, 5, none⟩ = false := (World.frozen?_of_block h4).trans (HR4.out.frozen 5)
                    have HG4 := Lib.hid hgrow4
                    have HO4 := Lib.hid hown4
                    clear h4 hown4 hgrow4
                    try simp only [Act.put, List.setIfInBounds_toArray, List.set_cons_zero, List.set_cons_succ]
                    refine wpAnyH_take (i := 14) (oi := ⟨some 64, Op.nilCheck (Operand.tmp 50), _, _, _, none⟩) (v := .pointer (some ⟨wk, 0, none⟩)) rfl (by kernel_rfl) (by kernel_rfl) (by kernel_rfl) (fun _ _ _ h => h) (Or.inl ⟨by rfl, ?_⟩) hHeld ?_
                    · intro w' hSw
                      skip
                      go_simp
                    try simp only [Act.put, List.setIfInBounds_toArray, List.set_cons_zero, List.set_cons_succ]
                    refine wpAnyH_take (i := 15) (oi := ⟨some 65, Op.fieldAddr _ (Operand.tmp 64) 4, _, _, _, none⟩) (v := .pointer (some ⟨wk, 4, none⟩)) rfl (by kernel_rfl) (by kernel_rfl) (by kernel_rfl) (fun _ _ _ h => h) (Or.inl ⟨by rfl, ?_⟩) hHeld ?_
                    · intro w' hSw
                      skip
                      go_simp
                    try simp only [Act.put, List.setIfInBounds_toArray, List.set_cons_zero, List.set_cons_succ]
                    refine wpAnyH_take (i := 16) (oi := ⟨some 66, Op.fieldAddr _ (Operand.tmp 65) 1, _, _, _, none⟩) (v := .pointer (some ⟨wk, 5, none⟩)) rfl (by kernel_rfl) (by kernel_rfl) (by kernel_rfl) (fun _ _ _ h => h) (Or.inl ⟨by rfl, ?_⟩) hHeld ?_
                    · intro w' hSw
                      skip
                      go_simp
                    try simp only [Act.put, List.setIfInBounds_toArray, List.set_cons_zero, List.set_cons_succ]
                    refine wpAnyH_ready (rs := [17]) (by kernel_rfl) (by simp) ?_
                    refine (AllReadyH.cons (o := ⟨none, Op.store _ (Operand.tmp 66) (Operand.tmp 63), _, _, _, none⟩) rfl (fun K hK => ?_) AllReadyH.nil)
                    · go_simp
                      refine hK.out _ _ trivial (fun _ => ?_)
                      clear hK K
                      try simp only [Act.put, List.setIfInBounds_toArray, List.set_cons_zero, List.set_cons_succ]
                      refine wpAnyH_done (by kernel_rfl) ?_ _
                      have hF5 := HR4.out.setLabels (M' := S.labels ++ [(d, S.at')]) HG4.out (by rw [List.length_append, List.flatMap_append]; exact HO4.out)
                      have h4 := blk_grownA HR4.out.ls HR4.out.h (fun _ => cells_ne (by decide)) HG4.out
                      have hfr5 : Fr base pb w3 (w4.setCell ⟨wk, 5, none⟩ (.slice a4 (S.labels.length + 1) q4)) := (Fr.of_below ((Below.refl _ _).alloc (Nat.le_refl _) _).drew (by omega)).trans ((Fr.grown HR4.out.ls (.inr (.inl rfl)) HG4.out (by simp; omega)).trans (Fr.setWk _ (h4.trans HR4.out.h) HR4.out.le))
                      obtain ⟨w5, hw5⟩ : ∃ x, x = w4.setCell ⟨wk, 5, none⟩ (.slice a4 (S.labels.length + 1) q4) := ⟨_, rfl⟩
                      rw [← hw5] at hF5 hfr5 ⊢
                      have hbx5 := hfr5.out _ _ HBX3.out (by simp [OutO]) (by omega)
                      have hby5 := hfr5.out _ _ HBY3.out (by simp [OutO]) (by omega)
                      have u0 : w5.cell? ⟨w.heap.size, 0, none⟩ = some (.int .i64 n) := cell_of_row w5 _ 0 _ _ _ hbx5
                      have u1 : w5.cell? ⟨w.heap.size, 1, none⟩ = some (.slice (some ⟨blk, off, none⟩) (len + 1) cap) := cell_of_row w5 _ 1 _ _ _ hbx5
                      have u2 : w5.cell? ⟨w.heap.size + 1, 0, none⟩ = some (.int .i64 0) := cell_of_row w5 _ 0 _ _ _ hby5
                      have u3 : w5.cell? ⟨w.heap.size + 1, 1, none⟩ = some (.slice none 0 0) := cell_of_row w5 _ 1 _ _ _ hby5
                      have f0 : w5.frozen? ⟨w.heap.size, 1, none⟩ = false := frozen_of_row w5 _ 1 _ _ hbx5
                      have f1 : w5.frozen? ⟨w.heap.size + 1, 0, none⟩ = false := frozen_of_row w5 _ 0 _ _ hby5
                      have f2 : w5.frozen? ⟨w.heap.size + 1, 1, none⟩ = false := frozen_of_row w5 _ 1 _ _ hby5
                      have lx5 : w.heap.size < w5.heap.size := heap_ltA hbx5
                      have ly5 : w.heap.size + 1 < w5.heap.size := heap_ltA hby5
                      have HF5 := Lib.hid hF5
                      have HFR5 := Lib.hid (HFR3.out.trans hfr5)
                      have HBX5 := Lib.hid hbx5
                      have HBY5 := Lib.hid hby5
                      clear hw5 hF5 hfr5 hbx5 hby5 h4 c4 f4 HG4 HO4 kl kl' ka3 ka3' hHeld
                      rcases Nat.lt_or_ge 1 cap with c1 | c1
                      · have i4 : (1 : Int) < (cap : Int) := by omega
                        go_wp2_with fail
                        refine bodyPost_ret (v := .agg #[.int .i64 n, .slice (some ⟨blk, off + 1, none⟩) len (cap - 1)]) ?_ rfl ?_
                        · simp [results, Tryz.results26, go_sem, u0, u1, u2, u3, f0, f1, f2, lx5, ly5]
                        · exact lab_end HA.out HF5.out HFR5.out HPM.out (ln_tail HL.out c1) HLN.out HBX5.out HBY5.out
                      · obtain rfl : cap = 1 := by omega
                        obtain rfl : len = 0 := by omega
                        go_wp2_with fail
                        refine bodyPost_ret (v := .agg #[.int .i64 n, .slice (some ⟨blk, off, none⟩) 0 0]) ?_ rfl ?_
                        · simp [results, Tryz.results26, go_sem, u0, u1, u2, u3, f0, f1, f2, lx5, ly5]
                        · exact lab_end HA.out HF5.out HFR5.out HPM.out (ln_gone HL.out) HLN.out HBX5.out HBY5.out
            · go_simp
              refine hK.out _ _ trivial (fun _ => ?_)
              clear hK K
              try simp only [Act.put, List.setIfInBounds_toArray, List.set_cons_zero, List.set_cons_succ]
              refine wpAnyH_take (i := 11) (oi := ⟨some 61, Op.build _ #[(0, Operand.tmp 56), (1, Operand.tmp 60)], _, _, _, none⟩) (v := .agg #[.string ⟨d.toArray⟩, .int .i64 S.at']) rfl (by kernel_rfl) (by kernel_rfl) (by kernel_rfl) (fun _ _ _ h => h) (Or.inl ⟨by rfl, ?_⟩) hHeld ?_
              · intro w' hSw
                skip
                go_simp
              try simp only [Act.put, List.setIfInBounds_toArray, List.set_cons_zero, List.set_cons_succ]
              refine wpAnyH_ready (rs := [5, 12]) (by kernel_rfl) (by simp) ?_
              refine (AllReadyH.cons (o := ⟨some 55, Op.load _ (Operand.tmp 54), _, _, _, none⟩) rfl (fun K hK => ?_) (AllReadyH.cons (o := ⟨some 62, Op.buildSlice _ 1 #[(0, Operand.tmp 61)], _, _, _, none⟩) rfl (fun K hK => ?_) AllReadyH.nil))
              · go_simp
                refine hK.out _ _ trivial (fun _ => ?_)
                clear hK K
                try simp only [Act.put, List.setIfInBounds_toArray, List.set_cons_zero, List.set_cons_succ]
                refine wpAnyH_ready (rs := [12]) (by kernel_rfl) (by simp) ?_
                refine (AllReadyH.cons (o := ⟨some 62, Op.buildSlice _ 1 #[(0, Operand.tmp 61)], _, _, _, none⟩) rfl (fun K hK => ?_) AllReadyH.nil)
                · go_simp
                  refine hK.out _ _ trivial (fun _ => ?_)
                  clear hK K
                  try simp only [Act.put, List.setIfInBounds_toArray, List.set_cons_zero, List.set_cons_succ]
                  refine wpAnyH_ready (rs := [13]) (by kernel_rfl) (by simp) ?_
                  refine (AllReadyH.cons (o := ⟨some 63, Op.call { callee := Callee.builtin Builtin.append, args := #[Operand.tmp 55, Operand.tmp 62], argTypes := _ }, _, _, _, none⟩) rfl (fun K hK => ?_) AllReadyH.nil)
                  · refine (if_pos (by rfl)).mpr ?_
                    refine wp_append_own _ _ _ 24 rfl base 61 r0 _ 2 24 Tryz.underlying24 hr hy0 hy1 hy2 rfl (by decide) (.slice aL S.labels.length cL) S.labels.length (S.labels.flatMap labA) rfl HR4.out.ls ⟨w3.heap.size, 0, none⟩ 1 1 (labA (d, S.at')) rfl rfl (cells_newA _ _ _ _ rfl) (by simp [labA, Value.oneCell']) (by unfold maxLen; omega) (by omega) (by simp; omega) ?_
                    intro v4 w4 hown4 hgrow4 _
                    obtain ⟨a4, q4, rfl⟩ := own_sliceA hown4
                    refine hK.out _ _ trivial (fun _ => ?_)
                    clear hK K
                    have h4 := blk_grownA HR4.out.ls HR4.out.h (fun _ => cells_ne (by decide)) hgrow4
                    have c4 : w4.cell? ⟨wk, 5, none⟩ = some (.slice aL S.labels.length cL) := (World.cell?_of_block h4).trans (HR4.out.cell 5)
                    have f4 : w4.frozen? ⟨wk, 5, none⟩ = false := (World.frozen?_of_block h4).trans (HR4.out.frozen 5)
                    have HG4 := Lib.hid hgrow4
                    have HO4 := Lib.hid hown4
                    clear h4 hown4 hgrow4
                    try simp only [Act.put, List.setIfInBounds_toArray, List.set_cons_zero, List.set_cons_succ]
                    refine wpAnyH_take (i := 14) (oi := ⟨some 64, Op.nilCheck (Operand.tmp 50), _, _, _, none⟩) (v := .pointer (some ⟨wk, 0, none⟩)) rfl (by kernel_rfl) (by kernel_rfl) (by kernel_rfl) (fun _ _ _ h => h) (Or.inl ⟨by rfl, ?_⟩) hHeld ?_
                    · intro w' hSw
                      skip
                      go_simp
                    try simp only [Act.put, List.setIfInBounds_toArray, List.set_cons_zero, List.set_cons_succ]
                    refine wpAnyH_take (i := 15) (oi := ⟨some 65, Op.fieldAddr _ (Operand.tmp 64) 4, _, _, _, none⟩) (v := .pointer (some ⟨wk, 4, none⟩)) rfl (by kernel_rfl) (by kernel_rfl) (by kernel_rfl) (fun _ _ _ h => h) (Or.inl ⟨by rfl, ?_⟩) hHeld ?_
                    · intro w' hSw
                      skip
                      go_simp
                    try simp only [Act.put, List.setIfInBounds_toArray, List.set_cons_zero, List.set_cons_succ]
                    refine wpAnyH_take (i := 16) (oi := ⟨some 66, Op.fieldAddr _ (Operand.tmp 65) 1, _, _, _, none⟩) (v := .pointer (some ⟨wk, 5, none⟩)) rfl (by kernel_rfl) (by kernel_rfl) (by kernel_rfl) (fun _ _ _ h => h) (Or.inl ⟨by rfl, ?_⟩) hHeld ?_
                    · intro w' hSw
                      skip
                      go_simp
                    try simp only [Act.put, List.setIfInBounds_toArray, List.set_cons_zero, List.set_cons_succ]
                    refine wpAnyH_ready (rs := [17]) (by kernel_rfl) (by simp) ?_
                    refine (AllReadyH.cons (o := ⟨none, Op.store _ (Operand.tmp 66) (Operand.tmp 63), _, _, _, none⟩) rfl (fun K hK => ?_) AllReadyH.nil)
                    · go_simp
                      refine hK.out _ _ trivial (fun _ => ?_)
                      clear hK K
                      try simp only [Act.put, List.setIfInBounds_toArray, List.set_cons_zero, List.set_cons_succ]
                      refine wpAnyH_done (by kernel_rfl) ?_ _
                      have hF5 := HR4.out.setLabels (M' := S.labels ++ [(d, S.at')]) HG4.out (by rw [List.length_append, List.flatMap_append]; exact HO4.out)
                      have h4 := blk_grownA HR4.out.ls HR4.out.h (fun _ => cells_ne (by decide)) HG4.out
                      have hfr5 : Fr base pb w3 (w4.setCell ⟨wk, 5, none⟩ (.slice a4 (S.labels.length + 1) q4)) := (Fr.of_below ((Below.refl _ _).alloc (Nat.le_refl _) _).drew (by omega)).trans ((Fr.grown HR4.out.ls (.inr (.inl rfl)) HG4.out (by simp; omega)).trans (Fr.setWk _ (h4.trans HR4.out.h) HR4.out.le))
                      obtain ⟨w5, hw5⟩ : ∃ x, x = w4.setCell ⟨wk, 5, none⟩ (.slice a4 (S.labels.length + 1) q4) := ⟨_, rfl⟩
                      rw [← hw5] at hF5 hfr5 ⊢
                      have hbx5 := hfr5.out _ _ HBX3.out (by simp [OutO]) (by omega)
                      have hby5 := hfr5.out _ _ HBY3.out (by simp [OutO]) (by omega)
                      have u0 : w5.cell? ⟨w.heap.size, 0, none⟩ = some (.int .i64 n) := cell_of_row w5 _ 0 _ _ _ hbx5
                      have u1 : w5.cell? ⟨w.heap.size, 1, none⟩ = some (.slice (some ⟨blk, off, none⟩) (len + 1) cap) := cell_of_row w5 _ 1 _ _ _ hbx5
                      have u2 : w5.cell? ⟨w.heap.size + 1, 0, none⟩ = some (.int .i64 0) := cell_of_row w5 _ 0 _ _ _ hby5
                      have u3 : w5.cell? ⟨w.heap.size + 1, 1, none⟩ = some (.slice none 0 0) := cell_of_row w5 _ 1 _ _ _ hby5
                      have f0 : w5.frozen? ⟨w.heap.size, 1, none⟩ = false := frozen_of_row w5 _ 1 _ _ hbx5
                      have f1 : w5.frozen? ⟨w.heap.size + 1, 0, none⟩ = false := frozen_of_row w5 _ 0 _ _ hby5
                      have f2 : w5.frozen? ⟨w.heap.size + 1, 1, none⟩ = false := frozen_of_row w5 _ 1 _ _ hby5
                      have lx5 : w.heap.size < w5.heap.size := heap_ltA hbx5
                      have ly5 : w.heap.size + 1 < w5.heap.size := heap_ltA hby5
                      have HF5 := Lib.hid hF5
                      have HFR5 := Lib.hid (HFR3.out.trans hfr5)
                      have HBX5 := Lib.hid hbx5
                      have HBY5 := Lib.hid hby5
                      clear hw5 hF5 hfr5 hbx5 hby5 h4 c4 f4 HG4 HO4 kl kl' ka3 ka3' hHeld
                      rcases Nat.lt_or_ge 1 cap with c1 | c1
                      · have i4 : (1 : Int) < (cap : Int) := by omega
                        go_wp2_with fail
                        refine bodyPost_ret (v := .agg #[.int .i64 n, .slice (some ⟨blk, off + 1, none⟩) len (cap - 1)]) ?_ rfl ?_
                        · simp [results, Tryz.results26, go_sem, u0, u1, u2, u3, f0, f1, f2, lx5, ly5]
                        · exact lab_end HA.out HF5.out HFR5.out HPM.out (ln_tail HL.out c1) HLN.out HBX5.out HBY5.out
                      · obtain rfl : cap = 1 := by omega
                        obtain rfl : len = 0 := by omega
                        go_wp2_with fail
                        refine bodyPost_ret (v := .agg #[.int .i64 n, .slice (some ⟨blk, off, none⟩) 0 0]) ?_ rfl ?_
                        · simp [results, Tryz.results26, go_sem, u0, u1, u2, u3, f0, f1, f2, lx5, ly5]
                        · exact lab_end HA.out HF5.out HFR5.out HPM.out (ln_gone HL.out) HLN.out HBX5.out HBY5.out
              · go_simp
                refine hK.out _ _ trivial (fun _ => ?_)
                clear hK K
                try simp only [Act.put, List.setIfInBounds_toArray, List.set_cons_zero, List.set_cons_succ]
                refine wpAnyH_ready (rs := [5]) (by kernel_rfl) (by simp) ?_
                refine (AllReadyH.cons (o := ⟨some 55, Op.load _ (Operand.tmp 54), _, _, _, none⟩) rfl (fun K hK => ?_) AllReadyH.nil)
                · go_simp
                  refine hK.out _ _ trivial (fun _ => ?_)
                  clear hK K
                  try simp only [Act.put, List.setIfInBounds_toArray, List.set_cons_zero, List.set_cons_succ]
                  refine wpAnyH_ready (rs := [13]) (by kernel_rfl) (by simp) ?_
                  refine (AllReadyH.cons (o := ⟨some 63, Op.call { callee := Callee.builtin Builtin.append, args := #[Operand.tmp 55, Operand.tmp 62], argTypes := _ }, _, _, _, none⟩) rfl (fun K hK => ?_) AllReadyH.nil)
                  · refine (if_pos (by rfl)).mpr ?_
                    refine wp_append_own _ _ _ 24 rfl base 61 r0 _ 2 24 Tryz.underlying24 hr hy0 hy1 hy2 rfl (by decide) (.slice aL S.labels.length cL) S.labels.length (S.labels.flatMap labA) rfl HR4.out.ls ⟨w3.heap.size, 0, none⟩ 1 1 (labA (d, S.at')) rfl rfl (cells_newA _ _ _ _ rfl) (by simp [labA, Value.oneCell']) (by unfold maxLen; omega) (by omega) (by simp; omega) ?_
                    intro v4 w4 hown4 hgrow4 _
                    obtain ⟨a4, q4, rfl⟩ := own_sliceA hown4
                    refine hK.out _ _ trivial (fun _ => ?_)
                    clear hK K
                    have h4 := blk_grownA HR4.out.ls HR4.out.h (fun _ => cells_ne (by decide)) hgrow4
                    have c4 : w4.cell? ⟨wk, 5, none⟩ = some (.slice aL S.labels.length cL) := (World.cell?_of_block h4).trans (HR4.out.cell 5)
                    have f4 : w4.frozen? ⟨wk, 5, none⟩ = false := (World.frozen?_of_block h4).trans (HR4.out.frozen 5)
                    have HG4 := Lib.hid hgrow4
                    have HO4 := Lib.hid hown4
                    clear h4 hown4 hgrow4
                    try simp only [Act.put, List.setIfInBounds_toArray, List.set_cons_zero, List.set_cons_succ]
                    refine wpAnyH_take (i := 14) (oi := ⟨some 64, Op.nilCheck (Operand.tmp 50), _, _, _, none⟩) (v := .pointer (some ⟨wk, 0, none⟩)) rfl (by kernel_rfl) (by kernel_rfl) (by kernel_rfl) (fun _ _ _ h => h) (Or.inl ⟨by rfl, ?_⟩) hHeld ?_
                    · intro w' hSw
                      skip
                      go_simp
                    try simp only [Act.put, List.setIfInBounds_toArray, List.set_cons_zero, List.set_cons_succ]
                    refine wpAnyH_take (i := 15) (oi := ⟨some 65, Op.fieldAddr _ (Operand.tmp 64) 4, _, _, _, none⟩) (v := .pointer (some ⟨wk, 4, none⟩)) rfl (by kernel_rfl) (by kernel_rfl) (by kernel_rfl) (fun _ _ _ h => h) (Or.inl ⟨by rfl, ?_⟩) hHeld ?_
                    · intro w' hSw
                      skip
                      go_simp
                    try simp only [Act.put, List.setIfInBounds_toArray, List.set_cons_zero, List.set_cons_succ]
                    refine wpAnyH_take (i := 16) (oi := ⟨some 66, Op.fieldAddr _ (Operand.tmp 65) 1, _, _, _, none⟩) (v := .pointer (some ⟨wk, 5, none⟩)) rfl (by kernel_rfl) (by kernel_rfl) (by kernel_rfl) (fun _ _ _ h => h) (Or.inl ⟨by rfl, ?_⟩) hHeld ?_
                    · intro w' hSw
                      skip
                      go_simp
                    try simp only [Act.put, List.setIfInBounds_toArray, List.set_cons_zero, List.set_cons_succ]
                    refine wpAnyH_ready (rs := [17]) (by kernel_rfl) (by simp) ?_
                    refine (AllReadyH.cons (o := ⟨none, Op.store _ (Operand.tmp 66) (Operand.tmp 63), _, _, _, none⟩) rfl (fun K hK => ?_) AllReadyH.nil)
                    · go_simp
                      refine hK.out _ _ trivial (fun _ => ?_)
                      clear hK K
                      try simp only [Act.put, List.setIfInBounds_toArray, List.set_cons_zero, List.set_cons_succ]
                      refine wpAnyH_done (by kernel_rfl) ?_ _
                      have hF5 := HR4.out.setLabels (M' := S.labels ++ [(d, S.at')]) HG4.out (by rw [List.length_append, List.flatMap_append]; exact HO4.out)
                      have h4 := blk_grownA HR4.out.ls HR4.out.h (fun _ => cells_ne (by decide)) HG4.out
                      have hfr5 : Fr base pb w3 (w4.setCell ⟨wk, 5, none⟩ (.slice a4 (S.labels.length + 1) q4)) := (Fr.of_below ((Below.refl _ _).alloc (Nat.le_refl _) _).drew (by omega)).trans ((Fr.grown HR4.out.ls (.inr (.inl rfl)) HG4.out (by simp; omega)).trans (Fr.setWk _ (h4.trans HR4.out.h) HR4.out.le))
                      obtain ⟨w5, hw5⟩ : ∃ x, x = w4.setCell ⟨wk, 5, none⟩ (.slice a4 (S.labels.length + 1) q4) := ⟨_, rfl⟩
                      rw [← hw5] at hF5 hfr5 ⊢
                      have hbx5 := hfr5.out _ _ HBX3.out (by simp [OutO]) (by omega)
                      have hby5 := hfr5.out _ _ HBY3.out (by simp [OutO]) (by omega)
                      have u0 : w5.cell? ⟨w.heap.size, 0, none⟩ = some (.int .i64 n) := cell_of_row w5 _ 0 _ _ _ hbx5
                      have u1 : w5.cell? ⟨w.heap.size, 1, none⟩ = some (.slice (some ⟨blk, off, none⟩) (len + 1) cap) := cell_of_row w5 _ 1 _ _ _ hbx5
                      have u2 : w5.cell? ⟨w.heap.size + 1, 0, none⟩ = some (.int .i64 0) := cell_of_row w5 _ 0 _ _ _ hby5
                      have u3 : w5.cell? ⟨w.heap.size + 1, 1, none⟩ = some (.slice none 0 0) := cell_of_row w5 _ 1 _ _ _ hby5
                      have f0 : w5.frozen? ⟨w.heap.size, 1, none⟩ = false := frozen_of_row w5 _ 1 _ _ hbx5
                      have f1 : w5.frozen? ⟨w.heap.size + 1, 0, none⟩ = false := frozen_of_row w5 _ 0 _ _ hby5
                      have f2 : w5.frozen? ⟨w.heap.size + 1, 1, none⟩ = false := frozen_of_row w5 _ 1 _ _ hby5
                      have lx5 : w.heap.size < w5.heap.size := heap_ltA hbx5
                      have ly5 : w.heap.size + 1 < w5.heap.size := heap_ltA hby5
                      have HF5 := Lib.hid hF5
                      have HFR5 := Lib.hid (HFR3.out.trans hfr5)
                      have HBX5 := Lib.hid hbx5
                      have HBY5 := Lib.hid hby5
                      clear hw5 hF5 hfr5 hbx5 hby5 h4 c4 f4 HG4 HO4 kl kl' ka3 ka3' hHeld
                      rcases Nat.lt_or_ge 1 cap with c1 | c1
                      · have i4 : (1 : Int) < (cap : Int) := by omega
                        go_wp2_with fail
                        refine bodyPost_ret (v := .agg #[.int .i64 n, .slice (some ⟨blk, off + 1, none⟩) len (cap - 1)]) ?_ rfl ?_
                        · simp [results, Tryz.results26, go_sem, u0, u1, u2, u3, f0, f1, f2, lx5, ly5]
                        · exact lab_end HA.out HF5.out HFR5.out HPM.out (ln_tail HL.out c1) HLN.out HBX5.out HBY5.out
                      · obtain rfl : cap = 1 := by omega
                        obtain rfl : len = 0 := by omega
                        go_wp2_with fail
                        refine bodyPost_ret (v := .agg #[.int .i64 n, .slice (some ⟨blk, off, none⟩) 0 0]) ?_ rfl ?_
                        · simp [results, Tryz.results26, go_sem, u0, u1, u2, u3, f0, f1, f2, lx5, ly5]
                        · exact lab_end HA.out HF5.out HFR5.out HPM.out (ln_gone HL.out) HLN.out HBX5.out HBY5.out
  · obtain rfl : RR = .error 310 := by rw [← HRR.out, hfd]; simp
    rw [hfd] at hlk
    clear HRR hfd
    go_enter Tryz.func26, Tryz.ntmps26
    go_wp2_with fail
    refine (HS.out _).mono ?_
    rintro e w1 ⟨rfl, rfl⟩
    go_wp2_with fail
    refine (HG.out _ _).mono ?_
    rintro e w3 ⟨rfl, rfl⟩
    exact ⟨rfl, Fr.of_below (((Below.refl _ _).alloc (Nat.le_refl _) _).alloc (by simp) _) hs, rfl⟩
end Go.Proofs.YtgfljokamgbcaaaGreatDoor
