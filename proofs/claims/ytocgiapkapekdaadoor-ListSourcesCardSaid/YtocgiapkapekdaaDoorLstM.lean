/- The document's Places and Source; the walk of ListSources. -/
import Derived.Test.YtocgiapkapekdaaDoorLstK
namespace Go.Proofs.YtocgiapkapekdaaDoor
open Go.RowKit
set_option linter.unusedSimpArgs false
set_option linter.unusedVariables false
set_option maxRecDepth 100000

theorem Tryd.infoIntM : (Tryd.prog.info? 3).map (fun i => (i.zero, i.size, i.bytes)) = some (some (.int .i64 0), 1, 8) := by kernel_rfl
abbrev ixM (x : Nat × PlT) : Value := .int .i64 (x.1 : Int)

set_option maxHeartbeats 8000000 in
theorem places_c (ao : Option Addr) (la ca : Nat) (L : List Int) (hL : L.length ≤ 400) (w : World) (hA : ByteArg w ao la ca L) :
    Calls Tryd.prog 24 #[.slice ao la ca] w fun e w' => ∃ v, e = .returned v ∧ w'.ownsRow w.heap.size 3 1 v (srcL L L.length 0).length ((srcL L L.length 0).map ixM) ∧ Below w.heap.size w w' := by
  obtain ⟨i0, hi, hz0, hz1, hz2⟩ := info_parts Tryd.infoIntM
  have hla : L.length = la := hA.1
  have HO := Lib.hid fun (a : Nat) (ha : a < la) (V : World) (hb : Below w.heap.size w V) => refOne_in ao la ca L a ha V (hA.belowH hb)
  have hlen := srcL_len L L.length 0
  subst hla
  clear hA
  go_enter Tryd.func24, Tryd.ntmps24
  go_wp2_with fail
  go_loopg [3, 4] L.length (fun gk v3 v4 wr => ∃ (a : Nat) (pre : List (Nat × PlT)), gk = L.length - a ∧ a ≤ L.length ∧ v4 = .int .i64 (a : Int) ∧ wr.ownsRow w.heap.size 3 1 v3 pre.length (pre.map ixM) ∧ Below w.heap.size w wr ∧ Hid (pre ++ srcL L (L.length - a) a = srcL L L.length 0))
  case atStart => exact ⟨0, [], by omega, Nat.zero_le _, rfl, ⟨rfl, .inl ⟨rfl, rfl⟩⟩, Below.refl _ _, Lib.hid rfl⟩
  case round =>
    obtain ⟨a, pre, hgk, haL, rfl, own3, hB, HP⟩ := hrel
    by_cases c : a < L.length
    · have i1 : (a : Int) < (L.length : Int) := by omega
      have hbd := oneN_bd c
      have hst := srcL_step L c
      have hpl : pre.length < 400 := by
        have := congrArg List.length HP.out
        rw [List.length_append, hst] at this
        simp at this
        omega
      obtain ⟨m, hm⟩ : ∃ m : Nat, oneN L a = (m : Int) := ⟨(oneN L a).toNat, by omega⟩
      rw [hm] at hbd hst
      have HOa := Lib.hid fun V hb => HO.out a c V hb
      rw [hm] at HOa
      have hst : Hid (srcL L (L.length - a) a = (a, plT L a) :: srcL L (L.length - (a + m)) (a + m)) := Lib.hid hst
      clear hm
      have hsz := hB.size
      go_wp2_with (first | (at_builtin; refine wpList_append_own _ rfl _ _ 54 rfl w.heap.size 3 i0 _ 1 8 Tryd.underlying54 hi hz0 hz1 hz2 rfl (by decide) _ _ _ rfl (own3.alloc _) _ 1 1 [.int .i64 (a : Int)] rfl rfl (cells_newH _ _ _ _ (by simp)) (by simp [Value.oneCell']) (by unfold maxLen; omega) (by omega) (by first | (simp; done) | (simp; omega)) ?_; intro v4 w4 own4 gr4 _; obtain ⟨hB4, hs4⟩ := own_nextH hB hsz own3 gr4; clear gr4))
      refine (HOa.out _ hB4).mono ?_
      rintro e w5 ⟨rfl, hb5⟩
      have own5 := own_keepH own4 hb5
      go_wp2_with fail
      go_roundg (L.length - (a + m))
      case measure => omega
      case rel => exact ⟨a + m, pre ++ [(a, plT L a)], rfl, by omega, by go_num, by simpa using own5, hB4.trans (hb5.mono hB4.size), Lib.hid (by rw [List.append_assoc, ← HP.out, hst.out]; rfl)⟩
    · have i1 : ¬ (a : Int) < (L.length : Int) := by omega
      obtain rfl : a = L.length := by omega
      have hp : pre = srcL L L.length 0 := by rw [← HP.out, srcL_end _ _ _ (Nat.le_refl _), List.append_nil]
      rw [hp] at own3
      go_wp2_with fail
      go_ret
      exact ⟨_, rfl, own3, hB⟩

theorem srcL_mem (L : List Int) : ∀ f a x, x ∈ srcL L f a → x.1 < L.length ∧ x.2 = plT L x.1
  | 0, a, x, h => by simp [srcL] at h
  | f + 1, a, x, h => by
    rw [srcL] at h
    split at h
    · rename_i hc
      rcases List.mem_cons.1 h with rfl | h
      · exact ⟨hc, rfl⟩
      · exact srcL_mem L f _ x h
    · cases h

set_option maxHeartbeats 8000000 in
theorem refSource_c (ao : Option Addr) (la ca : Nat) (L : List Int) (hL : L.length ≤ 400) (w : World) (hA : ByteArg w ao la ca L) :
    Calls Tryd.prog 11 #[.slice ao la ca] w fun e w' => e = .returned (.string (sH (srcT (srcL L L.length 0)))) ∧ Below w.heap.size w w' := by
  have hla : L.length = la := hA.1
  have HO := Lib.hid fun (a : Nat) (ha : a < la) (V : World) (hb : Below w.heap.size w V) => refOne_in ao la ca L a ha V (hA.belowH hb)
  have HPc := Lib.hid (places_c ao la ca L hL w hA)
  have hby := Lib.hid hA.2.2.2.1
  have hmem := Lib.hid (srcL_mem L L.length 0)
  have hlen := srcL_len L L.length 0
  subst hla
  clear hA
  generalize srcL L L.length 0 = XS at HPc hmem hlen ⊢
  go_enter Tryd.func11, Tryd.ntmps11
  go_wp2_with fail
  refine (HPc.out).mono ?_
  rintro e w1 ⟨v, rfl, ov, hb1⟩
  have hcl : Hid (∀ k x, XS[k]? = some x → ∃ g, (∃ cap, v = .slice (some ⟨g, 0, none⟩) XS.length cap) ∧ g < w1.heap.size ∧ w1.cell? ⟨g, k, none⟩ = some (ixM x)) := Lib.hid fun k x hk => by
    have hlt := (List.getElem?_eq_some_iff.1 hk).1
    obtain ⟨g, cap, hv, -, hg⟩ := own_someH ov (by omega)
    refine ⟨g, ⟨cap, hv⟩, hg, ?_⟩
    rw [hv] at ov
    exact (ov.cellAt (j := k) (by simpa using hlt)).trans (by rw [List.getElem?_map, hk]; rfl)
  obtain ⟨ao2, cap2, rfl⟩ : ∃ a c, v = .slice a XS.length c := by
    rcases ov.2 with ⟨h1, h2⟩ | ⟨g, cap, cur, h1, -⟩
    · rw [h2]; exact ⟨none, 0, h1⟩
    · exact ⟨_, _, h1⟩
  clear ov
  go_wp2_with fail
  go_loopg [3, 5] XS.length (fun gk v3 vk wr => ∃ k : Nat, gk + k = XS.length ∧ vk = .int .i64 (k : Int) ∧ (∃ s : ByteArray, v3 = .string s ∧ Hid (s = sH (srcT (XS.take k))) ∧ s.size ≤ k * 101) ∧ Below w1.heap.size w1 wr)
  case atStart => exact ⟨0, by omega, rfl, ⟨_, rfl, Lib.hid rfl, by decide⟩, Below.refl _ _⟩
  case round =>
    obtain ⟨k, hk, rfl, ⟨s, rfl, HS, hss⟩, hB⟩ := hrel
    have hBw : Below w.heap.size w wr := hb1.trans (hB.mono hb1.size)
    by_cases c : k < XS.length
    · have i1 : (k : Int) < (XS.length : Int) := by omega
      obtain ⟨x, hx⟩ : ∃ x, XS[k]? = some x := ⟨_, List.getElem?_eq_getElem c⟩
      obtain ⟨g, ⟨cap, hv⟩, hg, hcell⟩ := hcl.out k x hx
      cases hv
      have x0 := (hB.cell (p := ⟨g, k, none⟩) hg).trans hcell
      obtain ⟨m1, m2⟩ := hmem.out x (List.mem_of_getElem? hx)
      have HOx := HO.out x.1 m1 wr hBw
      have ht : oneT L x.1 = x.2.1 := by rw [m2]; exact (plT_eq hby.out m1).symm
      rw [ht] at HOx
      have HOx := Lib.hid HOx
      have htk : XS.take (k + 1) = XS.take k ++ [x] := by
        rw [List.take_succ_eq_append_getElem c]
        congr 2
        exact Option.some.inj ((List.getElem?_eq_getElem c).symm.trans hx)
      have HTK := Lib.hid htk
      have hx2 := x.2.2
      have zx : (⟨x.2.1.toArray⟩ : ByteArray).size ≤ 100 := by show x.2.1.toArray.size ≤ 100; simpa using hx2
      clear htk hx ht m2 hcell
      go_wp2_with fail
      refine (HOx.out).mono ?_
      rintro e w3 ⟨rfl, hb3⟩
      go_wp2_with fail
      go_roundg (gk - 1)
      case measure => omega
      case rel => exact ⟨k + 1, by omega, by go_num, ⟨_, rfl, Lib.hid (by rw [HTK.out, srcT_snoc, HS.out]; apply ba_extH; simp), by rw [ByteArray.size_append, ByteArray.size_append]; show s.size + (⟨x.2.1.toArray⟩ : ByteArray).size + 1 ≤ _; omega⟩, hB.trans (hb3.mono hB.size)⟩
    · have i1 : ¬ (k : Int) < (XS.length : Int) := by omega
      obtain rfl : k = XS.length := by omega
      have hs := HS.out
      rw [List.take_length] at hs
      have hs := Lib.hid hs
      go_wp2_with fail
      go_ret
      exact ⟨by simp, hBw⟩

set_option maxHeartbeats 4000000 in
theorem sources_in (ao : Option Addr) (la ca : Nat) (L : List Int) (w : World) (hA : ByteArg w ao la ca L) (HT : Hid (pTab w)) :
    Calls Tryd.prog 4 #[.slice ao la ca] w fun e w' => e = .returned (.bool true) ∧ Below w.heap.size w w' := by
  have HF := Lib.hid (few_c ao la ca L w hA)
  have H1 := Lib.hid fun (ca' : Nat) (h : ByteArg w ao (fewL L).length ca' (fewL L)) => (callsIn_wide (n := 4)).1 (source_in 4 (by omega) ao (fewL L).length ca' (fewL L) (few_len L) w h HT)
  have H2 := Lib.hid fun (ca' : Nat) (W : World) (h : ByteArg W ao (fewL L).length ca' (fewL L)) => refSource_c ao (fewL L).length ca' (fewL L) (few_len L) W h
  have HW := Lib.hid fun (W : World) (hb : Below w.heap.size w W) => works_c W (pTab_onP HT hb)
  generalize sH (srcT (srcL (fewL L) (fewL L).length 0)) = s at H1 H2
  have hq : (s.toList == s.toList) = true := by simp
  clear hA
  go_enter Tryd.func4, Tryd.ntmps4
  go_wp2_with fail
  refine (HF.out).mono ?_
  rintro e w1 ⟨⟨ca', rfl, hA1⟩, rfl⟩
  have HA1 := Lib.hid hA1
  clear hA1 HF
  go_wp2_with fail
  refine (H1.out ca' HA1.out).mono ?_
  rintro e w2 ⟨rfl, hb2⟩
  go_wp2_with fail
  refine (H2.out ca' _ (HA1.out.belowH hb2)).mono ?_
  rintro e w3 ⟨rfl, hb3⟩
  have hB3 := hb2.trans (hb3.mono hb2.size)
  go_wp2_with fail
  refine (HW.out _ hB3).mono ?_
  rintro e w4 ⟨rfl, hb4⟩
  go_wp2_with fail
  go_ret
  exact ⟨rfl, hB3.trans (hb4.mono hB3.size)⟩
theorem sources_walk (ao : Option Addr) (len cap : Nat) (L : List Int) (w : World) (HT : Hid (pTab w)) (hy : ByteArg w ao len cap L) :
    Calls Tryd.prog 4 #[.slice ao len cap] w fun e w' => e = .returned (.bool true) ∧ Below w.heap.size w w' :=
  sources_in ao len cap L w hy HT
end Go.Proofs.YtocgiapkapekdaaDoor
