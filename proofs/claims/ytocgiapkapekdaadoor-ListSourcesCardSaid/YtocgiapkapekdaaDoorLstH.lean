/- The document's Dump. -/
import Derived.Test.YtocgiapkapekdaaDoorLstG
namespace Go.Proofs.YtocgiapkapekdaaDoor
open Go.RowKit
set_option linter.unusedSimpArgs false
set_option linter.unusedVariables false
set_option maxRecDepth 100000

abbrev hxs (L : List Int) : List (List UInt8) := L.map fun x => hexL x.toNat 2
theorem join_snoc (xs : List (List UInt8)) (y : List UInt8) : Lib.join (xs ++ [y]) [32] = if xs = [] then y else Lib.join xs [32] ++ 32 :: y := by
  induction xs with
  | nil => simp [Lib.join, List.intercalate]
  | cons x r ih =>
    rw [if_neg (by simp)]
    cases r with
    | nil => simp [Lib.join, List.intercalate]
    | cons z r =>
      rw [if_neg (by simp)] at ih
      unfold Lib.join List.intercalate at *
      simp only [List.cons_append, List.intersperse_cons_cons, List.flatten_cons, List.append_assoc] at *
      rw [ih]
theorem cv_one (W : World) (b off cap : Nat) (x : Int) (h : W.cell? ⟨b, off, none⟩ = some (.int .u8 x)) :
    (convert 22 9 (.slice (some ⟨b, off, none⟩) 1 cap)).run Tryd.prog W = .ok (.string (sH [UInt8.ofNat x.toNat])) W := by
  have e : strOfNums [x] = sH [UInt8.ofNat x.toNat] := by
    apply ba_extH
    rw [strOfNums_data]; rfl
  rw [← e]
  refine run_convert_bytes_arg W 22 5 Tryd.underlying22 Tryd.underlying5 b off 1 cap [x] rfl (fun i hi => ?_) 9 Tryd.underlying9
  obtain rfl : i = 0 := by omega
  exact h
theorem row_eq (L : List Int) (at' : Nat) (s : List UInt8) : sH s ++ sH (hexL at' 8) ++ sH [32, 32] ++ sH (Lib.join (hxs L) [32]) ++ sH [32, 32] ++ sH (L.map dotD) ++ sH [10] = sH (s ++ rowL L at') := by
  apply ba_extH
  simp [rowL, lineL]

set_option maxHeartbeats 16000000 in
theorem refDump_c (blk off la ca : Nat) (L : List Int) (from' : Nat) (hf : from' < 4294967296) (hL : L.length ≤ 400) (w : World) (hA : ByteArg w (some ⟨blk, off, none⟩) la ca L) (hne : L ≠ []) :
    Calls Tryd.prog 13 #[.slice (some ⟨blk, off, none⟩) la ca, .int .u32 (from' : Int)] w fun e w' => e = .returned (.string (sH (dumpL L from' ((L.length + 15) / 16)))) ∧ w' = w := by
  have HD := Lib.hid fun (n d : Nat) (hn : n < 4294967296) (hd : d ≤ 100) => digits_c n d hn hd w
  obtain ⟨a1, a2, a3, a4, a5⟩ := hA
  subst a1
  have hc : ∀ i, i < L.length → w.cell? ⟨blk, off + i, none⟩ = some (.int .u8 (L.getD i 0)) := by
    rcases a5 with h | ⟨b, o, e, h⟩
    · exact absurd h hne
    · cases e; exact h
  have hbd : ∀ i, i < L.length → 0 ≤ L.getD i 0 ∧ L.getD i 0 < 256 := fun i hi => by
    have : L.getD i 0 = L[i] := by simp [List.getD, List.getElem?_eq_getElem hi]
    rw [this]; exact a4 _ (List.getElem_mem hi)
  have HC := Lib.hid hc
  have HBD := Lib.hid hbd
  clear hc hbd a4 a5 hne
  go_enter Tryd.func13, Tryd.ntmps13
  go_wp2_with fail
  go_loopg [5, 6] ((L.length + 15) / 16) (fun gk v5 vk wr => ∃ k : Nat, gk + k = (L.length + 15) / 16 ∧ vk = .int .i64 ((k * 16 : Nat) : Int) ∧ (∃ s : ByteArray, v5 = .string s ∧ Hid (s = sH (dumpL L from' k)) ∧ s.size ≤ k * 100) ∧ wr = w)
  case atStart => exact ⟨0, by omega, rfl, ⟨_, rfl, Lib.hid rfl, by decide⟩, rfl⟩
  case round =>
    obtain ⟨k, hk, rfl, ⟨s, rfl, HS, hss⟩, rfl⟩ := hrel
    by_cases c : k * 16 < L.length
    · obtain ⟨A, hA⟩ : ∃ A, k * 16 = A := ⟨_, rfl⟩
      rw [hA] at c ⊢
      have i1 : (A : Int) < (L.length : Int) := by omega
      have hk26 : k ≤ 26 := by omega
      go_wp2_with fail
      obtain ⟨M, hM⟩ : ∃ M, M = (L.drop (A)).take 16 := ⟨_, rfl⟩
      have hml : M.length = min 16 (L.length - A) := by rw [hM]; simp
      have hMg : ∀ j, j < M.length → M.getD j 0 = L.getD (A + j) 0 := fun j hj => by
        rw [hM, List.getD_eq_getElem?_getD, List.getD_eq_getElem?_getD, List.getElem?_take, if_pos (by omega), List.getElem?_drop]
      have HM := Lib.hid hM
      have HMG := Lib.hid hMg
      clear hM hMg
      go_loopg [7, 8, 9] M.length (fun gj v7 v8 v9 wr2 => ∃ j : Nat, gj + j = M.length ∧ v9 = .int .i64 ((A + j : Nat) : Int) ∧ (∃ h p : ByteArray, v7 = .string h ∧ v8 = .string p ∧ Hid (h = sH (Lib.join (hxs (M.take j)) [32])) ∧ Hid (p = sH ((M.take j).map dotD)) ∧ h.size ≤ j * 3 ∧ p.size = j) ∧ wr2 = wr)
      case atStart => exact ⟨0, by omega, rfl, ⟨_, _, rfl, rfl, Lib.hid rfl, Lib.hid rfl, by decide, rfl⟩, rfl⟩
      case round =>
        obtain ⟨j, hj, rfl, ⟨h, p, rfl, rfl, HH, HP, hhs, hps⟩, rfl⟩ := hrel
        by_cases cj : j < M.length
        · have q1 : ((A + j : Nat) : Int) < (A : Int) + 16 := by omega
          have q2 : ((A + j : Nat) : Int) < (L.length : Int) := by omega
          have x0 := HC.out (A + j) (by omega)
          have hx := HBD.out (A + j) (by omega)
          have htk : M.take (j + 1) = M.take j ++ [M.getD j 0] := by
            rw [List.take_succ_eq_append_getElem cj]
            congr 2
            simp [List.getD, List.getElem?_eq_getElem cj]
          rw [HMG.out j cj] at htk
          have HTK := Lib.hid htk
          clear htk
          generalize L.getD (A + j) 0 = x at x0 hx HTK
          obtain ⟨y, rfl⟩ : ∃ y : Nat, x = (y : Int) := ⟨x.toNat, by omega⟩
          have hy : y < 256 := by omega
          have hcv := cv_one _ blk (off + (A + j)) (ca - (A + j)) y x0
          have HDy := HD.out y 2 (by omega) (by omega)
          have hw32 : IntKind.u32.wrap (y : Int) = (y : Int) := IntWalk.u32_in _ (by omega)
          have zy : (sH (hexL y 2)).size = 2 := by rw [sH_size, dig_len]
          have hjoin : Lib.join (hxs (M.take (j + 1))) [32] = if j = 0 then hexL y 2 else Lib.join (hxs (M.take j)) [32] ++ 32 :: hexL y 2 := by
            rw [HTK.out]
            unfold hxs
            rw [List.map_append]
            refine (join_snoc _ _).trans ?_
            by_cases c0 : j = 0
            · subst c0; simp
            · rw [if_neg c0, if_neg (by
                intro h
                have := congrArg List.length h
                rw [List.length_map, List.length_take, List.length_nil] at this
                omega)]
              rfl
          have HJ := Lib.hid hjoin
          have hdots : (M.take (j + 1)).map dotD = (M.take j).map dotD ++ [dotD (y : Int)] := by rw [HTK.out, List.map_append]; rfl
          have HDT := Lib.hid hdots
          have hyn : ((y : Int)).toNat = y := rfl
          have zdot : (sH [UInt8.ofNat y]).size = 1 := rfl
          clear hjoin hdots hx
          have hJz : j = 0 → h = sH [] := fun h0 => by rw [HH.out, h0]; rfl
          have q3 : (j : Int) < 16 := by omega
          have q4 : (A : Int) + (j : Int) < (L.length : Int) := by omega
          by_cases d1 : (y : Int) < 32
          · by_cases c0 : j = 0
            · subst c0
              simp only [Nat.add_zero] at x0 hcv q4
              have c1 : ¬ ((0 : Int) < ((0 : Nat) : Int)) := by omega
              go_wp2_with fail
              refine (HDy).mono ?_
              rintro e w3 ⟨rfl, rfl⟩
              go_wp2_with fail
              go_roundg (gk - 1)
              case measure => omega
              case rel => exact ⟨0 + 1, by omega, by go_num, ⟨_, _, rfl, rfl, Lib.hid (by rw [HJ.out]; apply ba_extH; simp), Lib.hid (by rw [HDT.out, HP.out, show dotD (y : Int) = 46 from (by unfold dotD; rw [if_pos (.inl d1)])]; apply ba_extH; simp), by rw [ByteArray.size_append, zy]; show 0 + 2 ≤ _; omega, by rw [ByteArray.size_append]; show p.size + 1 = _; omega⟩, rfl⟩
            · have c1 : (0 : Int) < (j : Int) := by omega
              go_wp2_with fail
              refine (HDy).mono ?_
              rintro e w3 ⟨rfl, rfl⟩
              go_wp2_with fail
              go_roundg (gk - 1)
              case measure => omega
              case rel => exact ⟨j + 1, by omega, by go_num, ⟨_, _, rfl, rfl, Lib.hid (by rw [HJ.out, if_neg c0, HH.out]; apply ba_extH; simp), Lib.hid (by rw [HDT.out, HP.out, show dotD (y : Int) = 46 from (by unfold dotD; rw [if_pos (.inl d1)])]; apply ba_extH; simp), by rw [ByteArray.size_append, ByteArray.size_append]; show h.size + 1 + (sH (hexL y 2)).size ≤ _; omega, by rw [ByteArray.size_append]; show p.size + 1 = _; omega⟩, rfl⟩
          · by_cases d2 : (126 : Int) < (y : Int)
            · by_cases c0 : j = 0
              · subst c0
                simp only [Nat.add_zero] at x0 hcv q4
                have c1 : ¬ ((0 : Int) < ((0 : Nat) : Int)) := by omega
                go_wp2_with fail
                refine (HDy).mono ?_
                rintro e w3 ⟨rfl, rfl⟩
                go_wp2_with fail
                go_roundg (gk - 1)
                case measure => omega
                case rel => exact ⟨0 + 1, by omega, by go_num, ⟨_, _, rfl, rfl, Lib.hid (by rw [HJ.out]; apply ba_extH; simp), Lib.hid (by rw [HDT.out, HP.out, show dotD (y : Int) = 46 from (by unfold dotD; rw [if_pos (.inr d2)])]; apply ba_extH; simp), by rw [ByteArray.size_append, zy]; show 0 + 2 ≤ _; omega, by rw [ByteArray.size_append]; show p.size + 1 = _; omega⟩, rfl⟩
              · have c1 : (0 : Int) < (j : Int) := by omega
                go_wp2_with fail
                refine (HDy).mono ?_
                rintro e w3 ⟨rfl, rfl⟩
                go_wp2_with fail
                go_roundg (gk - 1)
                case measure => omega
                case rel => exact ⟨j + 1, by omega, by go_num, ⟨_, _, rfl, rfl, Lib.hid (by rw [HJ.out, if_neg c0, HH.out]; apply ba_extH; simp), Lib.hid (by rw [HDT.out, HP.out, show dotD (y : Int) = 46 from (by unfold dotD; rw [if_pos (.inr d2)])]; apply ba_extH; simp), by rw [ByteArray.size_append, ByteArray.size_append]; show h.size + 1 + (sH (hexL y 2)).size ≤ _; omega, by rw [ByteArray.size_append]; show p.size + 1 = _; omega⟩, rfl⟩
            · by_cases c0 : j = 0
              · subst c0
                simp only [Nat.add_zero] at x0 hcv q4
                have c1 : ¬ ((0 : Int) < ((0 : Nat) : Int)) := by omega
                go_wp2_with fail
                refine (HDy).mono ?_
                rintro e w3 ⟨rfl, rfl⟩
                go_wp2_with fail
                go_roundg (gk - 1)
                case measure => omega
                case rel => exact ⟨0 + 1, by omega, by go_num, ⟨_, _, rfl, rfl, Lib.hid (by rw [HJ.out]; apply ba_extH; simp), Lib.hid (by rw [HDT.out, HP.out, show dotD (y : Int) = UInt8.ofNat y from (by unfold dotD; rw [if_neg (by omega)]; rfl)]; apply ba_extH; simp), by rw [ByteArray.size_append, zy]; show 0 + 2 ≤ _; omega, by rw [ByteArray.size_append]; show p.size + 1 = _; omega⟩, rfl⟩
              · have c1 : (0 : Int) < (j : Int) := by omega
                go_wp2_with fail
                refine (HDy).mono ?_
                rintro e w3 ⟨rfl, rfl⟩
                go_wp2_with fail
                go_roundg (gk - 1)
                case measure => omega
                case rel => exact ⟨j + 1, by omega, by go_num, ⟨_, _, rfl, rfl, Lib.hid (by rw [HJ.out, if_neg c0, HH.out]; apply ba_extH; simp), Lib.hid (by rw [HDT.out, HP.out, show dotD (y : Int) = UInt8.ofNat y from (by unfold dotD; rw [if_neg (by omega)]; rfl)]; apply ba_extH; simp), by rw [ByteArray.size_append, ByteArray.size_append]; show h.size + 1 + (sH (hexL y 2)).size ≤ _; omega, by rw [ByteArray.size_append]; show p.size + 1 = _; omega⟩, rfl⟩
        · obtain rfl : j = M.length := by omega
          rw [List.take_length] at HH HP
          have hX := Lib.hid (show sH (hexL ((from' + A) % 4294967296) 8) = sH (hexL ((from' + A) % 4294967296) 8) from rfl)
          have HD8 := HD.out ((from' + A) % 4294967296) 8 (Nat.mod_lt _ (by decide)) (by omega)
          have e2 : ((from' : Int) + (A : Int)) % 4294967296 = (((from' + A) % 4294967296 : Nat) : Int) := by omega
          rw [← e2] at HD8
          have HD8 := Lib.hid HD8
          have z8 : (sH (hexL ((from' + A) % 4294967296) 8)).size = 8 := by rw [sH_size, dig_len]
          have hds : Hid (dumpL L from' (k + 1) = dumpL L from' k ++ rowL ((L.drop A).take 16) ((from' + A) % 4294967296)) := Lib.hid (by rw [← hA]; exact dumpL_succ L from' k)
          have hre := Lib.hid (row_eq M ((from' + A) % 4294967296) (dumpL L from' k))
          have hrl := row_len M (by omega) ((from' + A) % 4294967296)
          clear e2
          generalize hat : sH (hexL ((from' + A) % 4294967296) 8) = X at HD8 z8 hre
          have hat := Lib.hid hat
          by_cases c16 : M.length = 16
          · have q1 : ¬ ((A + M.length : Nat) : Int) < (A : Int) + 16 := by omega
            have q3 : ¬ (M.length : Int) < 16 := by omega
            go_wp2_with fail
            refine (HD8.out).mono ?_
            rintro e w3 ⟨rfl, rfl⟩
            go_wp2_with fail
            go_roundg ((L.length + 15) / 16 - (k + 1))
            case measure => omega
            case rel => exact ⟨k + 1, by omega, by congr 1; omega, ⟨_, rfl, Lib.hid (by rw [hds.out, ← HM.out, ← hre.out, HS.out, HH.out, HP.out]), by rw [ByteArray.size_append, ByteArray.size_append, ByteArray.size_append, ByteArray.size_append, ByteArray.size_append, ByteArray.size_append]; show s.size + X.size + 2 + h.size + 2 + p.size + 1 ≤ (k + 1) * 100; omega⟩, rfl⟩
          · have q1 : ((A + M.length : Nat) : Int) < (A : Int) + 16 := by omega
            have q3 : (M.length : Int) < 16 := by omega
            have q2 : ¬ ((A + M.length : Nat) : Int) < (L.length : Int) := by omega
            have q4 : ¬ (A : Int) + (M.length : Int) < (L.length : Int) := by omega
            go_wp2_with fail
            refine (HD8.out).mono ?_
            rintro e w3 ⟨rfl, rfl⟩
            go_wp2_with fail
            go_roundg ((L.length + 15) / 16 - (k + 1))
            case measure => omega
            case rel => exact ⟨k + 1, by omega, by congr 1; omega, ⟨_, rfl, Lib.hid (by rw [hds.out, ← HM.out, ← hre.out, HS.out, HH.out, HP.out]), by rw [ByteArray.size_append, ByteArray.size_append, ByteArray.size_append, ByteArray.size_append, ByteArray.size_append, ByteArray.size_append]; show s.size + X.size + 2 + h.size + 2 + p.size + 1 ≤ (k + 1) * 100; omega⟩, rfl⟩
    · have i1 : ¬ ((k * 16 : Nat) : Int) < (L.length : Int) := by omega
      have hkn : k = (L.length + 15) / 16 := by omega
      go_wp2_with fail
      go_ret
      exact ⟨by rw [HS.out, hkn]; rfl, rfl⟩
end Go.Proofs.YtocgiapkapekdaaDoor
