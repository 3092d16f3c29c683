/- isa.Decode's contract, of any bytes: it hands back 'decR' of them. -/
import Derived.Test.YtnoeeediicaooaaGreatDoorIsaG
import Derived.Test.YtnoeeediicaooaaGreatDoorBytes
namespace Go.Proofs.YtnoeeediicaooaaGreatDoor.Isa
open Go.RowKit

/-- What Decode hands back: the instruction, its size, the error. -/
structure DR where
  op : Int
  a : Int
  b : Int
  imm : Int
  n : Int
  err : Int

def decR (host : Bool) (L : List Int) : DR :=
  match L with
  | [] => ⟨0, 0, 0, 0, 0, 20⟩
  | x0 :: T =>
    if (fm x0 host).n = 0 then ⟨0, 0, 0, 0, 0, 21⟩
    else if ((x0 :: T).length : Int) < (fm x0 host).n then ⟨0, 0, 0, 0, 0, 20⟩
    else if mayB (fm x0 host) (regA (fm x0 host) (T.getD 0 0)) (regB (fm x0 host) (T.getD 0 0)) (numL (fm x0 host) (T.getD 0 0) (T.getD 1 0) (T.getD 2 0) (T.getD 3 0) (T.getD 4 0)) = true then
      ⟨x0, regA (fm x0 host) (T.getD 0 0), regB (fm x0 host) (T.getD 0 0), numL (fm x0 host) (T.getD 0 0) (T.getD 1 0) (T.getD 2 0) (T.getD 3 0) (T.getD 4 0), (fm x0 host).n, 0⟩
    else ⟨0, 0, 0, 0, 0, 21⟩

def DR.post (r : DR) : World → Ending → World → Prop := DecPost r.op r.a r.b r.imm r.n r.err

set_option maxHeartbeats 1000000 in
theorem dec_empty (host : Bool) (ao : Option Addr) (cap : Nat) (w : World) :
    Calls Tryz.prog 66 #[.slice ao 0 cap, .bool host] w (DecPost 0 0 0 0 0 20 w) := by
  go_enter Tryz.func66, Tryz.ntmps66
  go_wp2_with fail
  refine bodyPost_ret (v := .tuple #[insV 0 0 0 0, .int .i64 0, .int .i64 20]) ?_ rfl ⟨rfl, ?_⟩
  · unfold insV
    simp [results, Tryz.results66, go_sem]
  · exact below_alloc1 _ _

set_option maxHeartbeats 4000000 in
theorem dec_none (host : Bool) (blk off len cap : Nat) (x0 : Int) (w : World) (hx0 : w.cell? ⟨blk, off, none⟩ = some (.int .u8 x0)) (b0 : 0 ≤ x0 ∧ x0 < 256) (hlen : len ≤ 9223372036854775807) (hn : 1 ≤ len) (hf : fm x0 host = ⟨0, 0, 0, 0, 0⟩) :
    Calls Tryz.prog 66 #[.slice (some ⟨blk, off, none⟩) len cap, .bool host] w (DecPost 0 0 0 0 0 21 w) := by
  have hFI : fmIs ⟨0, 0, 0, 0, 0⟩ := by unfold fmIs; simp
  have HE := eqForm _ hFI
  have h1 := fun w => formOf_c x0 host w b0.1 b0.2
  rw [hf] at h1
  have H1 := Lib.hid h1
  clear h1 hf
  unfold Fm.val at H1 HE
  have hpos : (0 : Int) < (len : Int) := by omega
  have hz0 : ((len : Int) == 0) = false := by simp; omega
  have hbw : blk < w.heap.size := World.block_lt_of_cell? w _ hx0
  go_enter Tryz.func66, Tryz.ntmps66
  go_wp2_with fail
  refine (H1.out _).mono ?_
  rintro e w1 ⟨rfl, hb1⟩
  have B1 := below_box hb1
  have s1 : w.heap.size < w1.heap.size := by have := hb1.size; simp at this; omega
  obtain ⟨hcl, hfz⟩ := bcell hb1
  go_wp2_with fail
  refine bodyPost_ret (v := .tuple #[insV 0 0 0 0, .int .i64 0, .int .i64 21]) ?_ rfl ⟨rfl, ?_⟩
  · unfold insV
    simp [results, Tryz.results66, go_sem, hcl, s1]
  · exact ((((B1.setCell (Nat.le_refl _) _).setCell (Nat.le_refl _) _).setCell (Nat.le_refl _) _).setCell (Nat.le_refl _) _).alloc (by simp; omega) _

set_option maxHeartbeats 4000000 in
theorem dec_short (host : Bool) (blk off len cap : Nat) (x0 : Int) (w : World) (hx0 : w.cell? ⟨blk, off, none⟩ = some (.int .u8 x0)) (b0 : 0 ≤ x0 ∧ x0 < 256) (hlen : len ≤ 9223372036854775807) (hn : 1 ≤ len) (f : Fm) (hf : fm x0 host = f) (hFI : fmIs f) (hnz : f.n ≠ 0) (hsh : (len : Int) < f.n) :
    Calls Tryz.prog 66 #[.slice (some ⟨blk, off, none⟩) len cap, .bool host] w (DecPost 0 0 0 0 0 20 w) := by
  have HE := eqForm _ hFI
  have h1 := fun w => formOf_c x0 host w b0.1 b0.2
  rw [hf] at h1
  have H1 := Lib.hid h1
  clear h1 hf
  have hd : decide (f.n = 0) = false := by simpa using hnz
  rw [hd] at HE
  obtain ⟨fn, fa, fb, fk, fs⟩ := f
  unfold Fm.val at H1 HE
  simp only at hsh
  clear hd hnz hFI
  have hpos : (0 : Int) < (len : Int) := by omega
  have hz0 : ((len : Int) == 0) = false := by simp; omega
  have hbw : blk < w.heap.size := World.block_lt_of_cell? w _ hx0
  go_enter Tryz.func66, Tryz.ntmps66
  go_wp2_with fail
  refine (H1.out _).mono ?_
  rintro e w1 ⟨rfl, hb1⟩
  have B1 := below_box hb1
  have s1 : w.heap.size < w1.heap.size := by have := hb1.size; simp at this; omega
  obtain ⟨hcl, hfz⟩ := bcell hb1
  go_wp2_with fail
  refine bodyPost_ret (v := .tuple #[insV 0 0 0 0, .int .i64 0, .int .i64 20]) ?_ rfl ⟨rfl, ?_⟩
  · unfold insV
    simp [results, Tryz.results66, go_sem, hcl, s1]
  · exact ((((B1.setCell (Nat.le_refl _) _).setCell (Nat.le_refl _) _).setCell (Nat.le_refl _) _).setCell (Nat.le_refl _) _).alloc (by simp; omega) _

theorem dec_c (host : Bool) (ao : Option Addr) (len cap : Nat) (L : List Int) (w : World) (hL : L.length = len) (hlen : len ≤ 9223372036854775807) (hb : ∀ x ∈ L, 0 ≤ x ∧ x < 256) (hw : BytesIn w ao L) :
    Calls Tryz.prog 66 #[.slice ao len cap, .bool host] w ((decR host L).post w) := by
  cases L with
  | nil => subst hL; exact dec_empty host ao cap w
  | cons x0 T =>
    rcases hw with hw | ⟨blk, off, rfl, hc⟩
    · cases hw
    have hbt : ∀ i, 0 ≤ T.getD i 0 ∧ T.getD i 0 < 256 := fun i => by
      rcases Nat.lt_or_ge i T.length with h | h
      · have : T.getD i 0 = T[i] := by simp [List.getD, List.getElem?_eq_getElem h]
        rw [this]; exact hb _ (List.mem_cons_of_mem _ (List.getElem_mem h))
      · have : T.getD i 0 = 0 := by simp [List.getD, List.getElem?_eq_none h]
        rw [this]; omega
    have b0 := hb x0 (List.mem_cons_self ..)
    have c0 : w.cell? ⟨blk, off, none⟩ = some (.int .u8 x0) := by simpa using hc 0 (by simp)
    have ci : ∀ i, i < T.length → w.cell? ⟨blk, off + (i + 1), none⟩ = some (.int .u8 (T.getD i 0)) := fun i hi => by simpa using hc (i + 1) (by simpa using hi)
    have hl : T.length + 1 = len := by simpa using hL
    have hF := fm_is x0 host
    have hd : decR host (x0 :: T) = if (fm x0 host).n = 0 then ⟨0, 0, 0, 0, 0, 21⟩ else if ((x0 :: T).length : Int) < (fm x0 host).n then ⟨0, 0, 0, 0, 0, 20⟩ else if mayB (fm x0 host) (regA (fm x0 host) (T.getD 0 0)) (regB (fm x0 host) (T.getD 0 0)) (numL (fm x0 host) (T.getD 0 0) (T.getD 1 0) (T.getD 2 0) (T.getD 3 0) (T.getD 4 0)) = true then ⟨x0, regA (fm x0 host) (T.getD 0 0), regB (fm x0 host) (T.getD 0 0), numL (fm x0 host) (T.getD 0 0) (T.getD 1 0) (T.getD 2 0) (T.getD 3 0) (T.getD 4 0), (fm x0 host).n, 0⟩ else ⟨0, 0, 0, 0, 0, 21⟩ := rfl
    rw [hd]
    clear hd
    by_cases hz : (fm x0 host).n = 0
    · rw [if_pos hz]
      refine dec_none host blk off len cap x0 w c0 b0 hlen (by omega) ?_
      rcases hF with h | h | h | h | h | h | h | h | h | h <;> rw [h] at hz ⊢ <;> simp at hz
    · rw [if_neg hz]
      by_cases hs : ((x0 :: T).length : Int) < (fm x0 host).n
      · rw [if_pos hs]
        exact dec_short host blk off len cap x0 w c0 b0 hlen (by omega) _ rfl hF hz (by rw [← hL]; exact hs)
      · rw [if_neg hs]
        simp only [List.length_cons] at hs
        generalize hm : mayB (fm x0 host) (regA (fm x0 host) (T.getD 0 0)) (regB (fm x0 host) (T.getD 0 0)) (numL (fm x0 host) (T.getD 0 0) (T.getD 1 0) (T.getD 2 0) (T.getD 3 0) (T.getD 4 0)) = m
        have key : Calls Tryz.prog 66 #[.slice (some ⟨blk, off, none⟩) len cap, .bool host] w (if m = true then DecPost x0 (regA (fm x0 host) (T.getD 0 0)) (regB (fm x0 host) (T.getD 0 0)) (numL (fm x0 host) (T.getD 0 0) (T.getD 1 0) (T.getD 2 0) (T.getD 3 0) (T.getD 4 0)) (fm x0 host).n 0 w else DecPost 0 0 0 0 0 21 w) := by
          rcases hF with h | h | h | h | h | h | h | h | h | h
          · rw [h] at hz; simp at hz
          · rw [h] at hm hs ⊢; exact dec10000 host blk off len cap x0 _ _ _ _ _ w c0 b0 (hbt 0) (hbt 1) (hbt 2) (hbt 3) (hbt 4) hlen (by simp at hs; omega) h m hm
          · rw [h] at hm hs ⊢; exact dec21100 host blk off len cap x0 _ _ _ _ _ w c0 (ci 0 (by simp at hs; omega)) b0 (hbt 0) (hbt 1) (hbt 2) (hbt 3) (hbt 4) hlen (by simp at hs; omega) h m hm
          · rw [h] at hm hs ⊢; exact dec21000 host blk off len cap x0 _ _ _ _ _ w c0 (ci 0 (by simp at hs; omega)) b0 (hbt 0) (hbt 1) (hbt 2) (hbt 3) (hbt 4) hlen (by simp at hs; omega) h m hm
          · rw [h] at hm hs ⊢; exact dec20010 host blk off len cap x0 _ _ _ _ _ w c0 (ci 0 (by simp at hs; omega)) b0 (hbt 0) (hbt 1) (hbt 2) (hbt 3) (hbt 4) hlen (by simp at hs; omega) h m hm
          · rw [h] at hm hs ⊢; exact dec31011 host blk off len cap x0 _ _ _ _ _ w c0 (ci 0 (by simp at hs; omega)) (ci 1 (by simp at hs; omega)) b0 (hbt 0) (hbt 1) (hbt 2) (hbt 3) (hbt 4) hlen (by simp at hs; omega) h m hm
          · rw [h] at hm hs ⊢; exact dec31111 host blk off len cap x0 _ _ _ _ _ w c0 (ci 0 (by simp at hs; omega)) (ci 1 (by simp at hs; omega)) b0 (hbt 0) (hbt 1) (hbt 2) (hbt 3) (hbt 4) hlen (by simp at hs; omega) h m hm
          · rw [h] at hm hs ⊢; exact dec30021 host blk off len cap x0 _ _ _ _ _ w c0 (ci 0 (by simp at hs; omega)) (ci 1 (by simp at hs; omega)) b0 (hbt 0) (hbt 1) (hbt 2) (hbt 3) (hbt 4) hlen (by simp at hs; omega) h m hm
          · rw [h] at hm hs ⊢; exact dec30020 host blk off len cap x0 _ _ _ _ _ w c0 (ci 0 (by simp at hs; omega)) (ci 1 (by simp at hs; omega)) b0 (hbt 0) (hbt 1) (hbt 2) (hbt 3) (hbt 4) hlen (by simp at hs; omega) h m hm
          · rw [h] at hm hs ⊢; exact dec61041 host blk off len cap x0 _ _ _ _ _ w c0 (ci 0 (by simp at hs; omega)) (ci 1 (by simp at hs; omega)) (ci 2 (by simp at hs; omega)) (ci 3 (by simp at hs; omega)) (ci 4 (by simp at hs; omega)) b0 (hbt 0) (hbt 1) (hbt 2) (hbt 3) (hbt 4) hlen (by simp at hs; omega) h m hm
        cases m
        · rw [if_neg (by simp)] at key ⊢
          exact key
        · rw [if_pos rfl] at key ⊢
          exact key
end Go.Proofs.YtnoeeediicaooaaGreatDoor.Isa
