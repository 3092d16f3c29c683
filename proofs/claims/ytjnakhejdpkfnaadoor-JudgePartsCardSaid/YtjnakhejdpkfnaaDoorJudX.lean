/- judge.Parts and judge.Tell of any two guests. (Written by mkJX.py.) -/
import Derived.Test.YtjnakhejdpkfnaaDoorJudW
namespace Go.Proofs.YtjnakhejdpkfnaaDoor
open Go.RowKit
set_option linter.unusedSimpArgs false
set_option linter.unusedVariables false
set_option maxRecDepth 100000

/-- The parts' names. -/
def nmJ : List ByteArray := [⟨#[102, 114, 97, 109, 101, 115]⟩, ⟨#[115, 116, 101, 112, 115]⟩, ⟨#[115, 116, 97, 116, 101]⟩, ⟨#[109, 101, 109]⟩, ⟨#[110, 111, 116, 101, 115]⟩, ⟨#[111, 117, 116]⟩, ⟨#[100, 105, 115, 107]⟩, ⟨#[113, 117, 101, 117, 101]⟩, ⟨#[115, 99, 114, 105, 112, 116]⟩, ⟨#[100, 101, 118, 105, 99, 101, 115]⟩]
/-- In which parts two guests differ. -/
noncomputable def dlJ (s r : SvR) (x : Nat → Int) (h : Bool) (y : Nat → Int) (g : Bool) : List Bool :=
  [s.fr != r.fr, s.st != r.st, decide (0 < (diffJ x h y g 19).length), decide (0 ≤ firstL s.mem.L r.mem.L), decide (0 ≤ firstE s.notes.L r.notes.L), decide (0 ≤ firstL s.out.L r.out.L), decide (0 ≤ firstL s.disk.L r.disk.L), decide (0 ≤ firstL s.queue.L r.queue.L), decide (0 ≤ firstE s.script.L r.script.L), devNe s r]
def tbJ (n : Int) (L M : List Int) (t : ByteArray) : ByteArray := sayS (sayS (sayS t ⟨#[97, 116]⟩) (numS n)) (bothS (atS L n.toNat) (atS M n.toNat))
def tlJ (n : Int) (t : ByteArray) : ByteArray := sayS (sayS t ⟨#[97, 116]⟩) (numS n)
def tnJ (a b : Int) (t : ByteArray) : ByteArray := sayS t (bothS (numS a) (numS b))
def tsJ (x : Nat → Int) (h : Bool) (y : Nat → Int) (g : Bool) (k : Nat) (t : ByteArray) : ByteArray := sayS (sayS t ⟨(nameJ k).toArray⟩) (bothS (numS (valJ x h k)) (numS (valJ y g k)))
/-- What each part tells. -/
noncomputable def tlsJ (s r : SvR) (x : Nat → Int) (h : Bool) (y : Nat → Int) (g : Bool) : List (ByteArray → ByteArray) :=
  [tnJ s.fr r.fr, tnJ s.st r.st, tsJ x h y g ((diffJ x h y g 19).headD 0), tbJ (firstL s.mem.L r.mem.L) s.mem.L r.mem.L, tlJ (firstE s.notes.L r.notes.L), tbJ (firstL s.out.L r.out.L) s.out.L r.out.L, tbJ (firstL s.disk.L r.disk.L) s.disk.L r.disk.L, tbJ (firstL s.queue.L r.queue.L) s.queue.L r.queue.L, tlJ (firstE s.script.L r.script.L), id]
def telling : List ByteArray → List Bool → List (ByteArray → ByteArray) → ByteArray
  | n :: ns, d :: ds, X :: Xs => if d = true then X n else telling ns ds Xs
  | _, _, _ => ⟨#[]⟩
def selJ : List ByteArray → List Bool → List ByteArray
  | n :: ns, d :: ds => if d = true then n :: selJ ns ds else selJ ns ds
  | _, _ => []
theorem tellM_eq : ∀ E : List PEnt, tellM E = telling (E.map PEnt.nm) (E.map PEnt.d) (E.map PEnt.X)
  | [] => rfl
  | p :: l => by
    simp only [tellM, List.map_cons, telling, tellM_eq l]
theorem selJ_app : ∀ (l l' : List ByteArray) (d d' : List Bool), l.length = d.length → selJ (l ++ l') (d ++ d') = selJ l d ++ selJ l' d'
  | [], _, [], _, _ => rfl
  | n :: l, l', b :: d, d', h => by
    simp at h
    simp only [List.cons_append, selJ, selJ_app l l' d d' h]
    split <;> simp
  | [], _, _ :: _, _, h => by simp at h
  | _ :: _, _, [], _, h => by simp at h
abbrev selE (E : List PEnt) : List ByteArray := selJ (E.map PEnt.nm) (E.map PEnt.d)
theorem selE_step {E : List PEnt} {k : Nat} {p : PEnt} (h : E[k]? = some p) : selE (E.take (k + 1)) = selE (E.take k) ++ if p.d = true then [p.nm] else [] := by
  obtain ⟨hlt, rfl⟩ := List.getElem?_eq_some_iff.1 h
  unfold selE
  rw [List.take_succ_eq_append_getElem hlt, List.map_append, List.map_append, selJ_app _ _ _ _ (by simp)]
  rfl
theorem selJ_len : ∀ (l : List ByteArray) (d : List Bool), (selJ l d).length ≤ l.length
  | n :: l, b :: d => by
    have := selJ_len l d
    simp only [selJ]
    split
    · simp; omega
    · simp; omega
  | [], _ => by simp [selJ]
  | _ :: _, [] => by simp [selJ]

/-- What is told of two guests. -/
structure GsOk (s : SvR) (x : Nat → Int) (h : Bool) (w : World) : Prop where
  ok : SvOk s w
  S : s.S = stJ x h
  x : ∀ k, 0 ≤ x k ∧ x k < 4294967296
theorem GsOk.below {s : SvR} {x : Nat → Int} {h : Bool} {w w' : World} (H : GsOk s x h w) (hb : Below w.heap.size w w') : GsOk s x h w' := ⟨H.ok.below hb, H.S, H.x⟩

theorem firstE_bd (L M : List (List Value)) : -1 ≤ firstE L M ∧ firstE L M ≤ max L.length M.length := @firstL_bd _ (Classical.typeDecidableEq _) L M

set_option maxHeartbeats 4000000 in
theorem partsE_c (A B : Array Value) (s r : SvR) (hA : SvAt A s) (hB : SvAt B r) (x : Nat → Int) (h : Bool) (y : Nat → Int) (g : Bool) (w : World) (hs : GsOk s x h w) (hr : GsOk r y g w) (HT : Hid (pTab w)) :
    Calls Tryd.prog 30 #[.agg A, .agg B] w fun e w' => ∃ (g0 : Nat) (E : List PEnt), e = .returned (.slice (some ⟨g0, 0, none⟩) 10 10) ∧ (E.map PEnt.nm = nmJ ∧ E.map PEnt.d = dlJ s r x h y g ∧ E.map PEnt.X = tlsJ s r x h y g) ∧ E.length = 10 ∧ w.heap.size ≤ g0 ∧
      w'.heap[g0]? = some (.cells (E.flatMap PEnt.cells).toArray 63 (0, 0)) ∧ (∀ p ∈ E, p.nm.size ≤ 100) ∧ (∀ p ∈ E, p.d = true → Tells p w') ∧ Below w.heap.size w w' := by
  refine (parts_c A B s r hA hB w hs.ok hr.ok (decide (0 < (diffJ x h y g 19).length)) (Qst x h y g) (fun fn caps W W' => Qst.next) (fun W' hb' => ?_)).mono ?_
  · rw [hs.S, hr.S]
    exact statesP_c x h y g hs.x hr.x W' (pTab_on HT hb')
  rintro e w' ⟨g0, C0, C1, C2, C3, C4, C5, C6, C7, C8, C9, rfl, hg, hrow, ⟨f0, c0, rfl, q0⟩, ⟨f1, c1, rfl, q1⟩, ⟨f2, c2, rfl, q2⟩, ⟨f3, c3, rfl, q3⟩, ⟨f4, c4, rfl, q4⟩, ⟨f5, c5, rfl, q5⟩, ⟨f6, c6, rfl, q6⟩, ⟨f7, c7, rfl, q7⟩, ⟨f8, c8, rfl, q8⟩, ⟨f9, c9, rfl, q9⟩, hb⟩
  have HTw := pTab_on HT hb
  have os := hs.ok.below hb
  have or' := hr.ok.below hb
  have nb : ∀ {a b : BSl}, a.ok w' → b.ok w' → 0 ≤ firstL a.L b.L → ∃ n : Nat, firstL a.L b.L = (n : Int) ∧ n < 9223372036854775808 := fun {a b} ha hb h0 => by
    have h1 := (firstL_bd a.L b.L).2
    have e1 : a.L.length = a.len := ha.1
    have e2 : b.L.length = b.len := hb.1
    have := ha.2.1; have := ha.2.2.1; have := hb.2.1; have := hb.2.2.1
    exact ⟨(firstL a.L b.L).toNat, by omega, by omega⟩
  have ne : ∀ {a b : ESl} {k1 k2 : List CK}, a.ok k1 w' → b.ok k2 w' → 0 ≤ firstE a.L b.L → ∃ n : Nat, firstE a.L b.L = (n : Int) ∧ n < 9223372036854775808 := fun {a b k1 k2} ha hb h0 => by
    have h1 := (firstE_bd a.L b.L).2
    have e1 : a.L.length = a.len := ha.1
    have e2 : b.L.length = b.len := hb.1
    have := ha.2.1; have := ha.2.2.1; have := hb.2.1; have := hb.2.2.1
    exact ⟨(firstE a.L b.L).toNat, by omega, by omega⟩
  have tb : ∀ {a b : BSl} {fn : Nat} {caps : Array Value} (nm : ByteArray), a.ok w' → b.ok w' → Qbytes a.v b.v (firstL a.L b.L) fn caps w' → decide (0 ≤ firstL a.L b.L) = true → Tells ⟨nm, decide (0 ≤ firstL a.L b.L), fn, caps, tbJ (firstL a.L b.L) a.L b.L⟩ w' := fun {a b fn caps} nm ha hb q hd => by
    obtain ⟨n, hn, hlt⟩ := nb ha hb (by simpa using hd)
    rw [hn] at q ⊢
    exact tells_bytes nm _ hlt q ha hb HTw
  have tl : ∀ {a b : ESl} {k1 k2 : List CK} {fn : Nat} {caps : Array Value} (nm : ByteArray), a.ok k1 w' → b.ok k2 w' → Qlist (firstE a.L b.L) fn caps w' → decide (0 ≤ firstE a.L b.L) = true → Tells ⟨nm, decide (0 ≤ firstE a.L b.L), fn, caps, tlJ (firstE a.L b.L)⟩ w' := fun {a b k1 k2 fn caps} nm ha hb q hd => by
    obtain ⟨n, hn, hlt⟩ := ne ha hb (by simpa using hd)
    rw [hn] at q ⊢
    exact tells_list nm _ hlt q HTw
  refine ⟨g0, [⟨⟨#[102, 114, 97, 109, 101, 115]⟩, s.fr != r.fr, f0, c0, tnJ s.fr r.fr⟩, ⟨⟨#[115, 116, 101, 112, 115]⟩, s.st != r.st, f1, c1, tnJ s.st r.st⟩, ⟨⟨#[115, 116, 97, 116, 101]⟩, decide (0 < (diffJ x h y g 19).length), f2, c2, tsJ x h y g ((diffJ x h y g 19).headD 0)⟩, ⟨⟨#[109, 101, 109]⟩, decide (0 ≤ firstL s.mem.L r.mem.L), f3, c3, tbJ (firstL s.mem.L r.mem.L) s.mem.L r.mem.L⟩, ⟨⟨#[110, 111, 116, 101, 115]⟩, decide (0 ≤ firstE s.notes.L r.notes.L), f4, c4, tlJ (firstE s.notes.L r.notes.L)⟩, ⟨⟨#[111, 117, 116]⟩, decide (0 ≤ firstL s.out.L r.out.L), f5, c5, tbJ (firstL s.out.L r.out.L) s.out.L r.out.L⟩, ⟨⟨#[100, 105, 115, 107]⟩, decide (0 ≤ firstL s.disk.L r.disk.L), f6, c6, tbJ (firstL s.disk.L r.disk.L) s.disk.L r.disk.L⟩, ⟨⟨#[113, 117, 101, 117, 101]⟩, decide (0 ≤ firstL s.queue.L r.queue.L), f7, c7, tbJ (firstL s.queue.L r.queue.L) s.queue.L r.queue.L⟩, ⟨⟨#[115, 99, 114, 105, 112, 116]⟩, decide (0 ≤ firstE s.script.L r.script.L), f8, c8, tlJ (firstE s.script.L r.script.L)⟩, ⟨⟨#[100, 101, 118, 105, 99, 101, 115]⟩, devNe s r, f9, c9, id⟩], rfl, ⟨rfl, rfl, rfl⟩, rfl, hg, hrow, ?_, ?_, hb⟩
  · intro p hp
    simp only [List.mem_cons, List.not_mem_nil, or_false] at hp
    rcases hp with rfl | rfl | rfl | rfl | rfl | rfl | rfl | rfl | rfl | rfl <;> (dsimp only; decide)
  · intro p hp
    simp only [List.mem_cons, List.not_mem_nil, or_false] at hp
    rcases hp with rfl | rfl | rfl | rfl | rfl | rfl | rfl | rfl | rfl | rfl
    · exact fun _ => tells_num _ _ q0 HTw os.fr0 os.fr1 or'.fr0 or'.fr1
    · exact fun _ => tells_num _ _ q1 HTw os.st0 os.st1 or'.st0 or'.st1
    · intro hd
      have hd : 0 < (diffJ x h y g 19).length := by simpa using hd
      refine tells_state _ _ hs.x hr.x _ ?_ q2 HTw
      generalize diffJ x h y g 19 = D at hd
      cases D
      · simp at hd
      · rfl
    · exact tb _ os.mem or'.mem q3
    · exact tl _ os.notes or'.notes q4
    · exact tb _ os.out or'.out q5
    · exact tb _ os.disk or'.disk q6
    · exact tb _ os.queue or'.queue q7
    · exact tl _ os.script or'.script q8
    · exact fun _ => tells_dev _ _ q9

theorem tellG_c (A B : Array Value) (s r : SvR) (hA : SvAt A s) (hB : SvAt B r) (x : Nat → Int) (h : Bool) (y : Nat → Int) (g : Bool) (w : World) (hs : GsOk s x h w) (hr : GsOk r y g w) (HT : Hid (pTab w)) :
    Calls Tryd.prog 22 #[.agg A, .agg B] w fun e w' => e = .returned (.string (telling nmJ (dlJ s r x h y g) (tlsJ s r x h y g))) ∧ Below w.heap.size w w' :=
  tell_c A B hA.size hB.size w (fun E => E.map PEnt.nm = nmJ ∧ E.map PEnt.d = dlJ s r x h y g ∧ E.map PEnt.X = tlsJ s r x h y g) _ (fun E hE => by rw [tellM_eq, hE.1, hE.2.1, hE.2.2])
    (fun W hb => partsE_c A B s r hA hB x h y g W (hs.below hb) (hr.below hb) (pTab_on HT hb))

set_option maxHeartbeats 8000000 in
theorem Parts_c (A B : Array Value) (s r : SvR) (hA : SvAt A s) (hB : SvAt B r) (x : Nat → Int) (h : Bool) (y : Nat → Int) (g : Bool) (w : World) (hs : GsOk s x h w) (hr : GsOk r y g w) (HT : Hid (pTab w)) :
    Calls Tryd.prog 19 #[.agg A, .agg B] w fun e w' => ∃ v, e = .returned v ∧ w'.ownsRow w.heap.size 9 1 v (selJ nmJ (dlJ s r x h y g)).length ((selJ nmJ (dlJ s r x h y g)).map Value.string) ∧ Below w.heap.size w w' := by
  obtain ⟨i0, hi, hz0, hz1, hz2⟩ := info_parts Tryd.infoStr
  have HPP := Lib.hid fun (W : World) (hb : Below w.heap.size w W) => partsE_c A B s r hA hB x h y g W (hs.below hb) (hr.below hb) (pTab_on HT hb)
  have Z1 := Lib.hid hA.size
  have Z2 := Lib.hid hB.size
  clear hs hr hA hB
  generalize dlJ s r x h y g = dl at HPP ⊢
  generalize tlsJ s r x h y g = ts at HPP ⊢
  go_enter Tryd.func19, Tryd.ntmps19
  go_wp2_with (first
    | ((with_reducible show wpList _ _ _ (Oper.mk _ (.load 30 _) _ _ _ _ :: _) _ _); refine wpList_load_row rfl 30 _ rfl _ rfl 30 _ (0, 0) _ (by first | (refine heap_new' ?_; simp; done) | (refine heap_old' (heap_new' ?_); simp; done)) Tryd.underlying30 rfl (by first | (rw [Z1.out]; kernel_rfl) | (rw [Z2.out]; kernel_rfl)) ?_))
  refine (HPP.out _ ((below_alloc1 _ _).alloc (by simp) _)).mono ?_
  rintro e w1 ⟨g0, E, rfl, ⟨hE1, hE2, hE3⟩, hlen, hg, hrow, hnm, hT, hb1⟩
  have hsel : selE E = selJ nmJ dl := by unfold selE; rw [hE1, hE2]
  have HSel := Lib.hid hsel
  have hl10 : ∀ k, (selE (E.take k)).length ≤ 10 := fun k => by
    have h1 := selJ_len ((E.take k).map PEnt.nm) ((E.take k).map PEnt.d)
    have h2 : ((E.take k).map PEnt.nm).length ≤ 10 := by rw [List.length_map, List.length_take, hlen]; omega
    exact Nat.le_trans h1 h2
  clear HPP hE1 hE2 hE3 hsel hT
  have B1 : Below w.heap.size w w1 := below_nextJ ((below_alloc1 _ _).alloc (by simp) _) hb1
  have HR := Lib.hid hrow
  have HL := Lib.hid hlen
  have HL10 := Lib.hid hl10
  clear hrow hlen hb1 hg hnm hl10
  go_wp2_with fail
  go_loopg [5, 12] 10 (fun gk v5 vk wr => ∃ k : Nat, gk + k = 10 ∧ vk = .int .i64 (k : Int) ∧ wr.ownsRow w1.heap.size 9 1 v5 (selE (E.take k)).length ((selE (E.take k)).map Value.string) ∧ Below w1.heap.size w1 wr)
  case atStart => exact ⟨0, rfl, rfl, ⟨rfl, .inl ⟨rfl, rfl⟩⟩, Below.refl _ _⟩
  case round =>
    obtain ⟨k, hk, rfl, own5, hB⟩ := hrel
    by_cases c1 : k < 10
    · have i1 : (k : Int) < 10 := by omega
      obtain ⟨p, hp⟩ : ∃ p, E[k]? = some p := ⟨_, List.getElem?_eq_getElem (by rw [HL.out]; exact c1)⟩
      have hrow := (hB.block g0 (lt_of_rowJ HR.out)).trans HR.out
      have x0 := (cell_of_row wr g0 (k * 3 + 0) _ _ _ hrow).trans (by simpa using flat3 E k p hp 0 (by decide))
      have x1 := (cell_of_row wr g0 (k * 3 + 1) _ _ _ hrow).trans (by simpa using flat3 E k p hp 1 (by decide))
      have x2 := (cell_of_row wr g0 (k * 3 + 2) _ _ _ hrow).trans (by simpa using flat3 E k p hp 2 (by decide))
      have hgr := lt_of_rowJ hrow
      have htk := Lib.hid (selE_step hp)
      have hl10 := HL10.out k
      clear hrow hp
      obtain ⟨nm, d, fn, caps, X⟩ := p
      simp [PEnt.cells] at x0 x1 x2
      generalize selE (E.take k) = l at own5 htk hl10
      have hsz := hB.size
      have ownA := own5.alloc (.cells #[.string nm, .bool d, .func (.func fn) #[] caps] 63)
      have hBA := hB.alloc hsz (.cells #[.string nm, .bool d, .func (.func fn) #[] caps] 63)
      have hsA : w1.heap.size ≤ (wr.alloc (.cells #[.string nm, .bool d, .func (.func fn) #[] caps] 63)).heap.size := by simp; omega
      cases d
      · go_wp2_with fail
        go_roundg (gk - 1)
        case measure => omega
        case rel => exact ⟨k + 1, by omega, by go_num, by rw [htk.out]; simpa using ownA, hBA⟩
      · go_wp2_with (first | (at_builtin; refine wpList_append_own _ rfl _ _ 38 rfl w1.heap.size 9 i0 _ 1 16 Tryd.underlying38 hi hz0 hz1 hz2 rfl (by decide) _ _ _ rfl (ownA.alloc _) _ 1 1 [.string nm] rfl rfl (cells_newJ _ _ _ _ (by simp)) (by simp [Value.oneCell']) (by unfold maxLen; omega) (by omega) (by first | (simp; done) | (simp; omega)) ?_; intro v4 w4 own4 gr4 _; obtain ⟨hB4, hs4⟩ := own_nextJ hBA hsA ownA gr4; clear gr4))
        go_roundg (gk - 1)
        case measure => omega
        case rel => exact ⟨k + 1, by omega, by go_num, by rw [htk.out]; simpa using own4, hB4⟩
    · have i1 : ¬ (k : Int) < 10 := by omega
      obtain rfl : k = 10 := by omega
      rw [List.take_of_length_le (by rw [HL.out]; omega)] at own5
      rw [HSel.out] at own5
      go_wp2_with fail
      go_ret
      exact ⟨_, rfl, own_low B1.size own5, B1.trans (hB.mono B1.size)⟩
end Go.Proofs.YtjnakhejdpkfnaaDoor
