/- The walks of the document's value and instruction. (Written by mkTH.py.) The walk of the document's laid. (Written by mkTI.py.) -/
import Derived.Test.YtgfljokamgbcaaaGreatDoorTeQ
import Derived.Test.YtgfljokamgbcaaaGreatDoorTeP
import Derived.Test.YtgfljokamgbcaaaGreatDoorRefE
import Derived.Test.YtgfljokamgbcaaaGreatDoorAsO
namespace Go.Proofs.YtgfljokamgbcaaaGreatDoor
open Go.RowKit
set_option linter.unusedSimpArgs false
set_option linter.unusedVariables false
set_option maxRecDepth 100000

def valV : Except Int Int → Value
  | .ok v => .tuple #[.int .u32 (v % 4294967296), .int .i64 0]
  | .error e => .tuple #[.int .u32 0, .int .i64 e]
set_option maxHeartbeats 4000000 in
theorem valueR_c (ao : Option Addr) (cap : Nat) (lb : List (Wd × Int)) (s : Wd) (w : World) (hI : PairsIn labA w ao lb) (hl : lb.length ≤ 100000) (hc : lb.length ≤ cap) (hm : cap ≤ maxLen) (hne : s ≠ []) (hs : s.length ≤ 10000) (hlb : ∀ p ∈ lb, 0 ≤ p.2 ∧ p.2 ≤ 4096) :
    Calls Tryz.prog 62 #[.slice ao lb.length cap, .string ⟨s.toArray⟩] w fun e w' => e = .returned (valV (valueD lb s)) ∧ w' = w := by
  obtain ⟨c0, r, rfl⟩ : ∃ c r, s = c :: r := by
    cases s with
    | nil => exact absurd rfl hne
    | cons c r => exact ⟨c, r, rfl⟩
  have HL := Lib.hid letterR_c
  have HF := Lib.hid (findR_c ao cap lb (c0 :: r) w hI hl hc hm)
  have HN := Lib.hid (numR_c (c0 :: r) (by omega) w)
  have sz := ba_size (c0 :: r)
  have e0 := ba_get (c0 :: r) 0 c0 rfl
  have i0 : 0 < (c0 :: r).length := by simp
  obtain ⟨RR, hRR⟩ : ∃ RR, valueD lb (c0 :: r) = RR := ⟨_, rfl⟩
  rw [hRR]
  unfold valueD at hRR
  rw [List.headD_cons] at hRR
  have HR := Lib.hid hRR
  have hfd : ∀ v, findL lb (c0 :: r) = some v → 0 ≤ v ∧ v ≤ 4096 := fun v hv => by
    obtain ⟨p, hp, rfl⟩ := find_mem hv
    exact hlb p hp
  have hbd := fun v => @numF_bds (c0 :: r) v
  clear hRR hI hlb hne
  generalize hsb : (⟨(c0 :: r).toArray⟩ : ByteArray) = sb at HF HN sz e0 ⊢
  generalize findL lb (c0 :: r) = fl at HF HR hfd
  generalize hnf : numF (c0 :: r) = nf at HR hbd
  have HNF := Lib.hid hnf
  generalize (c0 :: r).length = len at *
  clear hsb hnf
  have i1 : (0 : Int) < (len : Int) := by omega
  have i2 : 0 < sb.size := by omega
  go_enter Tryz.func62, Tryz.ntmps62
  go_wp2_with fail
  refine (HL.out c0 _).mono ?_
  rintro e w1 ⟨rfl, rfl⟩
  cases hl0 : letterB c0
  · have HR1 := Lib.hid (show (match (generalizing := false) nf with | some v => Except.ok v | none => .error 41) = RR by have h := HR.out; rw [hl0, if_neg Bool.false_ne_true] at h; rw [← h]; cases nf <;> rfl)
    clear HR HF hfd
    go_wp2_with fail
    refine HN.out.mono ?_
    rintro e w2 ⟨hw2, n, rfl, hn⟩
    have hw2 := hw2.symm
    subst hw2
    rw [HNF.out] at hn ⊢
    cases nf with
    | none =>
      obtain rfl : RR = .error 41 := HR1.out.symm
      clear HR1 hn hbd HN HNF
      rw [show (none : Option Int).isSome = false from rfl]
      go_wp2_with fail
      refine bodyPost_ret (v := valV (.error 41)) (by simp [results, Tryz.results62, go_sem, valV]) rfl ⟨rfl, rfl⟩
    | some v =>
      obtain rfl := hn v rfl
      obtain rfl : RR = .ok n := HR1.out.symm
      obtain ⟨v0, v1⟩ := hbd n rfl
      have hw32 : IntKind.u32.wrap n = n % 4294967296 := by simp [IntKind.wrap, IntKind.bits, IntKind.signed]
      clear HR1 hn hbd HN HNF
      rw [show (some n : Option Int).isSome = true from rfl]
      go_wp2_with fail
      refine bodyPost_ret (v := valV (.ok n)) (by simp [results, Tryz.results62, go_sem, valV]) rfl ⟨rfl, rfl⟩
  · have HR1 := Lib.hid (show (match (generalizing := false) fl with | some v => Except.ok v | none => .error 310) = RR by have h := HR.out; rw [hl0, if_pos rfl] at h; rw [← h]; cases fl <;> rfl)
    clear HR HN hbd HNF
    go_wp2_with fail
    refine HF.out.mono ?_
    rintro e w2 ⟨rfl, hw2⟩
    have hw2 := hw2.symm
    subst hw2
    cases fl with
    | none =>
      obtain rfl : RR = .error 310 := HR1.out.symm
      clear HR1 HF hfd
      rw [show (none : Option Int).getD (-1) = -1 from rfl]
      go_wp2_with fail
      refine bodyPost_ret (v := valV (.error 310)) (by simp [results, Tryz.results62, go_sem, valV]) rfl ⟨rfl, rfl⟩
    | some v =>
      obtain rfl : RR = .ok v := HR1.out.symm
      obtain ⟨v0, v1⟩ := hfd v rfl
      have hw32 : IntKind.u32.wrap v = v % 4294967296 := by simp [IntKind.wrap, IntKind.bits, IntKind.signed]
      have nv : ¬ v < 0 := by omega
      clear HR1 HF hfd
      rw [show (some v : Option Int).getD (-1) = v from rfl]
      go_wp2_with fail
      refine bodyPost_ret (v := valV (.ok v)) (by simp [results, Tryz.results62, go_sem, valV]) rfl ⟨rfl, rfl⟩

theorem join_snocD {l : List Wd} (h : l ≠ []) (x : Wd) : joinF (l ++ [x]) = joinF l ++ ([32] ++ x) := by
  cases l with
  | nil => exact absurd rfl h
  | cons a r => simp [joinF, List.flatMap_append]
theorem join_takeD {l : List Wd} {k : Nat} {x : Wd} (hk : 1 ≤ k) (h : l[k]? = some x) : joinF (l.take (k + 1)) = joinF (l.take k) ++ ([32] ++ x) := by
  have hlt := (List.getElem?_eq_some_iff.1 h).1
  rw [List.take_add_one, h, ← join_snocD (by intro e; have := congrArg List.length e; rw [List.length_take, List.length_nil] at this; omega)]
  rfl
/-- Is the last word a label's place? -/
def lastP (l : List Wd) (op : Int) : Prop := ((jumpB op = true ∧ l.length = 2) ∨ (op = 32 ∧ l.length = 3)) ∧ letterB ((l.getD (l.length - 1) []).headD 0) = true
theorem lastD_no {lb : List (Wd × Int)} {l : List Wd} {op a : Int} (h : ¬ lastP l op) : lastD lb l op a = .ok l := if_neg h
theorem lastD_yes {lb : List (Wd × Int)} {l : List Wd} {op a : Int} (h : lastP l op) : lastD lb l op a = match findL lb (l.getD (l.length - 1) []) with
    | none => .error 310
    | some v => if jumpB op = true then (if v - a - 3 < -32768 ∨ 32767 < v - a - 3 then .error 311 else .ok (l.take (l.length - 1) ++ [Lib.itoa (v - a - 3)]))
      else .ok (l.take (l.length - 1) ++ [Lib.itoa v]) := if_pos h
theorem itoa_short {n : Int} (h0 : -1000000 ≤ n) (h1 : n ≤ 1000000) : (Lib.itoa n).length ≤ 10000 := by
  unfold Lib.itoa
  split
  · have := dec_lenR 9 n.natAbs (by omega)
    simp
    omega
  · have := dec_lenR 9 n.toNat (by omega)
    omega
theorem lastD_short {lb : List (Wd × Int)} {l l' : List Wd} {op a : Int} (hlb : ∀ p ∈ lb, 0 ≤ p.2 ∧ p.2 ≤ 4096) (ha : 0 ≤ a ∧ a ≤ 4096) (h : lastD lb l op a = .ok l') (hl : ∀ s ∈ l, s.length ≤ 10000) : (∀ s ∈ l', s.length ≤ 10000) ∧ l'.length ≤ l.length ∧ (l ≠ [] → ∃ rest, l' = (l.headD []) :: rest) := by
  by_cases hp : lastP l op
  · have hle : 2 ≤ l.length := by obtain ⟨h1 | h1, -⟩ := hp <;> omega
    have key : ∀ n : Int, -1000000 ≤ n → n ≤ 1000000 → l' = l.take (l.length - 1) ++ [Lib.itoa n] → (∀ s ∈ l', s.length ≤ 10000) ∧ l'.length ≤ l.length ∧ (l ≠ [] → ∃ rest, l' = (l.headD []) :: rest) := by
      rintro n h0 h1 rfl
      refine ⟨fun s hs => ?_, by simp; omega, fun _ => ?_⟩
      · rcases List.mem_append.1 hs with hs | hs
        · exact hl s (List.mem_of_mem_take hs)
        · have : s = Lib.itoa n := by simpa using hs
          rw [this]
          exact itoa_short h0 h1
      · cases l with
        | nil => simp at hle
        | cons x r =>
          cases r with
          | nil => simp at hle
          | cons y t => exact ⟨_, rfl⟩
    rw [lastD_yes hp] at h
    cases hf : findL lb (l.getD (l.length - 1) []) with
    | none => rw [hf] at h; cases h
    | some v =>
      obtain ⟨p, hpm, rfl⟩ := find_mem hf
      have := hlb p hpm
      rw [hf] at h
      simp only at h
      split at h
      · split at h
        · cases h
        · cases h
          exact key _ (by omega) (by omega) rfl
      · cases h
        exact key _ (by omega) (by omega) rfl
  · rw [lastD_no hp] at h
    cases h
    exact ⟨hl, Nat.le_refl _, fun hn => by cases l with | nil => exact absurd rfl hn | cons x r => exact ⟨r, rfl⟩⟩
/-- What 'instruction' and 'laid' hand back. -/
def LaidQ (r : Except Int (List Int)) (w : World) (e : Ending) (w' : World) : Prop := Below w.heap.size w w' ∧ match r with
  | .ok b => ∃ v, e = .returned (.tuple #[v, .int .i64 0]) ∧ w'.ownsRow w.heap.size 5 1 v b.length (b.map (Value.int .u8))
  | .error er => e = .returned (.tuple #[.slice none 0 0, .int .i64 er])
theorem own_lowH {w : World} {base base' n s : Nat} {e : TypeId} {v : Value} {xs : List Value} (h : w.ownsRow base e s v n xs) (hb : base' ≤ base) : w.ownsRow base' e s v n xs := Isa.ownsRow_mono h hb
theorem read_errD {L : List UInt8} {e : Int} (h : readF L = .error e) : e = 40 ∨ e = 41 := by
  have ho : ∀ n ws e, ofF n ws = .error e → e = 40 ∨ e = 41 := fun n ws e h => by
    unfold ofF at h
    split at h
    · cases hA : oA n ws with
      | none => rw [hA] at h; cases h; exact .inl rfl
      | some a =>
        rw [hA] at h
        simp only at h
        cases hB : oB n ws with
        | none => rw [hB] at h; cases h; exact .inl rfl
        | some b =>
          rw [hB] at h
          simp only at h
          split at h
          · cases hN : numF (ws.getD (pI n) []) with
            | none => rw [hN] at h; cases h; exact .inr rfl
            | some i =>
              rw [hN] at h
              simp only at h
              split at h
              · cases h
              · cases h; exact .inr rfl
          · cases h
    · cases h; exact .inl rfl
  unfold readF at h
  split at h
  · cases h; exact .inl rfl
  · split at h
    · cases h; exact .inl rfl
    · rename_i n hn
      split at h
      · rename_i e2 he
        cases h
        exact ho _ _ _ he
      · cases h
theorem ba_joinD (s x : List UInt8) : (⟨s.toArray⟩ : ByteArray) ++ ⟨#[32]⟩ ++ ⟨x.toArray⟩ = ⟨(s ++ ([32] ++ x)).toArray⟩ := by
  rw [show (⟨#[32]⟩ : ByteArray) = ⟨[32].toArray⟩ from rfl, ba_app, ba_app, List.append_assoc]
set_option maxHeartbeats 8000000 in
theorem instrR_lo (aol : Option Addr) (capl : Nat) (lb : List (Wd × Int)) (ao : Option Addr) (cap : Nat) (l : List Wd) (a op : Int) (w : World) (hI : PairsIn labA w aol lb) (hll : lb.length ≤ 100000) (hlc : lb.length ≤ capl) (hlm : capl ≤ maxLen) (hlb : ∀ p ∈ lb, 0 ≤ p.2 ∧ p.2 ≤ 4096)
    (hl : LnOk w ao l cap) (hne : l ≠ []) (hln : l.length ≤ 10000) (a0 : 0 ≤ a) (a1 : a ≤ 4096) (hop : opF (l.headD []) = some op) (hc1 : op < 64) (h32 : op ≠ 32) :
    Calls Tryz.prog 63 #[.slice aol lb.length capl, .slice ao l.length cap, .int .i64 a] w (LaidQ (instrD lb l op a) w) := by
  obtain ⟨x0, hx0, hxh⟩ : ∃ x, l[0]? = some x ∧ l.headD [] = x := by
    cases l with
    | nil => exact absurd rfl hne
    | cons y r => exact ⟨y, rfl, rfl⟩
  obtain ⟨blk, off, rfl, hblk, y0⟩ := wd_at hl.inn hx0
  rw [Nat.add_zero] at y0
  have hle := hl.le
  have hcap := hl.cap
  have hl0 : 0 < l.length := (List.getElem?_eq_some_iff.1 hx0).1
  have i0 : (0 : Int) < (l.length : Int) := by omega
  have hx0l := (hl.each x0 (List.mem_of_getElem? hx0)).2
  have HOp := Lib.hid (operation_c x0 (by omega) w)
  rw [show opF x0 = some op from hxh ▸ hop, show (some op : Option Int).getD (-1) = op from rfl] at HOp
  have HOP := Lib.hid hop
  have HSH := Lib.hid (fun l' (h : lastD lb l op a = .ok l') => by
    obtain ⟨q1, q2, q3⟩ := lastD_short hlb ⟨a0, a1⟩ h (fun s hs => (hl.each s hs).2)
    exact (show (∀ s ∈ l', s.length ≤ 10000) ∧ l'.length ≤ l.length ∧ ∃ rest, l' = (l.headD []) :: rest from ⟨q1, q2, q3 hne⟩))
  have HL := Lib.hid hl
  have HP := Lib.hid hI
  have HLt := Lib.hid letterR_c
  have HX0 := Lib.hid (show joinF (l.take 1) = x0 by
    cases l with
    | nil => exact absurd rfl hne
    | cons y r =>
      have : y = x0 := by simpa using hx0
      rw [this]; simp [joinF])
  obtain ⟨⟨op0, op1⟩, h255⟩ : (0 ≤ op ∧ op < 256) ∧ True := by
    obtain ⟨n, hn, -, rfl, -⟩ := opF_is hop
    exact ⟨(nmW_of hn).2, trivial⟩
  have hwo : IntKind.u8.wrap op = op := IntWalk.u8_in _ (by omega)
  have hwl : IntKind.i64.wrap ((l.length : Int) - 1) = (l.length : Int) - 1 := IntWalk.i64_in _ ⟨by omega, by omega⟩
  have hjb : ¬ jumpB op = true := by simp [jumpB]; omega
  have c64 : ¬ 64 ≤ op := by omega
  have e32 : (op == 32) = false := by simpa using h32
  clear hx0 hxh hl hI hop
  go_enter Tryz.func63, Tryz.ntmps63
  go_wp2_with fail
  refine HOp.out.mono ?_
  rintro e w1 ⟨rfl, hb1⟩
  have y0' := (hb1.cell (p := ⟨blk, off, none⟩) hblk).trans y0
  have hs1 := hb1.size
  clear HOp
  go_wp2_with fail
  have HB1 := Lib.hid hb1
  have HWD := Lib.hid (fun (k : Nat) (x : Wd) (h : l[k]? = some x) => (show w.cell? ⟨blk, off + k, none⟩ = some (.string ⟨x.toArray⟩) by
    obtain ⟨b2, o2, he, -, hc⟩ := wd_at HL.out.inn h
    cases he
    exact hc))
  clear hb1 y0 y0'
  go_loopg [10, 11] (l.length - 1) (fun gk v10 v11 wr => ∃ (k : Nat) (sl : List UInt8), gk + k = l.length ∧ 1 ≤ k ∧ v11 = .int .i64 (k : Int) ∧ v10 = .string ⟨sl.toArray⟩ ∧ Hid (if k < l.length then sl = joinF (l.take k) else ∃ l', lastD lb l op a = .ok l' ∧ sl = joinF l') ∧ sl.length ≤ 10001 * k ∧ Hid (Below w.heap.size w wr) ∧ w.heap.size ≤ wr.heap.size)
  case atStart => exact ⟨1, x0, by omega, by omega, rfl, rfl, Lib.hid (by
    by_cases h1 : 1 < l.length
    · rw [if_pos h1, HX0.out]
    · rw [if_neg h1]
      exact ⟨l, lastD_no (fun hp => by rcases hp.1 with h | h <;> omega), by rw [← HX0.out, List.take_of_length_le (by omega)]⟩), by omega, HB1, hs1⟩
  case round =>
    obtain ⟨k, sl, hk, hk1, rfl, rfl, HS, hsll, HB, hsz⟩ := hrel
    have zl := ba_size sl
    by_cases e1 : k < l.length
    · have i1 : (k : Int) < (l.length : Int) := by omega
      obtain ⟨x, hx⟩ : ∃ x, l[k]? = some x := ⟨_, List.getElem?_eq_getElem e1⟩
      have hc := (HB.out.cell (p := ⟨blk, off + k, none⟩) hblk).trans (HWD.out k x hx)
      have hblk' : blk < wr.heap.size := by omega
      obtain ⟨hxn, hxl⟩ := HL.out.each x (List.mem_of_getElem? hx)
      obtain ⟨c0, rx, hxc⟩ : ∃ c r, x = c :: r := by
        cases x with
        | nil => exact absurd rfl hxn
        | cons c r => exact ⟨c, r, rfl⟩
      have hxd : x.headD 0 = c0 := by rw [hxc]; rfl
      have e0x := ba_get x 0 c0 (by rw [hxc]; rfl)
      have zx := ba_size x
      have hx1 : 0 < x.length := by rw [hxc]; simp
      have HSL := Lib.hid (show sl = joinF (l.take k) by have := HS.out; rwa [if_pos e1] at this)
      have HX := Lib.hid hx
      clear hx hxn hxc HS
      rcases Nat.lt_or_ge k (l.length - 1) with e2 | e2
      · have eq2 : ((k : Int) == (l.length : Int) - 1) = false := by simp; omega
        go_wp2_with fail
        go_roundg (gk - 1)
        case measure => omega
        case rel => exact ⟨k + 1, sl ++ ([32] ++ x), by omega, by omega, by go_num, congrArg Value.string (by rw [ba_joinD]), Lib.hid (by rw [if_pos (by omega), join_takeD hk1 HX.out, HSL.out]), by simp; omega, HB, hsz⟩
      · have eq2 : ((k : Int) == (l.length : Int) - 1) = true := by simp; omega
        have HNP := Lib.hid (show ¬ lastP l op from fun hp => by rcases hp.1 with h | h; exact hjb h.1; exact h32 h.1)
        go_wp2_with fail
        go_roundg (gk - 1)
        case measure => omega
        case rel => exact ⟨k + 1, sl ++ ([32] ++ x), by omega, by omega, by go_num, congrArg Value.string (by rw [ba_joinD]), Lib.hid (by rw [if_neg (by omega)]; exact ⟨l, lastD_no HNP.out, by rw [HSL.out, ← join_takeD hk1 HX.out, List.take_of_length_le (by omega)]⟩), by simp; omega, HB, hsz⟩
    · have i1 : ¬ (k : Int) < (l.length : Int) := by omega
      obtain ⟨l', HX, rfl⟩ : ∃ l', lastD lb l op a = .ok l' ∧ sl = joinF l' := by have := HS.out; rwa [if_neg e1] at this
      clear HS hsll zl
      obtain ⟨hs1, hs2, hs3⟩ := HSH.out l' HX
      obtain ⟨rest, hrest⟩ := hs3
      have hjl := join_len l' hs1
      have HRd := Lib.hid (readR_c (joinF l') (by omega))
      have HR := Lib.hid (show instrD lb l op a = (match readF (joinF l') with
          | .error e => .error e
          | .ok (o, a, b, i) => .ok (Isa.encL (Isa.fm o false) o a b i)) by unfold instrD; rw [HX]; rfl)
      have HRF := Lib.hid (fun o a b i (h : readF (joinF l') = .ok (o, a, b, i)) => read_first HOP.out (hrest ▸ h))
      have hzj := ba_size (joinF l')
      have HER := Lib.hid (fun e => @read_errD (joinF l') e)
      generalize (⟨(joinF l').toArray⟩ : ByteArray) = sj at HRd hzj ⊢
      have HRG := Lib.hid (fun o a b i (h : readF (joinF l') = .ok (o, a, b, i)) => read_bounds h)
      generalize readF (joinF l') = rf at HRd HRF HR HER HRG
      clear hs1 hs2 hrest HX
      go_wp2_with fail
      refine (HRd.out _).mono ?_
      rintro e w4 ⟨rfl, hb4⟩
      cases rf with
      | error er =>
        have HRE := Lib.hid (show instrD lb l op a = .error er from HR.out)
        have hne : (er != 0) = true := by rcases HER.out er rfl with h | h <;> (rw [h]; rfl)
        clear HR HER HRF HRd
        unfold readV insR
        go_wp2_with fail
        refine bodyPost_ret (v := .tuple #[.slice none 0 0, .int .i64 er]) (by simp [results, Tryz.results63, go_sem]) rfl ⟨(HB.out.trans (hb4.mono hsz)).alloc (Nat.le_trans hsz hb4.size) _, by rw [HRE.out]⟩
      | ok t =>
        obtain ⟨o, ra, rb, ri⟩ := t
        obtain ⟨rfl, hmy⟩ := HRF.out _ _ _ _ rfl
        have HRE := Lib.hid (show instrD lb l o a = .ok (Isa.encL (Isa.fm o false) o ra rb ri) from HR.out)
        have hrd := HRG.out _ _ _ _ rfl
        have HEn := Lib.hid (Isa.refEncode_c o ra rb ri false)
        obtain ⟨⟨o0, o1⟩, ⟨p0, p1⟩, ⟨q0, q1⟩, r0, r1⟩ := hrd
        clear HR HER HRF HRd
        unfold readV insR
        go_wp2_with fail
        unfold Isa.insV at HEn
        refine (HEn.out _ o0 o1 p0 (by omega) q0 (by omega) r0 r1 hmy).mono ?_
        rintro e w5 ⟨hb5, v, rfl, hown⟩
        have hsz4 := hb4.size
        go_wp2_with fail
        refine bodyPost_ret (v := .tuple #[v, .int .i64 0]) (by simp [results, Tryz.results63, go_sem]) rfl ⟨((HB.out.trans (hb4.mono hsz)).alloc (Nat.le_trans hsz hsz4) _).trans (hb5.mono (by simp; omega)), by rw [HRE.out]; exact ⟨v, rfl, own_lowH hown (by simp; omega)⟩⟩
set_option maxHeartbeats 8000000 in
theorem instrR_L (aol : Option Addr) (capl : Nat) (lb : List (Wd × Int)) (ao : Option Addr) (cap : Nat) (l : List Wd) (a op : Int) (w : World) (hI : PairsIn labA w aol lb) (hll : lb.length ≤ 100000) (hlc : lb.length ≤ capl) (hlm : capl ≤ maxLen) (hlb : ∀ p ∈ lb, 0 ≤ p.2 ∧ p.2 ≤ 4096)
    (hl : LnOk w ao l cap) (hne : l ≠ []) (hln : l.length ≤ 10000) (a0 : 0 ≤ a) (a1 : a ≤ 4096) (hop : opF (l.headD []) = some op) (h32 : op = 32) :
    Calls Tryz.prog 63 #[.slice aol lb.length capl, .slice ao l.length cap, .int .i64 a] w (LaidQ (instrD lb l op a) w) := by
  obtain ⟨x0, hx0, hxh⟩ : ∃ x, l[0]? = some x ∧ l.headD [] = x := by
    cases l with
    | nil => exact absurd rfl hne
    | cons y r => exact ⟨y, rfl, rfl⟩
  obtain ⟨blk, off, rfl, hblk, y0⟩ := wd_at hl.inn hx0
  rw [Nat.add_zero] at y0
  have hle := hl.le
  have hcap := hl.cap
  have hl0 : 0 < l.length := (List.getElem?_eq_some_iff.1 hx0).1
  have i0 : (0 : Int) < (l.length : Int) := by omega
  have hx0l := (hl.each x0 (List.mem_of_getElem? hx0)).2
  have HOp := Lib.hid (operation_c x0 (by omega) w)
  rw [show opF x0 = some op from hxh ▸ hop, show (some op : Option Int).getD (-1) = op from rfl] at HOp
  have HOP := Lib.hid hop
  have HSH := Lib.hid (fun l' (h : lastD lb l op a = .ok l') => by
    obtain ⟨q1, q2, q3⟩ := lastD_short hlb ⟨a0, a1⟩ h (fun s hs => (hl.each s hs).2)
    exact (show (∀ s ∈ l', s.length ≤ 10000) ∧ l'.length ≤ l.length ∧ ∃ rest, l' = (l.headD []) :: rest from ⟨q1, q2, q3 hne⟩))
  have HL := Lib.hid hl
  have HP := Lib.hid hI
  have HLt := Lib.hid letterR_c
  have HX0 := Lib.hid (show joinF (l.take 1) = x0 by
    cases l with
    | nil => exact absurd rfl hne
    | cons y r =>
      have : y = x0 := by simpa using hx0
      rw [this]; simp [joinF])
  obtain ⟨⟨op0, op1⟩, h255⟩ : (0 ≤ op ∧ op < 256) ∧ True := by
    obtain ⟨n, hn, -, rfl, -⟩ := opF_is hop
    exact ⟨(nmW_of hn).2, trivial⟩
  have hwo : IntKind.u8.wrap op = op := IntWalk.u8_in _ (by omega)
  have hwl : IntKind.i64.wrap ((l.length : Int) - 1) = (l.length : Int) - 1 := IntWalk.i64_in _ ⟨by omega, by omega⟩
  have hjb : ¬ jumpB op = true := by simp [jumpB]; omega
  have c64 : ¬ 64 ≤ op := by omega
  have H32 := Lib.hid h32
  clear h32
  clear hx0 hxh hl hI hop
  go_enter Tryz.func63, Tryz.ntmps63
  go_wp2_with fail
  refine HOp.out.mono ?_
  rintro e w1 ⟨rfl, hb1⟩
  have y0' := (hb1.cell (p := ⟨blk, off, none⟩) hblk).trans y0
  have hs1 := hb1.size
  clear HOp
  go_wp2_with fail
  have HB1 := Lib.hid hb1
  have HWD := Lib.hid (fun (k : Nat) (x : Wd) (h : l[k]? = some x) => (show w.cell? ⟨blk, off + k, none⟩ = some (.string ⟨x.toArray⟩) by
    obtain ⟨b2, o2, he, -, hc⟩ := wd_at HL.out.inn h
    cases he
    exact hc))
  clear hb1 y0 y0'
  go_loopg [10, 11] (l.length - 1) (fun gk v10 v11 wr => ∃ (k : Nat) (sl : List UInt8), gk + k = l.length ∧ 1 ≤ k ∧ v11 = .int .i64 (k : Int) ∧ v10 = .string ⟨sl.toArray⟩ ∧ Hid (if k < l.length then sl = joinF (l.take k) else ∃ l', lastD lb l op a = .ok l' ∧ sl = joinF l') ∧ sl.length ≤ 10001 * k ∧ Hid (Below w.heap.size w wr) ∧ w.heap.size ≤ wr.heap.size)
  case atStart => exact ⟨1, x0, by omega, by omega, rfl, rfl, Lib.hid (by
    by_cases h1 : 1 < l.length
    · rw [if_pos h1, HX0.out]
    · rw [if_neg h1]
      exact ⟨l, lastD_no (fun hp => by rcases hp.1 with h | h <;> omega), by rw [← HX0.out, List.take_of_length_le (by omega)]⟩), by omega, HB1, hs1⟩
  case round =>
    obtain ⟨k, sl, hk, hk1, rfl, rfl, HS, hsll, HB, hsz⟩ := hrel
    have zl := ba_size sl
    by_cases e1 : k < l.length
    · have i1 : (k : Int) < (l.length : Int) := by omega
      obtain ⟨x, hx⟩ : ∃ x, l[k]? = some x := ⟨_, List.getElem?_eq_getElem e1⟩
      have hc := (HB.out.cell (p := ⟨blk, off + k, none⟩) hblk).trans (HWD.out k x hx)
      have hblk' : blk < wr.heap.size := by omega
      obtain ⟨hxn, hxl⟩ := HL.out.each x (List.mem_of_getElem? hx)
      obtain ⟨c0, rx, hxc⟩ : ∃ c r, x = c :: r := by
        cases x with
        | nil => exact absurd rfl hxn
        | cons c r => exact ⟨c, r, rfl⟩
      have hxd : x.headD 0 = c0 := by rw [hxc]; rfl
      have e0x := ba_get x 0 c0 (by rw [hxc]; rfl)
      have zx := ba_size x
      have hx1 : 0 < x.length := by rw [hxc]; simp
      have HSL := Lib.hid (show sl = joinF (l.take k) by have := HS.out; rwa [if_pos e1] at this)
      have HX := Lib.hid hx
      clear hx hxn hxc HS
      rcases Nat.lt_or_ge k (l.length - 1) with e2 | e2
      · have eq2 : ((k : Int) == (l.length : Int) - 1) = false := by simp; omega
        go_wp2_with fail
        (try rw [← H32.out]); go_roundg (gk - 1)
        case measure => omega
        case rel => exact ⟨k + 1, sl ++ ([32] ++ x), by omega, by omega, by go_num, congrArg Value.string (by rw [ba_joinD]), Lib.hid (by rw [if_pos (by omega), join_takeD hk1 HX.out, HSL.out]), by simp; omega, HB, hsz⟩
      · have eq2 : ((k : Int) == (l.length : Int) - 1) = true := by simp; omega
        have e32 : (op == 32) = true := by simpa using H32.out
        by_cases hl3 : l.length = 3
        · have el3 : ((l.length : Int) == 3) = true := by simp; omega
          have g3 : l.length ≤ 3 := by omega
          have g3' : 3 ≤ l.length := by omega
          clear hl3
          have HF := Lib.hid (fun (W : World) (hb : Below wr.heap.size wr W) => findR_c aol capl lb x W ((HP.out.below (HB.out.mono (Nat.le_refl _))).below hb) hll hlc hlm)
          have HLY := Lib.hid (show letterB c0 = true → lastD lb l op a = match findL lb x with
              | none => .error 310
              | some v => .ok (l.take (l.length - 1) ++ [Lib.itoa v]) from fun hlt => by
            have := lastD_yes (lb := lb) (a := a) (show lastP l op from ⟨.inr ⟨H32.out, by omega⟩, by rw [show l.length - 1 = k by omega, List.getD_eq_getElem?_getD, HX.out, Option.getD_some, hxd]; exact hlt⟩)
            rw [show l.getD (l.length - 1) [] = x by rw [show l.length - 1 = k by omega, List.getD_eq_getElem?_getD, HX.out]; rfl] at this
            rw [this]; cases findL lb x with
              | none => rfl
              | some v => simp only; rw [if_neg hjb])
          have HNP0 := Lib.hid (show letterB c0 = false → ¬ lastP l op from fun hlt => fun hp => by have := hp.2; rw [show l.length - 1 = k by omega, List.getD_eq_getElem?_getD, HX.out, Option.getD_some, hxd, hlt] at this; cases this)
          have hfd : ∀ v, findL lb x = some v → 0 ≤ v ∧ v ≤ 4096 := fun v hv => by
            obtain ⟨p, hp, rfl⟩ := find_mem hv
            exact hlb p hp
          have HFD := Lib.hid hfd
          clear hfd hxd
          generalize hsx : (⟨x.toArray⟩ : ByteArray) = sx at hc zx e0x HF ⊢
          have HSX := Lib.hid hsx
          clear hsx
          go_wp2_with fail
          refine (HLt.out c0 _).mono ?_
          rintro e w2 ⟨rfl, rfl⟩
          cases hlt : letterB c0
          · have HNP := Lib.hid (HNP0.out hlt)
            clear HF HLY HFD
            rw [← HSX.out]
            go_wp2_with fail
            (try rw [← H32.out]); go_roundg (gk - 1)
            case measure => omega
            case rel => exact ⟨k + 1, sl ++ ([32] ++ x), by omega, by omega, by go_num, congrArg Value.string (by rw [ba_joinD]), Lib.hid (by rw [if_neg (by omega)]; exact ⟨l, lastD_no HNP.out, by rw [HSL.out, ← join_takeD hk1 HX.out, List.take_of_length_le (by omega)]⟩), by simp; omega, HB, hsz⟩
          · have hly := HLY.out hlt
            clear HNP0 HLY
            have HLV := Lib.hid hly
            clear hly
            go_wp2_with fail
            refine (HF.out _ (Below.refl _ _)).mono ?_
            rintro e w3 ⟨rfl, hw3⟩
            have hw3 := hw3.symm
            subst hw3
            generalize findL lb x = fl at HLV HFD
            cases fl with
            | none =>
              have hD : instrD lb l op a = .error 310 := by unfold instrD; rw [HLV.out]
              rw [show (none : Option Int).getD (-1) = -1 from rfl]
              have HDD := Lib.hid hD
              clear HF HLV HFD hD
              go_wp2_with fail
              refine bodyPost_ret (v := .tuple #[.slice none 0 0, .int .i64 310]) (by simp [results, Tryz.results63, go_sem]) rfl ⟨HB.out, ?_⟩
              rw [HDD.out]
            | some v =>
              obtain ⟨v0, v1⟩ := HFD.out v rfl
              have nv : ¬ v < 0 := by omega
              rw [show (some v : Option Int).getD (-1) = v from rfl]
              clear HF HFD
              have HL' := Lib.hid (show lastD lb l op a = .ok (l.take (l.length - 1) ++ [Lib.itoa v]) from HLV.out)
              have HDc := Lib.hid (decimal_c (v) (by omega) (by omega))
              have hil := itoa_short (n := v) (by omega) (by omega)
              have zi := ba_size (Lib.itoa (v))
              clear HLV
              go_wp2_with fail
              refine (HDc.out _).mono ?_
              rintro e w4 ⟨rfl, rfl⟩
              go_wp2_with fail
              (try rw [← H32.out]); go_roundg (gk - 1)
              case measure => omega
              case rel => exact ⟨k + 1, sl ++ ([32] ++ Lib.itoa (v)), by omega, by omega, by go_num, congrArg Value.string (by rw [ba_joinD]), Lib.hid (by rw [if_neg (by omega)]; exact ⟨_, HL'.out, by rw [join_snocD (by intro e; have := congrArg List.length e; rw [List.length_take, List.length_nil] at this; omega), show l.length - 1 = k by omega, HSL.out]⟩), by simp; omega, HB, hsz⟩
        · have el3 : ((l.length : Int) == 3) = false := by simp; omega
          have HNP := Lib.hid (show ¬ lastP l op from fun hp => by rcases hp.1 with h | h; exact hjb h.1; exact hl3 h.2)
          go_wp2_with fail
          (try rw [← H32.out]); go_roundg (gk - 1)
          case measure => omega
          case rel => exact ⟨k + 1, sl ++ ([32] ++ x), by omega, by omega, by go_num, congrArg Value.string (by rw [ba_joinD]), Lib.hid (by rw [if_neg (by omega)]; exact ⟨l, lastD_no HNP.out, by rw [HSL.out, ← join_takeD hk1 HX.out, List.take_of_length_le (by omega)]⟩), by simp; omega, HB, hsz⟩
    · have i1 : ¬ (k : Int) < (l.length : Int) := by omega
      obtain ⟨l', HX, rfl⟩ : ∃ l', lastD lb l op a = .ok l' ∧ sl = joinF l' := by have := HS.out; rwa [if_neg e1] at this
      clear HS hsll zl
      obtain ⟨hs1, hs2, hs3⟩ := HSH.out l' HX
      obtain ⟨rest, hrest⟩ := hs3
      have hjl := join_len l' hs1
      have HRd := Lib.hid (readR_c (joinF l') (by omega))
      have HR := Lib.hid (show instrD lb l op a = (match readF (joinF l') with
          | .error e => .error e
          | .ok (o, a, b, i) => .ok (Isa.encL (Isa.fm o false) o a b i)) by unfold instrD; rw [HX]; rfl)
      have HRF := Lib.hid (fun o a b i (h : readF (joinF l') = .ok (o, a, b, i)) => read_first HOP.out (hrest ▸ h))
      have hzj := ba_size (joinF l')
      have HER := Lib.hid (fun e => @read_errD (joinF l') e)
      generalize (⟨(joinF l').toArray⟩ : ByteArray) = sj at HRd hzj ⊢
      have HRG := Lib.hid (fun o a b i (h : readF (joinF l') = .ok (o, a, b, i)) => read_bounds h)
      generalize readF (joinF l') = rf at HRd HRF HR HER HRG
      clear hs1 hs2 hrest HX
      go_wp2_with fail
      refine (HRd.out _).mono ?_
      rintro e w4 ⟨rfl, hb4⟩
      cases rf with
      | error er =>
        have HRE := Lib.hid (show instrD lb l op a = .error er from HR.out)
        have hne : (er != 0) = true := by rcases HER.out er rfl with h | h <;> (rw [h]; rfl)
        clear HR HER HRF HRd
        unfold readV insR
        go_wp2_with fail
        refine bodyPost_ret (v := .tuple #[.slice none 0 0, .int .i64 er]) (by simp [results, Tryz.results63, go_sem]) rfl ⟨(HB.out.trans (hb4.mono hsz)).alloc (Nat.le_trans hsz hb4.size) _, by rw [HRE.out]⟩
      | ok t =>
        obtain ⟨o, ra, rb, ri⟩ := t
        obtain ⟨rfl, hmy⟩ := HRF.out _ _ _ _ rfl
        have HRE := Lib.hid (show instrD lb l o a = .ok (Isa.encL (Isa.fm o false) o ra rb ri) from HR.out)
        have hrd := HRG.out _ _ _ _ rfl
        have HEn := Lib.hid (Isa.refEncode_c o ra rb ri false)
        obtain ⟨⟨o0, o1⟩, ⟨p0, p1⟩, ⟨q0, q1⟩, r0, r1⟩ := hrd
        clear HR HER HRF HRd
        unfold readV insR
        go_wp2_with fail
        unfold Isa.insV at HEn
        refine (HEn.out _ o0 o1 p0 (by omega) q0 (by omega) r0 r1 hmy).mono ?_
        rintro e w5 ⟨hb5, v, rfl, hown⟩
        have hsz4 := hb4.size
        go_wp2_with fail
        refine bodyPost_ret (v := .tuple #[v, .int .i64 0]) (by simp [results, Tryz.results63, go_sem]) rfl ⟨((HB.out.trans (hb4.mono hsz)).alloc (Nat.le_trans hsz hsz4) _).trans (hb5.mono (by simp; omega)), by rw [HRE.out]; exact ⟨v, rfl, own_lowH hown (by simp; omega)⟩⟩
set_option maxHeartbeats 8000000 in
theorem instrR_J (aol : Option Addr) (capl : Nat) (lb : List (Wd × Int)) (ao : Option Addr) (cap : Nat) (l : List Wd) (a op : Int) (w : World) (hI : PairsIn labA w aol lb) (hll : lb.length ≤ 100000) (hlc : lb.length ≤ capl) (hlm : capl ≤ maxLen) (hlb : ∀ p ∈ lb, 0 ≤ p.2 ∧ p.2 ≤ 4096)
    (hl : LnOk w ao l cap) (hne : l ≠ []) (hln : l.length ≤ 10000) (a0 : 0 ≤ a) (a1 : a ≤ 4096) (hop : opF (l.headD []) = some op) (hc1 : 64 ≤ op) (hc2 : op ≤ 72) :
    Calls Tryz.prog 63 #[.slice aol lb.length capl, .slice ao l.length cap, .int .i64 a] w (LaidQ (instrD lb l op a) w) := by
  obtain ⟨x0, hx0, hxh⟩ : ∃ x, l[0]? = some x ∧ l.headD [] = x := by
    cases l with
    | nil => exact absurd rfl hne
    | cons y r => exact ⟨y, rfl, rfl⟩
  obtain ⟨blk, off, rfl, hblk, y0⟩ := wd_at hl.inn hx0
  rw [Nat.add_zero] at y0
  have hle := hl.le
  have hcap := hl.cap
  have hl0 : 0 < l.length := (List.getElem?_eq_some_iff.1 hx0).1
  have i0 : (0 : Int) < (l.length : Int) := by omega
  have hx0l := (hl.each x0 (List.mem_of_getElem? hx0)).2
  have HOp := Lib.hid (operation_c x0 (by omega) w)
  rw [show opF x0 = some op from hxh ▸ hop, show (some op : Option Int).getD (-1) = op from rfl] at HOp
  have HOP := Lib.hid hop
  have HSH := Lib.hid (fun l' (h : lastD lb l op a = .ok l') => by
    obtain ⟨q1, q2, q3⟩ := lastD_short hlb ⟨a0, a1⟩ h (fun s hs => (hl.each s hs).2)
    exact (show (∀ s ∈ l', s.length ≤ 10000) ∧ l'.length ≤ l.length ∧ ∃ rest, l' = (l.headD []) :: rest from ⟨q1, q2, q3 hne⟩))
  have HL := Lib.hid hl
  have HP := Lib.hid hI
  have HLt := Lib.hid letterR_c
  have HX0 := Lib.hid (show joinF (l.take 1) = x0 by
    cases l with
    | nil => exact absurd rfl hne
    | cons y r =>
      have : y = x0 := by simpa using hx0
      rw [this]; simp [joinF])
  obtain ⟨⟨op0, op1⟩, h255⟩ : (0 ≤ op ∧ op < 256) ∧ True := by
    obtain ⟨n, hn, -, rfl, -⟩ := opF_is hop
    exact ⟨(nmW_of hn).2, trivial⟩
  have hwo : IntKind.u8.wrap op = op := IntWalk.u8_in _ (by omega)
  have hwl : IntKind.i64.wrap ((l.length : Int) - 1) = (l.length : Int) - 1 := IntWalk.i64_in _ ⟨by omega, by omega⟩
  have hjb : jumpB op = true := by simp [jumpB]; omega
  have c64 : 64 ≤ op := hc1
  have c72 : op ≤ 72 := hc2
  have e32 : (op == 32) = false := by simp; omega
  clear hx0 hxh hl hI hop
  go_enter Tryz.func63, Tryz.ntmps63
  go_wp2_with fail
  refine HOp.out.mono ?_
  rintro e w1 ⟨rfl, hb1⟩
  have y0' := (hb1.cell (p := ⟨blk, off, none⟩) hblk).trans y0
  have hs1 := hb1.size
  clear HOp
  go_wp2_with fail
  have HB1 := Lib.hid hb1
  have HWD := Lib.hid (fun (k : Nat) (x : Wd) (h : l[k]? = some x) => (show w.cell? ⟨blk, off + k, none⟩ = some (.string ⟨x.toArray⟩) by
    obtain ⟨b2, o2, he, -, hc⟩ := wd_at HL.out.inn h
    cases he
    exact hc))
  clear hb1 y0 y0'
  go_loopg [10, 11] (l.length - 1) (fun gk v10 v11 wr => ∃ (k : Nat) (sl : List UInt8), gk + k = l.length ∧ 1 ≤ k ∧ v11 = .int .i64 (k : Int) ∧ v10 = .string ⟨sl.toArray⟩ ∧ Hid (if k < l.length then sl = joinF (l.take k) else ∃ l', lastD lb l op a = .ok l' ∧ sl = joinF l') ∧ sl.length ≤ 10001 * k ∧ Hid (Below w.heap.size w wr) ∧ w.heap.size ≤ wr.heap.size)
  case atStart => exact ⟨1, x0, by omega, by omega, rfl, rfl, Lib.hid (by
    by_cases h1 : 1 < l.length
    · rw [if_pos h1, HX0.out]
    · rw [if_neg h1]
      exact ⟨l, lastD_no (fun hp => by rcases hp.1 with h | h <;> omega), by rw [← HX0.out, List.take_of_length_le (by omega)]⟩), by omega, HB1, hs1⟩
  case round =>
    obtain ⟨k, sl, hk, hk1, rfl, rfl, HS, hsll, HB, hsz⟩ := hrel
    have zl := ba_size sl
    by_cases e1 : k < l.length
    · have i1 : (k : Int) < (l.length : Int) := by omega
      obtain ⟨x, hx⟩ : ∃ x, l[k]? = some x := ⟨_, List.getElem?_eq_getElem e1⟩
      have hc := (HB.out.cell (p := ⟨blk, off + k, none⟩) hblk).trans (HWD.out k x hx)
      have hblk' : blk < wr.heap.size := by omega
      obtain ⟨hxn, hxl⟩ := HL.out.each x (List.mem_of_getElem? hx)
      obtain ⟨c0, rx, hxc⟩ : ∃ c r, x = c :: r := by
        cases x with
        | nil => exact absurd rfl hxn
        | cons c r => exact ⟨c, r, rfl⟩
      have hxd : x.headD 0 = c0 := by rw [hxc]; rfl
      have e0x := ba_get x 0 c0 (by rw [hxc]; rfl)
      have zx := ba_size x
      have hx1 : 0 < x.length := by rw [hxc]; simp
      have HSL := Lib.hid (show sl = joinF (l.take k) by have := HS.out; rwa [if_pos e1] at this)
      have HX := Lib.hid hx
      clear hx hxn hxc HS
      rcases Nat.lt_or_ge k (l.length - 1) with e2 | e2
      · have eq2 : ((k : Int) == (l.length : Int) - 1) = false := by simp; omega
        go_wp2_with fail
        go_roundg (gk - 1)
        case measure => omega
        case rel => exact ⟨k + 1, sl ++ ([32] ++ x), by omega, by omega, by go_num, congrArg Value.string (by rw [ba_joinD]), Lib.hid (by rw [if_pos (by omega), join_takeD hk1 HX.out, HSL.out]), by simp; omega, HB, hsz⟩
      · have eq2 : ((k : Int) == (l.length : Int) - 1) = true := by simp; omega
        by_cases hl2 : l.length = 2
        · have el2 : ((l.length : Int) == 2) = true := by simp; omega
          have g2 : l.length ≤ 2 := by omega
          have g2' : 2 ≤ l.length := by omega
          clear hl2
          have HF := Lib.hid (fun (W : World) (hb : Below wr.heap.size wr W) => findR_c aol capl lb x W ((HP.out.below (HB.out.mono (Nat.le_refl _))).below hb) hll hlc hlm)
          have HLY := Lib.hid (show letterB c0 = true → lastD lb l op a = match findL lb x with
              | none => .error 310
              | some v => if v - a - 3 < -32768 ∨ 32767 < v - a - 3 then .error 311 else .ok (l.take (l.length - 1) ++ [Lib.itoa (v - a - 3)]) from fun hlt => by
            have := lastD_yes (lb := lb) (a := a) (show lastP l op from ⟨.inl ⟨hjb, by omega⟩, by rw [show l.length - 1 = k by omega, List.getD_eq_getElem?_getD, HX.out, Option.getD_some, hxd]; exact hlt⟩)
            rw [show l.getD (l.length - 1) [] = x by rw [show l.length - 1 = k by omega, List.getD_eq_getElem?_getD, HX.out]; rfl] at this
            rw [this]; cases findL lb x with
              | none => rfl
              | some v => simp only; rw [if_pos hjb])
          have HNP0 := Lib.hid (show letterB c0 = false → ¬ lastP l op from fun hlt => fun hp => by have := hp.2; rw [show l.length - 1 = k by omega, List.getD_eq_getElem?_getD, HX.out, Option.getD_some, hxd, hlt] at this; cases this)
          have hfd : ∀ v, findL lb x = some v → 0 ≤ v ∧ v ≤ 4096 := fun v hv => by
            obtain ⟨p, hp, rfl⟩ := find_mem hv
            exact hlb p hp
          have HFD := Lib.hid hfd
          clear hfd hxd
          generalize hsx : (⟨x.toArray⟩ : ByteArray) = sx at hc zx e0x HF ⊢
          have HSX := Lib.hid hsx
          clear hsx
          go_wp2_with fail
          refine (HLt.out c0 _).mono ?_
          rintro e w2 ⟨rfl, rfl⟩
          cases hlt : letterB c0
          · have HNP := Lib.hid (HNP0.out hlt)
            clear HF HLY HFD
            rw [← HSX.out]
            go_wp2_with fail
            go_roundg (gk - 1)
            case measure => omega
            case rel => exact ⟨k + 1, sl ++ ([32] ++ x), by omega, by omega, by go_num, congrArg Value.string (by rw [ba_joinD]), Lib.hid (by rw [if_neg (by omega)]; exact ⟨l, lastD_no HNP.out, by rw [HSL.out, ← join_takeD hk1 HX.out, List.take_of_length_le (by omega)]⟩), by simp; omega, HB, hsz⟩
          · have hly := HLY.out hlt
            clear HNP0 HLY
            have HLV := Lib.hid hly
            clear hly
            go_wp2_with fail
            refine (HF.out _ (Below.refl _ _)).mono ?_
            rintro e w3 ⟨rfl, hw3⟩
            have hw3 := hw3.symm
            subst hw3
            generalize findL lb x = fl at HLV HFD
            cases fl with
            | none =>
              have hD : instrD lb l op a = .error 310 := by unfold instrD; rw [HLV.out]
              rw [show (none : Option Int).getD (-1) = -1 from rfl]
              have HDD := Lib.hid hD
              clear HF HLV HFD hD
              go_wp2_with fail
              refine bodyPost_ret (v := .tuple #[.slice none 0 0, .int .i64 310]) (by simp [results, Tryz.results63, go_sem]) rfl ⟨HB.out, ?_⟩
              rw [HDD.out]
            | some v =>
              obtain ⟨v0, v1⟩ := HFD.out v rfl
              have nv : ¬ v < 0 := by omega
              rw [show (some v : Option Int).getD (-1) = v from rfl]
              clear HF HFD
              have hw1 : IntKind.i64.wrap (v - a) = v - a := IntWalk.i64_in _ ⟨by omega, by omega⟩
              have hw2 : IntKind.i64.wrap (v - a - 3) = v - a - 3 := IntWalk.i64_in _ ⟨by omega, by omega⟩
              have r1 : ¬ v - a - 3 < -32768 := by omega
              have r2 : ¬ 32767 < v - a - 3 := by omega
              have HL' := Lib.hid (show lastD lb l op a = .ok (l.take (l.length - 1) ++ [Lib.itoa (v - a - 3)]) by have := HLV.out; simp only at this; rwa [if_neg (by omega)] at this)
              have HDc := Lib.hid (decimal_c (v - a - 3) (by omega) (by omega))
              have hil := itoa_short (n := v - a - 3) (by omega) (by omega)
              have zi := ba_size (Lib.itoa (v - a - 3))
              clear HLV
              go_wp2_with fail
              refine (HDc.out _).mono ?_
              rintro e w4 ⟨rfl, rfl⟩
              go_wp2_with fail
              go_roundg (gk - 1)
              case measure => omega
              case rel => exact ⟨k + 1, sl ++ ([32] ++ Lib.itoa (v - a - 3)), by omega, by omega, by go_num, congrArg Value.string (by rw [ba_joinD]), Lib.hid (by rw [if_neg (by omega)]; exact ⟨_, HL'.out, by rw [join_snocD (by intro e; have := congrArg List.length e; rw [List.length_take, List.length_nil] at this; omega), show l.length - 1 = k by omega, HSL.out]⟩), by simp; omega, HB, hsz⟩
        · have el2 : ((l.length : Int) == 2) = false := by simp; omega
          have HNP := Lib.hid (show ¬ lastP l op from fun hp => by rcases hp.1 with h | h; exact hl2 h.2; omega)
          go_wp2_with fail
          go_roundg (gk - 1)
          case measure => omega
          case rel => exact ⟨k + 1, sl ++ ([32] ++ x), by omega, by omega, by go_num, congrArg Value.string (by rw [ba_joinD]), Lib.hid (by rw [if_neg (by omega)]; exact ⟨l, lastD_no HNP.out, by rw [HSL.out, ← join_takeD hk1 HX.out, List.take_of_length_le (by omega)]⟩), by simp; omega, HB, hsz⟩
    · have i1 : ¬ (k : Int) < (l.length : Int) := by omega
      obtain ⟨l', HX, rfl⟩ : ∃ l', lastD lb l op a = .ok l' ∧ sl = joinF l' := by have := HS.out; rwa [if_neg e1] at this
      clear HS hsll zl
      obtain ⟨hs1, hs2, hs3⟩ := HSH.out l' HX
      obtain ⟨rest, hrest⟩ := hs3
      have hjl := join_len l' hs1
      have HRd := Lib.hid (readR_c (joinF l') (by omega))
      have HR := Lib.hid (show instrD lb l op a = (match readF (joinF l') with
          | .error e => .error e
          | .ok (o, a, b, i) => .ok (Isa.encL (Isa.fm o false) o a b i)) by unfold instrD; rw [HX]; rfl)
      have HRF := Lib.hid (fun o a b i (h : readF (joinF l') = .ok (o, a, b, i)) => read_first HOP.out (hrest ▸ h))
      have hzj := ba_size (joinF l')
      have HER := Lib.hid (fun e => @read_errD (joinF l') e)
      generalize (⟨(joinF l').toArray⟩ : ByteArray) = sj at HRd hzj ⊢
      have HRG := Lib.hid (fun o a b i (h : readF (joinF l') = .ok (o, a, b, i)) => read_bounds h)
      generalize readF (joinF l') = rf at HRd HRF HR HER HRG
      clear hs1 hs2 hrest HX
      go_wp2_with fail
      refine (HRd.out _).mono ?_
      rintro e w4 ⟨rfl, hb4⟩
      cases rf with
      | error er =>
        have HRE := Lib.hid (show instrD lb l op a = .error er from HR.out)
        have hne : (er != 0) = true := by rcases HER.out er rfl with h | h <;> (rw [h]; rfl)
        clear HR HER HRF HRd
        unfold readV insR
        go_wp2_with fail
        refine bodyPost_ret (v := .tuple #[.slice none 0 0, .int .i64 er]) (by simp [results, Tryz.results63, go_sem]) rfl ⟨(HB.out.trans (hb4.mono hsz)).alloc (Nat.le_trans hsz hb4.size) _, by rw [HRE.out]⟩
      | ok t =>
        obtain ⟨o, ra, rb, ri⟩ := t
        obtain ⟨rfl, hmy⟩ := HRF.out _ _ _ _ rfl
        have HRE := Lib.hid (show instrD lb l o a = .ok (Isa.encL (Isa.fm o false) o ra rb ri) from HR.out)
        have hrd := HRG.out _ _ _ _ rfl
        have HEn := Lib.hid (Isa.refEncode_c o ra rb ri false)
        obtain ⟨⟨o0, o1⟩, ⟨p0, p1⟩, ⟨q0, q1⟩, r0, r1⟩ := hrd
        clear HR HER HRF HRd
        unfold readV insR
        go_wp2_with fail
        unfold Isa.insV at HEn
        refine (HEn.out _ o0 o1 p0 (by omega) q0 (by omega) r0 r1 hmy).mono ?_
        rintro e w5 ⟨hb5, v, rfl, hown⟩
        have hsz4 := hb4.size
        go_wp2_with fail
        refine bodyPost_ret (v := .tuple #[v, .int .i64 0]) (by simp [results, Tryz.results63, go_sem]) rfl ⟨((HB.out.trans (hb4.mono hsz)).alloc (Nat.le_trans hsz hsz4) _).trans (hb5.mono (by simp; omega)), by rw [HRE.out]; exact ⟨v, rfl, own_lowH hown (by simp; omega)⟩⟩
set_option maxHeartbeats 8000000 in
theorem instrR_hi (aol : Option Addr) (capl : Nat) (lb : List (Wd × Int)) (ao : Option Addr) (cap : Nat) (l : List Wd) (a op : Int) (w : World) (hI : PairsIn labA w aol lb) (hll : lb.length ≤ 100000) (hlc : lb.length ≤ capl) (hlm : capl ≤ maxLen) (hlb : ∀ p ∈ lb, 0 ≤ p.2 ∧ p.2 ≤ 4096)
    (hl : LnOk w ao l cap) (hne : l ≠ []) (hln : l.length ≤ 10000) (a0 : 0 ≤ a) (a1 : a ≤ 4096) (hop : opF (l.headD []) = some op) (hc1 : 72 < op) :
    Calls Tryz.prog 63 #[.slice aol lb.length capl, .slice ao l.length cap, .int .i64 a] w (LaidQ (instrD lb l op a) w) := by
  obtain ⟨x0, hx0, hxh⟩ : ∃ x, l[0]? = some x ∧ l.headD [] = x := by
    cases l with
    | nil => exact absurd rfl hne
    | cons y r => exact ⟨y, rfl, rfl⟩
  obtain ⟨blk, off, rfl, hblk, y0⟩ := wd_at hl.inn hx0
  rw [Nat.add_zero] at y0
  have hle := hl.le
  have hcap := hl.cap
  have hl0 : 0 < l.length := (List.getElem?_eq_some_iff.1 hx0).1
  have i0 : (0 : Int) < (l.length : Int) := by omega
  have hx0l := (hl.each x0 (List.mem_of_getElem? hx0)).2
  have HOp := Lib.hid (operation_c x0 (by omega) w)
  rw [show opF x0 = some op from hxh ▸ hop, show (some op : Option Int).getD (-1) = op from rfl] at HOp
  have HOP := Lib.hid hop
  have HSH := Lib.hid (fun l' (h : lastD lb l op a = .ok l') => by
    obtain ⟨q1, q2, q3⟩ := lastD_short hlb ⟨a0, a1⟩ h (fun s hs => (hl.each s hs).2)
    exact (show (∀ s ∈ l', s.length ≤ 10000) ∧ l'.length ≤ l.length ∧ ∃ rest, l' = (l.headD []) :: rest from ⟨q1, q2, q3 hne⟩))
  have HL := Lib.hid hl
  have HP := Lib.hid hI
  have HLt := Lib.hid letterR_c
  have HX0 := Lib.hid (show joinF (l.take 1) = x0 by
    cases l with
    | nil => exact absurd rfl hne
    | cons y r =>
      have : y = x0 := by simpa using hx0
      rw [this]; simp [joinF])
  obtain ⟨⟨op0, op1⟩, h255⟩ : (0 ≤ op ∧ op < 256) ∧ True := by
    obtain ⟨n, hn, -, rfl, -⟩ := opF_is hop
    exact ⟨(nmW_of hn).2, trivial⟩
  have hwo : IntKind.u8.wrap op = op := IntWalk.u8_in _ (by omega)
  have hwl : IntKind.i64.wrap ((l.length : Int) - 1) = (l.length : Int) - 1 := IntWalk.i64_in _ ⟨by omega, by omega⟩
  have hjb : ¬ jumpB op = true := by simp [jumpB]; omega
  have c64 : 64 ≤ op := by omega
  have c72 : ¬ op ≤ 72 := by omega
  have d72 : decide (op ≤ 72) = false := decide_eq_false c72
  have e32 : (op == 32) = false := by simp; omega
  clear hx0 hxh hl hI hop
  go_enter Tryz.func63, Tryz.ntmps63
  go_wp2_with fail
  refine HOp.out.mono ?_
  rintro e w1 ⟨rfl, hb1⟩
  have y0' := (hb1.cell (p := ⟨blk, off, none⟩) hblk).trans y0
  have hs1 := hb1.size
  clear HOp
  go_wp2_with fail
  have HB1 := Lib.hid hb1
  have HWD := Lib.hid (fun (k : Nat) (x : Wd) (h : l[k]? = some x) => (show w.cell? ⟨blk, off + k, none⟩ = some (.string ⟨x.toArray⟩) by
    obtain ⟨b2, o2, he, -, hc⟩ := wd_at HL.out.inn h
    cases he
    exact hc))
  clear hb1 y0 y0'
  go_loopg [10, 11] (l.length - 1) (fun gk v10 v11 wr => ∃ (k : Nat) (sl : List UInt8), gk + k = l.length ∧ 1 ≤ k ∧ v11 = .int .i64 (k : Int) ∧ v10 = .string ⟨sl.toArray⟩ ∧ Hid (if k < l.length then sl = joinF (l.take k) else ∃ l', lastD lb l op a = .ok l' ∧ sl = joinF l') ∧ sl.length ≤ 10001 * k ∧ Hid (Below w.heap.size w wr) ∧ w.heap.size ≤ wr.heap.size)
  case atStart => exact ⟨1, x0, by omega, by omega, rfl, rfl, Lib.hid (by
    by_cases h1 : 1 < l.length
    · rw [if_pos h1, HX0.out]
    · rw [if_neg h1]
      exact ⟨l, lastD_no (fun hp => by rcases hp.1 with h | h <;> omega), by rw [← HX0.out, List.take_of_length_le (by omega)]⟩), by omega, HB1, hs1⟩
  case round =>
    obtain ⟨k, sl, hk, hk1, rfl, rfl, HS, hsll, HB, hsz⟩ := hrel
    have zl := ba_size sl
    by_cases e1 : k < l.length
    · have i1 : (k : Int) < (l.length : Int) := by omega
      obtain ⟨x, hx⟩ : ∃ x, l[k]? = some x := ⟨_, List.getElem?_eq_getElem e1⟩
      have hc := (HB.out.cell (p := ⟨blk, off + k, none⟩) hblk).trans (HWD.out k x hx)
      have hblk' : blk < wr.heap.size := by omega
      obtain ⟨hxn, hxl⟩ := HL.out.each x (List.mem_of_getElem? hx)
      obtain ⟨c0, rx, hxc⟩ : ∃ c r, x = c :: r := by
        cases x with
        | nil => exact absurd rfl hxn
        | cons c r => exact ⟨c, r, rfl⟩
      have hxd : x.headD 0 = c0 := by rw [hxc]; rfl
      have e0x := ba_get x 0 c0 (by rw [hxc]; rfl)
      have zx := ba_size x
      have hx1 : 0 < x.length := by rw [hxc]; simp
      have HSL := Lib.hid (show sl = joinF (l.take k) by have := HS.out; rwa [if_pos e1] at this)
      have HX := Lib.hid hx
      clear hx hxn hxc HS
      rcases Nat.lt_or_ge k (l.length - 1) with e2 | e2
      · have eq2 : ((k : Int) == (l.length : Int) - 1) = false := by simp; omega
        go_wp2_with fail
        go_roundg (gk - 1)
        case measure => omega
        case rel => exact ⟨k + 1, sl ++ ([32] ++ x), by omega, by omega, by go_num, congrArg Value.string (by rw [ba_joinD]), Lib.hid (by rw [if_pos (by omega), join_takeD hk1 HX.out, HSL.out]), by simp; omega, HB, hsz⟩
      · have eq2 : ((k : Int) == (l.length : Int) - 1) = true := by simp; omega
        have HNP := Lib.hid (show ¬ lastP l op from fun hp => by rcases hp.1 with h | h; exact hjb h.1; omega)
        go_wp2_with fail
        go_roundg (gk - 1)
        case measure => omega
        case rel => exact ⟨k + 1, sl ++ ([32] ++ x), by omega, by omega, by go_num, congrArg Value.string (by rw [ba_joinD]), Lib.hid (by rw [if_neg (by omega)]; exact ⟨l, lastD_no HNP.out, by rw [HSL.out, ← join_takeD hk1 HX.out, List.take_of_length_le (by omega)]⟩), by simp; omega, HB, hsz⟩
    · have i1 : ¬ (k : Int) < (l.length : Int) := by omega
      obtain ⟨l', HX, rfl⟩ : ∃ l', lastD lb l op a = .ok l' ∧ sl = joinF l' := by have := HS.out; rwa [if_neg e1] at this
      clear HS hsll zl
      obtain ⟨hs1, hs2, hs3⟩ := HSH.out l' HX
      obtain ⟨rest, hrest⟩ := hs3
      have hjl := join_len l' hs1
      have HRd := Lib.hid (readR_c (joinF l') (by omega))
      have HR := Lib.hid (show instrD lb l op a = (match readF (joinF l') with
          | .error e => .error e
          | .ok (o, a, b, i) => .ok (Isa.encL (Isa.fm o false) o a b i)) by unfold instrD; rw [HX]; rfl)
      have HRF := Lib.hid (fun o a b i (h : readF (joinF l') = .ok (o, a, b, i)) => read_first HOP.out (hrest ▸ h))
      have hzj := ba_size (joinF l')
      have HER := Lib.hid (fun e => @read_errD (joinF l') e)
      generalize (⟨(joinF l').toArray⟩ : ByteArray) = sj at HRd hzj ⊢
      have HRG := Lib.hid (fun o a b i (h : readF (joinF l') = .ok (o, a, b, i)) => read_bounds h)
      generalize readF (joinF l') = rf at HRd HRF HR HER HRG
      clear hs1 hs2 hrest HX
      go_wp2_with fail
      refine (HRd.out _).mono ?_
      rintro e w4 ⟨rfl, hb4⟩
      cases rf with
      | error er =>
        have HRE := Lib.hid (show instrD lb l op a = .error er from HR.out)
        have hne : (er != 0) = true := by rcases HER.out er rfl with h | h <;> (rw [h]; rfl)
        clear HR HER HRF HRd
        unfold readV insR
        go_wp2_with fail
        refine bodyPost_ret (v := .tuple #[.slice none 0 0, .int .i64 er]) (by simp [results, Tryz.results63, go_sem]) rfl ⟨(HB.out.trans (hb4.mono hsz)).alloc (Nat.le_trans hsz hb4.size) _, by rw [HRE.out]⟩
      | ok t =>
        obtain ⟨o, ra, rb, ri⟩ := t
        obtain ⟨rfl, hmy⟩ := HRF.out _ _ _ _ rfl
        have HRE := Lib.hid (show instrD lb l o a = .ok (Isa.encL (Isa.fm o false) o ra rb ri) from HR.out)
        have hrd := HRG.out _ _ _ _ rfl
        have HEn := Lib.hid (Isa.refEncode_c o ra rb ri false)
        obtain ⟨⟨o0, o1⟩, ⟨p0, p1⟩, ⟨q0, q1⟩, r0, r1⟩ := hrd
        clear HR HER HRF HRd
        unfold readV insR
        go_wp2_with fail
        unfold Isa.insV at HEn
        refine (HEn.out _ o0 o1 p0 (by omega) q0 (by omega) r0 r1 hmy).mono ?_
        rintro e w5 ⟨hb5, v, rfl, hown⟩
        have hsz4 := hb4.size
        go_wp2_with fail
        refine bodyPost_ret (v := .tuple #[v, .int .i64 0]) (by simp [results, Tryz.results63, go_sem]) rfl ⟨((HB.out.trans (hb4.mono hsz)).alloc (Nat.le_trans hsz hsz4) _).trans (hb5.mono (by simp; omega)), by rw [HRE.out]; exact ⟨v, rfl, own_lowH hown (by simp; omega)⟩⟩
theorem instrR_c (aol : Option Addr) (capl : Nat) (lb : List (Wd × Int)) (ao : Option Addr) (cap : Nat) (l : List Wd) (a op : Int) (w : World) (hI : PairsIn labA w aol lb) (hll : lb.length ≤ 100000) (hlc : lb.length ≤ capl) (hlm : capl ≤ maxLen) (hlb : ∀ p ∈ lb, 0 ≤ p.2 ∧ p.2 ≤ 4096)
    (hl : LnOk w ao l cap) (hne : l ≠ []) (hln : l.length ≤ 10000) (a0 : 0 ≤ a) (a1 : a ≤ 4096) (hop : opF (l.headD []) = some op) :
    Calls Tryz.prog 63 #[.slice aol lb.length capl, .slice ao l.length cap, .int .i64 a] w (LaidQ (instrD lb l op a) w) := by
  by_cases c1 : op < 64
  · by_cases c3 : op = 32
    · exact instrR_L aol capl lb ao cap l a op w hI hll hlc hlm hlb hl hne hln a0 a1 hop c3
    · exact instrR_lo aol capl lb ao cap l a op w hI hll hlc hlm hlb hl hne hln a0 a1 hop c1 c3
  · by_cases c2 : op ≤ 72
    · exact instrR_J aol capl lb ao cap l a op w hI hll hlc hlm hlb hl hne hln a0 a1 hop (by omega) c2
    · exact instrR_hi aol capl lb ao cap l a op w hI hll hlc hlm hlb hl hne hln a0 a1 hop (by omega)
end Go.Proofs.YtgfljokamgbcaaaGreatDoor
namespace Go.Proofs.YtgfljokamgbcaaaGreatDoor
open Go.RowKit
set_option linter.unusedSimpArgs false
set_option linter.unusedVariables false
set_option maxRecDepth 100000

theorem bytesD_stop {ws : List Wd} {k : Nat} {x : Wd} {done : List Int} (h : ws[k]? = some x) (hb : numF x = none ∨ ∃ v, numF x = some v ∧ (v < 0 ∨ 255 < v)) : preB done (bytesD (ws.drop k)) = .error 41 := by
  obtain ⟨hlt, rfl⟩ := List.getElem?_eq_some_iff.1 h
  rw [List.drop_eq_getElem_cons hlt, bytesD]
  rcases hb with hb | ⟨v, hb, hv⟩
  · rw [hb]; rfl
  · rw [hb]; simp only; rw [if_pos hv]; rfl
theorem bytesD_on {ws : List Wd} {k : Nat} {x : Wd} {done : List Int} {v : Int} (h : ws[k]? = some x) (hb : numF x = some v) (hv : ¬ (v < 0 ∨ 255 < v)) : preB done (bytesD (ws.drop k)) = preB (done ++ [v]) (bytesD (ws.drop (k + 1))) := by
  obtain ⟨hlt, rfl⟩ := List.getElem?_eq_some_iff.1 h
  rw [List.drop_eq_getElem_cons hlt, bytesD, hb]
  simp only
  rw [if_neg hv]
  cases bytesD (ws.drop (k + 1)) <;> simp [preB]
theorem bytesD_end {ws : List Wd} {k : Nat} {done : List Int} (h : ws.length ≤ k) : preB done (bytesD (ws.drop k)) = .ok done := by
  rw [List.drop_eq_nil_iff.2 h]
  simp [bytesD, preB]
theorem wordsD_stop {lb : List (Wd × Int)} {ws : List Wd} {k : Nat} {x : Wd} {done : List Int} {er : Int} (h : ws[k]? = some x) (hb : valueD lb x = .error er) : preB done (wordsD lb (ws.drop k)) = .error er := by
  obtain ⟨hlt, rfl⟩ := List.getElem?_eq_some_iff.1 h
  rw [List.drop_eq_getElem_cons hlt, wordsD, hb]
  rfl
theorem wordsD_on {lb : List (Wd × Int)} {ws : List Wd} {k : Nat} {x : Wd} {done : List Int} {v : Int} (h : ws[k]? = some x) (hb : valueD lb x = .ok v) : preB done (wordsD lb (ws.drop k)) = preB (done ++ le4 v) (wordsD lb (ws.drop (k + 1))) := by
  obtain ⟨hlt, rfl⟩ := List.getElem?_eq_some_iff.1 h
  rw [List.drop_eq_getElem_cons hlt, wordsD, hb]
  simp only
  cases wordsD lb (ws.drop (k + 1)) <;> simp [preB]
theorem wordsD_end {lb : List (Wd × Int)} {ws : List Wd} {k : Nat} {done : List Int} (h : ws.length ≤ k) : preB done (wordsD lb (ws.drop k)) = .ok done := by
  rw [List.drop_eq_nil_iff.2 h]
  simp [wordsD, preB]
/-- A number's low bytes, one after another. -/
def leN (m : Int) : Nat → List Int
  | 0 => []
  | i + 1 => m % 256 :: leN (m / 256) i
theorem le4_is (v : Int) : le4 v = leN (v % 4294967296) 4 := by
  unfold le4 leN leN leN leN leN
  have h0 := Int.emod_nonneg v (show (4294967296 : Int) ≠ 0 by decide)
  generalize v % 4294967296 = n at h0
  rw [show n / 256 / 256 / 256 = n / 16777216 by omega, show n / 256 / 256 = n / 65536 by omega]
theorem value_err {lb : List (Wd × Int)} {x : Wd} {er : Int} (h : valueD lb x = .error er) : er = 310 ∨ er = 41 := by
  unfold valueD at h
  split at h
  · split at h
    · cases h
    · cases h; exact .inl rfl
  · split at h
    · cases h
    · cases h; exact .inr rfl
theorem textL_snoc (y : Wd) (k : Nat) (c : UInt8) (h : y[k]? = some c) : textL (y.take (k + 1)) = textL (y.take k) ++ [if c = 95 then 32 else if c = 124 then 10 else (c.toNat : Int)] := by
  unfold textL
  rw [List.take_add_one, h, List.map_append]
  rfl
set_option maxHeartbeats 8000000 in
theorem laidR_byte (aol : Option Addr) (capl : Nat) (lb : List (Wd × Int)) (ao : Option Addr) (cap : Nat) (l : List Wd) (a : Int) (w : World) (hI : PairsIn labA w aol lb) (hll : lb.length ≤ 100000) (hlc : lb.length ≤ capl) (hlm : capl ≤ maxLen) (hlb : ∀ p ∈ lb, 0 ≤ p.2 ∧ p.2 ≤ 4096)
    (hl : LnOk w ao l cap) (hne : l ≠ []) (hln : l.length ≤ 10000) (a0 : 0 ≤ a) (a1 : a ≤ 4096) (h : l.headD [] = wByte) :
    Calls Tryz.prog 34 #[.slice aol lb.length capl, .slice ao l.length cap, .int .i64 a] w (LaidQ (laidD lb l a) w) := by
  obtain ⟨i0, hi, hz0, hz1, hz2⟩ := info_parts Isa.Tryz.infoB
  obtain ⟨x0, hx0, hxh⟩ : ∃ x, l[0]? = some x ∧ l.headD [] = x := by
    cases l with
    | nil => exact absurd rfl hne
    | cons y r => exact ⟨y, rfl, rfl⟩
  obtain ⟨blk, off, rfl, hblk, y0⟩ := wd_at hl.inn hx0
  rw [Nat.add_zero] at y0
  have hle := hl.le
  have hcap := hl.cap
  have hl0 : 0 < l.length := (List.getElem?_eq_some_iff.1 hx0).1
  have j0 : (0 : Int) < (l.length : Int) := by omega
  have HL := Lib.hid hl
  have HP := Lib.hid hI
  have HWD := Lib.hid (fun (k : Nat) (x : Wd) (h : l[k]? = some x) => (show w.cell? ⟨blk, off + k, none⟩ = some (.string ⟨x.toArray⟩) by
    obtain ⟨b2, o2, he, -, hc⟩ := wd_at HL.out.inn h
    cases he
    exact hc))
  obtain ⟨RR, hRR⟩ : ∃ RR, laidD lb l a = RR := ⟨_, rfl⟩
  rw [hRR]
  unfold laidD at hRR
  have e_byte : (x0 == ([46, 98, 121, 116, 101] : List UInt8)) = true := by rw [← hxh, h]; decide
  rw [if_pos h] at hRR
  have HR := Lib.hid hRR
  clear hRR hx0 hxh hl hI h hlb
  go_enter Tryz.func34, Tryz.ntmps34
  go_wp2_with fail
  clear y0
  go_loopg [8, 9] (l.length - 1) (fun gk v8 v9 wr => ∃ (k : Nat) (done : List Int), gk + k = l.length ∧ 1 ≤ k ∧ v9 = .int .i64 (k : Int) ∧ done.length = k - 1 ∧ Hid (preB done (bytesD (l.drop k)) = RR) ∧ Hid (wr.ownsRow w.heap.size 5 1 v8 done.length (done.map (Value.int .u8))) ∧ Hid (Below w.heap.size w wr) ∧ w.heap.size ≤ wr.heap.size)
  case atStart => exact ⟨1, [], by omega, Nat.le_refl _, rfl, rfl, Lib.hid (by have := HR.out; rw [← List.drop_one] at this; cases hb : bytesD (l.drop 1) <;> (rw [hb] at this; simpa [preB] using this)), Lib.hid ⟨rfl, .inl ⟨rfl, rfl⟩⟩, Lib.hid (Below.refl _ _), Nat.le_refl _⟩
  case round =>
    obtain ⟨k, done, hk, hk1, rfl, hdl, HS, HO, HB, hsz⟩ := hrel
    by_cases e1 : k < l.length
    · have i1 : (k : Int) < (l.length : Int) := by omega
      obtain ⟨x, hx⟩ : ∃ x, l[k]? = some x := ⟨_, List.getElem?_eq_getElem e1⟩
      have hc := (HB.out.cell (p := ⟨blk, off + k, none⟩) hblk).trans (HWD.out k x hx)
      have hblk' : blk < wr.heap.size := by omega
      have hxl := (HL.out.each x (List.mem_of_getElem? hx)).2
      have HN := Lib.hid (numR_c x (by omega))
      have HX := Lib.hid hx
      clear hx
      go_wp2_with fail
      refine (HN.out _).mono ?_
      rintro e w2 ⟨hw2, n, rfl, hn⟩
      have hw2 := hw2.symm
      subst hw2
      cases hnf : numF x with
      | none =>
        obtain rfl : RR = .error 41 := by rw [← HS.out, bytesD_stop HX.out (.inl hnf)]
        clear HS hn hnf HN
        rw [show (none : Option Int).isSome = false from rfl]
        go_wp2_with fail
        refine bodyPost_ret (v := .tuple #[.slice none 0 0, .int .i64 41]) (by simp [results, Tryz.results34, go_sem]) rfl ⟨HB.out, rfl⟩
      | some v =>
        obtain rfl := hn v hnf
        have HNF := Lib.hid hnf
        rw [show (some n : Option Int).isSome = true from rfl]
        clear hn hnf HN
        by_cases c1 : n < 0
        · obtain rfl : RR = .error 41 := by rw [← HS.out, bytesD_stop HX.out (.inr ⟨n, HNF.out, .inl c1⟩)]
          clear HS
          go_wp2_with fail
          refine bodyPost_ret (v := .tuple #[.slice none 0 0, .int .i64 41]) (by simp [results, Tryz.results34, go_sem]) rfl ⟨HB.out, rfl⟩
        · by_cases c2 : 255 < n
          · obtain rfl : RR = .error 41 := by rw [← HS.out, bytesD_stop HX.out (.inr ⟨n, HNF.out, .inr c2⟩)]
            clear HS
            go_wp2_with fail
            refine bodyPost_ret (v := .tuple #[.slice none 0 0, .int .i64 41]) (by simp [results, Tryz.results34, go_sem]) rfl ⟨HB.out, rfl⟩
          · have HS2 := Lib.hid (show preB (done ++ [n]) (bytesD (l.drop (k + 1))) = RR by rw [← HS.out, bytesD_on HX.out HNF.out (by omega)])
            have hwn : IntKind.u8.wrap n = n := IntWalk.u8_in _ (by omega)
            clear HS
            go_wp2_with (first | (at_builtin; refine wpList_append_own _ rfl _ _ 23 rfl w.heap.size 5 i0 _ 1 1 Tryz.underlying23 hi hz0 hz1 hz2 rfl (by decide) _ _ _ rfl (HO.out.alloc _) _ 1 1 [.int .u8 n] rfl rfl (cell_one_new _ _ _) (by simp [Value.oneCell']) (by unfold maxLen; omega) (by omega) (by first | (simp; done) | (simp; omega)) ?_; intro v4 w4 own4 gr4 _))
            go_roundg (gk - 1)
            case measure => omega
            case rel =>
              obtain ⟨hB4, hs4⟩ := own_nextA HB.out hsz HO.out gr4
              exact ⟨k + 1, done ++ [n], by omega, by omega, by go_num, by simp; omega, HS2, Lib.hid (by simpa using own4), Lib.hid hB4, hs4⟩
    · have i1 : ¬ (k : Int) < (l.length : Int) := by omega
      obtain rfl : RR = .ok done := by rw [← HS.out, bytesD_end (by omega)]
      clear HS
      go_wp2_with fail
      refine bodyPost_ret (v := .tuple #[_, .int .i64 0]) (by simp [results, Tryz.results34, go_sem]) rfl ⟨HB.out, _, rfl, HO.out⟩
set_option maxHeartbeats 8000000 in
theorem laidR_word (aol : Option Addr) (capl : Nat) (lb : List (Wd × Int)) (ao : Option Addr) (cap : Nat) (l : List Wd) (a : Int) (w : World) (hI : PairsIn labA w aol lb) (hll : lb.length ≤ 100000) (hlc : lb.length ≤ capl) (hlm : capl ≤ maxLen) (hlb : ∀ p ∈ lb, 0 ≤ p.2 ∧ p.2 ≤ 4096)
    (hl : LnOk w ao l cap) (hne : l ≠ []) (hln : l.length ≤ 10000) (a0 : 0 ≤ a) (a1 : a ≤ 4096) (h : l.headD [] = wWord) :
    Calls Tryz.prog 34 #[.slice aol lb.length capl, .slice ao l.length cap, .int .i64 a] w (LaidQ (laidD lb l a) w) := by
  obtain ⟨i0, hi, hz0, hz1, hz2⟩ := info_parts Isa.Tryz.infoB
  obtain ⟨x0, hx0, hxh⟩ : ∃ x, l[0]? = some x ∧ l.headD [] = x := by
    cases l with
    | nil => exact absurd rfl hne
    | cons y r => exact ⟨y, rfl, rfl⟩
  obtain ⟨blk, off, rfl, hblk, y0⟩ := wd_at hl.inn hx0
  rw [Nat.add_zero] at y0
  have hle := hl.le
  have hcap := hl.cap
  have hl0 : 0 < l.length := (List.getElem?_eq_some_iff.1 hx0).1
  have j0 : (0 : Int) < (l.length : Int) := by omega
  have HL := Lib.hid hl
  have HP := Lib.hid hI
  have HWD := Lib.hid (fun (k : Nat) (x : Wd) (h : l[k]? = some x) => (show w.cell? ⟨blk, off + k, none⟩ = some (.string ⟨x.toArray⟩) by
    obtain ⟨b2, o2, he, -, hc⟩ := wd_at HL.out.inn h
    cases he
    exact hc))
  obtain ⟨RR, hRR⟩ : ∃ RR, laidD lb l a = RR := ⟨_, rfl⟩
  rw [hRR]
  unfold laidD at hRR
  have e_byte : (x0 == ([46, 98, 121, 116, 101] : List UInt8)) = false := by rw [← hxh, h]; decide
  have e_word : (x0 == ([46, 119, 111, 114, 100] : List UInt8)) = true := by rw [← hxh, h]; decide
  rw [if_neg (by rw [h]; decide), if_pos h] at hRR
  have HR := Lib.hid hRR
  clear hRR hx0 hxh hl hI h
  go_enter Tryz.func34, Tryz.ntmps34
  go_wp2_with fail
  clear y0
  go_loopg [8, 12] (l.length - 1) (fun gk v8 v12 wr => ∃ (k : Nat) (done : List Int), gk + k = l.length ∧ 1 ≤ k ∧ v12 = .int .i64 (k : Int) ∧ done.length = 4 * (k - 1) ∧ Hid (preB done (wordsD lb (l.drop k)) = RR) ∧ Hid (wr.ownsRow w.heap.size 5 1 v8 done.length (done.map (Value.int .u8))) ∧ Hid (Below w.heap.size w wr) ∧ w.heap.size ≤ wr.heap.size)
  case atStart => exact ⟨1, [], by omega, Nat.le_refl _, rfl, rfl, Lib.hid (by have := HR.out; rw [← List.drop_one] at this; cases hb : wordsD lb (l.drop 1) <;> (rw [hb] at this; simpa [preB] using this)), Lib.hid ⟨rfl, .inl ⟨rfl, rfl⟩⟩, Lib.hid (Below.refl _ _), Nat.le_refl _⟩
  case round =>
    obtain ⟨k, done, hk, hk1, rfl, hdl, HS, HO, HB, hsz⟩ := hrel
    by_cases e1 : k < l.length
    · have i1 : (k : Int) < (l.length : Int) := by omega
      obtain ⟨x, hx⟩ : ∃ x, l[k]? = some x := ⟨_, List.getElem?_eq_getElem e1⟩
      have hc := (HB.out.cell (p := ⟨blk, off + k, none⟩) hblk).trans (HWD.out k x hx)
      have hblk' : blk < wr.heap.size := by omega
      obtain ⟨hxn, hxl⟩ := HL.out.each x (List.mem_of_getElem? hx)
      have HV := Lib.hid (valueR_c aol capl lb x wr (HP.out.below (HB.out.mono (Nat.le_refl _))) hll hlc hlm hxn (by omega) hlb)
      have HX := Lib.hid hx
      clear hx
      go_wp2_with fail
      refine HV.out.mono ?_
      rintro e w2 ⟨rfl, hw2⟩
      have hw2 := hw2.symm
      subst hw2
      cases hvd : valueD lb x with
      | error er =>
        obtain rfl : RR = .error er := by rw [← HS.out, wordsD_stop HX.out hvd]
        have hne2 : (er != 0) = true := by rcases value_err hvd with h | h <;> (rw [h]; rfl)
        clear HS hvd HV
        rw [show valV (.error er) = .tuple #[.int .u32 0, .int .i64 er] from rfl]
        go_wp2_with fail
        refine bodyPost_ret (v := .tuple #[.slice none 0 0, .int .i64 er]) (by simp [results, Tryz.results34, go_sem]) rfl ⟨HB.out, rfl⟩
      | ok v =>
        have HS2 := Lib.hid (show preB (done ++ leN (v % 4294967296) 4) (wordsD lb (l.drop (k + 1))) = RR by rw [← HS.out, wordsD_on HX.out hvd, le4_is])
        have n0 := Int.emod_nonneg v (show (4294967296 : Int) ≠ 0 by decide)
        have n1 := Int.emod_lt_of_pos v (show (0 : Int) < 4294967296 by decide)
        clear HS hvd HV
        rw [show valV (.ok v) = .tuple #[.int .u32 (v % 4294967296), .int .i64 0] from rfl]
        generalize v % 4294967296 = n at HS2 n0 n1 ⊢
        obtain ⟨G, hG⟩ : ∃ G, G = gk := ⟨_, rfl⟩
        rw [← hG] at hk
        go_wp2_with fail
        go_loopg [8, 13, 15] 4 (fun gj v8 v13 v15 wq => ∃ (j : Nat) (m : Int) (o : List Int), gj + j = 4 ∧ v15 = .int .i64 (j : Int) ∧ v13 = .int .u32 m ∧ 0 ≤ m ∧ m < 4294967296 ∧ o.length = j ∧ Hid (o ++ leN m gj = leN n 4) ∧ Hid (wq.ownsRow w.heap.size 5 1 v8 (done ++ o).length ((done ++ o).map (Value.int .u8))) ∧ Hid (Below w.heap.size w wq) ∧ w.heap.size ≤ wq.heap.size)
        case atStart => exact ⟨0, n, [], rfl, rfl, rfl, n0, n1, rfl, Lib.hid rfl, Lib.hid (by simpa using HO.out), HB, hsz⟩
        case round =>
          obtain ⟨j, m, o, hj, rfl, rfl, m0, m1, hol, HM, HO2, HB2, hsz2⟩ := hrel
          have hdo : (done ++ o).length = done.length + j := by simp [hol]
          by_cases c1 : j < 4
          · have d1 : (j : Int) < 4 := by omega
            obtain ⟨g', rfl⟩ : ∃ g', gk = g' + 1 := ⟨gk - 1, by omega⟩
            have ht : m.tmod 256 = m % 256 := Int.tmod_eq_emod_of_nonneg m0
            have hd : m.tdiv 256 = m / 256 := Int.tdiv_eq_ediv_of_nonneg m0
            have hw1 : IntKind.u32.wrap (m % 256) = m % 256 := IntWalk.u32_in _ (by omega)
            have hw2 : IntKind.u8.wrap (m % 256) = m % 256 := IntWalk.u8_in _ (by omega)
            have hw3 : IntKind.u32.wrap (m / 256) = m / 256 := IntWalk.u32_in _ (by omega)
            go_wp2_with (first | (at_builtin; refine wpList_append_own _ rfl _ _ 23 rfl w.heap.size 5 i0 _ 1 1 Tryz.underlying23 hi hz0 hz1 hz2 rfl (by decide) _ _ _ rfl (HO2.out.alloc _) _ 1 1 [.int .u8 (m % 256)] rfl rfl (cell_one_new _ _ _) (by simp [Value.oneCell']) (by unfold maxLen; omega) (by omega) (by first | (simp; done) | (simp; omega)) ?_; intro v4 w4 own4 gr4 _))
            go_roundg g'
            case measure => omega
            case rel =>
              obtain ⟨hB4, hs4⟩ := own_nextA HB2.out hsz2 HO2.out gr4
              exact ⟨j + 1, m / 256, o ++ [m % 256], by omega, by go_num, rfl, by omega, by omega, by simp [hol], Lib.hid (by rw [← HM.out, leN]; simp), Lib.hid (by simpa [List.append_assoc, Nat.add_assoc] using own4), Lib.hid hB4, hs4⟩
          · have d1 : ¬ (j : Int) < 4 := by omega
            obtain rfl : gk = 0 := by omega
            have ho : o = leN n 4 := by have := HM.out; rw [leN, List.append_nil] at this; exact this
            clear HM
            go_wp2_with fail
            go_roundg (G - 1)
            case measure => omega
            case rel => exact ⟨k + 1, done ++ o, by omega, by omega, by go_num, by simp [hol]; omega, by rw [ho]; exact HS2, HO2, HB2, hsz2⟩
    · have i1 : ¬ (k : Int) < (l.length : Int) := by omega
      obtain rfl : RR = .ok done := by rw [← HS.out, wordsD_end (by omega)]
      clear HS
      go_wp2_with fail
      refine bodyPost_ret (v := .tuple #[_, .int .i64 0]) (by simp [results, Tryz.results34, go_sem]) rfl ⟨HB.out, _, rfl, HO.out⟩
set_option maxHeartbeats 8000000 in
theorem laidR_text (aol : Option Addr) (capl : Nat) (lb : List (Wd × Int)) (ao : Option Addr) (cap : Nat) (l : List Wd) (a : Int) (w : World) (hI : PairsIn labA w aol lb) (hll : lb.length ≤ 100000) (hlc : lb.length ≤ capl) (hlm : capl ≤ maxLen) (hlb : ∀ p ∈ lb, 0 ≤ p.2 ∧ p.2 ≤ 4096)
    (hl : LnOk w ao l cap) (hne : l ≠ []) (hln : l.length ≤ 10000) (a0 : 0 ≤ a) (a1 : a ≤ 4096) (h : l.headD [] = wText) (hl2 : l.length = 2) :
    Calls Tryz.prog 34 #[.slice aol lb.length capl, .slice ao l.length cap, .int .i64 a] w (LaidQ (laidD lb l a) w) := by
  obtain ⟨i0, hi, hz0, hz1, hz2⟩ := info_parts Isa.Tryz.infoB
  obtain ⟨x0, hx0, hxh⟩ : ∃ x, l[0]? = some x ∧ l.headD [] = x := by
    cases l with
    | nil => exact absurd rfl hne
    | cons y r => exact ⟨y, rfl, rfl⟩
  obtain ⟨blk, off, rfl, hblk, y0⟩ := wd_at hl.inn hx0
  rw [Nat.add_zero] at y0
  have hle := hl.le
  have hcap := hl.cap
  have hl0 : 0 < l.length := (List.getElem?_eq_some_iff.1 hx0).1
  have j0 : (0 : Int) < (l.length : Int) := by omega
  have HL := Lib.hid hl
  have HP := Lib.hid hI
  have HWD := Lib.hid (fun (k : Nat) (x : Wd) (h : l[k]? = some x) => (show w.cell? ⟨blk, off + k, none⟩ = some (.string ⟨x.toArray⟩) by
    obtain ⟨b2, o2, he, -, hc⟩ := wd_at HL.out.inn h
    cases he
    exact hc))
  obtain ⟨RR, hRR⟩ : ∃ RR, laidD lb l a = RR := ⟨_, rfl⟩
  rw [hRR]
  unfold laidD at hRR
  have e_byte : (x0 == ([46, 98, 121, 116, 101] : List UInt8)) = false := by rw [← hxh, h]; decide
  have e_word : (x0 == ([46, 119, 111, 114, 100] : List UInt8)) = false := by rw [← hxh, h]; decide
  have e_text : (x0 == ([46, 116, 101, 120, 116] : List UInt8)) = true := by rw [← hxh, h]; decide
  rw [if_neg (by rw [h]; decide), if_neg (by rw [h]; decide), if_pos h] at hRR
  obtain ⟨y, hy, hyd⟩ : ∃ y, l[1]? = some y ∧ l.getD 1 [] = y := ⟨_, List.getElem?_eq_getElem (by omega), by simp [List.getD, List.getElem?_eq_getElem (show 1 < l.length by omega)]⟩
  have i1 : (1 : Int) < (l.length : Int) := by omega
  rw [hyd] at hRR
  have HR := Lib.hid hRR
  have hyl := (HL.out.each y (List.mem_of_getElem? hy)).2
  have y1 := HWD.out 1 y hy
  have zy := ba_size y
  have eK := Lib.hid fun (k : Nat) (x : UInt8) (h : y[k]? = some x) => ba_get y k x h
  generalize hsy : (⟨y.toArray⟩ : ByteArray) = sy at y1 zy eK
  have h2a : 1 < l.length := by omega
  clear hRR hx0 hxh hl hI h hlb hy hyd hsy hl2
  go_enter Tryz.func34, Tryz.ntmps34
  go_wp2_with fail
  clear y0
  go_loopg [8, 16] y.length (fun gk v8 v16 wr => ∃ k : Nat, gk + k = y.length ∧ v16 = .int .i64 (k : Int) ∧ Hid (wr.ownsRow w.heap.size 5 1 v8 (textL (y.take k)).length ((textL (y.take k)).map (Value.int .u8))) ∧ Hid (Below w.heap.size w wr) ∧ w.heap.size ≤ wr.heap.size)
  case atStart => exact ⟨0, by omega, rfl, Lib.hid ⟨rfl, .inl ⟨rfl, rfl⟩⟩, Lib.hid (Below.refl _ _), Nat.le_refl _⟩
  case round =>
    obtain ⟨k, hk, rfl, HO, HB, hsz⟩ := hrel
    have y1' := (HB.out.cell (p := ⟨blk, off + 1, none⟩) hblk).trans y1
    have hblk' : blk < wr.heap.size := by omega
    have hlk : (textL (y.take k)).length = k := by unfold textL; simp; omega
    by_cases e1 : k < y.length
    · have d1 : (k : Int) < (y.length : Int) := by omega
      obtain ⟨c, hc⟩ : ∃ c, y[k]? = some c := ⟨_, List.getElem?_eq_getElem e1⟩
      have ec := eK.out k c hc
      have hcb := u8_ltA c
      have HTX0 := Lib.hid (textL_snoc y k c hc)
      have hks : k < sy.size := by omega
      clear hc
      by_cases c1 : c = 95
      · have f1 : ((c.toNat : Int) == 95) = true := by rw [c1]; rfl
        have HTX := Lib.hid (show textL (y.take (k + 1)) = textL (y.take k) ++ [32] by rw [HTX0.out, if_pos c1])
        clear HTX0 c1
        go_wp2_with (first | (at_builtin; refine wpList_append_own _ rfl _ _ 23 rfl w.heap.size 5 i0 _ 1 1 Tryz.underlying23 hi hz0 hz1 hz2 rfl (by decide) _ _ _ rfl (HO.out.alloc _) _ 1 1 [.int .u8 32] rfl rfl (cell_one_new _ _ _) (by simp [Value.oneCell']) (by unfold maxLen; omega) (by omega) (by first | (simp; done) | (simp; omega)) ?_; intro v4 w4 own4 gr4 _))
        go_roundg (gk - 1)
        case measure => omega
        case rel =>
          obtain ⟨hB4, hs4⟩ := own_nextA HB.out hsz HO.out gr4
          exact ⟨k + 1, by omega, by go_num, Lib.hid (by rw [HTX.out]; simpa [hlk] using own4), Lib.hid hB4, hs4⟩
      · have f1 : ((c.toNat : Int) == 95) = false := by
          simp only [beq_eq_false_iff_ne, ne_eq]
          intro hh
          exact c1 (UInt8.toNat_inj.1 (by simp; omega))
        by_cases c2 : c = 124
        · have f2 : ((c.toNat : Int) == 124) = true := by rw [c2]; rfl
          have HTX := Lib.hid (show textL (y.take (k + 1)) = textL (y.take k) ++ [10] by rw [HTX0.out, if_neg c1, if_pos c2])
          clear HTX0 c1 c2
          go_wp2_with (first | (at_builtin; refine wpList_append_own _ rfl _ _ 23 rfl w.heap.size 5 i0 _ 1 1 Tryz.underlying23 hi hz0 hz1 hz2 rfl (by decide) _ _ _ rfl (HO.out.alloc _) _ 1 1 [.int .u8 10] rfl rfl (cell_one_new _ _ _) (by simp [Value.oneCell']) (by unfold maxLen; omega) (by omega) (by first | (simp; done) | (simp; omega)) ?_; intro v4 w4 own4 gr4 _))
          go_roundg (gk - 1)
          case measure => omega
          case rel =>
            obtain ⟨hB4, hs4⟩ := own_nextA HB.out hsz HO.out gr4
            exact ⟨k + 1, by omega, by go_num, Lib.hid (by rw [HTX.out]; simpa [hlk] using own4), Lib.hid hB4, hs4⟩
        · have f2 : ((c.toNat : Int) == 124) = false := by
            simp only [beq_eq_false_iff_ne, ne_eq]
            intro hh
            exact c2 (UInt8.toNat_inj.1 (by simp; omega))
          have HTX := Lib.hid (show textL (y.take (k + 1)) = textL (y.take k) ++ [(c.toNat : Int)] by rw [HTX0.out, if_neg c1, if_neg c2])
          clear HTX0 c1 c2
          go_wp2_with (first | (at_builtin; refine wpList_append_own _ rfl _ _ 23 rfl w.heap.size 5 i0 _ 1 1 Tryz.underlying23 hi hz0 hz1 hz2 rfl (by decide) _ _ _ rfl (HO.out.alloc _) _ 1 1 [.int .u8 (c.toNat : Int)] rfl rfl (cell_one_new _ _ _) (by simp [Value.oneCell']) (by unfold maxLen; omega) (by omega) (by first | (simp; done) | (simp; omega)) ?_; intro v4 w4 own4 gr4 _))
          go_roundg (gk - 1)
          case measure => omega
          case rel =>
            obtain ⟨hB4, hs4⟩ := own_nextA HB.out hsz HO.out gr4
            exact ⟨k + 1, by omega, by go_num, Lib.hid (by rw [HTX.out]; simpa [hlk] using own4), Lib.hid hB4, hs4⟩
    · have d1 : ¬ (k : Int) < (y.length : Int) := by omega
      have htk : y.take k = y := List.take_of_length_le (by omega)
      obtain rfl : RR = .ok (textL y) := HR.out.symm
      rw [htk] at HO
      clear HR
      go_wp2_with fail
      refine bodyPost_ret (v := .tuple #[_, .int .i64 0]) (by simp [results, Tryz.results34, go_sem]) rfl ⟨HB.out, _, rfl, HO.out⟩
set_option maxHeartbeats 8000000 in
theorem laidR_op (aol : Option Addr) (capl : Nat) (lb : List (Wd × Int)) (ao : Option Addr) (cap : Nat) (l : List Wd) (a : Int) (w : World) (hI : PairsIn labA w aol lb) (hll : lb.length ≤ 100000) (hlc : lb.length ≤ capl) (hlm : capl ≤ maxLen) (hlb : ∀ p ∈ lb, 0 ≤ p.2 ∧ p.2 ≤ 4096)
    (hl : LnOk w ao l cap) (hne : l ≠ []) (hln : l.length ≤ 10000) (a0 : 0 ≤ a) (a1 : a ≤ 4096) (op : Int) (h1 : l.headD [] ≠ wByte) (h2 : l.headD [] ≠ wWord) (h3 : l.headD [] ≠ wText) (hop : opF (l.headD []) = some op) :
    Calls Tryz.prog 34 #[.slice aol lb.length capl, .slice ao l.length cap, .int .i64 a] w (LaidQ (laidD lb l a) w) := by
  obtain ⟨i0, hi, hz0, hz1, hz2⟩ := info_parts Isa.Tryz.infoB
  obtain ⟨x0, hx0, hxh⟩ : ∃ x, l[0]? = some x ∧ l.headD [] = x := by
    cases l with
    | nil => exact absurd rfl hne
    | cons y r => exact ⟨y, rfl, rfl⟩
  obtain ⟨blk, off, rfl, hblk, y0⟩ := wd_at hl.inn hx0
  rw [Nat.add_zero] at y0
  have hle := hl.le
  have hcap := hl.cap
  have hl0 : 0 < l.length := (List.getElem?_eq_some_iff.1 hx0).1
  have j0 : (0 : Int) < (l.length : Int) := by omega
  have HL := Lib.hid hl
  have HP := Lib.hid hI
  have HWD := Lib.hid (fun (k : Nat) (x : Wd) (h : l[k]? = some x) => (show w.cell? ⟨blk, off + k, none⟩ = some (.string ⟨x.toArray⟩) by
    obtain ⟨b2, o2, he, -, hc⟩ := wd_at HL.out.inn h
    cases he
    exact hc))
  obtain ⟨RR, hRR⟩ : ∃ RR, laidD lb l a = RR := ⟨_, rfl⟩
  rw [hRR]
  unfold laidD at hRR
  rw [if_neg h1, if_neg h2, if_neg h3, hop] at hRR
  simp only at hRR
  have e_byte : (x0 == ([46, 98, 121, 116, 101] : List UInt8)) = false := beq_eq_false_iff_ne.2 (hxh ▸ h1)
  have e_word : (x0 == ([46, 119, 111, 114, 100] : List UInt8)) = false := beq_eq_false_iff_ne.2 (hxh ▸ h2)
  have e_text : (x0 == ([46, 116, 101, 120, 116] : List UInt8)) = false := beq_eq_false_iff_ne.2 (hxh ▸ h3)
  have HI := Lib.hid (instrR_c aol capl lb (some ⟨blk, off, none⟩) cap l a op w hI hll hlc hlm hlb hl hne hln a0 a1 hop)
  rw [hRR] at HI
  clear hRR hx0 hxh hl hI h1 h2 h3 hlb hop
  go_enter Tryz.func34, Tryz.ntmps34
  go_wp2_with fail
  refine HI.out.mono ?_
  rintro e w1 ⟨hb1, hr⟩
  cases RR with
  | error er =>
    obtain rfl := hr
    go_wp2_with fail
    refine bodyPost_ret (v := .tuple #[.slice none 0 0, .int .i64 er]) (by simp [results, Tryz.results34, go_sem]) rfl ⟨hb1, rfl⟩
  | ok b =>
    obtain ⟨v, rfl, hown⟩ := hr
    have HO := Lib.hid hown
    clear hown
    go_wp2_with fail
    refine bodyPost_ret (v := .tuple #[v, .int .i64 0]) (by simp [results, Tryz.results34, go_sem]) rfl ⟨hb1, _, rfl, HO.out⟩
theorem laidR_c (aol : Option Addr) (capl : Nat) (lb : List (Wd × Int)) (ao : Option Addr) (cap : Nat) (l : List Wd) (a : Int) (w : World) (hI : PairsIn labA w aol lb) (hll : lb.length ≤ 100000) (hlc : lb.length ≤ capl) (hlm : capl ≤ maxLen) (hlb : ∀ p ∈ lb, 0 ≤ p.2 ∧ p.2 ≤ 4096)
    (hl : LnOk w ao l cap) (hne : l ≠ []) (hln : l.length ≤ 10000) (a0 : 0 ≤ a) (a1 : a ≤ 4096) (hT : l.headD [] = wText → l.length = 2) (hO : l.headD [] ≠ wByte → l.headD [] ≠ wWord → l.headD [] ≠ wText → ∃ op, opF (l.headD []) = some op) :
    Calls Tryz.prog 34 #[.slice aol lb.length capl, .slice ao l.length cap, .int .i64 a] w (LaidQ (laidD lb l a) w) := by
  by_cases h1 : l.headD [] = wByte
  · exact laidR_byte aol capl lb ao cap l a w hI hll hlc hlm hlb hl hne hln a0 a1 h1
  by_cases h2 : l.headD [] = wWord
  · exact laidR_word aol capl lb ao cap l a w hI hll hlc hlm hlb hl hne hln a0 a1 h2
  by_cases h3 : l.headD [] = wText
  · exact laidR_text aol capl lb ao cap l a w hI hll hlc hlm hlb hl hne hln a0 a1 h3 (hT h3)
  obtain ⟨op, hop⟩ := hO h1 h2 h3
  exact laidR_op aol capl lb ao cap l a w hI hll hlc hlm hlb hl hne hln a0 a1 op h1 h2 h3 hop
end Go.Proofs.YtgfljokamgbcaaaGreatDoor
