/- asm, plainly: what a text makes. -/
import Derived.Test.YtgfljokamgbcaaaGreatDoorRdG
import Derived.Test.YtgfljokamgbcaaaGreatDoorIsaE
namespace Go.Proofs.YtgfljokamgbcaaaGreatDoor
open Go.RowKit
set_option linter.unusedSimpArgs false
set_option linter.unusedVariables false

abbrev Wd := List UInt8
def blankB (c : UInt8) : Bool := c == 32 || c == 9
def cutGo : List UInt8 → List UInt8 → List Wd
  | [], cur => if cur = [] then [] else [cur]
  | c :: r, cur => if blankB c then (if cur = [] then cutGo r [] else cur :: cutGo r []) else cutGo r (cur ++ [c])
/-- A text cut at each byte x. -/
def splitC (x : UInt8) : List UInt8 → List (List UInt8)
  | [] => [[]]
  | c :: r => if c = x then [] :: splitC x r else match splitC x r with
    | w :: ws => (c :: w) :: ws
    | [] => [[c]]
def lineW (s : List UInt8) : List Wd := cutGo (s.takeWhile (· != 59)) []
def linesF (L : List UInt8) : List (List Wd) := (splitC 10 L).map lineW

def letterB (c : UInt8) : Bool := (decide (97 ≤ c.toNat) && decide (c.toNat ≤ 122)) || c == 95
def digitB (c : UInt8) : Bool := decide (48 ≤ c.toNat) && decide (c.toNat ≤ 57)
def nameB (s : Wd) : Bool := decide (1 ≤ s.length) && (decide (s.length ≤ 16) && (letterB (s.headD 0) && s.all fun c => letterB c || digitB c))
def ldiW : List UInt8 := [108, 100, 105, 32, 114, 48, 32]
def numberF (s : Wd) : Int × Bool := match readF (ldiW ++ s) with
  | .ok (_, _, _, i) => (i, true)
  | .error _ => (0, false)

/-- How far a text has been gone through. -/
structure St where
  at' : Int
  labels : List (Wd × Int)
  bytes : List Int
  marks : List (Int × Int)

def findL (l : List (Wd × Int)) (s : Wd) : Option Int := (l.find? fun p => p.1 == s).map (·.2)
def toF (again : Bool) (S : St) (t : Int) : Except Int St :=
  if 4096 < t then .error 311 else .ok { S with at' := t, bytes := if again then S.bytes ++ List.replicate (t.toNat - S.bytes.length) 0 else S.bytes }
def oneF (ws : List Wd) (low high : Int) : Except Int Int :=
  if ws.length ≠ 2 then .error 312 else
    if (numberF (ws.getD 1 [])).2 = false ∨ (numberF (ws.getD 1 [])).1 < low ∨ high < (numberF (ws.getD 1 [])).1 then .error 41 else .ok (numberF (ws.getD 1 [])).1
/-- Bytes written over others. -/
def over (l : List Int) (a : Nat) (b : List Int) : List Int := l.take a ++ b ++ l.drop (a + b.length)
def layF (again : Bool) (S : St) (n : Int) (b : List Int) : Except Int St :=
  match toF again S (S.at' + (b.length : Int)) with
  | .error e => .error e
  | .ok T => .ok (if again then { T with bytes := over T.bytes S.at'.toNat b, marks := T.marks ++ [(S.at', n)] } else T)
def valueF (again : Bool) (labels : List (Wd × Int)) (s : Wd) : Except Int Int :=
  if again = false then .ok 0 else
    if letterB (s.headD 0) then (match findL labels s with | some a => .ok a | none => .error 310)
    else if (numberF s).2 then .ok (numberF s).1 else .error 41
def bytesF (again : Bool) : List Wd → Except Int (List Int)
  | [] => .ok []
  | x :: r => if again = true ∧ ((numberF x).2 = false ∨ (numberF x).1 < 0 ∨ 255 < (numberF x).1) then .error 41 else
    match bytesF again r with
    | .error e => .error e
    | .ok l => .ok ((numberF x).1 % 256 :: l)
def le4 (v : Int) : List Int := [v % 4294967296 % 256, v % 4294967296 / 256 % 256, v % 4294967296 / 65536 % 256, v % 4294967296 / 16777216 % 256]
def wordsL (again : Bool) (labels : List (Wd × Int)) : List Wd → Except Int (List Int)
  | [] => .ok []
  | x :: r => match valueF again labels x with
    | .error e => .error e
    | .ok v => match wordsL again labels r with
      | .error e => .error e
      | .ok l => .ok (le4 v ++ l)
def textL (s : Wd) : List Int := s.map fun c => if c = 95 then 32 else if c = 124 then 10 else (c.toNat : Int)
def labelled (op : Int) : Nat := if (64 ≤ op ∧ op ≤ 71) ∨ op = 72 then 2 else if op = 32 then 3 else 0
def wrap32F (v : Int) : Int := (v + 2147483648) % 4294967296 - 2147483648
def namedF (S : St) (ws : List Wd) (op : Int) : Except Int (List Wd) :=
  if labelled op = 0 ∨ ws.length ≠ labelled op ∨ letterB ((ws.getD (labelled op - 1) []).headD 0) = false then .ok ws else
    match valueF true S.labels (ws.getD (labelled op - 1) []) with
    | .error e => .error e
    | .ok v =>
      if op = 32 then .ok (ws.take (labelled op - 1) ++ [Lib.itoa v]) else
        if Isa.mayB (Isa.fm op false) 0 0 (wrap32F (v - (S.at' + (Isa.fm op false).n))) = false then .error 311
        else .ok (ws.take (labelled op - 1) ++ [Lib.itoa (v - (S.at' + (Isa.fm op false).n))])
def instrF (again : Bool) (S : St) (n : Int) (ws : List Wd) (op : Int) : Except Int St :=
  if again = false then toF false S (S.at' + (Isa.fm op false).n) else
    match namedF S ws op with
    | .error e => .error e
    | .ok l => match readF (joinF l) with
      | .error e => .error e
      | .ok (o, a, b, i) => layF true S n (Isa.encL (Isa.fm o false) o a b i)

/-- A text's first word. -/
def firstW (s : List UInt8) : Wd := s.takeWhile (· != 32)
/-- The operation of a guest's instruction, by its name. -/
def guestB (op : Int) : Bool := Isa.mayB (Isa.fm op false) 0 0 0
def opF (w : Wd) : Option Int := (nmTab.find? fun n => decide (n.word = w) && guestB n.op).map fun n => n.op
/-- The operations that have been entered, of the first k. -/
def opK (k : Nat) (w : Wd) : Option Int := ((List.range k).reverse.find? fun (j : Nat) => guestB (j : Int) && decide (firstW (showL (j : Int) 0 0 0) = w)).map fun (j : Nat) => (j : Int)

def wOrg : Wd := [46, 111, 114, 103]
def wSpace : Wd := [46, 115, 112, 97, 99, 101]
def wAlign : Wd := [46, 97, 108, 105, 103, 110]
def wByte : Wd := [46, 98, 121, 116, 101]
def wWord : Wd := [46, 119, 111, 114, 100]
def wText : Wd := [46, 116, 101, 120, 116]
def stepF (again : Bool) (S : St) (n : Int) (ws : List Wd) : Except Int St :=
  let w := ws.headD []
  if w = wOrg then (match oneF ws 0 2147483647 with | .error e => .error e | .ok v => if v < S.at' then .error 311 else toF again S v)
  else if w = wSpace then (match oneF ws 0 2147483647 with | .error e => .error e | .ok v => toF again S (S.at' + v))
  else if w = wAlign then (match oneF ws 1 64 with | .error e => .error e | .ok v => toF again S ((S.at' + v - 1) / v * v))
  else if w = wByte then (if ws.length < 2 then .error 312 else match bytesF again ws.tail with | .error e => .error e | .ok b => layF again S n b)
  else if w = wWord then (if ws.length < 2 then .error 312 else match wordsL again S.labels ws.tail with | .error e => .error e | .ok b => layF again S n b)
  else if w = wText then (if ws.length ≠ 2 then .error 312 else layF again S n (textL (ws.getD 1 [])))
  else match opF w with
    | none => .error 40
    | some op => instrF again S n ws op
/-- A line's label: the line without it. -/
def labelF (again : Bool) (S : St) (ws : List Wd) : Except Int (St × List Wd) :=
  let w := ws.headD []
  if w.getLast? = some 58 then
    (if again then .ok (S, ws.tail) else
      if (findL S.labels w.dropLast).isSome ∨ nameB w.dropLast = false then .error 310
      else .ok ({ S with labels := S.labels ++ [(w.dropLast, S.at')] }, ws.tail))
  else .ok (S, ws)
def doF (again : Bool) (S : St) (n : Int) (ws : List Wd) : Except Int St :=
  if ws = [] then .ok S else
    match labelF again S ws with
    | .error e => .error e
    | .ok (T, vs) => if vs = [] then .ok T else stepF again T n vs
def passF (again : Bool) (S : St) (n : Int) : List (List Wd) → Except (Int × Int) St
  | [] => .ok S
  | ws :: r => match doF again S (n + 1) ws with
    | .error e => .error (n + 1, e)
    | .ok T => passF again T (n + 1) r
def longB (L : List UInt8) : Bool := decide (8192 < L.length) || decide (512 < L.count 10 + (if L ≠ [] ∧ L.getLast? ≠ some 10 then 1 else 0))
def asmF (L : List UInt8) : Except (Int × Int) St :=
  if longB L then .error (0, 3) else
    match passF false ⟨0, [], [], []⟩ 0 (linesF L) with
    | .error e => .error e
    | .ok S => passF true { S with at' := 0 } 0 (linesF L)
end Go.Proofs.YtgfljokamgbcaaaGreatDoor
