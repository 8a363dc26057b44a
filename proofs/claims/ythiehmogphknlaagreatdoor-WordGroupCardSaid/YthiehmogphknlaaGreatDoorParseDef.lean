/- What the parser of package word does, as plain functions on lists of bytes: 'none': the rounds are used up; 'some none': the parser leaves by its panic. -/
import Derived.Test.YthiehmogphknlaaGreatDoorPure3
import Derived.Lib.TrimByte
import Derived.Lib.Atoi
namespace Go.Proofs.YthiehmogphknlaaGreatDoor.Parse
open Go.Proofs.YthiehmogphknlaaGreatDoor.G Go.Proofs.YthiehmogphknlaaGreatDoor.Free Go.Proofs.YthiehmogphknlaaGreatDoor.Pure1

abbrev Res (α : Type) := Option (Option (α × List UInt8 × Bool))
def Res.bind {α β : Type} (r : Res α) (f : α → List UInt8 → Bool → Res β) : Res β :=
  match r with | none => none | some none => some none | some (some (a, l, o)) => f a l o

def trimL (l : List UInt8) : List UInt8 := Lib.trimLeftB l 32
/-- The byte ahead; 0 at the end. -/
def hdC (l : List UInt8) : Int := match l with | [] => 0 | c :: _ => (c.toNat : Int)
def digs (l : List UInt8) : List UInt8 := l.takeWhile fun c => decide (48 ≤ c.toNat) && decide (c.toNat ≤ 57)
def over (n : Nat) (o : Bool) : Bool := o || decide (100000 < n)

/-- expect: the byte c (not 0), behind blanks. -/
def expectP (c : Int) (l : List UInt8) : Option (List UInt8) := if hdC (trimL l) ≠ c ∨ c = 0 then none else some (trimL l).tail
/-- exponent. -/
def expoP (l : List UInt8) : Option (Int × List UInt8) :=
  let m := hdC (trimL l) = 45
  let l1 := trimL (if m then (trimL l).tail else trimL l)
  if (digs l1).length < 1 ∨ 6 < (digs l1).length then none
  else some (if m then -(((Lib.atoi (digs l1)).getD 0)) else (Lib.atoi (digs l1)).getD 0, l1.drop (digs l1).length)

def factorP (base : List UInt8 → Bool → Res (List UInt8)) (l : List UInt8) (o : Bool) : Res (List UInt8) :=
  (base l o).bind fun w l o =>
    if hdC (trimL l) ≠ 94 then some (some (w, trimL l, o))
    else match expoP (trimL l).tail with
      | none => some none
      | some (n, l) =>
        if over (w.length * n.natAbs) o = true then some (some ([], l, true))
        else match powL w n with
          | none => some (some ([], l, o))
          | some x => some (some (x, l, o))

/-- base, over the reading of what stands in brackets. -/
def baseP (sum : Int → List UInt8 → Bool → Res (List UInt8)) (k depth : Int) (l : List UInt8) (o : Bool) : Res (List UInt8) :=
  let t := trimL l
  let c := hdC t
  let o1 := o || decide (20 < depth)
  if c = 49 then some (some ([], t.tail, o))
  else if c = 40 then (sum (depth + 1) t.tail o1).bind fun w l o => match expectP 41 l with | none => some none | some l => some (some (w, l, o))
  else if c = 91 then (sum (depth + 1) t.tail o1).bind fun u l o => match expectP 44 l with
    | none => some none
    | some l => (sum (depth + 1) l o).bind fun v l o => match expectP 93 l with
      | none => some none
      | some l =>
        if over (2 * (u.length + v.length)) o = true then some (some ([], l, true))
        else some (some (red (u ++ v ++ inv u ++ inv v), l, o))
  else if c ≠ 0 ∧ 0 ≤ idx c ∧ idx c < 2 * k then some (some (t.take 1, t.tail, o))
  else some none

/-- Does the sum end at this byte? -/
def stopC (c : Int) : Bool := c == 0 || c == 41 || c == 93 || c == 44
def loopP (fac : List UInt8 → Bool → Res (List UInt8)) : Nat → List (List UInt8) → Nat → List UInt8 → Bool → Res (List UInt8)
  | 0, _, _, _, _ => none
  | f + 1, ws, n, l, o =>
    if stopC (hdC l) = true then some (some (red ws.flatten, l, o))
    else (fac l o).bind fun w l o =>
      if over (n + w.length) o = true then loopP fac f [] 0 (trimL l) true
      else loopP fac f (ws ++ [w]) (n + w.length) (trimL l) o

def sumP (fac : List UInt8 → Bool → Res (List UInt8)) (f : Nat) (l : List UInt8) (o : Bool) : Res (List UInt8) :=
  (fac l o).bind fun w l o => loopP fac f [w] w.length (trimL l) o

/-- The whole: so many rounds. -/
def sumN (k : Int) : Nat → Int → List UInt8 → Bool → Res (List UInt8)
  | 0, _, _, _ => none
  | f + 1, depth, l, o => sumP (factorP (baseP (sumN k f) k depth)) f l o

def parseN (f : Nat) (k : Int) (l : List UInt8) : Option (List UInt8 × Int) :=
  if k < 1 ∨ 8 < k then some ([], 1)
  else match sumN k f 0 l (decide (100000 < l.length)) with
    | none => none
    | some none => some ([], 4)
    | some (some (w, l, o)) => if trimL l ≠ [] then some ([], 4) else if o = true then some ([], 2) else some (w, 0)

end Go.Proofs.YthiehmogphknlaaGreatDoor.Parse
