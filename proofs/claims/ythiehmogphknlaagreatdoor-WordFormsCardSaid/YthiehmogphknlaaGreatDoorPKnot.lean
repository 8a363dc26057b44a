/- The reference's parser: what factor computes. -/
import Derived.Test.YthiehmogphknlaaGreatDoorPTake
import Derived.Test.YthiehmogphknlaaGreatDoorPVx0
import Derived.Test.YthiehmogphknlaaGreatDoorPVx1
import Derived.Test.YthiehmogphknlaaGreatDoorPVx2
import Derived.Test.YthiehmogphknlaaGreatDoorPVx3
import Derived.Test.YthiehmogphknlaaGreatDoorPQbase
import Derived.Test.YthiehmogphknlaaGreatDoorPQsum
namespace Go.Proofs.YthiehmogphknlaaGreatDoor.PQ
open Go.RowKit Go.Proofs.YthiehmogphknlaaGreatDoor.G Go.Proofs.YthiehmogphknlaaGreatDoor.PA Go.Proofs.YthiehmogphknlaaGreatDoor.PT Go.Proofs.YthiehmogphknlaaGreatDoor.PV Go.Proofs.YthiehmogphknlaaGreatDoorW.PrintWords Go.Proofs.YthiehmogphknlaaGreatDoorW.PrintMore
abbrev St := ByteArray × Int × Int × Bool × Bool
/-- The digits: where they end, their value, how many they are (of the value at most seven count). -/
def fl : Nat → ByteArray → Int → Int → Int → Option (Int × Int × Int)
  | 0, _, _, _, _ => none
  | k + 1, S, At, n, d => if At < 0 then none else if At < (S.size : Int) ∧ 48 ≤ bt S At ∧ bt S At ≤ 57 then (if d < 7 then fl k S (wrap64 (At + 1)) (wrap64 (wrap64 (10 * n) + (bt S At - 48) % 256)) (wrap64 (d + 1)) else fl k S (wrap64 (At + 1)) n d) else some (At, n, d)
/-- Behind the digits. -/
def fe (k : Nat) (w : ByteArray) (minus : Bool) (n d : Int) (S : ByteArray) (At K : Int) (Lo Ba : Bool) : Option (ByteArray × St) :=
  if d < 1 ∨ 6 < d then some (⟨#[]⟩, S, At, K, Lo, true)
  else (cayleyref01_Parser_long.f S At K Lo Ba (wrap64 (n * (w.size : Int)))).bind fun b => if b.1 = true ∨ b.2.2.2.2.2 = true then some (⟨#[]⟩, b.2)
    else if minus = true then (cayleyref01_Inverse.f k w).bind fun x => (cayleyref01_copies.f k x n).bind fun y => (cayleyref01_Reduce.f k y).bind fun z => some (z, b.2)
    else (cayleyref01_copies.f k w n).bind fun y => (cayleyref01_Reduce.f k y).bind fun z => some (z, b.2)
/-- Behind '^' and '-'. -/
def ft (k : Nat) (w : ByteArray) (minus : Bool) (S : ByteArray) (At K : Int) (Lo Ba : Bool) : Option (ByteArray × St) :=
  (cayleyref01_Parser_next.f k S At K Lo Ba).bind fun b => if b.2.2.1 < 0 then none else (fl k b.2.1 b.2.2.1 0 0).bind fun c => fe k w minus c.2.1 c.2.2 b.2.1 c.1 b.2.2.2.1 b.2.2.2.2.1 b.2.2.2.2.2
/-- Behind '^'. -/
def fm (k : Nat) (w : ByteArray) (S : ByteArray) (At K : Int) (Lo Ba : Bool) : Option (ByteArray × St) :=
  (cayleyref01_Parser_next.f k S At K Lo Ba).bind fun b => if b.1 = 45 then (cayleyref01_Parser_take.f k b.2.1 b.2.2.1 b.2.2.2.1 b.2.2.2.2.1 b.2.2.2.2.2 45).bind fun c => ft k w true c.1 c.2.1 c.2.2.1 c.2.2.2.1 c.2.2.2.2
    else ft k w false b.2.1 b.2.2.1 b.2.2.2.1 b.2.2.2.2.1 b.2.2.2.2.2
/-- Is there a power? -/
def fp (t : Bool) (k : Nat) (w : ByteArray) (S : ByteArray) (At K : Int) (Lo Ba : Bool) : Option (ByteArray × St) :=
  if t = true then some (w, S, At, K, Lo, Ba) else (cayleyref01_Parser_take.f k S At K Lo Ba 94).bind fun c => fm k w c.1 c.2.1 c.2.2.1 c.2.2.2.1 c.2.2.2.2
def cayleyref01_Parser_factor.f (BF : Nat → ByteArray → Int → Int → Bool → Bool → Int → Option (ByteArray × ByteArray × Int × Int × Bool × Bool)) (k : Nat) (S : ByteArray) (At K : Int) (Lo Ba : Bool) (d : Int) : Option (ByteArray × ByteArray × Int × Int × Bool × Bool) :=
  (BF k S At K Lo Ba d).bind fun b => if b.2.2.2.2.2 = true then fp true k b.1 b.2.1 b.2.2.1 b.2.2.2.1 b.2.2.2.2.1 b.2.2.2.2.2
    else (cayleyref01_Parser_next.f k b.2.1 b.2.2.1 b.2.2.2.1 b.2.2.2.2.1 b.2.2.2.2.2).bind fun c => fp (c.1 != 94 || decide ((c.2.1.size : Int) ≤ c.2.2.1)) k b.1 c.2.1 c.2.2.1 c.2.2.2.1 c.2.2.2.2.1 c.2.2.2.2.2
end Go.Proofs.YthiehmogphknlaaGreatDoor.PQ
namespace Go.Proofs.YthiehmogphknlaaGreatDoor.PQ
open Go.RowKit Go.Proofs.YthiehmogphknlaaGreatDoor.G Go.Proofs.YthiehmogphknlaaGreatDoor.PA Go.Proofs.YthiehmogphknlaaGreatDoor.PT Go.Proofs.YthiehmogphknlaaGreatDoor.PV Go.Proofs.YthiehmogphknlaaGreatDoorW.PrintWords Go.Proofs.YthiehmogphknlaaGreatDoorW.PrintMore
/-- sum, nested at most so deep. -/
def pS : Nat → Nat → ByteArray → Int → Int → Bool → Bool → Int → Option (ByteArray × ByteArray × Int × Int × Bool × Bool)
  | 0 => fun _ _ _ _ _ _ _ => none
  | n + 1 => cayleyref01_Parser_sum.f (cayleyref01_Parser_factor.f (cayleyref01_Parser_base.f (pS n)))
/-- Parse: a text of a1, k generators. -/
def parseR (k : Nat) (a0 : Int) (a1 : ByteArray) : Option (ByteArray × Int) :=
  if a0 < 1 ∨ 8 < a0 then some (⟨#[]⟩, 1)
  else (pS (a1.size + 2) k a1 0 a0 (decide (100000 < a1.size)) false 0).bind fun b => (cayleyref01_Parser_next.f k b.2.1 b.2.2.1 b.2.2.2.1 b.2.2.2.2.1 b.2.2.2.2.2).bind fun c =>
    if c.2.2.2.2.2 = true ∨ c.2.2.1 < (c.2.1.size : Int) then some (⟨#[]⟩, 4) else if c.2.2.2.2.1 = true then some (⟨#[]⟩, 2) else some (b.1, 0)
end Go.Proofs.YthiehmogphknlaaGreatDoor.PQ
